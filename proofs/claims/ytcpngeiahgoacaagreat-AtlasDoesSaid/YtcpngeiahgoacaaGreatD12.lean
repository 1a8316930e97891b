/- Parts of the proof, in one text: R8B, R8C, CrV, CrS, AtA, AtB, AtC. -/
import Derived.Test.YtcpngeiahgoacaaGreatD11
import Derived.Test.YtcpngeiahgoacaaGreatD8
import Derived.Test.YtcpngeiahgoacaaGreatD10
namespace Go.Proofs.YtcpngeiahgoacaaGreat
set_option linter.unusedVariables false
set_option linter.unusedSimpArgs false
set_option maxRecDepth 100000
set_option maxHeartbeats 16000000
section
open Go.RowKit Go.Maps
attribute [local irreducible] wpList Q0i
theorem Q6B {P:Program} {ops:Array Oper} {o:Oper} {a:Act} {w:World} {R:World->World->Prop} {J:World->Prop} {p:World->Value->Prop} (hgd:o.guard=none) (s x:Operand) (t:TypeId)
 (ho:o.op=.call { callee:=.builtin .append,args:=#[s,x],argTypes:=#[t,t] })
 (base:Nat) (e:TypeId) (i:TypeInfo) (z:Value) (size bytes:Nat) (ht:P.underlying t=some (.slice e)) (hi:P.info? e=some i) (hz:i.zero=some z)
 (hsize:i.size=size) (hby:i.bytes=bytes) (hzs:z.cells.size=size) (hsz:0<size)
 (v:Value) (n:Nat) (xs:List Value) (hs:a.eval s=v) (hown:w.ownsRow base e size v n xs)
 (B:Nat) (A:Option Addr) (m c:Nat) (news:List Value) (hx:a.eval x=.slice A m c) (hr:Q0d w B size A m news) (h1:∀ u∈news,u.oneCell'=true)
 (h63:n+m<=maxLen) (hbytes:(n+m)*bytes<=140737488355328) (hbase:base<=w.heap.size)
 (h:∀ v' w',w'.ownsRow base e size v' (n+m) (xs++news)->w.grownBy w' v.ownBlock->R w w'/\J w'/\p w' v'):Q3Z P ops o a w R J p:=fun K Q' hK=>by
 have hw:Region.wanted o (yielded ops a.tmps)=true:=by simp [Region.wanted,hgd]
 rw [if_pos hw];exact Q2K w s x t ho base e i z size bytes ht hi hz hsize hby hzs hsz v n xs hs hown B A m c news hx hr h1 h63 hbytes hbase fun v' w' h2 h3 _=>by
  obtain⟨q1,q2,q3⟩:=h v' w' h2 h3;exact hK v' w' q1 q2 q3
theorem Q6k {P:Program} {ops:Array Oper} {rest:List Oper} {o:Oper} {a:Act} {w:World} {Q:Exit->Act->World->Prop} (hw:Region.wanted o (yielded ops a.tmps)=true)
 (h:∀ K:Act->World->Prop,(∀ a w,wpList P ops Q rest a w->K a w)->o.wp P a w K Q):wpList P ops Q (o :: rest) a w :=
 wpList_step fun K hK=>by
  rw [if_pos hw];exact h K hK
theorem Q3c {P:Program} {ops:Array Oper} {rest:List Oper} {o:Oper} {a:Act} {w:World} {Q:Exit->Act->World->Prop} (hw:Region.wanted o (yielded ops a.tmps)=true) (ty:TypeId) (x:Operand) (ho:o.op=.load ty x)
 (g off n:Nat) (hx:a.eval x=.pointer (some ⟨g,off,none⟩)) (t:TypeId) (cs vs:Array Value) (d:TypeDesc) (hB:Blk w g t cs)
 (hu:P.underlying ty=some d) (hd:(match d with | .struct _ | .array _ _=>true | _=>false)=true) (hi:(P.info? ty).map (·.size)=some n)
 (hn:vs.size=n) (hv:∀ j,j<n->cs[off+j]?=vs[j]?)
 (h:wpList P ops Q rest (a.put o.dst (.agg vs)) w):wpList P ops Q (o :: rest) a w :=
 Q6k hw fun _ hK=>Q4f ty x ho g off n hx t cs vs d hB hu hd hi hn hv (hK _ _ h)
theorem Q5I (f:Int) (A:Option Addr) (n c:Nat) (zs:List Int) (w:World) (B:Nat) (h:Q0d w B 1 A n (zs.map vn)) (hB:B<=w.heap.size) (hn:n<=17592186044416) :
 Calls Tryz.prog 34 #[.agg (crC f A n c)] w fun e w'=>∃ A' c',e=.returned (.agg (crC f A' n c'))/\OwnN w' w.heap.size (.slice A' n c') zs/\Below w.heap.size w w':=by
 have hzn:zs.length=n:=by have:=h.1; simpa using this
 have HZN:=Lib.hid hzn;have hX:Below w.heap.size w ((w.alloc (.cells (crC f A n c) 77)).alloc (.cells #[.int .i64 0,.slice none 0 0] 77)):=((Below.refl _ _).alloc (Nat.le_refl _) _).alloc (by simp) _;have k1:Blk ((w.alloc (.cells (crC f A n c) 77)).alloc (.cells #[.int .i64 0,.slice none 0 0] 77)) w.heap.size 77 (crC f A n c):=(Blk.newAt rfl).alloc _;have k2:Blk ((w.alloc (.cells (crC f A n c) 77)).alloc (.cells #[.int .i64 0,.slice none 0 0] 77)) (w.heap.size+1) 77 (crC 0 none 0 0):=Blk.newAt (by simp);have HX:=Lib.hid hX;have K1:=Lib.hid k1;have K2:=Lib.hid k2;obtain⟨g,hg⟩:∃ g,g=w.heap.size:=⟨_,rfl⟩;obtain⟨g2,hg2⟩:∃ g,g=w.heap.size+1:=⟨_,rfl⟩;have HCI':=Lib.hid (fun(W:World) (hb:Below w.heap.size w W)=>Q4d A n c zs W B (h.below (hb.mono hB)) (by have:=hb.size; omega) hn);clear hX k1 k2 h hzn;go_enter Tryz.func34,Tryz.ntmps34
 go_upto_region 1 with fail
 generalize World.alloc (World.alloc w _) _=w1 at HX K1 K2 ⊢;rw [<- hg2] at K2 ⊢;rw [<- hg] at K1 ⊢;have hgw:w.heap.size<=g2:=by omega
 have C0:=Lib.hid (fun(W:World) (hb:Below w1.heap.size w1 W)=>(hb.cell (p:=⟨g,0,none⟩) K1.out.lt).trans ((K1.out.cell 0).trans rfl:w1.cell? ⟨g,0,none⟩=some (.int .i64 f)));have C1:=Lib.hid (fun(W:World) (hb:Below w1.heap.size w1 W)=>(hb.cell (p:=⟨g,1,none⟩) K1.out.lt).trans ((K1.out.cell 1).trans rfl:w1.cell? ⟨g,1,none⟩=some (.slice A n c)));have HCI:=Lib.hid (fun(W:World) (hb:Below w1.heap.size w1 W)=>HCI'.out W (HX.out.trans (hb.mono HX.out.size)));have hs1:=HX.out.size;clear hg hg2 HCI';refine Q0l 6 9 (fun jx W v=>match jx with | 0=>v=.pointer (some ⟨g,0,none⟩) | 1=>v=.int .i64 f | 2=>v=.pointer (some ⟨g,1,none⟩) | 3=>v=.slice A n c | 4=>∃ A' c',v=.slice A' n c'/\OwnN W w.heap.size (.slice A' n c') zs | 5=>∃ A' c',v=.agg (crC f A' n c')/\OwnN W w.heap.size (.slice A' n c') zs | _=>True) [3,4,5,6,7,8] (by kernel_rfl) (by kernel_rfl) (by kernel_rfl) (by simp) (by kernel_rfl) (fun jx=>?last) ?heads ?_
 case last =>
  match jx with
  | 0 | 1 | 2 | 3 | jx+6=>exact Q16.pure _
  | 4=>exact fun W W' v ⟨A',c',h1,h2⟩ hb=>⟨A',c',h1,h2.below_ hb⟩
  | 5=>exact fun W W' v ⟨A',c',h1,h2⟩ hb=>⟨A',c',h1,h2.below_ hb⟩
 case heads =>
  simp only [List.take_succ_cons,List.take_zero];refine⟨?_,?_,?_,?_,?_,?_,trivial⟩;all_goals intro a W hb hkp hd
  ·have e0:a.tmps[1]?.getD undef=.pointer (some ⟨g,0,none⟩):=hkp.get (by kernel_rfl) rfl;exact Q00 rfl _ (by go_simp) rfl
  ·have e0:(_:Value)=.pointer (some ⟨g,0,none⟩):=(hd 0 (by kernel_rfl)).get 3 rfl rfl;have cc:=C0.out W hb;exact Q00 rfl _ (by go_simp) rfl
  ·have e0:a.tmps[1]?.getD undef=.pointer (some ⟨g,0,none⟩):=hkp.get (by kernel_rfl) rfl;exact Q00 rfl _ (by go_simp) rfl
  ·have e0:(_:Value)=.pointer (some ⟨g,1,none⟩):=(hd 2 (by kernel_rfl)).get 5 rfl rfl;have cc:=C1.out W hb;exact Q00 rfl _ (by go_simp) rfl
  ·have e0:(_:Value)=.slice A n c:=(hd 3 (by kernel_rfl)).get 6 rfl rfl;refine Q0w rfl 87 #[.slice A n c] (by go_simp) ((HCI.out W hb).mono ?_);rintro e w' ⟨v,rfl,ho,hb'⟩;obtain⟨A',c',h1,_,_,_,_⟩:=Q0v ho;rw [HZN.out] at h1;subst h1;exact⟨_,rfl,hb',A',c',rfl,OwnN.more ho (by have:=hb.size; have:=HX.out.size; omega)⟩
  ·have e0:(_:Value)=.int .i64 f:=(hd 1 (by kernel_rfl)).get 4 rfl rfl;obtain⟨A',c',e1,h1⟩:=(hd 4 (by kernel_rfl)).get 7 rfl rfl;exact Q00 rfl (.agg (crC f A' n c')) (by go_simp; rfl) ⟨A',c',rfl,h1⟩
 intro ff W hbW hd;obtain⟨A',c',e8,ho⟩:=hd 5 (by omega) _ 8 rfl rfl;have K22:=Lib.hid (K2.out.below' hbW);have HLW:=Lib.hid (HX.out.trans (hbW.mono hs1));have HO:=Lib.hid ho;have hl2:=K2.out.lt;have HGN:=Lib.hid (fun b (hb:(Value.slice A' n c').ownBlock=some b)=>(show b≠g2 from fun e=>Q09 ho K22.out (by decide) (by rw [hb,e])));clear hd hbW ho;simp only [Q0H,List.drop_succ_cons,List.drop_zero,e8];try simp only [Act.put,sA1,sA2,sA3]
 go_wp2_with (refine Q01 (o:=⟨none,_,_,_,_,_⟩) rfl 77 (.tmp 2) (.tmp 8) rfl g2 0 (crC f A' n c') rfl rfl 77 _ K22.out (Q1V _ _ _ _) (by simp [crC]) (Q1p _ _ _ _) ?_; intro w7 hT7 hD7; rw [Q3d] at hD7)
 refine bodyPost_ret (Q0h rfl _ _ g2 2 77 _ _ rfl hD7 Tryz.underlying77 rfl rfl rfl) rfl ⟨A',c',rfl,HO.out.keep_ fun b hb=>hT7.block b (HGN.out b hb),hT7.below HLW.out hgw⟩
theorem Q9S (f:Int) (A:Option Addr) (n c:Nat) (zs:List Int) (z:Int) (w:World) (B:Nat) (h:Q0d w B 1 A n (zs.map vn)) (hB:B<=w.heap.size) (hn:n<=17592186044416) :
 Calls Tryz.prog 108 #[.agg (crC f A n c),.int .i64 z] w fun e w'=>e=.returned (.bool (okCB f zs && decide (z∈zs)))/\Below w.heap.size w w':=by
 have HX:=Lib.hid (Q07 w (.cells (crC f A n c) 77));have HK:=Lib.hid (Blk.newAt rfl:Blk (w.alloc (.cells (crC f A n c) 77)) w.heap.size 77 (crC f A n c));have HCK:=Lib.hid (fun(W:World) (hb:Below w.heap.size w W)=>Q33 f A n c zs W B (h.below (hb.mono hB)) (by have:=hb.size; omega) hn);have HIN:=Lib.hid (fun(W:World) (hb:Below w.heap.size w W)=>Q59 A n c zs z W B (h.below (hb.mono hB)) hn);obtain⟨q,hq⟩:∃ q,q=okCB f zs:=⟨_,rfl⟩;obtain⟨r,hr⟩:∃ q,q=decide (z∈zs):=⟨_,rfl⟩;rw [<- hr,<- hq];rw [<- hq] at HCK;rw [<- hr] at HIN;obtain⟨D,hD⟩:∃ D,D=crC f A n c:=⟨_,rfl⟩;have HDE:=Lib.hid hD;have HDS:=Lib.hid (show D.size=2 by rw [hD]; rfl);rw [<- hD] at HK HX HCK ⊢;clear h hq hr hD;obtain⟨g,hg⟩:∃ g,g=w.heap.size:=⟨_,rfl⟩;go_enter Tryz.func108,Tryz.ntmps108
 go_upto_region 1 with fail
 generalize World.alloc w _=w1 at HX HK ⊢;rw [<- hg] at HK ⊢;have HC1:=Lib.hid (HCK.out w1 HX.out);have hs1:=HX.out.size;clear hg HCK;go_wp2_with (refine Q03 (o:=⟨some 5,_,_,_,_,_⟩) rfl 77 (.tmp 2) rfl g 0 2 rfl 77 _ D _ HK.out Tryz.underlying77 rfl rfl HDS.out (fun _ _=>by rw [Nat.zero_add]) ?_)
 refine HC1.out.mono ?_;rintro _ w2 ⟨rfl,hb2⟩;have HB2:=Lib.hid (HX.out.trans (hb2.mono hs1));have c1:w2.cell? ⟨g,1,none⟩=some (.slice A n c):=((HK.out.below' hb2).cell 1).trans (by rw [HDE.out]; rfl);clear hb2 HC1;cases q with
 | false =>
  simp only [Bool.false_eq_true,if_false,Bool.false_and];go_wp2_with fail
  go_ret
  exact⟨rfl,HB2.out⟩
 | true =>
  simp only [if_true,Bool.true_and];go_wp2_with fail
  refine(HIN.out w2 HB2.out).mono ?_;rintro _ _ ⟨rfl,rfl⟩;go_wp2_with fail
  go_ret
  exact⟨rfl,HB2.out⟩
theorem Q8W (f:Nat) (A:Option Addr) (n c:Nat) (zs:List Int) (o:Int) (w:World) (B:Nat) (h:Q0d w B 1 A n (zs.map vn)) (hB:B<=w.heap.size) (hok:OkC f zs) :
 Calls Tryz.prog 165 #[.agg (crC (f:Int) A n c),.int .i64 o] w fun e w'=>∃ v,e=.returned v/\OwnN w' w.heap.size v (Q24 zs o)/\Below w.heap.size w w':=by
 have hzn:zs.length=n:=by have:=h.1; simpa using this
 have hsh:=hok.short;have HX:=Lib.hid (Q07 w (.cells (crC (f:Int) A n c) 77));have HK:=Lib.hid (Blk.newAt rfl:Blk (w.alloc (.cells (crC (f:Int) A n c) 77)) w.heap.size 77 (crC (f:Int) A n c));have HCK:=Lib.hid (fun(W:World) (hb:Below w.heap.size w W)=>(by
  have:=Q33 (f:Int) A n c zs W B (h.below (hb.mono hB)) (by have:=hb.size; omega) (by omega);rw [Q3F hok,if_pos rfl] at this;exact this:Calls Tryz.prog 136 #[.agg (crC (f:Int) A n c)] W fun e w'=>e=.returned (.int .i64 0)/\Below W.heap.size W w'))
 have H:=Lib.hid (h.more hB);have HZN:=Lib.hid hzn;have hn7:n<=7:=by omega
 obtain⟨i0,hi0,hz0,hz1,hz2⟩:=info_parts Q3I;obtain⟨D,hD⟩:∃ D,D=crC (f:Int) A n c:=⟨_,rfl⟩;have HDE:=Lib.hid hD;have HDS:=Lib.hid (show D.size=2 by rw [hD]; rfl);rw [<- hD] at HK HX HCK ⊢;clear h hB hD hzn hsh;obtain⟨g,hg⟩:∃ g,g=w.heap.size:=⟨_,rfl⟩;go_enter Tryz.func165,Tryz.ntmps165
 go_upto_region 1 with fail
 generalize World.alloc w _=w1 at HX HK ⊢;rw [<- hg] at HK ⊢;have hgw:w.heap.size<=g:=by omega
 clear hg;go_wp2_with fail
 go_loopw [5,6] (fun ov iv wr=>∃ i:Nat,i<=n/\iv=.int .i64 i/\OwnN wr w.heap.size ov (Q24 (zs.take i) o)/\Blk wr g 77 D/\Below w.heap.size w wr) (fun _ iv _=>n - (intOf iv).toNat)
 case atStart=>exact⟨0,by omega,rfl,OwnN.nil_ _ _,HK.out,HX.out⟩
 clear HX HK;case round =>
  obtain⟨i,hi,rfl,hown,hblk,hlow⟩:=hrel;have HOW:=Lib.hid hown;have HBK:=Lib.hid hblk;have HLO:=Lib.hid hlow;have hlsz:=hlow.size;have c1:wr.cell? ⟨g,1,none⟩=some (.slice A n c):=(hblk.cell 1).trans (by rw [HDE.out]; rfl);by_cases hin:i<n
  ·obtain⟨ad,u,hA,hadb,hxi,hcell⟩:=(H.out.below hlow).at_ hin;have hil:i<zs.length:=by have:=HZN.out; omega
   have hu:u=.int .i64 zs[i]:=by
    rw [List.getElem?_map,List.getElem?_eq_getElem hil] at hxi;injection hxi with hxi
    exact hxi.symm
   subst hu;have htk:zs.take (i+1)=zs.take i++[zs[i]]:=List.take_succ_eq_append_getElem hil;have HTK:=Lib.hid htk;generalize zs[i]=z at htk hcell HTK;have hinI:(i:Int)<(n:Int):=by omega
   have HC1:=Lib.hid (HCK.out wr hlow);have HAD:=Lib.hid hcell;subst hA;clear hxi hcell hown hblk hlow htk;go_wp2_with (refine Q3c (o:=⟨some 13,_,_,_,_,_⟩) (Q04 (j:=5) (d:=12) (b:=true) rfl rfl (by first | rfl | (simp; omega))) 77 (.tmp 2) rfl g 0 2 rfl 77 _ D _ HBK.out Tryz.underlying77 rfl rfl HDS.out (fun _ _=>by rw [Nat.zero_add]) ?_)
   refine HC1.out.mono ?_;rintro _ w2 ⟨rfl,hb2⟩;have hs2:=hb2.size;have hcell2:w2.cell? (ad.add i)=some (.int .i64 z):=(hb2.cell (by rw [Q0e]; omega)).trans HAD.out;have c12:w2.cell? ⟨g,1,none⟩=some (.slice (some ad) n c):=(hb2.cell (p:=⟨g,1,none⟩) HBK.out.lt).trans c1;have HBK2:=Lib.hid (HBK.out.below' hb2);have HLO2:=Lib.hid (HLO.out.trans (hb2.mono hlsz));have HOW2:=Lib.hid (HOW.out.below_ hb2);clear hb2 HC1 c1;by_cases hzo:z=o
   ·have hzb:(z != o)=false:=by simpa using hzo
    have hdr:Q24 (zs.take (i+1)) o=Q24 (zs.take i) o:=by
     rw [HTK.out];unfold Q24;rw [List.filter_append];simp [hzo]
    have HDR:=Lib.hid hdr;clear hzo hdr;go_wp2_with fail
    go_roundw
    case rel=>exact⟨i+1,by omega,by go_num,by rw [HDR.out]; exact HOW2.out,HBK2.out,HLO2.out⟩
    case measure=>simp [intOf]; omega
   ·have hzb:(z != o)=true:=by simpa using hzo
    have hdr:Q24 (zs.take (i+1)) o=Q24 (zs.take i) o++[z]:=by
     rw [HTK.out];unfold Q24;rw [List.filter_append];simp [hzo]
    have HDR:=Lib.hid hdr;have hdl:(Q24 (zs.take i) o).length<=i:=by
     unfold Q24;exact Nat.le_trans (List.length_filter_le _ _) (by rw [List.length_take]; omega)
    clear hzo hdr;have HR3:=Lib.hid (Q1m w2 #[.int .i64 z] 3);have HW:=Lib.hid (show (w2.alloc (.cells #[.int .i64 z] 3)).ownsRow w.heap.size 3 1 _ (Q24 (zs.take i) o).length ((Q24 (zs.take i) o).map vn) from World.ownsRow.alloc HOW2.out (.cells #[.int .i64 z] 3));obtain⟨Ao,co,hov,_⟩:=Q0v HOW2.out;obtain⟨dl,hdle⟩:∃ dl,dl=Q24 (zs.take i) o:=⟨_,rfl⟩;rw [<- hdle] at HW HDR hdl hov HOW2;have hsw:=HLO2.out.size;clear hdle;subst hov;go_wp2_with (at_builtin; go_must (refine Q06 _ rfl (.tmp 26) (.tmp 32) 42 rfl w.heap.size 3 i0 _ 1 8 Tryz.underlying42 hi0 hz0 hz1 hz2 rfl (by omega) _ dl.length (dl.map vn) rfl HW.out (w2.heap.size+1) (some ⟨w2.heap.size,0,none⟩) 1 1 [.int .i64 z] rfl HR3.out ?c1 ?c2 ?c3 ?c4 ?_))
    case c1=>intro u hu; rw [List.mem_singleton] at hu; subst hu; rfl
    case c2=>unfold maxLen; omega
    case c3=>omega
    case c4=>simp; omega
    intro v6 w6 hown6 hg6 hor6;have hal:=Q07 w2 (.cells #[.int .i64 z] 3);have ho6:OwnN w6 w.heap.size v6 (dl++[z]):=by
     unfold OwnN;rw [List.length_append,List.map_append];exact hown6
    have hb6:Below w.heap.size w w6:=Q0k (HLO2.out.trans (hal.mono hsw)) (by simp; omega) hg6 (fun b hb=>(Q0a HW.out hb).1);have hk6:Blk w6 g 77 D:=(hg6.block g (by have:=HBK2.out.lt; simp; omega) (fun e=>Q09 HW.out (HBK2.out.below' hal) (by decide) e.symm)).trans (HBK2.out.below' hal);have HO6:=Lib.hid ho6;have HB6:=Lib.hid hb6;have HK6:=Lib.hid hk6;clear hown6 hg6 hor6 ho6 hb6 hk6 hal;go_wp2_with fail
    go_roundw
    case rel=>exact⟨i+1,by omega,by go_num,by rw [HDR.out]; exact HO6.out,HK6.out,HB6.out⟩
    case measure=>simp [intOf]; omega
  ·obtain rfl:i=n:=by omega
   rw [List.take_of_length_le (by have:=HZN.out; omega)] at hown;have HOW3:=Lib.hid hown;have hinI:¬ (i:Int)<(i:Int):=by omega
   clear hown hblk hlow;go_wp2_with fail
   go_ret
   exact⟨_,rfl,HOW3.out,HLO.out⟩
def ofL (l:List Int) (n:Nat):List Int:=((List.range n).map (fun i:Nat=>(i:Int)+1)).filter (fun z=>decide (z∈l))
theorem ofL_yes (l:List Int) (n:Nat) (h:((n:Int)+1)∈l):ofL l (n+1)=ofL l n++[(n:Int)+1]:=by
 unfold ofL;rw [List.range_succ,List.map_append,List.filter_append];simp [h]
theorem ofL_no (l:List Int) (n:Nat) (h:¬ ((n:Int)+1)∈l):ofL l (n+1)=ofL l n:=by
 unfold ofL;rw [List.range_succ,List.map_append,List.filter_append];simp [h]
theorem ofL_len (l:List Int) (n:Nat):(ofL l n).length<=n:=by
 unfold ofL;exact Nat.le_trans (List.length_filter_le _ _) (by simp)
theorem ofL_mem (l:List Int) (n:Nat) (x:Int):x∈ofL l n <-> 1<=x/\x<=n/\x∈l:=by
 unfold ofL;rw [List.mem_filter,List.mem_map];simp only [List.mem_range,decide_eq_true_eq];constructor
 ·rintro ⟨⟨i,hi,rfl⟩,h⟩;exact⟨by omega,by omega,h⟩
 ·rintro ⟨h1,h2,h3⟩;exact⟨⟨(x - 1).toNat,by omega,by omega⟩,h3⟩
theorem ofL_pair (l:List Int) (n:Nat):(ofL l n).Pairwise (· < ·):=by
 unfold ofL;refine List.Pairwise.filter _ ?_;rw [List.pairwise_map];exact List.pairwise_lt_range.imp fun h=>by omega
theorem Q7B:∀ (a b:List Int),a.Pairwise (· < ·)->b.Pairwise (· < ·)->(∀ x,x∈a <-> x∈b)->a=b
 | [],[],_,_,_=>rfl
 | [],y :: t,_,_,h=>absurd ((h y).2 (List.mem_cons_self ..)) (by simp)
 | x :: s,[],_,_,h=>absurd ((h x).1 (List.mem_cons_self ..)) (by simp)
 | x :: s,y :: t,ha,hb,h=>by
  have pa:=List.pairwise_cons.1 ha;have pb:=List.pairwise_cons.1 hb;have hxy:x=y:=by
   rcases List.mem_cons.1 ((h x).1 (List.mem_cons_self ..)) with e | e
   ·exact e
   ·rcases List.mem_cons.1 ((h y).2 (List.mem_cons_self ..)) with e' | e'
    ·exact e'.symm
    ·have:=pb.1 x e; have:=pa.1 y e'; omega
  subst hxy;congr 1
  refine Q7B s t pa.2 pb.2 fun z=>⟨fun hz=>?_,fun hz=>?_⟩
  ·rcases List.mem_cons.1 ((h z).1 (List.mem_cons_of_mem _ hz)) with e | e
   ·have:=pa.1 z hz; omega
   ·exact e
  ·rcases List.mem_cons.1 ((h z).2 (List.mem_cons_of_mem _ hz)) with e | e
   ·have:=pb.1 z hz; omega
   ·exact e
theorem ofL_repl {f:Nat} {l:List Int} {o z:Int} (hok:OkC f l) (hg:Q3v l o z):ofL (Q24 l o++[z]) 28=Q1N l o z:=by
 have h2:=hok.repl hg.1 hg.2.1 hg.2.2.1 hg.2.2.2;refine Q7B _ _ (ofL_pair _ _) h2.pair fun x=>?_
 rw [ofL_mem,Q8Z,List.mem_append,List.mem_singleton,Q43];constructor
 ·rintro ⟨_,_,e | e⟩
  ·exact .inr e
  ·exact .inl e
 ·rintro (e | e)
  ·subst e; exact⟨hg.2.2.1,hg.2.2.2,.inr rfl⟩
  ·have:=hok.bound e.1;exact⟨by omega,by omega,.inl e⟩
theorem r8of_any (f:Int) (A:Option Addr) (n c:Nat) (l:List Int) (w:World) (B:Nat) (h:Q0d w B 1 A n (l.map vn)) (hB:B<=w.heap.size) (hn:n<=17592186044416) :
 Calls Tryz.prog 164 #[.int .i64 f,.slice A n c] w fun e w'=>∃ A' c',e=.returned (.agg (crC f A' (ofL l 28).length c'))/\OwnN w' w.heap.size (.slice A' (ofL l 28).length c') (ofL l 28)/\Below w.heap.size w w':=by
 have hX:Below w.heap.size w (w.alloc (.cells #[.int .i64 0,.slice none 0 0] 77)):=(Below.refl _ _).alloc (Nat.le_refl _) _;have k1:Blk (w.alloc (.cells #[.int .i64 0,.slice none 0 0] 77)) w.heap.size 77 (crC 0 none 0 0):=Blk.newAt rfl;have HX:=Lib.hid hX;have K1:=Lib.hid k1;have HIN:=Lib.hid (fun(z:Int) (W:World) (hb:Below w.heap.size w W)=>Q59 A n c l z W B (h.below (hb.mono hB)) hn);obtain⟨i0,hi0,hz0,hz1,hz2⟩:=info_parts Q3I;obtain⟨g4,hg4⟩:∃ g,g=w.heap.size:=⟨_,rfl⟩;clear hX k1 h hB;go_enter Tryz.func164,Tryz.ntmps164
 go_upto_region 1 with fail
 generalize World.alloc w _=w1 at HX K1 ⊢;rw [<- hg4] at K1 ⊢;have hgw4:w.heap.size<=g4:=by omega
 have hs1:=HX.out.size;clear hg4;go_upto_region 2 with(refine Q01 (o:=⟨none,_,_,_,_,_⟩) rfl 77 (.tmp 5) (.tmp 8) rfl w1.heap.size 0 (crC f none 0 0) rfl rfl 77 (crC 0 none 0 0) (Blk.newAt rfl) (Q1V _ _ _ _) (by simp [crC]) (Q1p _ _ _ _) ?_; intro w2 hT2 hD2; rw [Q3d] at hD2)
 have hb2:Below w1.heap.size w1 w2:=hT2.below ((Below.refl _ _).alloc (Nat.le_refl _) _) (Nat.le_refl _);obtain⟨g5,hg5⟩:∃ g,g=w1.heap.size:=⟨_,rfl⟩;rw [<- hg5] at hD2 ⊢;have hgw5:w.heap.size<=g5:=by omega
 have hg45:g4≠g5:=by have:=K1.out.lt; omega
 have HB2:=Lib.hid (HX.out.trans (hb2.mono hs1));have HD2:=Lib.hid hD2;have HK2:=Lib.hid (K1.out.below' hb2);clear hT2 hD2 hb2 hg5 HX K1;go_wp2_with fail
 go_loopw [6] (fun iv wr=>∃ (k:Nat) (A':Option Addr) (c':Nat),k<=28/\iv=.int .i64 ((k:Int)+1)/\Blk wr g5 77 (crC f A' (ofL l k).length c')/\OwnN wr w.heap.size (.slice A' (ofL l k).length c') (ofL l k)/\Blk wr g4 77 (crC 0 none 0 0)/\Below w.heap.size w wr) (fun iv _=>29 - (intOf iv).toNat)
 case atStart=>exact⟨0,none,0,by omega,rfl,HD2.out,OwnN.nil_ _ _,HK2.out,HB2.out⟩
 clear HD2 HK2 HB2;case round =>
  obtain⟨k,A',c',hk,rfl,hb5,hown,hb4,hlow⟩:=hrel;have HO:=Lib.hid hown;have H5:=Lib.hid hb5;have H4:=Lib.hid hb4;have HL:=Lib.hid hlow;have hls:=hlow.size;have hol:=ofL_len l k;obtain⟨p,hp⟩:∃ p,p=(ofL l k).length:=⟨_,rfl⟩;rw [<- hp] at hol;have HP:=Lib.hid hp;by_cases hk1:k<28
  ·have hkI:(k:Int)+1<=28:=by omega
   have HI:=Lib.hid (HIN.out ((k:Int)+1) wr hlow);clear hb5 hown hb4 hlow hp;by_cases hin:((k:Int)+1)∈l
   ·rw [decide_eq_true hin] at HI;have HY:=Lib.hid (ofL_yes l k hin);have c51:wr.cell? ⟨g5,1,none⟩=some (.slice A' p c'):=(H5.out.cell 1).trans (by rw [HP.out]; rfl);have HR3:=Lib.hid (Q1m wr #[.int .i64 ((k:Int)+1)] 3);have HW:=Lib.hid (show (wr.alloc (.cells #[.int .i64 ((k:Int)+1)] 3)).ownsRow w.heap.size 3 1 (.slice A' p c') p ((ofL l k).map vn) from by
     have:=World.ownsRow.alloc HO.out (.cells #[.int .i64 ((k:Int)+1)] 3);rw [<- HP.out] at this;exact this)
    clear hin;go_wp2_with fail
    refine HI.out.mono ?_;rintro _ _ ⟨rfl,rfl⟩;go_wp2_with (at_builtin; go_must (refine Q06 _ rfl (.tmp 17) (.tmp 19) 42 rfl w.heap.size 3 i0 _ 1 8 Tryz.underlying42 hi0 hz0 hz1 hz2 rfl (by omega) _ p ((ofL l k).map vn) rfl HW.out (wr.heap.size+1) (some ⟨wr.heap.size,0,none⟩) 1 1 [.int .i64 ((k:Int)+1)] rfl HR3.out ?c1 ?c2 ?c3 ?c4 ?_))
    case c1=>intro u hu; rw [List.mem_singleton] at hu; subst hu; rfl
    case c2=>unfold maxLen; omega
    case c3=>omega
    case c4=>simp; omega
    intro v6 w6 hown6 hg6 hor6;have hal:=Q07 wr (.cells #[.int .i64 ((k:Int)+1)] 3);have ho6:OwnN w6 w.heap.size v6 (ofL l (k+1)):=by
     unfold OwnN;rw [HY.out,List.length_append,List.map_append,<- HP.out];exact hown6
    have hb6:Below w.heap.size w w6:=Q0k (HL.out.trans (hal.mono hls)) (by simp; omega) hg6 (fun b hb=>(Q0a HW.out hb).1);have hk5:Blk w6 g5 77 (crC f A' (ofL l k).length c'):=(hg6.block g5 (by have:=H5.out.lt; simp; omega) (fun e=>Q09 HW.out (H5.out.below' hal) (by decide) e.symm)).trans (H5.out.below' hal);have hk4:Blk w6 g4 77 (crC 0 none 0 0):=(hg6.block g4 (by have:=H4.out.lt; simp; omega) (fun e=>Q09 HW.out (H4.out.below' hal) (by decide) e.symm)).trans (H4.out.below' hal);obtain⟨A6,c6,hv6,_⟩:=Q0v ho6;obtain⟨p6,hp6⟩:∃ p,p=(ofL l (k+1)).length:=⟨_,rfl⟩;have HP6:=Lib.hid hp6;rw [<- hp6] at hv6;subst hv6;have cc5:=(hk5.cell 1).trans (rfl:(crC f A' (ofL l k).length c')[1]?=some (.slice A' (ofL l k).length c'));have cf5:=hk5.frozen 1;have HK5:=Lib.hid hk5;have HK4:=Lib.hid hk4;have HO6:=Lib.hid ho6;have HB6:=Lib.hid hb6;clear hown6 hg6 hor6 ho6 hb6 hk5 hk4 hal hp6;go_wp2_with fail
    go_roundw
    case rel =>
     have hT:=Q0c.setCell w6 ⟨g5,1,none⟩ (.slice A6 p6 c6);refine⟨k+1,A6,c6,by omega,by go_num,?_,?_,hT.blk HK4.out hg45,hT.below HB6.out hgw5⟩
     ·have:=HK5.out.set_ 1 (.slice A6 p6 c6);rw [<- HP6.out];exact this
     ·rw [<- HP6.out];exact HO6.out.keep_ fun b hb=>hT.block b fun e=>Q09 HO6.out HK5.out (by decide) (by rw [hb,e])
    case measure=>simp [intOf]; omega
   ·rw [decide_eq_false hin] at HI;have HY:=Lib.hid (ofL_no l k hin);clear hin;go_wp2_with fail
    refine HI.out.mono ?_;rintro _ _ ⟨rfl,rfl⟩;go_wp2_with fail
    go_roundw
    case rel=>exact⟨k+1,A',c',by omega,by go_num,by rw [HY.out]; exact H5.out,by rw [HY.out]; exact HO.out,H4.out,HL.out⟩
    case measure=>simp [intOf]; omega
  ·obtain rfl:k=28:=by omega
   have hkI:¬ ((28:Nat):Int)+1<=28:=by omega
   obtain⟨D,hD⟩:∃ D,D=crC f A' (ofL l 28).length c':=⟨_,rfl⟩;rw [<- hD] at H5;have HDE:=Lib.hid hD;have HDS:=Lib.hid (show D.size=2 by rw [hD]; rfl);have HDO:=Lib.hid (show D.all (·.oneCell')=true by rw [hD]; exact Q1p _ _ _ _);have HSP:=Lib.hid (show spl (crC 0 none 0 0) 0 D.toList=D by rw [hD]; exact Q3d _ _ _ _ _ _ _ _);clear hb5 hown hb4 hlow hp hD;go_wp2_with (first
    | (refine Q03 (o:=⟨some 22,_,_,_,_,_⟩) rfl 77 (.tmp 5) rfl g5 0 2 rfl 77 _ D _ H5.out Tryz.underlying77 rfl rfl HDS.out (fun _ _=>by rw [Nat.zero_add]) ?_)
    | (refine Q01 (o:=⟨none,_,_,_,_,_⟩) rfl 77 (.tmp 4) (.tmp 22) rfl g4 0 D rfl rfl 77 _ H4.out (by rw [HDS.out]; kernel_rfl) (by rw [HDS.out]; simp [crC]) HDO.out ?_; intro w7 hT7 hD7; rw [HSP.out] at hD7))
   refine bodyPost_ret (Q0h rfl _ _ g4 2 77 _ _ rfl hD7 Tryz.underlying77 rfl rfl HDS.out) rfl ⟨A',c',by rw [HDE.out],HO.out.keep_ fun b hb=>hT7.block b fun e=>Q09 HO.out H4.out (by decide) (by rw [hb,e]),hT7.below HL.out hgw4⟩
theorem Q8b (f:Nat) (A:Option Addr) (n c:Nat) (l:List Int) (o z:Int) (w:World) (B:Nat) (h:Q0d w B 1 A n (l.map vn)) (hB:B<=w.heap.size) (hok:OkC f l) (hg:Q3v l o z) :
 Calls Tryz.prog 140 #[.agg (crC (f:Int) A n c),.int .i64 o,.int .i64 z] w fun e w'=>∃ A' c',e=.returned (.tuple #[.agg (crC (f:Int) A' n c'),.int .i64 0])/\OwnN w' w.heap.size (.slice A' n c') (Q1N l o z)/\Below w.heap.size w w':=by
 have hzn:l.length=n:=by have:=h.1; simpa using this
 have hsh:=hok.short;have hX:Below w.heap.size w ((w.alloc (.cells (crC (f:Int) A n c) 77)).alloc (.cells #[.int .i64 0,.slice none 0 0] 77)):=((Below.refl _ _).alloc (Nat.le_refl _) _).alloc (by simp) _;have k1:Blk ((w.alloc (.cells (crC (f:Int) A n c) 77)).alloc (.cells #[.int .i64 0,.slice none 0 0] 77)) w.heap.size 77 (crC (f:Int) A n c):=(Blk.newAt rfl).alloc _;have k2:Blk ((w.alloc (.cells (crC (f:Int) A n c) 77)).alloc (.cells #[.int .i64 0,.slice none 0 0] 77)) (w.heap.size+1) 77 (crC 0 none 0 0):=Blk.newAt (by simp);have HCK':=Lib.hid (fun(W:World) (hb:Below w.heap.size w W)=>(by
  have:=Q33 (f:Int) A n c l W B (h.below (hb.mono hB)) (by have:=hb.size; omega) (by omega);rw [Q3F hok,if_pos rfl] at this;exact this:Calls Tryz.prog 136 #[.agg (crC (f:Int) A n c)] W fun e w'=>e=.returned (.int .i64 0)/\Below W.heap.size W w'))
 have HIO:=Lib.hid (fun(W:World) (hb:Below w.heap.size w W)=>(by
  have:=Q59 A n c l o W B (h.below (hb.mono hB)) (by omega);rw [decide_eq_true hg.1] at this;exact this:Calls Tryz.prog 143 #[.slice A n c,.int .i64 o] W fun e w'=>e=.returned (.bool true)/\W=w'))
 have HIZ:=Lib.hid (fun(W:World) (hb:Below w.heap.size w W)=>(by
  have:=Q59 A n c l z W B (h.below (hb.mono hB)) (by omega);rw [decide_eq_false hg.2.1] at this;exact this:Calls Tryz.prog 143 #[.slice A n c,.int .i64 z] W fun e w'=>e=.returned (.bool false)/\W=w'))
 have HNO:=Lib.hid (fun(W:World)=>(by
  have:=Q82 z W;rw [decide_eq_true hg.2.2] at this;exact this:Calls Tryz.prog 163 #[.int .i64 z] W fun e w'=>e=.returned (.bool true)/\W=w'))
 have HOT':=Lib.hid (fun(W:World) (hb:Below w.heap.size w W)=>Q8W f A n c l o W B (h.below (hb.mono hB)) (by have:=hb.size; omega) hok);obtain⟨dl,hdl⟩:∃ dl,dl=Q24 l o:=⟨_,rfl⟩;obtain⟨k,hk⟩:∃ k,k=dl.length+1:=⟨_,rfl⟩;have hrl:ofL (dl++[z]) 28=Q1N l o z:=by rw [hdl]; exact ofL_repl hok hg
 have hrn:(Q1N l o z).length=n:=by have:=(hok.repl hg.1 hg.2.1 hg.2.2.1 hg.2.2.2).len; have:=hok.len; omega
 have hdn:k=n:=by have:=Q5o l o hok.pair hg.1; rw [hk,hdl]; omega
 rw [<- hdl] at HOT';have HOF':=Lib.hid (fun(W:World) (A':Option Addr) (c':Nat) (B':Nat) (ho:OwnN W B' (.slice A' k c') (dl++[z]))=>(by
  have hkl:(dl++[z]).length=k:=by rw [List.length_append,hk]; rfl
  obtain⟨A2,c2,q1,_,_,hr,_⟩:=Q0v ho;rw [hkl] at q1 hr;injection q1 with q1 _ q3
  subst q1;have:=r8of_any (f:Int) A' k c' (dl++[z]) W W.heap.size hr (Nat.le_refl _) (by omega);rw [hrl,hrn] at this;exact this:Calls Tryz.prog 164 #[.int .i64 (f:Int),.slice A' k c'] W fun e w'=>∃ A2 c2,e=.returned (.agg (crC (f:Int) A2 n c2))/\OwnN w' W.heap.size (.slice A2 n c2) (Q1N l o z)/\Below W.heap.size W w'))
 have HKK:=Lib.hid (show dl.length+1=k from hk.symm);have hk7:k<=7:=by omega
 have HX:=Lib.hid hX;have K1:=Lib.hid k1;have K2:=Lib.hid k2;obtain⟨D,hD⟩:∃ D,D=crC (f:Int) A n c:=⟨_,rfl⟩;have HDE:=Lib.hid hD;have HDS:=Lib.hid (show D.size=2 by rw [hD]; rfl);have C0:=Lib.hid (show D[0]?=some (.int .i64 (f:Int)) by rw [hD]; rfl);rw [<- hD] at K1 K2 HX HCK' HOT' ⊢;obtain⟨g,hg'⟩:∃ g,g=w.heap.size:=⟨_,rfl⟩;obtain⟨g6,hg6⟩:∃ g,g=w.heap.size+1:=⟨_,rfl⟩;obtain⟨i0,hi0,hz0,hz1,hz2⟩:=info_parts Q3I;clear hX k1 k2 h hzn hsh hdl hk hrl hrn hdn hD hg hB;go_enter Tryz.func140,Tryz.ntmps140
 go_upto_region 1 with fail
 generalize World.alloc (World.alloc w _) _=w1 at HX K1 K2 ⊢;rw [<- hg6] at K2 ⊢;rw [<- hg'] at K1 ⊢;have hgw:w.heap.size<=g:=by omega
 have hgw6:w.heap.size<=g6:=by omega
 have hgg:g≠g6:=by omega
 have HC1:=Lib.hid (HCK'.out w1 HX.out);have hs1:=HX.out.size;clear hg' hg6 HCK';go_wp2_with (refine Q03 (o:=⟨some 8,_,_,_,_,_⟩) rfl 77 (.tmp 3) rfl g 0 2 rfl 77 _ D _ K1.out Tryz.underlying77 rfl rfl HDS.out (fun _ _=>by rw [Nat.zero_add]) ?_)
 refine HC1.out.mono ?_;rintro _ w2 ⟨rfl,hb2⟩;have hs2:=hb2.size;have HB2:=Lib.hid (HX.out.trans (hb2.mono hs1));have HK2:=Lib.hid (K1.out.below' hb2);have HG2:=Lib.hid (K2.out.below' hb2);have c1:w2.cell? ⟨g,1,none⟩=some (.slice A n c):=(HK2.out.cell 1).trans (by rw [HDE.out]; rfl);clear hb2 HC1 HX K1 K2;go_wp2_with fail
 refine(HNO.out w2).mono ?_;rintro _ _ ⟨rfl,rfl⟩;go_wp2_with fail
 refine(HIO.out w2 HB2.out).mono ?_;rintro _ _ ⟨rfl,rfl⟩;go_wp2_with fail
 refine(HIZ.out w2 HB2.out).mono ?_;rintro _ _ ⟨rfl,rfl⟩;go_upto_region 7 with fail
 obtain⟨w4,hw4⟩:∃ w4,w4=w2:=⟨_,rfl⟩;rw [<- hw4] at HB2 HK2 HG2 ⊢;have HK4:=HK2;have hsz2:=HB2.out.size;have HOT:=Lib.hid (fun(W:World) (hb:Below w4.heap.size w4 W)=>HOT'.out W (HB2.out.trans (hb.mono hsz2)));have HOF:=Lib.hid (fun(W:World) (A':Option Addr) (c':Nat) (ho:OwnN W w4.heap.size (.slice A' k c') (dl++[z]))=>HOF'.out W A' c' _ ho);clear hw4 c1 HOT' HOF';refine Q4a 9 37 (fun jx W v=>match jx with | 0=>v=.pointer (some ⟨g,0,none⟩) | 1=>v=.int .i64 (f:Int) | 2=>v=.agg D | 3=>v=.int .i64 o | 4=>∃ u,v=u/\OwnN W w4.heap.size u dl | 5=>v=.int .i64 z | 6=>∃ g9,v=.slice (some ⟨g9,0,none⟩) 1 1/\w4.heap.size<=g9/\Blk W g9 3 #[.int .i64 z] | 7=>∃ A' c',v=.slice A' k c'/\OwnN W w4.heap.size (.slice A' k c') (dl++[z]) | 8=>∃ A' c',v=.agg (crC f A' n c')/\OwnN W w4.heap.size (.slice A' n c') (Q1N l o z) | _=>True) (fun _ W=>Below w4.heap.size w4 W) (fun _ _=>True) [7] (fun _=>[4,6]) (fun _=>[8]) [28,29,30,31,32,33,34,35,36] (by kernel_rfl) (by kernel_rfl) (by kernel_rfl) (by kernel_rfl) (by kernel_rfl) (by kernel_rfl) (by simp) (by kernel_rfl) (fun jx=>?last) ?lastR ?jay (Below.refl _ _) ?heads ?_
 case last =>
  match jx with
  | 0 | 1 | 2 | 3 | 5 | jx+9=>exact Q16.pure _
  | 4=>exact fun W W' v ⟨u,h1,h2⟩ hb=>⟨u,h1,h2.below_ hb⟩
  | 6=>exact fun W W' v ⟨g9,h1,h2,h3⟩ hb=>⟨g9,h1,h2,h3.below' hb⟩
  | 7=>exact fun W W' v ⟨A',c',h1,h2⟩ hb=>⟨A',c',h1,h2.below_ hb⟩
  | 8=>exact fun W W' v ⟨A',c',h1,h2⟩ hb=>⟨A',c',h1,h2.below_ hb⟩
 case lastR =>
  intro s jx W W' v hsl hdd hlt hs hj hp hr;match jx with
  | 0 | 1 | 2 | 3 | 5 | jx+9=>exact hp
  | 4=>exact absurd (by decide) hdd
  | 6=>exact absurd (by decide) hdd
  | 7=>exact absurd (by simp at hsl; subst hsl; rfl) (hs 0 (by simp at hsl; omega))
  | 8=>exact absurd (by decide) hlt
 case jay =>
  intro s W W' hj hb;exact hj.trans (hb.mono hj.size)
 case heads =>
  simp only [List.take_succ_cons,List.take_zero];refine⟨?_,?_,?_,?_,?_,?_,?_,?_,?_,trivial⟩
  ·rw [if_neg (by decide)];intro s a W hj hkp hd;have e0:a.tmps[3]?.getD undef=.pointer (some ⟨g,0,none⟩):=hkp.get (by kernel_rfl) rfl;exact Q00 rfl _ (by go_simp) rfl
  ·rw [if_neg (by decide)];intro s a W hj hkp hd;have e0:(_:Value)=.pointer (some ⟨g,0,none⟩):=(hd 0 (by kernel_rfl)).get 28 rfl rfl;have cc:W.cell? ⟨g,0,none⟩=some (.int .i64 (f:Int)):=(HK4.out.below' hj |>.cell 0).trans C0.out;exact Q00 rfl _ (by go_simp) rfl
  ·rw [if_neg (by decide)];intro s a W hj hkp hd;have e0:a.eval (.tmp 3)=.pointer (some ⟨g,0,none⟩):=by have:=hkp.at_ (d:=3) (by kernel_rfl); rw [this]; rfl
   exact Q00 rfl (.agg D) (Q0m 77 (.tmp 3) rfl g 0 2 e0 77 _ D _ (HK4.out.below' hj) Tryz.underlying77 rfl rfl HDS.out (fun _ _=>by rw [Nat.zero_add])) rfl
  ·rw [if_neg (by decide)];intro s a W hj hkp hd;have e0:a.tmps[1]?.getD undef=.int .i64 o:=hkp.get (by kernel_rfl) rfl;exact Q00 rfl _ (by go_simp) rfl
  ·rw [if_neg (by decide)];intro s a W hj hkp hd;have e0:(_:Value)=.agg D:=(hd 2 (by kernel_rfl)).get 30 rfl rfl;have e1:(_:Value)=.int .i64 o:=(hd 3 (by kernel_rfl)).get 31 rfl rfl;refine Q0w rfl 165 #[.agg D,.int .i64 o] (by go_simp) ((HOT.out W hj).mono ?_);rintro e w' ⟨v,rfl,ho,hb⟩;exact⟨_,rfl,hb,v,rfl,OwnN.more ho hj.size⟩
  ·rw [if_neg (by decide)];intro s a W hj hkp hd;have e0:a.tmps[2]?.getD undef=.int .i64 z:=hkp.get (by kernel_rfl) rfl;exact Q00 rfl _ (by go_simp) rfl
  ·rw [if_neg (by decide)];intro s a W hj hkp hd;have e0:(_:Value)=.int .i64 z:=(hd 5 (by kernel_rfl)).get 33 rfl rfl;exact Q21 rfl (.slice (some ⟨W.heap.size,0,none⟩) 1 1) (W.alloc (.cells #[.int .i64 z] 3)) (by go_simp) (Q07 _ _) ⟨W.heap.size,rfl,hj.size,Blk.new W _ _⟩
  ·rw [if_pos (by decide)];intro s a W hs hj hkp hd;obtain⟨u,e32,ho⟩:=(hd 4 (by kernel_rfl)).get 32 rfl rfl;obtain⟨g9,e34,hg9,hr9⟩:=(hd 6 (by kernel_rfl)).get 34 rfl rfl;have e32':a.eval (.tmp 32)=u:=by simpa [Act.eval] using e32
   have e34':a.eval (.tmp 34)=.slice (some ⟨g9,0,none⟩) 1 1:=by simpa [Act.eval] using e34
   refine Q6B rfl (.tmp 32) (.tmp 34) 42 rfl w4.heap.size 3 i0 _ 1 8 Tryz.underlying42 hi0 hz0 hz1 hz2 rfl (by omega) u dl.length (dl.map vn) e32' ho (g9+1) (some ⟨g9,0,none⟩) 1 1 [.int .i64 z] e34' ⟨rfl,fun _=>⟨_,rfl,by show g9<g9+1; omega,fun j u hu=>?_⟩⟩ (fun u hu=>by rw [List.mem_singleton.1 hu]; rfl) (by have:=HKK.out; unfold maxLen; omega) (by have:=HKK.out; omega) hj.size ?_
   ·match j,hu with
    | 0,hu=>rw [<- hu]; exact(hr9.cell 0).trans rfl
   ·intro v' w' h2 h3;have h2':OwnN w' w4.heap.size v' (dl++[z]):=by unfold OwnN; rw [List.length_append,List.map_append]; exact h2
    obtain⟨A',c',q1,_,_,_,_⟩:=Q0v h2';have hkl:(dl++[z]).length=k:=by rw [List.length_append]; exact HKK.out
    rw [hkl] at q1;subst q1;exact⟨trivial,Q0k hj hj.size h3 (fun b hb=>ho.ge_ hb),A',c',rfl,h2'⟩
  ·rw [if_neg (by decide)];intro s a W hj hkp hd;have e0:(_:Value)=.int .i64 (f:Int):=(hd 1 (by kernel_rfl)).get 29 rfl rfl;obtain⟨A',c',e35,ho⟩:=(hd 7 (by kernel_rfl)).get 35 rfl rfl;refine Q0w rfl 164 #[.int .i64 (f:Int),.slice A' k c'] (by go_simp) ((HOF.out W A' c' ho).mono ?_);rintro e w' ⟨A2,c2,rfl,ho2,hb2⟩;exact⟨_,rfl,hb2,A2,c2,rfl,OwnN.more ho2 hj.size⟩
 intro ff W hbW hd;obtain⟨A',c',e36,ho⟩:=hd 8 (by omega) (by decide) _ 36 rfl rfl;have K22:=Lib.hid (HG2.out.below' hbW);have HLW:=Lib.hid (HB2.out.trans (hbW.mono hsz2));have HO:=Lib.hid (OwnN.more ho hsz2);clear hd hbW ho;simp only [Q0H,List.drop_succ_cons,List.drop_zero,e36];try simp only [Act.put,sA1,sA2,sA3]
 go_wp2_with (refine Q01 (o:=⟨none,_,_,_,_,_⟩) rfl 77 (.tmp 6) (.tmp 36) rfl g6 0 (crC (f:Int) A' n c') rfl rfl 77 _ K22.out (Q1V _ _ _ _) (by simp [crC]) (Q1p _ _ _ _) ?_; intro w7 hT7 hD7; rw [Q3d] at hD7)
 refine bodyPost_ret (Q0b rfl _ _ g6 2 77 _ _ rfl hD7 Tryz.underlying77 rfl rfl rfl) rfl ⟨A',c',rfl,HO.out.keep_ fun b hb=>hT7.block b fun e=>Q09 HO.out K22.out (by decide) (by rw [hb,e]),hT7.below HLW.out hgw6⟩
end
section
open Go.RowKit Go.Maps
attribute [local irreducible] wpList Q0i
def Q37 (zs ys:List Int):Nat:=(zs.filter (fun z=>decide (z∈ys))).length
theorem Qat (f:Nat) (A:Option Addr) (n c:Nat) (zs:List Int) (A2:Option Addr) (n2 c2:Nat) (ys:List Int) (w:World) (B:Nat) (h:Q0d w B 1 A n (zs.map vn)) (hB:B<=w.heap.size) (hok:OkC f zs) (h2:Q0d w B 1 A2 n2 (ys.map vn)) (hn2:n2<=17592186044416) :
 Calls Tryz.prog 137 #[.agg (crC (f:Int) A n c),.slice A2 n2 c2] w fun e w'=>e=.returned (.int .i64 (Q37 zs ys:Int))/\Below w.heap.size w w':=by
 have hzn:zs.length=n:=by have:=h.1; simpa using this
 have hsh:=hok.short;have HX:=Lib.hid (Q07 w (.cells (crC (f:Int) A n c) 77));have HK:=Lib.hid (Blk.newAt rfl:Blk (w.alloc (.cells (crC (f:Int) A n c) 77)) w.heap.size 77 (crC (f:Int) A n c));have HCK:=Lib.hid (fun(W:World) (hb:Below w.heap.size w W)=>(by
  have:=Q33 (f:Int) A n c zs W B (h.below (hb.mono hB)) (by have:=hb.size; omega) (by omega);rw [Q3F hok,if_pos rfl] at this;exact this:Calls Tryz.prog 136 #[.agg (crC (f:Int) A n c)] W fun e w'=>e=.returned (.int .i64 0)/\Below W.heap.size W w'))
 have HIN:=Lib.hid (fun(z:Int) (W:World) (hb:Below w.heap.size w W)=>Q59 A2 n2 c2 ys z W B (h2.below (hb.mono hB)) hn2);have H:=Lib.hid (h.more hB);have HZN:=Lib.hid hzn;have hn7:n<=7:=by omega
 obtain⟨D,hD⟩:∃ D,D=crC (f:Int) A n c:=⟨_,rfl⟩;have HDE:=Lib.hid hD;have HDS:=Lib.hid (show D.size=2 by rw [hD]; rfl);rw [<- hD] at HK HX HCK ⊢;clear h hB hD hzn hsh h2;obtain⟨g,hg⟩:∃ g,g=w.heap.size:=⟨_,rfl⟩;go_enter Tryz.func137,Tryz.ntmps137
 go_upto_region 1 with fail
 generalize World.alloc w _=w1 at HX HK ⊢;rw [<- hg] at HK ⊢;have hgw:w.heap.size<=g:=by omega
 clear hg;go_wp2_with fail
 go_loopw [5,6] (fun ov iv wr=>∃ i q:Nat,i<=n/\iv=.int .i64 i/\ov=.int .i64 q/\q<=i/\q=Q37 (zs.take i) ys/\Blk wr g 77 D/\Below w.heap.size w wr) (fun _ iv _=>n - (intOf iv).toNat)
 case atStart=>exact⟨0,0,by omega,rfl,rfl,by omega,by simp [Q37],HK.out,HX.out⟩
 clear HX HK;case round =>
  obtain⟨i,q,hi,rfl,rfl,hqi,hq,hblk,hlow⟩:=hrel;have HQ:=Lib.hid hq;have HBK:=Lib.hid hblk;have HLO:=Lib.hid hlow;have hlsz:=hlow.size;have c1:wr.cell? ⟨g,1,none⟩=some (.slice A n c):=(hblk.cell 1).trans (by rw [HDE.out]; rfl);by_cases hin:i<n
  ·obtain⟨ad,u,hA,hadb,hxi,hcell⟩:=(H.out.below hlow).at_ hin;have hil:i<zs.length:=by have:=HZN.out; omega
   have hu:u=.int .i64 zs[i]:=by
    rw [List.getElem?_map,List.getElem?_eq_getElem hil] at hxi;injection hxi with hxi
    exact hxi.symm
   subst hu;have htk:zs.take (i+1)=zs.take i++[zs[i]]:=List.take_succ_eq_append_getElem hil;have HTK:=Lib.hid htk;generalize zs[i]=z at htk hcell HTK;have hinI:(i:Int)<(n:Int):=by omega
   have HC1:=Lib.hid (HCK.out wr hlow);have HAD:=Lib.hid hcell;subst hA;clear hxi hcell hblk hlow htk hq;go_wp2_with (refine Q3c (o:=⟨some 13,_,_,_,_,_⟩) (Q04 (j:=5) (d:=12) (b:=true) rfl rfl (by first | rfl | (simp; omega))) 77 (.tmp 2) rfl g 0 2 rfl 77 _ D _ HBK.out Tryz.underlying77 rfl rfl HDS.out (fun _ _=>by rw [Nat.zero_add]) ?_)
   refine HC1.out.mono ?_;rintro _ w2 ⟨rfl,hb2⟩;have hs2:=hb2.size;have hcell2:w2.cell? (ad.add i)=some (.int .i64 z):=(hb2.cell (by rw [Q0e]; omega)).trans HAD.out;have c12:w2.cell? ⟨g,1,none⟩=some (.slice (some ad) n c):=(hb2.cell (p:=⟨g,1,none⟩) HBK.out.lt).trans c1;have HBK2:=Lib.hid (HBK.out.below' hb2);have HLO2:=Lib.hid (HLO.out.trans (hb2.mono hlsz));have HI2:=Lib.hid (HIN.out z w2 HLO2.out);clear hb2 HC1 c1;by_cases hzy:z∈ys
   ·rw [decide_eq_true hzy] at HI2;have HV:=Lib.hid (show Q37 (zs.take (i+1)) ys=q+1 by
     rw [HTK.out,HQ.out];unfold Q37;rw [List.filter_append];simp [hzy])
    clear hzy;go_wp2_with fail
    refine HI2.out.mono ?_;rintro _ _ ⟨rfl,rfl⟩;go_wp2_with fail
    go_roundw
    case rel=>exact⟨i+1,q+1,by omega,by go_num,by go_num,by omega,HV.out.symm,HBK2.out,HLO2.out⟩
    case measure=>simp [intOf]; omega
   ·rw [decide_eq_false hzy] at HI2;have HV:=Lib.hid (show Q37 (zs.take (i+1)) ys=q by
     rw [HTK.out,HQ.out];unfold Q37;rw [List.filter_append];simp [hzy])
    clear hzy;go_wp2_with fail
    refine HI2.out.mono ?_;rintro _ _ ⟨rfl,rfl⟩;go_wp2_with fail
    go_roundw
    case rel=>exact⟨i+1,q,by omega,by go_num,rfl,by omega,HV.out.symm,HBK2.out,HLO2.out⟩
    case measure=>simp [intOf]; omega
  ·obtain rfl:i=n:=by omega
   rw [List.take_of_length_le (by have:=HZN.out; omega)] at hq;have hinI:¬ (i:Int)<(i:Int):=by omega
   have HQ2:=Lib.hid hq;clear hq hblk hlow;go_wp2_with fail
   go_ret
   exact⟨by rw [<- HQ2.out]; rfl,HLO.out⟩
end
section
open Go.RowKit Go.Maps
attribute [local irreducible] wpList Q0i
theorem Qbs (e1 e2:Int) (A:Option Addr) (n c:Nat) (D:Option Addr) (m d:Nat) (xs ys:List Int) (w:World) (B:Nat) (hx:Q0d w B 1 A n (xs.map vn)) (hy:Q0d w B 1 D m (ys.map vn)) (hB:B<=w.heap.size) (hn:n<=maxLen) (hm:m<=maxLen) :
 Calls Tryz.prog 60 #[.agg (crC e1 A n c),.agg (crC e2 D m d)] w fun e w'=>e=.returned (.bool (decide (e1=e2/\xs=ys)))/\Below w.heap.size w w':=by
 have HEI:=Lib.hid (fun W (hb:Below w.heap.size w W)=>Q4l A D n m c d xs ys W B B (hx.below (hb.mono hB)) (hy.below (hb.mono hB)) hn hm);have hX:Below w.heap.size w ((w.alloc (.cells (crC e1 A n c) 77)).alloc (.cells (crC e2 D m d) 77)):=((Below.refl _ _).alloc (Nat.le_refl _) _).alloc (by simp) _;have k1:Blk ((w.alloc (.cells (crC e1 A n c) 77)).alloc (.cells (crC e2 D m d) 77)) w.heap.size 77 (crC e1 A n c):=(Blk.newAt rfl).alloc _;have k2:Blk ((w.alloc (.cells (crC e1 A n c) 77)).alloc (.cells (crC e2 D m d) 77)) (w.heap.size+1) 77 (crC e2 D m d):=Blk.newAt (by simp);have HX:=Lib.hid hX;have K1:=Lib.hid k1;have K2:=Lib.hid k2;obtain⟨C,hC⟩:∃ C,C=crC e1 A n c:=⟨_,rfl⟩;obtain⟨E,hE⟩:∃ E,E=crC e2 D m d:=⟨_,rfl⟩;have c0:C[0]?=some (.int .i64 e1):=by rw [hC]; rfl
 have c1:C[1]?=some (.slice A n c):=by rw [hC]; rfl
 have d0:E[0]?=some (.int .i64 e2):=by rw [hE]; rfl
 have d1:E[1]?=some (.slice D m d):=by rw [hE]; rfl
 rw [<- hC,<- hE] at HX K1 K2 ⊢;have C0:=Lib.hid c0;have C1:=Lib.hid c1;have D0:=Lib.hid d0;have D1:=Lib.hid d1;obtain⟨g2,hg2⟩:∃ g,g=w.heap.size:=⟨_,rfl⟩;obtain⟨g3,hg3⟩:∃ g,g=w.heap.size+1:=⟨_,rfl⟩;clear hx hy hX k1 k2 hC hE c0 c1 d0 d1;go_enter Tryz.func60,Tryz.ntmps60
 go_upto_region 1 with fail
 generalize World.alloc (World.alloc w _) _=w1 at HX K1 K2 ⊢;rw [<- hg3] at K2 ⊢;rw [<- hg2] at K1 ⊢;clear hg2 hg3;have e0:=(K1.out.cell 0).trans C0.out;have e1':=(K1.out.cell 1).trans C1.out;have f0:=(K2.out.cell 0).trans D0.out;have f1:=(K2.out.cell 1).trans D1.out;have HE:=Lib.hid (HEI.out w1 HX.out);clear K1 K2 HEI;by_cases he:e1=e2
 ·have heb:(e1 == e2)=true:=by simpa using he
  have HH:=Lib.hid he;clear he;go_wp2_with fail
  refine HE.out.mono ?_;rintro _ _ ⟨rfl,k,rfl⟩;go_wp2_with fail
  go_ret
  exact⟨Q0N (by simp [HH.out]),Q0z HX.out _⟩
 ·have heb:(e1 == e2)=false:=by simpa using he
  have HH:=Lib.hid he;clear he;go_wp2_with fail
  go_ret
  exact⟨Q0N (by simp [HH.out]),HX.out⟩
end
section
open Go.RowKit Go.Maps
structure ALoc where
 g:Nat
 gc:Nat
 T:Q1E
 k:Book
def ALoc.has (V:ALoc) (b:Nat):Prop:=b=V.g\/b=V.gc\/V.T.mut b\/V.k.has b
def ALoc.all (V:ALoc) (b:Nat):Prop:=b=V.g\/b=V.gc\/V.k.has b\/V.T.has b
def ALoc.hasN (V:ALoc) (N:Nat->Prop) (b:Nat):Prop:=V.has b\/¬ N b
structure ASl where
 arr:Array Value
 cap:Nat
 fA:Nat->Option Addr
 fC:Nat->Nat
 nA:Nat->Option Addr
 nC:Nat->Nat
 mA:Nat->Option Addr
 mC:Nat->Nat
 lA:Nat->Option Addr
 lC:Nat->Nat
def Q0F:List (Int×Int)->List Value
 | []=>[]
 | m :: t=>vn m.1 :: vn m.2 :: Q0F t
theorem Q3R:∀ l:List (Int×Int),(Q0F l).length=l.length*2
 | []=>rfl
 | m :: t=>by
  show (Q0F t).length+2=(t.length+1)*2;rw [Q3R t]; omega
theorem Q4K:∀ (a b:List (Int×Int)),Q0F (a++b)=Q0F a++Q0F b
 | [],_=>rfl
 | m :: t,b=>by
  show vn m.1 :: vn m.2 :: Q0F (t++b)=_;rw [Q4K t b]; rfl
theorem Q2T:∀ (l:List (Int×Int)) (i:Nat) (h:i<l.length),(Q0F l)[i*2]?=some (vn l[i].1)/\(Q0F l)[i*2+1]?=some (vn l[i].2)
 | m :: t,0,_=>⟨rfl,rfl⟩
 | m :: t,i+1,h=>by
  have:=Q2T t i (by simpa using h);rw [show (i+1)*2=i*2+1+1 by omega];exact this
def srvC (s:Srv) (S:ASl) (i:Nat):Array Value:=#[.int .i64 (s.f:Int),.slice (S.fA i) s.first.length (S.fC i),.int .i64 (s.f:Int),.slice (S.nA i) s.now.length (S.nC i),.slice (S.mA i) s.moves.length (S.mC i)]
def Q2v (S:ASl) (m:AM) (i:Nat):Array Value:=#[.int .i64 ((Q0u m i).1:Int),.int .i64 ((Q0u m i).2.err:Int),.slice none 0 0,.int .i64 ((Q0u m i).2.epoch:Int),.slice (S.lA i) (Q0u m i).2.nodes.length (S.lC i)]
def aF (t:Option Addr) (gc:Nat) (m:AM) (S:ASl) (j:Nat):Value :=
 if j=0 then .pointer t else if j=1 then .slice (some ⟨gc,0,none⟩) m.chunks.length S.cap else(Q2v S m ((j - 2) / 5)).getD ((j - 2) % 5) undef
def aCs (t:Option Addr) (gc:Nat) (m:AM) (S:ASl):Array Value:=rng 22 (aF t gc m S)
theorem Q36 (t:Option Addr) (gc:Nat) (m:AM) (S:ASl):(aCs t gc m S).size=22:=Q0C _ _
theorem Q1D (t:Option Addr) (gc:Nat) (m:AM) (S:ASl) (j:Nat) (h:j<22):(aCs t gc m S)[j]?=some (aF t gc m S j):=Q1z _ _ _ h
theorem Q8o (t:Option Addr) (gc:Nat) (m:AM) (S:ASl) (i j:Nat) (hi:i<4) (hj:j<5):(aCs t gc m S)[2+i*5+j]?=(Q2v S m i)[j]?:=by
 rw [Q1D _ _ _ _ _ (by omega)];unfold aF;rw [if_neg (by omega),if_neg (by omega),show (2+i*5+j - 2) / 5=i by omega,show (2+i*5+j - 2) % 5=j by omega];have hs:(Q2v S m i).size=5:=rfl;rw [Array.getElem?_eq_getElem (by omega)];simp [Array.getD,hs,hj]
def IsMv (S:ASl) (n b:Nat):Prop:=∃ i a,i<n/\S.mA i=some a/\a.block=b
structure ADat (w:World) (g gc:Nat) (t:Option Addr) (N:Nat->Prop) (m:AM) (S:ASl):Prop where
 blk:Blk w g 105 (aCs t gc m S)
 row:Blk w gc 173 S.arr
 cap:S.arr.size=S.cap*5/\m.chunks.length<=S.cap/\S.cap<=maxLen
 srv:∀ i s,m.chunks[i]?=some s->∀ j,j<5->S.arr[i*5+j]?=(srvC s S i)[j]?
 first:∀ i s,m.chunks[i]?=some s->FarN w (fun b=>N b\/IsMv S m.chunks.length b) (S.fA i) (S.fC i) s.first
 now:∀ i s,m.chunks[i]?=some s->FarN w (fun b=>N b\/IsMv S m.chunks.length b) (S.nA i) (S.nC i) s.now
 nodes:∀ i,i<4->FarN w (fun b=>N b\/IsMv S m.chunks.length b) (S.lA i) (S.lC i) (Q0u m i).2.nodes
 mv:∀ i s,m.chunks[i]?=some s->w.ownsRow 0 175 2 (.slice (S.mA i) s.moves.length (S.mC i)) s.moves.length (Q0F s.moves)
 mvN:∀ b,IsMv S m.chunks.length b->¬ N b
 mvap:∀ i j a b,i<m.chunks.length->j<m.chunks.length->i≠j->S.mA i=some a->S.mA j=some b->a.block≠b.block
 gN:N g/\N gc
 ok:AOk m
theorem ADat.mlt {w:World} {g gc:Nat} {t:Option Addr} {N:Nat->Prop} {m:AM} {S:ASl} (h:ADat w g gc t N m S) {b:Nat} (hb:IsMv S m.chunks.length b):b<w.heap.size:=by
 obtain⟨i,a,hi,ha,rfl⟩:=hb;have hm:=h.mv i _ (List.getElem?_eq_getElem hi);rw [ha] at hm;exact(Q0a hm (b:=a.block) (by
  rcases hm.2 with⟨e,_⟩ | ⟨g',cap',cur',e,_⟩
  ·cases e
  ·injection e with e1
   injection e1 with e1
   rw [e1]; rfl)).2
theorem ADat.only {w w':World} {g gc:Nat} {t:Option Addr} {N M:Nat->Prop} {m:AM} {S:ASl} (h:ADat w g gc t N m S) (ho:Only M w w') (hM:∀ b,M b->N b) (hg:¬ M g) (hgc:¬ M gc):ADat w' g gc t N m S :=
 ⟨ho.blk h.blk hg,ho.blk h.row hgc,h.cap,h.srv,fun i s hs=>(h.first i s hs).only ho (fun b hb=>.inl (hM b hb)),fun i s hs=>(h.now i s hs).only ho (fun b hb=>.inl (hM b hb)),fun i hi=>(h.nodes i hi).only ho (fun b hb=>.inl (hM b hb)),fun i s hs=>Q0f (h.mv i s hs) (fun b hb=>by
  have hi:i<m.chunks.length:=(List.getElem?_eq_some_iff.1 hs).1;have hl:=(Q0a (h.mv i s hs) hb).2;refine ho.block b hl fun hmb=>?_
  have hmv:IsMv S m.chunks.length b:=by
   rcases(h.mv i s hs).2 with⟨e,_⟩ | ⟨g',cap',cur',e,_⟩
   ·rw [e] at hb; cases hb
   ·rw [e] at hb;injection e with e1
    exact⟨i,⟨g',0,none⟩,hi,e1,by simpa [Value.ownBlock] using hb⟩
  exact h.mvN b hmv (hM b hmb)),h.mvN,h.mvap,h.gN,h.ok⟩
theorem ADat.below {w w':World} {g gc:Nat} {t:Option Addr} {N:Nat->Prop} {m:AM} {S:ASl} (h:ADat w g gc t N m S) (hb:Below w.heap.size w w'):ADat w' g gc t N m S :=
 h.only (M:=fun _=>False) (Only.of_below hb) (fun _ h=>h.elim) (fun h=>h) (fun h=>h)
theorem ADat.mono {w:World} {g gc:Nat} {t:Option Addr} {N N':Nat->Prop} {m:AM} {S:ASl} (h:ADat w g gc t N m S) (hN:∀ b,b<w.heap.size->N' b->N b) (hg:N' g/\N' gc):ADat w g gc t N' m S :=
 ⟨h.blk,h.row,h.cap,h.srv,fun i s hs=>(h.first i s hs).mono (fun b hb hn=>hn.imp (hN b hb) id),fun i s hs=>(h.now i s hs).mono (fun b hb hn=>hn.imp (hN b hb) id),fun i hi=>(h.nodes i hi).mono (fun b hb hn=>hn.imp (hN b hb) id),h.mv,fun b hb hn=>h.mvN b hb (hN b (h.mlt hb) hn),h.mvap,hg,h.ok⟩
structure AAt (w:World) (V:ALoc) (N:Nat->Prop) (m:AM):Prop where
 dat:∃ S,ADat w V.g V.gc (some ⟨V.T.t,0,none⟩) N m S
 tree:Q2b w V.T V.k (Q0g m)
 far:V.g≠V.gc/\¬ V.T.has V.g/\¬ V.T.has V.gc/\¬ V.k.has V.g/\¬ V.k.has V.gc
 all:∀ b,V.all b->N b
theorem ADat.lt {w:World} {g gc:Nat} {t:Option Addr} {N:Nat->Prop} {m:AM} {S:ASl} (h:ADat w g gc t N m S):g<w.heap.size/\gc<w.heap.size:=⟨h.blk.lt,h.row.lt⟩
theorem AAt.below {w w':World} {V:ALoc} {N:Nat->Prop} {m:AM} (h:AAt w V N m) (hb:Below w.heap.size w w'):AAt w' V N m:=by
 obtain⟨S,hd⟩:=h.dat;exact⟨⟨S,hd.below hb⟩,h.tree.below hb,h.far,h.all⟩
theorem AAt.mono {w:World} {V:ALoc} {N N':Nat->Prop} {m:AM} (h:AAt w V N m) (hN:∀ b,b<w.heap.size->N' b->N b) (hall:∀ b,V.all b->N' b):AAt w V N' m:=by
 obtain⟨S,hd⟩:=h.dat;exact⟨⟨S,hd.mono hN ⟨hall _ (.inl rfl),hall _ (.inr (.inl rfl))⟩⟩,h.tree,h.far,hall⟩
end
section
open Go.RowKit Go.Maps
attribute [local irreducible] wpList Q0i
theorem Q80 (l:List Int) (i:Nat) (h:i<l.length):Q0M (l.take (i+1))=Q0M (l.take i)++numB l[i].toNat:=by
 unfold Q0M;rw [List.take_succ_eq_append_getElem h,List.flatMap_append]
 simp
theorem Q6D (A:Option Addr) (n c:Nat) (zs:List Int) (w:World) (B:Nat) (h:Q0d w B 1 A n (zs.map vn)) (hB:B<=w.heap.size) (hz:∀ z,z∈zs->NumI z) (hn:n<=1000) :
 Calls Tryz.prog 147 #[.slice A n c] w fun e w'=>∃ v,e=.returned v/\OwnB w' w.heap.size v (Q0M zs)/\Below w.heap.size w w':=by
 have hzn:zs.length=n:=by have:=h.1; simpa using this
 have H:=Lib.hid h;have HZN:=Lib.hid hzn;have HZ:=Lib.hid hz;obtain⟨i0,hi0,hz0,hz1,hz2⟩:=info_parts Q1O;clear h hzn hz;go_enter Tryz.func147,Tryz.ntmps147
 go_wp2_with fail
 go_loopw [3,10] (fun ov iv wr=>∃ i:Nat,i<=n/\iv=.int .i64 (i:Int)/\OwnB wr w.heap.size ov (Q0M (zs.take i))/\Below w.heap.size w wr) (fun _ iv _=>n - (intOf iv).toNat)
 case atStart=>exact⟨0,by omega,rfl,OwnB.nil _ _,Below.refl _ _⟩
 case round =>
  obtain⟨i,hi,rfl,hov,hbel⟩:=hrel;have HOV:=Lib.hid hov;have HB:=Lib.hid hbel;have hsz:=hbel.size;clear hov hbel;by_cases hin:i<n
  ·have hinI:(i:Int)<(n:Int):=by omega
   obtain⟨ad,u,hA,hadb,hxi,hcell⟩:=(H.out.below (HB.out.mono hB)).at_ hin;subst hA;have hil:i<zs.length:=by have:=HZN.out; omega
   have hu:u=.int .i64 zs[i]:=by
    rw [List.getElem?_map,List.getElem?_eq_getElem hil] at hxi;injection hxi with hxi
    exact hxi.symm
   subst hu;have hnum:=HZ.out _ (List.getElem_mem hil);have hsn:=Q80 zs i hil;have hlen:=Qcz (l:=zs.take i) fun z hz=>HZ.out z (List.mem_of_mem_take hz)
   rw [List.length_take] at hlen;have hmx:=NumI.max hnum;have hl8:=(Q2N hmx).2;obtain⟨z,hze⟩:∃ z:Nat,zs[i]=(z:Int):=⟨zs[i].toNat,by unfold NumI at hnum; omega⟩;rw [hze,Int.toNat_natCast] at hsn hmx hl8;rw [hze] at hcell;have HBN:=Lib.hid (Q7T z hmx wr);have HSN:=Lib.hid hsn;obtain⟨ys,hys⟩:∃ ys,ys=Q0M (zs.take i):=⟨_,rfl⟩;rw [<- hys] at HOV HSN hlen;generalize numB z=x at HBN HSN hl8;clear hxi hnum hsn hys;go_wp2_with fail
   refine HBN.out.mono ?_;rintro _ w2 ⟨v2,rfl,ho2,hb2⟩;obtain⟨A2,c2,rfl,p1,p2,p3,p4⟩:=Q0p ho2;obtain⟨nx,hnx⟩:∃ k,k=x.length:=⟨_,rfl⟩;rw [<- hnx] at p3 hl8 ⊢;have HNX:=Lib.hid hnx;have HP3:=Lib.hid p3;have HO2:=Lib.hid (HOV.out.below hb2);have HWN:=Lib.hid HO2.out.row;have HB2:=Lib.hid (HB.out.trans (hb2.mono hsz));have hs2:=hb2.size;clear ho2 hb2 p1 p2 p3 p4 HBN hnx;go_wp2_with (at_builtin; go_must (refine Q06 _ rfl (.tmp 19) (.tmp 20) 22 rfl w.heap.size 5 i0 _ 1 1 Tryz.underlying22 hi0 hz0 hz1 hz2 rfl (by omega) _ _ _ rfl HWN.out w2.heap.size A2 nx c2 (x.map vb) rfl HP3.out ?c1 ?c2 ?c3 ?c4 ?_))
   case c1=>intro u hu; obtain⟨y,_,rfl⟩:=List.mem_map.1 hu; rfl
   case c2=>unfold maxLen; omega
   case c3=>omega
   case c4=>omega
   intro v3 w3 hown3 hg3 hor3;have HB3:=Lib.hid (Q0k HB2.out (by omega) hg3 (fun b hb=>HO2.out.ge hb));have HO3:=Lib.hid (show OwnB w3 w.heap.size v3 (Q0M (zs.take (i+1))) by
    unfold OwnB;rw [HSN.out,List.length_append,List.map_append,<- HNX.out];exact hown3)
   clear hown3 hg3 hor3;go_wp2_with fail
   go_roundw
   case rel=>exact⟨i+1,by omega,by go_num,HO3.out,HB3.out⟩
   case measure=>simp [intOf]; omega
  ·obtain rfl:i=n:=by omega
   have hinI:¬ (i:Int)<(i:Int):=by omega
   have ht:zs.take i=zs:=List.take_of_length_le (by have:=HZN.out; omega);rw [ht] at HOV;go_wp2_with fail
   go_ret
   exact⟨_,rfl,HOV.out,HB.out⟩
theorem Q2g (w:World) (g t:Nat) (h:w.cell? ⟨g,0,none⟩=some (.pointer (some ⟨t,0,none⟩))) :
 Calls Tryz.prog 91 #[.pointer (some ⟨g,0,none⟩)] w fun e w'=>e=.returned (.bool false)/\w=w':=by
 go_enter Tryz.func91,Tryz.ntmps91
 go_wp2
 go_ret
 exact⟨rfl,rfl⟩
end
section
open Go.RowKit Go.Maps
attribute [local irreducible] wpList Q0i
theorem Qc3 (b:Nat) (o y z:Int) (w:World) (hc:w.cell? ⟨b,0,none⟩=some (.int .i64 z)) :
 Calls Tryz.prog 162 #[.agg #[.int .i64 o,.int .i64 y],.pointer (some ⟨b,0,none⟩)] w fun e w'=>e=.returned (.bool (decide (y=z)))/\Below w.heap.size w w':=by
 have hX:=Q07 w (.cells #[.int .i64 o,.int .i64 y] 175);have hl:=World.block_lt_of_cell? _ _ hc;have hk:Blk (w.alloc (.cells #[.int .i64 o,.int .i64 y] 175)) w.heap.size 175 #[.int .i64 o,.int .i64 y]:=Blk.newAt rfl;have c1:=(hk.cell 1).trans (show (#[Value.int .i64 o,Value.int .i64 y])[1]?=some (.int .i64 y) from rfl);have c2:=(hX.cell hl).trans hc;have HX:=Lib.hid hX;by_cases h:y=z
 ·have hyz:(y == z)=true:=by simpa using h
  rw [decide_eq_true h];clear hk h hX;go_enter Tryz.func162,Tryz.ntmps162
  go_wp2
  go_ret
  exact⟨rfl,HX.out⟩
 ·have hyz:(y == z)=false:=by simpa using h
  rw [decide_eq_false h];clear hk h hX;go_enter Tryz.func162,Tryz.ntmps162
  go_wp2
  go_ret
  exact⟨rfl,HX.out⟩
theorem Qam (A:Option Addr) (n c b:Nat) (ms:List (Int×Int)) (z:Int) (w:World) (h:w.ownsRow 0 175 2 (.slice A n c) n (Q0F ms)) (hb:w.cell? ⟨b,0,none⟩=some (.int .i64 z)) (hn:n<=1000) :
 Calls Tryz.prog 179 #[.slice A n c,.func (.func 162) #[] #[.pointer (some ⟨b,0,none⟩)]] w fun e w'=>∃ r:Int,e=.returned (.int .i64 r)/\-1<=r/\r<=1000/\decide (0<=r)=ms.any (fun m=>decide (m.2=z))/\Below w.heap.size w w':=by
 have hml:ms.length=n:=by have:=h.1; rw [Q3R] at this; omega
 have hbl:=World.block_lt_of_cell? _ _ hb;have H:=Lib.hid (fun(W:World) (hb:Below w.heap.size w W)=>(Q0f h (fun q hq=>hb.block q (Q0a h hq).2):W.ownsRow 0 175 2 (.slice A n c) n (Q0F ms)));have HB:=Lib.hid (fun(W:World) (h:Below w.heap.size w W)=>(h.cell hbl).trans hb);have HML:=Lib.hid hml;clear h hb hml hbl;go_enter Tryz.func179,Tryz.ntmps179
 go_wp2_with fail
 go_loopw [5,8] (fun _ iv wr=>∃ i:Nat,i<=n/\iv=.int .i64 (i:Int)/\(∀ (k:Nat) (hk:k<ms.length),k<i->ms[k].2≠z)/\Below w.heap.size w wr) (fun _ iv _=>n - (intOf iv).toNat)
 case atStart=>exact⟨0,by omega,rfl,fun k hk h=>by omega,Below.refl _ _⟩
 case round =>
  obtain⟨i,hi,rfl,hno,hbel⟩:=hrel;have HNO:=Lib.hid hno;have HBE:=Lib.hid hbel;clear hno hbel;by_cases hin:i<n
  ·have hinI:(i:Int)<(n:Int):=by omega
   obtain⟨g,cap,cur,hv,_,hB,_,_,_,ht⟩:∃ g cap cur,Value.slice A n c=.slice (some ⟨g,0,none⟩) n cap/\0<=g/\Blk wr g 175 cur/\n<=cap/\cap<=maxLen/\cur.size=cap*2/\cur.toList.take (n*2)=Q0F ms:=by
    rcases(H.out wr HBE.out).2 with⟨_,h1⟩ | h
    ·omega
    ·exact h
   injection hv with hA _ hc
   subst hA;have hil:i<ms.length:=by have:=HML.out; omega
   obtain⟨D,hD⟩:∃ D:Array Value,D=#[.int .i64 ms[i].1,.int .i64 ms[i].2]:=⟨_,rfl⟩;have hds:D.size=2:=by rw [hD]; rfl
   have hcur:∀ j,j<2->cur[i*2+j]?=D[j]?:=fun j hj=>by
    have hg:=Q2T ms i hil;rw [<- ht,List.getElem?_take,if_pos (by omega),List.getElem?_take,if_pos (by omega),Array.getElem?_toList,Array.getElem?_toList] at hg;rw [hD];obtain rfl | rfl:j=0\/j=1:=by omega
    ·exact hg.1
    ·exact hg.2
   have HU:=Lib.hid (Qc3 b ms[i].1 ms[i].2 z wr (HB.out wr HBE.out));rw [<- hD] at HU;obtain⟨y,hy⟩:∃ y,y=ms[i].2:=⟨_,rfl⟩;rw [<- hy] at HU;have HY:=Lib.hid hy;have HCUR:=Lib.hid hcur;have HBL:=Lib.hid hB;clear hcur hB ht hD hc hy;go_wp2_with (refine Q03 (o:=⟨some 15,_,_,_,_,_⟩) rfl 175 (.tmp 14) rfl g (i*2) 2 rfl 175 _ D _ HBL.out Tryz.underlying175 rfl rfl hds HCUR.out ?_)
   refine HU.out.mono ?_;rintro _ w2 ⟨rfl,hb2⟩;have HB2:=Lib.hid (HBE.out.trans (hb2.mono HBE.out.size));clear hb2 HU;by_cases hyz:y=z
   ·rw [decide_eq_true hyz];have hany:ms.any (fun m=>decide (m.2=z))=true:=List.any_eq_true.2 ⟨ms[i],List.getElem_mem hil,by rw [<- HY.out]; exact decide_eq_true hyz⟩;have HANY:=Lib.hid hany;clear hany hyz;go_wp2_with fail
    go_ret
    exact⟨i,rfl,by omega,by omega,by rw [HANY.out]; exact decide_eq_true (by omega),HB2.out⟩
   ·rw [decide_eq_false hyz];have HN2:=Lib.hid (show ∀ (k:Nat) (hk:k<ms.length),k<i+1->ms[k].2≠z from fun k hk h=>by
     rcases Nat.lt_or_ge k i with e | e
     ·exact HNO.out k hk e
     ·obtain rfl:k=i:=by omega
      rw [<- HY.out]; exact hyz)
    clear hyz;go_wp2_with fail
    go_roundw
    case rel=>exact⟨i+1,by omega,by go_num,HN2.out,HB2.out⟩
    case measure=>simp [intOf]; omega
  ·have hinI:¬ (i:Int)<(n:Int):=by omega
   have hany:ms.any (fun m=>decide (m.2=z))=false:=List.any_eq_false.2 fun m hm=>by
    obtain⟨k,hk,rfl⟩:=List.mem_iff_getElem.1 hm;have:=HNO.out k hk (by have:=HML.out; omega);simpa using this
   have HANY:=Lib.hid hany;clear hany;go_wp2_with fail
   go_ret
   exact⟨-1,rfl,by omega,by omega,by rw [HANY.out]; rfl,HBE.out⟩
theorem Q7f (A:Option Addr) (n c b:Nat) (ms:List (Int×Int)) (z:Int) (w:World) (h:w.ownsRow 0 175 2 (.slice A n c) n (Q0F ms)) (hb:w.cell? ⟨b,0,none⟩=some (.int .i64 z)) (hn:n<=1000) :
 Calls Tryz.prog 161 #[.slice A n c,.func (.func 162) #[] #[.pointer (some ⟨b,0,none⟩)]] w fun e w'=>e=.returned (.bool (ms.any (fun m=>decide (m.2=z))))/\Below w.heap.size w w':=by
 have HI:=Lib.hid (Qam A n c b ms z w h hb hn);generalize ms.any (fun m=>decide (m.2=z))=res at HI ⊢;clear h hb;go_enter Tryz.func161,Tryz.ntmps161
 go_wp2_with fail
 refine HI.out.mono ?_;rintro _ w2 ⟨r,rfl,h1,h2,h3,hb2⟩;have HB2:=Lib.hid hb2;have H3:=Lib.hid h3;clear hb2 HI h3;go_wp2_with fail
 go_ret
 exact⟨Q0N (by first | exact H3.out | (rw [<- H3.out])),HB2.out⟩
end
end Go.Proofs.YtcpngeiahgoacaaGreat
