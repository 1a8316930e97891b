/- Parts of the proof, in one text. -/
import Derived.Test.YtcpngeiahgoacaaGreatM8
import Derived.Test.YtcpngeiahgoacaaGreatM6
namespace Go.Proofs.YtcpngeiahgoacaaGreat
set_option linter.unusedVariables false
set_option linter.unusedSimpArgs false
set_option maxRecDepth 100000
set_option maxHeartbeats 16000000
open _root_.Go renaming Addr->zA,World->zB,Value->zC,Calls->zG
open _root_.Go.Proofs.Tryz renaming prog->zI,underlying42->zU,underlying77->zV
open _root_.Go.Region renaming wanted->zF
open _root_.Go.RowKit renaming Below->zE
open _root_.Go.RowKit.Below renaming refl->zL
open _root_.Go.World renaming block_lt_of_cell?->zO,alloc->zS
open _root_.List renaming getElem?_eq_getElem->zD,getElem?_map->zH,length_append->zK,map_append->zM,take_of_length_le->zP,mem_cons_self->zQ,take_succ_eq_append_getElem->zR,mem_singleton->zT
open _root_.Nat renaming le_refl->zJ,zero_add->zN
section
open Go.RowKit Go.Maps
attribute [local irreducible] wpList Q0h
theorem Q7w {P:Program} {ops:Array Oper} {o:Oper} {a:Act} {w:zB} {R:zB->zB->Prop} {J:zB->Prop} {p:zB->zC->Prop} (hgd:o.guard=none) (s x:Operand) (t:TypeId)
 (ho:o.op=.call { callee:=.builtin .append,args:=#[s,x],argTypes:=#[t,t] })
 (base:Nat) (e:TypeId) (i:TypeInfo) (z:zC) (size bytes:Nat) (ht:P.underlying t=some (.slice e)) (hi:P.info? e=some i) (hz:i.zero=some z)
 (hsize:i.size=size) (hby:i.bytes=bytes) (hzs:z.cells.size=size) (hsz:0<size)
 (v:zC) (n:Nat) (xs:List zC) (hs:a.eval s=v) (hown:w.ownsRow base e size v n xs)
 (B:Nat) (A:Option zA) (m c:Nat) (news:List zC) (hx:a.eval x=.slice A m c) (hr:Q08 w B size A m news) (h1:∀ u∈news,u.oneCell'=true)
 (h63:n+m<=maxLen) (hbytes:(n+m)*bytes<=140737488355328) (hbase:base<=w.heap.size)
 (h:∀ v' w',w'.ownsRow base e size v' (n+m) (xs++news)->w.grownBy w' v.ownBlock->R w w'/\J w'/\p w' v'):Q4m P ops o a w R J p:=fun K Q' hK=>by
 have hw:zF o (yielded ops a.tmps)=true:=by simp [zF,hgd]
 rw [if_pos hw];exact Q2W w s x t ho base e i z size bytes ht hi hz hsize hby hzs hsz v n xs hs hown B A m c news hx hr h1 h63 hbytes hbase fun v' w' h2 h3 _=>by obtain⟨q1,q2,q3⟩:=h v' w' h2 h3;exact hK v' w' q1 q2 q3
theorem Q7V {P:Program} {ops:Array Oper} {rest:List Oper} {o:Oper} {a:Act} {w:zB} {Q:Exit->Act->zB->Prop} (hw:zF o (yielded ops a.tmps)=true)
 (h:∀ K:Act->zB->Prop,(∀ a w,wpList P ops Q rest a w->K a w)->o.wp P a w K Q):wpList P ops Q (o :: rest) a w :=
 wpList_step fun K hK=>by rw [if_pos hw];exact h K hK
theorem Q2l {P:Program} {ops:Array Oper} {rest:List Oper} {o:Oper} {a:Act} {w:zB} {Q:Exit->Act->zB->Prop} (hw:zF o (yielded ops a.tmps)=true) (ty:TypeId) (x:Operand) (ho:o.op=.load ty x)
 (g off n:Nat) (hx:a.eval x=.pointer (some ⟨g,off,none⟩)) (t:TypeId) (cs vs:Array zC) (d:TypeDesc) (hB:Blk w g t cs)
 (hu:P.underlying ty=some d) (hd:(match d with | .struct _ | .array _ _=>true | _=>false)=true) (hi:(P.info? ty).map (·.size)=some n)
 (hn:vs.size=n) (hv:∀ j,j<n->cs[off+j]?=vs[j]?)
 (h:wpList P ops Q rest (a.put o.dst (.agg vs)) w):wpList P ops Q (o :: rest) a w :=
 Q7V hw fun _ hK=>Q3t ty x ho g off n hx t cs vs d hB hu hd hi hn hv (hK _ _ h)
theorem Q8u (f:Int) (A:Option zA) (n c:Nat) (zs:List Int) (w:zB) (B:Nat) (h:Q08 w B 1 A n (zs.map vn)) (hB:B<=w.heap.size) (hn:n<=17592186044416) :
 zG zI 34 #[.agg (crC f A n c)] w fun e w'=>∃ A' c',e=.returned (.agg (crC f A' n c'))/\OwnN w' w.heap.size (.slice A' n c') zs/\zE w.heap.size w w':=by
 have hzn:zs.length=n:=by have:=h.1; simpa using this
 have HZN:=sH hzn;have hX:zE w.heap.size w ((w.alloc (.cells (crC f A n c) 77)).alloc (.cells #[.int .i64 0,.slice none 0 0] 77)):=((zL _ _).alloc (zJ _) _).alloc (by simp) _;have k1:Blk ((w.alloc (.cells (crC f A n c) 77)).alloc (.cells #[.int .i64 0,.slice none 0 0] 77)) w.heap.size 77 (crC f A n c):=(Blk.newAt rfl).alloc _;have k2:Blk ((w.alloc (.cells (crC f A n c) 77)).alloc (.cells #[.int .i64 0,.slice none 0 0] 77)) (w.heap.size+1) 77 (crC 0 none 0 0):=Blk.newAt (by simp);have HX:=sH hX;have K1:=sH k1;have K2:=sH k2;obtain⟨g,hg⟩:∃ g,g=w.heap.size:=⟨_,rfl⟩;obtain⟨g2,hg2⟩:∃ g,g=w.heap.size+1:=⟨_,rfl⟩;have HCI':=sH (fun(W:zB) (hb:zE w.heap.size w W)=>Q4E A n c zs W B (h.below (hb.mono hB)) (by have:=hb.size; omega) hn);clear hX k1 k2 h hzn;go_enter Tryz.func34,Tryz.ntmps34
 go_upto_region 1 with fail
 generalize zS (zS w _) _=w1 at HX K1 K2 ⊢;rw [<- hg2] at K2 ⊢;rw [<- hg] at K1 ⊢;have hgw:w.heap.size<=g2:=by omega
 have C0:=sH (fun(W:zB) (hb:zE w1.heap.size w1 W)=>(hb.cell (p:=⟨g,0,none⟩) K1.out.lt).trans ((K1.out.cell 0).trans rfl:w1.cell? ⟨g,0,none⟩=some (.int .i64 f)));have C1:=sH (fun(W:zB) (hb:zE w1.heap.size w1 W)=>(hb.cell (p:=⟨g,1,none⟩) K1.out.lt).trans ((K1.out.cell 1).trans rfl:w1.cell? ⟨g,1,none⟩=some (.slice A n c)));have HCI:=sH (fun(W:zB) (hb:zE w1.heap.size w1 W)=>HCI'.out W (HX.out.trans (hb.mono HX.out.size)));have hs1:=HX.out.size;clear hg hg2 HCI';refine Q0m 6 9 (fun jx W v=>match jx with | 0=>v=.pointer (some ⟨g,0,none⟩) | 1=>v=.int .i64 f | 2=>v=.pointer (some ⟨g,1,none⟩) | 3=>v=.slice A n c | 4=>∃ A' c',v=.slice A' n c'/\OwnN W w.heap.size (.slice A' n c') zs | 5=>∃ A' c',v=.agg (crC f A' n c')/\OwnN W w.heap.size (.slice A' n c') zs | _=>True) [3,4,5,6,7,8] (by kernel_rfl) (by kernel_rfl) (by kernel_rfl) (by simp) (by kernel_rfl) (fun jx=>?last) ?heads ?_
 case last =>
  match jx with
  | 0 | 1 | 2 | 3 | jx+6=>exact Q15.pure _
  | 4=>exact fun W W' v ⟨A',c',h1,h2⟩ hb=>⟨A',c',h1,h2.below_ hb⟩
  | 5=>exact fun W W' v ⟨A',c',h1,h2⟩ hb=>⟨A',c',h1,h2.below_ hb⟩
 case heads =>
  simp only [tT];refine⟨?_,?_,?_,?_,?_,?_,trivial⟩;all_goals intro a W hb hkp hd
  ·have e0:(_:zC)=.pointer (some ⟨g,0,none⟩):=sK hkp 1;exact sV
  ·have e0:=sJ (hd 0) 3;have cc:=C0.out W hb;exact sV
  ·have e0:(_:zC)=.pointer (some ⟨g,0,none⟩):=sK hkp 1;exact sV
  ·have e0:=sJ (hd 2) 5;have cc:=C1.out W hb;exact sV
  ·have e0:=sJ (hd 3) 6;refine Q0u rfl 87 #[.slice A n c] (by go_simp) ((HCI.out W hb).mono ?_);rintro e w' ⟨v,rfl,ho,hb'⟩;obtain⟨A',c',h1,_,_,_,_⟩:=Q0i ho;rw [HZN.out] at h1;subst h1;exact⟨_,rfl,hb',A',c',rfl,OwnN.more ho (by have:=hb.size; have:=HX.out.size; omega)⟩
  have e0:=sJ (hd 1) 4;obtain⟨A',c',e1,h1⟩:=(sG (hd 4) 7:);exact Q0j rfl (.agg (crC f A' n c')) (by go_simp; rfl) ⟨A',c',rfl,h1⟩
 intro ff W hbW hd;obtain⟨A',c',e8,ho⟩:=hd 5 (by omega) _ 8 rfl rfl;have K22:=sH (K2.out.below' hbW);have HLW:=sH (HX.out.trans (hbW.mono hs1));have HO:=sH ho;have hl2:=K2.out.lt;have HGN:=sH (fun b (hb:(Value.slice A' n c').ownBlock=some b)=>(show b≠g2 from fun e=>Q05 ho K22.out (by decide) (by rw [hb,e])));clear hd hbW ho;simp only [Q0F,tU,e8];try simp only [Act.put,sA]
 go_wp2_with (refine Q00 (o:=⟨none,_,_,_,_,_⟩) rfl 77 (.tmp 2) (.tmp 8) rfl g2 0 (crC f A' n c') rfl rfl 77 _ K22.out (Q1M _ _ _ _) (by simp [crC]) (Q1h _ _ _ _) ?_; intro w7 hT7 hD7; rw [Q3i] at hD7)
 refine bodyPost_ret (Q0t rfl _ _ g2 2 77 _ _ rfl hD7 zV rfl rfl rfl) rfl ⟨A',c',rfl,HO.out.keep_ fun b hb=>hT7.block b (HGN.out b hb),hT7.below HLW.out hgw⟩
theorem Qau (f:Int) (A:Option zA) (n c:Nat) (zs:List Int) (z:Int) (w:zB) (B:Nat) (h:Q08 w B 1 A n (zs.map vn)) (hB:B<=w.heap.size) (hn:n<=17592186044416) :
 zG zI 108 #[.agg (crC f A n c),.int .i64 z] w fun e w'=>e=.returned (.bool (okCB f zs && decide (z∈zs)))/\zE w.heap.size w w':=by
 have HX:=sH (Q04 w (.cells (crC f A n c) 77));have HK:=sH (Blk.newAt rfl:Blk (w.alloc (.cells (crC f A n c) 77)) w.heap.size 77 (crC f A n c));have HCK:=sH (fun(W:zB) (hb:zE w.heap.size w W)=>Q3c f A n c zs W B (h.below (hb.mono hB)) (by have:=hb.size; omega) hn);have HIN:=sH (fun(W:zB) (hb:zE w.heap.size w W)=>Q5K A n c zs z W B (h.below (hb.mono hB)) hn);obtain⟨q,hq⟩:∃ q,q=okCB f zs:=⟨_,rfl⟩;obtain⟨r,hr⟩:∃ q,q=decide (z∈zs):=⟨_,rfl⟩;rw [<- hr,<- hq];rw [<- hq] at HCK;rw [<- hr] at HIN;obtain⟨D,hD⟩:∃ D,D=crC f A n c:=⟨_,rfl⟩;have HDE:=sH hD;have HDS:=sH (show D.size=2 by rw [hD]; rfl);rw [<- hD] at HK HX HCK ⊢;clear h hq hr hD;obtain⟨g,hg⟩:∃ g,g=w.heap.size:=⟨_,rfl⟩;go_enter Tryz.func108,Tryz.ntmps108
 go_upto_region 1 with fail
 generalize zS w _=w1 at HX HK ⊢;rw [<- hg] at HK ⊢;have HC1:=sH (HCK.out w1 HX.out);have hs1:=HX.out.size;clear hg HCK;go_wp2_with (refine Q01 (o:=⟨some 5,_,_,_,_,_⟩) rfl 77 (.tmp 2) rfl g 0 2 rfl 77 _ D _ HK.out zV rfl rfl HDS.out (fun _ _=>by rw [zN]) ?_)
 refine HC1.out.mono ?_;rintro _ w2 ⟨rfl,hb2⟩;have HB2:=sH (HX.out.trans (hb2.mono hs1));have c1:w2.cell? ⟨g,1,none⟩=some (.slice A n c):=((HK.out.below' hb2).cell 1).trans (by rw [HDE.out]; rfl);clear hb2 HC1;cases q with
 | false =>
  simp only [Bool.false_eq_true,if_false,Bool.false_and];go_wp2_with fail
  go_ret
  exact⟨rfl,HB2.out⟩
 | true =>
  simp only [if_true,Bool.true_and];go_wp2_with fail
  refine(HIN.out w2 HB2.out).mono ?_;rintro _ _ ⟨rfl,rfl⟩;go_wp2_with fail
  go_ret
  exact⟨rfl,HB2.out⟩
theorem QaY (f:Nat) (A:Option zA) (n c:Nat) (zs:List Int) (o:Int) (w:zB) (B:Nat) (h:Q08 w B 1 A n (zs.map vn)) (hB:B<=w.heap.size) (hok:OkC f zs) :
 zG zI 165 #[.agg (crC (f:Int) A n c),.int .i64 o] w fun e w'=>∃ v,e=.returned v/\OwnN w' w.heap.size v (Q28 zs o)/\zE w.heap.size w w':=by
 have hzn:zs.length=n:=by have:=h.1; simpa using this
 have hsh:=hok.short;have HX:=sH (Q04 w (.cells (crC (f:Int) A n c) 77));have HK:=sH (Blk.newAt rfl:Blk (w.alloc (.cells (crC (f:Int) A n c) 77)) w.heap.size 77 (crC (f:Int) A n c));have HCK:=sH (fun(W:zB) (hb:zE w.heap.size w W)=>(by have:=Q3c (f:Int) A n c zs W B (h.below (hb.mono hB)) (by have:=hb.size; omega) (by omega);rw [Q4a hok,if_pos rfl] at this;exact this:zG zI 136 #[.agg (crC (f:Int) A n c)] W fun e w'=>e=.returned (.int .i64 0)/\zE W.heap.size W w'))
 have H:=sH (h.more hB);have HZN:=sH hzn;have hn7:n<=7:=by omega
 obtain⟨i0,hi0,hz0,hz1,hz2⟩:=info_parts Q3e;obtain⟨D,hD⟩:∃ D,D=crC (f:Int) A n c:=⟨_,rfl⟩;have HDE:=sH hD;have HDS:=sH (show D.size=2 by rw [hD]; rfl);rw [<- hD] at HK HX HCK ⊢;clear h hB hD hzn hsh;obtain⟨g,hg⟩:∃ g,g=w.heap.size:=⟨_,rfl⟩;go_enter Tryz.func165,Tryz.ntmps165
 go_upto_region 1 with fail
 generalize zS w _=w1 at HX HK ⊢;rw [<- hg] at HK ⊢;have hgw:w.heap.size<=g:=by omega
 clear hg;go_wp2_with fail
 go_loopw [5,6] (fun ov iv wr=>∃ i:Nat,i<=n/\iv=.int .i64 i/\OwnN wr w.heap.size ov (Q28 (zs.take i) o)/\Blk wr g 77 D/\zE w.heap.size w wr) (fun _ iv _=>n - (intOf iv).toNat)
 case atStart=>exact⟨0,by omega,rfl,OwnN.nil_ _ _,HK.out,HX.out⟩
 clear HX HK
 obtain⟨i,hi,rfl,hown,hblk,hlow⟩:=hrel;have HOW:=sH hown;have HBK:=sH hblk;have HLO:=sH hlow;have hlsz:=hlow.size;have c1:wr.cell? ⟨g,1,none⟩=some (.slice A n c):=(hblk.cell 1).trans (by rw [HDE.out]; rfl);by_cases hin:i<n
 ·obtain⟨ad,u,hA,hadb,hxi,hcell⟩:=(H.out.below hlow).at_ hin;have hil:i<zs.length:=by have:=HZN.out; omega
  have hu:u=.int .i64 zs[i]:=by
   rw [zH,zD hil] at hxi;injection hxi with hxi
   exact hxi.symm
  subst hu;have htk:zs.take (i+1)=zs.take i++[zs[i]]:=zR hil;have HTK:=sH htk;generalize zs[i]=z at htk hcell HTK;have hinI:(i:Int)<(n:Int):=by omega
  have HC1:=sH (HCK.out wr hlow);have HAD:=sH hcell;subst hA;clear hxi hcell hown hblk hlow htk;go_wp2_with (refine Q2l (o:=⟨some 13,_,_,_,_,_⟩) (Q02 (j:=5) (d:=12) (b:=true) rfl rfl (by first | rfl | (simp; omega))) 77 (.tmp 2) rfl g 0 2 rfl 77 _ D _ HBK.out zV rfl rfl HDS.out (fun _ _=>by rw [zN]) ?_)
  refine HC1.out.mono ?_;rintro _ w2 ⟨rfl,hb2⟩;have hs2:=hb2.size;have hcell2:w2.cell? (ad.add i)=some (.int .i64 z):=(hb2.cell (by rw [Q0a]; omega)).trans HAD.out;have c12:w2.cell? ⟨g,1,none⟩=some (.slice (some ad) n c):=(hb2.cell (p:=⟨g,1,none⟩) HBK.out.lt).trans c1;have HBK2:=sH (HBK.out.below' hb2);have HLO2:=sH (HLO.out.trans (hb2.mono hlsz));have HOW2:=sH (HOW.out.below_ hb2);clear hb2 HC1 c1;by_cases hzo:z=o
  ·have hzb:(z != o)=false:=by simpa using hzo
   have hdr:Q28 (zs.take (i+1)) o=Q28 (zs.take i) o:=by rw [HTK.out];unfold Q28;rw [List.filter_append];simp [hzo]
   have HDR:=sH hdr;clear hzo hdr;go_wp2_with fail
   go_roundw
   case rel=>exact⟨i+1,by omega,by go_num,by rw [HDR.out]; exact HOW2.out,HBK2.out,HLO2.out⟩
   case measure=>simp [intOf]; omega
  have hzb:(z != o)=true:=by simpa using hzo
  have hdr:Q28 (zs.take (i+1)) o=Q28 (zs.take i) o++[z]:=by rw [HTK.out];unfold Q28;rw [List.filter_append];simp [hzo]
  have HDR:=sH hdr;have hdl:(Q28 (zs.take i) o).length<=i:=by unfold Q28;exact Nat.le_trans (List.length_filter_le _ _) (by rw [List.length_take]; omega)
  clear hzo hdr;have HR3:=sH (Q0N w2 #[.int .i64 z] 3);have HW:=sH (show (w2.alloc (.cells #[.int .i64 z] 3)).ownsRow w.heap.size 3 1 _ (Q28 (zs.take i) o).length ((Q28 (zs.take i) o).map vn) from World.ownsRow.alloc HOW2.out (.cells #[.int .i64 z] 3));obtain⟨Ao,co,hov,_⟩:=Q0i HOW2.out;obtain⟨dl,hdle⟩:∃ dl,dl=Q28 (zs.take i) o:=⟨_,rfl⟩;rw [<- hdle] at HW HDR hdl hov HOW2;have hsw:=HLO2.out.size;clear hdle;subst hov;go_wp2_with (at_builtin; go_must (refine Q03 _ rfl (.tmp 26) (.tmp 32) 42 rfl w.heap.size 3 i0 _ 1 8 zU hi0 hz0 hz1 hz2 rfl (by omega) _ dl.length (dl.map vn) rfl HW.out (w2.heap.size+1) (some ⟨w2.heap.size,0,none⟩) 1 1 [.int .i64 z] rfl HR3.out ?c1 ?c2 ?c3 ?c4 ?_))
  case c1=>intro u hu; rw [zT] at hu; subst hu; rfl
  case c2=>unfold maxLen; omega
  case c3=>omega
  case c4=>simp; omega
  intro v6 w6 hown6 hg6 hor6;have hal:=Q04 w2 (.cells #[.int .i64 z] 3);have ho6:OwnN w6 w.heap.size v6 (dl++[z]):=by unfold OwnN;rw [zK,zM];exact hown6
  have hb6:zE w.heap.size w w6:=Q0e (HLO2.out.trans (hal.mono hsw)) (by simp; omega) hg6 (fun b hb=>(Q07 HW.out hb).1);have hk6:Blk w6 g 77 D:=(hg6.block g (by have:=HBK2.out.lt; simp; omega) (fun e=>Q05 HW.out (HBK2.out.below' hal) (by decide) e.symm)).trans (HBK2.out.below' hal);have HO6:=sH ho6;have HB6:=sH hb6;have HK6:=sH hk6;clear hown6 hg6 hor6 ho6 hb6 hk6 hal;go_wp2_with fail
  go_roundw
  case rel=>exact⟨i+1,by omega,by go_num,by rw [HDR.out]; exact HO6.out,HK6.out,HB6.out⟩
  case measure=>simp [intOf]; omega
 obtain rfl:i=n:=by omega
 rw [zP (by have:=HZN.out; omega)] at hown;have HOW3:=sH hown;have hinI:¬ (i:Int)<(i:Int):=by omega
 clear hown hblk hlow;go_wp2_with fail
 go_ret
 exact⟨_,rfl,HOW3.out,HLO.out⟩
def ofL (l:List Int) (n:Nat):List Int:=((List.range n).map (fun i:Nat=>(i:Int)+1)).filter (fun z=>decide (z∈l))
theorem ofL_yes (l:List Int) (n:Nat) (h:((n:Int)+1)∈l):ofL l (n+1)=ofL l n++[(n:Int)+1]:=by unfold ofL;rw [List.range_succ,zM,List.filter_append];simp [h]
theorem ofL_no (l:List Int) (n:Nat) (h:¬ ((n:Int)+1)∈l):ofL l (n+1)=ofL l n:=by unfold ofL;rw [List.range_succ,zM,List.filter_append];simp [h]
theorem ofL_len (l:List Int) (n:Nat):(ofL l n).length<=n:=by unfold ofL;exact Nat.le_trans (List.length_filter_le _ _) (by simp)
theorem ofL_mem (l:List Int) (n:Nat) (x:Int):x∈ofL l n <-> 1<=x/\x<=n/\x∈l:=by
 unfold ofL;rw [List.mem_filter,List.mem_map];simp only [List.mem_range,decide_eq_true_eq];constructor
 ·rintro ⟨⟨i,hi,rfl⟩,h⟩;exact⟨by omega,by omega,h⟩
 rintro ⟨h1,h2,h3⟩;exact⟨⟨(x - 1).toNat,by omega,by omega⟩,h3⟩
theorem ofL_pair (l:List Int) (n:Nat):(ofL l n).Pairwise (· < ·):=by unfold ofL;refine List.Pairwise.filter _ ?_;rw [List.pairwise_map];exact List.pairwise_lt_range.imp fun h=>by omega
theorem Q8v:∀ (a b:List Int),a.Pairwise (· < ·)->b.Pairwise (· < ·)->(∀ x,x∈a <-> x∈b)->a=b
 | [],[],_,_,_=>rfl
 | [],y :: t,_,_,h=>absurd ((h y).2 (zQ ..)) (by simp)
 | x :: s,[],_,_,h=>absurd ((h x).1 (zQ ..)) (by simp)
 | x :: s,y :: t,ha,hb,h=>by
  have pa:=List.pairwise_cons.1 ha;have pb:=List.pairwise_cons.1 hb;have hxy:x=y:=by
   rcases List.mem_cons.1 ((h x).1 (zQ ..)) with e | e
   ·exact e
   rcases List.mem_cons.1 ((h y).2 (zQ ..)) with e' | e'
   ·exact e'.symm
   have:=pb.1 x e; have:=pa.1 y e'; omega
  subst hxy;congr 1
  refine Q8v s t pa.2 pb.2 fun z=>⟨fun hz=>?_,fun hz=>?_⟩
  ·rcases List.mem_cons.1 ((h z).1 (List.mem_cons_of_mem _ hz)) with e | e
   ·have:=pa.1 z hz; omega
   exact e
  rcases List.mem_cons.1 ((h z).2 (List.mem_cons_of_mem _ hz)) with e | e
  ·have:=pb.1 z hz; omega
  exact e
theorem ofL_repl {f:Nat} {l:List Int} {o z:Int} (hok:OkC f l) (hg:Q22 l o z):ofL (Q28 l o++[z]) 28=Q1L l o z:=by
 have h2:=hok.repl hg.1 hg.2.1 hg.2.2.1 hg.2.2.2;refine Q8v _ _ (ofL_pair _ _) h2.pair fun x=>?_
 rw [ofL_mem,Qap,List.mem_append,zT,Q4y];constructor
 ·rintro ⟨_,_,e | e⟩
  ·exact .inr e
  exact .inl e
 rintro (e | e)
 ·subst e; exact⟨hg.2.2.1,hg.2.2.2,.inr rfl⟩
 have:=hok.bound e.1;exact⟨by omega,by omega,.inl e⟩
theorem r8of_any (f:Int) (A:Option zA) (n c:Nat) (l:List Int) (w:zB) (B:Nat) (h:Q08 w B 1 A n (l.map vn)) (hB:B<=w.heap.size) (hn:n<=17592186044416) :
 zG zI 164 #[.int .i64 f,.slice A n c] w fun e w'=>∃ A' c',e=.returned (.agg (crC f A' (ofL l 28).length c'))/\OwnN w' w.heap.size (.slice A' (ofL l 28).length c') (ofL l 28)/\zE w.heap.size w w':=by
 have hX:zE w.heap.size w (w.alloc (.cells #[.int .i64 0,.slice none 0 0] 77)):=(zL _ _).alloc (zJ _) _;have k1:Blk (w.alloc (.cells #[.int .i64 0,.slice none 0 0] 77)) w.heap.size 77 (crC 0 none 0 0):=Blk.newAt rfl;have HX:=sH hX;have K1:=sH k1;have HIN:=sH (fun(z:Int) (W:zB) (hb:zE w.heap.size w W)=>Q5K A n c l z W B (h.below (hb.mono hB)) hn);obtain⟨i0,hi0,hz0,hz1,hz2⟩:=info_parts Q3e;obtain⟨g4,hg4⟩:∃ g,g=w.heap.size:=⟨_,rfl⟩;clear hX k1 h hB;go_enter Tryz.func164,Tryz.ntmps164
 go_upto_region 1 with fail
 generalize zS w _=w1 at HX K1 ⊢;rw [<- hg4] at K1 ⊢;have hgw4:w.heap.size<=g4:=by omega
 have hs1:=HX.out.size;clear hg4;go_upto_region 2 with(refine Q00 (o:=⟨none,_,_,_,_,_⟩) rfl 77 (.tmp 5) (.tmp 8) rfl w1.heap.size 0 (crC f none 0 0) rfl rfl 77 (crC 0 none 0 0) (Blk.newAt rfl) (Q1M _ _ _ _) (by simp [crC]) (Q1h _ _ _ _) ?_; intro w2 hT2 hD2; rw [Q3i] at hD2)
 have hb2:zE w1.heap.size w1 w2:=hT2.below ((zL _ _).alloc (zJ _) _) (zJ _);obtain⟨g5,hg5⟩:∃ g,g=w1.heap.size:=⟨_,rfl⟩;rw [<- hg5] at hD2 ⊢;have hgw5:w.heap.size<=g5:=by omega
 have hg45:g4≠g5:=by have:=K1.out.lt; omega
 have HB2:=sH (HX.out.trans (hb2.mono hs1));have HD2:=sH hD2;have HK2:=sH (K1.out.below' hb2);clear hT2 hD2 hb2 hg5 HX K1;go_wp2_with fail
 go_loopw [6] (fun iv wr=>∃ (k:Nat) (A':Option zA) (c':Nat),k<=28/\iv=.int .i64 ((k:Int)+1)/\Blk wr g5 77 (crC f A' (ofL l k).length c')/\OwnN wr w.heap.size (.slice A' (ofL l k).length c') (ofL l k)/\Blk wr g4 77 (crC 0 none 0 0)/\zE w.heap.size w wr) (fun iv _=>29 - (intOf iv).toNat)
 case atStart=>exact⟨0,none,0,by omega,rfl,HD2.out,OwnN.nil_ _ _,HK2.out,HB2.out⟩
 clear HD2 HK2 HB2
 obtain⟨k,A',c',hk,rfl,hb5,hown,hb4,hlow⟩:=hrel;have HO:=sH hown;have H5:=sH hb5;have H4:=sH hb4;have HL:=sH hlow;have hls:=hlow.size;have hol:=ofL_len l k;obtain⟨p,hp⟩:∃ p,p=(ofL l k).length:=⟨_,rfl⟩;rw [<- hp] at hol;have HP:=sH hp;by_cases hk1:k<28
 ·have hkI:(k:Int)+1<=28:=by omega
  have HI:=sH (HIN.out ((k:Int)+1) wr hlow);clear hb5 hown hb4 hlow hp;by_cases hin:((k:Int)+1)∈l
  ·rw [decide_eq_true hin] at HI;have HY:=sH (ofL_yes l k hin);have c51:wr.cell? ⟨g5,1,none⟩=some (.slice A' p c'):=(H5.out.cell 1).trans (by rw [HP.out]; rfl);have HR3:=sH (Q0N wr #[.int .i64 ((k:Int)+1)] 3);have HW:=sH (show (wr.alloc (.cells #[.int .i64 ((k:Int)+1)] 3)).ownsRow w.heap.size 3 1 (.slice A' p c') p ((ofL l k).map vn) from by
    have:=World.ownsRow.alloc HO.out (.cells #[.int .i64 ((k:Int)+1)] 3);rw [<- HP.out] at this;exact this)
   clear hin;go_wp2_with fail
   refine HI.out.mono ?_;rintro _ _ ⟨rfl,rfl⟩;go_wp2_with (at_builtin; go_must (refine Q03 _ rfl (.tmp 17) (.tmp 19) 42 rfl w.heap.size 3 i0 _ 1 8 zU hi0 hz0 hz1 hz2 rfl (by omega) _ p ((ofL l k).map vn) rfl HW.out (wr.heap.size+1) (some ⟨wr.heap.size,0,none⟩) 1 1 [.int .i64 ((k:Int)+1)] rfl HR3.out ?c1 ?c2 ?c3 ?c4 ?_))
   case c1=>intro u hu; rw [zT] at hu; subst hu; rfl
   case c2=>unfold maxLen; omega
   case c3=>omega
   case c4=>simp; omega
   intro v6 w6 hown6 hg6 hor6;have hal:=Q04 wr (.cells #[.int .i64 ((k:Int)+1)] 3);have ho6:OwnN w6 w.heap.size v6 (ofL l (k+1)):=by unfold OwnN;rw [HY.out,zK,zM,<- HP.out];exact hown6
   have hb6:zE w.heap.size w w6:=Q0e (HL.out.trans (hal.mono hls)) (by simp; omega) hg6 (fun b hb=>(Q07 HW.out hb).1);have hk5:Blk w6 g5 77 (crC f A' (ofL l k).length c'):=(hg6.block g5 (by have:=H5.out.lt; simp; omega) (fun e=>Q05 HW.out (H5.out.below' hal) (by decide) e.symm)).trans (H5.out.below' hal);have hk4:Blk w6 g4 77 (crC 0 none 0 0):=(hg6.block g4 (by have:=H4.out.lt; simp; omega) (fun e=>Q05 HW.out (H4.out.below' hal) (by decide) e.symm)).trans (H4.out.below' hal);obtain⟨A6,c6,hv6,_⟩:=Q0i ho6;obtain⟨p6,hp6⟩:∃ p,p=(ofL l (k+1)).length:=⟨_,rfl⟩;have HP6:=sH hp6;rw [<- hp6] at hv6;subst hv6;have cc5:=(hk5.cell 1).trans (rfl:(crC f A' (ofL l k).length c')[1]?=some (.slice A' (ofL l k).length c'));have cf5:=hk5.frozen 1;have HK5:=sH hk5;have HK4:=sH hk4;have HO6:=sH ho6;have HB6:=sH hb6;clear hown6 hg6 hor6 ho6 hb6 hk5 hk4 hal hp6;go_wp2_with fail
   go_roundw
   case rel =>
    have hT:=Q0b.setCell w6 ⟨g5,1,none⟩ (.slice A6 p6 c6);refine⟨k+1,A6,c6,by omega,by go_num,?_,?_,hT.blk HK4.out hg45,hT.below HB6.out hgw5⟩
    ·have:=HK5.out.set_ 1 (.slice A6 p6 c6);rw [<- HP6.out];exact this
    rw [<- HP6.out];exact HO6.out.keep_ fun b hb=>hT.block b fun e=>Q05 HO6.out HK5.out (by decide) (by rw [hb,e])
   case measure=>simp [intOf]; omega
  rw [decide_eq_false hin] at HI;have HY:=sH (ofL_no l k hin);clear hin;go_wp2_with fail
  refine HI.out.mono ?_;rintro _ _ ⟨rfl,rfl⟩;go_wp2_with fail
  go_roundw
  case rel=>exact⟨k+1,A',c',by omega,by go_num,by rw [HY.out]; exact H5.out,by rw [HY.out]; exact HO.out,H4.out,HL.out⟩
  case measure=>simp [intOf]; omega
 obtain rfl:k=28:=by omega
 have hkI:¬ ((28:Nat):Int)+1<=28:=by omega
 obtain⟨D,hD⟩:∃ D,D=crC f A' (ofL l 28).length c':=⟨_,rfl⟩;rw [<- hD] at H5;have HDE:=sH hD;have HDS:=sH (show D.size=2 by rw [hD]; rfl);have HDO:=sH (show D.all (·.oneCell')=true by rw [hD]; exact Q1h _ _ _ _);have HSP:=sH (show spl (crC 0 none 0 0) 0 D.toList=D by rw [hD]; exact Q3i _ _ _ _ _ _ _ _);clear hb5 hown hb4 hlow hp hD;go_wp2_with (first
  | (refine Q01 (o:=⟨some 22,_,_,_,_,_⟩) rfl 77 (.tmp 5) rfl g5 0 2 rfl 77 _ D _ H5.out zV rfl rfl HDS.out (fun _ _=>by rw [zN]) ?_)
  | (refine Q00 (o:=⟨none,_,_,_,_,_⟩) rfl 77 (.tmp 4) (.tmp 22) rfl g4 0 D rfl rfl 77 _ H4.out (by rw [HDS.out]; kernel_rfl) (by rw [HDS.out]; simp [crC]) HDO.out ?_; intro w7 hT7 hD7; rw [HSP.out] at hD7))
 refine bodyPost_ret (Q0t rfl _ _ g4 2 77 _ _ rfl hD7 zV rfl rfl HDS.out) rfl ⟨A',c',by rw [HDE.out],HO.out.keep_ fun b hb=>hT7.block b fun e=>Q05 HO.out H4.out (by decide) (by rw [hb,e]),hT7.below HL.out hgw4⟩
theorem Q9a (f:Nat) (A:Option zA) (n c:Nat) (l:List Int) (o z:Int) (w:zB) (B:Nat) (h:Q08 w B 1 A n (l.map vn)) (hB:B<=w.heap.size) (hok:OkC f l) (hg:Q22 l o z) :
 zG zI 140 #[.agg (crC (f:Int) A n c),.int .i64 o,.int .i64 z] w fun e w'=>∃ A' c',e=.returned (.tuple #[.agg (crC (f:Int) A' n c'),.int .i64 0])/\OwnN w' w.heap.size (.slice A' n c') (Q1L l o z)/\zE w.heap.size w w':=by
 have hzn:l.length=n:=by have:=h.1; simpa using this
 have hsh:=hok.short;have hX:zE w.heap.size w ((w.alloc (.cells (crC (f:Int) A n c) 77)).alloc (.cells #[.int .i64 0,.slice none 0 0] 77)):=((zL _ _).alloc (zJ _) _).alloc (by simp) _;have k1:Blk ((w.alloc (.cells (crC (f:Int) A n c) 77)).alloc (.cells #[.int .i64 0,.slice none 0 0] 77)) w.heap.size 77 (crC (f:Int) A n c):=(Blk.newAt rfl).alloc _;have k2:Blk ((w.alloc (.cells (crC (f:Int) A n c) 77)).alloc (.cells #[.int .i64 0,.slice none 0 0] 77)) (w.heap.size+1) 77 (crC 0 none 0 0):=Blk.newAt (by simp);have HCK':=sH (fun(W:zB) (hb:zE w.heap.size w W)=>(by have:=Q3c (f:Int) A n c l W B (h.below (hb.mono hB)) (by have:=hb.size; omega) (by omega);rw [Q4a hok,if_pos rfl] at this;exact this:zG zI 136 #[.agg (crC (f:Int) A n c)] W fun e w'=>e=.returned (.int .i64 0)/\zE W.heap.size W w'))
 have HIO:=sH (fun(W:zB) (hb:zE w.heap.size w W)=>(by have:=Q5K A n c l o W B (h.below (hb.mono hB)) (by omega);rw [decide_eq_true hg.1] at this;exact this:zG zI 143 #[.slice A n c,.int .i64 o] W fun e w'=>e=.returned (.bool true)/\W=w'))
 have HIZ:=sH (fun(W:zB) (hb:zE w.heap.size w W)=>(by have:=Q5K A n c l z W B (h.below (hb.mono hB)) (by omega);rw [decide_eq_false hg.2.1] at this;exact this:zG zI 143 #[.slice A n c,.int .i64 z] W fun e w'=>e=.returned (.bool false)/\W=w'))
 have HNO:=sH (fun(W:zB)=>(by have:=Q8W z W;rw [decide_eq_true hg.2.2] at this;exact this:zG zI 163 #[.int .i64 z] W fun e w'=>e=.returned (.bool true)/\W=w'))
 have HOT':=sH (fun(W:zB) (hb:zE w.heap.size w W)=>QaY f A n c l o W B (h.below (hb.mono hB)) (by have:=hb.size; omega) hok);obtain⟨dl,hdl⟩:∃ dl,dl=Q28 l o:=⟨_,rfl⟩;obtain⟨k,hk⟩:∃ k,k=dl.length+1:=⟨_,rfl⟩;have hrl:ofL (dl++[z]) 28=Q1L l o z:=by rw [hdl]; exact ofL_repl hok hg
 have hrn:(Q1L l o z).length=n:=by have:=(hok.repl hg.1 hg.2.1 hg.2.2.1 hg.2.2.2).len; have:=hok.len; omega
 have hdn:k=n:=by have:=Q5E l o hok.pair hg.1; rw [hk,hdl]; omega
 rw [<- hdl] at HOT';have HOF':=sH (fun(W:zB) (A':Option zA) (c':Nat) (B':Nat) (ho:OwnN W B' (.slice A' k c') (dl++[z]))=>(by
  have hkl:(dl++[z]).length=k:=by rw [zK,hk]; rfl
  obtain⟨A2,c2,q1,_,_,hr,_⟩:=Q0i ho;rw [hkl] at q1 hr;injection q1 with q1 _ q3
  subst q1;have:=r8of_any (f:Int) A' k c' (dl++[z]) W W.heap.size hr (zJ _) (by omega);rw [hrl,hrn] at this;exact this:zG zI 164 #[.int .i64 (f:Int),.slice A' k c'] W fun e w'=>∃ A2 c2,e=.returned (.agg (crC (f:Int) A2 n c2))/\OwnN w' W.heap.size (.slice A2 n c2) (Q1L l o z)/\zE W.heap.size W w'))
 have HKK:=sH (show dl.length+1=k from hk.symm);have hk7:k<=7:=by omega
 have HX:=sH hX;have K1:=sH k1;have K2:=sH k2;obtain⟨D,hD⟩:∃ D,D=crC (f:Int) A n c:=⟨_,rfl⟩;have HDE:=sH hD;have HDS:=sH (show D.size=2 by rw [hD]; rfl);have C0:=sH (show D[0]?=some (.int .i64 (f:Int)) by rw [hD]; rfl);rw [<- hD] at K1 K2 HX HCK' HOT' ⊢;obtain⟨g,hg'⟩:∃ g,g=w.heap.size:=⟨_,rfl⟩;obtain⟨g6,hg6⟩:∃ g,g=w.heap.size+1:=⟨_,rfl⟩;obtain⟨i0,hi0,hz0,hz1,hz2⟩:=info_parts Q3e;clear hX k1 k2 h hzn hsh hdl hk hrl hrn hdn hD hg hB;go_enter Tryz.func140,Tryz.ntmps140
 go_upto_region 1 with fail
 generalize zS (zS w _) _=w1 at HX K1 K2 ⊢;rw [<- hg6] at K2 ⊢;rw [<- hg'] at K1 ⊢;have hgw:w.heap.size<=g:=by omega
 have hgw6:w.heap.size<=g6:=by omega
 have hgg:g≠g6:=by omega
 have HC1:=sH (HCK'.out w1 HX.out);have hs1:=HX.out.size;clear hg' hg6 HCK';go_wp2_with (refine Q01 (o:=⟨some 8,_,_,_,_,_⟩) rfl 77 (.tmp 3) rfl g 0 2 rfl 77 _ D _ K1.out zV rfl rfl HDS.out (fun _ _=>by rw [zN]) ?_)
 refine HC1.out.mono ?_;rintro _ w2 ⟨rfl,hb2⟩;have hs2:=hb2.size;have HB2:=sH (HX.out.trans (hb2.mono hs1));have HK2:=sH (K1.out.below' hb2);have HG2:=sH (K2.out.below' hb2);have c1:w2.cell? ⟨g,1,none⟩=some (.slice A n c):=(HK2.out.cell 1).trans (by rw [HDE.out]; rfl);clear hb2 HC1 HX K1 K2;go_wp2_with fail
 refine(HNO.out w2).mono ?_;rintro _ _ ⟨rfl,rfl⟩;go_wp2_with fail
 refine(HIO.out w2 HB2.out).mono ?_;rintro _ _ ⟨rfl,rfl⟩;go_wp2_with fail
 refine(HIZ.out w2 HB2.out).mono ?_;rintro _ _ ⟨rfl,rfl⟩;go_upto_region 7 with fail
 obtain⟨w4,hw4⟩:∃ w4,w4=w2:=⟨_,rfl⟩;rw [<- hw4] at HB2 HK2 HG2 ⊢;have HK4:=HK2;have hsz2:=HB2.out.size;have HOT:=sH (fun(W:zB) (hb:zE w4.heap.size w4 W)=>HOT'.out W (HB2.out.trans (hb.mono hsz2)));have HOF:=sH (fun(W:zB) (A':Option zA) (c':Nat) (ho:OwnN W w4.heap.size (.slice A' k c') (dl++[z]))=>HOF'.out W A' c' _ ho);clear hw4 c1 HOT' HOF';refine Q4w 9 37 (fun jx W v=>match jx with | 0=>v=.pointer (some ⟨g,0,none⟩) | 1=>v=.int .i64 (f:Int) | 2=>v=.agg D | 3=>v=.int .i64 o | 4=>∃ u,v=u/\OwnN W w4.heap.size u dl | 5=>v=.int .i64 z | 6=>∃ g9,v=.slice (some ⟨g9,0,none⟩) 1 1/\w4.heap.size<=g9/\Blk W g9 3 #[.int .i64 z] | 7=>∃ A' c',v=.slice A' k c'/\OwnN W w4.heap.size (.slice A' k c') (dl++[z]) | 8=>∃ A' c',v=.agg (crC f A' n c')/\OwnN W w4.heap.size (.slice A' n c') (Q1L l o z) | _=>True) (fun _ W=>zE w4.heap.size w4 W) (fun _ _=>True) [7] (fun _=>[4,6]) (fun _=>[8]) [28,29,30,31,32,33,34,35,36] (by kernel_rfl) (by kernel_rfl) (by kernel_rfl) (by kernel_rfl) (by kernel_rfl) (by kernel_rfl) (by simp) (by kernel_rfl) (fun jx=>?last) ?lastR ?jay (zL _ _) ?heads ?_
 case last =>
  match jx with
  | 0 | 1 | 2 | 3 | 5 | jx+9=>exact Q15.pure _
  | 4=>exact fun W W' v ⟨u,h1,h2⟩ hb=>⟨u,h1,h2.below_ hb⟩
  | 6=>exact fun W W' v ⟨g9,h1,h2,h3⟩ hb=>⟨g9,h1,h2,h3.below' hb⟩
  | 7=>exact fun W W' v ⟨A',c',h1,h2⟩ hb=>⟨A',c',h1,h2.below_ hb⟩
  | 8=>exact fun W W' v ⟨A',c',h1,h2⟩ hb=>⟨A',c',h1,h2.below_ hb⟩
 case lastR =>
  intro s jx W W' v hsl hdd hlt hs hj hp hr;match jx with
  | 0 | 1 | 2 | 3 | 5 | jx+9=>exact hp
  | 4=>exact absurd (by decide) hdd
  | 6=>exact absurd (by decide) hdd
  | 7=>exact absurd (by simp at hsl; subst hsl; rfl) (hs 0 (by simp at hsl; omega))
  | 8=>exact absurd (by decide) hlt
 case jay =>intro s W W' hj hb;exact hj.trans (hb.mono hj.size)
 case heads =>
  simp only [tT];and_intros;rotate_right;trivial
  all_goals try(rw [if_neg (by decide)];intro s a W hj hkp hd)
  ·have e0:(_:zC)=.pointer (some ⟨g,0,none⟩):=sK hkp 3;exact sV
  ·have e0:=sJ (hd 0) 28;have cc:W.cell? ⟨g,0,none⟩=some (.int .i64 (f:Int)):=(HK4.out.below' hj |>.cell 0).trans C0.out;exact sV
  ·have e0:a.eval (.tmp 3)=.pointer (some ⟨g,0,none⟩):=by have:=hkp.at_ (d:=3) (by kernel_rfl); rw [this]; rfl
   exact Q0j rfl (.agg D) (Q0p 77 (.tmp 3) rfl g 0 2 e0 77 _ D _ (HK4.out.below' hj) zV rfl rfl HDS.out (fun _ _=>by rw [zN])) rfl
  ·have e0:(_:zC)=.int .i64 o:=sK hkp 1;exact sV
  ·have e0:=sJ (hd 2) 30;have e1:=sJ (hd 3) 31;refine Q0u rfl 165 #[.agg D,.int .i64 o] (by go_simp) ((HOT.out W hj).mono ?_);rintro e w' ⟨v,rfl,ho,hb⟩;exact⟨_,rfl,hb,v,rfl,OwnN.more ho hj.size⟩
  ·have e0:(_:zC)=.int .i64 z:=sK hkp 2;exact sV
  ·have e0:=sJ (hd 5) 33;exact Q1X rfl (.slice (some ⟨W.heap.size,0,none⟩) 1 1) (W.alloc (.cells #[.int .i64 z] 3)) (by go_simp) (Q04 _ _) ⟨W.heap.size,rfl,hj.size,Blk.new W _ _⟩
  ·rw [if_pos (by decide)];intro s a W hs hj hkp hd;obtain⟨u,e32,ho⟩:=(sG (hd 4) 32:);obtain⟨g9,e34,hg9,hr9⟩:=(sG (hd 6) 34:);have e32':a.eval (.tmp 32)=u:=by simpa [Act.eval] using e32
   have e34':a.eval (.tmp 34)=.slice (some ⟨g9,0,none⟩) 1 1:=by simpa [Act.eval] using e34
   refine Q7w rfl (.tmp 32) (.tmp 34) 42 rfl w4.heap.size 3 i0 _ 1 8 zU hi0 hz0 hz1 hz2 rfl (by omega) u dl.length (dl.map vn) e32' ho (g9+1) (some ⟨g9,0,none⟩) 1 1 [.int .i64 z] e34' ⟨rfl,fun _=>⟨_,rfl,by show g9<g9+1; omega,fun j u hu=>?_⟩⟩ (fun u hu=>by rw [List.mem_singleton.1 hu]; rfl) (by have:=HKK.out; unfold maxLen; omega) (by have:=HKK.out; omega) hj.size ?_
   ·match j,hu with
    | 0,hu=>rw [<- hu]; exact(hr9.cell 0).trans rfl
   intro v' w' h2 h3;have h2':OwnN w' w4.heap.size v' (dl++[z]):=by unfold OwnN; rw [zK,zM]; exact h2
   obtain⟨A',c',q1,_,_,_,_⟩:=Q0i h2';have hkl:(dl++[z]).length=k:=by rw [zK]; exact HKK.out
   rw [hkl] at q1;subst q1;exact⟨trivial,Q0e hj hj.size h3 (fun b hb=>ho.ge_ hb),A',c',rfl,h2'⟩
  have e0:=sJ (hd 1) 29;obtain⟨A',c',e35,ho⟩:=(sG (hd 7) 35:);refine Q0u rfl 164 #[.int .i64 (f:Int),.slice A' k c'] (by go_simp) ((HOF.out W A' c' ho).mono ?_);rintro e w' ⟨A2,c2,rfl,ho2,hb2⟩;exact⟨_,rfl,hb2,A2,c2,rfl,OwnN.more ho2 hj.size⟩
 intro ff W hbW hd;obtain⟨A',c',e36,ho⟩:=hd 8 (by omega) (by decide) _ 36 rfl rfl;have K22:=sH (HG2.out.below' hbW);have HLW:=sH (HB2.out.trans (hbW.mono hsz2));have HO:=sH (OwnN.more ho hsz2);clear hd hbW ho;simp only [Q0F,tU,e36];try simp only [Act.put,sA]
 go_wp2_with (refine Q00 (o:=⟨none,_,_,_,_,_⟩) rfl 77 (.tmp 6) (.tmp 36) rfl g6 0 (crC (f:Int) A' n c') rfl rfl 77 _ K22.out (Q1M _ _ _ _) (by simp [crC]) (Q1h _ _ _ _) ?_; intro w7 hT7 hD7; rw [Q3i] at hD7)
 refine bodyPost_ret (Q09 rfl _ _ g6 2 77 _ _ rfl hD7 zV rfl rfl rfl) rfl ⟨A',c',rfl,HO.out.keep_ fun b hb=>hT7.block b fun e=>Q05 HO.out K22.out (by decide) (by rw [hb,e]),hT7.below HLW.out hgw6⟩
def Q3q (zs ys:List Int):Nat:=(zs.filter (fun z=>decide (z∈ys))).length
theorem QbF (f:Nat) (A:Option zA) (n c:Nat) (zs:List Int) (A2:Option zA) (n2 c2:Nat) (ys:List Int) (w:zB) (B:Nat) (h:Q08 w B 1 A n (zs.map vn)) (hB:B<=w.heap.size) (hok:OkC f zs) (h2:Q08 w B 1 A2 n2 (ys.map vn)) (hn2:n2<=17592186044416) :
 zG zI 137 #[.agg (crC (f:Int) A n c),.slice A2 n2 c2] w fun e w'=>e=.returned (.int .i64 (Q3q zs ys:Int))/\zE w.heap.size w w':=by
 have hzn:zs.length=n:=by have:=h.1; simpa using this
 have hsh:=hok.short;have HX:=sH (Q04 w (.cells (crC (f:Int) A n c) 77));have HK:=sH (Blk.newAt rfl:Blk (w.alloc (.cells (crC (f:Int) A n c) 77)) w.heap.size 77 (crC (f:Int) A n c));have HCK:=sH (fun(W:zB) (hb:zE w.heap.size w W)=>(by have:=Q3c (f:Int) A n c zs W B (h.below (hb.mono hB)) (by have:=hb.size; omega) (by omega);rw [Q4a hok,if_pos rfl] at this;exact this:zG zI 136 #[.agg (crC (f:Int) A n c)] W fun e w'=>e=.returned (.int .i64 0)/\zE W.heap.size W w'))
 have HIN:=sH (fun(z:Int) (W:zB) (hb:zE w.heap.size w W)=>Q5K A2 n2 c2 ys z W B (h2.below (hb.mono hB)) hn2);have H:=sH (h.more hB);have HZN:=sH hzn;have hn7:n<=7:=by omega
 obtain⟨D,hD⟩:∃ D,D=crC (f:Int) A n c:=⟨_,rfl⟩;have HDE:=sH hD;have HDS:=sH (show D.size=2 by rw [hD]; rfl);rw [<- hD] at HK HX HCK ⊢;clear h hB hD hzn hsh h2;obtain⟨g,hg⟩:∃ g,g=w.heap.size:=⟨_,rfl⟩;go_enter Tryz.func137,Tryz.ntmps137
 go_upto_region 1 with fail
 generalize zS w _=w1 at HX HK ⊢;rw [<- hg] at HK ⊢;have hgw:w.heap.size<=g:=by omega
 clear hg;go_wp2_with fail
 go_loopw [5,6] (fun ov iv wr=>∃ i q:Nat,i<=n/\iv=.int .i64 i/\ov=.int .i64 q/\q<=i/\q=Q3q (zs.take i) ys/\Blk wr g 77 D/\zE w.heap.size w wr) (fun _ iv _=>n - (intOf iv).toNat)
 case atStart=>exact⟨0,0,by omega,rfl,rfl,by omega,by simp [Q3q],HK.out,HX.out⟩
 clear HX HK
 obtain⟨i,q,hi,rfl,rfl,hqi,hq,hblk,hlow⟩:=hrel;have HQ:=sH hq;have HBK:=sH hblk;have HLO:=sH hlow;have hlsz:=hlow.size;have c1:wr.cell? ⟨g,1,none⟩=some (.slice A n c):=(hblk.cell 1).trans (by rw [HDE.out]; rfl);by_cases hin:i<n
 ·obtain⟨ad,u,hA,hadb,hxi,hcell⟩:=(H.out.below hlow).at_ hin;have hil:i<zs.length:=by have:=HZN.out; omega
  have hu:u=.int .i64 zs[i]:=by
   rw [zH,zD hil] at hxi;injection hxi with hxi
   exact hxi.symm
  subst hu;have htk:zs.take (i+1)=zs.take i++[zs[i]]:=zR hil;have HTK:=sH htk;generalize zs[i]=z at htk hcell HTK;have hinI:(i:Int)<(n:Int):=by omega
  have HC1:=sH (HCK.out wr hlow);have HAD:=sH hcell;subst hA;clear hxi hcell hblk hlow htk hq;go_wp2_with (refine Q2l (o:=⟨some 13,_,_,_,_,_⟩) (Q02 (j:=5) (d:=12) (b:=true) rfl rfl (by first | rfl | (simp; omega))) 77 (.tmp 2) rfl g 0 2 rfl 77 _ D _ HBK.out zV rfl rfl HDS.out (fun _ _=>by rw [zN]) ?_)
  refine HC1.out.mono ?_;rintro _ w2 ⟨rfl,hb2⟩;have hs2:=hb2.size;have hcell2:w2.cell? (ad.add i)=some (.int .i64 z):=(hb2.cell (by rw [Q0a]; omega)).trans HAD.out;have c12:w2.cell? ⟨g,1,none⟩=some (.slice (some ad) n c):=(hb2.cell (p:=⟨g,1,none⟩) HBK.out.lt).trans c1;have HBK2:=sH (HBK.out.below' hb2);have HLO2:=sH (HLO.out.trans (hb2.mono hlsz));have HI2:=sH (HIN.out z w2 HLO2.out);clear hb2 HC1 c1;by_cases hzy:z∈ys
  ·rw [decide_eq_true hzy] at HI2;have HV:=sH (show Q3q (zs.take (i+1)) ys=q+1 by
    rw [HTK.out,HQ.out];unfold Q3q;rw [List.filter_append];simp [hzy])
   clear hzy;go_wp2_with fail
   refine HI2.out.mono ?_;rintro _ _ ⟨rfl,rfl⟩;go_wp2_with fail
   go_roundw
   case rel=>exact⟨i+1,q+1,by omega,by go_num,by go_num,by omega,HV.out.symm,HBK2.out,HLO2.out⟩
   case measure=>simp [intOf]; omega
  rw [decide_eq_false hzy] at HI2;have HV:=sH (show Q3q (zs.take (i+1)) ys=q by rw [HTK.out,HQ.out];unfold Q3q;rw [List.filter_append];simp [hzy])
  clear hzy;go_wp2_with fail
  refine HI2.out.mono ?_;rintro _ _ ⟨rfl,rfl⟩;go_wp2_with fail
  go_roundw
  case rel=>exact⟨i+1,q,by omega,by go_num,rfl,by omega,HV.out.symm,HBK2.out,HLO2.out⟩
  case measure=>simp [intOf]; omega
 obtain rfl:i=n:=by omega
 rw [zP (by have:=HZN.out; omega)] at hq;have hinI:¬ (i:Int)<(i:Int):=by omega
 have HQ2:=sH hq;clear hq hblk hlow;go_wp2_with fail
 go_ret
 exact⟨by rw [<- HQ2.out]; rfl,HLO.out⟩
theorem Qd7 (e1 e2:Int) (A:Option zA) (n c:Nat) (D:Option zA) (m d:Nat) (xs ys:List Int) (w:zB) (B:Nat) (hx:Q08 w B 1 A n (xs.map vn)) (hy:Q08 w B 1 D m (ys.map vn)) (hB:B<=w.heap.size) (hn:n<=maxLen) (hm:m<=maxLen) :
 zG zI 60 #[.agg (crC e1 A n c),.agg (crC e2 D m d)] w fun e w'=>e=.returned (.bool (decide (e1=e2/\xs=ys)))/\zE w.heap.size w w':=by
 have HEI:=sH (fun W (hb:zE w.heap.size w W)=>Q4H A D n m c d xs ys W B B (hx.below (hb.mono hB)) (hy.below (hb.mono hB)) hn hm);have hX:zE w.heap.size w ((w.alloc (.cells (crC e1 A n c) 77)).alloc (.cells (crC e2 D m d) 77)):=((zL _ _).alloc (zJ _) _).alloc (by simp) _;have k1:Blk ((w.alloc (.cells (crC e1 A n c) 77)).alloc (.cells (crC e2 D m d) 77)) w.heap.size 77 (crC e1 A n c):=(Blk.newAt rfl).alloc _;have k2:Blk ((w.alloc (.cells (crC e1 A n c) 77)).alloc (.cells (crC e2 D m d) 77)) (w.heap.size+1) 77 (crC e2 D m d):=Blk.newAt (by simp);have HX:=sH hX;have K1:=sH k1;have K2:=sH k2;obtain⟨C,hC⟩:∃ C,C=crC e1 A n c:=⟨_,rfl⟩;obtain⟨E,hE⟩:∃ E,E=crC e2 D m d:=⟨_,rfl⟩;have c0:C[0]?=some (.int .i64 e1):=by rw [hC]; rfl
 have c1:C[1]?=some (.slice A n c):=by rw [hC]; rfl
 have d0:E[0]?=some (.int .i64 e2):=by rw [hE]; rfl
 have d1:E[1]?=some (.slice D m d):=by rw [hE]; rfl
 rw [<- hC,<- hE] at HX K1 K2 ⊢;have C0:=sH c0;have C1:=sH c1;have D0:=sH d0;have D1:=sH d1;obtain⟨g2,hg2⟩:∃ g,g=w.heap.size:=⟨_,rfl⟩;obtain⟨g3,hg3⟩:∃ g,g=w.heap.size+1:=⟨_,rfl⟩;clear hx hy hX k1 k2 hC hE c0 c1 d0 d1;go_enter Tryz.func60,Tryz.ntmps60
 go_upto_region 1 with fail
 generalize zS (zS w _) _=w1 at HX K1 K2 ⊢;rw [<- hg3] at K2 ⊢;rw [<- hg2] at K1 ⊢;clear hg2 hg3;have e0:=(K1.out.cell 0).trans C0.out;have e1':=(K1.out.cell 1).trans C1.out;have f0:=(K2.out.cell 0).trans D0.out;have f1:=(K2.out.cell 1).trans D1.out;have HE:=sH (HEI.out w1 HX.out);clear K1 K2 HEI;by_cases he:e1=e2
 ·have heb:(e1 == e2)=true:=by simpa using he
  have HH:=sH he;clear he;go_wp2_with fail
  refine HE.out.mono ?_;rintro _ _ ⟨rfl,k,rfl⟩;go_wp2_with fail
  go_ret
  exact⟨Q0C (by simp [HH.out]),Q0v HX.out _⟩
 have heb:(e1 == e2)=false:=by simpa using he
 have HH:=sH he;clear he;go_wp2_with fail
 go_ret
 exact⟨Q0C (by simp [HH.out]),HX.out⟩
end
section
open Go.RowKit Go.Maps
structure ALoc where
 g:Nat
 gc:Nat
 T:Q1G
 k:Book
def ALoc.has (V:ALoc) (b:Nat):Prop:=b=V.g\/b=V.gc\/V.T.mut b\/V.k.has b
def ALoc.all (V:ALoc) (b:Nat):Prop:=b=V.g\/b=V.gc\/V.k.has b\/V.T.has b
def ALoc.hasN (V:ALoc) (N:Nat->Prop) (b:Nat):Prop:=V.has b\/¬ N b
structure ASl where
 arr:Array zC
 cap:Nat
 fA:Nat->Option zA
 fC:Nat->Nat
 nA:Nat->Option zA
 nC:Nat->Nat
 mA:Nat->Option zA
 mC:Nat->Nat
 lA:Nat->Option zA
 lC:Nat->Nat
def Q0H:List (Int×Int)->List zC
 | []=>[]
 | m :: t=>vn m.1 :: vn m.2 :: Q0H t
theorem Q40:∀ l:List (Int×Int),(Q0H l).length=l.length*2
 | []=>rfl
 | m :: t=>by show (Q0H t).length+2=(t.length+1)*2;rw [Q40 t]; omega
theorem Q5g:∀ (a b:List (Int×Int)),Q0H (a++b)=Q0H a++Q0H b
 | [],_=>rfl
 | m :: t,b=>by show vn m.1 :: vn m.2 :: Q0H (t++b)=_;rw [Q5g t b]; rfl
theorem Q3f:∀ (l:List (Int×Int)) (i:Nat) (h:i<l.length),(Q0H l)[i*2]?=some (vn l[i].1)/\(Q0H l)[i*2+1]?=some (vn l[i].2)
 | m :: t,0,_=>⟨rfl,rfl⟩
 | m :: t,i+1,h=>by have:=Q3f t i (by simpa using h);rw [show (i+1)*2=i*2+1+1 by omega];exact this
def srvC (s:Srv) (S:ASl) (i:Nat):Array zC:=#[.int .i64 (s.f:Int),.slice (S.fA i) s.first.length (S.fC i),.int .i64 (s.f:Int),.slice (S.nA i) s.now.length (S.nC i),.slice (S.mA i) s.moves.length (S.mC i)]
def Q2K (S:ASl) (m:AM) (i:Nat):Array zC:=#[.int .i64 ((Q0B m i).1:Int),.int .i64 ((Q0B m i).2.err:Int),.slice none 0 0,.int .i64 ((Q0B m i).2.epoch:Int),.slice (S.lA i) (Q0B m i).2.nodes.length (S.lC i)]
def aF (t:Option zA) (gc:Nat) (m:AM) (S:ASl) (j:Nat):zC :=if j=0 then .pointer t else if j=1 then .slice (some ⟨gc,0,none⟩) m.chunks.length S.cap else(Q2K S m ((j - 2) / 5)).getD ((j - 2) % 5) undef
def aCs (t:Option zA) (gc:Nat) (m:AM) (S:ASl):Array zC:=rng 22 (aF t gc m S)
theorem Q2Y (t:Option zA) (gc:Nat) (m:AM) (S:ASl):(aCs t gc m S).size=22:=Q0A _ _
theorem Q1N (t:Option zA) (gc:Nat) (m:AM) (S:ASl) (j:Nat) (h:j<22):(aCs t gc m S)[j]?=some (aF t gc m S j):=Q1e _ _ _ h
theorem Q9N (t:Option zA) (gc:Nat) (m:AM) (S:ASl) (i j:Nat) (hi:i<4) (hj:j<5):(aCs t gc m S)[2+i*5+j]?=(Q2K S m i)[j]?:=by rw [Q1N _ _ _ _ _ (by omega)];unfold aF;rw [if_neg (by omega),if_neg (by omega),show (2+i*5+j - 2) / 5=i by omega,show (2+i*5+j - 2) % 5=j by omega];have hs:(Q2K S m i).size=5:=rfl;rw [Array.getElem?_eq_getElem (by omega)];simp [Array.getD,hs,hj]
def IsMv (S:ASl) (n b:Nat):Prop:=∃ i a,i<n/\S.mA i=some a/\a.block=b
structure ADat (w:zB) (g gc:Nat) (t:Option zA) (N:Nat->Prop) (m:AM) (S:ASl):Prop where
 blk:Blk w g 105 (aCs t gc m S)
 row:Blk w gc 173 S.arr
 cap:S.arr.size=S.cap*5/\m.chunks.length<=S.cap/\S.cap<=maxLen
 srv:∀ i s,m.chunks[i]?=some s->∀ j,j<5->S.arr[i*5+j]?=(srvC s S i)[j]?
 first:∀ i s,m.chunks[i]?=some s->FarN w (fun b=>N b\/IsMv S m.chunks.length b) (S.fA i) (S.fC i) s.first
 now:∀ i s,m.chunks[i]?=some s->FarN w (fun b=>N b\/IsMv S m.chunks.length b) (S.nA i) (S.nC i) s.now
 nodes:∀ i,i<4->FarN w (fun b=>N b\/IsMv S m.chunks.length b) (S.lA i) (S.lC i) (Q0B m i).2.nodes
 mv:∀ i s,m.chunks[i]?=some s->w.ownsRow 0 175 2 (.slice (S.mA i) s.moves.length (S.mC i)) s.moves.length (Q0H s.moves)
 mvN:∀ b,IsMv S m.chunks.length b->¬ N b
 mvap:∀ i j a b,i<m.chunks.length->j<m.chunks.length->i≠j->S.mA i=some a->S.mA j=some b->a.block≠b.block
 gN:N g/\N gc
 ok:AOk m
theorem ADat.mlt {w:zB} {g gc:Nat} {t:Option zA} {N:Nat->Prop} {m:AM} {S:ASl} (h:ADat w g gc t N m S) {b:Nat} (hb:IsMv S m.chunks.length b):b<w.heap.size:=by
 obtain⟨i,a,hi,ha,rfl⟩:=hb;have hm:=h.mv i _ (zD hi);rw [ha] at hm;exact(Q07 hm (b:=a.block) (by
  rcases hm.2 with⟨e,_⟩ | ⟨g',cap',cur',e,_⟩
  ·cases e
  injection e with e1
  injection e1 with e1
  rw [e1]; rfl)).2
theorem ADat.only {w w':zB} {g gc:Nat} {t:Option zA} {N M:Nat->Prop} {m:AM} {S:ASl} (h:ADat w g gc t N m S) (ho:Only M w w') (hM:∀ b,M b->N b) (hg:¬ M g) (hgc:¬ M gc):ADat w' g gc t N m S :=
 ⟨ho.blk h.blk hg,ho.blk h.row hgc,h.cap,h.srv,fun i s hs=>(h.first i s hs).only ho (fun b hb=>.inl (hM b hb)),fun i s hs=>(h.now i s hs).only ho (fun b hb=>.inl (hM b hb)),fun i hi=>(h.nodes i hi).only ho (fun b hb=>.inl (hM b hb)),fun i s hs=>Q0d (h.mv i s hs) (fun b hb=>by
  have hi:i<m.chunks.length:=(List.getElem?_eq_some_iff.1 hs).1;have hl:=(Q07 (h.mv i s hs) hb).2;refine ho.block b hl fun hmb=>?_
  have hmv:IsMv S m.chunks.length b:=by
   rcases(h.mv i s hs).2 with⟨e,_⟩ | ⟨g',cap',cur',e,_⟩
   ·rw [e] at hb; cases hb
   rw [e] at hb;injection e with e1
   exact⟨i,⟨g',0,none⟩,hi,e1,by simpa [Value.ownBlock] using hb⟩
  exact h.mvN b hmv (hM b hmb)),h.mvN,h.mvap,h.gN,h.ok⟩
theorem ADat.below {w w':zB} {g gc:Nat} {t:Option zA} {N:Nat->Prop} {m:AM} {S:ASl} (h:ADat w g gc t N m S) (hb:zE w.heap.size w w'):ADat w' g gc t N m S :=h.only (M:=fun _=>False) (Only.of_below hb) (fun _ h=>h.elim) (fun h=>h) (fun h=>h)
theorem ADat.mono {w:zB} {g gc:Nat} {t:Option zA} {N N':Nat->Prop} {m:AM} {S:ASl} (h:ADat w g gc t N m S) (hN:∀ b,b<w.heap.size->N' b->N b) (hg:N' g/\N' gc):ADat w g gc t N' m S :=⟨h.blk,h.row,h.cap,h.srv,fun i s hs=>(h.first i s hs).mono (fun b hb hn=>hn.imp (hN b hb) id),fun i s hs=>(h.now i s hs).mono (fun b hb hn=>hn.imp (hN b hb) id),fun i hi=>(h.nodes i hi).mono (fun b hb hn=>hn.imp (hN b hb) id),h.mv,fun b hb hn=>h.mvN b hb (hN b (h.mlt hb) hn),h.mvap,hg,h.ok⟩
structure AAt (w:zB) (V:ALoc) (N:Nat->Prop) (m:AM):Prop where
 dat:∃ S,ADat w V.g V.gc (some ⟨V.T.t,0,none⟩) N m S
 tree:Q2e w V.T V.k (Q0g m)
 far:V.g≠V.gc/\¬ V.T.has V.g/\¬ V.T.has V.gc/\¬ V.k.has V.g/\¬ V.k.has V.gc
 all:∀ b,V.all b->N b
theorem ADat.lt {w:zB} {g gc:Nat} {t:Option zA} {N:Nat->Prop} {m:AM} {S:ASl} (h:ADat w g gc t N m S):g<w.heap.size/\gc<w.heap.size:=⟨h.blk.lt,h.row.lt⟩
theorem AAt.below {w w':zB} {V:ALoc} {N:Nat->Prop} {m:AM} (h:AAt w V N m) (hb:zE w.heap.size w w'):AAt w' V N m:=by obtain⟨S,hd⟩:=h.dat;exact⟨⟨S,hd.below hb⟩,h.tree.below hb,h.far,h.all⟩
theorem AAt.mono {w:zB} {V:ALoc} {N N':Nat->Prop} {m:AM} (h:AAt w V N m) (hN:∀ b,b<w.heap.size->N' b->N b) (hall:∀ b,V.all b->N' b):AAt w V N' m:=by obtain⟨S,hd⟩:=h.dat;exact⟨⟨S,hd.mono hN ⟨hall _ (.inl rfl),hall _ (.inr (.inl rfl))⟩⟩,h.tree,h.far,hall⟩
end
section
open Go.RowKit Go.Maps
attribute [local irreducible] wpList Q0h
theorem Q8j (l:List Int) (i:Nat) (h:i<l.length):Q0P (l.take (i+1))=Q0P (l.take i)++numB l[i].toNat:=by
 unfold Q0P;rw [zR h,List.flatMap_append]
 simp
theorem Q7h (A:Option zA) (n c:Nat) (zs:List Int) (w:zB) (B:Nat) (h:Q08 w B 1 A n (zs.map vn)) (hB:B<=w.heap.size) (hz:∀ z,z∈zs->NumI z) (hn:n<=1000) :
 zG zI 147 #[.slice A n c] w fun e w'=>∃ v,e=.returned v/\OwnB w' w.heap.size v (Q0P zs)/\zE w.heap.size w w':=by
 have hzn:zs.length=n:=by have:=h.1; simpa using this
 have H:=sH h;have HZN:=sH hzn;have HZ:=sH hz;obtain⟨i0,hi0,hz0,hz1,hz2⟩:=info_parts Q1E;clear h hzn hz;go_enter Tryz.func147,Tryz.ntmps147
 go_wp2_with fail
 go_loopw [3,10] (fun ov iv wr=>∃ i:Nat,i<=n/\iv=.int .i64 (i:Int)/\OwnB wr w.heap.size ov (Q0P (zs.take i))/\zE w.heap.size w wr) (fun _ iv _=>n - (intOf iv).toNat)
 case atStart=>exact⟨0,by omega,rfl,OwnB.nil _ _,zL _ _⟩
 obtain⟨i,hi,rfl,hov,hbel⟩:=hrel;have HOV:=sH hov;have HB:=sH hbel;have hsz:=hbel.size;clear hov hbel;by_cases hin:i<n
 ·have hinI:(i:Int)<(n:Int):=by omega
  obtain⟨ad,u,hA,hadb,hxi,hcell⟩:=(H.out.below (HB.out.mono hB)).at_ hin;subst hA;have hil:i<zs.length:=by have:=HZN.out; omega
  have hu:u=.int .i64 zs[i]:=by
   rw [zH,zD hil] at hxi;injection hxi with hxi
   exact hxi.symm
  subst hu;have hnum:=HZ.out _ (List.getElem_mem hil);have hsn:=Q8j zs i hil;have hlen:=QdG (l:=zs.take i) fun z hz=>HZ.out z (List.mem_of_mem_take hz)
  rw [List.length_take] at hlen;have hmx:=NumI.max hnum;have hl8:=(Q2D hmx).2;obtain⟨z,hze⟩:∃ z:Nat,zs[i]=(z:Int):=⟨zs[i].toNat,by unfold NumI at hnum; omega⟩;rw [hze,Int.toNat_natCast] at hsn hmx hl8;rw [hze] at hcell;have HBN:=sH (Q8Q z hmx wr);have HSN:=sH hsn;obtain⟨ys,hys⟩:∃ ys,ys=Q0P (zs.take i):=⟨_,rfl⟩;rw [<- hys] at HOV HSN hlen;generalize numB z=x at HBN HSN hl8;clear hxi hnum hsn hys;go_wp2_with fail
  refine HBN.out.mono ?_;rintro _ w2 ⟨v2,rfl,ho2,hb2⟩;obtain⟨A2,c2,rfl,p1,p2,p3,p4⟩:=Q0f ho2;obtain⟨nx,hnx⟩:∃ k,k=x.length:=⟨_,rfl⟩;rw [<- hnx] at p3 hl8 ⊢;have HNX:=sH hnx;have HP3:=sH p3;have HO2:=sH (HOV.out.below hb2);have HWN:=sH HO2.out.row;have HB2:=sH (HB.out.trans (hb2.mono hsz));have hs2:=hb2.size;clear ho2 hb2 p1 p2 p3 p4 HBN hnx;go_wp2_with (at_builtin; go_must (refine Q03 _ rfl (.tmp 19) (.tmp 20) 22 rfl w.heap.size 5 i0 _ 1 1 Tryz.underlying22 hi0 hz0 hz1 hz2 rfl (by omega) _ _ _ rfl HWN.out w2.heap.size A2 nx c2 (x.map vb) rfl HP3.out ?c1 ?c2 ?c3 ?c4 ?_))
  case c1=>intro u hu; obtain⟨y,_,rfl⟩:=List.mem_map.1 hu; rfl
  case c2=>unfold maxLen; omega
  case c3=>omega
  case c4=>omega
  intro v3 w3 hown3 hg3 hor3;have HB3:=sH (Q0e HB2.out (by omega) hg3 (fun b hb=>HO2.out.ge hb));have HO3:=sH (show OwnB w3 w.heap.size v3 (Q0P (zs.take (i+1))) by unfold OwnB;rw [HSN.out,zK,zM,<- HNX.out];exact hown3)
  clear hown3 hg3 hor3;go_wp2_with fail
  go_roundw
  case rel=>exact⟨i+1,by omega,by go_num,HO3.out,HB3.out⟩
  case measure=>simp [intOf]; omega
 obtain rfl:i=n:=by omega
 have hinI:¬ (i:Int)<(i:Int):=by omega
 have ht:zs.take i=zs:=zP (by have:=HZN.out; omega);rw [ht] at HOV;go_wp2_with fail
 go_ret
 exact⟨_,rfl,HOV.out,HB.out⟩
theorem Q3a (w:zB) (g t:Nat) (h:w.cell? ⟨g,0,none⟩=some (.pointer (some ⟨t,0,none⟩))) :
 zG zI 91 #[.pointer (some ⟨g,0,none⟩)] w fun e w'=>e=.returned (.bool false)/\w=w':=by
 go_enter Tryz.func91,Tryz.ntmps91
 go_wp2
 go_ret
 exact⟨rfl,rfl⟩
theorem QcD (b:Nat) (o y z:Int) (w:zB) (hc:w.cell? ⟨b,0,none⟩=some (.int .i64 z)) :
 zG zI 162 #[.agg #[.int .i64 o,.int .i64 y],.pointer (some ⟨b,0,none⟩)] w fun e w'=>e=.returned (.bool (decide (y=z)))/\zE w.heap.size w w':=by
 have hX:=Q04 w (.cells #[.int .i64 o,.int .i64 y] 175);have hl:=zO _ _ hc;have hk:Blk (w.alloc (.cells #[.int .i64 o,.int .i64 y] 175)) w.heap.size 175 #[.int .i64 o,.int .i64 y]:=Blk.newAt rfl;have c1:=(hk.cell 1).trans (show (#[Value.int .i64 o,Value.int .i64 y])[1]?=some (.int .i64 y) from rfl);have c2:=(hX.cell hl).trans hc;have HX:=sH hX;by_cases h:y=z
 ·have hyz:(y == z)=true:=by simpa using h
  rw [decide_eq_true h];clear hk h hX;go_enter Tryz.func162,Tryz.ntmps162
  go_wp2
  go_ret
  exact⟨rfl,HX.out⟩
 have hyz:(y == z)=false:=by simpa using h
 rw [decide_eq_false h];clear hk h hX;go_enter Tryz.func162,Tryz.ntmps162
 go_wp2
 go_ret
 exact⟨rfl,HX.out⟩
theorem Qbz (A:Option zA) (n c b:Nat) (ms:List (Int×Int)) (z:Int) (w:zB) (h:w.ownsRow 0 175 2 (.slice A n c) n (Q0H ms)) (hb:w.cell? ⟨b,0,none⟩=some (.int .i64 z)) (hn:n<=1000) :
 zG zI 179 #[.slice A n c,.func (.func 162) #[] #[.pointer (some ⟨b,0,none⟩)]] w fun e w'=>∃ r:Int,e=.returned (.int .i64 r)/\-1<=r/\r<=1000/\decide (0<=r)=ms.any (fun m=>decide (m.2=z))/\zE w.heap.size w w':=by
 have hml:ms.length=n:=by have:=h.1; rw [Q40] at this; omega
 have hbl:=zO _ _ hb;have H:=sH (fun(W:zB) (hb:zE w.heap.size w W)=>(Q0d h (fun q hq=>hb.block q (Q07 h hq).2):W.ownsRow 0 175 2 (.slice A n c) n (Q0H ms)));have HB:=sH (fun(W:zB) (h:zE w.heap.size w W)=>(h.cell hbl).trans hb);have HML:=sH hml;clear h hb hml hbl;go_enter Tryz.func179,Tryz.ntmps179
 go_wp2_with fail
 go_loopw [5,8] (fun _ iv wr=>∃ i:Nat,i<=n/\iv=.int .i64 (i:Int)/\(∀ (k:Nat) (hk:k<ms.length),k<i->ms[k].2≠z)/\zE w.heap.size w wr) (fun _ iv _=>n - (intOf iv).toNat)
 case atStart=>exact⟨0,by omega,rfl,fun k hk h=>by omega,zL _ _⟩
 obtain⟨i,hi,rfl,hno,hbel⟩:=hrel;have HNO:=sH hno;have HBE:=sH hbel;clear hno hbel;by_cases hin:i<n
 ·have hinI:(i:Int)<(n:Int):=by omega
  obtain⟨g,cap,cur,hv,_,hB,_,_,_,ht⟩:∃ g cap cur,Value.slice A n c=.slice (some ⟨g,0,none⟩) n cap/\0<=g/\Blk wr g 175 cur/\n<=cap/\cap<=maxLen/\cur.size=cap*2/\cur.toList.take (n*2)=Q0H ms:=by
   rcases(H.out wr HBE.out).2 with⟨_,h1⟩ | h
   ·omega
   exact h
  injection hv with hA _ hc
  subst hA;have hil:i<ms.length:=by have:=HML.out; omega
  obtain⟨D,hD⟩:∃ D:Array zC,D=#[.int .i64 ms[i].1,.int .i64 ms[i].2]:=⟨_,rfl⟩;have hds:D.size=2:=by rw [hD]; rfl
  have hcur:∀ j,j<2->cur[i*2+j]?=D[j]?:=fun j hj=>by
   have hg:=Q3f ms i hil;rw [<- ht,List.getElem?_take,if_pos (by omega),List.getElem?_take,if_pos (by omega),Array.getElem?_toList,Array.getElem?_toList] at hg;rw [hD];obtain rfl | rfl:j=0\/j=1:=by omega
   ·exact hg.1
   exact hg.2
  have HU:=sH (QcD b ms[i].1 ms[i].2 z wr (HB.out wr HBE.out));rw [<- hD] at HU;obtain⟨y,hy⟩:∃ y,y=ms[i].2:=⟨_,rfl⟩;rw [<- hy] at HU;have HY:=sH hy;have HCUR:=sH hcur;have HBL:=sH hB;clear hcur hB ht hD hc hy;go_wp2_with (refine Q01 (o:=⟨some 15,_,_,_,_,_⟩) rfl 175 (.tmp 14) rfl g (i*2) 2 rfl 175 _ D _ HBL.out Tryz.underlying175 rfl rfl hds HCUR.out ?_)
  refine HU.out.mono ?_;rintro _ w2 ⟨rfl,hb2⟩;have HB2:=sH (HBE.out.trans (hb2.mono HBE.out.size));clear hb2 HU;by_cases hyz:y=z
  ·rw [decide_eq_true hyz];have hany:ms.any (fun m=>decide (m.2=z))=true:=List.any_eq_true.2 ⟨ms[i],List.getElem_mem hil,by rw [<- HY.out]; exact decide_eq_true hyz⟩;have HANY:=sH hany;clear hany hyz;go_wp2_with fail
   go_ret
   exact⟨i,rfl,by omega,by omega,by rw [HANY.out]; exact decide_eq_true (by omega),HB2.out⟩
  rw [decide_eq_false hyz];have HN2:=sH (show ∀ (k:Nat) (hk:k<ms.length),k<i+1->ms[k].2≠z from fun k hk h=>by
   rcases Nat.lt_or_ge k i with e | e
   ·exact HNO.out k hk e
   obtain rfl:k=i:=by omega
   rw [<- HY.out]; exact hyz)
  clear hyz;go_wp2_with fail
  go_roundw
  case rel=>exact⟨i+1,by omega,by go_num,HN2.out,HB2.out⟩
  case measure=>simp [intOf]; omega
 have hinI:¬ (i:Int)<(n:Int):=by omega
 have hany:ms.any (fun m=>decide (m.2=z))=false:=List.any_eq_false.2 fun m hm=>by obtain⟨k,hk,rfl⟩:=List.mem_iff_getElem.1 hm;have:=HNO.out k hk (by have:=HML.out; omega);simpa using this
 have HANY:=sH hany;clear hany;go_wp2_with fail
 go_ret
 exact⟨-1,rfl,by omega,by omega,by rw [HANY.out]; rfl,HBE.out⟩
theorem Q85 (A:Option zA) (n c b:Nat) (ms:List (Int×Int)) (z:Int) (w:zB) (h:w.ownsRow 0 175 2 (.slice A n c) n (Q0H ms)) (hb:w.cell? ⟨b,0,none⟩=some (.int .i64 z)) (hn:n<=1000) :
 zG zI 161 #[.slice A n c,.func (.func 162) #[] #[.pointer (some ⟨b,0,none⟩)]] w fun e w'=>e=.returned (.bool (ms.any (fun m=>decide (m.2=z))))/\zE w.heap.size w w':=by
 have HI:=sH (Qbz A n c b ms z w h hb hn);generalize ms.any (fun m=>decide (m.2=z))=res at HI ⊢;clear h hb;go_enter Tryz.func161,Tryz.ntmps161
 go_wp2_with fail
 refine HI.out.mono ?_;rintro _ w2 ⟨r,rfl,h1,h2,h3,hb2⟩;have HB2:=sH hb2;have H3:=sH h3;clear hb2 HI h3;go_wp2_with fail
 go_ret
 exact⟨Q0C (by first | exact H3.out | (rw [<- H3.out])),HB2.out⟩
structure QeB (w:zB) (s:Srv) (S:ASl) (i:Nat):Prop where
 first:Q08 w w.heap.size 1 (S.fA i) s.first.length (s.first.map vn)
 mv:w.ownsRow 0 175 2 (.slice (S.mA i) s.moves.length (S.mC i)) s.moves.length (Q0H s.moves)
 ok:SOk s
theorem QeB.below {w w':zB} {s:Srv} {S:ASl} {i:Nat} (h:QeB w s S i) (hb:zE w.heap.size w w'):QeB w' s S i :=⟨(h.first.below hb).more hb.size,Q0d h.mv (fun b hb'=>hb.block b (Q07 h.mv hb').2),h.ok⟩
theorem ADat.srvIn {w:zB} {g gc:Nat} {t:Option zA} {N:Nat->Prop} {m:AM} {S:ASl} (h:ADat w g gc t N m S) {i:Nat} {s:Srv} (hs:m.chunks[i]?=some s):QeB w s S i :=⟨(h.first i s hs).rd,h.mv i s hs,h.ok.srv s (List.mem_of_getElem? hs)⟩
theorem Qen (b:Nat) (s:Srv) (S:ASl) (i:Nat) (z:Int) (w:zB) (h:QeB w s S i) (hc:w.cell? ⟨b,0,none⟩=some (.int .i64 z)) :
 zG zI 160 #[.agg (srvC s S i),.pointer (some ⟨b,0,none⟩)] w fun e w'=>e=.returned (.bool (Q2P s z))/\zE w.heap.size w w':=by
 have hmf:∀ (fn:Fn) (first cap:Array zC) (w:zB),(Instr.makeFunc fn first cap).run zI w=.ok (.func fn first cap) w:=fun _ _ _ _=>rfl
 have hX:=Q04 w (.cells (srvC s S i) 173);have hl:=zO _ _ hc;have hk:Blk (w.alloc (.cells (srvC s S i) 173)) w.heap.size 173 (srvC s S i):=Blk.newAt rfl;have h1:=h.below hX;have hcl:=h.ok.len;have HH:=sH (Q5J s.f (S.fA i) s.first.length (S.fC i) s.first z _ h1.first h.ok.crew);have HC:=sH (fun(W:zB) (hb:zE w.heap.size w W)=>Q85 (S.mA i) s.moves.length (S.mC i) b s.moves z W (h.below hb).mv ((hb.cell hl).trans hc) (by omega));have HCB:=sH ((hX.cell hl).trans hc);have HU:=sH (show Q2P s z=(decide (z∈s.first) || s.moves.any (fun m=>decide (m.2=z))) from rfl);have HX:=sH hX;have HK:=sH hk;obtain⟨D,hD⟩:∃ D,D=srvC s S i:=⟨_,rfl⟩;obtain⟨C,hC⟩:∃ C,C=crC s.f (S.fA i) s.first.length (S.fC i):=⟨_,rfl⟩;have hcs:C.size=2:=by rw [hC]; rfl
 have hd:∀ j,j<2->D[0+j]?=C[j]?:=fun j hj=>by
  rw [hD,hC,zN];obtain rfl | rfl:j=0\/j=1:=by omega
  iterate 2 ·rfl
 have hd4:D[4]?=some (.slice (S.mA i) s.moves.length (S.mC i)):=by rw [hD]; rfl
 obtain⟨mn,hmn⟩:∃ k,k=s.moves.length:=⟨_,rfl⟩;rw [<- hmn] at HC hd4;rw [<- hD] at HX HK HH HCB ⊢;rw [<- hC] at HH;have HD2:=sH hd;have HD4:=sH hd4;obtain⟨g,hg⟩:∃ g,g=w.heap.size:=⟨_,rfl⟩;generalize s.moves.any (fun m=>decide (m.2=z))=r2 at HC HU;generalize Q2P s z=res at HU ⊢;clear h hc hX hk h1 hD hC hd hd4 hmn;go_enter Tryz.func160,Tryz.ntmps160
 go_upto_region 1 with fail
 generalize zS w _=w1 at HX HK HH HCB ⊢;rw [<- hg] at HK ⊢;have hgl:=HK.out.lt;clear hg;have hcb:=HCB.out;go_wp2_with (refine Q01 (o:=⟨some 5,_,_,_,_,_⟩) rfl 77 (.tmp 4) rfl g 0 2 rfl 173 _ C _ HK.out zV rfl rfl hcs HD2.out ?_)
 refine HH.out.mono ?_;rintro _ w2 ⟨rfl,hb2⟩;have hs2:=HX.out.size;have HB2:=sH (HX.out.trans (hb2.mono hs2));have HCC:=sH (HC.out w2 HB2.out);have c4:w2.cell? ⟨g,4,none⟩=some (.slice (S.mA i) mn (S.mC i)):=((HK.out.below' hb2).cell 4).trans HD4.out;clear hb2 HH HK HC hcb;by_cases hin:z∈s.first
 ·rw [decide_eq_true hin] at HU ⊢;have hr:res=true:=by rw [HU.out]; rfl
  subst hr;clear hin;go_wp2_with fail
  go_ret
  exact⟨rfl,HB2.out⟩
 rw [decide_eq_false hin] at HU ⊢;have hr:res=r2:=by rw [HU.out]; rfl
 subst hr;clear hin;go_wp2_with fail
 refine HCC.out.mono ?_;rintro _ w3 ⟨rfl,hb3⟩;have HB3:=sH (HB2.out.trans (hb3.mono HB2.out.size));clear hb3 HCC;go_wp2_with fail
 go_ret
 exact⟨rfl,HB3.out⟩
theorem Qbm (w:zB) (g gc b:Nat) (t:Option zA) (N:Nat->Prop) (m:AM) (S:ASl) (z:Int) (h:ADat w g gc t N m S) (hb:w.cell? ⟨b,0,none⟩=some (.int .i64 z)) :
 zG zI 178 #[.slice (some ⟨gc,0,none⟩) m.chunks.length S.cap,.func (.func 160) #[] #[.pointer (some ⟨b,0,none⟩)]] w fun e w'=>∃ r:Int,e=.returned (.int .i64 r)/\-1<=r/\r<=1000/\decide (0<=r)=m.chunks.any (fun s=>Q2P s z)/\zE w.heap.size w w':=by
 have hn2:=h.ok.one;have hbl:=zO _ _ hb;have H:=sH (fun(W:zB) (hb:zE w.heap.size w W)=>h.below hb);have HB:=sH (fun(W:zB) (h:zE w.heap.size w W)=>(h.cell hbl).trans hb);obtain⟨cs,hcs⟩:∃ cs,cs=m.chunks:=⟨_,rfl⟩;have HCS:=sH hcs;rw [<- hcs] at hn2 ⊢;obtain⟨n,hn⟩:∃ n,n=cs.length:=⟨_,rfl⟩;rw [<- hn] at hn2 ⊢;have HML:=sH hn;clear h hb hbl hcs hn;go_enter Tryz.func178,Tryz.ntmps178
 go_wp2_with fail
 go_loopw [5,8] (fun _ iv wr=>∃ i:Nat,i<=n/\iv=.int .i64 (i:Int)/\(∀ (k:Nat) (hk:k<cs.length),k<i->Q2P cs[k] z=false)/\zE w.heap.size w wr) (fun _ iv _=>n - (intOf iv).toNat)
 case atStart=>exact⟨0,by omega,rfl,fun k hk h=>by omega,zL _ _⟩
 obtain⟨i,hi,rfl,hno,hbel⟩:=hrel;have HNO:=sH hno;have HBE:=sH hbel;clear hno hbel;by_cases hin:i<n
 ·have hinI:(i:Int)<(n:Int):=by omega
  have hil:i<cs.length:=by have:=HML.out; omega
  have hget:m.chunks[i]?=some cs[i]:=by rw [<- HCS.out,zD hil]
  have hdat:=H.out wr HBE.out;have hU:=Qen b cs[i] S i z wr (hdat.srvIn hget) (HB.out wr HBE.out);have hsrv:=hdat.srv i cs[i] hget;have HBL:=sH hdat.row;obtain⟨s,hs⟩:∃ s,s=cs[i]:=⟨_,rfl⟩;rw [<- hs] at hU hsrv;obtain⟨D,hD⟩:∃ D,D=srvC s S i:=⟨_,rfl⟩;have hds:D.size=5:=by rw [hD]; rfl
  rw [<- hD] at hU hsrv;have HU:=sH hU;have HSV:=sH hsrv;have HSE:=sH hs;generalize hu:Q2P s z=u at HU;have HUE:=sH hu;clear hget hdat hU hsrv hs hD hu;go_wp2_with (refine Q01 (o:=⟨some 15,_,_,_,_,_⟩) rfl 173 (.tmp 14) rfl gc (i*5) 5 rfl 173 _ D _ HBL.out Tryz.underlying173 rfl rfl hds HSV.out ?_)
  refine HU.out.mono ?_;rintro _ w2 ⟨rfl,hb2⟩;have HB2:=sH (HBE.out.trans (hb2.mono HBE.out.size));clear hb2 HU;cases u with
  | true =>
   have hany:cs.any (fun s=>Q2P s z)=true:=List.any_eq_true.2 ⟨cs[i],List.getElem_mem hil,by rw [<- HSE.out]; exact HUE.out⟩;have HANY:=sH hany;clear hany;go_wp2_with fail
   go_ret
   exact⟨i,rfl,by omega,by omega,by rw [HANY.out]; exact decide_eq_true (by omega),HB2.out⟩
  | false =>
   have HN2:=sH (show ∀ (k:Nat) (hk:k<cs.length),k<i+1->Q2P cs[k] z=false from fun k hk h=>by
    rcases Nat.lt_or_ge k i with e | e
    ·exact HNO.out k hk e
    obtain rfl:k=i:=by omega
    rw [<- HSE.out]; exact HUE.out)
   go_wp2_with fail
   go_roundw
   case rel=>exact⟨i+1,by omega,by go_num,HN2.out,HB2.out⟩
   case measure=>simp [intOf]; omega
 have hinI:¬ (i:Int)<(n:Int):=by omega
 have hany:cs.any (fun s=>Q2P s z)=false:=List.any_eq_false.2 fun s hs=>by obtain⟨k,hk,rfl⟩:=List.mem_iff_getElem.1 hs;have:=HNO.out k hk (by have:=HML.out; omega);rw [this]; simp
 have HANY:=sH hany;clear hany;go_wp2_with fail
 go_ret
 exact⟨-1,rfl,by omega,by omega,by rw [HANY.out]; rfl,HBE.out⟩
theorem Q9v (w:zB) (g gc f:Nat) (t:Option zA) (N:Nat->Prop) (m:AM) (S:ASl) (z:Int) (h:ADat w g gc t N m S) (hf:f<=2) :
 zG zI 135 #[.pointer (some ⟨g,0,none⟩),.int .i64 (f:Int),.int .i64 z] w fun e w'=>e=.returned (.bool (Q0S m.chunks f z))/\zE w.heap.size w w':=by
 have hmf:∀ (fn:Fn) (first cap:Array zC) (w:zB),(Instr.makeFunc fn first cap).run zI w=.ok (.func fn first cap) w:=fun _ _ _ _=>rfl
 have hX:=Q04 w (.cells #[.int .i64 z] 3);have hk:Blk (w.alloc (.cells #[.int .i64 z] 3)) w.heap.size 3 #[.int .i64 z]:=Blk.newAt rfl;have h1:=h.below hX;have c1:=(h1.blk.cell 1).trans (Q1N _ _ _ _ 1 (by omega));have HI:=sH (Qbm _ g gc w.heap.size t N m S z h1 ((hk.cell 0).trans rfl));have HX:=sH hX;have HU:=sH (show Q0S m.chunks f z=(decide (z<=3*(f:Int)+1) || m.chunks.any (fun s=>Q2P s z)) from rfl);have hc0:=(hk.cell 0).trans (show (#[Value.int .i64 z])[0]?=some (.int .i64 z) from rfl);have hc1:(w.alloc (.cells #[.int .i64 z] 3)).cell? ⟨g,1,none⟩=some (.slice (some ⟨gc,0,none⟩) m.chunks.length S.cap):=c1;obtain⟨n,hn⟩:∃ n,n=m.chunks.length:=⟨_,rfl⟩;rw [<- hn] at hc1 HI;have hlg:=h.lt;generalize m.chunks.any (fun s=>Q2P s z)=r2 at HI HU;generalize Q0S m.chunks f z=res at HU ⊢;have HC0:=sH hc0;have HC1:=sH hc1;obtain⟨q,hq⟩:∃ g,g=w.heap.size:=⟨_,rfl⟩;clear h hX hk h1 c1 hn hc0 hc1;go_enter Tryz.func135,Tryz.ntmps135
 go_upto_region 1 with fail
 generalize zS w _=w1 at HX HI HC0 HC1 ⊢;rw [<- hq] at HI HC0 ⊢;have c0:=HC0.out;have c1:=HC1.out;clear hq;by_cases hle:z<=3*(f:Int)+1
 ·rw [decide_eq_true hle] at HU;have hr:res=true:=by rw [HU.out]; rfl
  subst hr;go_wp2_with fail
  go_ret
  exact⟨rfl,HX.out⟩
 rw [decide_eq_false hle] at HU;have hr:res=r2:=by rw [HU.out]; rfl
 subst hr;have HCO:=sH (show zG zI 159 #[.slice (some ⟨gc,0,none⟩) n S.cap,.func (.func 160) #[] #[.pointer (some ⟨q,0,none⟩)]] w1 fun e w'=>e=.returned (.bool res)/\zE w1.heap.size w1 w' by
  clear c0 c1 hmf;go_enter Tryz.func159,Tryz.ntmps159
  go_wp2_with fail
  refine HI.out.mono ?_;rintro _ w2 ⟨r,rfl,h1,h2,h3,hb2⟩;have HB2:=sH hb2;have H3:=sH h3;clear hb2 h3;go_wp2_with fail
  go_ret
  exact⟨Q0C (by first | exact H3.out | (rw [<- H3.out])),HB2.out⟩)
 go_wp2_with fail
 refine HCO.out.mono ?_;rintro _ w2 ⟨rfl,hb2⟩;have HB2:=sH (HX.out.trans (hb2.mono HX.out.size));clear hb2 HCO HI;go_wp2_with fail
 go_ret
 exact⟨rfl,HB2.out⟩
theorem Q4W:(Tryz.prog.info? 102).map (·.size)=some 5:=by kernel_rfl
theorem Q8E (S:ASl) (m:AM) (i:Nat):(Q2K S m i).all (·.oneCell')=true:=by simp [Q2K,Value.oneCell']
def Q0Z:Array zC:=#[.int .i64 0,.int .i64 0,.slice none 0 0,.int .i64 0,.slice none 0 0]
theorem Qe9 (w:zB) (g gc j i:Nat) (t:Option zA) (N:Nat->Prop) (m:AM) (S:ASl) (h:ADat w g gc t N m S) (hj:j<4) (hi:i=j+2) :
 zG zI 112 #[.pointer (some ⟨g,0,none⟩),.int .i64 (i:Int)] w fun e w'=>∃ v,e=.returned v/\OwnB w' w.heap.size v (Q0P (Q88 (Q0B m j)))/\zE w.heap.size w w':=by
 have hlo:=h.ok.lst j;have hnb:=hlo.2.1.bound;have hlc:=fun q hq=>Q9N t gc m S j q hj hq
 have hnd:=h.nodes j hj;have hlt:=h.lt.1;have HLC:=sH hlc;have HB:=sH h.blk;have HND:=sH hnd.rd;have hnum:=QeI h.ok (j+2);have hle:Q5H m (j+2)=Q88 (Q0B m j):=by unfold Q5H; rw [if_neg (by omega)]; rfl
 rw [hle] at hnum;have HNUM:=sH hnum;have hln:(Q88 (Q0B m j)).length=4+(Q0B m j).2.nodes.length:=by unfold Q88; rw [zK]; rfl
 have HLI:=sH (show Q88 (Q0B m j)=[((Q0B m j).1:Int),((Q0B m j).2.err:Int),((Q0B m j).2.epoch:Int),((Q0B m j).2.nodes.length:Int)]++(Q0B m j).2.nodes from rfl);have HLN:=sH hln;have hD:Q2K S m j=#[.int .i64 ((Q0B m j).1:Int),.int .i64 ((Q0B m j).2.err:Int),.slice none 0 0,.int .i64 ((Q0B m j).2.epoch:Int),.slice (S.lA j) (Q0B m j).2.nodes.length (S.lC j)]:=rfl;have hone:=Q8E S m j;have hsz:(Q2K S m j).size=5:=rfl;generalize Q2K S m j=D at HLC hD hone hsz;obtain⟨st,hst⟩:∃ k,k=(Q0B m j).1:=⟨_,rfl⟩;obtain⟨er,her⟩:∃ k,k=(Q0B m j).2.err:=⟨_,rfl⟩;obtain⟨ep,hep⟩:∃ k,k=(Q0B m j).2.epoch:=⟨_,rfl⟩;obtain⟨ns,hns⟩:∃ k,k=(Q0B m j).2.nodes:=⟨_,rfl⟩;generalize Q88 (Q0B m j)=li at HNUM HLI HLN ⊢;rw [<- hst,<- her,<- hep,<- hns] at hD HLI;rw [<- hns] at HND hnb HLN;obtain⟨n,hn⟩:∃ n,n=ns.length:=⟨_,rfl⟩;rw [<- hn] at hD HLI HND hnb HLN;have HN:=sH hn;have HD:=sH hD;have HONE:=sH hone;have HSZ:=sH hsz;have hn7:n<=7:=hnb.1;have hi2:(2:Int)<=(i:Int):=by omega
 have hij:(i:Int) - 2=(j:Int):=by omega
 obtain⟨i0,hi0,hz0,hz1,hz2⟩:=info_parts Q3e;have hZ:Q0Z=#[.int .i64 0,.int .i64 0,.slice none 0 0,.int .i64 0,.slice none 0 0]:=rfl;clear h hlo hlc hnd hnum hle hln hD hone hsz hst her hep hns hn hi hnb;go_enter Tryz.func112,Tryz.ntmps112
 go_upto_region 3 with(first
  | (refine Q01 (o:=⟨some 19,_,_,_,_,_⟩) rfl 102 (.tmp 18) rfl g (2+j*5) 5 rfl 105 _ D _ HB.out Tryz.underlying102 rfl rfl HSZ.out HLC.out ?_)
  | (refine Q00 (o:=⟨none,_,_,_,_,_⟩) rfl 102 (.tmp 5) (.tmp 19) rfl w.heap.size 0 D rfl rfl 102 Q0Z (by rw [hZ]; exact Blk.newAt rfl) (by rw [HSZ.out]; exact Q4W) (by rw [HSZ.out]; simp [Q0Z]) HONE.out ?_; intro w1 hT1 hD1; rw [Q0c _ _ (by rw [HSZ.out]; rfl)] at hD1))
 have hb1:zE w.heap.size w w1:=hT1.below (Q04 w _) (zJ _);have hs1:=hb1.size;obtain⟨g5,hg5⟩:∃ g,g=w.heap.size:=⟨_,rfl⟩;rw [<- hg5] at hD1 ⊢;rw [HD.out] at hD1;have c0:w1.cell? ⟨g5,0,none⟩=some (.int .i64 (st:Int)):=(hD1.cell 0).trans rfl;have c1:w1.cell? ⟨g5,1,none⟩=some (.int .i64 (er:Int)):=(hD1.cell 1).trans rfl;have c3:w1.cell? ⟨g5,3,none⟩=some (.int .i64 (ep:Int)):=(hD1.cell 3).trans rfl;have c4:w1.cell? ⟨g5,4,none⟩=some (.slice (S.lA j) n (S.lC j)):=(hD1.cell 4).trans rfl;have hgl:=hD1.lt;have HB1:=sH hb1;have HW:=sH (World.ownsRow_lit (base:=w.heap.size) (e:=3) (size:=1) w1 #[.int .i64 (st:Int),.int .i64 (er:Int),.int .i64 (ep:Int),.int .i64 (n:Int)] 4 (by omega) (by unfold maxLen; omega) rfl);have HND1:=sH (HND.out.below hb1);have HND2:=sH (HND1.out.alloc hs1 (.cells #[.int .i64 (st:Int),.int .i64 (er:Int),.int .i64 (ep:Int),.int .i64 (n:Int)] 3));clear hT1 hD1 hb1 hg5 HB HLC HND;go_wp2_with (at_builtin; go_must (refine Q03 _ rfl (.tmp 33) (.tmp 36) 42 rfl w.heap.size 3 i0 _ 1 8 zU hi0 hz0 hz1 hz2 rfl (by omega) _ 4 _ rfl HW.out w.heap.size (S.lA j) n (S.lC j) (ns.map vn) rfl HND2.out ?c1 ?c2 ?c3 ?c4 ?_))
 case c1=>intro u hu; first | rfl | (obtain⟨y,_,rfl⟩:=List.mem_map.1 hu; rfl)
 case c2=>unfold maxLen; omega
 case c3=>omega
 case c4=>first | omega | (simp; omega)
 intro v2 w2 hown2 hg2 hor2;have hb2:zE w.heap.size w w2:=Q0e (HB1.out.trans ((Q04 w1 _).mono hs1)) (by simp; omega) hg2 (fun b hb=>by
  have:b=w1.heap.size:=by simpa [Value.ownBlock] using hb.symm
  omega)
 have hob:OwnN w2 w.heap.size v2 li:=by unfold OwnN;rw [HLN.out,HLI.out];simpa [vn] using hown2
 obtain⟨A2,k2,rfl,hk2,_,hr2,_⟩:=Q0i hob;have HB2:=sH hb2;have hln:=HLN.out;have HNU:=sH (Q7h A2 li.length k2 li w2 _ hr2 (zJ _) HNUM.out (by omega));generalize li.length=ll at HNU ⊢;clear hown2 hg2 hor2 hb2 hob hr2 hln hk2 HND1 HND2 HW c0 c1 c3 c4;go_wp2_with fail
 refine HNU.out.mono ?_;rintro _ w3 ⟨v3,rfl,ho3,hb3⟩;have HO3:=sH ho3;have HB3:=sH (HB2.out.trans (hb3.mono HB2.out.size));have hs2:=HB2.out.size;clear ho3 hb3 HNU;go_wp2_with fail
 go_ret
 exact⟨_,rfl,HO3.out.more hs2,HB3.out⟩
end
end Go.Proofs.YtcpngeiahgoacaaGreat
