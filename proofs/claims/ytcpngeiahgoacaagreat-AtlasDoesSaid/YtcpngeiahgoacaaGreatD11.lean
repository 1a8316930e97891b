/- Parts of the proof, in one text: R8A, LoudB. -/
import Derived.Test.YtcpngeiahgoacaaGreatD10
import Derived.Test.YtcpngeiahgoacaaGreatD5
import Derived.Test.YtcpngeiahgoacaaGreatD7
namespace Go.Proofs.YtcpngeiahgoacaaGreat
set_option linter.unusedVariables false
set_option linter.unusedSimpArgs false
set_option maxRecDepth 100000
set_option maxHeartbeats 16000000
section
open Go.RowKit Go.Maps
attribute [local irreducible] wpList Q0i
theorem Q0Z {o:Oper} {ops:Array Oper} {tm:Array Value} {j d:Nat} {b b':Bool} (hg:o.guard=some (j,b)) (hd:(ops[j]?).bind (·.dst)=some d) (he:tm[d]?.getD undef=.bool b') (hne:(b' == b)=false):Region.wanted o (yielded ops tm)=false:=by
 unfold Region.wanted yielded;rw [hg];simp only [hd,Option.bind_some];cases ht:tm[d]? with
 | none=>rw [ht] at he; simp [undef] at he
 | some v =>
  rw [ht] at he;simp only [Option.getD_some] at he;subst he;simpa using hne
theorem Q4G {o:Oper} {ops:Array Oper} {tm:Array Value} {j d:Nat} {b:Bool} (hg:o.guard=some (j,b)) (hd:(ops[j]?).bind (·.dst)=some d) (he:tm[d]?.getD undef=undef):Region.wanted o (yielded ops tm)=false:=by
 unfold Region.wanted yielded;rw [hg];simp only [hd,Option.bind_some];cases ht:tm[d]? with
 | none=>simp
 | some v =>
  rw [ht] at he;simp only [Option.getD_some] at he;subst he;simp [undef]
theorem Q59 (A:Option Addr) (n c:Nat) (zs:List Int) (z:Int) (w:World) (B:Nat) (h:Q0d w B 1 A n (zs.map vn)) (hn:n<=17592186044416) :
 Calls Tryz.prog 143 #[.slice A n c,.int .i64 z] w fun e w'=>e=.returned (.bool (decide (z∈zs)))/\w=w':=by
 have hzn:zs.length=n:=by have:=h.1; simpa using this
 have H:=Lib.hid h;have HZN:=Lib.hid hzn;obtain⟨res,hres⟩:∃ b,b=decide (z∈zs):=⟨_,rfl⟩;rw [<- hres];have HR:=Lib.hid (show res=decide (z∈zs.drop 0) by rw [List.drop_zero]; exact hres);clear h hzn hres;go_enter Tryz.func143,Tryz.ntmps143
 go_wp2_with fail
 go_loopw [5] (fun iv wr=>∃ i:Nat,i<=n/\iv=.int .i64 i/\w=wr/\res=decide (z∈zs.drop i)) (fun iv _=>n - (intOf iv).toNat)
 case atStart=>exact⟨0,by omega,rfl,rfl,HR.out⟩
 case round =>
  obtain⟨i,hi,rfl,rfl,hr⟩:=hrel;by_cases hin:i<n
  ·obtain⟨ad,u,hA,hadb,hxi,hcell⟩:=H.out.at_ hin;subst hA;have hil:i<zs.length:=by have:=HZN.out; omega
   have hu:u=.int .i64 zs[i]:=by
    rw [List.getElem?_map,List.getElem?_eq_getElem hil] at hxi;injection hxi with hxi
    exact hxi.symm
   subst hu;rw [List.drop_eq_getElem_cons hil] at hr;generalize zs[i]=y at hr hcell;clear hxi;by_cases hyz:y=z
   ·have hyb:(y == z)=true:=by simpa using hyz
    have hrt:res=true:=by rw [hr,hyz]; simp
    clear hyz hr;subst hrt;go_wp2_with fail
    go_ret
    exact⟨rfl,rfl⟩
   ·have hyb:(y == z)=false:=by simpa using hyz
    have HRR:=Lib.hid (show res=decide (z∈zs.drop (i+1)) by
     rw [hr];congr 1
     rw [List.mem_cons];exact propext ⟨fun e=>e.resolve_left fun e=>hyz e.symm,.inr⟩)
    clear hyz hr;go_wp2_with fail
    go_roundw
    case rel=>exact⟨i+1,by omega,by go_num,trivial,HRR.out⟩
    case measure=>simp [intOf]; omega
  ·obtain rfl:i=n:=by omega
   rw [List.drop_of_length_le (by have:=HZN.out; omega)] at hr;have hrf:res=false:=by rw [hr]; simp
   clear hr;subst hrf;go_wp2_with fail
   go_ret
   exact⟨rfl,rfl⟩
theorem Q82 (n:Int) (w:World):Calls Tryz.prog 163 #[.int .i64 n] w fun e w'=>e=.returned (.bool (decide (1<=n/\n<=28)))/\w=w':=by
 by_cases h:1<=n
 ·by_cases h2:n<=28
  ·rw [decide_eq_true ⟨h,h2⟩];go_enter Tryz.func163,Tryz.ntmps163
   go_wp2
   go_ret
   exact⟨rfl,rfl⟩
  ·rw [decide_eq_false fun hh=>h2 hh.2];go_enter Tryz.func163,Tryz.ntmps163
   go_wp2
   go_ret
   exact⟨rfl,rfl⟩
 ·rw [decide_eq_false fun hh=>h hh.1];go_enter Tryz.func163,Tryz.ntmps163
  go_wp2
  go_ret
  exact⟨rfl,rfl⟩
theorem Q33 (f:Int) (A:Option Addr) (n c:Nat) (zs:List Int) (w:World) (B:Nat) (h:Q0d w B 1 A n (zs.map vn)) (hB:B<=w.heap.size) (hn:n<=17592186044416) :
 Calls Tryz.prog 136 #[.agg (crC f A n c)] w fun e w'=>e=.returned (.int .i64 (if okCB f zs=true then 0 else 110))/\Below w.heap.size w w':=by
 have hzn:zs.length=n:=by have:=h.1; simpa using this
 have H:=Lib.hid (h.more hB);have HZN:=Lib.hid hzn;have HX:=Lib.hid (Q07 w (.cells (crC f A n c) 77));have HK:=Lib.hid (Blk.newAt rfl:Blk (w.alloc (.cells (crC f A n c) 77)) w.heap.size 77 (crC f A n c));obtain⟨res,hres⟩:∃ b,b=okCB f zs:=⟨_,rfl⟩;rw [<- hres];have HRES:=Lib.hid hres;clear h hzn hres hB;obtain⟨g,hg⟩:∃ g,g=w.heap.size:=⟨_,rfl⟩;go_enter Tryz.func136,Tryz.ntmps136
 go_upto_region 1 with fail
 generalize World.alloc w _=w1 at HX HK ⊢;rw [<- hg] at HK ⊢;clear hg;have hbad:¬ (0<=f/\f<=2/\(n:Int)=3*f+1)->res=false:=fun hb=>by
  rw [HRES.out]; unfold okCB; rw [HZN.out,decide_eq_false hb,Bool.false_and]
 have c0:w1.cell? ⟨g,0,none⟩=some (.int .i64 f):=(HK.out.cell 0).trans rfl;have c1:w1.cell? ⟨g,1,none⟩=some (.slice A n c):=(HK.out.cell 1).trans rfl;by_cases h0:f<0
 ·obtain rfl:=hbad (by omega);clear hbad;go_wp2_with fail
  go_ret
  exact⟨rfl,HX.out⟩
 ·by_cases h2:2<f
  ·obtain rfl:=hbad (by omega);clear hbad;go_wp2_with fail
   go_ret
   exact⟨rfl,HX.out⟩
  ·by_cases h3:(n:Int)=3*f+1
   ·have h3b:((n:Int) != 3*f+1)=false:=by simp [h3]
    have HR:=Lib.hid (show res=Q1c 0 zs by rw [HRES.out]; unfold okCB; rw [decide_eq_true (by rw [HZN.out]; exact⟨by omega,by omega,h3⟩),Bool.true_and]);have h3w:(IntKind.i64.wrap (IntKind.i64.wrap (3*f)+1))=3*f+1:=by rw [IntKind.wrap_i64,IntKind.wrap_i64]; omega
    have hn7:n<=7:=by omega
    clear hbad HRES;go_wp2_with fail
    clear h3b h3w h3;go_loopw [3] (fun iv wr=>∃ (i:Nat) (last:Int),i<=n/\0<=last/\(0<i->zs[i - 1]?=some last)/\(i=0->last=0)/\iv=.int .i64 i/\Below w.heap.size w wr/\Blk wr g 77 (crC f A n c)/\res=Q1c last (zs.drop i)) (fun iv _=>n - (intOf iv).toNat)
    case atStart=>exact⟨0,0,by omega,by omega,by omega,fun _=>rfl,rfl,HX.out,HK.out,HR.out⟩
    clear HX HK c0 c1 HR;case round =>
     obtain⟨i,last,hi,hl0,hlst,hl00,rfl,hlow,hblk,hr⟩:=hrel;have HLO:=Lib.hid hlow;have HBK:=Lib.hid hblk;have hlsz:=hlow.size;have c1:wr.cell? ⟨g,1,none⟩=some (.slice A n c):=(hblk.cell 1).trans rfl;by_cases hin:i<n
     ·obtain⟨ad,u,hA,hadb,hxi,hcell⟩:=(H.out.below hlow).at_ hin;subst hA;have hil:i<zs.length:=by have:=HZN.out; omega
      have hu:u=.int .i64 zs[i]:=by
       rw [List.getElem?_map,List.getElem?_eq_getElem hil] at hxi;injection hxi with hxi
       exact hxi.symm
      subst hu;have hzi:=List.getElem?_eq_getElem hil;rw [List.drop_eq_getElem_cons hil] at hr;generalize zs[i]=z at hr hcell hzi;simp only [Q1c] at hr;have HNO:=Lib.hid (fun W=>Q82 z W);have hadl:(ad.add i).block<wr.heap.size:=by rw [Q0e]; omega
      have C1:=Lib.hid (fun(W:World) (hb:Below wr.heap.size wr W)=>(hb.cell (p:=⟨g,1,none⟩) hblk.lt).trans c1);have CZ:=Lib.hid (fun(W:World) (hb:Below wr.heap.size wr W)=>(hb.cell hadl).trans hcell);have HIN:=Lib.hid (show (i:Int)<(n:Int) by omega);have HLST:=Lib.hid hlst;have HZI:=Lib.hid hzi;have hrd:=(H.out.below hlow);have HRD:=Lib.hid hrd;clear hxi hcell hadl hlow hblk hlst hrd hzi;by_cases hz1:1<=z/\z<=28
      ·rw [decide_eq_true hz1] at HNO;by_cases hi0:i=0
       ·have hl:=hl00 hi0;subst hl;rw [decide_eq_true (by omega),Bool.true_and] at hr;have HRR:=Lib.hid hr;have HI:=Lib.hid (show i=0 by omega);clear hr hl00 hi0;go_wp2_with fail
        refine Q0l 24 54 (fun jx W v=>match jx with | 0=>v=.pointer (some ⟨g,1,none⟩) | 1=>v=.slice (some ad) n c | 2=>v=.int .i64 (i:Int) | 3=>v=.pointer (some (ad.add i)) | 4=>v=.int .i64 z | 5=>v=.bool true | 6=>v=.bool false | 7=>v=.bool false | 8=>v=.int .i64 (i:Int) | 9=>v=.bool false | 10=>v=.bool false | 11=>v=undef | 12=>v=undef | 13=>v=undef | 14=>v=undef | 15=>v=undef | 16=>v=undef | 17=>v=undef | 18=>v=undef | 19=>v=undef | 20=>v=undef | 21=>v=undef | 22=>v=undef | _=>v=.bool false) [29,30,31,32,33,34,35,36,37,38,39,40,41,42,43,44,45,46,47,48,49,50,51,52] (by kernel_rfl) (by kernel_rfl) (by kernel_rfl) (by simp) (by kernel_rfl) (fun jx=>?last) ?heads ?_
        case last =>
         match jx with
         | 0 | 1 | 2 | 3 | 4 | 5 | 6 | 7 | 8 | 9 | 10 | 11 | 12 | 13 | 14 | 15 | 16 | 17 | 18 | 19 | 20 | 21 | 22 | jx+23=>exact Q16.pure _
        case heads =>
         simp only [List.take_succ_cons,List.take_zero];refine⟨?_,?_,?_,?_,?_,?_,?_,?_,?_,?_,?_,?_,?_,?_,?_,?_,?_,?_,?_,?_,?_,?_,?_,?_,trivial⟩;all_goals intro a W hb hkp hd
         ·have e0:a.tmps[1]?.getD undef=.pointer (some ⟨g,0,none⟩):=hkp.get (by kernel_rfl) rfl;exact Q00 rfl _ (by go_simp) rfl
         ·have e0:(_:Value)=.pointer (some ⟨g,1,none⟩):=(hd 0 (by kernel_rfl)).get 29 rfl rfl;have cc:=C1.out W hb;exact Q00 rfl _ (by go_simp) rfl
         ·have e0:a.tmps[3]?.getD undef=.int .i64 (i:Int):=hkp.get (by kernel_rfl) rfl;exact Q00 rfl _ (by go_simp) rfl
         ·have e0:(_:Value)=.slice (some ad) n c:=(hd 1 (by kernel_rfl)).get 30 rfl rfl;have e1:(_:Value)=.int .i64 (i:Int):=(hd 2 (by kernel_rfl)).get 31 rfl rfl;have hlt:=HIN.out;exact Q00 rfl _ (by go_simp) rfl
         ·have e0:(_:Value)=.pointer (some (ad.add i)):=(hd 3 (by kernel_rfl)).get 32 rfl rfl;have cc:=CZ.out W hb;exact Q00 rfl _ (by go_simp) rfl
         ·have e0:(_:Value)=.int .i64 z:=(hd 4 (by kernel_rfl)).get 33 rfl rfl;exact Q0w rfl 163 #[.int .i64 z] (by go_simp) ((HNO.out W).mono fun e w h=>⟨_,h.1,by rw [<- h.2]; exact Below.refl _ _,rfl⟩)
         ·have e0:(_:Value)=.bool true:=(hd 5 (by kernel_rfl)).get 34 rfl rfl;exact Q00 rfl _ (by go_simp) rfl
         ·have e0:(_:Value)=.bool false:=(hd 6 (by kernel_rfl)).get 35 rfl rfl;exact Q00 rfl _ (by go_simp) rfl
         ·have eg:(_:Value)=.bool false:=(hd 7 (by kernel_rfl)).get 36 rfl rfl;have e0:a.tmps[3]?.getD undef=.int .i64 (i:Int):=hkp.get (by kernel_rfl) rfl;exact Q00 (Q04 rfl rfl eg) _ (by go_simp) rfl
         ·have eg:(_:Value)=.bool false:=(hd 7 (by kernel_rfl)).get 36 rfl rfl;have e0:(_:Value)=.int .i64 (i:Int):=(hd 8 (by kernel_rfl)).get 37 rfl rfl;exact Q00 (Q04 rfl rfl eg) (.bool false) (by go_simp; exact HI.out) rfl
         ·have eg:(_:Value)=.bool false:=(hd 7 (by kernel_rfl)).get 36 rfl rfl;have e0:(_:Value)=.bool false:=(hd 9 (by kernel_rfl)).get 38 rfl rfl;exact Q00 (Q04 rfl rfl eg) _ (by go_simp) rfl
         iterate 12 ·have eg:(_:Value)=.bool false:=(hd 10 (by kernel_rfl)).get 39 rfl rfl;exact Q1F (Q0Z rfl rfl eg rfl) rfl
         ·have eg:(_:Value)=.bool false:=(hd 7 (by kernel_rfl)).get 36 rfl rfl;have e0:(_:Value)=.bool false:=(hd 10 (by kernel_rfl)).get 39 rfl rfl;have e1:(_:Value)=undef:=(hd 22 (by kernel_rfl)).get 51 rfl rfl;exact Q00 (Q04 rfl rfl eg) _ (by go_simp) rfl
        intro f W hbW hd;have hbW2:=hbW;have f36:f 36=.bool false:=hd 7 (by omega) _ 36 rfl rfl;have f52:f 52=.bool false:=hd 23 (by omega) _ 52 rfl rfl;have HLW:=Lib.hid (HLO.out.trans (hbW.mono HLO.out.size));clear hd hbW;simp only [Q0H,List.drop_succ_cons,List.drop_zero,f36,f52];try simp only [Act.put,sA1,sA2,sA3]
        go_wp2_with fail
        go_roundw
        case rel=>exact⟨i+1,z,by omega,by omega,fun _=>by rw [Nat.add_sub_cancel]; exact HZI.out,by omega,by go_num,HLW.out,HBK.out.below' hbW2,HRR.out⟩
        case measure=>simp [intOf]; omega
       ·obtain⟨k,hk⟩:∃ k,i=k+1:=⟨i - 1,by omega⟩;have hlk:zs[k]?=some last:=by have:=HLST.out (by omega); rw [hk,Nat.add_sub_cancel] at this; exact this
        have hcp:wr.cell? (ad.add k)=some (.int .i64 last):=by
         obtain⟨ad',e1,e2,e3⟩:=HRD.out.2 (by omega);injection e1 with e1
         subst e1;exact e3 k _ (by rw [List.getElem?_map,hlk]; rfl)
        have CP:=Lib.hid (fun(W:World) (hb:Below wr.heap.size wr W)=>(hb.cell (p:=ad.add k) (by rw [Q0e]; omega)).trans hcp);have HW:=Lib.hid (show IntKind.i64.wrap ((i:Int) - 1)=(k:Int) by rw [IntKind.wrap_i64]; omega);have HKN:=Lib.hid (show (k:Int)<(n:Int) by omega);have HI:=Lib.hid (show 0<i by omega);obtain⟨b,hb⟩:∃ b,b=decide (z<=last):=⟨_,rfl⟩;have HLE:=Lib.hid hb.symm;obtain⟨p,hp⟩:∃ p,p=last:=⟨_,rfl⟩;rw [<- hp] at CP HLE;have HB':=Lib.hid hb;clear hb hcp hlk hk hi0 hl00 hp;go_wp2_with fail
        refine Q0l 24 54 (fun jx W v=>match jx with | 0=>v=.pointer (some ⟨g,1,none⟩) | 1=>v=.slice (some ad) n c | 2=>v=.int .i64 (i:Int) | 3=>v=.pointer (some (ad.add i)) | 4=>v=.int .i64 z | 5=>v=.bool true | 6=>v=.bool false | 7=>v=.bool false | 8=>v=.int .i64 (i:Int) | 9=>v=.bool true | 10=>v=.bool true | 11=>v=.pointer (some ⟨g,1,none⟩) | 12=>v=.slice (some ad) n c | 13=>v=.int .i64 (i:Int) | 14=>v=.pointer (some (ad.add i)) | 15=>v=.int .i64 z | 16=>v=.pointer (some ⟨g,1,none⟩) | 17=>v=.slice (some ad) n c | 18=>v=.int .i64 (i:Int) | 19=>v=.int .i64 (k:Int) | 20=>v=.pointer (some (ad.add k)) | 21=>v=.int .i64 p | 22=>v=.bool b | _=>v=.bool b) [29,30,31,32,33,34,35,36,37,38,39,40,41,42,43,44,45,46,47,48,49,50,51,52] (by kernel_rfl) (by kernel_rfl) (by kernel_rfl) (by simp) (by kernel_rfl) (fun jx=>?last) ?heads ?_
        case last =>
         match jx with
         | 0 | 1 | 2 | 3 | 4 | 5 | 6 | 7 | 8 | 9 | 10 | 11 | 12 | 13 | 14 | 15 | 16 | 17 | 18 | 19 | 20 | 21 | 22 | jx+23=>exact Q16.pure _
        case heads =>
         simp only [List.take_succ_cons,List.take_zero];refine⟨?_,?_,?_,?_,?_,?_,?_,?_,?_,?_,?_,?_,?_,?_,?_,?_,?_,?_,?_,?_,?_,?_,?_,?_,trivial⟩;all_goals intro a W hb hkp hd
         ·have e0:a.tmps[1]?.getD undef=.pointer (some ⟨g,0,none⟩):=hkp.get (by kernel_rfl) rfl;exact Q00 rfl _ (by go_simp) rfl
         ·have e0:(_:Value)=.pointer (some ⟨g,1,none⟩):=(hd 0 (by kernel_rfl)).get 29 rfl rfl;have cc:=C1.out W hb;exact Q00 rfl _ (by go_simp) rfl
         ·have e0:a.tmps[3]?.getD undef=.int .i64 (i:Int):=hkp.get (by kernel_rfl) rfl;exact Q00 rfl _ (by go_simp) rfl
         ·have e0:(_:Value)=.slice (some ad) n c:=(hd 1 (by kernel_rfl)).get 30 rfl rfl;have e1:(_:Value)=.int .i64 (i:Int):=(hd 2 (by kernel_rfl)).get 31 rfl rfl;have hlt:=HIN.out;exact Q00 rfl _ (by go_simp) rfl
         ·have e0:(_:Value)=.pointer (some (ad.add i)):=(hd 3 (by kernel_rfl)).get 32 rfl rfl;have cc:=CZ.out W hb;exact Q00 rfl _ (by go_simp) rfl
         ·have e0:(_:Value)=.int .i64 z:=(hd 4 (by kernel_rfl)).get 33 rfl rfl;exact Q0w rfl 163 #[.int .i64 z] (by go_simp) ((HNO.out W).mono fun e w h=>⟨_,h.1,by rw [<- h.2]; exact Below.refl _ _,rfl⟩)
         ·have e0:(_:Value)=.bool true:=(hd 5 (by kernel_rfl)).get 34 rfl rfl;exact Q00 rfl _ (by go_simp) rfl
         ·have e0:(_:Value)=.bool false:=(hd 6 (by kernel_rfl)).get 35 rfl rfl;exact Q00 rfl _ (by go_simp) rfl
         ·have eg:(_:Value)=.bool false:=(hd 7 (by kernel_rfl)).get 36 rfl rfl;have e0:a.tmps[3]?.getD undef=.int .i64 (i:Int):=hkp.get (by kernel_rfl) rfl;exact Q00 (Q04 rfl rfl eg) _ (by go_simp) rfl
         ·have eg:(_:Value)=.bool false:=(hd 7 (by kernel_rfl)).get 36 rfl rfl;have e0:(_:Value)=.int .i64 (i:Int):=(hd 8 (by kernel_rfl)).get 37 rfl rfl;exact Q00 (Q04 rfl rfl eg) (.bool true) (by go_simp; exact HI.out) rfl
         ·have eg:(_:Value)=.bool false:=(hd 7 (by kernel_rfl)).get 36 rfl rfl;have e0:(_:Value)=.bool true:=(hd 9 (by kernel_rfl)).get 38 rfl rfl;exact Q00 (Q04 rfl rfl eg) _ (by go_simp) rfl
         ·have eg:(_:Value)=.bool true:=(hd 10 (by kernel_rfl)).get 39 rfl rfl;have e0:a.tmps[1]?.getD undef=.pointer (some ⟨g,0,none⟩):=hkp.get (by kernel_rfl) rfl;exact Q00 (Q04 rfl rfl eg) _ (by go_simp) rfl
         ·have eg:(_:Value)=.bool true:=(hd 10 (by kernel_rfl)).get 39 rfl rfl;have e0:(_:Value)=.pointer (some ⟨g,1,none⟩):=(hd 11 (by kernel_rfl)).get 40 rfl rfl;have cc:=C1.out W hb;exact Q00 (Q04 rfl rfl eg) _ (by go_simp) rfl
         ·have eg:(_:Value)=.bool true:=(hd 10 (by kernel_rfl)).get 39 rfl rfl;have e0:a.tmps[3]?.getD undef=.int .i64 (i:Int):=hkp.get (by kernel_rfl) rfl;exact Q00 (Q04 rfl rfl eg) _ (by go_simp) rfl
         ·have eg:(_:Value)=.bool true:=(hd 10 (by kernel_rfl)).get 39 rfl rfl;have e0:(_:Value)=.slice (some ad) n c:=(hd 12 (by kernel_rfl)).get 41 rfl rfl;have e1:(_:Value)=.int .i64 (i:Int):=(hd 13 (by kernel_rfl)).get 42 rfl rfl;have hlt:=HIN.out;exact Q00 (Q04 rfl rfl eg) _ (by go_simp) rfl
         ·have eg:(_:Value)=.bool true:=(hd 10 (by kernel_rfl)).get 39 rfl rfl;have e0:(_:Value)=.pointer (some (ad.add i)):=(hd 14 (by kernel_rfl)).get 43 rfl rfl;have cc:=CZ.out W hb;exact Q00 (Q04 rfl rfl eg) _ (by go_simp) rfl
         ·have eg:(_:Value)=.bool true:=(hd 10 (by kernel_rfl)).get 39 rfl rfl;have e0:a.tmps[1]?.getD undef=.pointer (some ⟨g,0,none⟩):=hkp.get (by kernel_rfl) rfl;exact Q00 (Q04 rfl rfl eg) _ (by go_simp) rfl
         ·have eg:(_:Value)=.bool true:=(hd 10 (by kernel_rfl)).get 39 rfl rfl;have e0:(_:Value)=.pointer (some ⟨g,1,none⟩):=(hd 16 (by kernel_rfl)).get 45 rfl rfl;have cc:=C1.out W hb;exact Q00 (Q04 rfl rfl eg) _ (by go_simp) rfl
         ·have eg:(_:Value)=.bool true:=(hd 10 (by kernel_rfl)).get 39 rfl rfl;have e0:a.tmps[3]?.getD undef=.int .i64 (i:Int):=hkp.get (by kernel_rfl) rfl;exact Q00 (Q04 rfl rfl eg) _ (by go_simp) rfl
         ·have eg:(_:Value)=.bool true:=(hd 10 (by kernel_rfl)).get 39 rfl rfl;have e0:(_:Value)=.int .i64 (i:Int):=(hd 18 (by kernel_rfl)).get 47 rfl rfl;have hw:=HW.out;exact Q00 (Q04 rfl rfl eg) _ (by go_simp) rfl
         ·have eg:(_:Value)=.bool true:=(hd 10 (by kernel_rfl)).get 39 rfl rfl;have e0:(_:Value)=.slice (some ad) n c:=(hd 17 (by kernel_rfl)).get 46 rfl rfl;have e1:(_:Value)=.int .i64 (k:Int):=(hd 19 (by kernel_rfl)).get 48 rfl rfl;have hlt:=HKN.out;exact Q00 (Q04 rfl rfl eg) _ (by go_simp) rfl
         ·have eg:(_:Value)=.bool true:=(hd 10 (by kernel_rfl)).get 39 rfl rfl;have e0:(_:Value)=.pointer (some (ad.add k)):=(hd 20 (by kernel_rfl)).get 49 rfl rfl;have cc:=CP.out W hb;exact Q00 (Q04 rfl rfl eg) _ (by go_simp) rfl
         ·have eg:(_:Value)=.bool true:=(hd 10 (by kernel_rfl)).get 39 rfl rfl;have e0:(_:Value)=.int .i64 z:=(hd 15 (by kernel_rfl)).get 44 rfl rfl;have e1:(_:Value)=.int .i64 p:=(hd 21 (by kernel_rfl)).get 50 rfl rfl;have hle:=HLE.out;exact Q00 (Q04 rfl rfl eg) _ (by go_simp) rfl
         ·have eg:(_:Value)=.bool false:=(hd 7 (by kernel_rfl)).get 36 rfl rfl;have e0:(_:Value)=.bool true:=(hd 10 (by kernel_rfl)).get 39 rfl rfl;have e1:(_:Value)=.bool b:=(hd 22 (by kernel_rfl)).get 51 rfl rfl;exact Q00 (Q04 rfl rfl eg) _ (by go_simp) rfl
        intro f W hbW hd;have hbW2:=hbW;have f36:f 36=.bool false:=hd 7 (by omega) _ 36 rfl rfl;have f52:f 52=.bool b:=hd 23 (by omega) _ 52 rfl rfl;have HLW:=Lib.hid (HLO.out.trans (hbW.mono HLO.out.size));clear hd hbW;simp only [Q0H,List.drop_succ_cons,List.drop_zero,f36,f52];try simp only [Act.put,sA1,sA2,sA3]
        cases b with
        | true =>
         have hle:z<=last:=of_decide_eq_true HB'.out.symm;rw [decide_eq_false (by omega),Bool.false_and] at hr;subst hr;go_wp2_with fail
         go_ret
         exact⟨rfl,HLW.out⟩
        | false =>
         have hle:¬ z<=last:=of_decide_eq_false HB'.out.symm;rw [decide_eq_true (by omega),Bool.true_and] at hr;have HRR:=Lib.hid hr;clear hr;go_wp2_with fail
         go_roundw
         case rel=>exact⟨i+1,z,by omega,by omega,fun _=>by rw [Nat.add_sub_cancel]; exact HZI.out,by omega,by go_num,HLW.out,HBK.out.below' hbW2,HRR.out⟩
         case measure=>simp [intOf]; omega
      ·rw [decide_eq_false hz1] at HNO;rw [decide_eq_false (by omega),Bool.false_and] at hr;subst hr;clear hl00;go_wp2_with fail
       refine Q0l 24 54 (fun jx W v=>match jx with | 0=>v=.pointer (some ⟨g,1,none⟩) | 1=>v=.slice (some ad) n c | 2=>v=.int .i64 (i:Int) | 3=>v=.pointer (some (ad.add i)) | 4=>v=.int .i64 z | 5=>v=.bool false | 6=>v=.bool true | 7=>v=.bool true | 8=>v=undef | 9=>v=undef | 10=>v=undef | 11=>v=undef | 12=>v=undef | 13=>v=undef | 14=>v=undef | 15=>v=undef | 16=>v=undef | 17=>v=undef | 18=>v=undef | 19=>v=undef | 20=>v=undef | 21=>v=undef | 22=>v=undef | _=>v=undef) [29,30,31,32,33,34,35,36,37,38,39,40,41,42,43,44,45,46,47,48,49,50,51,52] (by kernel_rfl) (by kernel_rfl) (by kernel_rfl) (by simp) (by kernel_rfl) (fun jx=>?last) ?heads ?_
       case last =>
        match jx with
        | 0 | 1 | 2 | 3 | 4 | 5 | 6 | 7 | 8 | 9 | 10 | 11 | 12 | 13 | 14 | 15 | 16 | 17 | 18 | 19 | 20 | 21 | 22 | jx+23=>exact Q16.pure _
       case heads =>
        simp only [List.take_succ_cons,List.take_zero];refine⟨?_,?_,?_,?_,?_,?_,?_,?_,?_,?_,?_,?_,?_,?_,?_,?_,?_,?_,?_,?_,?_,?_,?_,?_,trivial⟩;all_goals intro a W hb hkp hd
        ·have e0:a.tmps[1]?.getD undef=.pointer (some ⟨g,0,none⟩):=hkp.get (by kernel_rfl) rfl;exact Q00 rfl _ (by go_simp) rfl
        ·have e0:(_:Value)=.pointer (some ⟨g,1,none⟩):=(hd 0 (by kernel_rfl)).get 29 rfl rfl;have cc:=C1.out W hb;exact Q00 rfl _ (by go_simp) rfl
        ·have e0:a.tmps[3]?.getD undef=.int .i64 (i:Int):=hkp.get (by kernel_rfl) rfl;exact Q00 rfl _ (by go_simp) rfl
        ·have e0:(_:Value)=.slice (some ad) n c:=(hd 1 (by kernel_rfl)).get 30 rfl rfl;have e1:(_:Value)=.int .i64 (i:Int):=(hd 2 (by kernel_rfl)).get 31 rfl rfl;have hlt:=HIN.out;exact Q00 rfl _ (by go_simp) rfl
        ·have e0:(_:Value)=.pointer (some (ad.add i)):=(hd 3 (by kernel_rfl)).get 32 rfl rfl;have cc:=CZ.out W hb;exact Q00 rfl _ (by go_simp) rfl
        ·have e0:(_:Value)=.int .i64 z:=(hd 4 (by kernel_rfl)).get 33 rfl rfl;exact Q0w rfl 163 #[.int .i64 z] (by go_simp) ((HNO.out W).mono fun e w h=>⟨_,h.1,by rw [<- h.2]; exact Below.refl _ _,rfl⟩)
        ·have e0:(_:Value)=.bool false:=(hd 5 (by kernel_rfl)).get 34 rfl rfl;exact Q00 rfl _ (by go_simp) rfl
        ·have e0:(_:Value)=.bool true:=(hd 6 (by kernel_rfl)).get 35 rfl rfl;exact Q00 rfl _ (by go_simp) rfl
        iterate 3 ·have eg:(_:Value)=.bool true:=(hd 7 (by kernel_rfl)).get 36 rfl rfl;exact Q1F (Q0Z rfl rfl eg rfl) rfl
        iterate 12 ·have eg:(_:Value)=undef:=(hd 10 (by kernel_rfl)).get 39 rfl rfl;exact Q1F (Q4G rfl rfl eg) rfl
        ·have eg:(_:Value)=.bool true:=(hd 7 (by kernel_rfl)).get 36 rfl rfl;exact Q1F (Q0Z rfl rfl eg rfl) rfl
       intro f W hbW hd;have f36:f 36=.bool true:=hd 7 (by omega) _ 36 rfl rfl;have HLW:=Lib.hid (HLO.out.trans (hbW.mono HLO.out.size));clear hd hbW;simp only [Q0H,List.drop_succ_cons,List.drop_zero,f36];try simp only [Act.put,sA1,sA2,sA3]
       go_wp2_with fail
       go_ret
       exact⟨rfl,HLW.out⟩
     ·obtain rfl:i=n:=by omega
      rw [List.drop_of_length_le (by have:=HZN.out; omega)] at hr;subst hr;clear hl00 hlst;go_wp2_with fail
      go_ret
      exact⟨rfl,HLO.out⟩
   ·have h3b:((n:Int) != 3*f+1)=true:=by simp [h3]
    obtain rfl:=hbad (by omega);clear hbad;go_wp2_with fail
    go_ret
    exact⟨rfl,HX.out⟩
end
section
open Go.RowKit
def QcS (md:Region.Mode) (ops:Array Oper) (n:Nat) (lo:List Nat) (dead:Nat->List Nat):Bool :=
 (List.range lo.length).all fun k=>(dead k).all fun j=>(List.range n).all fun i=>!Region.waitsFor md ops i j || i == lo.getD k 0 || Q2u md ops ops.size (lo.getD k 0) i
theorem Q83 {md:Region.Mode} {ops:Array Oper} {n:Nat} {lo:List Nat} {dead:Nat->List Nat} (h:QcS md ops n lo dead=true) {k x j i:Nat} (hk:lo[k]?=some x) (hj:j∈dead k) (hi:i<n) (hw:Region.waitsFor md ops i j=true):i=x\/Q2u md ops ops.size x i=true:=by
 have hkl:=(List.getElem?_eq_some_iff.1 hk).1;have h1:=List.all_eq_true.1 (List.all_eq_true.1 (List.all_eq_true.1 h k (List.mem_range.2 hkl)) j hj) i (List.mem_range.2 hi);rw [hw,List.getD_eq_getElem?_getD,hk] at h1;simpa using h1
def QcW (md:Region.Mode) (ops:Array Oper) (n:Nat) (lo:List Nat) (late:Nat->List Nat):Bool :=
 (List.range lo.length).all fun k=>(late k).all fun j=>decide (j<n) && Q2u md ops ops.size j (lo.getD k 0)
theorem Q7H {md:Region.Mode} {ops:Array Oper} {n:Nat} {lo:List Nat} {late:Nat->List Nat} (h:QcW md ops n lo late=true) {k x j:Nat} (hk:lo[k]?=some x) (hj:j∈late k):j<n/\Q2u md ops ops.size j x=true:=by
 have hkl:=(List.getElem?_eq_some_iff.1 hk).1;have h1:=List.all_eq_true.1 (List.all_eq_true.1 h k (List.mem_range.2 hkl)) j hj;rw [List.getD_eq_getElem?_getD,hk] at h1;simpa using h1
section
variable {P:Program} {md:Region.Mode} {ops:Array Oper}
theorem Q6C {n:Nat} {ps:Nat->World->Value->Prop} {J:Nat->World->Prop} {R:World->World->Prop} {lo:List Nat} {dead late:Nat->List Nat} {a0:Act} {Q':Exit->Act->World->Prop} (hn:n<=ops.size) (hsc:n=ops.size\/(Region.sinkB md ops n=true/\Region.chainB md ops n=true)) (hd:Q8i ops n=true) (hbk:QbP md ops n=true)
 (hlo:Q4O md ops n lo=true) (hdd:QcS md ops n lo dead=true) (hlt:QcW md ops n lo late=true)
 (hl:∀ j,Q16 (ps j)) (hR:∀ s j w w' v,s<lo.length->j∉dead s->j∉late s->(∀ s',s<=s'->lo[s']?≠some j)->J s w->ps j w v->R w w'->ps j w' v) (hJ:∀ s w w',J s w->Below w.heap.size w w'->J s w')
 (hop:∀ i o,i<n->ops[i]?=some o->i∉lo->∀ s a w,J s w->Kept ops n a0 a->(∀ j,Region.waitsFor md ops i j=true->Q26 ops ps j w a)->Q5g P ops o a w (ps i))
 (hop2:∀ i o,i<n->ops[i]?=some o->∀ s a w,lo[s]?=some i->J s w->Kept ops n a0 a->(∀ j,Region.waitsFor md ops i j=true->Q26 ops ps j w a)->Q3Z P ops o a w R (J (s+1)) (ps i))
 (hL:∀ a w,J lo.length w->Kept ops n a0 a->(∀ j,j<n->(∀ k,k<lo.length->j∉dead k)->Q26 ops ps j w a)->wpAny P md ops Q' (ops.size - n) (Q0W ops.size n) a w)
 (hsz:∀ (i:Nat) (o:Oper) (d:Tmp),i<n->ops[i]?=some o->o.dst=some d->d<a0.tmps.size) :
 ∀ (f:Nat) (listed:Array Bool) (s:Nat) (a:Act) (w:World),((List.range n).filter fun i=>!listed.getD i false).length=f->HeadInv md ops n listed->s<=lo.length->(∀ k x,lo[k]?=some x->(listed.getD x false=true <-> k<s))->J s w->Kept ops n a0 a->(∀ j,j<n->listed.getD j false=true->(∀ k,k<s->j∉dead k)->Q26 ops ps j w a)->wpAny P md ops Q' (f+(ops.size - n)) listed a w
 | 0,listed,s,a,w,hf,inv,hsl,hph,hb,hk,hp=>by
  have hall:∀ j,j<n->listed.getD j false=true:=fun j hj=>by
   cases hx:listed.getD j false with
   | true=>rfl
   | false =>
    have:j∈(List.range n).filter fun i=>!listed.getD i false:=List.mem_filter.2 ⟨List.mem_range.2 hj,by rw [hx]; rfl⟩
    rw [List.eq_nil_of_length_eq_zero hf] at this;cases this
  have hls:listed=Q0W ops.size n:=by
   apply Array.ext
   ·rw [inv.size]; simp [Q0W]
   ·intro i h1 h2;have hi:i<ops.size:=by rw [<- inv.size]; exact h1
    have e1:listed[i]=listed.getD i false:=by simp [h1]
    have e2:(Q0W ops.size n)[i]=(Q0W ops.size n).getD i false:=by simp [h2]
    rw [e1,e2,Q3M _ _ _ _ hi];by_cases hin:i<n
    ·rw [hall i hin,decide_eq_true hin]
    ·rw [decide_eq_false hin];exact getD_both (inv.tail i (by omega) hi)
  have hsE:s=lo.length:=by
   rcases Nat.lt_or_ge s lo.length with h1 | h1
   ·have h2:=hph s lo[s] (List.getElem?_eq_getElem h1);have h3:=h2.1 (hall _ (Q3X hlo _ (List.getElem_mem h1)));omega
   ·omega
  subst hsE;rw [Nat.zero_add,hls];exact hL a w hb hk fun j hj hjd=>hp j hj (hall j hj) hjd
 | f+1,listed,s,a,w,hf,inv,hsl,hph,hb,hk,hp=>by
  have hex:∃ i,i<n/\listed.getD i false=false:=by
   cases hx:(List.range n).filter fun i=>!listed.getD i false with
   | nil=>rw [hx] at hf; cases hf
   | cons i t =>
    have:i∈(List.range n).filter fun i=>!listed.getD i false:=by rw [hx]; exact List.mem_cons_self
    obtain⟨h1,h2⟩:=List.mem_filter.1 this;exact⟨i,List.mem_range.1 h1,by simpa using h2⟩
  obtain⟨m,hm,hmf,hmb⟩:=Q3Q (fun i=>listed.getD i false) n hex;have hin:∀ k,k<n->listed.getD k false=false->listed.getD k true=false:=fun k hk h=>getD_in (by rw [inv.size]; omega) h
  rw [show f+1+(ops.size - n)=(f+(ops.size - n))+1 by omega];refine⟨fun h0=>?_,fun i hi=>?_⟩
  ·exfalso
   have:m∈Region.ready md ops listed:=by
    refine mem_ready.2 ⟨hin m hm hmf,ops[m],Array.getElem?_eq_getElem (by omega),fun e he hbd=>?_⟩;have h1:=List.all_eq_true.1 hbk m (List.mem_range.2 hm);rw [Array.getElem?_eq_getElem (show m<ops.size by omega)] at h1;have h2:=Array.all_eq_true_iff_forall_mem.1 h1 e he;rw [hbd] at h2;simp at h2;exact hmb e.on h2
   rw [h0] at this;cases this
  ·have hin':i<n:=by
    rcases Nat.lt_or_ge i n with h | h
    ·exact h
    ·rcases Nat.lt_or_ge n ops.size with hn' | hn'
     ·have hsc':=hsc.resolve_left (by omega);exact absurd hi (tail_waits hsc'.1 hsc'.2 hn' inv _ m rfl hm (hin m hm hmf) i h)
     ·obtain⟨_,o,ho,_⟩:=mem_ready.1 hi;have:=(Array.getElem?_eq_some_iff.1 ho).1;omega
   obtain⟨hun,o,ho,hall⟩:=mem_ready.1 hi;have hdep:∀ j,Region.waitsFor md ops i j=true->Q26 ops ps j w a:=fun j hj=>by
    obtain⟨oj,hoj,e,he,hbd,hon⟩:=Region.waitsFor_spec hj;have:oj=o:=Option.some.inj (hoj.symm.trans ho);subst this;have h1:=hall e he hbd;rw [hon] at h1;have h2:=List.all_eq_true.1 hbk i (List.mem_range.2 hin');rw [ho] at h2;have h3:=Array.all_eq_true_iff_forall_mem.1 h2 e he;rw [hbd] at h3;simp at h3;exact hp j (by omega) h1 fun k hks hjd=>by
     have hkl:k<lo.length:=by omega
     have hk:=List.getElem?_eq_getElem hkl;have hlx:=(hph k _ hk).2 hks;have hil:listed.getD i false=true:=by
      rcases Q83 hdd hk hjd hin' hj with e | e
      ·rw [e]; exact hlx
      ·have hxn:=Q3X hlo _ (List.getElem_mem hkl);have hxo:ops[lo[k]]?=some ops[lo[k]]:=Array.getElem?_eq_getElem (by omega);exact Q1k inv i _ _ _ e hxo (inv.closed _ _ hxo hlx)
     rw [getD_both hun] at hil;cases hil
   have hcnt:((List.range n).filter fun k=>!(listed.setIfInBounds i true).getD k false).length=f:=by
    have hmem:i∈(List.range n).filter fun i=>!listed.getD i false:=List.mem_filter.2 ⟨List.mem_range.2 hin',by rw [getD_both hun]; rfl⟩
    have hnd:((List.range n).filter fun i=>!listed.getD i false).Nodup:=List.Pairwise.filter _ List.nodup_range;have he:((List.range n).filter fun k=>!(listed.setIfInBounds i true).getD k false)=((List.range n).filter fun i=>!listed.getD i false).erase i:=by
     rw [hnd.erase_eq_filter,List.filter_filter];apply List.filter_congr
     intro k hk;by_cases hki:i=k
     ·subst hki;have hlt:i<listed.size:=by rw [inv.size]; omega
      simp [hlt]
     ·rw [getD_set_ne false hki];simp [Ne.symm hki]
    rw [he,List.length_erase_of_mem hmem,hf];rfl
   have hon:(listed.setIfInBounds i true).getD i false=true:=by
    have hlt:i<listed.size:=by rw [inv.size]; omega
    simp [hlt]
   have hfin:∀ s' v w',s'<=lo.length->(∀ k x,lo[k]?=some x->((listed.setIfInBounds i true).getD x false=true <-> k<s'))->J s' w'->(s<=s')->(∀ j,listed.getD j false=true->(∀ k,k<s'->j∉dead k)->∀ u,ps j w u->ps j w' u)->ps i w' v->wpAny P md ops Q' (f+(ops.size - n)) (listed.setIfInBounds i true) (a.put o.dst v) w':=fun s' v w' hs' hph' hj' hss hlast hpv=>by
    refine Q6C hn hsc hd hbk hlo hdd hlt hl hR hJ hop hop2 hL hsz f _ s' _ w' hcnt (inv.set hi hin') hs' hph' hj' ⟨?_,by rw [Q2G]; exact hk.size,fun d hfree=>?_⟩ fun j hj hlj hjd oj d hoj hdj=>?_
    ·rw [<- hk.defers]; unfold Act.put; split <;> rfl
    ·rw [Q1x (hfree i o hin' ho)]; exact hk.tmps d hfree
    ·by_cases hji:j=i
     ·subst hji;have:oj=o:=Option.some.inj (hoj.symm.trans ho);subst this;have hds:d<a.tmps.size:=by rw [hk.size]; exact hsz j oj d hin' hoj hdj
      have he:(a.put oj.dst v).eval (.tmp d)=v:=by
       rw [hdj];simp [Act.put,Act.eval,hds]
      rw [he];exact hpv
     ·have hl2:listed.getD j false=true:=by rw [getD_set_ne false (Ne.symm hji)] at hlj; exact hlj
      have he:(a.put o.dst v).eval (.tmp d)=a.eval (.tmp d):=by
       have:=Q1x (a:=a) (v:=v) (Q2c hd hj hin' hji hoj ho hdj);simp [Act.eval,this]
      rw [he];exact hlast j hl2 hjd _ (hp j hj hl2 (fun k hk=>hjd k (by omega)) oj d hoj hdj)
   unfold wpOp;simp only [ho];by_cases hil:i∈lo
   ·obtain⟨k,hki⟩:=List.mem_iff_getElem?.1 hil;have hnl:listed.getD i false=false:=getD_both hun;have h1:=hph k i hki;have hks:¬ k<s:=fun h2=>by rw [h1.2 h2] at hnl; cases hnl
    have hsk:s=k:=by
     rcases Nat.eq_zero_or_pos k with e | e
     ·omega
     ·have hpl:k - 1<lo.length:=by have:=(List.getElem?_eq_some_iff.1 hki).1; omega
      have h2:=Q2P hlo (k - 1) lo[k - 1] i (List.getElem?_eq_getElem hpl) (by rw [show k - 1+1=k by omega]; exact hki);have h3:=Q1k inv _ _ i o h2.2 ho hall;have h4:=(hph (k - 1) _ (List.getElem?_eq_getElem hpl)).1 h3;omega
    subst hsk;have hrel:=hop2 i o hin' ho s a w hki hb hk hdep (wpAny P md ops Q' (f+(ops.size - n)) (listed.setIfInBounds i true)) Q' (fun v w' hr hj hpv=>hfin (s+1) v w' (by have:=(List.getElem?_eq_some_iff.1 hki).1; omega) (fun k' x hx=>by
     by_cases hxi:x=i
     ·subst hxi;have:=Q6H hlo hx hki;rw [hon]
      simp; omega
     ·rw [getD_set_ne false (Ne.symm hxi),hph k' x hx];have:k'≠s:=fun e=>hxi (by subst e; rw [hx] at hki; exact Option.some.inj hki)
      omega) hj (by omega) (fun j hlj hjd u hu=>hR s j _ _ _ (by have:=(List.getElem?_eq_some_iff.1 hki).1; omega) (hjd s (by omega)) (fun hjl=>by
      have h5:=Q7H hlt hki hjl;have hjo:ops[j]?=some ops[j]:=Array.getElem?_eq_getElem (by omega);have h6:=Q1k inv i _ _ _ h5.2 hjo (inv.closed _ _ hjo hlj);rw [hnl] at h6;cases h6) (fun s' hs' e=>by have:=(hph s' j e).1 hlj; omega) hb hu hr) hpv)
    split
    ·rename_i hwt;rw [if_pos hwt] at hrel;exact .inl hrel
    ·rename_i hwt;rw [if_neg hwt] at hrel;exact hrel
   ·have hrel:=hop i o hin' ho hil s a w hb hk hdep (wpAny P md ops Q' (f+(ops.size - n)) (listed.setIfInBounds i true)) Q' (fun v w' hbw hpv=>hfin s v w' hsl (fun k' x hx=>by
     have hxi:x≠i:=fun e=>hil (e▸List.mem_of_getElem? hx)
     rw [getD_set_ne false (Ne.symm hxi)];exact hph k' x hx) (hJ s w w' hb hbw) (Nat.le_refl _) (fun j _ _ u hu=>hl j _ _ _ hu hbw) hpv)
    split
    ·rename_i hwt;rw [if_pos hwt] at hrel;exact .inl hrel
    ·rename_i hwt;rw [if_neg hwt] at hrel;exact hrel
end
theorem Q4a {P:Program} {id:Nat} {Q:Exit->Act->World->Prop} {a:Act} {w:World} {l:List Oper} (n m:Nat) (ps:Nat->World->Value->Prop) (J:Nat->World->Prop) (R:World->World->Prop) (lo:List Nat) (dead late:Nat->List Nat) (ds:List Nat) (hm:P.follows .mixedOrders=true) (hB:QbJ .any l.toArray n=true) (hlo:Q4O .any l.toArray n lo=true) (hdd:QcS .any l.toArray n lo dead=true) (hlt:QcW .any l.toArray n lo late=true) (hsz:QbF l.toArray n m=true) (ha:a.tmps.size=m) (hds:Q5N l.toArray n=ds)
 (hl:∀ j,Q16 (ps j)) (hR:∀ s j w w' v,s<lo.length->j∉dead s->j∉late s->(∀ s',s<=s'->lo[s']?≠some j)->J s w->ps j w v->R w w'->ps j w' v) (hJ:∀ s w w',J s w->Below w.heap.size w w'->J s w') (hJ0:J 0 w) (hop:Q3g P l.toArray n ps J R lo a 0 (l.take n))
 (h:∀ (f:Nat->Value) w',J lo.length w'->(∀ j,j<n->(∀ k,k<lo.length->j∉dead k)->∀ o d,l.toArray[j]?=some o->o.dst=some d->ps j w' (f d))->wpList P l.toArray Q (l.drop n) (Q0H a ds f) w'):(Code.region id l.toArray true).wp P Q a w:=by
 simp only [QbJ,Bool.and_eq_true,Bool.or_eq_true,decide_eq_true_eq] at hB;obtain⟨⟨⟨⟨hn,hsc⟩,hd⟩,hbk⟩,hsq⟩:=hB;have inv0:HeadInv .any l.toArray n (Array.replicate l.toArray.size false) :=
  ⟨by simp,fun j oj _ hl=>(by rw [getD_replicate_false] at hl; cases hl),fun t _ ht=>getD_in (by simpa using ht) (getD_replicate_false _ _)⟩
 have hdl:(l.drop n).length=l.toArray.size - n:=by simp
 refine wp_region_any hm ?_;have:=Q6C (Q':=Q) (md:=.any) (P:=P) (ops:=l.toArray) (n:=n) (ps:=ps) (J:=J) (R:=R) (lo:=lo) (a0:=a) hn hsc hd hbk hlo hdd hlt hl hR hJ (fun i o hi ho hni s a' w' h1 h2 h3=>by
  have:=Q3g.spec (l.take n) 0 hop i o (by rw [List.getElem?_take,if_pos hi]; simpa using ho);simp only [Nat.zero_add] at this;rw [if_neg hni] at this;exact this s a' w' h1 h2 h3)
  (fun i o hi ho s a' w' hlos h1 h2 h3=>by
   have:=Q3g.spec (l.take n) 0 hop i o (by rw [List.getElem?_take,if_pos hi]; simpa using ho);simp only [Nat.zero_add] at this;rw [if_pos (List.mem_of_getElem? hlos)] at this;exact this s a' w' hlos h1 h2 h3)
  (fun a' w' h1 h2 h3=>by
   have:=wpAny_of_seq (md:=.any) (ops:=l.toArray) (Q':=Q) (l.drop n) n (Q0W l.toArray.size n) a' w' (fun j=>by simp [List.getElem?_drop]) (by rw [hdl]; exact hsq) (by
    rw [h2.puts (by rw [ha]; exact hsz),hds];exact h _ w' h1 fun j hj hjd o d ho hd=>(h3 j hj hjd).get d ho hd)
   rw [hdl] at this;exact this)
  (fun i o d hi ho hdst=>by
   have:=List.all_eq_true.1 hsz i (List.mem_range.2 hi);simp only [ho,hdst,decide_eq_true_eq] at this;rw [ha]; exact this)
  n (Array.replicate l.toArray.size false) 0 a w.drew (by
   rw [List.filter_eq_self.2 (fun i _=>by rw [getD_replicate_false]; rfl)]
   simp) inv0 (Nat.zero_le _) (fun k x _=>by rw [getD_replicate_false]; simp) (hJ 0 _ _ hJ0 (Below.refl _ w).drew) ⟨rfl,rfl,fun _ _=>rfl⟩ (fun j _ hj=>by rw [getD_replicate_false] at hj; cases hj)
 rw [show n+(l.toArray.size - n)=l.toArray.size by omega] at this;exact this
end
end Go.Proofs.YtcpngeiahgoacaaGreat
