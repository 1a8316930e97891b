/- Parts of the proof, in one text: RefNext, RefMay, RefCheck, RvH, AtW, AtX, AtY, AtZ, AlS, AlW, AlM. -/
import Derived.Test.YtcpngeiahgoacaaGreatD5
import Derived.Test.YtcpngeiahgoacaaGreatD4
import Derived.Test.YtcpngeiahgoacaaGreatD21
import Derived.Test.YtcpngeiahgoacaaGreatD8
import Derived.Test.YtcpngeiahgoacaaGreatD10
import Derived.Test.YtcpngeiahgoacaaGreatD17
import Derived.Test.YtcpngeiahgoacaaGreatD16
import Derived.BigRegion
import Derived.Deep.DeepCutAuto
namespace Go.Proofs.YtcpngeiahgoacaaGreat
set_option linter.unusedVariables false
set_option linter.unusedSimpArgs false
set_option maxRecDepth 100000
set_option maxHeartbeats 16000000
section
open Go.RowKit
attribute [local irreducible] Q0i
theorem Q0D (n l m:Int) (w:World):Calls Tryz.prog 118 #[.int .i64 n,.int .i64 l,.int .i64 m] w fun e w'=>e=.returned (.bool (decide (l<=n/\n<=m)))/\w=w':=by
 by_cases h:l<=n
 ·go_enter Tryz.func118,Tryz.ntmps118
  go_wp2
  go_ret
  exact⟨Q0N (by simp [h]),rfl⟩
 ·have h':¬ (l<=n/\n<=m):=fun hh=>h hh.1
  rw [decide_eq_false h'];clear h';go_enter Tryz.func118,Tryz.ntmps118
  go_wp2
  go_ret
  exact⟨rfl,rfl⟩
def Q2F:Option Int->List Int->Bool
 | _,[]=>true
 | none,z :: t=>decide (1<=z/\z<=28) && Q2F (some z) t
 | some y,z :: t=>decide (1<=z/\z<=28) && !decide (z<=y) && Q2F (some z) t
theorem Q51:∀ (l:List Int) (y:Int),0<=y->Q2F (some y) l=Q1c y l
 | [],_,_=>rfl
 | z :: t,y,hy=>by
  unfold Q2F Q1c;by_cases h:y<z/\z<=28
  ·rw [Q51 t z (by omega),decide_eq_true h,decide_eq_true (by omega),decide_eq_false (by omega)]; rfl
  ·rw [decide_eq_false h];by_cases h2:z<=y
   ·rw [decide_eq_true h2]; simp
   ·rw [decide_eq_false (p:=1<=z/\z<=28) (by omega)]; rfl
theorem Qaq (l:List Int):Q2F none l=Q1c 0 l:=by
 cases l with
 | nil=>rfl
 | cons z t =>
  unfold Q2F Q1c;by_cases h:1<=z/\z<=28
  ·rw [decide_eq_true h,decide_eq_true (by omega),Q51 t z (by omega)]
  ·rw [decide_eq_false h,decide_eq_false (by omega)]; rfl
def Q5b (zs:List Int) (i:Nat):Option Int:=if i=0 then none else zs[i - 1]?
theorem Qap (A:Option Addr) (n c:Nat) (zs:List Int) (w:World) (B:Nat) (h:Q0d w B 1 A n (zs.map vn)) (hB:B<=w.heap.size) (hn:n<=17592186044416) :
 Calls Tryz.prog 120 #[.slice A n c] w fun e w'=>e=.returned (.bool (Q2M zs))/\Below w.heap.size w w':=by
 have hzn:zs.length=n:=by have:=h.1; simpa using this
 have H:=Lib.hid h;have HZN:=Lib.hid hzn;clear h hzn;by_cases h1:n=1\/n=4\/n=7
 ·have HR:=Lib.hid (show Q2M zs=Q2F none zs by unfold Q2M; rw [decide_eq_true (by rw [HZN.out]; omega),Bool.true_and,Qaq]);generalize Q2M zs=cb at HR ⊢;have hn7:n<=7:=by omega
  go_enter Tryz.func120,Tryz.ntmps120
  go_upto_region 1 with fail
  go_cut [16] (fun iv wr=>iv=.bool false/\w=wr)
  case first =>
   rcases h1 with rfl | rfl | rfl
   all_goals
    go_wp2_with fail
    go_meet
    exact⟨rfl,rfl⟩
  case rest =>
  obtain⟨rfl,rfl⟩:=hcut;clear h1;go_wp2_with fail
  go_loopw [3] (fun iv wr=>∃ (i:Nat),i<=n/\iv=.int .i64 i/\Below w.heap.size w wr/\cb=Q2F (Q5b zs i) (zs.drop i)) (fun iv _=>n - (intOf iv).toNat)
  case atStart=>exact⟨0,by omega,rfl,Below.refl _ _,HR.out⟩
  case round =>
   obtain⟨i,hi,rfl,hbel,hr⟩:=hrel;have HB:=Lib.hid hbel;have hsz:=hbel.size;clear hbel;by_cases hin:i<n
   ·obtain⟨ad,hA,hadb,hcell⟩:=H.out.2 (by omega);subst hA;have hil:i<zs.length:=by have:=HZN.out; omega
    have hcz:∀ W,Below wr.heap.size wr W->W.cell? (ad.add i)=some (.int .i64 zs[i]):=fun W hb =>
     ((HB.out.trans (hb.mono hsz)).cell (by rw [Q0e]; omega)).trans (hcell i _ (by rw [List.getElem?_map,List.getElem?_eq_getElem hil]; rfl))
    rw [List.drop_eq_getElem_cons hil] at hr;have hln:Q5b zs (i+1)=some zs[i]:=by unfold Q5b; rw [if_neg (by omega),show i+1 - 1=i by omega,List.getElem?_eq_getElem hil]
    generalize zs[i]=z at hr hcz hln;have HC:=Lib.hid hcz;have HLN:=Lib.hid hln;clear hcz hln;by_cases hz:1<=z/\z<=28
    ·by_cases h0:i=0
     ·subst h0;have hr':cb=Q2F (Q5b zs 1) (zs.drop 1):=by
       rw [hr,HLN.out];show Q2F none (z :: zs.drop 1)=_
       conv=>lhs; unfold Q2F
       rw [decide_eq_true hz,Bool.true_and]
      have HR':=Lib.hid hr';clear hr hr' hcell;go_upto_region 6 with fail
      refine Q0y 21 45 (by kernel_rfl) (by kernel_rfl) (by kernel_rfl) (by simp) ?_;simp only [List.take_succ_cons,List.take_zero,List.drop_succ_cons,List.drop_zero];refine Q02 rfl rfl (.slice (some ad) n c) (fun W _=>rfl) ?_;try simp only [Act.put,sA1,sA2,sA3]
      refine Q02 rfl rfl (.int .i64 ((0:Nat):Int)) (fun W _=>rfl) ?_;try simp only [Act.put,sA1,sA2,sA3]
      refine Q02 rfl rfl (.pointer (some (ad.add 0))) (fun W _=>by go_simp) ?_;try simp only [Act.put,sA1,sA2,sA3]
      refine Q0o rfl rfl (.int .i64 z) (fun W hb=>Q0I 3 (.tmp 25) rfl (ad.add 0) rfl (by kernel_rfl) _ (HC.out W hb)) ?_;try simp only [Act.put,sA1,sA2,sA3]
      refine Q0Q rfl rfl 118 #[.int .i64 z,.int .i64 1,.int .i64 28] (fun W=>by go_simp) (.bool (decide (1<=z/\z<=28))) (fun W hb=>(Q0D z 1 28 W).mono fun e w' ⟨h1,h2⟩=>⟨h1,h2▸Below.refl _ _⟩) ?_;try simp only [Act.put,sA1,sA2,sA3]
      rw [decide_eq_true hz];refine Q02 rfl rfl (.bool false) (fun W _=>by go_simp) ?_;try simp only [Act.put,sA1,sA2,sA3]
      refine Q02 rfl rfl (.bool false) (fun W _=>rfl) ?_;try simp only [Act.put,sA1,sA2,sA3]
      refine Q02 rfl rfl (.int .i64 ((0:Nat):Int)) (fun W _=>rfl) ?_;try simp only [Act.put,sA1,sA2,sA3]
      refine Q02 rfl rfl (.bool false) (fun W _=>by go_simp) ?_;try simp only [Act.put,sA1,sA2,sA3]
      refine Q02 rfl rfl (.bool false) (fun W _=>rfl) ?_;try simp only [Act.put,sA1,sA2,sA3]
      refine Q0j rfl rfl ?_;try simp only [Act.put,sA1,sA2,sA3]
      refine Q0j rfl rfl ?_;try simp only [Act.put,sA1,sA2,sA3]
      refine Q0j rfl rfl ?_;try simp only [Act.put,sA1,sA2,sA3]
      refine Q0j rfl rfl ?_;try simp only [Act.put,sA1,sA2,sA3]
      refine Q0j rfl rfl ?_;try simp only [Act.put,sA1,sA2,sA3]
      refine Q0j rfl rfl ?_;try simp only [Act.put,sA1,sA2,sA3]
      refine Q0j rfl rfl ?_;try simp only [Act.put,sA1,sA2,sA3]
      refine Q0j rfl rfl ?_;try simp only [Act.put,sA1,sA2,sA3]
      refine Q0j rfl rfl ?_;try simp only [Act.put,sA1,sA2,sA3]
      refine Q0j rfl rfl ?_;try simp only [Act.put,sA1,sA2,sA3]
      refine Q02 rfl rfl (.bool false) (fun W _=>by go_simp) ?_;try simp only [Act.put,sA1,sA2,sA3]
      refine Q0S ?_;intro w2 hb2;have HB2:=Lib.hid (HB.out.trans (hb2.mono hsz));clear hb2;go_wp2_with fail
      go_roundw
      case rel=>exact⟨1,by omega,by go_num,HB2.out,HR'.out⟩
      case measure=>simp [intOf]; omega
     ·have hpl:i - 1<zs.length:=by omega
      have hcy:∀ W,Below wr.heap.size wr W->W.cell? (ad.add (i - 1))=some (.int .i64 zs[i - 1]):=fun W hb =>
       ((HB.out.trans (hb.mono hsz)).cell (by rw [Q0e]; omega)).trans (hcell (i - 1) _ (by rw [List.getElem?_map,List.getElem?_eq_getElem hpl]; rfl))
      have hl0:Q5b zs i=some zs[i - 1]:=by unfold Q5b; rw [if_neg h0,List.getElem?_eq_getElem hpl]
      rw [hl0] at hr;clear hl0 hcell;generalize zs[i - 1]=y at hr hcy;have HP:=Lib.hid hcy;have htn:((i:Int) - 1).toNat=i - 1:=by omega
      have hi1:(1:Int)<=(i:Int):=by omega
      have hi3:¬ (n:Int)<=(i:Int) - 1:=by omega
      have hpos:0<i:=by omega
      have hi2:IntKind.i64.wrap ((i:Int) - 1)=(i:Int) - 1:=IntWalk.i64_in _ (by omega);clear hcy;by_cases hzy:z<=y
      ·have hr':cb=false:=by
        rw [hr];unfold Q2F;rw [decide_eq_true hz,decide_eq_true hzy]; rfl
       subst hr';clear hr;go_upto_region 6 with fail
       refine Q0y 21 45 (by kernel_rfl) (by kernel_rfl) (by kernel_rfl) (by simp) ?_;simp only [List.take_succ_cons,List.take_zero,List.drop_succ_cons,List.drop_zero];refine Q02 rfl rfl (.slice (some ad) n c) (fun W _=>rfl) ?_;try simp only [Act.put,sA1,sA2,sA3]
       refine Q02 rfl rfl (.int .i64 (i:Int)) (fun W _=>rfl) ?_;try simp only [Act.put,sA1,sA2,sA3]
       refine Q02 rfl rfl (.pointer (some (ad.add i))) (fun W _=>by go_simp) ?_;try simp only [Act.put,sA1,sA2,sA3]
       refine Q0o rfl rfl (.int .i64 z) (fun W hb=>Q0I 3 (.tmp 25) rfl (ad.add i) rfl (by kernel_rfl) _ (HC.out W hb)) ?_;try simp only [Act.put,sA1,sA2,sA3]
       refine Q0Q rfl rfl 118 #[.int .i64 z,.int .i64 1,.int .i64 28] (fun W=>by go_simp) (.bool (decide (1<=z/\z<=28))) (fun W hb=>(Q0D z 1 28 W).mono fun e w' ⟨h1,h2⟩=>⟨h1,h2▸Below.refl _ _⟩) ?_;try simp only [Act.put,sA1,sA2,sA3]
       rw [decide_eq_true hz];refine Q02 rfl rfl (.bool false) (fun W _=>by go_simp) ?_;try simp only [Act.put,sA1,sA2,sA3]
       refine Q02 rfl rfl (.bool false) (fun W _=>rfl) ?_;try simp only [Act.put,sA1,sA2,sA3]
       refine Q02 rfl rfl (.int .i64 (i:Int)) (fun W _=>rfl) ?_;try simp only [Act.put,sA1,sA2,sA3]
       refine Q02 rfl rfl (.bool true) (fun W _=>by go_simp) ?_;try simp only [Act.put,sA1,sA2,sA3]
       refine Q02 rfl rfl (.bool true) (fun W _=>rfl) ?_;try simp only [Act.put,sA1,sA2,sA3]
       refine Q02 rfl rfl (.slice (some ad) n c) (fun W _=>rfl) ?_;try simp only [Act.put,sA1,sA2,sA3]
       refine Q02 rfl rfl (.int .i64 (i:Int)) (fun W _=>rfl) ?_;try simp only [Act.put,sA1,sA2,sA3]
       refine Q02 rfl rfl (.pointer (some (ad.add i))) (fun W _=>by go_simp) ?_;try simp only [Act.put,sA1,sA2,sA3]
       refine Q0o rfl rfl (.int .i64 z) (fun W hb=>Q0I 3 (.tmp 35) rfl (ad.add i) rfl (by kernel_rfl) _ (HC.out W hb)) ?_;try simp only [Act.put,sA1,sA2,sA3]
       refine Q02 rfl rfl (.slice (some ad) n c) (fun W _=>rfl) ?_;try simp only [Act.put,sA1,sA2,sA3]
       refine Q02 rfl rfl (.int .i64 (i:Int)) (fun W _=>rfl) ?_;try simp only [Act.put,sA1,sA2,sA3]
       refine Q02 rfl rfl (.int .i64 ((i:Int) - 1)) (fun W _=>by go_simp) ?_;try simp only [Act.put,sA1,sA2,sA3]
       refine Q02 rfl rfl (.pointer (some (ad.add (i - 1)))) (fun W _=>by go_simp) ?_;try simp only [Act.put,sA1,sA2,sA3]
       refine Q0o rfl rfl (.int .i64 y) (fun W hb=>Q0I 3 (.tmp 40) rfl (ad.add (i - 1)) rfl (by kernel_rfl) _ (HP.out W hb)) ?_;try simp only [Act.put,sA1,sA2,sA3]
       refine Q02 rfl rfl (.bool (decide (z<=y))) (fun W _=>by go_simp) ?_;try simp only [Act.put,sA1,sA2,sA3]
       refine Q02 rfl rfl (.bool (decide (z<=y))) (fun W _=>by go_simp) ?_;try simp only [Act.put,sA1,sA2,sA3]
       refine Q0S ?_;intro w2 hb2;have HB2:=Lib.hid (HB.out.trans (hb2.mono hsz));clear hb2 htn hi1 hi2 hi3;go_wp2_with fail
       go_ret
       exact⟨rfl,HB2.out⟩
      ·have hr':cb=Q2F (Q5b zs (i+1)) (zs.drop (i+1)):=by
        rw [hr,HLN.out]
        conv=>lhs; unfold Q2F
        rw [decide_eq_true hz,decide_eq_false hzy]; rfl
       have HR':=Lib.hid hr';clear hr hr';go_upto_region 6 with fail
       refine Q0y 21 45 (by kernel_rfl) (by kernel_rfl) (by kernel_rfl) (by simp) ?_;simp only [List.take_succ_cons,List.take_zero,List.drop_succ_cons,List.drop_zero];refine Q02 rfl rfl (.slice (some ad) n c) (fun W _=>rfl) ?_;try simp only [Act.put,sA1,sA2,sA3]
       refine Q02 rfl rfl (.int .i64 (i:Int)) (fun W _=>rfl) ?_;try simp only [Act.put,sA1,sA2,sA3]
       refine Q02 rfl rfl (.pointer (some (ad.add i))) (fun W _=>by go_simp) ?_;try simp only [Act.put,sA1,sA2,sA3]
       refine Q0o rfl rfl (.int .i64 z) (fun W hb=>Q0I 3 (.tmp 25) rfl (ad.add i) rfl (by kernel_rfl) _ (HC.out W hb)) ?_;try simp only [Act.put,sA1,sA2,sA3]
       refine Q0Q rfl rfl 118 #[.int .i64 z,.int .i64 1,.int .i64 28] (fun W=>by go_simp) (.bool (decide (1<=z/\z<=28))) (fun W hb=>(Q0D z 1 28 W).mono fun e w' ⟨h1,h2⟩=>⟨h1,h2▸Below.refl _ _⟩) ?_;try simp only [Act.put,sA1,sA2,sA3]
       rw [decide_eq_true hz];refine Q02 rfl rfl (.bool false) (fun W _=>by go_simp) ?_;try simp only [Act.put,sA1,sA2,sA3]
       refine Q02 rfl rfl (.bool false) (fun W _=>rfl) ?_;try simp only [Act.put,sA1,sA2,sA3]
       refine Q02 rfl rfl (.int .i64 (i:Int)) (fun W _=>rfl) ?_;try simp only [Act.put,sA1,sA2,sA3]
       refine Q02 rfl rfl (.bool true) (fun W _=>by go_simp) ?_;try simp only [Act.put,sA1,sA2,sA3]
       refine Q02 rfl rfl (.bool true) (fun W _=>rfl) ?_;try simp only [Act.put,sA1,sA2,sA3]
       refine Q02 rfl rfl (.slice (some ad) n c) (fun W _=>rfl) ?_;try simp only [Act.put,sA1,sA2,sA3]
       refine Q02 rfl rfl (.int .i64 (i:Int)) (fun W _=>rfl) ?_;try simp only [Act.put,sA1,sA2,sA3]
       refine Q02 rfl rfl (.pointer (some (ad.add i))) (fun W _=>by go_simp) ?_;try simp only [Act.put,sA1,sA2,sA3]
       refine Q0o rfl rfl (.int .i64 z) (fun W hb=>Q0I 3 (.tmp 35) rfl (ad.add i) rfl (by kernel_rfl) _ (HC.out W hb)) ?_;try simp only [Act.put,sA1,sA2,sA3]
       refine Q02 rfl rfl (.slice (some ad) n c) (fun W _=>rfl) ?_;try simp only [Act.put,sA1,sA2,sA3]
       refine Q02 rfl rfl (.int .i64 (i:Int)) (fun W _=>rfl) ?_;try simp only [Act.put,sA1,sA2,sA3]
       refine Q02 rfl rfl (.int .i64 ((i:Int) - 1)) (fun W _=>by go_simp) ?_;try simp only [Act.put,sA1,sA2,sA3]
       refine Q02 rfl rfl (.pointer (some (ad.add (i - 1)))) (fun W _=>by go_simp) ?_;try simp only [Act.put,sA1,sA2,sA3]
       refine Q0o rfl rfl (.int .i64 y) (fun W hb=>Q0I 3 (.tmp 40) rfl (ad.add (i - 1)) rfl (by kernel_rfl) _ (HP.out W hb)) ?_;try simp only [Act.put,sA1,sA2,sA3]
       refine Q02 rfl rfl (.bool (decide (z<=y))) (fun W _=>by go_simp) ?_;try simp only [Act.put,sA1,sA2,sA3]
       refine Q02 rfl rfl (.bool (decide (z<=y))) (fun W _=>by go_simp) ?_;try simp only [Act.put,sA1,sA2,sA3]
       refine Q0S ?_;intro w2 hb2;have HB2:=Lib.hid (HB.out.trans (hb2.mono hsz));clear hb2 htn hi1 hi2 hi3;go_wp2_with fail
       go_roundw
       case rel=>exact⟨i+1,by omega,by go_num,HB2.out,HR'.out⟩
       case measure=>simp [intOf]; omega
    ·have hr':cb=false:=by
      rw [hr];cases Q5b zs i with
      | none=>unfold Q2F; rw [decide_eq_false hz]; rfl
      | some y=>unfold Q2F; rw [decide_eq_false hz]; rfl
     subst hr';clear hr hcell;go_upto_region 6 with fail
     refine Q0y 21 45 (by kernel_rfl) (by kernel_rfl) (by kernel_rfl) (by simp) ?_;simp only [List.take_succ_cons,List.take_zero,List.drop_succ_cons,List.drop_zero];refine Q02 rfl rfl (.slice (some ad) n c) (fun W _=>rfl) ?_;try simp only [Act.put,sA1,sA2,sA3]
     refine Q02 rfl rfl (.int .i64 (i:Int)) (fun W _=>rfl) ?_;try simp only [Act.put,sA1,sA2,sA3]
     refine Q02 rfl rfl (.pointer (some (ad.add i))) (fun W _=>by go_simp) ?_;try simp only [Act.put,sA1,sA2,sA3]
     refine Q0o rfl rfl (.int .i64 z) (fun W hb=>Q0I 3 (.tmp 25) rfl (ad.add i) rfl (by kernel_rfl) _ (HC.out W hb)) ?_;try simp only [Act.put,sA1,sA2,sA3]
     refine Q0Q rfl rfl 118 #[.int .i64 z,.int .i64 1,.int .i64 28] (fun W=>by go_simp) (.bool (decide (1<=z/\z<=28))) (fun W hb=>(Q0D z 1 28 W).mono fun e w' ⟨h1,h2⟩=>⟨h1,h2▸Below.refl _ _⟩) ?_;try simp only [Act.put,sA1,sA2,sA3]
     rw [decide_eq_false hz];refine Q02 rfl rfl (.bool true) (fun W _=>by go_simp) ?_;try simp only [Act.put,sA1,sA2,sA3]
     refine Q02 rfl rfl (.bool true) (fun W _=>rfl) ?_;try simp only [Act.put,sA1,sA2,sA3]
     refine Q0j rfl rfl ?_;try simp only [Act.put,sA1,sA2,sA3]
     refine Q0j rfl rfl ?_;try simp only [Act.put,sA1,sA2,sA3]
     refine Q0j rfl rfl ?_;try simp only [Act.put,sA1,sA2,sA3]
     refine Q0j rfl rfl ?_;try simp only [Act.put,sA1,sA2,sA3]
     refine Q0j rfl rfl ?_;try simp only [Act.put,sA1,sA2,sA3]
     refine Q0j rfl rfl ?_;try simp only [Act.put,sA1,sA2,sA3]
     refine Q0j rfl rfl ?_;try simp only [Act.put,sA1,sA2,sA3]
     refine Q0j rfl rfl ?_;try simp only [Act.put,sA1,sA2,sA3]
     refine Q0j rfl rfl ?_;try simp only [Act.put,sA1,sA2,sA3]
     refine Q0j rfl rfl ?_;try simp only [Act.put,sA1,sA2,sA3]
     refine Q0j rfl rfl ?_;try simp only [Act.put,sA1,sA2,sA3]
     refine Q0j rfl rfl ?_;try simp only [Act.put,sA1,sA2,sA3]
     refine Q0j rfl rfl ?_;try simp only [Act.put,sA1,sA2,sA3]
     refine Q0j rfl rfl ?_;try simp only [Act.put,sA1,sA2,sA3]
     refine Q0S ?_;intro w2 hb2;have HB2:=Lib.hid (HB.out.trans (hb2.mono hsz));clear hb2;go_wp2_with fail
     go_ret
     exact⟨rfl,HB2.out⟩
   ·obtain rfl:i=n:=by omega
    have hr':cb=true:=by
     rw [hr,List.drop_of_length_le (by have:=HZN.out; omega)];cases Q5b zs i <;> rfl
    subst hr';clear hr;go_wp2_with fail
    go_ret
    exact⟨rfl,HB.out⟩
 ·have hc:Q2M zs=false:=by
   unfold Q2M;rw [HZN.out,decide_eq_false (by omega),Bool.false_and]
  rw [hc];clear hc;have a1:((n:Int) != 1)=true:=by simp; omega
  have a4:((n:Int) != 4)=true:=by simp; omega
  have a7:((n:Int) != 7)=true:=by simp; omega
  clear h1;go_enter Tryz.func120,Tryz.ntmps120
  go_wp2_with fail
  go_ret
  exact⟨rfl,Below.refl _ _⟩
end
section
def may1 (x:Wish):Bool:=decide (0<=x.epoch/\x.epoch<=1048576) && Q5C x (ownW x)
def may2 (x:Wish):Bool:=if x.kind=5 then may1 x else may1 x && decide (31<=x.client/\x.client<=34) && decide (1<=x.stamp/\x.stamp<=9007199254740991)
def chB (x:Wish):Bool:=decide (1<=x.group/\x.group<=2)
def dirB (x:Wish):Bool:=decide (x.group=0) && decide (x.epoch=0) && decide (1<=x.block/\x.block<=2)
theorem may_k1 {x:Wish} (h:x.kind=1):mayB x=(may2 x && chB x && decide (0<=x.block/\x.block<=7)):=by
 obtain⟨client,stamp,group,epoch,kind,block,data,old,new,next⟩:=x;simp only at h;subst h;rw [Bool.eq_iff_iff];simp [mayB,MayP,may2,may1,chB,Q5C,ownW];by_cases hd:data=[] <;> by_cases hn:next=[] <;> simp [hd,hn] <;> omega
theorem may_k2 {x:Wish} (h:x.kind=2):mayB x=(may2 x && chB x && decide (0<=x.block/\x.block<=7) && decide (x.data.length=16)):=by
 obtain⟨client,stamp,group,epoch,kind,block,data,old,new,next⟩:=x;simp only at h;subst h;rw [Bool.eq_iff_iff];simp [mayB,MayP,may2,may1,chB,Q5C,ownW];by_cases hd:data=[] <;> by_cases hn:next=[] <;> simp [hd,hn] <;> omega
theorem may_k3 {x:Wish} (h:x.kind=3):mayB x=(may2 x && dirB x):=by
 obtain⟨client,stamp,group,epoch,kind,block,data,old,new,next⟩:=x;simp only at h;subst h;rw [Bool.eq_iff_iff];simp [mayB,MayP,may2,may1,dirB,Q5C,ownW];by_cases hd:data=[] <;> by_cases hn:next=[] <;> simp [hd,hn] <;> omega
theorem may_k4 {x:Wish} (h:x.kind=4):mayB x=(may2 x && dirB x && decide (1<=x.old/\x.old<=28) && decide (1<=x.new/\x.new<=28) && !decide (x.old=x.new)):=by
 obtain⟨client,stamp,group,epoch,kind,block,data,old,new,next⟩:=x;simp only at h;subst h;rw [Bool.eq_iff_iff];simp [mayB,MayP,may2,may1,dirB,Q5C,ownW];by_cases hd:data=[] <;> by_cases hn:next=[] <;> simp [hd,hn] <;> omega
theorem may_k5 {x:Wish} (h:x.kind=5):mayB x=(may2 x && chB x && Q2M x.next):=by
 obtain⟨client,stamp,group,epoch,kind,block,data,old,new,next⟩:=x;simp only at h;subst h;rw [Bool.eq_iff_iff];simp [mayB,MayP,may2,may1,chB,Q5C,ownW];by_cases hc:Q2M next=true
 ·simp [hc];by_cases hd:data=[] <;> simp [hd] <;> omega
 ·simp [hc]
theorem may_ko {x:Wish} (h:¬ x.kind=1/\¬ x.kind=2/\¬ x.kind=3/\¬ x.kind=4/\¬ x.kind=5):mayB x=false:=by
 refine decide_eq_false ?_;unfold MayP;rintro ⟨_,_,h1 | h1⟩
 ·exact h.2.2.2.2 h1.1
 ·obtain⟨_,_,_,_,_,_,h2 | h2⟩:=h1
  ·rcases h2.1 with h3 | h3
   ·exact h.1 h3.1
   ·exact h.2.1 h3.1
  ·rcases h2.1 with h3 | h3
   ·exact h.2.2.1 h3.1
   ·exact h.2.2.2.1 h3.1
theorem own_in (x:Wish) (A:Option Addr) (n c:Nat) (A':Option Addr) (n' c':Nat):∃ D m d D' m' d',Q7i x A n c A' n' c'=.agg (Q05 (ownW x) D m d D' m' d')/\∀ w B,Q0Y w B x A n c A' n' c'->Q0Y w B (ownW x) D m d D' m' d':=by
 by_cases h5:x.kind=5
 ·refine⟨none,0,0,A',n',c',by unfold Q7i; rw [if_pos h5],fun w B h=>?_⟩;have h2:¬ x.kind=2:=by omega
  have h4:¬ x.kind=4:=by omega
  obtain⟨r1,r2,r3,r4,r5,r6,r7,r8,r9⟩:=h.rng;refine⟨?_,Nat.le_refl _,by omega,?_,h.nc,h.nm,?_⟩
  ·simp [ownW,h2]; exact Q0d.none_
  ·simp only [ownW,if_pos h5]; exact h.next
  ·simp only [ownW,if_pos h5,if_neg h4];exact⟨by unfold I64; omega,by unfold I64; omega,r3,r4,r5,by unfold I64; omega,by unfold I64; omega,by unfold I64; omega,r9⟩
 ·by_cases h2:x.kind=2
  ·refine⟨A,n,c,none,0,0,by unfold Q7i; rw [if_neg h5,if_pos h2],fun w B h=>?_⟩;have h4:¬ x.kind=4:=by omega
   obtain⟨r1,r2,r3,r4,r5,r6,r7,r8,r9⟩:=h.rng;refine⟨?_,h.dc,h.dm,?_,Nat.le_refl _,by omega,?_⟩
   ·simp only [ownW,if_pos h2]; exact h.data
   ·simp [ownW,h5]; exact Q0d.none_
   ·simp only [ownW,if_neg h5,if_neg h4];exact⟨r1,r2,r3,r4,r5,r6,by unfold I64; omega,by unfold I64; omega,fun z hz=>by cases hz⟩
  ·refine⟨none,0,0,none,0,0,by unfold Q7i; rw [if_neg h5,if_neg h2],fun w B h=>?_⟩;obtain⟨r1,r2,r3,r4,r5,r6,r7,r8,r9⟩:=h.rng;refine⟨?_,Nat.le_refl _,by omega,?_,Nat.le_refl _,by omega,?_⟩
   ·simp [ownW,h2]; exact Q0d.none_
   ·simp [ownW,h5]; exact Q0d.none_
   ·simp only [ownW,if_neg h5];refine⟨r1,r2,r3,r4,r5,r6,?_,?_,fun z hz=>by cases hz⟩
    ·split
     ·exact r7
     ·unfold I64; omega
    ·split
     ·exact r8
     ·unfold I64; omega
end
section
open Go.RowKit
attribute [local irreducible] Q0i
theorem Q5L (x:Wish) (A:Option Addr) (n c:Nat) (A':Option Addr) (n' c':Nat) (w:World) (B:Nat) (h:Q0Y w B x A n c A' n' c') (hB:B<=w.heap.size) :
 Calls Tryz.prog 69 #[.agg (Q05 x A n c A' n' c')] w fun e w'=>e=.returned (.int .i64 (if mayB x=true then 0 else 2))/\Below w.heap.size w w':=by
 have hX:Below w.heap.size w (w.alloc (.cells (Q05 x A n c A' n' c') 44)):=(Below.refl _ _).alloc (Nat.le_refl _) _;have hk0:Blk (w.alloc (.cells (Q05 x A n c A' n' c') 44)) w.heap.size 44 (Q05 x A n c A' n' c'):=Blk.newAt rfl;obtain⟨D,m,d,D',m',d',hsl,hin⟩:=own_in x A n c A' n' c';have HWX:=Lib.hid (fun W (hb:Below w.heap.size w W)=>h.below (hb.mono hB));have HIN:=Lib.hid hin;have hdl:=h.dlen;have HDL:=Lib.hid hdl;obtain⟨rc,hrc⟩:∃ rc:Int,rc=if mayB x=true then 0 else 2:=⟨_,rfl⟩
 rw [<- hrc];have HRC:=Lib.hid hrc;clear hin h hdl hrc;go_enter Tryz.func69,Tryz.ntmps69
 go_upto_region 1 with fail
 generalize hW:World.alloc w _=w1;have hW':w.alloc (.cells (Q05 x A n c A' n' c') 44)=w1:=hW;rw [hW'] at hX hk0;clear hW hW';have hs1:=hX.size;have HK0:=Lib.hid hk0;have HX:=Lib.hid hX;have HC3:=Lib.hid (fun W (hb:Below w1.heap.size w1 W)=>((hk0.under hb).cell 3).trans (show (Q05 x A n c A' n' c')[3]?=some (.int .i64 x.epoch) from rfl));have HSM:=Lib.hid (fun W (hb:Below w1.heap.size w1 W)=>Q6z x (ownW x) A n c A' n' c' D m d D' m' d' W B (HWX.out W (HX.out.trans (hb.mono hs1))) (HIN.out W B (HWX.out W (HX.out.trans (hb.mono hs1)))) (by have:=hb.size; omega));clear hk0 hX
 go_cut [3] (fun s wx=>s=.bool (may1 x)/\Below w1.heap.size w1 wx)
 case first =>
  by_cases hE:0<=x.epoch/\x.epoch<=1048576
  ·have hm1:may1 x=Q5C x (ownW x):=by unfold may1; rw [decide_eq_true hE,Bool.true_and]
   refine Q0y 9 117 (by kernel_rfl) (by kernel_rfl) (by kernel_rfl) (by simp) ?_;simp only [List.take_succ_cons,List.take_zero,List.drop_succ_cons,List.drop_zero];refine Q02 rfl rfl (.pointer (some ⟨w.heap.size,3,none⟩)) (fun W _=>by go_simp) ?_;try simp only [Act.put,sA1,sA2,sA3]
   refine Q0o rfl rfl (.int .i64 x.epoch) (fun W hb=>Q0I 3 (.tmp 6) rfl ⟨w.heap.size,3,none⟩ rfl (by kernel_rfl) _ (HC3.out W hb)) ?_;try simp only [Act.put,sA1,sA2,sA3]
   refine Q0Q rfl rfl 118 #[.int .i64 x.epoch,.int .i64 0,.int .i64 1048576] (fun W=>by go_simp) (.bool (decide (0<=x.epoch/\x.epoch<=1048576))) (fun W hb=>(Q0D _ _ _ W).mono fun e w' ⟨h1,h2⟩=>⟨h1,h2▸Below.refl _ _⟩) ?_;try simp only [Act.put,sA1,sA2,sA3]
   rw [decide_eq_true hE];refine Q02 rfl rfl (.bool true) (fun W _=>rfl) ?_;try simp only [Act.put,sA1,sA2,sA3]
   refine Q0V rfl 44 (.tmp 1) rfl w.heap.size 0 10 rfl 44 _ (Q05 x A n c A' n' c') _ HK0.out Tryz.underlying44 rfl rfl rfl (fun _ _=>by rw [Nat.zero_add]) ?_;try simp only [Act.put,sA1,sA2,sA3]
   refine Q0V rfl 44 (.tmp 1) rfl w.heap.size 0 10 rfl 44 _ (Q05 x A n c A' n' c') _ HK0.out Tryz.underlying44 rfl rfl rfl (fun _ _=>by rw [Nat.zero_add]) ?_;try simp only [Act.put,sA1,sA2,sA3]
   refine Q0Q rfl rfl 119 #[.agg (Q05 x A n c A' n' c')] (fun W=>by go_simp) (Q7i x A n c A' n' c') (fun W hb=>QbK x A n c A' n' c' W) ?_;try simp only [Act.put,sA1,sA2,sA3]
   rw [hsl];refine Q0Q rfl rfl 45 #[.agg (Q05 x A n c A' n' c'),.agg (Q05 (ownW x) D m d D' m' d')] (fun W=>by go_simp) (.bool (Q5C x (ownW x))) (fun W hb=>HSM.out W hb) ?_;try simp only [Act.put,sA1,sA2,sA3]
   refine Q02 rfl rfl (.bool (Q5C x (ownW x))) (fun W _=>by go_simp) ?_;try simp only [Act.put,sA1,sA2,sA3]
   refine Q0S ?_;intro w2 hb2;have HB2:=Lib.hid hb2;clear hb2;go_wp2_with fail
   go_meet
   exact⟨by rw [hm1],HB2.out⟩
  ·have hm1:may1 x=false:=by unfold may1; rw [decide_eq_false hE,Bool.false_and]
   refine Q0y 9 117 (by kernel_rfl) (by kernel_rfl) (by kernel_rfl) (by simp) ?_;simp only [List.take_succ_cons,List.take_zero,List.drop_succ_cons,List.drop_zero];refine Q02 rfl rfl (.pointer (some ⟨w.heap.size,3,none⟩)) (fun W _=>by go_simp) ?_;try simp only [Act.put,sA1,sA2,sA3]
   refine Q0o rfl rfl (.int .i64 x.epoch) (fun W hb=>Q0I 3 (.tmp 6) rfl ⟨w.heap.size,3,none⟩ rfl (by kernel_rfl) _ (HC3.out W hb)) ?_;try simp only [Act.put,sA1,sA2,sA3]
   refine Q0Q rfl rfl 118 #[.int .i64 x.epoch,.int .i64 0,.int .i64 1048576] (fun W=>by go_simp) (.bool (decide (0<=x.epoch/\x.epoch<=1048576))) (fun W hb=>(Q0D _ _ _ W).mono fun e w' ⟨h1,h2⟩=>⟨h1,h2▸Below.refl _ _⟩) ?_;try simp only [Act.put,sA1,sA2,sA3]
   rw [decide_eq_false hE];refine Q02 rfl rfl (.bool false) (fun W _=>rfl) ?_;try simp only [Act.put,sA1,sA2,sA3]
   refine Q0j rfl rfl ?_;try simp only [Act.put,sA1,sA2,sA3]
   refine Q0j rfl rfl ?_;try simp only [Act.put,sA1,sA2,sA3]
   refine Q0j rfl rfl ?_;try simp only [Act.put,sA1,sA2,sA3]
   refine Q0j rfl rfl ?_;try simp only [Act.put,sA1,sA2,sA3]
   refine Q02 rfl rfl (.bool false) (fun W _=>by go_simp) ?_;try simp only [Act.put,sA1,sA2,sA3]
   refine Q0S ?_;intro w2 hb2;have HB2:=Lib.hid hb2;clear hb2;go_wp2_with fail
   go_meet
   exact⟨by rw [hm1],HB2.out⟩
 case rest =>
 obtain⟨rfl,hb2⟩:=hcut;have K2:=Lib.hid (HK0.out.under hb2);have HB2:=Lib.hid (HX.out.trans (hb2.mono hs1));have HNX:=Lib.hid (fun W (hb:Below wc.heap.size wc W)=>Qap A' n' c' x.next W B (HWX.out W (HB2.out.trans (hb.mono (HB2.out.size)))).next (by have:=hb.size; have:=HB2.out.size; omega) (HWX.out W (HB2.out.trans (hb.mono (HB2.out.size)))).nm);have c0:=(K2.out.cell 0).trans (show (Q05 x A n c A' n' c')[0]?=some (.int .i64 x.client) from rfl);have c1:=(K2.out.cell 1).trans (show (Q05 x A n c A' n' c')[1]?=some (.int .i64 x.stamp) from rfl);have c2:=(K2.out.cell 2).trans (show (Q05 x A n c A' n' c')[2]?=some (.int .i64 x.group) from rfl);have c3:=(K2.out.cell 3).trans (show (Q05 x A n c A' n' c')[3]?=some (.int .i64 x.epoch) from rfl);have c4:=(K2.out.cell 4).trans (show (Q05 x A n c A' n' c')[4]?=some (.int .i64 x.kind) from rfl);have c5:=(K2.out.cell 5).trans (show (Q05 x A n c A' n' c')[5]?=some (.int .i64 x.block) from rfl);have c6:=(K2.out.cell 6).trans (show (Q05 x A n c A' n' c')[6]?=some (.slice A n c) from rfl);have c7:=(K2.out.cell 7).trans (show (Q05 x A n c A' n' c')[7]?=some (.int .i64 x.old) from rfl);have c8:=(K2.out.cell 8).trans (show (Q05 x A n c A' n' c')[8]?=some (.int .i64 x.new) from rfl);have c9:=(K2.out.cell 9).trans (show (Q05 x A n c A' n' c')[9]?=some (.slice A' n' c') from rfl);clear hb2 hsl HIN HC3 HSM HK0 HX
 go_upto_if 17 with(fail)
 go_cut [3] (fun s wx=>s=.bool (may2 x)/\wc=wx)
 case first =>
  by_cases h5:x.kind=5
  ·have hm2:may2 x=may1 x:=by unfold may2; rw [if_pos h5]
   have h5b:(x.kind != 5)=false:=by simp [h5]
   go_wp2_with fail
   go_meet
   exact⟨by rw [hm2],rfl⟩
  ·have hm2:may2 x=(may1 x && decide (31<=x.client/\x.client<=34) && decide (1<=x.stamp/\x.stamp<=9007199254740991)):=by unfold may2; rw [if_neg h5]
   have h5b:(x.kind != 5)=true:=by simp [h5]
   have HM2:=Lib.hid hm2;clear hm2;generalize may1 x=m1 at HM2 ⊢;cases m1 with
   | false =>
    go_wp2_with fail
    go_meet
    exact⟨by rw [HM2.out]; rfl,rfl⟩
   | true =>
    by_cases hC:31<=x.client/\x.client<=34
    ·rw [decide_eq_true hC] at HM2;go_wp2_with fail
     refine(Q0D _ _ _ _).mono ?_;rintro _ _ ⟨rfl,rfl⟩;rw [decide_eq_true hC];go_wp2_with fail
     refine(Q0D _ _ _ _).mono ?_;rintro _ _ ⟨rfl,rfl⟩;generalize decide (1<=x.stamp/\x.stamp<=9007199254740991)=q at HM2 ⊢;go_wp2_with fail
     go_meet
     exact⟨by rw [HM2.out]; rfl,rfl⟩
    ·rw [decide_eq_false hC] at HM2;go_wp2_with fail
     refine(Q0D _ _ _ _).mono ?_;rintro _ _ ⟨rfl,rfl⟩;rw [decide_eq_false hC];go_wp2_with fail
     go_meet
     exact⟨by rw [HM2.out]; rfl,rfl⟩
 case rest =>
 obtain⟨rfl,rfl⟩:=hcut;go_wp2_with fail
 refine(Q0D _ _ _ _).mono ?_;rintro _ _ ⟨rfl,rfl⟩;rw [show decide (1<=x.group/\x.group<=2)=chB x from rfl];go_upto_region 5 with fail
 go_cut [5] (fun s wx=>s=.bool (dirB x)/\wc=wx)
 case first =>
  have hdd:dirB x=(decide (x.group=0) && decide (x.epoch=0) && decide (1<=x.block/\x.block<=2)):=rfl;by_cases hg:x.group=0
  ·have hgb:(x.group == 0)=true:=by simp [hg]
   by_cases he:x.epoch=0
   ·have heb:(x.epoch == 0)=true:=by simp [he]
    rw [decide_eq_true hg,decide_eq_true he,Bool.true_and,Bool.true_and] at hdd;have HDD:=Lib.hid hdd;clear hdd hg he;go_wp2_with fail
    refine(Q0D _ _ _ _).mono ?_;rintro _ _ ⟨rfl,rfl⟩;generalize decide (1<=x.block/\x.block<=2)=q at HDD ⊢;go_wp2_with fail
    go_meet
    exact⟨by rw [HDD.out],rfl⟩
   ·have heb:(x.epoch == 0)=false:=by simp [he]
    rw [decide_eq_true hg,decide_eq_false he,Bool.true_and,Bool.false_and] at hdd;have HDD:=Lib.hid hdd;clear hdd hg he;go_wp2_with fail
    go_meet
    exact⟨by rw [HDD.out],rfl⟩
  ·have hgb:(x.group == 0)=false:=by simp [hg]
   rw [decide_eq_false hg,Bool.false_and,Bool.false_and] at hdd;have HDD:=Lib.hid hdd;clear hdd hg;go_wp2_with fail
   go_meet
   exact⟨by rw [HDD.out],rfl⟩
 case rest =>
 obtain⟨rfl,rfl⟩:=hcut;have HK1:=Lib.hid (fun h:x.kind=1=>may_k1 h);have HK2:=Lib.hid (fun h:x.kind=2=>may_k2 h);have HK3:=Lib.hid (fun h:x.kind=3=>may_k3 h);have HK4:=Lib.hid (fun h:x.kind=4=>may_k4 h);have HK5:=Lib.hid (fun h:x.kind=5=>may_k5 h);have HKO:=Lib.hid (fun h:¬ x.kind=1/\¬ x.kind=2/\¬ x.kind=3/\¬ x.kind=4/\¬ x.kind=5=>may_ko h);generalize may2 x=m2 at HK1 HK2 HK3 HK4 HK5 ⊢;generalize chB x=ch at HK1 HK2 HK5 ⊢;generalize dirB x=di at HK3 HK4 ⊢;by_cases k1:x.kind=1
 ·have hm:=HK1.out k1;rw [k1] at c4;have HM:=Lib.hid hm;clear hm HK1 HK2 HK3 HK4 HK5 HKO;cases m2 with
  | false =>
   go_wp2_with fail
   go_ret
   exact⟨by rw [HRC.out,HM.out]; rfl,HB2.out⟩
  | true =>
   cases ch with
   | false =>
    go_wp2_with fail
    go_ret
    exact⟨by rw [HRC.out,HM.out]; rfl,HB2.out⟩
   | true =>
    go_wp2_with fail
    refine(Q0D _ _ _ _).mono ?_;rintro _ _ ⟨rfl,rfl⟩;generalize hq:decide (0<=x.block/\x.block<=7)=q at HM ⊢;clear hq;cases q with
    | false =>
     go_wp2_with fail
     go_ret
     exact⟨by rw [HRC.out,HM.out]; rfl,HB2.out⟩
    | true =>
     go_wp2_with fail
     go_ret
     exact⟨by rw [HRC.out,HM.out]; rfl,HB2.out⟩
 ·have k1b:(x.kind == 1)=false:=by simp [k1]
  by_cases k2:x.kind=2
  ·have hm:=HK2.out k2;rw [k2] at c4;have HM:=Lib.hid hm;clear hm HK1 HK2 HK3 HK4 HK5 HKO;cases m2 with
   | false =>
    go_wp2_with fail
    go_ret
    exact⟨by rw [HRC.out,HM.out]; rfl,HB2.out⟩
   | true =>
    cases ch with
    | false =>
     go_wp2_with fail
     go_ret
     exact⟨by rw [HRC.out,HM.out]; rfl,HB2.out⟩
    | true =>
     go_wp2_with fail
     refine(Q0D _ _ _ _).mono ?_;rintro _ _ ⟨rfl,rfl⟩;generalize hq:decide (0<=x.block/\x.block<=7)=q at HM ⊢;clear hq;cases q with
     | false =>
      go_wp2_with fail
      go_ret
      exact⟨by rw [HRC.out,HM.out]; rfl,HB2.out⟩
     | true =>
      by_cases hl:x.data.length=16
      ·have hnb:((n:Int) == 16)=true:=by have:=HDL.out; simp; omega
       rw [decide_eq_true hl] at HM;clear hl;go_wp2_with fail
       go_ret
       exact⟨by rw [HRC.out,HM.out]; rfl,HB2.out⟩
      ·have hnb:((n:Int) == 16)=false:=by have:=HDL.out; simp; omega
       rw [decide_eq_false hl] at HM;clear hl;go_wp2_with fail
       go_ret
       exact⟨by rw [HRC.out,HM.out]; rfl,HB2.out⟩
  ·have k2b:(x.kind == 2)=false:=by simp [k2]
   by_cases k3:x.kind=3
   ·have hm:=HK3.out k3;rw [k3] at c4;have HM:=Lib.hid hm;clear hm HK1 HK2 HK3 HK4 HK5 HKO;cases m2 with
    | false =>
     go_wp2_with fail
     go_ret
     exact⟨by rw [HRC.out,HM.out]; rfl,HB2.out⟩
    | true =>
     cases di with
     | false =>
      go_wp2_with fail
      go_ret
      exact⟨by rw [HRC.out,HM.out]; rfl,HB2.out⟩
     | true =>
      go_wp2_with fail
      go_ret
      exact⟨by rw [HRC.out,HM.out]; rfl,HB2.out⟩
   ·have k3b:(x.kind == 3)=false:=by simp [k3]
    by_cases k4:x.kind=4
    ·have hm:=HK4.out k4;rw [k4] at c4;have HM:=Lib.hid hm;clear hm HK1 HK2 HK3 HK4 HK5 HKO;cases m2 with
     | false =>
      go_wp2_with fail
      go_ret
      exact⟨by rw [HRC.out,HM.out]; rfl,HB2.out⟩
     | true =>
      cases di with
      | false =>
       go_wp2_with fail
       go_ret
       exact⟨by rw [HRC.out,HM.out]; rfl,HB2.out⟩
      | true =>
       go_wp2_with fail
       refine(Q0D _ _ _ _).mono ?_;rintro _ _ ⟨rfl,rfl⟩;generalize hq:decide (1<=x.old/\x.old<=28)=q at HM ⊢;clear hq;cases q with
       | false =>
        go_wp2_with fail
        go_ret
        exact⟨by rw [HRC.out,HM.out]; rfl,HB2.out⟩
       | true =>
        go_wp2_with fail
        refine(Q0D _ _ _ _).mono ?_;rintro _ _ ⟨rfl,rfl⟩;generalize hq:decide (1<=x.new/\x.new<=28)=q at HM ⊢;clear hq;cases q with
        | false =>
         go_wp2_with fail
         go_ret
         exact⟨by rw [HRC.out,HM.out]; rfl,HB2.out⟩
        | true =>
         by_cases hl:x.old=x.new
         ·have hnb:(x.old != x.new)=false:=by simp [hl]
          rw [decide_eq_true hl] at HM;clear hl;go_wp2_with fail
          go_ret
          exact⟨by rw [HRC.out,HM.out]; rfl,HB2.out⟩
         ·have hnb:(x.old != x.new)=true:=by simp [hl]
          rw [decide_eq_false hl] at HM;clear hl;go_wp2_with fail
          go_ret
          exact⟨by rw [HRC.out,HM.out]; rfl,HB2.out⟩
    ·have k4b:(x.kind == 4)=false:=by simp [k4]
     by_cases k5:x.kind=5
     ·have hm:=HK5.out k5;rw [k5] at c4;have HM:=Lib.hid hm;clear hm HK1 HK2 HK3 HK4 HK5 HKO;cases m2 with
      | false =>
       go_wp2_with fail
       go_ret
       exact⟨by rw [HRC.out,HM.out]; rfl,HB2.out⟩
      | true =>
       cases ch with
       | false =>
        go_wp2_with fail
        go_ret
        exact⟨by rw [HRC.out,HM.out]; rfl,HB2.out⟩
       | true =>
        go_wp2_with fail
        refine(HNX.out _ (Below.refl _ _)).mono ?_;rintro _ w9 ⟨rfl,hb9⟩
        replace HB2:=Lib.hid (HB2.out.trans (hb9.mono HB2.out.size))
        clear hb9;generalize hq:Q2M x.next=q at HM ⊢;clear hq;cases q with
        | false =>
         go_wp2_with fail
         go_ret
         exact⟨by rw [HRC.out,HM.out]; rfl,HB2.out⟩
        | true =>
         go_wp2_with fail
         go_ret
         exact⟨by rw [HRC.out,HM.out]; rfl,HB2.out⟩
     ·have k5b:(x.kind == 5)=false:=by simp [k5]
      have hm:=HKO.out ⟨k1,k2,k3,k4,k5⟩;have HM:=Lib.hid hm;clear hm HK1 HK2 HK3 HK4 HK5 HKO k1 k2 k3 k4 k5;go_wp2_with fail
      go_ret
      exact⟨by rw [HRC.out,HM.out]; rfl,HB2.out⟩
end
section
open Go.RowKit Go.Maps
attribute [local irreducible] wpList Q0i
def QcA (w:World) (V:ALoc) (N:Nat->Prop) (L:List (List UInt8)) (asked:Nat) (p:AM×Ans×Nat) (err ep:Nat) (nodes:List Int) (r:Ending) (w':World):Prop :=
 r=.returned (.bool (decide (p.2.2=0/\p.2.1.err=err/\p.2.1.epoch=ep/\p.2.1.nodes=nodes)))/\Q1B w w' V N p.1 L asked 6
theorem AAt.has_all {w:World} {V:ALoc} {N:Nat->Prop} {m:AM} {b:Nat} (hb:V.has b):V.all b:=by
 rcases hb with e | e | e | e
 ·exact .inl e
 ·exact .inr (.inl e)
 ·exact .inr (.inr (.inr (.inr (.inr e))))
 ·exact .inr (.inr (.inl e))
theorem Qd3 (w:World) (V:ALoc) (N:Nat->Prop) (m:AM) (L:List (List UInt8)) (asked:Nat) (h:AAt w V N m) (hN:∀ b,N b->b<w.heap.size) (hbk:Q0A w V.k L asked) (hin:Q1X L (Q0g m)) (has:asked<=700000)
 (x:Wish) (A:Option Addr) (n c:Nat) (A':Option Addr) (n' c':Nat) (B:Nat) (hx:Q0Y w B x A n c A' n' c') (hB:B<=w.heap.size)
 (err ep:Nat) (nodes:List Int) (D:Option Addr) (k d:Nat) (hy:Q0d w B 1 D k (nodes.map vn)) (hyp:∀ a,0<k->D=some a->N a.block/\¬ V.all a.block) (hk:k<=1000000) :
 Calls Tryz.prog 53 #[.pointer (some ⟨V.g,0,none⟩),.agg (Q05 x A n c A' n' c'),.int .i64 (err:Int),.int .i64 (ep:Int),.slice D k d] w (QcA w V N L asked (doQ m x) err ep nodes):=by
 have hX:Below w.heap.size w (w.alloc (.cells (Q05 x A n c A' n' c') 44)):=Q07 _ _;have k3:Blk (w.alloc (.cells (Q05 x A n c A' n' c') 44)) w.heap.size 44 (Q05 x A n c A' n' c'):=Blk.newAt rfl;have hz1:(w.alloc (.cells (Q05 x A n c A' n' c') 44)).heap.size=w.heap.size+1:=by simp
 have HV:=Lib.hid h;have HNN:=Lib.hid hN;have HX:=Lib.hid hX;have K3:=Lib.hid k3;have HY:=Lib.hid hy;have HYP:=Lib.hid hyp;have HDO:=Lib.hid (fun(W:World) (hb:Below w.heap.size w W)=>aDo_any W V _ m L asked (h.later hb) (fun b hn=>hn.elim (fun e=>by have:=hN b e; have:=hb.size; omega) (fun e=>e.2)) (hbk.below hb) hin has x A n c A' n' c' B (hx.below (hb.mono hB)) (by have:=hb.size; omega));obtain⟨g4,hg4⟩:∃ b,b=w.heap.size:=⟨_,rfl⟩;obtain⟨p,hp⟩:∃ p,p=doQ m x:=⟨_,rfl⟩;rw [<- hp] at HDO ⊢;clear h hN hbk hin hx hX k3 hy hyp hp;obtain⟨W0,hW0⟩:∃ W0,W0=Q05 x A n c A' n' c':=⟨_,rfl⟩;have hws:W0.size=10:=by rw [hW0]; simp [Q05]
 rw [<- hW0] at HX K3 HDO hz1 ⊢;clear hW0;go_enter Tryz.func53,Tryz.ntmps53
 go_upto_region 1 with fail
 generalize World.alloc w _=w1 at HX K3 hz1 ⊢;rw [<- hg4] at K3 ⊢;have hl3:=K3.out.lt;have hw1:w.heap.size<=w1.heap.size:=by omega
 have hgw4:w.heap.size<=g4:=by omega
 clear hg4 hz1;go_wp2_with (refine Q03 (o:=⟨some 15,_,_,_,_,_⟩) rfl 44 (.tmp 6) rfl g4 0 10 rfl 44 _ W0 _ K3.out Tryz.underlying44 rfl rfl hws (fun _ _=>by rw [Nat.zero_add]; try rfl) ?_)
 refine(HDO.out w1 HX.out).mono ?_;rintro _ w2 ⟨Dc,rfl,hds,hans,hvd⟩;obtain⟨⟨pm,pa,pf⟩,hpe⟩:∃ r,r=p:=⟨_,rfl⟩;subst hpe;simp only at hvd hans ⊢;have HVD:=Lib.hid (Q1B.fold HNN.out HV.out.all (fun b hb=>.inr (.inr hb)) HX.out hvd).1;have HY2:=Lib.hid (hvd.only.reads ((HY.out.below (HX.out.mono hB)).more (show B<=w1.heap.size by omega)) (fun a h0 ha e=>by
  have hh:=HYP.out a h0 ha;rcases e with e | e
  ·exact hh.2 (AAt.has_all (w:=w) (m:=m) (N:=N) e)
  ·exact e (.inl hh.1)))
 have hs2:=hvd.only.size;obtain⟨A3,q3,hDe,ho3⟩:=hans;have hd1:Dc.all (·.oneCell')=true:=by rw [hDe]; exact Q0G _ _ _ _ _ _ _ _
 obtain⟨A4,q4,e4,b1,b2,r3,_⟩:=Q0v ho3;injection e4 with e5 _ e6
 subst e5 e6;have HR3:=Lib.hid r3;have HDE:=Lib.hid hDe;obtain⟨kn,hkn⟩:∃ q,q=pa.nodes.length:=⟨_,rfl⟩;rw [<- hkn] at b1 HR3 HDE;clear hvd ho3 HDO r3 hDe hkn;by_cases hz:pf=0
 ·have hzb:((pf:Int) == 0)=true:=by simp [hz]
  go_upto_region 2 with(refine Q01 (o:=⟨none,_,_,_,_,_⟩) rfl 47 (.tmp 11) (.tmp 17) rfl w2.heap.size 0 Dc rfl rfl 47 (anC 0 none 0 0 0 none 0 0) (Blk.newAt rfl) (by rw [hds]; kernel_rfl) (by rw [hds]; simp [anC]) hd1 ?_; intro w5 hT5 hD5)
  rw [Q08 _ _ (by rw [hds]; rfl)] at hD5;have hb5:Below w2.heap.size w2 w5:=hT5.below ((Below.refl _ _).alloc (Nat.le_refl _) _) (Nat.le_refl _);have HD5:=Lib.hid hD5;have hs5:=hb5.size;have HSA:=Lib.hid (Q3e pa.err err pa.epoch ep none 0 0 A3 kn q3 none 0 0 D k d [] [] pa.nodes nodes w5 w2.heap.size Q0d.none_ (HR3.out.below hb5) Q0d.none_ (HY2.out.below hb5) hs5 (by unfold maxLen; omega) (Nat.le_trans b1 b2) (by unfold maxLen; omega) (by unfold maxLen; omega));rw [<- HDE.out] at HSA;unfold anC at HSA;have HVD5:=Lib.hid (HVD.out.after hb5);obtain⟨g6,hg6⟩:∃ g,g=w2.heap.size:=⟨_,rfl⟩;rw [<- hg6] at HD5 ⊢;clear hT5 hD5 hb5 hg6;go_wp2_with (refine Q1I (o:=⟨some 22,_,_,_,_,_⟩) rfl 47 (.tmp 11) rfl g6 0 4 rfl 47 _ Dc _ HD5.out Tryz.underlying47 rfl rfl hds (fun _ _=>by rw [Nat.zero_add]) ?_)
  refine HSA.out.mono ?_;rintro _ w6 ⟨rfl,hb6⟩;have HVD6:=Lib.hid (HVD5.out.after hb6);clear hb6 HSA;go_wp2_with fail
  go_ret
  refine⟨Q0N ?_,HVD6.out⟩;rw [Bool.eq_iff_iff];simp only [Bool.and_eq_true,decide_eq_true_eq];constructor
  ·rintro ⟨h1,h2,h3⟩; exact⟨hz,by omega,by omega,h3⟩
  ·rintro ⟨_,h1,h2,h3⟩; exact⟨by omega,by omega,h3⟩
 ·have hzb:((pf:Int) == 0)=false:=by simpa using hz
  have HZ:=Lib.hid hz;clear hz;go_upto_region 2 with(refine Q01 (o:=⟨none,_,_,_,_,_⟩) rfl 47 (.tmp 11) (.tmp 17) rfl w2.heap.size 0 Dc rfl rfl 47 (anC 0 none 0 0 0 none 0 0) (Blk.newAt rfl) (by rw [hds]; kernel_rfl) (by rw [hds]; simp [anC]) hd1 ?_; intro w5 hT5 hD5)
  have HVD5:=Lib.hid (HVD.out.after (hT5.below ((Below.refl _ _).alloc (Nat.le_refl _) _) (Nat.le_refl _)));clear hT5 hD5;go_wp2_with fail
  go_ret
  refine⟨Q0N ?_,HVD5.out⟩;rw [decide_eq_false];rintro ⟨h1,_⟩;exact HZ.out h1
end
section
open Go.RowKit Go.Maps
attribute [local irreducible] wpList Q0i
theorem Q79 (w:World) (g gc T:Nat) (N:Nat->Prop) (m:AM) (S:ASl) (h:ADat w g gc (some ⟨T,0,none⟩) N m S) :
 Calls Tryz.prog 55 #[.pointer (some ⟨g,0,none⟩)] w fun e w'=>e=.returned (.int .i64 (m.chunks.length:Int))/\w'=w:=by
 have hc1:w.cell? ⟨g,1,none⟩=some (.slice (some ⟨gc,0,none⟩) m.chunks.length S.cap):=(h.blk.cell 1).trans (Q1D _ _ _ _ 1 (by omega));have HNO:=Lib.hid (Q2g w g T ((h.blk.cell 0).trans (Q1D _ _ _ _ 0 (by omega))));obtain⟨n,hn⟩:∃ n,n=m.chunks.length:=⟨_,rfl⟩;rw [<- hn] at hc1 ⊢;clear h hn;go_enter Tryz.func55,Tryz.ntmps55
 go_wp2_with fail
 refine HNO.out.mono ?_;rintro _ _ ⟨rfl,rfl⟩;go_wp2_with fail
 go_ret
 exact⟨rfl,rfl⟩
def Q35 (c s b:Int):Wish:={ client:=c,stamp:=s,group:=0,epoch:=0,kind:=3,block:=b,data:=[],old:=0,new:=0,next:=[] }
def Q3z (c s b o z:Int):Wish:={ client:=c,stamp:=s,group:=0,epoch:=0,kind:=4,block:=b,data:=[],old:=o,new:=z,next:=[] }
theorem Q7x (c s b:Int) (w:World) :
 Calls Tryz.prog 52 #[.int .i64 c,.int .i64 s,.int .i64 b] w fun e w'=>e=.returned (.agg (Q05 (Q35 c s b) none 0 0 none 0 0))/\Below w.heap.size w w':=by
 have hX:Below w.heap.size w (w.alloc (.cells (Q05 Q22 none 0 0 none 0 0) 44)):=Q07 _ _;have hk:Blk (w.alloc (.cells (Q05 Q22 none 0 0 none 0 0) 44)) w.heap.size 44 (Q05 Q22 none 0 0 none 0 0):=Blk.newAt rfl;have HZ:=Lib.hid (show Q05 Q22 none 0 0 none 0 0=#[.int .i64 0,.int .i64 0,.int .i64 0,.int .i64 0,.int .i64 0,.int .i64 0,.slice none 0 0,.int .i64 0,.int .i64 0,.slice none 0 0] from rfl);have HX:=Lib.hid hX;have HK:=Lib.hid hk;obtain⟨g,hg⟩:∃ g,g=w.heap.size:=⟨_,rfl⟩;clear hX hk;go_enter Tryz.func52,Tryz.ntmps52
 go_upto_region 1 with fail
 rw [<- HZ.out];generalize World.alloc w _=w1 at HX HK ⊢;rw [<- hg] at HK ⊢;have hgw:w.heap.size<=g:=by omega
 clear hg;go_wp2_with (refine Q01 (o:=⟨none,_,_,_,_,_⟩) rfl 44 (.tmp 6) (.tmp 10) rfl g 0 (Q05 (Q35 c s b) none 0 0 none 0 0) rfl rfl 44 (Q05 Q22 none 0 0 none 0 0) HK.out (Q1R _ _ _ _ _ _ _) (by simp [Q05]) (Q1U _ _ _ _ _ _ _) ?_; intro w3 hT3 hD3; rw [wC_spl] at hD3)
 refine bodyPost_ret (Q0h rfl _ _ g 10 44 _ _ rfl hD3 Tryz.underlying44 rfl rfl rfl) rfl ?_;exact⟨rfl,hT3.below HX.out hgw⟩
theorem Q3b (c s b o z:Int) (w:World) :
 Calls Tryz.prog 54 #[.int .i64 c,.int .i64 s,.int .i64 b,.int .i64 o,.int .i64 z] w fun e w'=>e=.returned (.agg (Q05 (Q3z c s b o z) none 0 0 none 0 0))/\Below w.heap.size w w':=by
 have hX:Below w.heap.size w (w.alloc (.cells (Q05 Q22 none 0 0 none 0 0) 44)):=Q07 _ _;have hk:Blk (w.alloc (.cells (Q05 Q22 none 0 0 none 0 0) 44)) w.heap.size 44 (Q05 Q22 none 0 0 none 0 0):=Blk.newAt rfl;have HZ:=Lib.hid (show Q05 Q22 none 0 0 none 0 0=#[.int .i64 0,.int .i64 0,.int .i64 0,.int .i64 0,.int .i64 0,.int .i64 0,.slice none 0 0,.int .i64 0,.int .i64 0,.slice none 0 0] from rfl);have HX:=Lib.hid hX;have HK:=Lib.hid hk;obtain⟨g,hg⟩:∃ g,g=w.heap.size:=⟨_,rfl⟩;clear hX hk;go_enter Tryz.func54,Tryz.ntmps54
 go_upto_region 1 with fail
 rw [<- HZ.out];generalize World.alloc w _=w1 at HX HK ⊢;rw [<- hg] at HK ⊢;have hgw:w.heap.size<=g:=by omega
 clear hg;go_wp2_with (refine Q01 (o:=⟨none,_,_,_,_,_⟩) rfl 44 (.tmp 10) (.tmp 16) rfl g 0 (Q05 (Q3z c s b o z) none 0 0 none 0 0) rfl rfl 44 (Q05 Q22 none 0 0 none 0 0) HK.out (Q1R _ _ _ _ _ _ _) (by simp [Q05]) (Q1U _ _ _ _ _ _ _) ?_; intro w3 hT3 hD3; rw [wC_spl] at hD3)
 refine bodyPost_ret (Q0h rfl _ _ g 10 44 _ _ rfl hD3 Tryz.underlying44 rfl rfl rfl) rfl ?_;exact⟨rfl,hT3.below HX.out hgw⟩
def twoL:List (Int×List Int):=[(1,[5,6,7,8]),(1,[9,10,11,12])]
theorem atwo_any (w:World) :
 Calls Tryz.prog 51 #[] w fun e w'=>∃ A c,e=.returned (.slice A 2 c)/\Q2p w' A 2 twoL/\Below w.heap.size w w':=by
 go_enter Tryz.func51,Tryz.ntmps51
 go_wp2_with fail
 have h1:=Q07 w (.cells #[.int .i64 5,.int .i64 6,.int .i64 7,.int .i64 8] 3);have k1:Blk (w.alloc (.cells #[.int .i64 5,.int .i64 6,.int .i64 7,.int .i64 8] 3)) w.heap.size 3 #[.int .i64 5,.int .i64 6,.int .i64 7,.int .i64 8]:=Blk.newAt rfl;have hs1:(w.alloc (.cells #[.int .i64 5,.int .i64 6,.int .i64 7,.int .i64 8] 3)).heap.size=w.heap.size+1:=by simp
 generalize w.alloc (.cells #[.int .i64 5,.int .i64 6,.int .i64 7,.int .i64 8] 3)=w1 at h1 k1 hs1 ⊢;have h2:=Q07 w1 (.cells #[.int .i64 9,.int .i64 10,.int .i64 11,.int .i64 12] 3);have k2:Blk (w1.alloc (.cells #[.int .i64 9,.int .i64 10,.int .i64 11,.int .i64 12] 3)) w1.heap.size 3 #[.int .i64 9,.int .i64 10,.int .i64 11,.int .i64 12]:=Blk.newAt rfl;have hs2:(w1.alloc (.cells #[.int .i64 9,.int .i64 10,.int .i64 11,.int .i64 12] 3)).heap.size=w1.heap.size+1:=by simp
 generalize w1.alloc (.cells #[.int .i64 9,.int .i64 10,.int .i64 11,.int .i64 12] 3)=w2 at h2 k2 hs2 ⊢;have h3:=Q07 w2 (.cells #[.int .i64 1,.slice (some ⟨w.heap.size,0,none⟩) 4 4,.int .i64 1,.slice (some ⟨w.heap.size+1,0,none⟩) 4 4] 77);have k3:Blk (w2.alloc (.cells #[.int .i64 1,.slice (some ⟨w.heap.size,0,none⟩) 4 4,.int .i64 1,.slice (some ⟨w.heap.size+1,0,none⟩) 4 4] 77)) w2.heap.size 77 #[.int .i64 1,.slice (some ⟨w.heap.size,0,none⟩) 4 4,.int .i64 1,.slice (some ⟨w.heap.size+1,0,none⟩) 4 4]:=Blk.newAt rfl;generalize w2.alloc (.cells #[.int .i64 1,.slice (some ⟨w.heap.size,0,none⟩) 4 4,.int .i64 1,.slice (some ⟨w.heap.size+1,0,none⟩) 4 4] 77)=w3 at h3 k3 ⊢;have k13:Blk w3 w.heap.size 3 #[.int .i64 5,.int .i64 6,.int .i64 7,.int .i64 8]:=(k1.below' h2).below' h3;have k23:Blk w3 (w.heap.size+1) 3 #[.int .i64 9,.int .i64 10,.int .i64 11,.int .i64 12]:=by rw [<- hs1]; exact k2.below' h3
 have hrd:∀ (q a b c d:Int) (g:Nat),Blk w3 g 3 #[.int .i64 a,.int .i64 b,.int .i64 c,.int .i64 d]->Q0d w3 w3.heap.size 1 (some ⟨g,0,none⟩) 4 ([a,b,c,d].map vn):=fun q a b c d g hb=>⟨rfl,fun _=>⟨⟨g,0,none⟩,rfl,hb.lt,fun j u hu=>by rw [Q13,Nat.zero_add,hb.cell,<- Array.getElem?_toList]; exact hu⟩⟩
 have e:w2.heap.size=w.heap.size+1+1:=by omega
 go_ret
 refine⟨some ⟨w.heap.size+1+1,0,none⟩,2,rfl,⟨rfl,fun _=>⟨w2.heap.size,_,by rw [e],k3,fun i f l hi=>?_⟩⟩,(h1.trans (h2.mono (by omega))).trans (h3.mono (by omega))⟩;match i,hi with
 | 0,hi =>
  obtain⟨rfl,rfl⟩:=Prod.mk.inj (Option.some.inj hi);exact⟨_,_,rfl,rfl,hrd 0 _ _ _ _ _ k13,by decide⟩
 | 1,hi =>
  obtain⟨rfl,rfl⟩:=Prod.mk.inj (Option.some.inj hi);exact⟨_,_,rfl,rfl,hrd 0 _ _ _ _ _ k23,by decide⟩
 | i+2,hi=>simp [twoL] at hi
end
section
open Go.RowKit Go.Maps
attribute [local irreducible] wpList Q0i
theorem Q1J.at_ {w:World} {B f i:Nat} {v:Value} {ls:List (List Int)} {nA:Nat->Option Addr} {nC:Nat->Nat} {l:List Int} (h:Q1J w B v f ls nA nC) (hi:ls[i]?=some l):∃ gl cap,v=.slice (some ⟨gl,0,none⟩) ls.length cap/\B<=gl/\gl<w.heap.size/\w.cell? ⟨gl,i*2+1,none⟩=some (.slice (nA i) l.length (nC i)):=by
 have hil:i<ls.length:=(List.getElem?_eq_some_iff.1 hi).1;have hr:=h.row;rcases h.row.2 with⟨_,h0⟩ | ⟨gl,cap,cur,hv,h2,h3,h4,h5,h6,h7⟩
 ·omega
 ·have hB:Blk w gl 77 cur:=h3;refine⟨gl,cap,hv,h2,hB.lt,?_⟩;rw [hB.cell];have:=(Q2R f nA nC ls 0 i l hi).2;rw [Nat.zero_add] at this;rw [<- this,<- h7,List.getElem?_take,if_pos (by omega),Array.getElem?_toList]
end
section
open Go.RowKit Go.Maps
attribute [local irreducible] wpList Q0i
structure ALSt (w0:World) (V:ALoc) (N:Nat->Prop) (m:AM) (a:Nat) (W:World):Prop where
 vat:AAt W V N m
 book:∃ L a',Q0A W V.k L a'/\a'<=a/\Q1X L (Q0g m)
 low:Below w0.heap.size w0 W
 nlt:∀ b,N b->b<W.heap.size
 old:∀ b,b<w0.heap.size->N b
 new:∀ b,V.all b->w0.heap.size<=b
theorem ALSt.below {w0 W W':World} {V:ALoc} {N:Nat->Prop} {m:AM} {a:Nat} (h:ALSt w0 V N m a W) (hb:Below W.heap.size W W'):ALSt w0 V N m a W':=by
 obtain⟨L,a',h1,h2,h3⟩:=h.book;exact⟨h.vat.below hb,⟨L,a',h1.below hb,h2,h3⟩,h.low.trans (hb.mono h.low.size),fun b hn=>by have:=h.nlt b hn; have:=hb.size; omega,h.old,h.new⟩
theorem ALSt.only {w0 W W':World} {V:ALoc} {N:Nat->Prop} {m:AM} {a:Nat} (h:ALSt w0 V N m a W) (ho:Only (V.hasN N) W W'):Below w0.heap.size w0 W' :=
 h.low.trans (ho.below h.low.size fun b hb hv=>by
  rcases hv with e | e
  ·exact absurd (h.new b (AAt.has_all (w:=w0) (m:=m) (N:=N) e)) (by omega)
  ·exact e (h.old b hb))
theorem ALSt.did {w0 W W':World} {V:ALoc} {N:Nat->Prop} {m m':AM} {a a' q asked:Nat} {L:List (List UInt8)} (h:ALSt w0 V N m a W) (hd:Q1B W W' V N m' L asked q) (hq:asked+q<=a'):ALSt w0 V N m' a' W':=by
 obtain⟨L',b',h1,h2,h3,h4⟩:=hd.book;exact⟨hd.vat,⟨L',b',h1,by omega,h4⟩,h.only hd.only,fun b hn=>by have:=h.nlt b hn; have:=hd.only.size; omega,h.old,h.new⟩
theorem ALSt.later {w0 W W':World} {V:ALoc} {N:Nat->Prop} {m:AM} {a:Nat} (h:ALSt w0 V N m a W) (hb:Below W.heap.size W W'):ALSt w0 V (fun b=>N b\/(W.heap.size<=b/\b<W'.heap.size)) m a W':=by
 obtain⟨L,a',h1,h2,h3⟩:=h.book;exact⟨h.vat.later hb,⟨L,a',h1.below hb,h2,h3⟩,h.low.trans (hb.mono h.low.size),fun b hn=>hn.elim (fun e=>by have:=h.nlt b e; have:=hb.size; omega) (fun e=>e.2),fun b hb'=>.inl (h.old b hb'),h.new⟩
theorem ALoc.all_lt {w:World} {V:ALoc} {N:Nat->Prop} {m:AM} {L:List (List UInt8)} {a:Nat} (h:AAt w V N m) (hb:Q0A w V.k L a):∀ b,V.all b->b<w.heap.size:=fun b hb'=>by
 obtain⟨S,hd⟩:=h.dat;have hl:=hb.lt;rcases hb' with e | e | e | e
 ·rw [e]; exact hd.lt.1
 ·rw [e]; exact hd.lt.2
 ·rcases e with e | e | e <;> rw [e]
  ·exact hl.1
  ·exact hl.2.1
  ·exact hl.2.2
 ·exact h.tree.lt e
theorem ALSt.start {w0 W W':World} {V:ALoc} {m:AM} {asked:Nat} {L:List (List UInt8)} (hb:Below w0.heap.size w0 W) (hk:w0.heap.size<=V.k.g/\w0.heap.size<=V.k.b1/\w0.heap.size<=V.k.b2) (h:ANew W W' V.k V L asked m):ALSt w0 V (fun b=>V.all b\/b<W.heap.size) m (asked+30) W':=by
 obtain⟨L',a',h1,h2,h3,h4⟩:=h.book;have hs:=hb.size;refine⟨h.vat,⟨L',a',h1,by omega,h4⟩,hb.trans (h.only.below hs fun b hb' hn=>by rcases hn with e | e | e <;> omega),fun b hn=>hn.elim (fun e=>ALoc.all_lt h.vat h1 b e) (fun e=>by have:=h.only.size; omega),fun b hb'=>.inr (by omega),fun b hb'=>?_⟩;rcases hb' with e | e | e | e
 ·have:=h.new.1; omega
 ·have:=h.new.2.1; omega
 ·rcases e with e | e | e <;> omega
 ·have:=h.new.2.2 b e; omega
theorem ALSt.does_ {w0 W0 W:World} {V:ALoc} {N:Nat->Prop} {m:AM} {a:Nat} (h:ALSt w0 V N m a W0) (hb:Below W0.heap.size W0 W) (ha:a<=700000) (x:Wish) (hx:Q0Y W W.heap.size x none 0 0 none 0 0)
 (err ep:Nat) (nodes:List Int) (D:Option Addr) (k d:Nat) (hy:Q0d W W.heap.size 1 D k (nodes.map vn)) (hyp:∀ a,0<k->D=some a->W0.heap.size<=a.block) (hk:k<=1000000)
 (m':AM) (hm':(doQ m x).1=m') (hres:(doQ m x).2.2=0/\(doQ m x).2.1.err=err/\(doQ m x).2.1.epoch=ep/\(doQ m x).2.1.nodes=nodes) (args:Array Value) (hargs:args=#[.pointer (some ⟨V.g,0,none⟩),.agg (Q05 x none 0 0 none 0 0),.int .i64 (err:Int),.int .i64 (ep:Int),.slice D k d]) :
 Calls Tryz.prog 53 args W fun e W'=>e=.returned (.bool true)/\ALSt w0 V (fun b=>N b\/(W0.heap.size<=b/\b<W.heap.size)) m' (a+6) W':=by
 have hl:=h.later hb;obtain⟨L,a',h1,h2,h3⟩:=hl.book;subst hargs;refine(Qd3 W V _ m L a' hl.vat hl.nlt h1 h3 (by omega) x none 0 0 none 0 0 _ hx (Nat.le_refl _) err ep nodes D k d hy (fun ad h0 hA=>?_) hk).mono ?_
 ·obtain⟨ad',e,hlt,_⟩:=hy.2 h0;rw [hA] at e;injection e with e
  subst e;have h5:=hyp ad h0 hA;exact⟨.inr ⟨h5,hlt⟩,fun hv=>by have:=h.nlt _ (h.vat.all _ hv); omega⟩
 ·rintro e W' ⟨rfl,hd⟩;subst hm';exact⟨by rw [decide_eq_true hres],hl.did hd (by omega)⟩
theorem Qcn {w:World} {c s b:Int} (h:I64 c/\I64 s/\I64 b):Q0Y w w.heap.size (Q35 c s b) none 0 0 none 0 0 :=
 ⟨Q0d.none_,by simp [Q35],by simp [Q35],Q0d.none_,by simp [Q35],by simp [Q35],⟨h.1,h.2.1,by show I64 0; unfold I64; omega,by show I64 0; unfold I64; omega,by show I64 3; unfold I64; omega,h.2.2,by show I64 0; unfold I64; omega,by show I64 0; unfold I64; omega,fun z hz=>by simp [Q35] at hz⟩⟩
theorem Qb4 {w:World} {c s b o z:Int} (h:I64 c/\I64 s/\I64 b/\I64 o/\I64 z):Q0Y w w.heap.size (Q3z c s b o z) none 0 0 none 0 0 :=
 ⟨Q0d.none_,by simp [Q3z],by simp [Q3z],Q0d.none_,by simp [Q3z],by simp [Q3z],⟨h.1,h.2.1,by show I64 0; unfold I64; omega,by show I64 0; unfold I64; omega,by show I64 4; unfold I64; omega,h.2.2.1,h.2.2.2.1,h.2.2.2.2,fun z hz=>by simp [Q3z] at hz⟩⟩
def ak0:AM:=Q1t [⟨1,[5,6,7,8],[]⟩,⟨1,[9,10,11,12],[]⟩]
theorem newQ_two:newQ twoL=some ak0:=by kernel_rfl
def ak1:AM:=(doQ ak0 (Q35 31 1 2)).1
def ak2:AM:=(doQ ak1 (Q35 31 1 2)).1
def ak3:AM:=(doQ ak2 (Q3z 34 1 1 6 20)).1
def ak4:AM:=(doQ ak3 (Q3z 34 2 1 6 21)).1
def ak5:AM:=(doQ ak4 (Q3z 34 3 1 7 6)).1
def ak6:AM:=(doQ ak5 (Q3z 31 2 1 7 21)).1
def Q5O (m:AM) (x:Wish) (err ep:Nat) (nodes:List Int):Prop:=(doQ m x).2.2=0/\(doQ m x).2.1.err=err/\(doQ m x).2.1.epoch=ep/\(doQ m x).2.1.nodes=nodes
instance (m:AM) (x:Wish) (err ep:Nat) (nodes:List Int):Decidable (Q5O m x err ep nodes):=by unfold Q5O; infer_instance
theorem ak_0:Q5O ak0 (Q35 31 1 2) 0 0 [9,10,11,12]:=by decide +kernel
theorem ak_1:Q5O ak1 (Q35 31 1 2) 0 0 [9,10,11,12]:=by decide +kernel
theorem ak_2:Q5O ak2 (Q3z 34 1 1 6 20) 0 1 []:=by decide +kernel
theorem ak_3:Q5O ak3 (Q3z 34 2 1 6 21) 180 1 []:=by decide +kernel
theorem ak_4:Q5O ak4 (Q3z 34 3 1 7 6) 180 1 []:=by decide +kernel
theorem ak_5:Q5O ak5 (Q3z 31 2 1 7 21) 180 0 []:=by decide +kernel
theorem ak_6:(ak6.chunks[0]?.map fun s=>Q0U s.first s.moves)=some [[5,6,7,8],[5,7,8,20]]/\ak6.chunks.length=2:=by decide +kernel
end
section
open Go.RowKit Go.Maps
attribute [local irreducible] wpList Q0i
theorem Qdd (w:World) (a b c d:Int):Q0d (w.alloc (.cells #[.int .i64 a,.int .i64 b,.int .i64 c,.int .i64 d] 3)) (w.alloc (.cells #[.int .i64 a,.int .i64 b,.int .i64 c,.int .i64 d] 3)).heap.size 1 (some ⟨w.heap.size,0,none⟩) 4 ([a,b,c,d].map vn):=by
 have hk:Blk (w.alloc (.cells #[.int .i64 a,.int .i64 b,.int .i64 c,.int .i64 d] 3)) w.heap.size 3 #[.int .i64 a,.int .i64 b,.int .i64 c,.int .i64 d]:=Blk.newAt rfl;exact⟨rfl,fun _=>⟨⟨w.heap.size,0,none⟩,rfl,hk.lt,fun j u hu=>by rw [Q13,Nat.zero_add,hk.cell,<- Array.getElem?_toList]; exact hu⟩⟩
theorem Q7O (w:World) :
 Calls Tryz.prog 46 #[] w fun e w'=>e=.returned (.bool true)/\Below w.heap.size w w':=by
 go_enter Tryz.func46,Tryz.ntmps46
 go_wp2_with fail
 refine(Q7N w).mono ?_;rintro _ w1 ⟨k,rfl,hbk,hkn,hb1⟩;have HB1:=Lib.hid hb1;have HKN:=Lib.hid hkn;have HBK:=Lib.hid hbk;have hs1:=hb1.size;clear hb1 hkn hbk;go_wp2_with fail
 refine(atwo_any w1).mono ?_;rintro _ wt ⟨At,ct,rfl,hct,hbt⟩;have HNW:=Lib.hid (QaQ k [] 0 At 2 ct twoL wt (HBK.out.below hbt) (by omega) hct (by omega));have HBT:=Lib.hid (HB1.out.trans (hbt.mono hs1));clear hct hbt;go_wp2_with fail
 refine HNW.out.mono ?_;rintro _ w2 ⟨_,hgo⟩;obtain⟨V,rfl,hna⟩:=hgo ak0 newQ_two;have hkk:=hna.kk;subst hkk;have HS0:=Lib.hid (ALSt.start HBT.out HKN.out hna);clear hgo hna HNW HBK HBT HB1 HKN;have hI0:∀ z:Int,0<=z->z<=1000->I64 z:=fun z h1 h2=>by unfold I64; omega
 go_wp2_with fail
 refine(Q7x _ _ _ _).mono ?_;rintro _ q0 ⟨rfl,hbq0⟩;have hb0:=hbq0.trans ((Q07 q0 (.cells #[.int .i64 9,.int .i64 10,.int .i64 11,.int .i64 12] 3)).mono hbq0.size);have HD0:=Lib.hid (HS0.out.does_ hb0 (by omega) (Q35 31 1 2) (Qcn ⟨hI0 31 (by omega) (by omega),hI0 1 (by omega) (by omega),hI0 2 (by omega) (by omega)⟩) 0 0 [9,10,11,12] _ 4 4 (Qdd q0 9 10 11 12) (fun a _ ha=>by injection ha with ha; subst ha; exact hbq0.size) (by omega) ak1 rfl ak_0 _ rfl);clear hb0 hbq0 hI0;go_wp2_with fail
 refine HD0.out.mono ?_;rintro _ d0 ⟨rfl,hs0⟩;have HS1:=Lib.hid hs0;clear hs0 HD0 HS0;have hI1:∀ z:Int,0<=z->z<=1000->I64 z:=fun z h1 h2=>by unfold I64; omega
 go_wp2_with fail
 refine(Q7x _ _ _ _).mono ?_;rintro _ q1 ⟨rfl,hbq1⟩;have hb1:=hbq1.trans ((Q07 q1 (.cells #[.int .i64 9,.int .i64 10,.int .i64 11,.int .i64 12] 3)).mono hbq1.size);have HD1:=Lib.hid (HS1.out.does_ hb1 (by omega) (Q35 31 1 2) (Qcn ⟨hI1 31 (by omega) (by omega),hI1 1 (by omega) (by omega),hI1 2 (by omega) (by omega)⟩) 0 0 [9,10,11,12] _ 4 4 (Qdd q1 9 10 11 12) (fun a _ ha=>by injection ha with ha; subst ha; exact hbq1.size) (by omega) ak2 rfl ak_1 _ rfl);clear hb1 hbq1 hI1;go_wp2_with fail
 refine HD1.out.mono ?_;rintro _ d1 ⟨rfl,hs1⟩;have HS2:=Lib.hid hs1;clear hs1 HD1 HS1;have hI2:∀ z:Int,0<=z->z<=1000->I64 z:=fun z h1 h2=>by unfold I64; omega
 go_wp2_with fail
 refine(Q3b _ _ _ _ _ _).mono ?_;rintro _ q2 ⟨rfl,hbq2⟩;have HD2:=Lib.hid (HS2.out.does_ hbq2 (by omega) (Q3z 34 1 1 6 20) (Qb4 ⟨hI2 34 (by omega) (by omega),hI2 1 (by omega) (by omega),hI2 1 (by omega) (by omega),hI2 6 (by omega) (by omega),hI2 20 (by omega) (by omega)⟩) 0 1 [] none 0 0 Q0d.none_ (fun a h0 _=>by omega) (by omega) ak3 rfl ak_2 _ rfl);clear hbq2 hI2;go_wp2_with fail
 refine HD2.out.mono ?_;rintro _ d2 ⟨rfl,hs2⟩;have HS3:=Lib.hid hs2;clear hs2 HD2 HS2;have hI3:∀ z:Int,0<=z->z<=1000->I64 z:=fun z h1 h2=>by unfold I64; omega
 go_wp2_with fail
 refine(Q3b _ _ _ _ _ _).mono ?_;rintro _ q3 ⟨rfl,hbq3⟩;have HD3:=Lib.hid (HS3.out.does_ hbq3 (by omega) (Q3z 34 2 1 6 21) (Qb4 ⟨hI3 34 (by omega) (by omega),hI3 2 (by omega) (by omega),hI3 1 (by omega) (by omega),hI3 6 (by omega) (by omega),hI3 21 (by omega) (by omega)⟩) 180 1 [] none 0 0 Q0d.none_ (fun a h0 _=>by omega) (by omega) ak4 rfl ak_3 _ rfl);clear hbq3 hI3;go_wp2_with fail
 refine HD3.out.mono ?_;rintro _ d3 ⟨rfl,hs3⟩;have HS4:=Lib.hid hs3;clear hs3 HD3 HS3;have hI4:∀ z:Int,0<=z->z<=1000->I64 z:=fun z h1 h2=>by unfold I64; omega
 go_wp2_with fail
 refine(Q3b _ _ _ _ _ _).mono ?_;rintro _ q4 ⟨rfl,hbq4⟩;have HD4:=Lib.hid (HS4.out.does_ hbq4 (by omega) (Q3z 34 3 1 7 6) (Qb4 ⟨hI4 34 (by omega) (by omega),hI4 3 (by omega) (by omega),hI4 1 (by omega) (by omega),hI4 7 (by omega) (by omega),hI4 6 (by omega) (by omega)⟩) 180 1 [] none 0 0 Q0d.none_ (fun a h0 _=>by omega) (by omega) ak5 rfl ak_4 _ rfl);clear hbq4 hI4;go_wp2_with fail
 refine HD4.out.mono ?_;rintro _ d4 ⟨rfl,hs4⟩;have HS5:=Lib.hid hs4;clear hs4 HD4 HS4;have hI5:∀ z:Int,0<=z->z<=1000->I64 z:=fun z h1 h2=>by unfold I64; omega
 go_wp2_with fail
 refine(Q3b _ _ _ _ _ _).mono ?_;rintro _ q5 ⟨rfl,hbq5⟩;have HD5:=Lib.hid (HS5.out.does_ hbq5 (by omega) (Q3z 31 2 1 7 21) (Qb4 ⟨hI5 31 (by omega) (by omega),hI5 2 (by omega) (by omega),hI5 1 (by omega) (by omega),hI5 7 (by omega) (by omega),hI5 21 (by omega) (by omega)⟩) 180 0 [] none 0 0 Q0d.none_ (fun a h0 _=>by omega) (by omega) ak6 rfl ak_5 _ rfl);clear hbq5 hI5;go_wp2_with fail
 refine HD5.out.mono ?_;rintro _ d5 ⟨rfl,hs5⟩;have HS6:=Lib.hid hs5;clear hs5 HD5 HS5;obtain⟨S,hd⟩:=HS6.out.vat.dat;obtain⟨s,hs⟩:∃ s,ak6.chunks[0]?=some s:=⟨_,List.getElem?_eq_getElem (by rw [ak_6.2]; omega)⟩;have hcr:Q0U s.first s.moves=[[5,6,7,8],[5,7,8,20]]:=by
  have:=ak_6.1;rw [hs] at this;exact Option.some.inj this
 have HCW:=Lib.hid (Q7r _ _ _ 0 _ _ _ _ s hd hs);have HCR:=Lib.hid hcr;clear hd hs hcr;go_wp2_with fail
 refine HCW.out.mono ?_;rintro _ w7 ⟨v,nA,nC,rfl,hown,hb7⟩;rw [HCR.out] at hown;obtain⟨gl,cap,rfl,hgl,hgl2,hcl⟩:=hown.at_ (i:=1) (l:=[5,7,8,20]) rfl;have hnd:=Q1K (hown.nodes 1 [5,7,8,20] rfl);obtain⟨An,hAn⟩:∃ A,A=nA 1:=⟨_,rfl⟩;obtain⟨cn,hcn⟩:∃ c,c=nC 1:=⟨_,rfl⟩;rw [<- hAn] at hnd hcl;rw [<- hcn] at hcl;have hcl':w7.cell? ⟨gl,3,none⟩=some (.slice An 4 cn):=hcl;have hb8:=Q07 w7 (.cells #[.int .i64 5,.int .i64 7,.int .i64 8,.int .i64 20] 3);have HEQ:=Lib.hid (Q4l An (some ⟨w7.heap.size,0,none⟩) 4 4 cn 4 [5,7,8,20] [5,7,8,20] _ w7.heap.size _ (hnd.2.below hb8) (Qdd w7 5 7 8 20) (by unfold maxLen; omega) (by unfold maxLen; omega));have HS7:=Lib.hid (HS6.out.below (hb7.trans (hb8.mono hb7.size)));have hz2:[[5,6,7,8],[5,7,8,(20:Int)]].length=2:=rfl;rw [hz2];clear hown hcl hnd hAn hcn hb7 hb8 HCW HS6 hgl hgl2 hz2;go_wp2_with fail
 refine HEQ.out.mono ?_;rintro _ _ ⟨rfl,q,rfl⟩;rw [decide_eq_true trivial];have HS8:=Lib.hid (HS7.out.below (Q0z (Below.refl _ _) q));clear HEQ HS7 hcl';obtain⟨S,hd⟩:=HS8.out.vat.dat;have HCH:=Lib.hid (Q79 _ _ _ _ _ _ _ hd);rw [ak_6.2] at HCH;clear hd;go_wp2_with fail
 refine HCH.out.mono ?_;rintro _ _ ⟨rfl,rfl⟩;go_wp2_with fail
 go_ret
 exact⟨rfl,HS8.out.low⟩
end
end Go.Proofs.YtcpngeiahgoacaaGreat
