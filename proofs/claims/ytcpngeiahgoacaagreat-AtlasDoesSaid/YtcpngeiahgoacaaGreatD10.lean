/- Parts of the proof, in one text: CrD, CrE, CrF, CrG, Wanted. -/
import Derived.Test.YtcpngeiahgoacaaGreatD9
import Derived.Test.YtcpngeiahgoacaaGreatD7
import Derived.Test.YtcpngeiahgoacaaGreatD8
import Derived.Test.YtcpngeiahgoacaaGreatD1
namespace Go.Proofs.YtcpngeiahgoacaaGreat
set_option linter.unusedVariables false
set_option linter.unusedSimpArgs false
set_option maxRecDepth 100000
set_option maxHeartbeats 16000000
section
open Go.RowKit Go.Maps
attribute [local irreducible] wpList Q0i
def midL (l:List Int) (z:Int) (j:Nat):List Int:=l.take j++z :: l.drop j
theorem Q6h (l:List Int) (z:Int) (j:Nat) (hj:j<=l.length):(midL l z j).length=l.length+1:=by
 unfold midL;rw [List.length_append,List.length_take,List.length_cons,List.length_drop]; omega
theorem Qb7 (l:List Int) (z:Int):midL l z l.length=l++[z]:=by unfold midL; simp
theorem midL_at (l:List Int) (z:Int) (j:Nat) (hj:j<=l.length):(midL l z j)[j]?=some z:=by
 unfold midL;rw [List.getElem?_append_right (by rw [List.length_take]; omega),List.length_take,Nat.min_eq_left hj,Nat.sub_self];rfl
theorem Qa7 (l:List Int) (z:Int) (p:Nat) (hp:p<l.length):(midL l z (p+1))[p]?=some l[p]:=by
 unfold midL;rw [List.getElem?_append_left (by rw [List.length_take]; omega),List.getElem?_take,if_pos (by omega),List.getElem?_eq_getElem hp]
theorem QcI (l:List Int) (z:Int) (p:Nat) (hp:p<l.length):((midL l z (p+1)).set (p+1) l[p]).set p z=midL l z p/\((midL l z (p+1)).set p z).set (p+1) l[p]=midL l z p:=by
 have e:midL l z (p+1)=l.take p++l[p] :: z :: l.drop (p+1):=by
  unfold midL;rw [List.take_succ_eq_append_getElem hp,List.append_assoc]; rfl
 have e2:midL l z p=l.take p++z :: l[p] :: l.drop (p+1):=by
  unfold midL;rw [List.drop_eq_getElem_cons hp]
 have ht:(l.take p).length=p:=by rw [List.length_take]; omega
 have s1:∀ (t:List Int) (v:Int),(l.take p++t).set p v=l.take p++t.set 0 v:=fun t v=>by rw [List.set_append,if_neg (by omega),ht,Nat.sub_self]
 have s2:∀ (t:List Int) (v:Int),(l.take p++t).set (p+1) v=l.take p++t.set 1 v:=fun t v=>by rw [List.set_append,if_neg (by omega),ht,show p+1 - p=1 by omega]
 rw [e,e2,s2,s1,s1,s2];exact⟨rfl,rfl⟩
theorem Q9R (l:List Int) (z:Int) (j:Nat) (hp:l.Pairwise (· < ·)) (hj:j<=l.length) (hlo:∀ p,p+1=j->∀ h:p<l.length,¬ z<l[p]) (hhi:∀ x,x∈l.drop j->z<x):midL l z j=insL z l:=by
 have h:=QcX z (l.take j) (l.drop j) (fun x hx=>by
  obtain⟨i,hi,rfl⟩:=List.mem_iff_getElem.1 hx;rw [List.length_take] at hi;rw [List.getElem_take];have hj1:j - 1<l.length:=by omega
  have:=hlo (j - 1) (by omega) hj1;rcases Nat.lt_or_ge i (j - 1) with e | e
  ·have:=List.pairwise_iff_getElem.1 hp i (j - 1) (by omega) hj1 e;omega
  ·have e':i=j - 1:=by omega
   subst e';exact this) (fun x hx=>hhi x (by
  cases hd:l.drop j with
  | nil=>rw [hd] at hx; cases hx
  | cons y t =>
   rw [hd] at hx;obtain rfl:=Option.some.inj hx;exact List.mem_cons_self ..))
 rw [List.take_append_drop] at h;exact h.symm
theorem RowN.got {w:World} {g cap i:Nat} {zs:List Int} {z:Int} (h:RowN w g cap zs) (hz:zs[i]?=some z):w.cell? ⟨g,i,none⟩=some (.int .i64 z):=by
 obtain⟨hi,e⟩:=List.getElem?_eq_some_iff.1 hz;rw [h.at_ hi,e]
theorem QcB (g cap n:Nat) (l:List Int) (z:Int) (w:World) (h:RowN w g cap (l++[z])) (hn:n=l.length+1) (hp:l.Pairwise (· < ·)) (hz:¬ z∈l) (hn2:n<=12) :
 Calls Tryz.prog 194 #[.slice (some ⟨g,0,none⟩) n cap,.int .i64 0,.int .i64 (n:Int)] w fun e w'=>e=.returned (.tuple #[])/\RowN w' g cap (insL z l)/\Only (fun b=>b=g) w w':=by
 have HR:=Lib.hid h;have HN:=Lib.hid hn;have HP:=Lib.hid hp;have hn1:1<=n:=by omega
 clear h hn hp;go_enter Tryz.func194,Tryz.ntmps194
 go_wp2_with fail
 go_loopw [6] (fun iv wr=>∃ i:Nat,1<=i/\i<=n/\iv=.int .i64 (i:Int)/\RowN wr g cap (if i<n then l++[z] else insL z l)/\Only (fun b=>b=g) w wr) (fun iv _=>n - (intOf iv).toNat)
 case atStart =>
  refine⟨1,by omega,hn1,rfl,?_,Only.refl _ _⟩;split
  ·exact HR.out
  ·have:l=[]:=List.eq_nil_of_length_eq_zero (by have:=HN.out; omega);subst this;exact HR.out
 case round =>
  obtain⟨i,hi1,hi,rfl,hrow,hon⟩:=hrel;by_cases hin:i<n
  ·rw [if_pos hin] at hrow;have hinI:(i:Int)<(n:Int):=by omega
   have HROW:=Lib.hid hrow;have HON:=Lib.hid hon;clear hrow hon;by_cases hlast:i+1<n
   ·obtain⟨p,hp⟩:∃ p,i=p+1:=⟨i - 1,by omega⟩;have hil:i<l.length:=by have:=HN.out; omega
    have hpl:p<l.length:=by omega
    have hci:=HROW.out.got (i:=i) (z:=l[i]) (by rw [List.getElem?_append_left hil,List.getElem?_eq_getElem hil]);have hcp:=HROW.out.got (i:=p) (z:=l[p]) (by rw [List.getElem?_append_left hpl,List.getElem?_eq_getElem hpl]);have hxy:¬ l[i]<l[p]:=by have:=List.pairwise_iff_getElem.1 HP.out p i hpl hil (by omega); omega
    have HLE:=Lib.hid (fun W=>Q8q l[i] l[p] W);rw [decide_eq_false hxy] at HLE;generalize l[i]=x at hci HLE;generalize l[p]=y at hcp HLE;have hip:(i:Int) - 1=(p:Int):=by omega
    have h0i:0<i:=by omega
    have hpI:p<n:=by omega
    have hpw:IntKind.i64.wrap (p:Int)=(p:Int):=by rw [IntKind.wrap_i64]; omega
    clear hxy hp hpl hil;go_wp2_with fail
    go_loopw [7] (fun jv w2=>jv=.int .i64 (i:Int)/\∃ k,w2=wr.drewN k) (fun _ _=>0)
    case atStart=>exact⟨rfl,0,rfl⟩
    case round =>
     obtain⟨rfl,k,rfl⟩:=hrel;go_upto_region 4 with fail
     go_quiet ((go_at_call 180; exact Q3f (HLE.out _)))
     go_wp2_with fail
     go_roundw
     case rel=>exact⟨i+1,by omega,by omega,by go_num,by rw [if_pos hlast]; exact HROW.out.keep rfl,by first | exact HON.out.drewN _ | exact(HON.out.drewN _).drewN _⟩
     case measure=>simp [intOf]; omega
   ·obtain rfl:i=l.length:=by have:=HN.out; omega
    have hml:=Qb7 l z;have HPP:=HP.out;go_wp2_with fail
    go_loopw [7] (fun jv w2=>∃ j:Nat,j<=l.length/\jv=.int .i64 (j:Int)/\RowN w2 g cap (midL l z j)/\(∀ x,x∈l.drop j->z<x)/\Only (fun b=>b=g) w w2) (fun jv _=>(intOf jv).toNat)
    case atStart=>exact⟨l.length,Nat.le_refl _,rfl,(by rw [Qb7]; exact HROW.out),(fun x hx=>by rw [List.drop_length] at hx; cases hx),HON.out⟩
    case round =>
     obtain⟨j,hj,rfl,hrj,hhi,hoj⟩:=hrel;have HRJ:=Lib.hid hrj;have HHI:=Lib.hid hhi;have HOJ:=Lib.hid hoj;clear hhi hoj;by_cases h0:j=0
     ·have hdone:=Q9R l z j HPP hj (fun p hp _=>by omega) HHI.out;rw [hdone] at hrj;have HRD:=Lib.hid hrj;subst h0;clear hrj hdone;go_wp2_with fail
      go_upto_region 4 with fail
      go_quiet (fail)
      go_wp2_with fail
      go_roundw
      case rel=>exact⟨l.length+1,by omega,by omega,by go_num,by rw [if_neg (by have:=HN.out; omega)]; exact HRD.out.keep rfl,by first | exact HOJ.out.drewN _ | exact(HOJ.out.drewN _).drewN _⟩
      case measure=>simp [intOf]; omega
     ·obtain⟨p,hp⟩:∃ p,j=p+1:=⟨j - 1,by omega⟩;have hpl:p<l.length:=by omega
      have hcj:=hrj.got (midL_at l z j hj);have hcp:=hrj.got (i:=p) (z:=l[p]) (by rw [hp]; exact Qa7 l z p hpl);have HLE:=Lib.hid (fun W=>Q8q z l[p] W);have hjn:j<n:=by have:=HN.out; omega
      have hjp:(j:Int) - 1=(p:Int):=by omega
      have h0j:0<j:=by omega
      have hpn:p<n:=by omega
      have hpw:IntKind.i64.wrap (p:Int)=(p:Int):=by rw [IntKind.wrap_i64]; omega
      have hpz:l[p]≠z:=fun e=>hz (e▸List.getElem_mem hpl)
      by_cases hlt:z<l[p]
      ·rw [decide_eq_true hlt] at HLE;have hsw:=QcI l z p hpl;have hs1:=(hrj.set_ (i:=j) (by rw [Q6h l z j hj]; omega) l[p]).set_ (i:=p) (by rw [List.length_set,Q6h l z j hj]; omega) z;have hs2:=(hrj.set_ (i:=p) (by rw [Q6h l z j hj]; omega) z).set_ (i:=j) (by rw [List.length_set,Q6h l z j hj]; omega) l[p];rw [hp] at hs1 hs2;rw [hsw.1] at hs1;rw [hsw.2] at hs2;rw [<- hp] at hs1 hs2;have hdr:l.drop p=l[p] :: l.drop j:=by rw [List.drop_eq_getElem_cons hpl,hp]
       have hh2:∀ x,x∈l.drop p->z<x:=fun x hx=>by
        rw [hdr] at hx;rcases List.mem_cons.1 hx with rfl | hx
        ·exact hlt
        ·exact HHI.out x hx
       have HH2:=Lib.hid hh2;have HS1:=Lib.hid hs1;have HS2:=Lib.hid hs2;have hfj:=hrj.frozen j;have hfp:=hrj.frozen p;have hjp2:j≠p:=by omega
       have hpj2:p≠j:=by omega
       generalize l[p]=y at hcp HLE HS1 HS2;clear hrj hs1 hs2 hdr hh2 hsw hp hlt hpz;go_wp2_with fail
       go_upto_region 4 with fail
       go_quiet ((go_at_call 180; first | exact Q7z (HLE.out _) | exact Q3f (HLE.out _)))
       go_wp2_with fail
       go_upto_region 6 with fail
       go_region
       go_wp2_with fail
       go_roundw
       case rel=>exact⟨p,by omega,by go_num,HS1.out.keep rfl,HH2.out,(HOJ.out.drewN _).trans ((Only.of_turned (N:=fun b=>b=g) (Q0c.setCell _ ⟨g,j,none⟩ (.int .i64 y)) rfl).trans (Only.of_turned (N:=fun b=>b=g) (Q0c.setCell _ ⟨g,p,none⟩ (.int .i64 z)) rfl))⟩
       case measure=>simp [intOf]; omega
      ·have hdone:=Q9R l z j HPP hj (fun q hq hql=>by
        obtain rfl:q=p:=by omega
        exact hlt) HHI.out
       rw [hdone] at hrj;have HRD:=Lib.hid hrj;rw [decide_eq_false hlt] at HLE;generalize l[p]=y at hcp HLE;clear hrj hdone hp hlt hpz;go_wp2_with fail
       go_upto_region 4 with fail
       go_quiet ((go_at_call 180; first | exact Q7z (HLE.out _) | exact Q3f (HLE.out _)))
       go_wp2_with fail
       go_roundw
       case rel=>exact⟨l.length+1,by omega,by omega,by go_num,by rw [if_neg (by have:=HN.out; omega)]; exact HRD.out.keep rfl,by first | exact HOJ.out.drewN _ | exact(HOJ.out.drewN _).drewN _⟩
       case measure=>simp [intOf]; omega
  ·obtain rfl:i=n:=by omega
   rw [if_neg hin] at hrow;have hinI:¬ (i:Int)<(i:Int):=by omega
   have HROW:=Lib.hid hrow;have HON:=Lib.hid hon;clear hrow hon;go_wp2_with fail
   first | go_end0 | (simp only [Exit.inBlock,Exit.then]; refine bodyPost_ret (results_none rfl _ _ _) rfl ?_) | refine bodyPost_ret (results_none rfl _ _ _) rfl ?_
   exact⟨rfl,HROW.out,HON.out⟩
end
section
open Go.RowKit Go.Maps
attribute [local irreducible] wpList Q0i
theorem Qd4 (n:Nat) (hn:n=1\/n=4\/n=7) (w:World):Calls Tryz.prog 203 #[.int .u64 (n:Int)] w fun e w'=>∃ v:Int,e=.returned (.int .i64 v)/\w=w':=by
 rcases hn with rfl | rfl | rfl
 ·go_enter Tryz.func203,Tryz.ntmps203
  go_wp2_with fail
  go_ret
  exact⟨_,rfl,rfl⟩
 ·go_enter Tryz.func203,Tryz.ntmps203
  go_wp2_with fail
  go_ret
  exact⟨_,rfl,rfl⟩
 ·go_enter Tryz.func203,Tryz.ntmps203
  go_wp2_with fail
  go_ret
  exact⟨_,rfl,rfl⟩
theorem Qa6 (n:Nat) (hn:n=1\/n=4\/n=7) (w:World):Calls Tryz.prog 183 #[.int .u64 (n:Int)] w fun e w'=>∃ v:Int,e=.returned (.int .i64 v)/\w=w':=by
 have HL:=Lib.hid (Qd4 n hn w);clear hn;go_enter Tryz.func183,Tryz.ntmps183
 go_wp2_with fail
 refine HL.out.mono ?_;rintro _ _ ⟨v,rfl,rfl⟩;go_wp2_with fail
 go_ret
 exact⟨_,rfl,rfl⟩
theorem pdq_any (g cap n:Nat) (l:List Int) (z v:Int) (w:World) (h:RowN w g cap (l++[z])) (hn:n=l.length+1) (hp:l.Pairwise (· < ·)) (hz:¬ z∈l) (hn2:n<=12) :
 Calls Tryz.prog 182 #[.slice (some ⟨g,0,none⟩) n cap,.int .i64 0,.int .i64 (n:Int),.int .i64 v] w fun e w'=>e=.returned (.tuple #[])/\RowN w' g cap (insL z l)/\Only (fun b=>b=g) w w':=by
 have HI:=Lib.hid (QcB g cap n l z w h hn hp hz hn2);clear h hn hp hz;go_enter Tryz.func182,Tryz.ntmps182
 go_wp2_with fail
 go_loopw [1,2] (fun av bv wr=>av=.int .i64 0/\bv=.int .i64 (n:Int)/\w=wr) (fun _ _ _=>0)
 case atStart=>exact⟨rfl,rfl,rfl⟩
 case round =>
  obtain⟨rfl,rfl,rfl⟩:=hrel;go_wp2_with fail
  refine HI.out.mono ?_;rintro _ w1 ⟨rfl,hr,ho⟩;have HR:=Lib.hid hr;have HO:=Lib.hid ho;clear hr ho HI;go_wp2_with fail
  first | go_end0 | (simp only [Exit.inBlock,Exit.then]; refine bodyPost_ret (results_none rfl _ _ _) rfl ?_) | refine bodyPost_ret (results_none rfl _ _ _) rfl ?_
  exact⟨rfl,HR.out,HO.out⟩
theorem sort_any (g cap n:Nat) (l:List Int) (z:Int) (w:World) (h:RowN w g cap (l++[z])) (hn:n=l.length+1) (hp:l.Pairwise (· < ·)) (hz:¬ z∈l) (hn2:n=1\/n=4\/n=7) :
 Calls Tryz.prog 167 #[.slice (some ⟨g,0,none⟩) n cap] w fun e w'=>e=.returned (.tuple #[])/\RowN w' g cap (insL z l)/\Only (fun b=>b=g) w w':=by
 have HP:=Lib.hid (fun v=>pdq_any g cap n l z v w h hn hp hz (by omega));have HL:=Lib.hid (Qa6 n hn2 w);have hn7:n<=7:=by omega
 clear h hn hp hz hn2;go_enter Tryz.func167,Tryz.ntmps167
 go_wp2_with fail
 refine HL.out.mono ?_;rintro _ _ ⟨v,rfl,rfl⟩;clear HL;go_wp2_with fail
 refine(HP.out v).mono ?_;rintro _ w1 ⟨rfl,hr,ho⟩;have HR:=Lib.hid hr;have HO:=Lib.hid ho;clear hr ho HP;go_wp2_with fail
 first | go_end0 | (simp only [Exit.inBlock,Exit.then]; refine bodyPost_ret (results_none rfl _ _ _) rfl ?_) | refine bodyPost_ret (results_none rfl _ _ _) rfl ?_
 exact⟨rfl,HR.out,HO.out⟩
end
section
open Go.RowKit Go.Maps
attribute [local irreducible] wpList Q0i
theorem crZ:crC 0 none 0 0=#[.int .i64 0,.slice none 0 0]:=rfl
theorem Q1V (f:Int) (A:Option Addr) (n c:Nat):(Tryz.prog.info? 77).map (·.size)=some (crC f A n c).size:=by kernel_rfl
theorem Q1p (f:Int) (A:Option Addr) (n c:Nat):(crC f A n c).all (·.oneCell')=true:=by simp [crC,Value.oneCell']
theorem Q3d (f f':Int) (A A':Option Addr) (n c n' c':Nat):spl (crC f A n c) 0 (crC f' A' n' c').toList=crC f' A' n' c':=Q08 _ _ rfl
theorem Qc7 (f:Nat) (A:Option Addr) (n c:Nat) (l:List Int) (z:Int) (w:World) (B:Nat) (h:Q0d w B 1 A n ((l++[z]).map vn)) (hB:B<=w.heap.size) (hp:l.Pairwise (· < ·)) (hz:¬ z∈l) (hok:OkC f (insL z l)) :
 Calls Tryz.prog 145 #[.int .i64 (f:Int),.slice A n c] w fun e w'=>∃ A' c',e=.returned (.tuple #[.agg (crC f A' n c'),.int .i64 0])/\OwnN w' w.heap.size (.slice A' n c') (insL z l)/\Below w.heap.size w w':=by
 have hzn:(l++[z]).length=n:=by have:=h.1; simpa using this
 have hs:=hok.len;have hf:=hok.faults;rw [Q3U] at hs;rw [List.length_append,List.length_singleton] at hzn;have hn7:n=1\/n=4\/n=7:=by omega
 have hX:=Q07 w (.cells (crC 0 none 0 0) 77);have HX:=Lib.hid hX;have HK:=Lib.hid (Blk.newAt rfl:Blk (w.alloc (.cells (crC 0 none 0 0) 77)) w.heap.size 77 (crC 0 none 0 0));have HCL:=Lib.hid (Q2Q A n c (l++[z]) (w.alloc (.cells (crC 0 none 0 0) 77)) B (h.below (hX.mono hB)) (Nat.le_trans hB hX.size) (by omega));have hs1:(w.alloc (.cells (crC 0 none 0 0) 77)).heap.size=w.heap.size+1:=by simp
 have HOK:=Lib.hid hok;have HZN:=Lib.hid hzn;have HN7:=Lib.hid hn7;have HP:=Lib.hid hp;have HZ:=Lib.hid hz;have HSZ:=Lib.hid hs1;clear h hX hs hzn hok hn7 hp hz hs1;obtain⟨g,hg⟩:∃ g,g=w.heap.size:=⟨_,rfl⟩;go_enter Tryz.func145,Tryz.ntmps145
 go_upto_region 1 with fail
 rw [<- crZ];generalize World.alloc w _=w1 at HX HK HCL HSZ ⊢;rw [<- hg] at HK ⊢;have hgw:w.heap.size<=g:=by omega
 have hgl:=HK.out.lt;clear hg HSZ;go_wp2_with fail
 refine HCL.out.mono ?_;rintro _ w2 ⟨v,rfl,how,hb2⟩;obtain⟨g2,cap,hv,hg2,hrow⟩:=RowN.of_own how (by simp);have hle:(l++[z]).length=n:=by rw [List.length_append]; exact HZN.out
 rw [hle] at hv;subst hv;have HROW:=Lib.hid hrow;have hs2:=hb2.size;have HK2:=Lib.hid (HK.out.below' hb2);have HB2:=Lib.hid (HX.out.trans (hb2.mono HX.out.size));clear how hrow hb2 HCL HK hle;go_upto_region 2 with(refine Q01 (o:=⟨none,_,_,_,_,_⟩) rfl 77 (.tmp 6) (.tmp 10) rfl w2.heap.size 0 (crC f (some ⟨g2,0,none⟩) n cap) rfl rfl 77 (crC 0 none 0 0) (Blk.newAt rfl) (Q1V _ _ _ _) (by simp [crC]) (Q1p _ _ _ _) ?_; intro w3 hT3 hD3; rw [Q3d] at hD3)
 have hb3:Below w2.heap.size w2 w3:=hT3.below (Q07 w2 _) (Nat.le_refl _);have hs3:=hb3.size;obtain⟨g6,hg6⟩:∃ g,g=w2.heap.size:=⟨_,rfl⟩;rw [<- hg6] at hD3 ⊢;have HD3:=Lib.hid hD3;have hrl:=HROW.out.lt;have HROW3:=Lib.hid (HROW.out.below hb3 hrl);have HK3:=Lib.hid (HK2.out.below' hb3);have HB3:=Lib.hid (HB2.out.trans (hb3.mono HB2.out.size));have hg26:g2≠g6:=by omega
 have hgg2:g≠g2:=by omega
 have hgg6:g≠g6:=by omega
 have hg6w:w.heap.size<=g6:=by have:=HB2.out.size; omega
 have hg2w:w.heap.size<=g2:=by have:=HX.out.size; omega
 have c61:w3.cell? ⟨g6,1,none⟩=some (.slice (some ⟨g2,0,none⟩) n cap):=(HD3.out.cell 1).trans rfl;have HSO:=Lib.hid (sort_any g2 cap n l z w3 HROW3.out HZN.out.symm HP.out HZ.out HN7.out);clear hT3 hD3 hb3 hg6 HROW HK2 HB2 hs2 hs3;go_wp2_with fail
 refine HSO.out.mono ?_;rintro _ w4 ⟨rfl,hrow4,hon4⟩;have HB4:=Lib.hid (HB3.out.trans (hon4.below (B:=w.heap.size) HB3.out.size fun b hb e=>by omega));have HD4:=Lib.hid (hon4.blk HD3.out (fun e=>hg26 e.symm));have HK4:=Lib.hid (hon4.blk HK3.out hgg2);have HROW4:=Lib.hid hrow4;have hle4:(insL z l).length=n:=by rw [Q3U]; exact HZN.out
 have hre4:=hrow4.reads;rw [hle4] at hre4;have HCK:=Lib.hid (Q2U f (some ⟨g2,0,none⟩) n cap (insL z l) w4 hre4 (by rcases HN7.out with e | e | e <;> omega));rw [Q3F HOK.out,if_pos rfl] at HCK;have HLE4:=Lib.hid hle4;obtain⟨D,hD⟩:∃ D,D=crC f (some ⟨g2,0,none⟩) n cap:=⟨_,rfl⟩;have hsz:D.size=2:=by rw [hD]; rfl
 have hone:D.all (·.oneCell')=true:=by rw [hD]; exact Q1p _ _ _ _
 rw [<- hD] at HD4 HCK;have HD:=Lib.hid hD;have HSZ:=Lib.hid hsz;have HONE:=Lib.hid hone;clear hrow4 hon4 hre4 hle4 HSO HROW3 HD3 HK3 HB3 hD hsz hone;go_wp2_with (refine Q03 (o:=⟨some 14,_,_,_,_,_⟩) rfl 77 (.tmp 6) rfl g6 0 2 rfl 77 _ D _ HD4.out Tryz.underlying77 rfl rfl HSZ.out (fun _ _=>by rw [Nat.zero_add]; try rfl) ?_)
 refine HCK.out.mono ?_;rintro _ w5 ⟨rfl,hb5⟩;have hs5:=hb5.size;have hs4:=HB4.out.size;have HB5:=Lib.hid (HB4.out.trans (hb5.mono hs4));have HD5:=Lib.hid (HD4.out.below' hb5);have HK5:=Lib.hid (HK4.out.below' hb5);have HROW5:=Lib.hid (HROW4.out.below hb5 HROW4.out.lt);clear hb5 HB4 HD4 HK4 HCK;go_wp2_with (first
  | (refine Q03 (o:=⟨some 18,_,_,_,_,_⟩) rfl 77 (.tmp 6) rfl g6 0 2 rfl 77 _ D _ HD5.out Tryz.underlying77 rfl rfl HSZ.out (fun _ _=>by rw [Nat.zero_add]; try rfl) ?_)
  | (refine Q01 (o:=⟨none,_,_,_,_,_⟩) rfl 77 (.tmp 4) (.tmp 18) rfl g 0 D rfl rfl 77 _ HK5.out (by rw [HSZ.out]; rfl) (by rw [HSZ.out]; simp [crC]) HONE.out ?_; intro w6 hT6 hD6; rw [Q08 _ _ (by rw [HSZ.out]; rfl)] at hD6))
 refine bodyPost_ret (Q0b rfl _ _ g 2 77 _ _ rfl hD6 Tryz.underlying77 rfl rfl HSZ.out) rfl ⟨some ⟨g2,0,none⟩,cap,by rw [HD.out]; rfl,?_,?_⟩
 ·have:=(HROW5.out.keep (hT6.block g2 (fun e=>hgg2 e.symm))).own (B:=w.heap.size) hg2w;rw [HLE4.out] at this;exact this
 ·exact hT6.below HB5.out hgw
end
section
open Go.RowKit Go.Maps
attribute [local irreducible] wpList Q0i
theorem OwnN.ge_ {w:World} {B b:Nat} {v:Value} {xs:List Int} (h:OwnN w B v xs) (hb:v.ownBlock=some b):B<=b:=by
 rcases h.2 with⟨rfl,_⟩ | ⟨g,cap,cur,rfl,hg,_⟩
 ·cases hb
 ·have:b=g:=by simpa [Value.ownBlock] using hb.symm
  omega
theorem Q97 {P:Program} {ops:Array Oper} {o:Oper} {a:Act} {w:World} {R:World->World->Prop} {J:World->Prop} {p:World->Value->Prop} (hw:Region.wanted o (yielded ops a.tmps)=true) (v:Value) (w':World) (he:(execOp a.eval o).run P w=.ok (.value v) w') (hR:R w w') (hJ:J w') (hp:p w' v):Q3Z P ops o a w R J p:=fun K Q' hK=>by
 rw [if_pos hw];unfold Oper.wp;rw [he];exact hK v w' hR hJ hp
theorem Q72 {P:Program} {o:Oper} {a:Act} {w w':World} {s x:Operand} {t:TypeId} {v vs vx:Value} (ho:o.op=.call { callee:=.builtin .append,args:=#[s,x],argTypes:=#[t,t] }) (hs:a.eval s=vs) (hx:a.eval x=vx) (hrun:(Builtin.append_ #[t,t] o.type #[vs,vx]).run P w=.ok v w'):(execOp a.eval o).run P w=.ok (.value v) w':=by
 unfold execOp;simp only [ho,resolve,invoke,builtin,Sem.run_bind,Sem.run_pure,Result.andThen_ok,List.map_toArray,List.map_cons,List.map_nil,hs,hx,hrun]
def QbW (l:List Int) (z:Int) (w w':World):Prop:=∃ g cap y,RowN w g cap (l++[y])/\w'=w.setCell ⟨g,l.length,none⟩ (.int .i64 z)
theorem RowN.put {w w':World} {g cap:Nat} {l:List Int} {y z:Int} (h:RowN w g cap (l++[y])) (hp:QbW l z w w'):∃ y',RowN w' g cap (l++[y']):=by
 obtain⟨g',cap',y',hr,rfl⟩:=hp;by_cases e:g'=g
 ·subst e;have:=h.set_ (i:=l.length) (by simp) z;rw [List.set_append,if_neg (by omega),Nat.sub_self] at this;exact⟨z,this⟩
 ·exact⟨y,h.keep (Below.heap_setCell w ⟨g',l.length,none⟩ (.int .i64 z) g (fun q=>e q.symm))⟩
theorem one_put {w w':World} {g:Nat} {l:List Int} {z:Int} (h:Blk w g 3 #[.int .i64 z]) (hp:QbW l z w w'):Blk w' g 3 #[.int .i64 z]:=by
 obtain⟨g',cap',y',hr,rfl⟩:=hp;by_cases e:g'=g
 ·subst e;obtain⟨cur,h1,h2,h3⟩:=hr.row;have hc:cur=#[.int .i64 z]:=by
   unfold Blk at h h1;rw [h] at h1;injection h1 with h1
   injection h1 with h1
   exact h1.symm
  have hl:=hr.cap.1;have hcs:cur.size=1:=by rw [hc]; rfl
  rw [List.length_append,List.length_singleton] at hl;have hl0:l.length=0:=by omega
  rw [hl0];exact h.set_ 0 (.int .i64 z)
 ·exact Below.heap_setCell w ⟨g',l.length,none⟩ (.int .i64 z) g (fun q=>e q.symm) |>.trans h
theorem RowN.putz {w w':World} {g cap:Nat} {l:List Int} {z:Int} (h:RowN w g cap (l++[z])) (hp:QbW l z w w'):RowN w' g cap (l++[z]):=by
 obtain⟨g',cap',y',hr,rfl⟩:=hp;by_cases e:g'=g
 ·subst e;have:=h.set_ (i:=l.length) (by simp) z;rw [List.set_append,if_neg (by omega),Nat.sub_self] at this;exact this
 ·exact h.keep (Below.heap_setCell w ⟨g',l.length,none⟩ (.int .i64 z) g (fun q=>e q.symm))
theorem own_put {w w':World} {B:Nat} {v:Value} {l:List Int} {z:Int} (hz:¬ z∈l) (h:OwnN w B v (insL z l)) (hp:QbW l z w w'):OwnN w' B v (insL z l):=by
 obtain⟨g,cap,rfl,hB,hr⟩:=RowN.of_own h (by rw [Q3U]; omega);obtain⟨g',cap',y',hr',rfl⟩:=hp;by_cases e:g'=g
 ·subst e;obtain⟨cur,h1,h2,h3⟩:=hr.row;obtain⟨cur',k1,k2,k3⟩:=hr'.row;have hc:cur'=cur:=by
   unfold Blk at h1 k1;rw [h1] at k1;injection k1 with k1
   injection k1 with k1
   exact k1.symm
  subst hc;have hl:(insL z l).length=(l++[y']).length:=by rw [Q3U]; simp
  rw [hl,k3] at h3;have he:l++[y']=insL z l:=(List.map_inj_right (fun a b q=>by simpa [vn] using q)).1 h3;have hm:z∈l++[y']:=by rw [he]; exact(Q53 z z l).2 (.inl rfl)
  have hzy:z=y':=by
   rcases List.mem_append.1 hm with q | q
   ·exact absurd q hz
   ·exact List.mem_singleton.1 q
  have:=hr'.set_ (i:=l.length) (by simp) z;rw [List.set_append,if_neg (by omega),Nat.sub_self] at this;have h5:RowN (w.setCell ⟨g',l.length,none⟩ (.int .i64 z)) g' cap (insL z l):=by
   rw [<- he,<- hzy];obtain⟨c3,q1,q2,q3⟩:=this.row;exact⟨⟨c3,q1,by omega,q3⟩,by have:=hr.cap; rw [<- he,<- hzy] at this; exact this⟩
  exact h5.own hB
 ·exact(hr.keep (Below.heap_setCell w ⟨g',l.length,none⟩ (.int .i64 z) g (fun q=>e q.symm))).own hB
structure RpSt (w4:World) (g6 f n:Nat) (r:List Int) (s:Nat) (W:World):Prop where
 only:Only (fun b=>b=g6) w4 W
 zero:s<=1->Blk W g6 77 (crC 0 none 0 0)
 done:s=2->∃ A' c',Blk W g6 77 (crC f A' n c')/\OwnN W w4.heap.size (.slice A' n c') r
theorem RpSt.below {w4 W W':World} {g6 f n s:Nat} {r:List Int} (h:RpSt w4 g6 f n r s W) (hb:Below W.heap.size W W'):RpSt w4 g6 f n r s W' :=
 ⟨h.only.trans (Only.of_below hb),fun e=>(h.zero e).below' hb,fun e=>by
  obtain⟨A',c',h1,h2⟩:=h.done e;exact⟨A',c',h1.below' hb,h2.below_ hb⟩⟩
theorem RpSt.put {w4 W:World} {g6 f n s q k:Nat} {v:Value} {r:List Int} (h:RpSt w4 g6 f n r s W) (hq:w4.heap.size<=q) (hg:g6<w4.heap.size) (hs:s=0):RpSt w4 g6 f n r (s+1) (W.setCell ⟨q,k,none⟩ v):=by
 subst hs;have ht:=Q0c.setCell W ⟨q,k,none⟩ v;refine⟨?_,fun _=>(ht.block g6 (fun e=>by have e':g6=q:=e; omega)).trans (h.zero (by omega)),fun e=>by omega⟩;have ho:=h.only;exact⟨ho.os,ho.tape,ho.output,by simpa [World.setCell] using ho.size,fun i hi hn=>(ht.block i (fun e=>by have e':i=q:=e; omega)).trans (ho.block i hi hn)⟩
def Q3v (l:List Int) (o n:Int):Prop:=o∈l/\¬ n∈l/\1<=n/\n<=28
def ReplPost (w:World) (f:Nat) (l:List Int) (o n:Int) (e:Ending) (w':World):Prop :=
 Below w.heap.size w w'/\(Q3v l o n->∃ A' k' c',e=.returned (.tuple #[.agg (crC f A' k' c'),.int .i64 0])/\OwnN w' w.heap.size (.slice A' k' c') (Q1N l o n))/\(¬ Q3v l o n->∃ er:Nat,er≠0/\e=.returned (.tuple #[.agg (crC 0 none 0 0),.int .i64 (er:Int)]))
theorem Q5n (f:Nat) (A:Option Addr) (n c:Nat) (l:List Int) (o z:Int) (w:World) (h:Q0d w w.heap.size 1 A n (l.map vn)) (hok:OkC f l) :
 Calls Tryz.prog 111 #[.agg (crC f A n c),.int .i64 o,.int .i64 z] w (ReplPost w f l o z):=by
 have hzn:l.length=n:=by have:=h.1; simpa using this
 have hs:=hok.short;have hn7:n<=1000000:=by omega
 have hX:=((Below.refl w.heap.size w).alloc (Nat.le_refl _) (.cells (crC f A n c) 77)).alloc (by simp) (.cells (crC 0 none 0 0) 77);have HK:=Lib.hid ((Blk.newAt rfl:Blk (w.alloc (.cells (crC f A n c) 77)) w.heap.size 77 (crC f A n c)).alloc (.cells (crC 0 none 0 0) 77));have HO:=Lib.hid (Blk.newAt (by simp):Blk ((w.alloc (.cells (crC f A n c) 77)).alloc (.cells (crC 0 none 0 0) 77)) (w.heap.size+1) 77 (crC 0 none 0 0));have hr1:=h.below hX;have hs1:((w.alloc (.cells (crC f A n c) 77)).alloc (.cells (crC 0 none 0 0) 77)).heap.size=w.heap.size+2:=by simp
 have HC:=Lib.hid (Q2U f A n c l _ (hr1.more hX.size) (by omega));rw [Q3F hok,if_pos rfl] at HC;have HX:=Lib.hid hX;have HR1:=Lib.hid hr1;have HOK:=Lib.hid hok;have HZN:=Lib.hid hzn;obtain⟨D,hD⟩:∃ D,D=crC f A n c:=⟨_,rfl⟩;have hsz:D.size=2:=by rw [hD]; rfl
 have c1:D[0]?=some (.int .i64 (f:Int)):=by rw [hD]; rfl
 rw [<- hD] at HX HK HO HC HR1 hs1 ⊢;have C0:=Lib.hid c1;have HDD:=Lib.hid hD;have HS1:=Lib.hid hs1;clear h hr1 hok hX hzn hD c1 hs1;obtain⟨g,hg⟩:∃ g,g=w.heap.size:=⟨_,rfl⟩;obtain⟨g6,hg6⟩:∃ g,g=w.heap.size+1:=⟨_,rfl⟩;go_enter Tryz.func111,Tryz.ntmps111
 go_upto_region 1 with fail
 rw [<- crZ];generalize World.alloc (World.alloc w _) _=w1 at HX HK HO HC HR1 HS1 ⊢;rw [<- hg6] at HO ⊢;rw [<- hg] at HK ⊢;have hs1:=HS1.out;have hgl:g<w1.heap.size:=by omega
 have hgl6:g6<w1.heap.size:=by omega
 have hgg:g≠g6:=by omega
 have hgw:w.heap.size<=g:=by omega
 have hgw6:w.heap.size<=g6:=by omega
 clear HS1 hs1 hg hg6;go_wp2_with (refine Q03 (o:=⟨some 9,_,_,_,_,_⟩) rfl 77 (.tmp 3) rfl g 0 2 rfl 77 _ D _ HK.out Tryz.underlying77 rfl rfl hsz (fun _ _=>by rw [Nat.zero_add]; try rfl) ?_)
 refine HC.out.mono ?_;rintro _ w2 ⟨rfl,hb2⟩;have hs2:=hb2.size;have hx:=HX.out.size;have HB2:=Lib.hid (HX.out.trans (hb2.mono hx));have HK2:=Lib.hid (HK.out.below' hb2);have HO2:=Lib.hid (HO.out.below' hb2);have HR2:=Lib.hid (HR1.out.below (hb2.mono hx));clear hb2 HC HX HK HO HR1;have HNO:=Lib.hid (QaY z w2);by_cases hnode:1<=z/\z<=28
 ·rw [decide_eq_true hnode] at HNO;have hs12:=HB2.out.size;have HH:=Lib.hid (Q4Z f A n c l o w2 (HR2.out.more hs12) HOK.out);rw [<- HDD.out] at HH;go_wp2_with fail
  refine HNO.out.mono ?_;rintro _ _ ⟨rfl,rfl⟩;go_wp2_with (refine Q03 (o:=⟨some 21,_,_,_,_,_⟩) rfl 77 (.tmp 3) rfl g 0 2 rfl 77 _ D _ HK2.out Tryz.underlying77 rfl rfl hsz (fun _ _=>by rw [Nat.zero_add]; try rfl) ?_)
  refine HH.out.mono ?_;rintro _ w3 ⟨rfl,hb3⟩;have hs3:=hb3.size;have HB3:=Lib.hid (HB2.out.trans (hb3.mono hs12));have HK3:=Lib.hid (HK2.out.below' hb3);have HO3:=Lib.hid (HO2.out.below' hb3);have HR3:=Lib.hid (HR2.out.below (hb3.mono hs12));clear hb3 HH HB2 HK2 HO2 HR2 HNO;by_cases hin:o∈l
  ·have hs13:=HB3.out.size;have HH:=Lib.hid (Q4Z f A n c l z w3 (HR3.out.more hs13) HOK.out);rw [<- HDD.out] at HH;rw [decide_eq_true hin];go_wp2_with (first
    | (refine Q03 (o:=⟨some 26,_,_,_,_,_⟩) rfl 77 (.tmp 3) rfl g 0 2 rfl 77 _ D _ HK3.out Tryz.underlying77 rfl rfl hsz (fun _ _=>by rw [Nat.zero_add]; try rfl) ?_)
    | (refine Q1I (o:=⟨some 26,_,_,_,_,_⟩) rfl 77 (.tmp 3) rfl g 0 2 rfl 77 _ D _ HK3.out Tryz.underlying77 rfl rfl hsz (fun _ _=>by rw [Nat.zero_add]; try rfl) ?_))
   refine HH.out.mono ?_;rintro _ w4 ⟨rfl,hb4⟩;have hs4:=hb4.size;have HB4:=Lib.hid (HB3.out.trans (hb4.mono hs13));have HK4:=Lib.hid (HK3.out.below' hb4);have HO4:=Lib.hid (HO3.out.below' hb4);have HR4:=Lib.hid (HR3.out.below (hb4.mono hs13));clear hb4 HH HB3 HK3 HO3 HR3;by_cases hzin:z∈l
   ·rw [decide_eq_true hzin];have hbad:¬ Q3v l o z:=fun h=>h.2.1 hzin
    go_wp2_with (refine Q01 (o:=⟨none,_,_,_,_,_⟩) rfl 77 (.tmp 6) (.tmp 30) rfl g6 0 (crC 0 none 0 0) rfl rfl 77 _ HO4.out (Q1V _ _ _ _) (by simp [crC]) (Q1p _ _ _ _) ?_; intro w7 hT7 hD7; rw [Q3d] at hD7)
    refine bodyPost_ret (Q0b rfl _ _ g6 2 77 _ _ rfl hD7 Tryz.underlying77 rfl rfl rfl) rfl ⟨hT7.below HB4.out hgw6,fun h=>absurd h hbad,fun _=>⟨110,by omega,rfl⟩⟩
   ·rw [decide_eq_false hzin];have hgood:Q3v l o z:=⟨hin,hzin,hnode.1,hnode.2⟩;go_upto_region 8 with fail
    have hs14:=HB4.out.size;have HOT:=Lib.hid (fun(W:World) (hb:Only (fun b=>b=g6) w4 W)=>QbU f A n c l o W ((HR4.out.below (hb.below hs14 fun b hb' e=>by omega)).more (by have:=hb.size; omega)) HOK.out hin);rw [<- HDD.out] at HOT;have hbs:∀ (ty:TypeId) (W:World),True:=fun _ _=>trivial
    obtain⟨i0,hi0,hz0,hz1,hz2⟩:=info_parts Q3I;have hdl:(Q24 l o).length+1=n:=by have:=Q5o l o HOK.out.pair hin; have:=HZN.out; omega
    have hok2:=HOK.out.repl hin hzin hnode.1 hnode.2;have hpd:=Q7t o HOK.out.pair;have hnd:¬ z∈Q24 l o:=fun hm=>hzin (Q43.1 hm).1
    have HOK2:=Lib.hid hok2;have HPD:=Lib.hid hpd;have HND:=Lib.hid hnd;obtain⟨dl,hdle⟩:∃ dl,dl=Q24 l o:=⟨_,rfl⟩;have HDLE:=Lib.hid hdle;unfold Q1N at HOK2;rw [<- hdle] at HOT hdl HPD HND HOK2;obtain⟨k,hk⟩:∃ k,k=dl.length:=⟨_,rfl⟩;rw [<- hk] at HOT hdl;have HKK:=Lib.hid hk;have HDL:=Lib.hid hdl;clear hok2 hpd hnd hdle hk hdl;refine Q1Z 13 42 (fun jx W v=>match jx with | 0=>v=.pointer (some ⟨g,0,none⟩) | 1=>v=.int .i64 (f:Int) | 2=>v=.agg D | 3=>v=.int .i64 o | 4=>∃ g2 cap y,v=.slice (some ⟨g2,0,none⟩) k cap/\w4.heap.size<=g2/\RowN W g2 cap (dl++[y]) | 5=>v=.int .i64 z | 6=>∃ g9,v=.slice (some ⟨g9,0,none⟩) 1 1/\w4.heap.size<=g9/\Blk W g9 3 #[.int .i64 z] | 7=>∃ g2 cap,v=.slice (some ⟨g2,0,none⟩) n cap/\w4.heap.size<=g2/\RowN W g2 cap (dl++[z]) | 8=>∃ A' c',v=.tuple #[.agg (crC f A' n c'),.int .i64 0]/\OwnN W w4.heap.size (.slice A' n c') (insL z dl) | 9=>∃ A' c',v=.agg (crC f A' n c')/\OwnN W w4.heap.size (.slice A' n c') (insL z dl) | 10=>v=.int .i64 0 | 11=>True | _=>v=.int .i64 0) (RpSt w4 g6 f n (insL z dl)) (fun W W'=>QbW dl z W W'\/Q0c g6 W W') [7,11] [31,32,33,34,35,36,37,38,39,40,41,7] (by kernel_rfl) (by kernel_rfl) (by kernel_rfl) (by kernel_rfl) (by simp) (by kernel_rfl) (fun jx=>?last) ?lastR (fun s W W' h1 h2=>h1.below h2) ⟨Only.refl _ _,fun _=>HO4.out,fun h=>by omega⟩ ?heads ?_
    case last =>
     match jx with
     | 0 | 1 | 2 | 3 | 5 | 10 | 11 | jx+12=>exact Q16.pure _
     | 4=>exact fun W W' v ⟨g2,cap,y,h1,h2,h3⟩ hb=>⟨g2,cap,y,h1,h2,h3.below hb h3.lt⟩
     | 6=>exact fun W W' v ⟨g9,h1,h2,h3⟩ hb=>⟨g9,h1,h2,h3.below' hb⟩
     | 7=>exact fun W W' v ⟨g2,cap,h1,h2,h3⟩ hb=>⟨g2,cap,h1,h2,h3.below hb h3.lt⟩
     | 8 | 9=>exact fun W W' v ⟨A',c',h1,h2⟩ hb=>⟨A',c',h1,h2.below_ hb⟩
    case lastR =>
     intro s jx W W' v hsl hs hj hp hR;have hg6w:g6<w4.heap.size:=HO4.out.lt;match jx with
     | 0 | 1 | 2 | 3 | 5 | 10 | 11 | jx+12=>exact hp
     | 4 =>
      obtain⟨g2,cap,y,h1,h2,h3⟩:=hp;rcases hR with hR | hR
      ·obtain⟨y',h4⟩:=h3.put hR;exact⟨g2,cap,y',h1,h2,h4⟩
      ·exact⟨g2,cap,y,h1,h2,h3.keep (hR.block g2 (by omega))⟩
     | 6 =>
      obtain⟨g9,h1,h2,h3⟩:=hp;rcases hR with hR | hR
      ·exact⟨g9,h1,h2,one_put h3 hR⟩
      ·exact⟨g9,h1,h2,(hR.block g9 (by omega)).trans h3⟩
     | 7 =>
      obtain⟨g2,cap,h1,h2,h3⟩:=hp;rcases hR with hR | hR
      ·exact⟨g2,cap,h1,h2,h3.putz hR⟩
      ·exact⟨g2,cap,h1,h2,h3.keep (hR.block g2 (by omega))⟩
     | 8 | 9 =>
      obtain⟨A',c',h1,h2⟩:=hp;rcases hR with hR | hR
      ·exact⟨A',c',h1,own_put HND.out h2 hR⟩
      ·exact⟨A',c',h1,h2.keep_ fun b hb=>hR.block b (fun e=>by have:=h2.ge_ hb; omega)⟩
    case heads =>
     simp only [List.take_succ_cons,List.take_zero];refine⟨?_,?_,?_,?_,?_,?_,?_,?_,?_,?_,?_,?_,?_,trivial⟩
     ·rw [if_neg (by decide)];intro s a W hj hkp hd;have e0:a.tmps[3]?.getD undef=.pointer (some ⟨g,0,none⟩):=hkp.get (by kernel_rfl) rfl;exact Q00 rfl _ (by go_simp) rfl
     ·rw [if_neg (by decide)];intro s a W hj hkp hd;have e0:(_:Value)=.pointer (some ⟨g,0,none⟩):=(hd 0 (by kernel_rfl)).get 31 rfl rfl;have cc:W.cell? ⟨g,0,none⟩=some (.int .i64 (f:Int)):=((hj.only.blk HK4.out hgg).cell 0).trans C0.out;exact Q00 rfl _ (by go_simp) rfl
     ·rw [if_neg (by decide)];intro s a W hj hkp hd;have e0:a.eval (.tmp 3)=.pointer (some ⟨g,0,none⟩):=by have:=hkp.at_ (d:=3) (by kernel_rfl); rw [this]; rfl
      exact Q00 rfl (.agg D) (Q0m 77 (.tmp 3) rfl g 0 2 e0 77 _ D _ (hj.only.blk HK4.out hgg) Tryz.underlying77 rfl rfl hsz (fun _ _=>by rw [Nat.zero_add])) rfl
     ·rw [if_neg (by decide)];intro s a W hj hkp hd;have e0:a.tmps[1]?.getD undef=.int .i64 o:=hkp.get (by kernel_rfl) rfl;exact Q00 rfl _ (by go_simp) rfl
     ·rw [if_neg (by decide)];intro s a W hj hkp hd;have e0:(_:Value)=.agg D:=(hd 2 (by kernel_rfl)).get 33 rfl rfl;have e1:(_:Value)=.int .i64 o:=(hd 3 (by kernel_rfl)).get 34 rfl rfl;refine Q0w rfl 146 #[.agg D,.int .i64 o] (by go_simp) ((HOT.out W hj.only).mono ?_);rintro e w' ⟨v,rfl,⟨g2,cap,rfl,hg2,hr⟩,hb⟩;exact⟨_,rfl,hb,g2,cap,0,rfl,by have:=hj.only.size; omega,hr⟩
     ·rw [if_neg (by decide)];intro s a W hj hkp hd;have e0:a.tmps[2]?.getD undef=.int .i64 z:=hkp.get (by kernel_rfl) rfl;exact Q00 rfl _ (by go_simp) rfl
     ·rw [if_neg (by decide)];intro s a W hj hkp hd;have e0:(_:Value)=.int .i64 z:=(hd 5 (by kernel_rfl)).get 36 rfl rfl;exact Q21 rfl (.slice (some ⟨W.heap.size,0,none⟩) 1 1) (W.alloc (.cells #[.int .i64 z] 3)) (by go_simp) (Q07 _ _) ⟨W.heap.size,rfl,hj.only.size,Blk.new W _ _⟩
     ·rw [if_pos (by decide)];intro s a W hs hj hkp hd;obtain⟨g2,cap,y,e35,hg2,hr2⟩:=(hd 4 (by kernel_rfl)).get 35 rfl rfl;obtain⟨g9,e37,hg9,hr9⟩:=(hd 6 (by kernel_rfl)).get 37 rfl rfl;have e35':a.eval (.tmp 35)=.slice (some ⟨g2,0,none⟩) k cap:=by simpa [Act.eval] using e35
      have e37':a.eval (.tmp 37)=.slice (some ⟨g9,0,none⟩) 1 1:=by simpa [Act.eval] using e37
      have hcp:=hr2.cap.1;rw [List.length_append,List.length_singleton,<- HKK.out] at hcp;have hkn:k+1=n:=HDL.out;have hk2:k<(dl++[y]).length:=by rw [List.length_append,<- HKK.out]; simp
      have happ:∀ ty,(Builtin.append_ #[42,42] ty #[.slice (some ⟨g2,0,none⟩) k cap,.slice (some ⟨g9,0,none⟩) 1 1]).run Tryz.prog W=.ok (.slice (some ⟨g2,0,none⟩) n cap) (W.setCell ⟨g2,k,none⟩ (.int .i64 z)):=fun ty=>by
       have:=run_append_room_cells (P:=Tryz.prog) W 42 ty 3 i0 Tryz.underlying42 hi0 g2 0 k cap ⟨g9,0,none⟩ 1 1 [.int .i64 z] (by rw [hz1]; rfl) (fun j u hu=>by
        match j,hu with
        | 0,hu=>rw [<- hu]; exact(hr9.cell 0).trans rfl) (fun u hu=>by rw [List.mem_singleton.1 hu]; rfl) (by omega) (fun j hj=>by
         obtain rfl:j=0:=by simpa using hj
         rw [hz1,Nat.zero_add,Nat.mul_one,Nat.add_zero,hr2.at_ hk2]; rfl) (fun j hj=>hr2.frozen _)
       rw [hz1,Nat.zero_add,Nat.mul_one,hkn] at this;simpa [World.setCells] using this
      have hput:QbW dl z W (W.setCell ⟨g2,k,none⟩ (.int .i64 z)):=⟨g2,cap,y,hr2,by rw [<- HKK.out]⟩;have hset:=hr2.set_ hk2 z;rw [List.set_append,if_neg (by rw [<- HKK.out]; omega),<- HKK.out,Nat.sub_self] at hset;exact Q97 rfl (.slice (some ⟨g2,0,none⟩) n cap) (W.setCell ⟨g2,k,none⟩ (.int .i64 z)) (Q72 (s:=.tmp 35) (x:=.tmp 37) rfl e35' e37' (happ _)) (.inl hput) (hj.put (by omega) (by have:=HO4.out.lt; omega) (by have:=(List.getElem?_eq_some_iff.1 hs).1; simp at this; match s,hs,this with | 0,_,_=>rfl | 1,hs,_=>cases hs)) ⟨g2,cap,rfl,hg2,hset⟩
     ·rw [if_neg (by decide)];intro s a W hj hkp hd;have e0:(_:Value)=.int .i64 (f:Int):=(hd 1 (by kernel_rfl)).get 32 rfl rfl;obtain⟨g2,cap,e1,hg2,hr2⟩:=(hd 7 (by kernel_rfl)).get 38 rfl rfl;have hlen:(dl++[z]).length=n:=by rw [List.length_append,<- HKK.out]; exact HDL.out
      have hrd:=hr2.reads;rw [hlen] at hrd;refine Q0w rfl 145 #[.int .i64 (f:Int),.slice (some ⟨g2,0,none⟩) n cap] (by go_simp) ((Qc7 f (some ⟨g2,0,none⟩) n cap dl z W W.heap.size hrd (Nat.le_refl _) HPD.out HND.out HOK2.out).mono ?_);rintro e w' ⟨A',c',rfl,how,hb⟩;have hln:(insL z dl).length=n:=by rw [Q3U,<- HKK.out]; exact HDL.out
      exact⟨_,rfl,hb,A',c',by rfl,OwnN.more how hj.only.size⟩
     ·rw [if_neg (by decide)];intro s a W hj hkp hd;obtain⟨A',c',e0,how⟩:=(hd 8 (by kernel_rfl)).get 39 rfl rfl;exact Q00 rfl (.agg (crC f A' n c')) (by go_simp) ⟨A',c',rfl,how⟩
     ·rw [if_neg (by decide)];intro s a W hj hkp hd;obtain⟨A',c',e0,how⟩:=(hd 8 (by kernel_rfl)).get 39 rfl rfl;exact Q00 rfl _ (by go_simp) rfl
     ·rw [if_pos (by decide)];intro s a W hs hj hkp hd;obtain⟨A',c',e0,how⟩:=(hd 9 (by kernel_rfl)).get 40 rfl rfl;have e6:a.eval (.tmp 6)=.pointer (some ⟨g6,0,none⟩):=by have:=hkp.at_ (d:=6) (by kernel_rfl); rw [this]; rfl
      have e40:a.eval (.tmp 40)=.agg (crC f A' n c'):=by simpa [Act.eval] using e0
      obtain rfl:s=1:=by
       have:=(List.getElem?_eq_some_iff.1 hs).1;simp at this;match s,hs,this with
       | 0,hs,_=>cases hs
       | 1,_,_=>rfl
      refine Q5G rfl 77 (.tmp 6) (.tmp 40) rfl g6 0 (crC f A' n c') e6 e40 77 _ (hj.zero (by omega)) (Q1V _ _ _ _) (by simp [crC]) (Q1p _ _ _ _) (fun W' hT hD=>⟨.inr hT,?_,trivial⟩);rw [Q3d] at hD;exact⟨hj.only.trans (Only.of_turned hT rfl),fun h=>by omega,fun _=>⟨A',c',hD,how.keep_ fun b hb=>hT.block b (fun e=>by have:=how.ge_ hb; have:=HO4.out.lt; omega)⟩⟩
     ·rw [if_neg (by decide)];intro s a W hj hkp hd;have e0:(_:Value)=.int .i64 0:=(hd 10 (by kernel_rfl)).get 41 rfl rfl;exact Q00 rfl _ (by go_simp) rfl
    intro fv W hj hd;have h7:fv 7=.int .i64 0:=hd 12 (by omega) _ 7 rfl rfl;obtain⟨A',c',hB6,how⟩:=hj.done rfl;have HBW:=Lib.hid (HB4.out.trans (hj.only.below (B:=w.heap.size) hs14 fun b hb e=>by omega));have HRL:=Lib.hid (show insL z dl=Q1N l o z by rw [HDLE.out]; rfl);obtain⟨E,hE⟩:∃ E,E=crC f A' n c':=⟨_,rfl⟩;have hEs:E.size=2:=by rw [hE]; rfl
    rw [<- hE] at hB6;have HB6:=Lib.hid hB6;have HOW:=Lib.hid how;have HE:=Lib.hid hE;simp only [Q0H,List.drop_succ_cons,List.drop_nil,List.drop_zero,h7];clear hd hj hB6 how h7 HOT HK4 HO4 HR4 hE;try simp only [Act.put,sA1,sA2,sA3]
    go_wp2_with fail
    refine bodyPost_ret (Q0b rfl _ _ g6 2 77 _ _ rfl HB6.out Tryz.underlying77 rfl rfl hEs) rfl ⟨HBW.out,fun _=>⟨A',n,c',by rw [HE.out]; rfl,?_⟩,fun h=>absurd hgood h⟩;have ho:=HOW.out;rw [HRL.out] at ho;exact OwnN.more ho hs14
  ·rw [decide_eq_false hin];have hbad:¬ Q3v l o z:=fun h=>hin h.1
   go_wp2_with (refine Q01 (o:=⟨none,_,_,_,_,_⟩) rfl 77 (.tmp 6) (.tmp 30) rfl g6 0 (crC 0 none 0 0) rfl rfl 77 _ HO3.out (Q1V _ _ _ _) (by simp [crC]) (Q1p _ _ _ _) ?_; intro w7 hT7 hD7; rw [Q3d] at hD7)
   refine bodyPost_ret (Q0b rfl _ _ g6 2 77 _ _ rfl hD7 Tryz.underlying77 rfl rfl rfl) rfl ⟨hT7.below HB3.out hgw6,fun h=>absurd h hbad,fun _=>⟨110,by omega,rfl⟩⟩
 ·rw [decide_eq_false hnode] at HNO;have hbad:¬ Q3v l o z:=fun h=>hnode h.2.2
  go_wp2_with fail
  refine HNO.out.mono ?_;rintro _ _ ⟨rfl,rfl⟩;go_wp2_with (refine Q01 (o:=⟨none,_,_,_,_,_⟩) rfl 77 (.tmp 6) (.tmp 19) rfl g6 0 (crC 0 none 0 0) rfl rfl 77 _ HO2.out (Q1V _ _ _ _) (by simp [crC]) (Q1p _ _ _ _) ?_; intro w7 hT7 hD7; rw [Q3d] at hD7)
  refine bodyPost_ret (Q0b rfl _ _ g6 2 77 _ _ rfl hD7 Tryz.underlying77 rfl rfl rfl) rfl ⟨hT7.below HB2.out hgw6,fun h=>absurd h hbad,fun _=>⟨2,by omega,rfl⟩⟩
end
section
open Go.RowKit
theorem Q04 {o:Oper} {ops:Array Oper} {tm:Array Value} {j d:Nat} {b:Bool} (hg:o.guard=some (j,b)) (hd:(ops[j]?).bind (·.dst)=some d) (he:tm[d]?.getD undef=.bool b):Region.wanted o (yielded ops tm)=true:=by
 unfold Region.wanted yielded;rw [hg];simp only [hd,Option.bind_some];cases ht:tm[d]? with
 | none=>rw [ht] at he; simp [undef] at he
 | some v =>
  rw [ht] at he;simp only [Option.getD_some] at he;subst he
  simp
end
end Go.Proofs.YtcpngeiahgoacaaGreat
