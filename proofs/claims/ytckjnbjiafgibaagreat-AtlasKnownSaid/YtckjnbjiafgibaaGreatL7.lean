/- Parts of the proof, in one text. -/
import Derived.Test.YtckjnbjiafgibaaGreatL6
import Derived.Lib.SliceRun
import Derived.Test.YtckjnbjiafgibaaGreatL1
import Derived.Test.YtckjnbjiafgibaaGreatL4
import Derived.Laws.StructEq
import Derived.Laws.IdiomStrings
import Derived.Laws.BytesArg
import Derived.Deep.DeepCutAuto
import Derived.Test.YtckjnbjiafgibaaGreatL5
namespace Go.Proofs.YtckjnbjiafgibaaGreat
set_option linter.unusedVariables false
set_option linter.unusedSimpArgs false
set_option maxRecDepth 100000
set_option maxHeartbeats 16000000
open _root_.Array renaming getElem?_toList->zV
open _root_.Go renaming Addr->zA,World->zB,Value->zC,Calls->zI
open _root_.Go.Proofs.Tryz renaming prog->zK
open _root_.Go.RowKit renaming Below->zE
open _root_.Go.RowKit.Below renaming heap_setCell->zG
open _root_.Go.Value renaming ownBlock->zH
open _root_.Go.World renaming block_lt_of_cell?->zT,alloc->za
open _root_.List renaming getElem?_eq_getElem->zD,getElem?_map->zJ,length_append->zM,getElem_mem->zN,append_assoc->zO,getElem?_append_left->zP,getElem?_take->zQ,getElem?_append_right->zR,take_of_length_le->zU,length_set->zW,take_succ_eq_append_getElem->zX,length_take->zY,drop_eq_getElem_cons->zZ
open _root_.Nat renaming lt_or_ge->zF,le_refl->zL,zero_add->zS
section
open Go.RowKit Go.Maps
attribute [local irreducible] wpList Q0c
structure RowN (w:zB) (g cap:Nat) (zs:List Int):Prop where
 row:∃ cur:Array zC,Blk w g 3 cur/\cur.size=cap/\cur.toList.take zs.length=zs.map vn
 cap:zs.length<=cap/\cap<=maxLen
theorem RowN.of_own {w:zB} {B:Nat} {v:zC} {zs:List Int} (h:OwnN w B v zs) (h0:0<zs.length):∃ g cap,v=.slice (some ⟨g,0,none⟩) zs.length cap/\B<=g/\RowN w g cap zs:=by
 rcases h.2 with⟨_,h1⟩ | ⟨g,cap,cur,hv,h2,h3,h4,h5,h6,h7⟩
 ·omega
 exact⟨g,cap,hv,h2,⟨⟨cur,h3,by omega,by simpa using h7⟩,h4,h5⟩⟩
theorem RowN.lt {w:zB} {g cap:Nat} {zs:List Int} (h:RowN w g cap zs):g<w.heap.size:=by obtain⟨cur,h1,_⟩:=h.row;exact h1.lt
theorem RowN.keep {w w':zB} {g cap:Nat} {zs:List Int} (h:RowN w g cap zs) (hk:w'.heap[g]?=w.heap[g]?):RowN w' g cap zs:=by obtain⟨cur,h1,h2⟩:=h.row;exact⟨⟨cur,hk.trans h1,h2⟩,h.cap⟩
theorem RowN.below {w w':zB} {B g cap:Nat} {zs:List Int} (h:RowN w g cap zs) (hb:zE B w w') (hg:g<B):RowN w' g cap zs:=h.keep (hb.block g hg)
theorem RowN.own {w:zB} {B g cap:Nat} {zs:List Int} (h:RowN w g cap zs) (hB:B<=g):OwnN w B (.slice (some ⟨g,0,none⟩) zs.length cap) zs:=by obtain⟨cur,h1,h2,h3⟩:=h.row;exact⟨by simp,.inr ⟨g,cap,cur,rfl,hB,h1,h.cap.1,h.cap.2,by omega,by simpa using h3⟩⟩
theorem RowN.at_ {w:zB} {g cap:Nat} {zs:List Int} (h:RowN w g cap zs) {i:Nat} (hi:i<zs.length):w.cell? ⟨g,i,none⟩=some (.int .i64 zs[i]):=by
 obtain⟨cur,h1,h2,h3⟩:=h.row;rw [h1.cell,<- zV];have:(cur.toList.take zs.length)[i]?=some (.int .i64 zs[i]):=by rw [h3,zJ,zD hi]; rfl
 rw [zQ,if_pos hi] at this;exact this
theorem RowN.frozen {w:zB} {g cap:Nat} {zs:List Int} (h:RowN w g cap zs) (i:Nat):w.frozen? ⟨g,i,none⟩=false:=by obtain⟨cur,h1,_⟩:=h.row;exact h1.frozen i
theorem RowN.set_ {w:zB} {g cap:Nat} {zs:List Int} (h:RowN w g cap zs) {i:Nat} (hi:i<zs.length) (z:Int):RowN (w.setCell ⟨g,i,none⟩ (.int .i64 z)) g cap (zs.set i z):=by obtain⟨cur,h1,h2,h3⟩:=h.row;refine⟨⟨_,h1.set_ i _,by simp [h2],?_⟩,by rw [zW]; exact h.cap⟩;rw [zW,Array.toList_setIfInBounds,List.take_set,h3];rw [List.map_set];rfl
theorem RowN.reads {w:zB} {g cap:Nat} {zs:List Int} (h:RowN w g cap zs):Q04 w w.heap.size 1 (some ⟨g,0,none⟩) zs.length (zs.map vn):=(OwnN.reads' (h.own (Nat.zero_le _)))
where OwnN.reads' {w:zB} {B g cap:Nat} {zs:List Int} (h:OwnN w B (.slice (some ⟨g,0,none⟩) zs.length cap) zs):Q04 w w.heap.size 1 (some ⟨g,0,none⟩) zs.length (zs.map vn):=Q04.of_own h
theorem Q5G (b:Nat) (x o:Int) (w:zB) (hc:w.cell? ⟨b,0,none⟩=some (.int .i64 o)) :
 zI zK 109 #[.int .i64 x,.pointer (some ⟨b,0,none⟩)] w fun e w'=>e=.returned (.bool (decide (x=o)))/\w=w':=by
 by_cases h:x=o
 ·subst h;go_enter Tryz.func109,Tryz.ntmps109
  go_wp2
  go_ret
  exact⟨Q0C (by simp),rfl⟩
 have hx:(x == o)=false:=by simpa using h
 rw [decide_eq_false h];go_enter Tryz.func109,Tryz.ntmps109
 go_wp2
 go_ret
 exact⟨rfl,rfl⟩
theorem Q9M (g cap b n:Nat) (p q:List Int) (o:Int) (w:zB) (h:RowN w g cap (p++o :: q)) (hn:n=(p++o :: q).length) (hp:¬ o∈p) (hb:w.cell? ⟨b,0,none⟩=some (.int .i64 o)) (hn2:n<=1000000) :
 zI zK 121 #[.slice (some ⟨g,0,none⟩) n cap,.func (.func 109) #[] #[.pointer (some ⟨b,0,none⟩)]] w fun e w'=>e=.returned (.int .i64 (p.length:Int))/\w=w':=by
 have HR:=sH h;have HN:=sH hn;have HO:=sH (fun x=>Q5G b x o w hb);have HP:=sH hp;have hpl:p.length<n:=by rw [hn,zM]; simp
 clear h hn hp hb;go_enter Tryz.func121,Tryz.ntmps121
 go_wp2_with fail
 go_loopw [5,8] (fun _ iv wr=>∃ i:Nat,i<=p.length/\iv=.int .i64 i/\w=wr) (fun _ iv _=>p.length - (intOf iv).toNat)
 case atStart=>exact⟨0,by omega,rfl,rfl⟩
 obtain⟨i,hi,rfl,rfl⟩:=hrel;have hin:i<n:=by omega
 have hinI:(i:Int)<(n:Int):=by omega
 have hil:i<(p++o :: q).length:=by have:=HN.out; omega
 have hcell:=HR.out.at_ hil;by_cases hlt:i<p.length
 ·have hz:(p++o :: q)[i]=p[i]:=List.getElem_append_left hlt;rw [hz] at hcell;have hne:¬ p[i]=o:=fun e=>HP.out (e▸zN hlt)
  generalize p[i]=z at hcell hne;have HC:=sH (HO.out z);rw [decide_eq_false hne] at HC;clear hz;go_wp2_with fail
  refine HC.out.mono ?_;rintro _ _ ⟨rfl,rfl⟩;go_wp2_with fail
  go_roundw
  case rel=>exact⟨i+1,by omega,by go_num,trivial⟩
  case measure=>simp [intOf]; omega
 obtain rfl:i=p.length:=by omega
 have hz:(p++o :: q)[p.length]=o:=by rw [List.getElem_append_right (zL _)]; simp
 rw [hz] at hcell;have HC:=sH (HO.out o);rw [decide_eq_true rfl] at HC;clear hz;go_wp2_with fail
 refine HC.out.mono ?_;rintro _ _ ⟨rfl,rfl⟩;go_wp2_with fail
 go_ret
 exact⟨rfl,rfl⟩
theorem Q8v (g cap b n:Nat) (p q:List Int) (o:Int) (w:zB) (h:RowN w g cap (p++o :: q)) (hn:n=(p++o :: q).length) (hp:¬ o∈p) (hq:¬ o∈q) (hb:w.cell? ⟨b,0,none⟩=some (.int .i64 o)) (hbg:b≠g) (hn2:n<=1000000) :
 zI zK 108 #[.slice (some ⟨g,0,none⟩) n cap,.func (.func 109) #[] #[.pointer (some ⟨b,0,none⟩)]] w fun e w'=>e=.returned (.slice (some ⟨g,0,none⟩) (p++q).length cap)/\RowN w' g cap (p++q++[0])/\Only (fun b=>b=g) w w':=by
 have HI:=sH (Q9M g cap b n p q o w h hn hp hb hn2);have HR:=sH h;have HN:=sH hn;have HB:=sH hb;have HQ:=sH hq;obtain⟨pl,hpl⟩:∃ k,k=p.length:=⟨_,rfl⟩;have hnl:n=pl+1+q.length:=by rw [hn,zM,List.length_cons,hpl]; omega
 rw [<- hpl] at HI;have HPL:=sH hpl;obtain⟨z0,hz0,hz1,hz2⟩:=info_parts Q4f;have hm1:((pl:Int) == -1)=false:=by rw [beq_eq_false_iff_ne]; omega
 have HNL:=sH hnl;have hnp:pl<n:=by omega
 obtain⟨pq,hpq⟩:∃ k,k=(p++q).length:=⟨_,rfl⟩;rw [<- hpq];have HPQ:=sH hpq;clear h hn hp hq hb hpl hnl hpq;go_enter Tryz.func108,Tryz.ntmps108
 go_wp2_with fail
 refine HI.out.mono ?_;rintro _ _ ⟨rfl,rfl⟩;clear HI;go_wp2_with fail
 go_loopw [5,6,7] (fun iv jv _ wr=>∃ (k m m2:Nat),m=pl+k/\m2=m+1/\k<=q.length/\iv=.int .i64 (m:Int)/\jv=.int .i64 (m2:Int)/\(∃ x,RowN wr g cap (p++q.take k++x :: q.drop k))/\Only (fun b=>b=g) w wr) (fun _ jv _ _=>n - (intOf jv).toNat)
 case atStart=>exact⟨0,pl,pl+1,by omega,by omega,by omega,rfl,by go_num,⟨o,by simpa using HR.out⟩,Only.refl _ _⟩
 obtain⟨k,m,m2,hm,hm2,hk,rfl,rfl,⟨x,hrow⟩,hon⟩:=hrel;have HROW:=sH hrow;have HON:=sH hon;have HPL1:=HPL.out;have hnl:=HNL.out;have htk:(q.take k).length=k:=by rw [zY]; omega
 have hll:(p++q.take k++x :: q.drop k).length=n:=by rw [zM,zM,List.length_cons,List.length_drop,htk]; omega
 have hg:=hrow.lt;by_cases hlt:k<q.length
 ·have hjI:(m2:Int)<(n:Int):=by omega
  have h0I:(0:Int)<=(m2:Int):=by omega
  have hz:(p++q.take k++x :: q.drop k)[m2]'(by omega)=q[k]:=by
   rw [List.getElem_append_right (by rw [zM,htk]; omega)];have:m2 - (p++q.take k).length=1:=by rw [zM,htk]; omega
   simp only [this,List.getElem_cons_succ,List.getElem_drop]
   simp
  have hcell:=HROW.out.at_ (i:=m2) (by omega);rw [hz] at hcell;have hne:¬ q[k]=o:=fun e=>HQ.out (e▸zN hlt)
  have hset:=HROW.out.set_ (i:=m) (by omega) q[k];have hse:(p++q.take k++x :: q.drop k).set m q[k]=p++q.take (k+1)++q[k] :: q.drop (k+1):=by
   rw [List.set_append,if_neg (by rw [zM,htk]; omega)];have:m - (p++q.take k).length=0:=by rw [zM,htk]; omega
   rw [this,List.set_cons_zero,zZ hlt,zX hlt];simp only [zO,List.singleton_append]
  rw [hse] at hset;have hfz:=HROW.out.frozen m;have hob:w.cell? ⟨b,0,none⟩=some (.int .i64 o):=HB.out;have hlb:=zT _ _ hob;have hcb:wr.cell? ⟨b,0,none⟩=some (.int .i64 o):=(HON.out.cell hlb hbg).trans hob;have HC:=sH (Q5G b q[k] o wr hcb);rw [decide_eq_false hne] at HC;have hmI:(m:Int)<(n:Int):=by omega
  have hm0:(0:Int)<=(m:Int):=by omega
  have hcm:=HROW.out.at_ (i:=m) (by omega);generalize (p++q.take k++x :: q.drop k)[m]=y at hcm;generalize hqk:q[k]=z at hcell hset HC;have HSET:=sH hset;have HON2:=sH (HON.out.trans (Only.of_turned (N:=fun b=>b=g) (Q06.setCell wr ⟨g,m,none⟩ (.int .i64 z)) rfl));have HM:=sH hm;have HM2:=sH hm2;have hmn1:m2<=n:=by omega
  clear hrow hon hset hse hz hne hqk hob hcb hnl HPL1 htk hll hm hm2;go_wp2_with fail
  refine HC.out.mono ?_;rintro _ _ ⟨rfl,rfl⟩;clear HC;go_wp2_with fail
  go_roundw
  case rel=>exact⟨k+1,m+1,m2+1,by have:=HM.out; omega,by have:=HM2.out; omega,by omega,by go_num,by go_num,⟨z,HSET.out⟩,HON2.out⟩
  case measure=>simp [intOf]; omega
 obtain rfl:k=q.length:=by omega
 have hjI:¬ (m2:Int)<(n:Int):=by omega
 have hpq:(p++q.take q.length++x :: q.drop q.length)=(p++q)++[x]:=by simp
 rw [hpq] at hrow hll;have hcx:=hrow.at_ (i:=m) (by omega);have hfz:=hrow.frozen m;have hset:=hrow.set_ (i:=m) (by omega) 0;have hse:((p++q)++[x]).set m 0=(p++q)++[0]:=by
  rw [List.set_append,if_neg (by rw [zM]; omega)];have:m - (p++q).length=0:=by rw [zM]; omega
  rw [this]; rfl
 rw [hse] at hset;have HPRE:=sH hset;have hcap1:=hrow.cap.1;rw [hll] at hcap1;have hcap2:¬ cap=m:=by omega
 have hmn:n - m=1:=by omega
 have hnm:n=m+1:=by omega
 have hlen:pq=m:=by rw [HPQ.out,zM]; omega
 have HON2:=sH (HON.out.trans (Only.of_turned (N:=fun b=>b=g) (Q06.setCell wr ⟨g,m,none⟩ (.int .i64 0)) rfl));have hcl:∀ ty,(Builtin.clear_ #[29] ty #[.slice (some ⟨g,m,none⟩) 1 (cap - m)]).run zK wr=.ok (.tuple #[]) (wr.setCell ⟨g,m,none⟩ (.int .i64 0)):=fun ty=>by
  have:=Lib.run_clear_slice (P:=zK) wr 29 3 ty (.int .i64 0) Tryz.underlying29 (fun w=>Tryz.zeroValue3 w) rfl rfl g m 1 (cap - m) (by omega) (fun j hj=>by
   obtain rfl:j=0:=by omega
   rw [Nat.add_zero,hcx]; rfl) (fun j hj=>by
   obtain rfl:j=0:=by omega
   rw [Nat.add_zero]; exact hfz)
  simpa [World.setCells] using this
 clear hrow hset hse hcx hpq hon hnl HPL1 htk hll hm hm2;subst hlen hnm;go_wp2_with fail
 go_ret
 exact⟨rfl,by first | exact HPRE.out | (rw [<- zO]; exact HPRE.out),HON2.out⟩
theorem Q8q {zs:List Int} {o:Int} (hp:zs.Pairwise (· < ·)) (ho:o∈zs):∃ p q,zs=p++o :: q/\¬ o∈p/\¬ o∈q/\Q3x zs o=p++q:=by
 obtain⟨p,q,rfl⟩:=List.append_of_mem ho;have h:=List.pairwise_append.1 hp;have h2:=List.pairwise_cons.1 h.2.1;have hnp:¬ o∈p:=fun e=>by have:=h.2.2 o e o (List.mem_cons_self ..); omega
 have hnq:¬ o∈q:=fun e=>by have:=h2.1 o e; omega
 refine⟨p,q,rfl,hnp,hnq,?_⟩;unfold Q3x;rw [List.filter_append,List.filter_cons_of_neg (by simp)];rw [List.filter_eq_self.2 fun x hx=>by simp; exact fun e=>hnp (e▸hx),List.filter_eq_self.2 fun x hx=>by simp; exact fun e=>hnq (e▸hx)]
theorem Q9D (f:Nat) (A:Option zA) (n c:Nat) (zs:List Int) (o:Int) (w:zB) (h:Q04 w w.heap.size 1 A n (zs.map vn)) (hok:OkC f zs) (ho:o∈zs) :
 zI zK 91 #[.agg (crC f A n c),.int .i64 o] w fun e w'=>∃ v,e=.returned v/\(∃ g cap,v=.slice (some ⟨g,0,none⟩) (Q3x zs o).length cap/\w.heap.size<=g/\RowN w' g cap (Q3x zs o++[0]))/\zE w.heap.size w w':=by
 have hmf:∀ (fn:Fn) (first cap:Array zC) (w:zB),(Instr.makeFunc fn first cap).run zK w=.ok (.func fn first cap) w:=fun _ _ _ _=>rfl
 have hzn:zs.length=n:=by have:=h.1; simpa using this
 have hs:=hok.short;have hX:=((Below.refl w.heap.size w).alloc (zL _) (.cells (crC f A n c) 69)).alloc (by simp) (.cells #[.int .i64 o] 3);have HK:=sH ((Blk.newAt rfl:Blk (w.alloc (.cells (crC f A n c) 69)) w.heap.size 69 (crC f A n c)).alloc (.cells #[.int .i64 o] 3));have HO:=sH (Blk.newAt (by simp):Blk ((w.alloc (.cells (crC f A n c) 69)).alloc (.cells #[.int .i64 o] 3)) (w.heap.size+1) 3 #[.int .i64 o]);have hr1:=h.below hX;have hs1:((w.alloc (.cells (crC f A n c) 69)).alloc (.cells #[.int .i64 o] 3)).heap.size=w.heap.size+2:=by simp
 have hn7:n<=1000000:=by omega
 have HC:=sH (Q2o f A n c zs _ (hr1.more hX.size) (by omega));rw [Q7h hok,if_pos rfl] at HC;obtain⟨p,q,hzs,hnp,hnq,hd⟩:=Q8q hok.pair ho;have HX:=sH hX;have HR1:=sH hr1;have HZS:=sH hzs;have HNP:=sH hnp;have HNQ:=sH hnq;have HD:=sH hd;have HZN:=sH hzn;obtain⟨dl,hdl⟩:∃ k,k=(Q3x zs o).length:=⟨_,rfl⟩;rw [<- hdl];have HDL0:=sH hdl;clear hdl;obtain⟨D,hD⟩:∃ D,D=crC f A n c:=⟨_,rfl⟩;have hsz:D.size=2:=by rw [hD]; rfl
 have c1:D[1]?=some (.slice A n c):=by rw [hD]; rfl
 rw [<- hD] at HX HK HO HC HR1 hs1 ⊢;have C1:=sH c1;have HS1:=sH hs1;clear h hr1 hok hX hzs hnp hnq hd hD hzn c1 hs1;obtain⟨g,hg⟩:∃ g,g=w.heap.size:=⟨_,rfl⟩;obtain⟨g3,hg3⟩:∃ g,g=w.heap.size+1:=⟨_,rfl⟩;go_enter Tryz.func91,Tryz.ntmps91
 go_upto_region 1 with fail
 generalize za (za w _) _=w1 at HX HK HO HC HR1 HS1 ⊢;rw [<- hg3] at HO ⊢;rw [<- hg] at HK ⊢;have hs1:=HS1.out;have hg1:g<w1.heap.size:=by omega
 have hg31:g3<w1.heap.size:=by omega
 clear HS1 hs1 hg hg3;go_wp2_with (refine Q01 (o:=⟨some 5,_,_,_,_,_⟩) rfl 69 (.tmp 2) rfl g 0 2 rfl 69 _ D _ HK.out Tryz.underlying69 rfl rfl hsz (fun _ _=>by rw [zS]; try rfl) ?_)
 refine HC.out.mono ?_;rintro _ w2 ⟨rfl,hb2⟩;have HB2:=sH (HX.out.trans (hb2.mono HX.out.size));have hs2:=hb2.size;have c21:w2.cell? ⟨g,1,none⟩=some (.slice A n c):=((HK.out.below' hb2).cell 1).trans C1.out;have co2:w2.cell? ⟨g3,0,none⟩=some (.int .i64 o):=((HO.out.below' hb2).cell 0).trans rfl;have HCL:=sH (Q2c A n c zs w2 w.heap.size (HR1.out.below (hb2.mono HX.out.size)) HB2.out.size (by omega));have CO2:=sH co2;clear hb2 HC HR1 HK HO co2;go_wp2_with fail
 refine HCL.out.mono ?_;rintro _ w3 ⟨v,rfl,how,hb3⟩;have hzl:0<zs.length:=by have:=HZN.out; omega
 obtain⟨g4,cap,rfl,hg4,hrow⟩:=RowN.of_own how hzl;rw [HZN.out];rw [HZS.out] at hrow;have HDL:=sH (Q8v g4 cap g3 n p q o w3 hrow (by rw [<- HZS.out]; exact HZN.out.symm) HNP.out HNQ.out ((hb3.cell (show g3<w2.heap.size by omega)).trans CO2.out) (by omega) (by omega));rw [<- HD.out,<- HDL0.out] at HDL;have HB3:=sH (HB2.out.trans (hb3.mono HB2.out.size));have hs3:=HB2.out.size;clear how hrow hb3 HCL hzl c21;go_wp2_with fail
 refine HDL.out.mono ?_;rintro _ w4 ⟨rfl,hrow,hon⟩;have HOW:=sH hrow;have hgw4:w.heap.size<=g4:=by omega
 have HB4:=sH (HB3.out.trans (hon.below HB3.out.size fun b hb e=>by omega));clear hrow hon HDL;go_wp2_with fail
 go_ret
 exact⟨_,rfl,⟨g4,cap,rfl,hgw4,HOW.out⟩,HB4.out⟩
def midL (l:List Int) (z:Int) (j:Nat):List Int:=l.take j++z :: l.drop j
theorem Q4Y (l:List Int) (z:Int) (j:Nat) (hj:j<=l.length):(midL l z j).length=l.length+1:=by unfold midL;rw [zM,zY,List.length_cons,List.length_drop]; omega
theorem Q9g (l:List Int) (z:Int):midL l z l.length=l++[z]:=by unfold midL; simp
theorem midL_at (l:List Int) (z:Int) (j:Nat) (hj:j<=l.length):(midL l z j)[j]?=some z:=by unfold midL;rw [zR (by rw [zY]; omega),zY,Nat.min_eq_left hj,Nat.sub_self];rfl
theorem Q8P (l:List Int) (z:Int) (p:Nat) (hp:p<l.length):(midL l z (p+1))[p]?=some l[p]:=by unfold midL;rw [zP (by rw [zY]; omega),zQ,if_pos (by omega),zD hp]
theorem Qbp (l:List Int) (z:Int) (p:Nat) (hp:p<l.length):((midL l z (p+1)).set (p+1) l[p]).set p z=midL l z p/\((midL l z (p+1)).set p z).set (p+1) l[p]=midL l z p:=by
 have e:midL l z (p+1)=l.take p++l[p] :: z :: l.drop (p+1):=by unfold midL;rw [zX hp,zO]; rfl
 have e2:midL l z p=l.take p++z :: l[p] :: l.drop (p+1):=by unfold midL;rw [zZ hp]
 have ht:(l.take p).length=p:=by rw [zY]; omega
 have s1:∀ (t:List Int) (v:Int),(l.take p++t).set p v=l.take p++t.set 0 v:=fun t v=>by rw [List.set_append,if_neg (by omega),ht,Nat.sub_self]
 have s2:∀ (t:List Int) (v:Int),(l.take p++t).set (p+1) v=l.take p++t.set 1 v:=fun t v=>by rw [List.set_append,if_neg (by omega),ht,show p+1 - p=1 by omega]
 rw [e,e2,s2,s1,s1,s2];exact⟨rfl,rfl⟩
theorem Q7B (l:List Int) (z:Int) (j:Nat) (hp:l.Pairwise (· < ·)) (hj:j<=l.length) (hlo:∀ p,p+1=j->∀ h:p<l.length,¬ z<l[p]) (hhi:∀ x,x∈l.drop j->z<x):midL l z j=insL z l:=by
 have h:=Qal z (l.take j) (l.drop j) (fun x hx=>by
  obtain⟨i,hi,rfl⟩:=List.mem_iff_getElem.1 hx;rw [zY] at hi;rw [List.getElem_take];have hj1:j - 1<l.length:=by omega
  have:=hlo (j - 1) (by omega) hj1;rcases zF i (j - 1) with e | e
  ·have:=List.pairwise_iff_getElem.1 hp i (j - 1) (by omega) hj1 e;omega
  ·have e':i=j - 1:=by omega
   subst e';exact this) (fun x hx=>hhi x (by
  cases hd:l.drop j with
  | nil=>rw [hd] at hx; cases hx
  | cons y t =>rw [hd] at hx;obtain rfl:=Option.some.inj hx;exact List.mem_cons_self ..))
 rw [List.take_append_drop] at h;exact h.symm
theorem RowN.got {w:zB} {g cap i:Nat} {zs:List Int} {z:Int} (h:RowN w g cap zs) (hz:zs[i]?=some z):w.cell? ⟨g,i,none⟩=some (.int .i64 z):=by obtain⟨hi,e⟩:=List.getElem?_eq_some_iff.1 hz;rw [h.at_ hi,e]
theorem Qb6 (g cap n:Nat) (l:List Int) (z:Int) (w:zB) (h:RowN w g cap (l++[z])) (hn:n=l.length+1) (hp:l.Pairwise (· < ·)) (hz:¬ z∈l) (hn2:n<=12) :
 zI zK 130 #[.slice (some ⟨g,0,none⟩) n cap,.int .i64 0,.int .i64 (n:Int)] w fun e w'=>e=.returned (.tuple #[])/\RowN w' g cap (insL z l)/\Only (fun b=>b=g) w w':=by
 have HR:=sH h;have HN:=sH hn;have HP:=sH hp;have hn1:1<=n:=by omega
 clear h hn hp;go_enter Tryz.func130,Tryz.ntmps130
 go_wp2_with fail
 go_loopw [6] (fun iv wr=>∃ i:Nat,1<=i/\i<=n/\iv=.int .i64 (i:Int)/\RowN wr g cap (if i<n then l++[z] else insL z l)/\Only (fun b=>b=g) w wr) (fun iv _=>n - (intOf iv).toNat)
 case atStart =>
  refine⟨1,by omega,hn1,rfl,?_,Only.refl _ _⟩;split
  ·exact HR.out
  have:l=[]:=List.eq_nil_of_length_eq_zero (by have:=HN.out; omega);subst this;exact HR.out
 obtain⟨i,hi1,hi,rfl,hrow,hon⟩:=hrel;by_cases hin:i<n
 ·rw [if_pos hin] at hrow;have hinI:(i:Int)<(n:Int):=by omega
  have HROW:=sH hrow;have HON:=sH hon;clear hrow hon;by_cases hlast:i+1<n
  ·obtain⟨p,hp⟩:∃ p,i=p+1:=⟨i - 1,by omega⟩;have hil:i<l.length:=by have:=HN.out; omega
   have hpl:p<l.length:=by omega
   have hci:=HROW.out.got (i:=i) (z:=l[i]) (by rw [zP hil,zD hil]);have hcp:=HROW.out.got (i:=p) (z:=l[p]) (by rw [zP hpl,zD hpl]);have hxy:¬ l[i]<l[p]:=by have:=List.pairwise_iff_getElem.1 HP.out p i hpl hil (by omega); omega
   have HLE:=sH (fun W=>Q71 l[i] l[p] W);rw [decide_eq_false hxy] at HLE;generalize l[i]=x at hci HLE;generalize l[p]=y at hcp HLE;have hip:(i:Int) - 1=(p:Int):=by omega
   have h0i:0<i:=by omega
   have hpI:p<n:=by omega
   have hpw:IntKind.i64.wrap (p:Int)=(p:Int):=by rw [IntKind.wrap_i64]; omega
   clear hxy hp hpl hil;go_wp2_with fail
   go_loopw [7] (fun jv w2=>jv=.int .i64 (i:Int)/\∃ k,w2=wr.drewN k) (fun _ _=>0)
   case atStart=>exact⟨rfl,0,rfl⟩
   obtain⟨rfl,k,rfl⟩:=hrel;go_upto_region 4 with fail
   go_quiet ((go_at_call 117; exact Q2z (HLE.out _)))
   go_wp2_with fail
   go_roundw
   case rel=>exact⟨i+1,by omega,by omega,by go_num,by rw [if_pos hlast]; exact HROW.out.keep rfl,by first | exact HON.out.drewN _ | exact(HON.out.drewN _).drewN _⟩
   case measure=>simp [intOf]; omega
  obtain rfl:i=l.length:=by have:=HN.out; omega
  have hml:=Q9g l z;have HPP:=HP.out;go_wp2_with fail
  go_loopw [7] (fun jv w2=>∃ j:Nat,j<=l.length/\jv=.int .i64 (j:Int)/\RowN w2 g cap (midL l z j)/\(∀ x,x∈l.drop j->z<x)/\Only (fun b=>b=g) w w2) (fun jv _=>(intOf jv).toNat)
  case atStart=>exact⟨l.length,zL _,rfl,(by rw [Q9g]; exact HROW.out),(fun x hx=>by rw [List.drop_length] at hx; cases hx),HON.out⟩
  obtain⟨j,hj,rfl,hrj,hhi,hoj⟩:=hrel;have HRJ:=sH hrj;have HHI:=sH hhi;have HOJ:=sH hoj;clear hhi hoj;by_cases h0:j=0
  ·have hdone:=Q7B l z j HPP hj (fun p hp _=>by omega) HHI.out;rw [hdone] at hrj;have HRD:=sH hrj;subst h0;clear hrj hdone;go_wp2_with fail
   go_upto_region 4 with fail
   go_quiet (fail)
   go_wp2_with fail
   go_roundw
   case rel=>exact⟨l.length+1,by omega,by omega,by go_num,by rw [if_neg (by have:=HN.out; omega)]; exact HRD.out.keep rfl,by first | exact HOJ.out.drewN _ | exact(HOJ.out.drewN _).drewN _⟩
   case measure=>simp [intOf]; omega
  obtain⟨p,hp⟩:∃ p,j=p+1:=⟨j - 1,by omega⟩;have hpl:p<l.length:=by omega
  have hcj:=hrj.got (midL_at l z j hj);have hcp:=hrj.got (i:=p) (z:=l[p]) (by rw [hp]; exact Q8P l z p hpl);have HLE:=sH (fun W=>Q71 z l[p] W);have hjn:j<n:=by have:=HN.out; omega
  have hjp:(j:Int) - 1=(p:Int):=by omega
  have h0j:0<j:=by omega
  have hpn:p<n:=by omega
  have hpw:IntKind.i64.wrap (p:Int)=(p:Int):=by rw [IntKind.wrap_i64]; omega
  have hpz:l[p]≠z:=fun e=>hz (e▸zN hpl)
  by_cases hlt:z<l[p]
  ·rw [decide_eq_true hlt] at HLE;have hsw:=Qbp l z p hpl;have hs1:=(hrj.set_ (i:=j) (by rw [Q4Y l z j hj]; omega) l[p]).set_ (i:=p) (by rw [zW,Q4Y l z j hj]; omega) z;have hs2:=(hrj.set_ (i:=p) (by rw [Q4Y l z j hj]; omega) z).set_ (i:=j) (by rw [zW,Q4Y l z j hj]; omega) l[p];rw [hp] at hs1 hs2;rw [hsw.1] at hs1;rw [hsw.2] at hs2;rw [<- hp] at hs1 hs2;have hdr:l.drop p=l[p] :: l.drop j:=by rw [zZ hpl,hp]
   have hh2:∀ x,x∈l.drop p->z<x:=fun x hx=>by
    rw [hdr] at hx;rcases List.mem_cons.1 hx with rfl | hx
    ·exact hlt
    exact HHI.out x hx
   have HH2:=sH hh2;have HS1:=sH hs1;have HS2:=sH hs2;have hfj:=hrj.frozen j;have hfp:=hrj.frozen p;have hjp2:j≠p:=by omega
   have hpj2:p≠j:=by omega
   generalize l[p]=y at hcp HLE HS1 HS2;clear hrj hs1 hs2 hdr hh2 hsw hp hlt hpz;go_wp2_with fail
   go_upto_region 4 with fail
   go_quiet ((go_at_call 117; first | exact Q6N (HLE.out _) | exact Q2z (HLE.out _)))
   go_wp2_with fail
   go_upto_region 6 with fail
   go_region
   go_wp2_with fail
   go_roundw
   case rel=>exact⟨p,by omega,by go_num,HS1.out.keep rfl,HH2.out,(HOJ.out.drewN _).trans ((Only.of_turned (N:=fun b=>b=g) (Q06.setCell _ ⟨g,j,none⟩ (.int .i64 y)) rfl).trans (Only.of_turned (N:=fun b=>b=g) (Q06.setCell _ ⟨g,p,none⟩ (.int .i64 z)) rfl))⟩
   case measure=>simp [intOf]; omega
  have hdone:=Q7B l z j HPP hj (fun q hq hql=>by
   obtain rfl:q=p:=by omega
   exact hlt) HHI.out
  rw [hdone] at hrj;have HRD:=sH hrj;rw [decide_eq_false hlt] at HLE;generalize l[p]=y at hcp HLE;clear hrj hdone hp hlt hpz;go_wp2_with fail
  go_upto_region 4 with fail
  go_quiet ((go_at_call 117; first | exact Q6N (HLE.out _) | exact Q2z (HLE.out _)))
  go_wp2_with fail
  go_roundw
  case rel=>exact⟨l.length+1,by omega,by omega,by go_num,by rw [if_neg (by have:=HN.out; omega)]; exact HRD.out.keep rfl,by first | exact HOJ.out.drewN _ | exact(HOJ.out.drewN _).drewN _⟩
  case measure=>simp [intOf]; omega
 obtain rfl:i=n:=by omega
 rw [if_neg hin] at hrow;have hinI:¬ (i:Int)<(i:Int):=by omega
 have HROW:=sH hrow;have HON:=sH hon;clear hrow hon;go_wp2_with fail
 first | go_end0 | (simp only [Exit.inBlock,Exit.then]; refine bodyPost_ret (results_none rfl _ _ _) rfl ?_) | refine bodyPost_ret (results_none rfl _ _ _) rfl ?_
 exact⟨rfl,HROW.out,HON.out⟩
theorem Qav (n:Nat) (hn:n=1\/n=4\/n=7) (w:zB):zI zK 139 #[.int .u64 (n:Int)] w fun e w'=>∃ v:Int,e=.returned (.int .i64 v)/\w=w':=by
 rcases hn with rfl | rfl | rfl
 ·go_enter Tryz.func139,Tryz.ntmps139
  go_wp2_with fail
  go_ret
  exact⟨_,rfl,rfl⟩
 ·go_enter Tryz.func139,Tryz.ntmps139
  go_wp2_with fail
  go_ret
  exact⟨_,rfl,rfl⟩
 go_enter Tryz.func139,Tryz.ntmps139
 go_wp2_with fail
 go_ret
 exact⟨_,rfl,rfl⟩
theorem Q8Z (n:Nat) (hn:n=1\/n=4\/n=7) (w:zB):zI zK 120 #[.int .u64 (n:Int)] w fun e w'=>∃ v:Int,e=.returned (.int .i64 v)/\w=w':=by
 have HL:=sH (Qav n hn w);clear hn;go_enter Tryz.func120,Tryz.ntmps120
 go_wp2_with fail
 refine HL.out.mono ?_;rintro _ _ ⟨v,rfl,rfl⟩;go_wp2_with fail
 go_ret
 exact⟨_,rfl,rfl⟩
theorem pdq_any (g cap n:Nat) (l:List Int) (z v:Int) (w:zB) (h:RowN w g cap (l++[z])) (hn:n=l.length+1) (hp:l.Pairwise (· < ·)) (hz:¬ z∈l) (hn2:n<=12) :
 zI zK 119 #[.slice (some ⟨g,0,none⟩) n cap,.int .i64 0,.int .i64 (n:Int),.int .i64 v] w fun e w'=>e=.returned (.tuple #[])/\RowN w' g cap (insL z l)/\Only (fun b=>b=g) w w':=by
 have HI:=sH (Qb6 g cap n l z w h hn hp hz hn2);clear h hn hp hz;go_enter Tryz.func119,Tryz.ntmps119
 go_wp2_with fail
 go_loopw [1,2] (fun av bv wr=>av=.int .i64 0/\bv=.int .i64 (n:Int)/\w=wr) (fun _ _ _=>0)
 case atStart=>exact⟨rfl,rfl,rfl⟩
 obtain⟨rfl,rfl,rfl⟩:=hrel;go_wp2_with fail
 refine HI.out.mono ?_;rintro _ w1 ⟨rfl,hr,ho⟩;have HR:=sH hr;have HO:=sH ho;clear hr ho HI;go_wp2_with fail
 first | go_end0 | (simp only [Exit.inBlock,Exit.then]; refine bodyPost_ret (results_none rfl _ _ _) rfl ?_) | refine bodyPost_ret (results_none rfl _ _ _) rfl ?_
 exact⟨rfl,HR.out,HO.out⟩
theorem sort_any (g cap n:Nat) (l:List Int) (z:Int) (w:zB) (h:RowN w g cap (l++[z])) (hn:n=l.length+1) (hp:l.Pairwise (· < ·)) (hz:¬ z∈l) (hn2:n=1\/n=4\/n=7) :
 zI zK 107 #[.slice (some ⟨g,0,none⟩) n cap] w fun e w'=>e=.returned (.tuple #[])/\RowN w' g cap (insL z l)/\Only (fun b=>b=g) w w':=by
 have HP:=sH (fun v=>pdq_any g cap n l z v w h hn hp hz (by omega));have HL:=sH (Q8Z n hn2 w);have hn7:n<=7:=by omega
 clear h hn hp hz hn2;go_enter Tryz.func107,Tryz.ntmps107
 go_wp2_with fail
 refine HL.out.mono ?_;rintro _ _ ⟨v,rfl,rfl⟩;clear HL;go_wp2_with fail
 refine(HP.out v).mono ?_;rintro _ w1 ⟨rfl,hr,ho⟩;have HR:=sH hr;have HO:=sH ho;clear hr ho HP;go_wp2_with fail
 first | go_end0 | (simp only [Exit.inBlock,Exit.then]; refine bodyPost_ret (results_none rfl _ _ _) rfl ?_) | refine bodyPost_ret (results_none rfl _ _ _) rfl ?_
 exact⟨rfl,HR.out,HO.out⟩
theorem crZ:crC 0 none 0 0=#[.int .i64 0,.slice none 0 0]:=rfl
theorem Q27 (f:Int) (A:Option zA) (n c:Nat):(Tryz.prog.info? 69).map (·.size)=some (crC f A n c).size:=by kernel_rfl
theorem Q1L (f:Int) (A:Option zA) (n c:Nat):(crC f A n c).all (·.oneCell')=true:=by simp [crC,Value.oneCell']
theorem Q4r (f f':Int) (A A':Option zA) (n c n' c':Nat):spl (crC f A n c) 0 (crC f' A' n' c').toList=crC f' A' n' c':=Q0a _ _ rfl
theorem Q9K (f:Nat) (A:Option zA) (n c:Nat) (l:List Int) (z:Int) (w:zB) (B:Nat) (h:Q04 w B 1 A n ((l++[z]).map vn)) (hB:B<=w.heap.size) (hp:l.Pairwise (· < ·)) (hz:¬ z∈l) (hok:OkC f (insL z l)) :
 zI zK 90 #[.int .i64 (f:Int),.slice A n c] w fun e w'=>∃ A' c',e=.returned (.tuple #[.agg (crC f A' n c'),.int .i64 0])/\OwnN w' w.heap.size (.slice A' n c') (insL z l)/\zE w.heap.size w w':=by
 have hzn:(l++[z]).length=n:=by have:=h.1; simpa using this
 have hs:=hok.len;have hf:=hok.faults;rw [Q2S] at hs;rw [zM,List.length_singleton] at hzn;have hn7:n=1\/n=4\/n=7:=by omega
 have hX:=Q02 w (.cells (crC 0 none 0 0) 69);have HX:=sH hX;have HK:=sH (Blk.newAt rfl:Blk (w.alloc (.cells (crC 0 none 0 0) 69)) w.heap.size 69 (crC 0 none 0 0));have HCL:=sH (Q2c A n c (l++[z]) (w.alloc (.cells (crC 0 none 0 0) 69)) B (h.below (hX.mono hB)) (Nat.le_trans hB hX.size) (by omega));have hs1:(w.alloc (.cells (crC 0 none 0 0) 69)).heap.size=w.heap.size+1:=by simp
 have HOK:=sH hok;have HZN:=sH hzn;have HN7:=sH hn7;have HP:=sH hp;have HZ:=sH hz;have HSZ:=sH hs1;clear h hX hs hzn hok hn7 hp hz hs1;obtain⟨g,hg⟩:∃ g,g=w.heap.size:=⟨_,rfl⟩;go_enter Tryz.func90,Tryz.ntmps90
 go_upto_region 1 with fail
 rw [<- crZ];generalize za w _=w1 at HX HK HCL HSZ ⊢;rw [<- hg] at HK ⊢;have hgw:w.heap.size<=g:=by omega
 have hgl:=HK.out.lt;clear hg HSZ;go_wp2_with fail
 refine HCL.out.mono ?_;rintro _ w2 ⟨v,rfl,how,hb2⟩;obtain⟨g2,cap,hv,hg2,hrow⟩:=RowN.of_own how (by simp);have hle:(l++[z]).length=n:=by rw [zM]; exact HZN.out
 rw [hle] at hv;subst hv;have HROW:=sH hrow;have hs2:=hb2.size;have HK2:=sH (HK.out.below' hb2);have HB2:=sH (HX.out.trans (hb2.mono HX.out.size));clear how hrow hb2 HCL HK hle;go_upto_region 2 with(refine Q00 (o:=⟨none,_,_,_,_,_⟩) rfl 69 (.tmp 6) (.tmp 10) rfl w2.heap.size 0 (crC f (some ⟨g2,0,none⟩) n cap) rfl rfl 69 (crC 0 none 0 0) (Blk.newAt rfl) (Q27 _ _ _ _) (by simp [crC]) (Q1L _ _ _ _) ?_; intro w3 hT3 hD3; rw [Q4r] at hD3)
 have hb3:zE w2.heap.size w2 w3:=hT3.below (Q02 w2 _) (zL _);have hs3:=hb3.size;obtain⟨g6,hg6⟩:∃ g,g=w2.heap.size:=⟨_,rfl⟩;rw [<- hg6] at hD3 ⊢;have HD3:=sH hD3;have hrl:=HROW.out.lt;have HROW3:=sH (HROW.out.below hb3 hrl);have HK3:=sH (HK2.out.below' hb3);have HB3:=sH (HB2.out.trans (hb3.mono HB2.out.size));have hg26:g2≠g6:=by omega
 have hgg2:g≠g2:=by omega
 have hgg6:g≠g6:=by omega
 have hg6w:w.heap.size<=g6:=by have:=HB2.out.size; omega
 have hg2w:w.heap.size<=g2:=by have:=HX.out.size; omega
 have c61:w3.cell? ⟨g6,1,none⟩=some (.slice (some ⟨g2,0,none⟩) n cap):=(HD3.out.cell 1).trans rfl;have HSO:=sH (sort_any g2 cap n l z w3 HROW3.out HZN.out.symm HP.out HZ.out HN7.out);clear hT3 hD3 hb3 hg6 HROW HK2 HB2 hs2 hs3;go_wp2_with fail
 refine HSO.out.mono ?_;rintro _ w4 ⟨rfl,hrow4,hon4⟩;have HB4:=sH (HB3.out.trans (hon4.below (B:=w.heap.size) HB3.out.size fun b hb e=>by omega));have HD4:=sH (hon4.blk HD3.out (fun e=>hg26 e.symm));have HK4:=sH (hon4.blk HK3.out hgg2);have HROW4:=sH hrow4;have hle4:(insL z l).length=n:=by rw [Q2S]; exact HZN.out
 have hre4:=hrow4.reads;rw [hle4] at hre4;have HCK:=sH (Q2o f (some ⟨g2,0,none⟩) n cap (insL z l) w4 hre4 (by rcases HN7.out with e | e | e <;> omega));rw [Q7h HOK.out,if_pos rfl] at HCK;have HLE4:=sH hle4;obtain⟨D,hD⟩:∃ D,D=crC f (some ⟨g2,0,none⟩) n cap:=⟨_,rfl⟩;have hsz:D.size=2:=by rw [hD]; rfl
 have hone:D.all (·.oneCell')=true:=by rw [hD]; exact Q1L _ _ _ _
 rw [<- hD] at HD4 HCK;have HD:=sH hD;have HSZ:=sH hsz;have HONE:=sH hone;clear hrow4 hon4 hre4 hle4 HSO HROW3 HD3 HK3 HB3 hD hsz hone;go_wp2_with (refine Q01 (o:=⟨some 14,_,_,_,_,_⟩) rfl 69 (.tmp 6) rfl g6 0 2 rfl 69 _ D _ HD4.out Tryz.underlying69 rfl rfl HSZ.out (fun _ _=>by rw [zS]; try rfl) ?_)
 refine HCK.out.mono ?_;rintro _ w5 ⟨rfl,hb5⟩;have hs5:=hb5.size;have hs4:=HB4.out.size;have HB5:=sH (HB4.out.trans (hb5.mono hs4));have HD5:=sH (HD4.out.below' hb5);have HK5:=sH (HK4.out.below' hb5);have HROW5:=sH (HROW4.out.below hb5 HROW4.out.lt);clear hb5 HB4 HD4 HK4 HCK;go_wp2_with (first
  | (refine Q01 (o:=⟨some 18,_,_,_,_,_⟩) rfl 69 (.tmp 6) rfl g6 0 2 rfl 69 _ D _ HD5.out Tryz.underlying69 rfl rfl HSZ.out (fun _ _=>by rw [zS]; try rfl) ?_)
  | (refine Q00 (o:=⟨none,_,_,_,_,_⟩) rfl 69 (.tmp 4) (.tmp 18) rfl g 0 D rfl rfl 69 _ HK5.out (by rw [HSZ.out]; rfl) (by rw [HSZ.out]; simp [crC]) HONE.out ?_; intro w6 hT6 hD6; rw [Q0a _ _ (by rw [HSZ.out]; rfl)] at hD6))
 refine bodyPost_ret (Q03 rfl _ _ g 2 69 _ _ rfl hD6 Tryz.underlying69 rfl rfl HSZ.out) rfl ⟨some ⟨g2,0,none⟩,cap,by rw [HD.out]; rfl,?_,?_⟩
 ·have:=(HROW5.out.keep (hT6.block g2 (fun e=>hgg2 e.symm))).own (B:=w.heap.size) hg2w;rw [HLE4.out] at this;exact this
 exact hT6.below HB5.out hgw
end
section
open Go.RowKit
theorem Q2j {P:Program} {ops:Array Oper} {rest:List Oper} {o:Oper} {a:Act} {w:zB} {Q:Exit->Act->zB->Prop} (hw:Region.wanted o (yielded ops a.tmps)=true) (ty:TypeId) (x:Operand) (ho:o.op=.load ty x)
 (g off n:Nat) (hx:a.eval x=.pointer (some ⟨g,off,none⟩)) (t:TypeId) (cs vs:Array zC) (d:TypeDesc) (hB:Blk w g t cs)
 (hu:P.underlying ty=some d) (hd:(match d with | .struct _ | .array _ _=>true | _=>false)=true) (hi:(P.info? ty).map (·.size)=some n)
 (hn:vs.size=n) (hv:∀ j,j<n->cs[off+j]?=vs[j]?)
 (h:wpList P ops Q rest (a.put o.dst (.agg vs)) w):wpList P ops Q (o :: rest) a w:=by
 unfold wpList;rw [if_pos hw];exact .inl (Q4B ty x ho g off n hx t cs vs d hB hu hd hi hn hv h)
theorem Q1l {P:Program} {ops:Array Oper} {rest:List Oper} {o:Oper} {a:Act} {w:zB} {Q:Exit->Act->zB->Prop} (hw:Region.wanted o (yielded ops a.tmps)=true) (v:zC)
 (he:(execOp a.eval o).run P w=.ok (.value v) w) (h:wpList P ops Q rest (a.put o.dst v) w):wpList P ops Q (o :: rest) a w:=by
 unfold wpList;rw [if_pos hw];refine .inl ?_;unfold Oper.wp;rw [he];exact h
end
section
open Go.RowKit Go.Maps
attribute [local irreducible] wpList
structure SetBy (w w':zB) (T:Q18) (k:Book) (ls ls':LL) (L:LL) (asked q:Nat):Prop where
 tree:Q1v w' T k ls'
 book:∃ L' a',Q0h w' k L' a'/\a'<=asked+q/\(∀ x,x∈L->x∈L')/\(∀ L0,(∀ x,x∈L0->x∈L)->Q1f L0 ls->Q1f L' ls')
 only:Only (fun b=>T.mut b\/k.has b) w w'
end
section
open Go.RowKit
theorem Q2V {xs:List Int} {k:Nat} {u:zC} (h:(xs.map vn)[k]?=some u):∃ (hk:k<xs.length),u=.int .i64 xs[k]:=by
 rw [zJ] at h;rcases zF k xs.length with hk | hk
 ·rw [zD hk] at h;injection h with h
  exact⟨hk,h.symm⟩
 rw [List.getElem?_eq_none hk] at h; cases h
theorem Q4w (A B:Option zA) (n m c d:Nat) (xs ys:List Int) (w:zB) (Bx By:Nat) (ha:Q04 w Bx 1 A n (xs.map vn)) (hb:Q04 w By 1 B m (ys.map vn)) (hn:n<=maxLen) (hm:m<=maxLen) :
 zI zK 72 #[.slice A n c,.slice B m d] w fun e w'=>e=.returned (.bool (decide (xs=ys)))/\∃ k,w'=w.drewN k:=by
 have hlx:xs.length=n:=by have:=ha.1; simpa using this
 have hly:ys.length=m:=by have:=hb.1; simpa using this
 unfold maxLen at hn hm;by_cases hnm:n=m
 ·subst hnm;go_enter Tryz.func72,Tryz.ntmps72
  go_wp2
  go_loopw [5] (fun i wr=>∃ k q:Nat,k<=n/\i=.int .i64 k/\xs.take k=ys.take k/\wr=w.drewN q) (fun i _=>n - (intOf i).toNat)
  case atStart=>exact⟨0,0,Nat.zero_le _,rfl,by simp,rfl⟩
  obtain⟨k,q,hk,rfl,heq,rfl⟩:=hrel;have HE:=sH heq;clear heq;by_cases hlt:k<n
  ·obtain⟨ad,u,rfl,_,hx,hcx⟩:=ha.at_ hlt;obtain⟨bd,v,rfl,_,hy,hcy⟩:=hb.at_ hlt;obtain⟨hk1,rfl⟩:=Q2V hx;obtain⟨hk2,rfl⟩:=Q2V hy;clear hx hy ha hb;by_cases hne:xs[k]=ys[k]
   ·have hz:(xs[k] != ys[k])=false:=by simp [hne]
    have HN:=sH hne;clear hne
    go_wp2
    go_quiet (fail)
    go_wp2
    go_roundw
    case rel=>exact⟨k+1,_,by omega,by go_num,by rw [zX hk1,zX hk2,HE.out,HN.out],rfl⟩
    case measure=>simp [intOf]; omega
   have hz:(xs[k] != ys[k])=true:=by rw [bne_iff_ne]; intro e; exact hne e
   have HN:=sH hne;clear hne
   go_wp2
   go_quiet (fail)
   go_wp2
   go_ret
   exact⟨Q0C (by have:=HN.out; symm; rw [decide_eq_false_iff_not]; rintro rfl; exact this rfl),_,World.drewN_drewN _ _ _⟩
  have hkn:k=n:=by omega
  have HK:=sH hkn;clear hkn
  go_wp2
  go_ret
  exact⟨Q0C (by symm; rw [decide_eq_true_iff]; have h1:=HE.out; rw [HK.out] at h1; rwa [zU (by omega),zU (by omega)] at h1),q,rfl⟩
 have h0:((n:Int) != (m:Int))=true:=by rw [bne_iff_ne]; omega
 have HN:=sH hnm;clear hnm;go_enter Tryz.func72,Tryz.ntmps72
 go_wp2
 go_ret
 exact⟨Q0C (by symm; rw [decide_eq_false_iff_not]; rintro rfl; exact HN.out (by omega)),0,rfl⟩
theorem Q5u (A B:Option zA) (n m c d:Nat) (xs ys:List Int) (w:zB) (Bx By:Nat) (ha:Q04 w Bx 1 A n (xs.map vn)) (hb:Q04 w By 1 B m (ys.map vn)) (hn:n<=maxLen) (hm:m<=maxLen) :
 zI zK 68 #[.slice A n c,.slice B m d] w fun e w'=>e=.returned (.bool (decide (xs=ys)))/\∃ k,w'=w.drewN k:=by
 have hlx:xs.length=n:=by have:=ha.1; simpa using this
 have hly:ys.length=m:=by have:=hb.1; simpa using this
 unfold maxLen at hn hm;by_cases hnm:n=m
 ·subst hnm;go_enter Tryz.func68,Tryz.ntmps68
  go_wp2
  go_loopw [13] (fun i wr=>∃ k q:Nat,k<=n/\i=.int .i64 k/\xs.take k=ys.take k/\wr=w.drewN q) (fun i _=>n - (intOf i).toNat)
  case atStart=>exact⟨0,0,Nat.zero_le _,rfl,by simp,rfl⟩
  obtain⟨k,q,hk,rfl,heq,rfl⟩:=hrel;have HE:=sH heq;clear heq;by_cases hlt:k<n
  ·obtain⟨ad,u,rfl,_,hx,hcx⟩:=ha.at_ hlt;obtain⟨bd,v,rfl,_,hy,hcy⟩:=hb.at_ hlt;obtain⟨hk1,rfl⟩:=Q2V hx;obtain⟨hk2,rfl⟩:=Q2V hy;clear hx hy ha hb;by_cases hne:xs[k]=ys[k]
   ·have hz:(xs[k] != ys[k])=false:=by simp [hne]
    have HN:=sH hne;clear hne
    go_wp2
    go_quiet (fail)
    go_wp2
    go_roundw
    case rel=>exact⟨k+1,_,by omega,by go_num,by rw [zX hk1,zX hk2,HE.out,HN.out],rfl⟩
    case measure=>simp [intOf]; omega
   have hz:(xs[k] != ys[k])=true:=by rw [bne_iff_ne]; intro e; exact hne e
   have HN:=sH hne;clear hne
   go_wp2
   go_quiet (fail)
   go_wp2
   go_ret
   exact⟨Q0C (by have:=HN.out; symm; rw [decide_eq_false_iff_not]; rintro rfl; exact this rfl),_,World.drewN_drewN _ _ _⟩
  have hkn:k=n:=by omega
  have HK:=sH hkn;clear hkn
  go_wp2
  go_ret
  exact⟨Q0C (by symm; rw [decide_eq_true_iff]; have h1:=HE.out; rw [HK.out] at h1; rwa [zU (by omega),zU (by omega)] at h1),q,rfl⟩
 have h0:((n:Int) != (m:Int))=true:=by rw [bne_iff_ne]; omega
 have HN:=sH hnm;clear hnm;go_enter Tryz.func68,Tryz.ntmps68
 go_wp2
 go_ret
 exact⟨Q0C (by symm; rw [decide_eq_false_iff_not]; rintro rfl; exact HN.out (by omega)),0,rfl⟩
end
section
open Go.RowKit Go.Maps
attribute [local irreducible] wpList Q0c
theorem Q7f:(Tryz.prog.info? 28).map (fun i=>(i.zero,i.size,i.bytes))=some (some (.slice none 0 0),1,24):=by kernel_rfl
structure OwnL (w:zB) (B0:Nat) (v:zC) (xss:LL) (vs:List zC):Prop where
 row:w.ownsRow B0 28 1 v xss.length vs
 at_:∀ (k:Nat) (x:List UInt8),xss[k]?=some x->∃ u,vs[k]?=some u/\OwnB w B0 u x
theorem Q4Z {w:zB} {B:Nat} {u:zC} {x:List UInt8} (h:OwnB w B u x) {b:Nat} (hb:u.ownBlock=some b):∃ cur,Blk w b 5 cur:=by
 rcases h.2 with⟨rfl,_⟩ | ⟨g,cap,cur,rfl,hg,hh,_⟩
 ·simp [zH] at hb
 simp [zH] at hb; subst hb; exact⟨cur,hh⟩
theorem OwnL.nil (w:zB) (B0:Nat):OwnL w B0 (.slice none 0 0) [] []:=⟨World.ownsRow_nil _ _ _ _,fun k x h=>by simp at h⟩
theorem OwnL.slice {w:zB} {B0:Nat} {v:zC} {xss:LL} {vs:List zC} (h:OwnL w B0 v xss vs):∃ A c,v=.slice A xss.length c/\xss.length<=c/\c<=maxLen/\RowsB w w.heap.size A xss.length xss/\(∀ a,A=some a->B0<=a.block):=by
 have hr:=fun A c (hv:v=.slice A xss.length c)=>Q04.of_own (A:=A) (c:=c) (by rw [<- hv]; exact h.row)
 have hrow:∀ A,Q04 w w.heap.size 1 A xss.length vs->RowsB w w.heap.size A xss.length xss:=fun A hrd=>⟨rfl,fun h0=>by obtain⟨ad,rfl,hlt,hc⟩:=hrd.2 h0;refine⟨ad,rfl,hlt,fun k x hx=>?_⟩;obtain⟨u,h1,h2⟩:=h.at_ k x hx;obtain⟨Ak,ck,rfl,_,_,h3,_⟩:=Q0m h2;exact⟨Ak,x.length,ck,hc k _ h1,h3⟩⟩
 rcases h.row.2 with⟨rfl,h0⟩ | ⟨g,cap,cur,rfl,hg,_,h1,h2,_⟩
 ·exact⟨none,0,by rw [h0],by omega,by unfold maxLen; omega,hrow _ (hr none 0 (by rw [h0])),fun _ h=>by cases h⟩
 exact⟨_,cap,rfl,h1,h2,hrow _ (hr _ _ rfl),fun ad h=>by injection h with h; subst h; exact hg⟩
theorem OwnL.push {w w3 w6:zB} {B0:Nat} {v v6 u:zC} {xss:LL} {vs:List zC} {x:List UInt8} (h:OwnL w B0 v xss vs) (hb:zE w.heap.size w w3) (hu:OwnB w3 B0 u x) (hown:w6.ownsRow B0 28 1 v6 (xss.length+1) (vs++[u])) (hg:(w3.alloc (.cells #[u] 28)).grownBy w6 v.ownBlock):OwnL w6 B0 v6 (xss++[x]) (vs++[u]):=by
 have hl:vs.length=xss.length:=by have:=h.row.1; omega
 have hal:zE w3.heap.size w3 (w3.alloc (.cells #[u] 28)):=Q02 _ _;have hkeep:∀ y z,OwnB w3 B0 y z->OwnB w6 B0 y z:=fun y z hy=>(hy.below hal).keep fun b hb'=>by
  obtain⟨cur,hcur⟩:=Q4Z hy hb';refine hg.block b (by have:=hy.lt hb'; have:=hal.size; omega) fun e=>?_
  have hr3:w3.ownsRow B0 28 1 v xss.length vs:=Q0k h.row fun b hb''=>hb.block b (Q0f h.row hb'').2
  exact Q09 hr3 hcur (by decide) e.symm
 refine⟨by rw [zM]; exact hown,fun k z hz=>?_⟩;rcases zF k xss.length with hk | hk
 ·rw [zP hk] at hz;obtain⟨y,h1,h2⟩:=h.at_ k z hz;exact⟨y,by rw [zP (by omega)]; exact h1,hkeep _ _ (h2.below hb)⟩
 have hk2:k=xss.length:=by
  rcases zF xss.length k with h1 | h1
  ·rw [List.getElem?_eq_none (by simp; omega)] at hz; cases hz
  omega
 subst hk2;rw [zR (by omega),Nat.sub_self] at hz;have hzx:x=z:=Option.some.inj hz;subst hzx;exact⟨u,by rw [zR (by omega),hl,Nat.sub_self]; rfl,hkeep _ _ hu⟩
def nI (l:List Nat):List Int:=l.map (fun n:Nat=>(n:Int))
theorem Q2J (l:List Nat):(nI l).length=l.length:=by simp [nI]
theorem OwnN.nil_ (w:zB) (B:Nat):OwnN w B (.slice none 0 0) []:=⟨by simp,.inl ⟨rfl,by simp⟩⟩
theorem OwnN.keep_ {w w':zB} {B:Nat} {v:zC} {xs:List Int} (h:OwnN w B v xs) (hk:∀ b,v.ownBlock=some b->w'.heap[b]?=w.heap[b]?):OwnN w' B v xs:=Q0k h hk
theorem OwnN.below_ {w w':zB} {B:Nat} {v:zC} {xs:List Int} (h:OwnN w B v xs) (hb:zE w.heap.size w w'):OwnN w' B v xs:=h.keep_ fun b hb'=>hb.block b (Q0f h hb').2
structure PsSt (w:zB) (xs:List UInt8) (n0:Nat) (A:Option zA) (n c:Nat) (lv:zC) (rest:List UInt8) (done:List Nat) (wr:zB):Prop where
 rd:Q04 wr wr.heap.size 1 A n (rest.map vb)
 cap:n<=c
 own:OwnN wr w.heap.size lv (nI done)
 len:done.length+n<=n0
 num:Q28 xs=(Q28 rest).map (fun l=>done++l)
 max:∀ x,x∈done->x<=maxN
 low:zE w.heap.size w wr
def Q2k (g:Nat) (l:List Int):Wish:=⟨0,0,(g:Int),0,5,0,[],0,0,l⟩
theorem Q2X {g:Nat} (h1:1<=g) (h2:g<=2) (l:List Int):mayB (Q2k g l)=Q2m l:=by
 rw [Bool.eq_iff_iff];unfold mayB;rw [decide_eq_true_eq];unfold MayP;constructor
 ·rintro ⟨_,_,h | h⟩
  ·exact h.2.2.2.2.2.2.2.2.2
  exact absurd rfl h.1
 intro h;exact⟨show (0:Int)<=0 by decide,show (0:Int)<=1048576 by decide,.inl ⟨rfl,rfl,rfl,rfl,rfl,rfl,rfl,by show (1:Int)<=(g:Int); omega,by show (g:Int)<=2; omega,h⟩⟩
theorem OwnN.ge_ {w:zB} {B b:Nat} {v:zC} {xs:List Int} (h:OwnN w B v xs) (hb:v.ownBlock=some b):B<=b:=by
 rcases h.2 with⟨rfl,_⟩ | ⟨g,cap,cur,rfl,hg,_⟩
 ·cases hb
 have:b=g:=by simpa [zH] using hb.symm
 omega
theorem Q80 {P:Program} {ops:Array Oper} {o:Oper} {a:Act} {w:zB} {R:zB->zB->Prop} {J:zB->Prop} {p:zB->zC->Prop} (hw:Region.wanted o (yielded ops a.tmps)=true) (v:zC) (w':zB) (he:(execOp a.eval o).run P w=.ok (.value v) w') (hR:R w w') (hJ:J w') (hp:p w' v):Q6q P ops o a w R J p:=fun K Q' hK=>by rw [if_pos hw];unfold Oper.wp;rw [he];exact hK v w' hR hJ hp
theorem Q5r {P:Program} {o:Oper} {a:Act} {w w':zB} {s x:Operand} {t:TypeId} {v vs vx:zC} (ho:o.op=.call { callee:=.builtin .append,args:=#[s,x],argTypes:=#[t,t] }) (hs:a.eval s=vs) (hx:a.eval x=vx) (hrun:(Builtin.append_ #[t,t] o.type #[vs,vx]).run P w=.ok v w'):(execOp a.eval o).run P w=.ok (.value v) w':=by unfold execOp;simp only [ho,resolve,invoke,builtin,Sem.run_bind,Sem.run_pure,Result.andThen_ok,List.map_toArray,List.map_cons,List.map_nil,hs,hx,hrun]
def Qab (l:List Int) (z:Int) (w w':zB):Prop:=∃ g cap y,RowN w g cap (l++[y])/\w'=w.setCell ⟨g,l.length,none⟩ (.int .i64 z)
theorem RowN.put {w w':zB} {g cap:Nat} {l:List Int} {y z:Int} (h:RowN w g cap (l++[y])) (hp:Qab l z w w'):∃ y',RowN w' g cap (l++[y']):=by
 obtain⟨g',cap',y',hr,rfl⟩:=hp;by_cases e:g'=g
 ·subst e;have:=h.set_ (i:=l.length) (by simp) z;rw [List.set_append,if_neg (by omega),Nat.sub_self] at this;exact⟨z,this⟩
 exact⟨y,h.keep (zG w ⟨g',l.length,none⟩ (.int .i64 z) g (fun q=>e q.symm))⟩
theorem one_put {w w':zB} {g:Nat} {l:List Int} {z:Int} (h:Blk w g 3 #[.int .i64 z]) (hp:Qab l z w w'):Blk w' g 3 #[.int .i64 z]:=by
 obtain⟨g',cap',y',hr,rfl⟩:=hp;by_cases e:g'=g
 ·subst e;obtain⟨cur,h1,h2,h3⟩:=hr.row;have hc:cur=#[.int .i64 z]:=by
   unfold Blk at h h1;rw [h] at h1;injection h1 with h1
   injection h1 with h1
   exact h1.symm
  have hl:=hr.cap.1;have hcs:cur.size=1:=by rw [hc]; rfl
  rw [zM,List.length_singleton] at hl;have hl0:l.length=0:=by omega
  rw [hl0];exact h.set_ 0 (.int .i64 z)
 exact zG w ⟨g',l.length,none⟩ (.int .i64 z) g (fun q=>e q.symm) |>.trans h
theorem RowN.putz {w w':zB} {g cap:Nat} {l:List Int} {z:Int} (h:RowN w g cap (l++[z])) (hp:Qab l z w w'):RowN w' g cap (l++[z]):=by
 obtain⟨g',cap',y',hr,rfl⟩:=hp;by_cases e:g'=g
 ·subst e;have:=h.set_ (i:=l.length) (by simp) z;rw [List.set_append,if_neg (by omega),Nat.sub_self] at this;exact this
 exact h.keep (zG w ⟨g',l.length,none⟩ (.int .i64 z) g (fun q=>e q.symm))
theorem own_put {w w':zB} {B:Nat} {v:zC} {l:List Int} {z:Int} (hz:¬ z∈l) (h:OwnN w B v (insL z l)) (hp:Qab l z w w'):OwnN w' B v (insL z l):=by
 obtain⟨g,cap,rfl,hB,hr⟩:=RowN.of_own h (by rw [Q2S]; omega);obtain⟨g',cap',y',hr',rfl⟩:=hp;by_cases e:g'=g
 ·subst e;obtain⟨cur,h1,h2,h3⟩:=hr.row;obtain⟨cur',k1,k2,k3⟩:=hr'.row;have hc:cur'=cur:=by
   unfold Blk at h1 k1;rw [h1] at k1;injection k1 with k1
   injection k1 with k1
   exact k1.symm
  subst hc;have hl:(insL z l).length=(l++[y']).length:=by rw [Q2S]; simp
  rw [hl,k3] at h3;have he:l++[y']=insL z l:=(List.map_inj_right (fun a b q=>by simpa [vn] using q)).1 h3;have hm:z∈l++[y']:=by rw [he]; exact(Q43 z z l).2 (.inl rfl)
  have hzy:z=y':=by
   rcases List.mem_append.1 hm with q | q
   ·exact absurd q hz
   exact List.mem_singleton.1 q
  have:=hr'.set_ (i:=l.length) (by simp) z;rw [List.set_append,if_neg (by omega),Nat.sub_self] at this;have h5:RowN (w.setCell ⟨g',l.length,none⟩ (.int .i64 z)) g' cap (insL z l):=by rw [<- he,<- hzy];obtain⟨c3,q1,q2,q3⟩:=this.row;exact⟨⟨c3,q1,by omega,q3⟩,by have:=hr.cap; rw [<- he,<- hzy] at this; exact this⟩
  exact h5.own hB
 exact(hr.keep (zG w ⟨g',l.length,none⟩ (.int .i64 z) g (fun q=>e q.symm))).own hB
structure RpSt (w4:zB) (g6 f n:Nat) (r:List Int) (s:Nat) (W:zB):Prop where
 only:Only (fun b=>b=g6) w4 W
 zero:s<=1->Blk W g6 69 (crC 0 none 0 0)
 done:s=2->∃ A' c',Blk W g6 69 (crC f A' n c')/\OwnN W w4.heap.size (.slice A' n c') r
theorem RpSt.below {w4 W W':zB} {g6 f n s:Nat} {r:List Int} (h:RpSt w4 g6 f n r s W) (hb:zE W.heap.size W W'):RpSt w4 g6 f n r s W' :=⟨h.only.trans (Only.of_below hb),fun e=>(h.zero e).below' hb,fun e=>by obtain⟨A',c',h1,h2⟩:=h.done e;exact⟨A',c',h1.below' hb,h2.below_ hb⟩⟩
theorem RpSt.put {w4 W:zB} {g6 f n s q k:Nat} {v:zC} {r:List Int} (h:RpSt w4 g6 f n r s W) (hq:w4.heap.size<=q) (hg:g6<w4.heap.size) (hs:s=0):RpSt w4 g6 f n r (s+1) (W.setCell ⟨q,k,none⟩ v):=by subst hs;have ht:=Q06.setCell W ⟨q,k,none⟩ v;refine⟨?_,fun _=>(ht.block g6 (fun e=>by have e':g6=q:=e; omega)).trans (h.zero (by omega)),fun e=>by omega⟩;have ho:=h.only;exact⟨ho.os,ho.tape,ho.output,by simpa [World.setCell] using ho.size,fun i hi hn=>(ht.block i (fun e=>by have e':i=q:=e; omega)).trans (ho.block i hi hn)⟩
def Q1I (l:List Int) (o n:Int):Prop:=o∈l/\¬ n∈l/\1<=n/\n<=28
def ReplPost (w:zB) (f:Nat) (l:List Int) (o n:Int) (e:Ending) (w':zB):Prop :=zE w.heap.size w w'/\(Q1I l o n->∃ A' k' c',e=.returned (.tuple #[.agg (crC f A' k' c'),.int .i64 0])/\OwnN w' w.heap.size (.slice A' k' c') (Q1D l o n))/\(¬ Q1I l o n->∃ er:Nat,er≠0/\e=.returned (.tuple #[.agg (crC 0 none 0 0),.int .i64 (er:Int)]))
theorem Q3X (f:Nat) (A:Option zA) (n c:Nat) (l:List Int) (o z:Int) (w:zB) (h:Q04 w w.heap.size 1 A n (l.map vn)) (hok:OkC f l) :
 zI zK 65 #[.agg (crC f A n c),.int .i64 o,.int .i64 z] w (ReplPost w f l o z):=by
 have hzn:l.length=n:=by have:=h.1; simpa using this
 have hs:=hok.short;have hn7:n<=1000000:=by omega
 have hX:=((Below.refl w.heap.size w).alloc (zL _) (.cells (crC f A n c) 69)).alloc (by simp) (.cells (crC 0 none 0 0) 69);have HK:=sH ((Blk.newAt rfl:Blk (w.alloc (.cells (crC f A n c) 69)) w.heap.size 69 (crC f A n c)).alloc (.cells (crC 0 none 0 0) 69));have HO:=sH (Blk.newAt (by simp):Blk ((w.alloc (.cells (crC f A n c) 69)).alloc (.cells (crC 0 none 0 0) 69)) (w.heap.size+1) 69 (crC 0 none 0 0));have hr1:=h.below hX;have hs1:((w.alloc (.cells (crC f A n c) 69)).alloc (.cells (crC 0 none 0 0) 69)).heap.size=w.heap.size+2:=by simp
 have HC:=sH (Q2o f A n c l _ (hr1.more hX.size) (by omega));rw [Q7h hok,if_pos rfl] at HC;have HX:=sH hX;have HR1:=sH hr1;have HOK:=sH hok;have HZN:=sH hzn;obtain⟨D,hD⟩:∃ D,D=crC f A n c:=⟨_,rfl⟩;have hsz:D.size=2:=by rw [hD]; rfl
 have c1:D[0]?=some (.int .i64 (f:Int)):=by rw [hD]; rfl
 rw [<- hD] at HX HK HO HC HR1 hs1 ⊢;have C0:=sH c1;have HDD:=sH hD;have HS1:=sH hs1;clear h hr1 hok hX hzn hD c1 hs1;obtain⟨g,hg⟩:∃ g,g=w.heap.size:=⟨_,rfl⟩;obtain⟨g6,hg6⟩:∃ g,g=w.heap.size+1:=⟨_,rfl⟩;go_enter Tryz.func65,Tryz.ntmps65
 go_upto_region 1 with fail
 rw [<- crZ];generalize za (za w _) _=w1 at HX HK HO HC HR1 HS1 ⊢;rw [<- hg6] at HO ⊢;rw [<- hg] at HK ⊢;have hs1:=HS1.out;have hgl:g<w1.heap.size:=by omega
 have hgl6:g6<w1.heap.size:=by omega
 have hgg:g≠g6:=by omega
 have hgw:w.heap.size<=g:=by omega
 have hgw6:w.heap.size<=g6:=by omega
 clear HS1 hs1 hg hg6;go_wp2_with (refine Q01 (o:=⟨some 9,_,_,_,_,_⟩) rfl 69 (.tmp 3) rfl g 0 2 rfl 69 _ D _ HK.out Tryz.underlying69 rfl rfl hsz (fun _ _=>by rw [zS]; try rfl) ?_)
 refine HC.out.mono ?_;rintro _ w2 ⟨rfl,hb2⟩;have hs2:=hb2.size;have hx:=HX.out.size;have HB2:=sH (HX.out.trans (hb2.mono hx));have HK2:=sH (HK.out.below' hb2);have HO2:=sH (HO.out.below' hb2);have HR2:=sH (HR1.out.below (hb2.mono hx));clear hb2 HC HX HK HO HR1;have HNO:=sH (Q94 z w2);by_cases hnode:1<=z/\z<=28
 ·rw [decide_eq_true hnode] at HNO;have hs12:=HB2.out.size;have HH:=sH (Q48 f A n c l o w2 (HR2.out.more hs12) HOK.out);rw [<- HDD.out] at HH;go_wp2_with fail
  refine HNO.out.mono ?_;rintro _ _ ⟨rfl,rfl⟩;go_wp2_with (refine Q01 (o:=⟨some 21,_,_,_,_,_⟩) rfl 69 (.tmp 3) rfl g 0 2 rfl 69 _ D _ HK2.out Tryz.underlying69 rfl rfl hsz (fun _ _=>by rw [zS]; try rfl) ?_)
  refine HH.out.mono ?_;rintro _ w3 ⟨rfl,hb3⟩;have hs3:=hb3.size;have HB3:=sH (HB2.out.trans (hb3.mono hs12));have HK3:=sH (HK2.out.below' hb3);have HO3:=sH (HO2.out.below' hb3);have HR3:=sH (HR2.out.below (hb3.mono hs12));clear hb3 HH HB2 HK2 HO2 HR2 HNO;by_cases hin:o∈l
  ·have hs13:=HB3.out.size;have HH:=sH (Q48 f A n c l z w3 (HR3.out.more hs13) HOK.out);rw [<- HDD.out] at HH;rw [decide_eq_true hin];go_wp2_with (first
    | (refine Q01 (o:=⟨some 26,_,_,_,_,_⟩) rfl 69 (.tmp 3) rfl g 0 2 rfl 69 _ D _ HK3.out Tryz.underlying69 rfl rfl hsz (fun _ _=>by rw [zS]; try rfl) ?_)
    | (refine Q2j (o:=⟨some 26,_,_,_,_,_⟩) rfl 69 (.tmp 3) rfl g 0 2 rfl 69 _ D _ HK3.out Tryz.underlying69 rfl rfl hsz (fun _ _=>by rw [zS]; try rfl) ?_))
   refine HH.out.mono ?_;rintro _ w4 ⟨rfl,hb4⟩;have hs4:=hb4.size;have HB4:=sH (HB3.out.trans (hb4.mono hs13));have HK4:=sH (HK3.out.below' hb4);have HO4:=sH (HO3.out.below' hb4);have HR4:=sH (HR3.out.below (hb4.mono hs13));clear hb4 HH HB3 HK3 HO3 HR3;by_cases hzin:z∈l
   ·rw [decide_eq_true hzin];have hbad:¬ Q1I l o z:=fun h=>h.2.1 hzin
    go_wp2_with (refine Q00 (o:=⟨none,_,_,_,_,_⟩) rfl 69 (.tmp 6) (.tmp 30) rfl g6 0 (crC 0 none 0 0) rfl rfl 69 _ HO4.out (Q27 _ _ _ _) (by simp [crC]) (Q1L _ _ _ _) ?_; intro w7 hT7 hD7; rw [Q4r] at hD7)
    refine bodyPost_ret (Q03 rfl _ _ g6 2 69 _ _ rfl hD7 Tryz.underlying69 rfl rfl rfl) rfl ⟨hT7.below HB4.out hgw6,fun h=>absurd h hbad,fun _=>⟨110,by omega,rfl⟩⟩
   rw [decide_eq_false hzin];have hgood:Q1I l o z:=⟨hin,hzin,hnode.1,hnode.2⟩;go_upto_region 8 with fail
   have hs14:=HB4.out.size;have HOT:=sH (fun(W:zB) (hb:Only (fun b=>b=g6) w4 W)=>Q9D f A n c l o W ((HR4.out.below (hb.below hs14 fun b hb' e=>by omega)).more (by have:=hb.size; omega)) HOK.out hin);rw [<- HDD.out] at HOT;have hbs:∀ (ty:TypeId) (W:zB),True:=fun _ _=>trivial
   obtain⟨i0,hi0,hz0,hz1,hz2⟩:=info_parts Q4f;have hdl:(Q3x l o).length+1=n:=by have:=Q5n l o HOK.out.pair hin; have:=HZN.out; omega
   have hok2:=HOK.out.repl hin hzin hnode.1 hnode.2;have hpd:=Q6o o HOK.out.pair;have hnd:¬ z∈Q3x l o:=fun hm=>hzin (Q3V.1 hm).1
   have HOK2:=sH hok2;have HPD:=sH hpd;have HND:=sH hnd;obtain⟨dl,hdle⟩:∃ dl,dl=Q3x l o:=⟨_,rfl⟩;have HDLE:=sH hdle;unfold Q1D at HOK2;rw [<- hdle] at HOT hdl HPD HND HOK2;obtain⟨k,hk⟩:∃ k,k=dl.length:=⟨_,rfl⟩;rw [<- hk] at HOT hdl;have HKK:=sH hk;have HDL:=sH hdl;clear hok2 hpd hnd hdle hk hdl;refine Q0T 13 42 (fun jx W v=>match jx with | 0=>v=.pointer (some ⟨g,0,none⟩) | 1=>v=.int .i64 (f:Int) | 2=>v=.agg D | 3=>v=.int .i64 o | 4=>∃ g2 cap y,v=.slice (some ⟨g2,0,none⟩) k cap/\w4.heap.size<=g2/\RowN W g2 cap (dl++[y]) | 5=>v=.int .i64 z | 6=>∃ g9,v=.slice (some ⟨g9,0,none⟩) 1 1/\w4.heap.size<=g9/\Blk W g9 3 #[.int .i64 z] | 7=>∃ g2 cap,v=.slice (some ⟨g2,0,none⟩) n cap/\w4.heap.size<=g2/\RowN W g2 cap (dl++[z]) | 8=>∃ A' c',v=.tuple #[.agg (crC f A' n c'),.int .i64 0]/\OwnN W w4.heap.size (.slice A' n c') (insL z dl) | 9=>∃ A' c',v=.agg (crC f A' n c')/\OwnN W w4.heap.size (.slice A' n c') (insL z dl) | 10=>v=.int .i64 0 | 11=>True | _=>v=.int .i64 0) (RpSt w4 g6 f n (insL z dl)) (fun W W'=>Qab dl z W W'\/Q06 g6 W W') [7,11] [31,32,33,34,35,36,37,38,39,40,41,7] (by kernel_rfl) (by kernel_rfl) (by kernel_rfl) (by kernel_rfl) (by simp) (by kernel_rfl) (fun jx=>?last) ?lastR (fun s W W' h1 h2=>h1.below h2) ⟨Only.refl _ _,fun _=>HO4.out,fun h=>by omega⟩ ?heads ?_
   case last =>
    match jx with
    | 0 | 1 | 2 | 3 | 5 | 10 | 11 | jx+12=>exact Q2w.pure _
    | 4=>exact fun W W' v ⟨g2,cap,y,h1,h2,h3⟩ hb=>⟨g2,cap,y,h1,h2,h3.below hb h3.lt⟩
    | 6=>exact fun W W' v ⟨g9,h1,h2,h3⟩ hb=>⟨g9,h1,h2,h3.below' hb⟩
    | 7=>exact fun W W' v ⟨g2,cap,h1,h2,h3⟩ hb=>⟨g2,cap,h1,h2,h3.below hb h3.lt⟩
    | 8 | 9=>exact fun W W' v ⟨A',c',h1,h2⟩ hb=>⟨A',c',h1,h2.below_ hb⟩
   case lastR =>
    intro s jx W W' v hsl hs hj hp hR;have hg6w:g6<w4.heap.size:=HO4.out.lt;match jx with
    | 0 | 1 | 2 | 3 | 5 | 10 | 11 | jx+12=>exact hp
    | 4 =>
     obtain⟨g2,cap,y,h1,h2,h3⟩:=hp;rcases hR with hR | hR
     ·obtain⟨y',h4⟩:=h3.put hR;exact⟨g2,cap,y',h1,h2,h4⟩
     exact⟨g2,cap,y,h1,h2,h3.keep (hR.block g2 (by omega))⟩
    | 6 =>
     obtain⟨g9,h1,h2,h3⟩:=hp;rcases hR with hR | hR
     ·exact⟨g9,h1,h2,one_put h3 hR⟩
     exact⟨g9,h1,h2,(hR.block g9 (by omega)).trans h3⟩
    | 7 =>
     obtain⟨g2,cap,h1,h2,h3⟩:=hp;rcases hR with hR | hR
     ·exact⟨g2,cap,h1,h2,h3.putz hR⟩
     exact⟨g2,cap,h1,h2,h3.keep (hR.block g2 (by omega))⟩
    | 8 | 9 =>
     obtain⟨A',c',h1,h2⟩:=hp;rcases hR with hR | hR
     ·exact⟨A',c',h1,own_put HND.out h2 hR⟩
     exact⟨A',c',h1,h2.keep_ fun b hb=>hR.block b (fun e=>by have:=h2.ge_ hb; omega)⟩
   case heads =>
    simp only [tT];and_intros;rotate_right;trivial
    all_goals try(rw [if_neg (by decide)];intro s a W hj hkp hd)
    ·have e0:(_:zC)=.pointer (some ⟨g,0,none⟩):=sK hkp 3;exact sV
    ·have e0:=sJ (hd 0) 31;have cc:W.cell? ⟨g,0,none⟩=some (.int .i64 (f:Int)):=((hj.only.blk HK4.out hgg).cell 0).trans C0.out;exact sV
    ·have e0:a.eval (.tmp 3)=.pointer (some ⟨g,0,none⟩):=by have:=hkp.at_ (d:=3) (by kernel_rfl); rw [this]; rfl
     exact Q0E rfl (.agg D) (Q0n 69 (.tmp 3) rfl g 0 2 e0 69 _ D _ (hj.only.blk HK4.out hgg) Tryz.underlying69 rfl rfl hsz (fun _ _=>by rw [zS])) rfl
    ·have e0:(_:zC)=.int .i64 o:=sK hkp 1;exact sV
    ·have e0:=sJ (hd 2) 33;have e1:=sJ (hd 3) 34;refine Q1m rfl 91 #[.agg D,.int .i64 o] (by go_simp) ((HOT.out W hj.only).mono ?_);rintro e w' ⟨v,rfl,⟨g2,cap,rfl,hg2,hr⟩,hb⟩;exact⟨_,rfl,hb,g2,cap,0,rfl,by have:=hj.only.size; omega,hr⟩
    ·have e0:(_:zC)=.int .i64 z:=sK hkp 2;exact sV
    ·have e0:=sJ (hd 5) 36;exact Q3m rfl (.slice (some ⟨W.heap.size,0,none⟩) 1 1) (W.alloc (.cells #[.int .i64 z] 3)) (by go_simp) (Q02 _ _) ⟨W.heap.size,rfl,hj.only.size,Blk.new W _ _⟩
    ·rw [if_pos (by decide)];intro s a W hs hj hkp hd;obtain⟨g2,cap,y,e35,hg2,hr2⟩:=(sG (hd 4) 35:);obtain⟨g9,e37,hg9,hr9⟩:=(sG (hd 6) 37:);have e35':a.eval (.tmp 35)=.slice (some ⟨g2,0,none⟩) k cap:=by simpa [Act.eval] using e35
     have e37':a.eval (.tmp 37)=.slice (some ⟨g9,0,none⟩) 1 1:=by simpa [Act.eval] using e37
     have hcp:=hr2.cap.1;rw [zM,List.length_singleton,<- HKK.out] at hcp;have hkn:k+1=n:=HDL.out;have hk2:k<(dl++[y]).length:=by rw [zM,<- HKK.out]; simp
     have happ:∀ ty,(Builtin.append_ #[29,29] ty #[.slice (some ⟨g2,0,none⟩) k cap,.slice (some ⟨g9,0,none⟩) 1 1]).run zK W=.ok (.slice (some ⟨g2,0,none⟩) n cap) (W.setCell ⟨g2,k,none⟩ (.int .i64 z)):=fun ty=>by
      have:=run_append_room_cells (P:=zK) W 29 ty 3 i0 Tryz.underlying29 hi0 g2 0 k cap ⟨g9,0,none⟩ 1 1 [.int .i64 z] (by rw [hz1]; rfl) (fun j u hu=>by
       match j,hu with
       | 0,hu=>rw [<- hu]; exact(hr9.cell 0).trans rfl) (fun u hu=>by rw [List.mem_singleton.1 hu]; rfl) (by omega) (fun j hj=>by
        obtain rfl:j=0:=by simpa using hj
        rw [hz1,zS,Nat.mul_one,Nat.add_zero,hr2.at_ hk2]; rfl) (fun j hj=>hr2.frozen _)
      rw [hz1,zS,Nat.mul_one,hkn] at this;simpa [World.setCells] using this
     have hput:Qab dl z W (W.setCell ⟨g2,k,none⟩ (.int .i64 z)):=⟨g2,cap,y,hr2,by rw [<- HKK.out]⟩;have hset:=hr2.set_ hk2 z;rw [List.set_append,if_neg (by rw [<- HKK.out]; omega),<- HKK.out,Nat.sub_self] at hset;exact Q80 rfl (.slice (some ⟨g2,0,none⟩) n cap) (W.setCell ⟨g2,k,none⟩ (.int .i64 z)) (Q5r (s:=.tmp 35) (x:=.tmp 37) rfl e35' e37' (happ _)) (.inl hput) (hj.put (by omega) (by have:=HO4.out.lt; omega) (by have:=(List.getElem?_eq_some_iff.1 hs).1; simp at this; match s,hs,this with | 0,_,_=>rfl | 1,hs,_=>cases hs)) ⟨g2,cap,rfl,hg2,hset⟩
    ·have e0:=sJ (hd 1) 32;obtain⟨g2,cap,e1,hg2,hr2⟩:=(sG (hd 7) 38:);have hlen:(dl++[z]).length=n:=by rw [zM,<- HKK.out]; exact HDL.out
     have hrd:=hr2.reads;rw [hlen] at hrd;refine Q1m rfl 90 #[.int .i64 (f:Int),.slice (some ⟨g2,0,none⟩) n cap] (by go_simp) ((Q9K f (some ⟨g2,0,none⟩) n cap dl z W W.heap.size hrd (zL _) HPD.out HND.out HOK2.out).mono ?_);rintro e w' ⟨A',c',rfl,how,hb⟩;have hln:(insL z dl).length=n:=by rw [Q2S,<- HKK.out]; exact HDL.out
     exact⟨_,rfl,hb,A',c',by rfl,OwnN.more how hj.only.size⟩
    ·obtain⟨A',c',e0,how⟩:=(sG (hd 8) 39:);exact Q0E rfl (.agg (crC f A' n c')) (by go_simp) ⟨A',c',rfl,how⟩
    ·obtain⟨A',c',e0,how⟩:=(sG (hd 8) 39:);exact sV
    ·rw [if_pos (by decide)];intro s a W hs hj hkp hd;obtain⟨A',c',e0,how⟩:=(sG (hd 9) 40:);have e6:a.eval (.tmp 6)=.pointer (some ⟨g6,0,none⟩):=by have:=hkp.at_ (d:=6) (by kernel_rfl); rw [this]; rfl
     have e40:a.eval (.tmp 40)=.agg (crC f A' n c'):=by simpa [Act.eval] using e0
     obtain rfl:s=1:=by
      have:=(List.getElem?_eq_some_iff.1 hs).1;simp at this;match s,hs,this with
      | 0,hs,_=>cases hs
      | 1,_,_=>rfl
     refine Q6K rfl 69 (.tmp 6) (.tmp 40) rfl g6 0 (crC f A' n c') e6 e40 69 _ (hj.zero (by omega)) (Q27 _ _ _ _) (by simp [crC]) (Q1L _ _ _ _) (fun W' hT hD=>⟨.inr hT,?_,trivial⟩);rw [Q4r] at hD;exact⟨hj.only.trans (Only.of_turned hT rfl),fun h=>by omega,fun _=>⟨A',c',hD,how.keep_ fun b hb=>hT.block b (fun e=>by have:=how.ge_ hb; have:=HO4.out.lt; omega)⟩⟩
    have e0:=sJ (hd 10) 41;exact sV
   intro fv W hj hd;have h7:fv 7=.int .i64 0:=hd 12 (by omega) _ 7 rfl rfl;obtain⟨A',c',hB6,how⟩:=hj.done rfl;have HBW:=sH (HB4.out.trans (hj.only.below (B:=w.heap.size) hs14 fun b hb e=>by omega));have HRL:=sH (show insL z dl=Q1D l o z by rw [HDLE.out]; rfl);obtain⟨E,hE⟩:∃ E,E=crC f A' n c':=⟨_,rfl⟩;have hEs:E.size=2:=by rw [hE]; rfl
   rw [<- hE] at hB6;have HB6:=sH hB6;have HOW:=sH how;have HE:=sH hE;simp only [Q19,List.drop_succ_cons,List.drop_nil,List.drop_zero,h7];clear hd hj hB6 how h7 HOT HK4 HO4 HR4 hE;try simp only [Act.put,sA]
   go_wp2_with fail
   refine bodyPost_ret (Q03 rfl _ _ g6 2 69 _ _ rfl HB6.out Tryz.underlying69 rfl rfl hEs) rfl ⟨HBW.out,fun _=>⟨A',n,c',by rw [HE.out]; rfl,?_⟩,fun h=>absurd hgood h⟩;have ho:=HOW.out;rw [HRL.out] at ho;exact OwnN.more ho hs14
  rw [decide_eq_false hin];have hbad:¬ Q1I l o z:=fun h=>hin h.1
  go_wp2_with (refine Q00 (o:=⟨none,_,_,_,_,_⟩) rfl 69 (.tmp 6) (.tmp 30) rfl g6 0 (crC 0 none 0 0) rfl rfl 69 _ HO3.out (Q27 _ _ _ _) (by simp [crC]) (Q1L _ _ _ _) ?_; intro w7 hT7 hD7; rw [Q4r] at hD7)
  refine bodyPost_ret (Q03 rfl _ _ g6 2 69 _ _ rfl hD7 Tryz.underlying69 rfl rfl rfl) rfl ⟨hT7.below HB3.out hgw6,fun h=>absurd h hbad,fun _=>⟨110,by omega,rfl⟩⟩
 rw [decide_eq_false hnode] at HNO;have hbad:¬ Q1I l o z:=fun h=>hnode h.2.2
 go_wp2_with fail
 refine HNO.out.mono ?_;rintro _ _ ⟨rfl,rfl⟩;go_wp2_with (refine Q00 (o:=⟨none,_,_,_,_,_⟩) rfl 69 (.tmp 6) (.tmp 19) rfl g6 0 (crC 0 none 0 0) rfl rfl 69 _ HO2.out (Q27 _ _ _ _) (by simp [crC]) (Q1L _ _ _ _) ?_; intro w7 hT7 hD7; rw [Q4r] at hD7)
 refine bodyPost_ret (Q03 rfl _ _ g6 2 69 _ _ rfl hD7 Tryz.underlying69 rfl rfl rfl) rfl ⟨hT7.below HB2.out hgw6,fun h=>absurd h hbad,fun _=>⟨2,by omega,rfl⟩⟩
end
section
open Go.RowKit Go.Maps
structure ALoc where
 g:Nat
 gc:Nat
 T:Q18
 k:Book
def ALoc.has (V:ALoc) (b:Nat):Prop:=b=V.g\/b=V.gc\/V.T.mut b\/V.k.has b
def ALoc.all (V:ALoc) (b:Nat):Prop:=b=V.g\/b=V.gc\/V.k.has b\/V.T.has b
def ALoc.hasN (V:ALoc) (N:Nat->Prop) (b:Nat):Prop:=V.has b\/¬ N b
structure ASl where
 arr:Array zC
 cap:Nat
 fA:Nat->Option zA
 fC:Nat->Nat
 nA:Nat->Option zA
 nC:Nat->Nat
 mA:Nat->Option zA
 mC:Nat->Nat
 lA:Nat->Option zA
 lC:Nat->Nat
def Q0s:List (Int×Int)->List zC
 | []=>[]
 | m :: t=>vn m.1 :: vn m.2 :: Q0s t
theorem Q3L:∀ l:List (Int×Int),(Q0s l).length=l.length*2
 | []=>rfl
 | m :: t=>by show (Q0s t).length+2=(t.length+1)*2;rw [Q3L t]; omega
theorem Q5M:∀ (a b:List (Int×Int)),Q0s (a++b)=Q0s a++Q0s b
 | [],_=>rfl
 | m :: t,b=>by show vn m.1 :: vn m.2 :: Q0s (t++b)=_;rw [Q5M t b]; rfl
theorem Q2Z:∀ (l:List (Int×Int)) (i:Nat) (h:i<l.length),(Q0s l)[i*2]?=some (vn l[i].1)/\(Q0s l)[i*2+1]?=some (vn l[i].2)
 | m :: t,0,_=>⟨rfl,rfl⟩
 | m :: t,i+1,h=>by have:=Q2Z t i (by simpa using h);rw [show (i+1)*2=i*2+1+1 by omega];exact this
def srvC (s:Srv) (S:ASl) (i:Nat):Array zC:=#[.int .i64 (s.f:Int),.slice (S.fA i) s.first.length (S.fC i),.int .i64 (s.f:Int),.slice (S.nA i) s.now.length (S.nC i),.slice (S.mA i) s.moves.length (S.mC i)]
def Q1R (S:ASl) (m:AM) (i:Nat):Array zC:=#[.int .i64 ((Q0u m i).1:Int),.int .i64 ((Q0u m i).2.err:Int),.slice none 0 0,.int .i64 ((Q0u m i).2.epoch:Int),.slice (S.lA i) (Q0u m i).2.nodes.length (S.lC i)]
def aF (t:Option zA) (gc:Nat) (m:AM) (S:ASl) (j:Nat):zC :=if j=0 then .pointer t else if j=1 then .slice (some ⟨gc,0,none⟩) m.chunks.length S.cap else(Q1R S m ((j - 2) / 5)).getD ((j - 2) % 5) undef
def aCs (t:Option zA) (gc:Nat) (m:AM) (S:ASl):Array zC:=rng 22 (aF t gc m S)
theorem Q29 (t:Option zA) (gc:Nat) (m:AM) (S:ASl):(aCs t gc m S).size=22:=Q0q _ _
theorem Q1a (t:Option zA) (gc:Nat) (m:AM) (S:ASl) (j:Nat) (h:j<22):(aCs t gc m S)[j]?=some (aF t gc m S j):=Q15 _ _ _ h
theorem Q7p (t:Option zA) (gc:Nat) (m:AM) (S:ASl) (i j:Nat) (hi:i<4) (hj:j<5):(aCs t gc m S)[2+i*5+j]?=(Q1R S m i)[j]?:=by rw [Q1a _ _ _ _ _ (by omega)];unfold aF;rw [if_neg (by omega),if_neg (by omega),show (2+i*5+j - 2) / 5=i by omega,show (2+i*5+j - 2) % 5=j by omega];have hs:(Q1R S m i).size=5:=rfl;rw [Array.getElem?_eq_getElem (by omega)];simp [Array.getD,hs,hj]
def IsMv (S:ASl) (n b:Nat):Prop:=∃ i a,i<n/\S.mA i=some a/\a.block=b
structure ADat (w:zB) (g gc:Nat) (t:Option zA) (N:Nat->Prop) (m:AM) (S:ASl):Prop where
 blk:Blk w g 84 (aCs t gc m S)
 row:Blk w gc 117 S.arr
 cap:S.arr.size=S.cap*5/\m.chunks.length<=S.cap/\S.cap<=maxLen
 srv:∀ i s,m.chunks[i]?=some s->∀ j,j<5->S.arr[i*5+j]?=(srvC s S i)[j]?
 first:∀ i s,m.chunks[i]?=some s->FarN w (fun b=>N b\/IsMv S m.chunks.length b) (S.fA i) (S.fC i) s.first
 now:∀ i s,m.chunks[i]?=some s->FarN w (fun b=>N b\/IsMv S m.chunks.length b) (S.nA i) (S.nC i) s.now
 nodes:∀ i,i<4->FarN w (fun b=>N b\/IsMv S m.chunks.length b) (S.lA i) (S.lC i) (Q0u m i).2.nodes
 mv:∀ i s,m.chunks[i]?=some s->w.ownsRow 0 119 2 (.slice (S.mA i) s.moves.length (S.mC i)) s.moves.length (Q0s s.moves)
 mvN:∀ b,IsMv S m.chunks.length b->¬ N b
 mvap:∀ i j a b,i<m.chunks.length->j<m.chunks.length->i≠j->S.mA i=some a->S.mA j=some b->a.block≠b.block
 gN:N g/\N gc
 ok:AOk m
theorem ADat.mlt {w:zB} {g gc:Nat} {t:Option zA} {N:Nat->Prop} {m:AM} {S:ASl} (h:ADat w g gc t N m S) {b:Nat} (hb:IsMv S m.chunks.length b):b<w.heap.size:=by
 obtain⟨i,a,hi,ha,rfl⟩:=hb;have hm:=h.mv i _ (zD hi);rw [ha] at hm;exact(Q0f hm (b:=a.block) (by
  rcases hm.2 with⟨e,_⟩ | ⟨g',cap',cur',e,_⟩
  ·cases e
  injection e with e1
  injection e1 with e1
  rw [e1]; rfl)).2
theorem ADat.only {w w':zB} {g gc:Nat} {t:Option zA} {N M:Nat->Prop} {m:AM} {S:ASl} (h:ADat w g gc t N m S) (ho:Only M w w') (hM:∀ b,M b->N b) (hg:¬ M g) (hgc:¬ M gc):ADat w' g gc t N m S :=
 ⟨ho.blk h.blk hg,ho.blk h.row hgc,h.cap,h.srv,fun i s hs=>(h.first i s hs).only ho (fun b hb=>.inl (hM b hb)),fun i s hs=>(h.now i s hs).only ho (fun b hb=>.inl (hM b hb)),fun i hi=>(h.nodes i hi).only ho (fun b hb=>.inl (hM b hb)),fun i s hs=>Q0k (h.mv i s hs) (fun b hb=>by
  have hi:i<m.chunks.length:=(List.getElem?_eq_some_iff.1 hs).1;have hl:=(Q0f (h.mv i s hs) hb).2;refine ho.block b hl fun hmb=>?_
  have hmv:IsMv S m.chunks.length b:=by
   rcases(h.mv i s hs).2 with⟨e,_⟩ | ⟨g',cap',cur',e,_⟩
   ·rw [e] at hb; cases hb
   rw [e] at hb;injection e with e1
   exact⟨i,⟨g',0,none⟩,hi,e1,by simpa [zH] using hb⟩
  exact h.mvN b hmv (hM b hmb)),h.mvN,h.mvap,h.gN,h.ok⟩
theorem ADat.below {w w':zB} {g gc:Nat} {t:Option zA} {N:Nat->Prop} {m:AM} {S:ASl} (h:ADat w g gc t N m S) (hb:zE w.heap.size w w'):ADat w' g gc t N m S :=h.only (M:=fun _=>False) (Only.of_below hb) (fun _ h=>h.elim) (fun h=>h) (fun h=>h)
theorem ADat.mono {w:zB} {g gc:Nat} {t:Option zA} {N N':Nat->Prop} {m:AM} {S:ASl} (h:ADat w g gc t N m S) (hN:∀ b,b<w.heap.size->N' b->N b) (hg:N' g/\N' gc):ADat w g gc t N' m S :=⟨h.blk,h.row,h.cap,h.srv,fun i s hs=>(h.first i s hs).mono (fun b hb hn=>hn.imp (hN b hb) id),fun i s hs=>(h.now i s hs).mono (fun b hb hn=>hn.imp (hN b hb) id),fun i hi=>(h.nodes i hi).mono (fun b hb hn=>hn.imp (hN b hb) id),h.mv,fun b hb hn=>h.mvN b hb (hN b (h.mlt hb) hn),h.mvap,hg,h.ok⟩
structure AAt (w:zB) (V:ALoc) (N:Nat->Prop) (m:AM):Prop where
 dat:∃ S,ADat w V.g V.gc (some ⟨V.T.t,0,none⟩) N m S
 tree:Q1v w V.T V.k (Q07 m)
 far:V.g≠V.gc/\¬ V.T.has V.g/\¬ V.T.has V.gc/\¬ V.k.has V.g/\¬ V.k.has V.gc
 all:∀ b,V.all b->N b
theorem ADat.lt {w:zB} {g gc:Nat} {t:Option zA} {N:Nat->Prop} {m:AM} {S:ASl} (h:ADat w g gc t N m S):g<w.heap.size/\gc<w.heap.size:=⟨h.blk.lt,h.row.lt⟩
theorem AAt.below {w w':zB} {V:ALoc} {N:Nat->Prop} {m:AM} (h:AAt w V N m) (hb:zE w.heap.size w w'):AAt w' V N m:=by obtain⟨S,hd⟩:=h.dat;exact⟨⟨S,hd.below hb⟩,h.tree.below hb,h.far,h.all⟩
theorem AAt.mono {w:zB} {V:ALoc} {N N':Nat->Prop} {m:AM} (h:AAt w V N m) (hN:∀ b,b<w.heap.size->N' b->N b) (hall:∀ b,V.all b->N' b):AAt w V N' m:=by obtain⟨S,hd⟩:=h.dat;exact⟨⟨S,hd.mono hN ⟨hall _ (.inl rfl),hall _ (.inr (.inl rfl))⟩⟩,h.tree,h.far,hall⟩
end
section
open Go.RowKit Go.Maps
attribute [local irreducible] wpList Q0c
theorem Q9B (l:List Int) (i:Nat) (h:i<l.length):Q2q (l.take (i+1))=Q2q (l.take i)++numB l[i].toNat:=by
 unfold Q2q;rw [zX h,List.flatMap_append]
 simp
theorem Q5k (A:Option zA) (n c:Nat) (zs:List Int) (w:zB) (B:Nat) (h:Q04 w B 1 A n (zs.map vn)) (hB:B<=w.heap.size) (hz:∀ z,z∈zs->NumI z) (hn:n<=1000) :
 zI zK 92 #[.slice A n c] w fun e w'=>∃ v,e=.returned v/\OwnB w' w.heap.size v (Q2q zs)/\zE w.heap.size w w':=by
 have hzn:zs.length=n:=by have:=h.1; simpa using this
 have H:=sH h;have HZN:=sH hzn;have HZ:=sH hz;obtain⟨i0,hi0,hz0,hz1,hz2⟩:=info_parts Q2p;clear h hzn hz;go_enter Tryz.func92,Tryz.ntmps92
 go_wp2_with fail
 go_loopw [3,10] (fun ov iv wr=>∃ i:Nat,i<=n/\iv=.int .i64 (i:Int)/\OwnB wr w.heap.size ov (Q2q (zs.take i))/\zE w.heap.size w wr) (fun _ iv _=>n - (intOf iv).toNat)
 case atStart=>exact⟨0,by omega,rfl,OwnB.nil _ _,Below.refl _ _⟩
 obtain⟨i,hi,rfl,hov,hbel⟩:=hrel;have HOV:=sH hov;have HB:=sH hbel;have hsz:=hbel.size;clear hov hbel;by_cases hin:i<n
 ·have hinI:(i:Int)<(n:Int):=by omega
  obtain⟨ad,u,hA,hadb,hxi,hcell⟩:=(H.out.below (HB.out.mono hB)).at_ hin;subst hA;have hil:i<zs.length:=by have:=HZN.out; omega
  have hu:u=.int .i64 zs[i]:=by
   rw [zJ,zD hil] at hxi;injection hxi with hxi
   exact hxi.symm
  subst hu;have hnum:=HZ.out _ (zN hil);have hsn:=Q9B zs i hil;have hlen:=Qb9 (l:=zs.take i) fun z hz=>HZ.out z (List.mem_of_mem_take hz)
  rw [zY] at hlen;have hmx:=NumI.max hnum;have hl8:=(Q3s hmx).2;obtain⟨z,hze⟩:∃ z:Nat,zs[i]=(z:Int):=⟨zs[i].toNat,by unfold NumI at hnum; omega⟩;rw [hze,Int.toNat_natCast] at hsn hmx hl8;rw [hze] at hcell;have HBN:=sH (Q6h z hmx wr);have HSN:=sH hsn;obtain⟨ys,hys⟩:∃ ys,ys=Q2q (zs.take i):=⟨_,rfl⟩;rw [<- hys] at HOV HSN hlen;generalize numB z=x at HBN HSN hl8;clear hxi hnum hsn hys;go_wp2_with fail
  refine HBN.out.mono ?_;rintro _ w2 ⟨v2,rfl,ho2,hb2⟩;obtain⟨A2,c2,rfl,p1,p2,p3,p4⟩:=Q0m ho2;obtain⟨nx,hnx⟩:∃ k,k=x.length:=⟨_,rfl⟩;rw [<- hnx] at p3 hl8 ⊢;have HNX:=sH hnx;have HP3:=sH p3;have HO2:=sH (HOV.out.below hb2);have HWN:=sH HO2.out.row;have HB2:=sH (HB.out.trans (hb2.mono hsz));have hs2:=hb2.size;clear ho2 hb2 p1 p2 p3 p4 HBN hnx;go_wp2_with (at_builtin; go_must (refine Q05 _ rfl (.tmp 19) (.tmp 20) 28 rfl w.heap.size 5 i0 _ 1 1 Tryz.underlying28 hi0 hz0 hz1 hz2 rfl (by omega) _ _ _ rfl HWN.out w2.heap.size A2 nx c2 (x.map vb) rfl HP3.out ?c1 ?c2 ?c3 ?c4 ?_))
  case c1=>intro u hu; obtain⟨y,_,rfl⟩:=List.mem_map.1 hu; rfl
  case c2=>unfold maxLen; omega
  case c3=>omega
  case c4=>omega
  intro v3 w3 hown3 hg3 hor3;have HB3:=sH (Q0i HB2.out (by omega) hg3 (fun b hb=>HO2.out.ge hb));have HO3:=sH (show OwnB w3 w.heap.size v3 (Q2q (zs.take (i+1))) by unfold OwnB;rw [HSN.out,zM,List.map_append,<- HNX.out];exact hown3)
  clear hown3 hg3 hor3;go_wp2_with fail
  go_roundw
  case rel=>exact⟨i+1,by omega,by go_num,HO3.out,HB3.out⟩
  case measure=>simp [intOf]; omega
 obtain rfl:i=n:=by omega
 have hinI:¬ (i:Int)<(i:Int):=by omega
 have ht:zs.take i=zs:=zU (by have:=HZN.out; omega);rw [ht] at HOV;go_wp2_with fail
 go_ret
 exact⟨_,rfl,HOV.out,HB.out⟩
theorem Q2M (w:zB) (g t:Nat) (h:w.cell? ⟨g,0,none⟩=some (.pointer (some ⟨t,0,none⟩))) :
 zI zK 61 #[.pointer (some ⟨g,0,none⟩)] w fun e w'=>e=.returned (.bool false)/\w=w':=by
 go_enter Tryz.func61,Tryz.ntmps61
 go_wp2
 go_ret
 exact⟨rfl,rfl⟩
theorem Q9x (b:Nat) (o y z:Int) (w:zB) (hc:w.cell? ⟨b,0,none⟩=some (.int .i64 z)) :
 zI zK 105 #[.agg #[.int .i64 o,.int .i64 y],.pointer (some ⟨b,0,none⟩)] w fun e w'=>e=.returned (.bool (decide (y=z)))/\zE w.heap.size w w':=by
 have hX:=Q02 w (.cells #[.int .i64 o,.int .i64 y] 119);have hl:=zT _ _ hc;have hk:Blk (w.alloc (.cells #[.int .i64 o,.int .i64 y] 119)) w.heap.size 119 #[.int .i64 o,.int .i64 y]:=Blk.newAt rfl;have c1:=(hk.cell 1).trans (show (#[Value.int .i64 o,Value.int .i64 y])[1]?=some (.int .i64 y) from rfl);have c2:=(hX.cell hl).trans hc;have HX:=sH hX;by_cases h:y=z
 ·have hyz:(y == z)=true:=by simpa using h
  rw [decide_eq_true h];clear hk h hX;go_enter Tryz.func105,Tryz.ntmps105
  go_wp2
  go_ret
  exact⟨rfl,HX.out⟩
 have hyz:(y == z)=false:=by simpa using h
 rw [decide_eq_false h];clear hk h hX;go_enter Tryz.func105,Tryz.ntmps105
 go_wp2
 go_ret
 exact⟨rfl,HX.out⟩
theorem Q8n (A:Option zA) (n c b:Nat) (ms:List (Int×Int)) (z:Int) (w:zB) (h:w.ownsRow 0 119 2 (.slice A n c) n (Q0s ms)) (hb:w.cell? ⟨b,0,none⟩=some (.int .i64 z)) (hn:n<=1000) :
 zI zK 116 #[.slice A n c,.func (.func 105) #[] #[.pointer (some ⟨b,0,none⟩)]] w fun e w'=>∃ r:Int,e=.returned (.int .i64 r)/\-1<=r/\r<=1000/\decide (0<=r)=ms.any (fun m=>decide (m.2=z))/\zE w.heap.size w w':=by
 have hml:ms.length=n:=by have:=h.1; rw [Q3L] at this; omega
 have hbl:=zT _ _ hb;have H:=sH (fun(W:zB) (hb:zE w.heap.size w W)=>(Q0k h (fun q hq=>hb.block q (Q0f h hq).2):W.ownsRow 0 119 2 (.slice A n c) n (Q0s ms)));have HB:=sH (fun(W:zB) (h:zE w.heap.size w W)=>(h.cell hbl).trans hb);have HML:=sH hml;clear h hb hml hbl;go_enter Tryz.func116,Tryz.ntmps116
 go_wp2_with fail
 go_loopw [5,8] (fun _ iv wr=>∃ i:Nat,i<=n/\iv=.int .i64 (i:Int)/\(∀ (k:Nat) (hk:k<ms.length),k<i->ms[k].2≠z)/\zE w.heap.size w wr) (fun _ iv _=>n - (intOf iv).toNat)
 case atStart=>exact⟨0,by omega,rfl,fun k hk h=>by omega,Below.refl _ _⟩
 obtain⟨i,hi,rfl,hno,hbel⟩:=hrel;have HNO:=sH hno;have HBE:=sH hbel;clear hno hbel;by_cases hin:i<n
 ·have hinI:(i:Int)<(n:Int):=by omega
  obtain⟨g,cap,cur,hv,_,hB,_,_,_,ht⟩:∃ g cap cur,Value.slice A n c=.slice (some ⟨g,0,none⟩) n cap/\0<=g/\Blk wr g 119 cur/\n<=cap/\cap<=maxLen/\cur.size=cap*2/\cur.toList.take (n*2)=Q0s ms:=by
   rcases(H.out wr HBE.out).2 with⟨_,h1⟩ | h
   ·omega
   exact h
  injection hv with hA _ hc
  subst hA;have hil:i<ms.length:=by have:=HML.out; omega
  obtain⟨D,hD⟩:∃ D:Array zC,D=#[.int .i64 ms[i].1,.int .i64 ms[i].2]:=⟨_,rfl⟩;have hds:D.size=2:=by rw [hD]; rfl
  have hcur:∀ j,j<2->cur[i*2+j]?=D[j]?:=fun j hj=>by
   have hg:=Q2Z ms i hil;rw [<- ht,zQ,if_pos (by omega),zQ,if_pos (by omega),zV,zV] at hg;rw [hD];obtain rfl | rfl:j=0\/j=1:=by omega
   ·exact hg.1
   exact hg.2
  have HU:=sH (Q9x b ms[i].1 ms[i].2 z wr (HB.out wr HBE.out));rw [<- hD] at HU;obtain⟨y,hy⟩:∃ y,y=ms[i].2:=⟨_,rfl⟩;rw [<- hy] at HU;have HY:=sH hy;have HCUR:=sH hcur;have HBL:=sH hB;clear hcur hB ht hD hc hy;go_wp2_with (refine Q01 (o:=⟨some 15,_,_,_,_,_⟩) rfl 119 (.tmp 14) rfl g (i*2) 2 rfl 119 _ D _ HBL.out Tryz.underlying119 rfl rfl hds HCUR.out ?_)
  refine HU.out.mono ?_;rintro _ w2 ⟨rfl,hb2⟩;have HB2:=sH (HBE.out.trans (hb2.mono HBE.out.size));clear hb2 HU;by_cases hyz:y=z
  ·rw [decide_eq_true hyz];have hany:ms.any (fun m=>decide (m.2=z))=true:=List.any_eq_true.2 ⟨ms[i],zN hil,by rw [<- HY.out]; exact decide_eq_true hyz⟩;have HANY:=sH hany;clear hany hyz;go_wp2_with fail
   go_ret
   exact⟨i,rfl,by omega,by omega,by rw [HANY.out]; exact decide_eq_true (by omega),HB2.out⟩
  rw [decide_eq_false hyz];have HN2:=sH (show ∀ (k:Nat) (hk:k<ms.length),k<i+1->ms[k].2≠z from fun k hk h=>by
   rcases zF k i with e | e
   ·exact HNO.out k hk e
   obtain rfl:k=i:=by omega
   rw [<- HY.out]; exact hyz)
  clear hyz;go_wp2_with fail
  go_roundw
  case rel=>exact⟨i+1,by omega,by go_num,HN2.out,HB2.out⟩
  case measure=>simp [intOf]; omega
 have hinI:¬ (i:Int)<(n:Int):=by omega
 have hany:ms.any (fun m=>decide (m.2=z))=false:=List.any_eq_false.2 fun m hm=>by obtain⟨k,hk,rfl⟩:=List.mem_iff_getElem.1 hm;have:=HNO.out k hk (by have:=HML.out; omega);simpa using this
 have HANY:=sH hany;clear hany;go_wp2_with fail
 go_ret
 exact⟨-1,rfl,by omega,by omega,by rw [HANY.out]; rfl,HBE.out⟩
theorem Q5Y (A:Option zA) (n c b:Nat) (ms:List (Int×Int)) (z:Int) (w:zB) (h:w.ownsRow 0 119 2 (.slice A n c) n (Q0s ms)) (hb:w.cell? ⟨b,0,none⟩=some (.int .i64 z)) (hn:n<=1000) :
 zI zK 104 #[.slice A n c,.func (.func 105) #[] #[.pointer (some ⟨b,0,none⟩)]] w fun e w'=>e=.returned (.bool (ms.any (fun m=>decide (m.2=z))))/\zE w.heap.size w w':=by
 have HI:=sH (Q8n A n c b ms z w h hb hn);generalize ms.any (fun m=>decide (m.2=z))=res at HI ⊢;clear h hb;go_enter Tryz.func104,Tryz.ntmps104
 go_wp2_with fail
 refine HI.out.mono ?_;rintro _ w2 ⟨r,rfl,h1,h2,h3,hb2⟩;have HB2:=sH hb2;have H3:=sH h3;clear hb2 HI h3;go_wp2_with fail
 go_ret
 exact⟨Q0C (by first | exact H3.out | (rw [<- H3.out])),HB2.out⟩
end
end Go.Proofs.YtckjnbjiafgibaaGreat
