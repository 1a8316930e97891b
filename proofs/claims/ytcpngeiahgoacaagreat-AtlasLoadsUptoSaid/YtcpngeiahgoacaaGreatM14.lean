/- Parts of the proof, in one text. -/
import Derived.Test.YtcpngeiahgoacaaGreatM13
import Derived.Test.YtcpngeiahgoacaaGreatM3
import Derived.Test.YtcpngeiahgoacaaGreatM2
import Derived.Test.YtcpngeiahgoacaaGreatM6
import Derived.Test.YtcpngeiahgoacaaGreatM5
namespace Go.Proofs.YtcpngeiahgoacaaGreat
set_option linter.unusedVariables false
set_option linter.unusedSimpArgs false
set_option maxRecDepth 100000
set_option maxHeartbeats 16000000
open _root_.Array renaming replicate->zP
open _root_.Go renaming World->zA,Value->zB
open _root_.Go.Proofs.Tryz renaming prog->zH,underlying22->zS,underlying60->zT
open _root_.Go.RowKit renaming Below->zD
open _root_.Go.RowKit.Below renaming heap_setCell->zF,refl->zK
open _root_.Go.Value renaming ownBlock->zG,int->zR
open _root_.List renaming getElem?_eq_getElem->zC,length_append->zJ,map_append->zL,getElem?_toArray->zM,replicate->zO,take_of_length_le->zQ,take_succ_eq_append_getElem->zU
open _root_.Nat renaming lt_or_ge->zE,le_refl->zI,zero_add->zN
section
open Go.RowKit
attribute [local go_sem] Q9o Q6s Q98 Q6I QaK w_or Q9c QaX Q8b Q6N Q4r Q93 Q6m Q8P Q67 Q4d Q3M Q5h Q4J Q9m Q9u Qbu QbK
attribute [local go_sem] Q8x QeF
theorem QaW (S:St) (blk:List UInt8) (hbl:blk.length=64) (w:zA) :
 Calls zH 226 #[.agg S.vals,.agg (bRow blk)] w fun e w'=>e=.returned (.agg (Q0w S blk).vals)/\zD w.heap.size w w':=by
 have hbs:=Q1p blk;rw [hbl] at hbs;have HBS:=sH hbs;have HON:=sH (Q0K blk);have HSC:=sH (Q7R blk hbl);have hkz:=Qal;have hko:=Qc9;have hss:(Q0q blk 64).size=64:=Q0A _ _;have hso:(Q0q blk 64).all (·.oneCell')=true:=by unfold Q0q Q5I; simp [rng,vw,Value.oneCell']
 have hka:∀ j,j<64->kRow[j]?=some (.int .u32 (wi (kc.getD j 0))):=fun j hj=>Q1e _ _ _ hj
 have hsa:∀ j,j<64->(Q0q blk 64)[j]?=some (.int .u32 (wi ((Q0O blk 64).getD j 0))):=fun j hj=>Q0V blk 64 j hj (zI _)
 have HKZ:=sH hkz;have HKO:=sH hko;have HSS:=sH hss;have HSO:=sH hso;have HKA:=sH hka;have HSA:=sH hsa;have HR:=sH QaD;clear hbs hkz hko hss hso hka hsa;generalize hbr:bRow blk=br at HBS HON HSC ⊢;have HBR:=sH hbr;clear hbr;generalize Q0q blk 64=sc at HSC HSS HSO HSA;generalize kRow=kr at HKZ HKO HKA HR;go_enter Tryz.func226,Tryz.ntmps226
 go_wp2_with fail
 have hA1:=((Blk.new w 274 S.vals).alloc (.cells br 275)).alloc (.cells (rng 8 z32) 274);have hA2:Blk (((w.alloc (.cells S.vals 274)).alloc (.cells br 275)).alloc (.cells (rng 8 z32) 274)) (w.heap.size+1) 275 br:=(Blk.newAt (by simp)).alloc _;have hA3:Blk (((w.alloc (.cells S.vals 274)).alloc (.cells br 275)).alloc (.cells (rng 8 z32) 274)) (w.heap.size+1+1) 274 (rng 8 z32):=Blk.newAt (by simp);have hAb:zD w.heap.size w (((w.alloc (.cells S.vals 274)).alloc (.cells br 275)).alloc (.cells (rng 8 z32) 274)):=(((zK _ _).alloc (zI _) _).alloc (by simp) _).alloc (by simp; omega) _;have hAs:(((w.alloc (.cells S.vals 274)).alloc (.cells br 275)).alloc (.cells (rng 8 z32) 274)).heap.size=w.heap.size+1+1+1:=by simp
 rw [zeros8r] at hA1 hA2 hA3 hAb hAs;generalize ((w.alloc _).alloc _).alloc _=W at hA1 hA2 hA3 hAb hAs ⊢;refine Q54 5 114 (fun t=>rng 64 z32) (by kernel_rfl) (by kernel_rfl) (by simp) ?_ ?_
 ·intro i o d t hi ho ha a w;match i,hi with
  | 0,_ | 1,_ | 2,_=>simp only [zM,List.getElem?_cons_zero,List.getElem?_cons_succ] at ho; injection ho with ho; subst ho; simp [Q0I] at ha
  | 3,_ | 4,_ =>
   simp only [zM,List.getElem?_cons_zero,List.getElem?_cons_succ] at ho;injection ho with ho
   subst ho;simp only [Q0I,Option.some.injEq,Prod.mk.injEq] at ha;obtain⟨rfl,rfl⟩:=ha
   go_simp
   exact⟨rfl,rfl⟩
 simp only [tT,tU];refine Q0J rfl rfl 240 #[] (fun W=>by go_simp) (.agg kr) (fun W _=>HR.out W) ?_;simp only [Act.put,List.setIfInBounds_toArray,List.set_cons_zero,List.set_cons_succ];refine Q0Q rfl 275 (.tmp 3) rfl (w.heap.size+1) 0 64 rfl 275 _ br _ hA2 Tryz.underlying275 rfl rfl HBS.out (fun _ _=>by rw [zN]) ?_;simp only [Act.put,List.setIfInBounds_toArray,List.set_cons_zero,List.set_cons_succ];refine Q0J rfl rfl 241 #[.agg br] (fun W=>by go_simp) (.agg sc) (fun W _=>HSC.out W) ?_;simp only [Act.put,List.setIfInBounds_toArray,List.set_cons_zero,List.set_cons_succ];refine Q6F rfl fun g5=>?_
 refine Q6F rfl fun g6=>?_
 simp only [Act.put,List.setIfInBounds_toArray,List.set_cons_zero,List.set_cons_succ];refine Q0M ?_;intro W1 hb1 hM;obtain⟨g5',e5,hg5,hB5⟩:=hM.fact 3 _ _ _ (by omega) trivial rfl rfl;obtain⟨g6',e6,hg6,hB6⟩:=hM.fact 4 _ _ _ (by omega) trivial rfl rfl;have hne:=hM.apart 3 4 _ _ _ _ _ _ g5 g6 (by omega) (by omega) trivial trivial (by omega) rfl rfl rfl rfl rfl rfl;obtain rfl:g5=g5':=by simpa [ptr0] using e5
 obtain rfl:g6=g6':=by simpa [ptr0] using e6
 unfold ptr0;have hA1':=sH (hA1.below hb1 hA1.lt);have hA3':=sH (hA3.below hb1 hA3.lt);have hE1:=sH (hAb.trans (hb1.mono hAb.size));have hsz1:=hb1.size;have hl1:w.heap.size+1+1<g5:=by omega
 have hl2:w.heap.size+1+1<g6:=by omega
 have HB5:=sH hB5;have HB6:=sH hB6;have HNE:=sH hne;clear hB5 hB6 hne hM e5 e6 hb1 hA1 hA2 hA3 hAb hg5 hg6;have HV:=sH (Q3x S);generalize hsv:S.vals=sv at HV hA1' ⊢;have HSV:=sH hsv;have hsz:sv.size=8:=by rw [<- hsv]; rfl
 have HSZ:=sH hsz;clear hsv hsz;go_wp2_with (first
  | (refine Q00 rfl 273 (.tmp 5) (.tmp 18) rfl g5 0 kr rfl rfl 273 _ HB5.out (by rw [HKZ.out]; rfl) (by rw [HKZ.out,Q0A]; omega) HKO.out ?_; intro W2 hT2 hB5; rw [Q0c _ _ (by rw [HKZ.out,Q0A])] at hB5; have hB6:=hT2.blk HB6.out (Ne.symm HNE.out); have hE2:=hT2.below hE1.out (by omega); have hA12:=hT2.blk hA1'.out (by omega); have hA32:=hT2.blk hA3'.out (by omega); clear hT2)
  | (refine Q00 rfl 273 (.tmp 6) (.tmp 20) rfl g6 0 sc rfl rfl 273 _ hB6 (by rw [HSS.out]; rfl) (by rw [HSS.out,Q0A]; omega) HSO.out ?_; intro W3 hT3 hB63; rw [Q0c _ _ (by rw [HSS.out,Q0A])] at hB63; have hB53:=hT3.blk hB5 HNE.out; have hE3:=hT3.below hE2 (by omega); have hA13:=hT3.blk hA12 (by omega); have hA33:=hT3.blk hA32 (by omega); clear hT3 hB5 hB6 hE2 hA12 hA32)
  | (refine Q01 rfl 274 (.tmp 2) rfl w.heap.size 0 8 rfl 274 _ sv _ hA13 Tryz.underlying274 rfl rfl HSZ.out (fun _ _=>by rw [zN]) ?_)
  | (refine Q00 rfl 274 (.tmp 7) (.tmp 21) rfl W3.heap.size 0 sv rfl rfl 274 _ (Blk.newAt rfl) (by rw [HSZ.out]; rfl) (by rw [HSZ.out]; simp) HV.out ?_; intro W4 hT4 hB74; rw [Q0c _ _ (by rw [HSZ.out]; simp)] at hB74; have hB54:=hT4.blk (hB53.alloc _) (Nat.ne_of_lt hB53.lt); have hB64:=hT4.blk (hB63.alloc _) (Nat.ne_of_lt hB63.lt); have hE4:=hT4.below (hE3.alloc hE3.size _) hE3.size; have hA14:=hT4.blk (hA13.alloc _) (Nat.ne_of_lt hA13.lt); have hA34:=hT4.blk (hA33.alloc _) (Nat.ne_of_lt hA33.lt)))
 have hg5:=hB53.lt;have hg6:=hB63.lt;have hsz3:=hE3.size;have hg0:=hA13.lt;have hg2:=hA33.lt;obtain⟨g7,hg7⟩:∃ g7,g7=W3.heap.size:=⟨_,rfl⟩;rw [<- hg7] at hB74 hg5 hg6 hg0 hg2 hT4 hsz3 ⊢;clear hg7 hT4 hB53 hB63 hA13 hA33 hE3;rw [<- HSV.out] at hB74 hA14;have H5:=sH hB54;have H6:=sH hB64;have H1:=sH hA14;have H3:=sH hA34;have HE:=sH hE4;have H7:=sH hB74;clear hB54 hB64 hA14 hA34 hE4 hB74;go_wp2_with fail
 go_loopw [8] (fun i wr=>∃ t:Nat,t<=64/\i=.int .i64 t/\Blk wr g7 274 (Q2Z S (Q0O blk 64) t).vals/\Q0b g7 W4 wr) (fun i _=>64 - (intOf i).toNat)
 case atStart=>exact⟨0,by omega,rfl,H7.out,Q0b.refl _ _⟩
 obtain⟨t,ht,rfl,hB7,hT⟩:=hrel;generalize hst:Q2Z S (Q0O blk 64) t=R at hB7;have HST:=sH hst;clear hst;obtain⟨sa,sb,sc',sd,se,sf,sg,sh⟩:=R;by_cases ht1:t<64
 ·have ck:=((hT.blk H5.out (Nat.ne_of_lt hg5)).cell t).trans (HKA.out t ht1);have cs:=((hT.blk H6.out (Nat.ne_of_lt hg6)).cell t).trans (HSA.out t ht1);have q:=(Q6k hB7).1;generalize hx1:kc.getD t 0=x1 at ck;generalize hx2:(Q0O blk 64).getD t 0=x2 at cs;have HX:=sH (And.intro hx1 hx2);have HB7:=sH hB7;have HT:=sH hT;clear hx1 hx2 hB7 hT
  go_wp2
  go_quiet (fail)
  go_wp2_with fail
  go_quiet ((go_at_call 242; first | exact Q5v _ _ (by omega) (by omega) _ _ _ | exact Q6w _ _ (by omega) (by omega) _ _))
  go_wp2_with (first
   | (go_at_call 242; refine(refRor_w _ _ (by omega) (by omega) _).mono ?_; rintro _ _ ⟨rfl,nk,rfl⟩)
   | (refine Q00 rfl 274 (.tmp 7) (.tmp 99) rfl g7 0 (rstep ⟨sa,sb,sc',sd,se,sf,sg,sh⟩ x1 x2).vals rfl rfl 274 _ (HB7.out.drewN _) (by rw [Q10]; rfl) (by rw [Q10,Q10]; omega) (Q3x _) ?_; intro W6 hT6 hB6; rw [Q0c _ _ (by rw [Q10,Q10])] at hB6))
  go_roundw
  case rel =>
   obtain⟨h1,h2⟩:=HX.out;have hst:rstep ⟨sa,sb,sc',sd,se,sf,sg,sh⟩ x1 x2=Q2Z S (Q0O blk 64) (t+1):=by rw [Q2Z,HST.out,h1,h2]
   rw [hst] at hB6;exact⟨t+1,by omega,by go_num,hB6,(HT.out.drewN _).trans hT6⟩
  case measure=>simp [intOf]; omega
 obtain rfl:t=64:=by omega
 have hB1:=hT.blk H1.out (Nat.ne_of_lt hg0);have hB3:=hT.blk H3.out (Nat.ne_of_lt hg2);have hE:=hT.below HE.out (by omega);have HT0:=sH hT;have H1':=sH hB1;have H3':=sH hB3;have HE':=sH hE;have HB7:=sH hB7;clear hB1 hB3 hE hB7 hT;go_wp2_with fail
 go_loopw [17] (fun i wr=>∃ k:Nat,k<=8/\i=.int .i64 k/\Blk wr g7 274 (Q31 ⟨sa,sb,sc',sd,se,sf,sg,sh⟩ S k)/\Q0b g7 W4 wr) (fun i _=>8 - (intOf i).toNat)
 case atStart=>exact⟨0,by omega,rfl,by rw [Q5Z]; exact HB7.out,HT0.out⟩
 obtain⟨k,hk,rfl,hB7,hT⟩:=hrel;by_cases hk1:k<8
 ·obtain⟨u,v,hu,hv,hc,hi⟩:=Q72 ⟨sa,sb,sc',sd,se,sf,sg,sh⟩ S k hk1;have hcell:=(hB7.cell k).trans hc;have hcell2:=((hT.blk H1.out (Nat.ne_of_lt hg0)).cell k).trans hi;have hfz:=hB7.frozen k;unfold vw at hcell hcell2;have HH:=sH (And.intro hu (And.intro hv (And.intro hc hi)));have HB:=sH hB7;have HT:=sH hT;clear hu hv hc hi hB7 hT;have lk:(k:Int)<8:=by omega
  go_wp2_with fail
  refine Q1u 9 (by kernel_rfl) (by kernel_rfl) ?_;simp only [tT,tU]
  repeat still_step
  refine wpStill_nil ?_;go_wp2_with fail
  go_roundw
  case rel =>
   obtain⟨h1,h2,_,_⟩:=HH.out;have hs:=HB.out.drew.set_ k (vw (u+v));have he:=Q5N ⟨sa,sb,sc',sd,se,sf,sg,sh⟩ S k;rw [<- h1,<- h2] at he;rw [he] at hs
   repeat apply Exists.intro
   exact⟨⟨k+1,by omega,by go_num,hs,(HT.out.drewN 1).trans (Q0b.setCell _ ⟨g7,k,none⟩ _)⟩,rfl⟩
  case measure=>simp [intOf]; omega
 obtain rfl:k=8:=by omega
 have hcomm:(St.add ⟨sa,sb,sc',sd,se,sf,sg,sh⟩ S)=Q0w S blk:=by rw [Q0w,HST.out];simp only [St.add,BitVec.add_comm]
 rw [Q8S,hcomm] at hB7;have hB3:=hT.blk H3.out (Nat.ne_of_lt hg2);have hE:=hT.below HE.out (by omega);have HVA:=sH (Q3x (Q0w S blk));have HZ:=sH (Q10 (Q0w S blk));have HB7:=sH hB7;have HB3:=sH hB3;have HE:=sH hE;clear hB7 hB3 hE hT hcomm;generalize hcv:(Q0w S blk).vals=cv at HVA HB7 HZ;have HCV:=sH hcv;clear hcv;go_wp2_with (first
  | (refine Q01 rfl 274 (.tmp 7) rfl g7 0 8 rfl 274 _ cv _ HB7.out Tryz.underlying274 rfl rfl HZ.out (fun _ _=>by rw [zN]) ?_)
  | (refine Q00 rfl 274 (.tmp 4) (.tmp 113) rfl (w.heap.size+1+1) 0 cv rfl rfl 274 _ HB3.out (by rw [HZ.out]; rfl) (by rw [HZ.out]; simp) HVA.out ?_; intro W6 hT6 hB6; rw [Q0c _ _ (by rw [HZ.out]; simp)] at hB6))
 refine bodyPost_ret (Q0t rfl _ _ (w.heap.size+1+1) 8 274 _ _ rfl hB6 Tryz.underlying274 rfl rfl HZ.out) rfl ⟨by rw [HCV.out],hT6.below HE.out (by omega)⟩
end
section
open Go.RowKit
theorem pad_more (n k:Nat) (h:k<padN n):(((n+1+k:Nat):Int) % 64 != 56)=true:=by unfold padN at h;rw [bne_iff_ne]; omega
theorem pad_end (n:Nat):(((n+1+padN n:Nat):Int) % 64 != 56)=false:=by unfold padN;rw [bne_eq_false_iff_eq]; omega
theorem QdN (n:Nat):padN n<64:=by unfold padN; omega
theorem be8_at (n j:Nat) (h:j<8):(be8 n).take (j+1)=(be8 n).take j++[UInt8.ofNat (8*n / 2 ^ (8*(7 - j)))]:=by
 rw [zU (by rw [Q2Q]; exact h)];congr 2
 simp [be8]
theorem Q95 (A:Option Addr) (n c:Nat) (xs:List UInt8) (w:zA) (B:Nat) (h:Q08 w B 1 A n (xs.map vb)) (hB:B<=w.heap.size) (hn:n<=140737488355200) :
 Calls zH 224 #[.slice A n c] w fun e w'=>∃ v,e=.returned v/\OwnB w' w.heap.size v (Q4C xs)/\zD w.heap.size w w':=by
 have hxn:xs.length=n:=by have:=h.1; simpa using this
 have HXN:=sH hxn;have hp1:=QdN n;clear hxn;go_enter Tryz.func224,Tryz.ntmps224
 obtain⟨i0,hi0,hz0,hz1,hz2⟩:=info_parts Q1E;have HI0:=sH hi0;have HZ0:=sH hz0;have HZ1:=sH hz1;have HZ2:=sH hz2;clear hi0 hz0 hz1 hz2;go_wp2_with fail
 refine(Q1F A n c xs w B h hB (by omega)).mono ?_;rintro _ w1 ⟨v1,rfl,hO1,hb1⟩;have hs1:=hb1.size;have HO1:=sH hO1;have HB1:=sH hb1;clear hO1 hb1;go_wp2_with (at_builtin; go_must (refine Q03 _ rfl (.tmp 7) (.tmp 8) 22 rfl w.heap.size 5 i0 _ 1 1 zS HI0.out HZ0.out HZ1.out HZ2.out rfl (by omega) v1 xs.length (xs.map vb) rfl (HO1.out.below ((zK _ _).alloc (zI _) _)) (w1.heap.size+1) (some ⟨w1.heap.size,0,none⟩) 1 1 [.int .u8 128] rfl ⟨rfl,fun _=>⟨_,rfl,by simp,fun j u hu=>?d1⟩⟩ ?c1 ?c2 ?c3 ?c4 ?_))
 case d1 =>
  rw [Q11,zN]
  simp
  simpa using hu
 case c1=>intro u hu; simp at hu; subst hu; rfl
 case c2=>rw [HXN.out]; unfold maxLen; omega
 case c3=>rw [HXN.out]; omega
 case c4=>simp; omega
 intro v2 w2 hown2 hg2 hor2;have hO2:OwnB w2 w.heap.size v2 (xs++[128]):=by unfold OwnB;rw [zL,zJ];exact hown2
 have hb2:zD w.heap.size w w2:=Q0e (HB1.out.alloc hs1 _) (by simp; omega) hg2 (fun b hb=>HO1.out.ge hb);have HO2:=sH hO2;have HB2:=sH hb2;clear hown2 hg2 hor2 hO2 hb2
 go_wp2
 go_loopg [3] (padN n) (fun g v wr=>∃ k,k+g=padN n/\OwnB wr w.heap.size v (xs++[128]++zO k 0)/\zD w.heap.size w wr)
 case atStart=>exact⟨0,by omega,by simpa using HO2.out,HB2.out⟩
 obtain⟨k,hk,hO,hbel⟩:=hrel;have hlen:(xs++[128]++zO k 0).length=n+1+k:=by have:=HXN.out; simp; omega
 have hO':=hO;obtain⟨A1,c1,rfl,hc1,hc2,_,_⟩:=Q0f hO;rw [hlen] at hc1 ⊢;unfold maxLen at hc2;have HO:=sH hO';have HK:=sH hk;have HBE:=sH hbel;have HLE:=sH hlen;have hsz:=hbel.size;clear hO hO' hlen hbel;by_cases hlt:k<padN n
 ·have ht:=pad_more n k hlt;have hkg:0<gk:=by omega
  clear hk;go_wp2_with (at_builtin; go_must (refine Q03 _ rfl (.tmp 14) (.tmp 15) 22 rfl w.heap.size 5 i0 _ 1 1 zS HI0.out HZ0.out HZ1.out HZ2.out rfl (by omega) _ (n+1+k) ((xs++[128]++zO k 0).map vb) rfl (by have:=HO.out.below ((zK _ _).alloc (zI _) (.cells #[.int .u8 0] 5)); unfold OwnB at this; rw [HLE.out] at this; exact this) (wr.heap.size+1) (some ⟨wr.heap.size,0,none⟩) 1 1 [.int .u8 0] rfl ⟨rfl,fun _=>⟨_,rfl,by simp,fun j u hu=>?d1⟩⟩ ?c1 ?c2 ?c3 ?c4 ?_))
  case d1 =>
   rw [Q11,zN]
   simp
   simpa using hu
  case c1=>intro u hu; simp at hu; subst hu; rfl
  case c2=>unfold maxLen; omega
  case c3=>omega
  case c4=>simp; omega
  intro v3 w3 hown3 hg3 hor3
  go_wp2
  go_roundg (gk - 1)
  case measure=>omega
  have hk:=HK.out;refine⟨k+1,by omega,?_,Q0e (HBE.out.alloc hsz _) (by simp; omega) hg3 (fun b hb=>HO.out.ge (by rw [HLE.out]; exact hb))⟩;have e1:(xs++[128]++zO (k+1) 0).length=n+1+k+1:=by have:=HXN.out; simp; omega
  have e2:(xs++[128]++zO (k+1) 0).map vb=List.map vb xs++vb 128 :: (zO k (vb 0)++[zR IntKind.u8 0]):=by rw [List.replicate_succ']; simp; rfl
  unfold OwnB;rw [e1,e2];exact hown3
 obtain rfl:k=padN n:=by omega
 have ht:=pad_end n;generalize hP:xs++[128]++zO (padN n) 0=P at HO HLE;have HP:=sH hP;clear hP;obtain⟨m,hm⟩:∃ m,m=n+1+padN n:=⟨_,rfl⟩;rw [<- hm] at HLE hc1 ht ⊢;have HM:=sH hm;have hm2:m<=n+64:=by omega
 clear hm hk HK
 go_wp2
 go_loopg [3,5] 8 (fun g v i wr=>∃ j:Nat,j+g=8/\i=.int .i64 (7 - (j:Int))/\OwnB wr w.heap.size v (P++(be8 n).take j)/\zD w.heap.size w wr)
 case atStart=>exact⟨0,by omega,rfl,by rw [List.take_zero,List.append_nil]; have:=HO.out; rw [HLE.out] at this; exact this,HBE.out⟩
 obtain⟨j,hj,rfl,hO,hbel⟩:=hrel;have hlen:(P++(be8 n).take j).length=m+j:=by have:=HLE.out; have:=Q2Q n; simp; omega
 have hO':=hO;obtain⟨A1,c1,rfl,hc1,hc2,_,_⟩:=Q0f hO;rw [hlen] at hc1 ⊢;unfold maxLen at hc2;have HO:=sH hO';have HJ:=sH hj;have HBE:=sH hbel;have HLJ:=sH hlen;have hsz:=hbel.size;clear hO hO' hlen hbel;by_cases hlt:j<8
 ·have e1:((8:Int)*(7 - (j:Int))).toNat=8*(7 - j):=by omega
  have hv:=QdU n (7 - j) (by omega);have hw:IntKind.u64.wrap (8*(n:Int))=8*(n:Int):=by rw [IntKind.wrap_u64]; omega
  rw [hw] at hv;clear hw;generalize hx:UInt8.ofNat (8*n / 2 ^ (8*(7 - j)))=x at hv;have HX:=sH hx;clear hx hj;have hjj:(j:Int)<=7:=by omega
  go_wp2_with (at_builtin; go_must (refine Q03 _ rfl (.tmp 25) (.tmp 31) 22 rfl w.heap.size 5 i0 _ 1 1 zS HI0.out HZ0.out HZ1.out HZ2.out rfl (by omega) _ (m+j) ((P++(be8 n).take j).map vb) rfl (by have:=HO.out.below ((zK _ _).alloc (zI _) (.cells #[.int .u8 (bi x)] 5)); unfold OwnB at this; rw [HLJ.out] at this; exact this) (wr.heap.size+1) (some ⟨wr.heap.size,0,none⟩) 1 1 [.int .u8 (bi x)] rfl ⟨rfl,fun _=>⟨_,rfl,by simp,fun j u hu=>?d1⟩⟩ ?c1 ?c2 ?c3 ?c4 ?_))
  case d1 =>
   rw [Q11,zN]
   simp
   simpa using hu
  case c1=>intro u hu; simp at hu; subst hu; rfl
  case c2=>unfold maxLen; omega
  case c3=>omega
  case c4=>simp; omega
  intro v3 w3 hown3 hg3 hor3
  go_wp2
  go_roundg (gk - 1)
  case measure=>have:=HJ.out; omega
  have hj:=HJ.out;refine⟨j+1,by omega,by go_num,?_,Q0e (HBE.out.alloc hsz _) (by simp; omega) hg3 (fun b hb=>HO.out.ge (by rw [HLJ.out]; exact hb))⟩;have e1:(P++(be8 n).take (j+1)).length=m+j+1:=by have:=HLE.out; have:=Q2Q n; simp; omega
  have e2:(P++(be8 n).take (j+1)).map vb=(P++(be8 n).take j).map vb++[zR IntKind.u8 (bi x)]:=by rw [be8_at n j hlt,<- List.append_assoc,zL (l₂:=[_]),HX.out]; rfl
  unfold OwnB;rw [e1,e2];simpa using hown3
 obtain rfl:j=8:=by omega
 go_wp2
 go_ret
 refine⟨_,rfl,?_,HBE.out⟩;have h1:=HO.out;have h2:=HLJ.out;rw [h2] at h1;rw [zQ (by rw [Q2Q]; omega),<- HP.out] at h1;unfold Q4C;rw [HXN.out];exact h1
attribute [local go_sem] Q9o Q6s Q98 Q6I QaK w_or Q9c QaX Q8b Q6N Q4r Q93 Q6m Q8P Q67 Q4d Q3M Q5h Q4J
theorem bRow_rng (l:List UInt8) (n:Nat) (h:l.length=n):bRow l=rng n (fun j=>vb (l.getD j 0)):=by
 refine Q4n (by rw [Q1p,h]) fun j hj=>?_
 rw [bRow,zM,List.getElem?_map,Q1O _ _ (by omega)]; rfl
def Q3U (l:List UInt8) (n k:Nat):Array zB:=rng n (fun j=>if j<k then vb (l.getD j 0) else .int .u8 0)
theorem Q6G (l:List UInt8) (n:Nat):Q3U l n 0=zP n (.int .u8 0):=(Q4n (by simp) fun j hj=>by simp [hj]).symm
theorem Q6C (l:List UInt8) (n:Nat) (h:l.length=n):Q3U l n n=bRow l:=by rw [bRow_rng l n h]; exact Q1b fun j hj=>by rw [if_pos hj]
theorem Q8w (l:List UInt8) (n k:Nat) (h:k<n):(Q3U l n k)[k]?=some (.int .u8 0):=by unfold Q3U; rw [Q1e _ _ _ h,if_neg (by omega)]
theorem Q6B (l:List UInt8) (n k:Nat):(Q3U l n k).setIfInBounds k (vb (l.getD k 0))=Q3U l n (k+1):=by
 unfold Q3U;rw [Q1P];refine Q1b fun j hj=>?_
 by_cases h1:j=k
 ·subst h1; rw [if_pos rfl,if_pos (by omega)]
 rw [if_neg h1];by_cases h2:j<k
 ·rw [if_pos h2,if_pos (by omega)]
 rw [if_neg h2,if_neg (by omega)]
theorem acc_step (p:List UInt8) (k:Nat) (S:St) (h:acc (p.take (64*k))=(S,[])) (hk:64*k+64<=p.length):acc (p.take (64*(k+1)))=(Q0w S ((p.drop (64*k)).take 64),[]):=by
 have e:p.take (64*(k+1))=p.take (64*k)++(p.drop (64*k)).take 64:=by rw [show 64*(k+1)=64*k+64 by omega,List.take_add]
 rw [e,Q6n,h,Q4D S [] _ (by simp; omega) (by simp)]
 simp
theorem Q8d (p:List UInt8) (o j:Nat) (hj:j<64) (hl:o+64<=p.length):p[o+j]?=some (((p.drop o).take 64).getD j 0):=by rw [List.getD_eq_getElem?_getD,List.getElem?_take,if_pos hj,List.getElem?_drop,zC (by omega)]; rfl
theorem Qdy:zP 64 (zR .u8 0)=#[.int .u8 0,.int .u8 0,.int .u8 0,.int .u8 0,.int .u8 0,.int .u8 0,.int .u8 0,.int .u8 0,.int .u8 0,.int .u8 0,.int .u8 0,.int .u8 0,.int .u8 0,.int .u8 0,.int .u8 0,.int .u8 0,.int .u8 0,.int .u8 0,.int .u8 0,.int .u8 0,.int .u8 0,.int .u8 0,.int .u8 0,.int .u8 0,.int .u8 0,.int .u8 0,.int .u8 0,.int .u8 0,.int .u8 0,.int .u8 0,.int .u8 0,.int .u8 0,.int .u8 0,.int .u8 0,.int .u8 0,.int .u8 0,.int .u8 0,.int .u8 0,.int .u8 0,.int .u8 0,.int .u8 0,.int .u8 0,.int .u8 0,.int .u8 0,.int .u8 0,.int .u8 0,.int .u8 0,.int .u8 0,.int .u8 0,.int .u8 0,.int .u8 0,.int .u8 0,.int .u8 0,.int .u8 0,.int .u8 0,.int .u8 0,.int .u8 0,.int .u8 0,.int .u8 0,.int .u8 0,.int .u8 0,.int .u8 0,.int .u8 0,.int .u8 0]:=rfl
theorem Q94:zP 32 (zR .u8 0)=#[.int .u8 0,.int .u8 0,.int .u8 0,.int .u8 0,.int .u8 0,.int .u8 0,.int .u8 0,.int .u8 0,.int .u8 0,.int .u8 0,.int .u8 0,.int .u8 0,.int .u8 0,.int .u8 0,.int .u8 0,.int .u8 0,.int .u8 0,.int .u8 0,.int .u8 0,.int .u8 0,.int .u8 0,.int .u8 0,.int .u8 0,.int .u8 0,.int .u8 0,.int .u8 0,.int .u8 0,.int .u8 0,.int .u8 0,.int .u8 0,.int .u8 0,.int .u8 0]:=rfl
theorem Qea (A:Option Addr) (n c:Nat) (xs:List UInt8) (w:zA) (B:Nat) (h:Q08 w B 1 A n (xs.map vb)) (hB:B<=w.heap.size) (hn:n<=140737488355200) :
 Calls zH 212 #[.slice A n c] w fun e w'=>e=.returned (.agg (bRow (Q16 xs)))/\zD w.heap.size w w':=by
 have hxn:xs.length=n:=by have:=h.1; simpa using this
 have HXN:=sH hxn;clear hxn;go_enter Tryz.func212,Tryz.ntmps212
 go_wp2_with fail
 have hWr:=Blk.new w 60 (zP 32 (.int .u8 0));have hWs:(w.alloc (.cells (zP 32 (.int .u8 0)) 60)).heap.size=w.heap.size+1:=by simp
 have hWb:=(zK w.heap.size w).alloc (zI _) (.cells (zP 32 (.int .u8 0)) 60);have hWh:=h.alloc hB (.cells (zP 32 (.int .u8 0)) 60);rw [Q94] at hWr hWs hWb hWh;generalize w.alloc _=W at hWr hWs hWb hWh ⊢;refine(Q95 A n c xs W B hWh (by omega) hn).mono ?_;rintro _ w1 ⟨v1,rfl,hO1,hb1⟩;have hs1:=hb1.size;have hlen:(Q4C xs).length % 64=0:=Qd8 xs;have hacc:=Qdb xs;have hsha:Q16 xs=outB (Q2i (acc xs).1 (acc xs).2 xs.length):=rfl;have hpl:(Q4C xs).length<=n+100:=by have:=HXN.out;have:=QdN xs.length;simp [Q4C,Q2Q]; omega
 generalize Q4C xs=p at hO1 hlen hacc hpl;generalize Q2i (acc xs).1 (acc xs).2 xs.length=SL at hacc hsha;have hR1:=hWr.below hb1 (by omega);have hE1:=hWb.trans (hb1.mono (by omega));obtain⟨A1,c1,rfl,hc1,hc2,hrd,hge⟩:=Q0f hO1;unfold maxLen at hc2;have HA:=sH hacc;have HSH:=sH hsha;have HLEN:=sH hlen;have HRD:=sH hrd;have HR1:=sH hR1;have HE1:=sH hE1;obtain⟨m,hm⟩:∃ m,m=p.length:=⟨_,rfl⟩;have HM:=sH hm;rw [<- hm] at hc1 hpl ⊢;clear hacc hsha hlen hR1 hE1 hO1 hge hrd hWr hWb hWh h hm hb1;go_wp2_with fail
 refine(QaT w1).mono ?_;rintro _ w2 ⟨rfl,hb2⟩;have hs2:=hb2.size;have HRD2:=sH (HRD.out.below hb2);have HR2:=sH (HR1.out.below hb2 HR1.out.lt);have HE2:=sH (HE1.out.trans (hb2.mono (by omega)));clear hb2;have HV:=sH (Q3x h0);have HZ:=sH (Q10 h0);generalize hv0:h0.vals=v0 at HV HZ ⊢;have HV0:=sH hv0;clear hv0;go_wp2_with (refine Q00 rfl 274 (.tmp 4) (.tmp 12) rfl w2.heap.size 0 v0 rfl rfl 274 _ (Blk.newAt rfl) (by rw [HZ.out]; rfl) (by rw [HZ.out]; simp) HV.out ?_; intro W3 hT3 hB3; rw [Q0c _ _ (by rw [HZ.out]; simp)] at hB3)
 have hR3:=hT3.blk (HR2.out.alloc _) (Nat.ne_of_lt HR2.out.lt);have hE3:=hT3.below (HE2.out.alloc HE2.out.size _) HE2.out.size;have hRD3:Q08 W3 w1.heap.size 1 A1 p.length (p.map vb):=by have h1:=HRD2.out.alloc hs2 (.cells #[zR .u32 0,zR .u32 0,zR .u32 0,zR .u32 0,zR .u32 0,zR .u32 0,zR .u32 0,zR .u32 0] 274);exact h1.keep fun q hq=>hT3.cell (by omega)
 obtain⟨g4,hg4⟩:∃ g4,g4=w2.heap.size:=⟨_,rfl⟩;rw [<- hg4] at hB3 hT3 ⊢;have hg4w:w1.heap.size<=g4:=by omega
 have hg4r:w.heap.size<g4:=by omega
 have hg4l:=hB3.lt;rw [<- HV0.out] at hB3;have HB3:=sH hB3;have HR3:=sH hR3;have HE3:=sH hE3;have HRD3:=sH hRD3;clear hT3 hB3 hR3 hE3 hRD3 hg4;go_loopw [5] (fun i wr=>∃ (k:Nat) (S:St),64*k<=m/\i=.int .i64 (64*(k:Int))/\Hid (acc (p.take (64*k))=(S,[]))/\Blk wr g4 274 S.vals/\W3.grownBy wr (some g4)) (fun i _=>m - (intOf i).toNat)
 case atStart=>exact⟨0,h0,by omega,rfl,by rw [Nat.mul_zero,List.take_zero]; exact(rfl:acc []=(h0,[])),HB3.out,World.grownBy.refl _ _⟩
 obtain⟨k,S,hk,rfl,hS,hB4,hgr⟩:=hrel;have HB4:=sH hB4;have HGR:=sH hgr;have hrs:=hgr.size;clear hB4 hgr;by_cases hlt:64*k<m
 ·have hlt2:64*k+64<=m:=by have:=HLEN.out; have:=HM.out; omega
  have hpl2:0<p.length:=by have:=HM.out; omega
  obtain⟨ad,rfl,hadb,hadc⟩:=HRD3.out.2 hpl2;have HC:=sH hadc;clear hadc;generalize hb:(p.drop (64*k)).take 64=blk;have hbl:blk.length=64:=by have:=HM.out; rw [<- hb]; simp; omega
  have hget:∀ j,j<64->p[64*k+j]?=some (blk.getD j 0):=fun j hj=>by rw [<- hb]; exact Q8d p _ j hj (by have:=HM.out; omega)
  have HBK:=sH hb;have HGET:=sH hget;have HBL:=sH hbl;clear hb hget hbl;go_wp2_with fail
  have hW4:=Blk.newAt (w:=wr) (t:=275) (cs:=zP 64 (.int .u8 0)) rfl;have hW4b:=(HB4.out).alloc (.cells (zP 64 (.int .u8 0)) 275);have hW4g:=Q4P HGR.out (.cells (zP 64 (.int .u8 0)) 275);have hW4s:(wr.alloc (.cells (zP 64 (.int .u8 0)) 275)).heap.size=wr.heap.size+1:=by simp
  rw [Qdy] at hW4 hW4b hW4g hW4s;obtain⟨g6,hg6⟩:∃ g6,g6=wr.heap.size:=⟨_,rfl⟩;rw [<- hg6] at hW4 hW4s hrs ⊢;have hg4':=HB4.out.lt;rw [<- hg6] at hg4';clear hg6;generalize wr.alloc _=W5 at hW4 hW4b hW4g hW4s ⊢;rw [<- Qdy,<- Q6G blk 64] at hW4;have HW4b:=sH hW4b;have HW4g:=sH hW4g;have HW4:=sH hW4;clear hW4 hW4b hW4g;go_wp2_with fail
  go_loopw [7] (fun i wr=>∃ j:Nat,j<=64/\i=.int .i64 j/\Blk wr g6 275 (Q3U blk 64 j)/\Q0b g6 W5 wr) (fun i _=>64 - (intOf i).toNat)
  case atStart=>exact⟨0,by omega,rfl,HW4.out,Q0b.refl _ _⟩
  obtain⟨j,hj,rfl,hBj,hTj⟩:=hrel;by_cases hj1:j<64
  ·have e1:((64*(k:Int)+(j:Int))).toNat=64*k+j:=by omega
   have hsrc:wr.cell? (ad.add (64*k+j))=some (.int .u8 (bi (blk.getD j 0))):=by
    have h1:=HC.out (64*k+j) (vb (blk.getD j 0)) (by rw [List.getElem?_map,HGET.out j hj1]; rfl);have hne:(ad.add (64*k+j)).block≠g6:=by rw [Q0a]; omega
    rw [hTj.cell hne,World.cell?_of_block (HW4g.out.block _ (by rw [Q0a]; omega) (by rw [Q0a]; intro e; injection e with e; omega))];exact h1
   have hdst:=(hBj.cell j).trans (Q8w blk 64 j hj1);have hfz:=hBj.frozen j;have HBj:=sH hBj;have HTj:=sH hTj;clear hBj hTj
   go_wp2
   go_roundw
   case rel =>have h2:=HBj.out.set_ j (vb (blk.getD j 0));rw [Q6B] at h2;exact⟨j+1,by omega,by go_num,h2,HTj.out.trans (Q0b.setCell _ ⟨g6,j,none⟩ _)⟩
   case measure=>simp [intOf]; omega
  obtain rfl:j=64:=by omega
  rw [Q6C blk 64 HBL.out] at hBj;have hB4:=hTj.blk HW4b.out (by omega);have hgr:=Q6J HW4g.out hTj (by omega);have hbs:(bRow blk).size=64:=by rw [Q1p,HBL.out]
  have HR:=sH (fun W=>QaW S blk HBL.out W);have HBS:=sH hbs;have HB6:=sH hBj;have HB4:=sH hB4;have HGR:=sH hgr;have HVZ:=sH (Q10 S);have HCZ:=sH (Q10 (Q0w S blk));have HCA:=sH (Q3x (Q0w S blk));clear hbs hBj hB4 hgr hTj;generalize bRow blk=br at HBS HB6 HR;generalize S.vals=sv at HB4 HVZ HR;generalize hcv:(Q0w S blk).vals=cv at HCZ HCA HR;have HCV:=sH hcv;clear hcv;go_wp2_with (first
   | (refine Q01 rfl 274 (.tmp 4) rfl g4 0 8 rfl 274 _ sv _ HB4.out Tryz.underlying274 rfl rfl HVZ.out (fun _ _=>by rw [zN]) ?_)
   | (refine Q01 rfl 275 (.tmp 6) rfl g6 0 64 rfl 275 _ br _ HB6.out Tryz.underlying275 rfl rfl HBS.out (fun _ _=>by rw [zN]) ?_)
   | fail)
  refine(HR.out _).mono ?_;rintro _ w6 ⟨rfl,hb6⟩;have hB46:=HB4.out.below hb6 HB4.out.lt;have hgr6:=HGR.out.trans (Q0R hb6 (some g4));have HB46:=sH hB46;have HGR6:=sH hgr6;clear hB46 hgr6 hb6;go_wp2_with (refine Q00 rfl 274 (.tmp 4) (.tmp 33) rfl g4 0 cv rfl rfl 274 _ HB46.out (by rw [HCZ.out]; rfl) (by rw [HCZ.out,HVZ.out]; omega) HCA.out ?_; intro W7 hT7 hB7; rw [Q0c _ _ (by rw [HCZ.out,HVZ.out])] at hB7)
  go_roundw
  case rel =>rw [<- HCV.out] at hB7;refine⟨k+1,Q0w S blk,by omega,by go_num,?_,hB7,HGR6.out.trans hT7.grown⟩;have:=acc_step p k S hS (by have:=HM.out; omega);rw [HBK.out] at this;exact this
  case measure=>simp [intOf]; omega
 have hSL:S=SL:=by
  have h1:acc (p.take (64*k))=(S,[]):=hS;have h2:=HA.out;rw [zQ (by have:=HM.out; omega),h2] at h1;injection h1 with h1
  exact h1.symm
 subst hSL;have hR:=HR3.out.grown HGR.out (by intro e; injection e with e; omega);have hE:=Q0e HE3.out HE3.out.size HGR.out (fun b hb=>by injection hb with hb; omega);have HR:=sH hR;have HE:=sH hE;have hsz:=hE.size;clear hR hE;go_wp2_with fail
 have hD:=Blk.newAt (w:=wr) (t:=60) (cs:=zP 32 (.int .u8 0)) rfl;have hs6:=(HB4.out).alloc (.cells (zP 32 (.int .u8 0)) 60);have hr6:=(HR.out).alloc (.cells (zP 32 (.int .u8 0)) 60);have hE6:=(HE.out).alloc hsz (.cells (zP 32 (.int .u8 0)) 60);rw [Q94] at hD hs6 hr6 hE6;obtain⟨gd,hgd⟩:∃ gd,gd=wr.heap.size:=⟨_,rfl⟩;have hgs:=HB4.out.lt;have hgr:=HR.out.lt;rw [<- hgd] at hD hgs hgr hsz ⊢;clear hgd;generalize wr.alloc _=W6 at hD hs6 hr6 hE6 ⊢;rw [<- Q94,<- Q6G (outB S) 32] at hD;have HD:=sH hD;have HS6:=sH hs6;have HR6:=sH hr6;have HE6:=sH hE6;clear hD hs6 hr6 hE6;go_wp2_with fail
 go_loopw [9] (fun i wr=>∃ k:Nat,k<=32/\i=.int .i64 k/\Blk wr gd 60 (Q3U (outB S) 32 k)/\Q0b gd W6 wr) (fun i _=>32 - (intOf i).toNat)
 case atStart=>exact⟨0,by omega,rfl,HD.out,Q0b.refl _ _⟩
 obtain⟨k,hk,rfl,hBk,hTk⟩:=hrel;by_cases hk8:k<32
 ·have e1:((k:Int) / 4).toNat=k / 4:=by omega
  have e2:((24:Int) - 8*((k:Int) % 4)).toNat=24 - 8*(k % 4):=by omega
  have cs0:=((hTk.blk HS6.out (by omega)).cell (k / 4)).trans (QbV S (k / 4) (by omega));have cd0:=(hBk.cell k).trans (Q8w _ _ k hk8);have fd0:=hBk.frozen k;have HBk:=sH hBk;have HTk:=sH hTk;clear hBk hTk
  go_wp2
  go_roundw
  case rel =>have h2:=HBk.out.set_ k (vb ((outB S).getD k 0));rw [Q6B,Qce _ k hk8] at h2;exact⟨k+1,by omega,by go_num,h2,HTk.out.trans (Q0b.setCell wr ⟨gd,k,none⟩ _)⟩
  case measure=>simp [intOf]; omega
 obtain rfl:k=32:=by omega
 rw [Q6C _ 32 (Q5L _),<- HSH.out] at hBk;have hr7:=hTk.blk HR6.out (by omega);have hE7:=hTk.below HE6.out hsz;have hbs:=Q1p (Q16 xs);rw [Q2G] at hbs;have HBk:=sH hBk;have HR7:=sH hr7;have HE7:=sH hE7;have HON:=sH (Q0K (Q16 xs));have HBS:=sH hbs;clear hBk hTk hr7 hE7 hbs;generalize hd:bRow (Q16 xs)=d at HBk HON HBS;have HDD:=sH hd;clear hd;go_wp2_with (first
  | (refine Q01 rfl 60 (.tmp 8) rfl gd 0 32 rfl 60 _ d _ HBk.out zT rfl rfl HBS.out (fun _ _=>by rw [zN]) ?_)
  | (refine Q00 rfl 60 (.tmp 2) (.tmp 50) rfl w.heap.size 0 d rfl rfl 60 _ HR7.out (by rw [HBS.out]; rfl) (by rw [HBS.out]; simp) HON.out ?_; intro W8 hT8 hB8; rw [Q0c _ _ (by rw [HBS.out]; simp)] at hB8))
 refine bodyPost_ret (Q0t rfl _ _ w.heap.size 32 60 _ _ rfl hB8 zT rfl rfl HBS.out) rfl ⟨by rw [HDD.out],hT8.below HE7.out (zI _)⟩
end
section
open Go.RowKit Go.Maps
def Held (lv:zB) (vs:List zB) (b:Nat):Prop:=lv.ownBlock=some b\/∃ v,v∈vs/\v.ownBlock=some b
def Q5D (lv:zB) (many:Nat):Array zB:=#[lv,.int .i64 (many:Int)]
structure Q17 (w:zA) (r B:Nat) (lv:zB) (vs:List zB) (l:LL) (many:Nat):Prop where
 lt:r<B
 cells:Blk w r 186 (Q5D lv many)
 row:w.ownsRow B 22 1 lv l.length vs
 each:∀ (j:Nat) (x:List UInt8),l[j]?=some x->∃ v,vs[j]?=some v/\OwnB w B v x/\(∀ b,v.ownBlock=some b->lv.ownBlock≠some b)
theorem Q17.len {w:zA} {r B many:Nat} {lv:zB} {vs:List zB} {l:LL} (h:Q17 w r B lv vs l many):vs.length=l.length:=by have:=h.row.1; omega
theorem Q17.row_lt {w:zA} {r B many:Nat} {lv:zB} {vs:List zB} {l:LL} (h:Q17 w r B lv vs l many) {b:Nat} (hb:lv.ownBlock=some b):B<=b/\b<w.heap.size:=by
 rcases h.row.2 with⟨rfl,_⟩ | ⟨g,cap,cur,rfl,hg,hh,_⟩
 ·simp [zG] at hb
 simp [zG] at hb; subst hb;refine⟨hg,?_⟩;rcases zE g w.heap.size with h | h
 ·exact h
 rw [Array.getElem?_eq_none h] at hh; cases hh
theorem Q17.held {w:zA} {r B many:Nat} {lv:zB} {vs:List zB} {l:LL} (h:Q17 w r B lv vs l many) {b:Nat} (hb:Held lv vs b):B<=b/\b<w.heap.size:=by
 rcases hb with hb | ⟨v,hv,hb⟩
 ·exact h.row_lt hb
 obtain⟨j,hj,hj2⟩:=List.getElem_of_mem hv;have hl:=h.len;obtain⟨v',hv',ho,_⟩:=h.each j l[j] (zC (by omega));rw [zC hj,hj2] at hv';injection hv' with hv'
 subst hv';exact⟨ho.ge hb,ho.lt hb⟩
theorem Q6T {w w':zA} {B:Nat} {e:TypeId} {s n:Nat} {lv:zB} {vs:List zB} (h:w.ownsRow B e s lv n vs) (hk:∀ b,lv.ownBlock=some b->w'.heap[b]?=w.heap[b]?):w'.ownsRow B e s lv n vs:=by
 refine⟨h.1,?_⟩;rcases h.2 with h0 | ⟨g,cap,cur,rfl,hg,hh,h1⟩
 ·exact .inl h0
 exact .inr ⟨g,cap,cur,rfl,hg,(hk g rfl).trans hh,h1⟩
theorem Q17.keep {w w':zA} {r B many:Nat} {lv:zB} {vs:List zB} {l:LL} (h:Q17 w r B lv vs l many) (hr:w'.heap[r]?=w.heap[r]?) (hk:∀ b,Held lv vs b->w'.heap[b]?=w.heap[b]?):Q17 w' r B lv vs l many :=⟨h.lt,hr.trans h.cells,Q6T h.row fun b hb=>hk b (.inl hb),fun j x hx=>by obtain⟨v,h1,h2,h3⟩:=h.each j x hx;exact⟨v,h1,h2.keep fun b hb=>hk b (.inr ⟨v,List.mem_of_getElem? h1,hb⟩),h3⟩⟩
theorem Q17.below {w w':zA} {r B many:Nat} {lv:zB} {vs:List zB} {l:LL} (h:Q17 w r B lv vs l many) (hb:zD w.heap.size w w'):Q17 w' r B lv vs l many :=h.keep (hb.block r h.cells.lt) fun b hh=>hb.block b (h.held hh).2
theorem Q17.at_ {w:zA} {r B many:Nat} {lv:zB} {vs:List zB} {l:LL} (h:Q17 w r B lv vs l many) {j:Nat} {x:List UInt8} (hj:l[j]?=some x) :
 ∃ ad cap A m c,lv=.slice (some ad) l.length cap/\w.cell? (ad.add j)=some (.slice A m c)/\m<=c/\c<=maxLen/\Q08 w w.heap.size 1 A m (x.map vb)/\ad.block<w.heap.size:=by
 have hlt:j<l.length:=by
  rcases zE j l.length with h | h
  ·exact h
  rw [List.getElem?_eq_none h] at hj; cases hj
 obtain⟨v,hv,ho,_⟩:=h.each j x hj;obtain⟨g,cap,hlv,hg,hgl⟩:=h.row.form (by omega);obtain⟨A,c,rfl,h1,h2,h3,h4⟩:=Q0f ho;have hrow:=h.row;rw [hlv] at hrow;exact⟨_,cap,A,x.length,c,hlv,hrow.cells (g:=g) rfl j _ hv,h1,h2,h3,hgl⟩
structure Q1i (r:Nat) (lv:zB) (w w':zA):Prop where
 os:w'.os=w.os
 tape:w'.tape=w.tape
 output:w'.output=w.output
 size:w.heap.size<=w'.heap.size
 block:∀ i,i<w.heap.size->i≠r->lv.ownBlock≠some i->w'.heap[i]?=w.heap[i]?
theorem Q1i.trans_below {r:Nat} {lv:zB} {a b c:zA} (h:Q1i r lv a b) (h':zD b.heap.size b c):Q1i r lv a c :=⟨h'.os.trans h.os,h'.tape.trans h.tape,h'.output.trans h.output,Nat.le_trans h.size h'.size,fun i hi h1 h2=>(h'.block i (Nat.lt_of_lt_of_le hi h.size)).trans (h.block i hi h1 h2)⟩
theorem Q1i.of_below {r:Nat} {lv:zB} {b c:zA} (h':zD b.heap.size b c):Q1i r lv b c :=⟨h'.os,h'.tape,h'.output,h'.size,fun i hi h1 h2=>h'.block i hi⟩
theorem Q1i.set {r:Nat} {lv:zB} {a b:zA} (h:Q1i r lv a b) (i:Nat) (u:zB):Q1i r lv a (b.setCell ⟨r,i,none⟩ u) :=⟨h.os,h.tape,h.output,by simpa [World.setCell] using h.size,fun j hj h1 h2=>(zF b ⟨r,i,none⟩ u j h1).trans (h.block j hj h1 h2)⟩
theorem Q1i.grown {r:Nat} {lv:zB} {a b c:zA} (h:Q1i r lv a b) (h':b.grownBy c lv.ownBlock):Q1i r lv a c :=⟨h'.os.trans h.os,h'.tape.trans h.tape,h'.output.trans h.output,Nat.le_trans h.size h'.size,fun i hi h1 h2=>(h'.block i (Nat.lt_of_lt_of_le hi h.size) (fun e=>h2 e.symm)).trans (h.block i hi h1 h2)⟩
theorem Q1i.later {r g:Nat} {lv:zB} {a b c:zA} (h:Q1i r lv a b) (h':Q0b g b c) (hg:a.heap.size<=g):Q1i r lv a c :=⟨h'.os.trans h.os,h'.tape.trans h.tape,h'.output.trans h.output,by have:=h'.size; have:=h.size; omega,fun i hi h1 h2=>(h'.block i (by omega)).trans (h.block i hi h1 h2)⟩
theorem QbN (w:zA):Calls zH 74 #[] w fun e w'=>∃ r,e=.returned (.pointer (some ⟨r,0,none⟩))/\w.heap.size<=r/\r<w'.heap.size/\Blk w' r 186 (Q5D (.slice none 0 0) 0)/\zD w.heap.size w w':=by
 go_enter Tryz.func74,Tryz.ntmps74
 go_wp2
 go_ret
 exact⟨w.heap.size,rfl,zI _,by simp,Blk.newAt rfl,(zK _ _).alloc (zI _) _⟩
theorem Q17.start {w:zA} {r B:Nat} (h:Blk w r 186 (Q5D (.slice none 0 0) 0)) (hB:r<B):Q17 w r B (.slice none 0 0) [] [] 0 :=⟨hB,h,⟨rfl,.inl ⟨rfl,rfl⟩⟩,fun j x hx=>by simp at hx⟩
theorem Q17.shape {w:zA} {r B many:Nat} {lv:zB} {vs:List zB} {l:LL} (h:Q17 w r B lv vs l many):∃ A cap,lv=.slice A l.length cap:=by
 rcases h.row.2 with⟨rfl,h0⟩ | ⟨g,cap,cur,rfl,_⟩
 ·exact⟨none,0,by rw [h0]⟩
 exact⟨_,cap,rfl⟩
theorem Qdi (r:Nat) (A:Option Addr) (n c:Nat) (w:zA) (hn:65536<n) (hc:n<=c) (hcm:c<=maxLen) :
 Calls zH 192 #[.pointer (some ⟨r,0,none⟩),.slice A n c] w fun e w'=>e=.returned (.tuple #[.agg inkZ,.int .i64 5])/\zD w.heap.size w w':=by
 have hz:inkZ.size=32:=by simp [inkZ,bRow]
 have ho:inkZ.all (·.oneCell')=true:=Q0K _;have he:inkZ=#[.int .u8 0,.int .u8 0,.int .u8 0,.int .u8 0,.int .u8 0,.int .u8 0,.int .u8 0,.int .u8 0,.int .u8 0,.int .u8 0,.int .u8 0,.int .u8 0,.int .u8 0,.int .u8 0,.int .u8 0,.int .u8 0,.int .u8 0,.int .u8 0,.int .u8 0,.int .u8 0,.int .u8 0,.int .u8 0,.int .u8 0,.int .u8 0,.int .u8 0,.int .u8 0,.int .u8 0,.int .u8 0,.int .u8 0,.int .u8 0,.int .u8 0,.int .u8 0]:=by kernel_rfl
 have HZ:=sH hz;have HO:=sH ho;have HE:=sH he;clear hz ho he;generalize inkZ=zd at HZ HO HE ⊢;have hX:zD w.heap.size w (w.alloc (.cells zd 60)):=(zK _ _).alloc (zI _) _;have HX:=sH hX;unfold maxLen at hcm;clear hX;go_enter Tryz.func192,Tryz.ntmps192
 go_wp2_with (refine Q00 rfl 60 (.tmp 4) _ rfl w.heap.size 0 zd rfl (by rw [HE.out]; rfl) 60 zd (by rw [HE.out]; exact Blk.newAt rfl) (by rw [HZ.out]; rfl) (by rw [HZ.out]; simp) HO.out ?_; intro W5 hT5 hB5; rw [Q0c _ _ rfl] at hB5)
 refine bodyPost_ret (Q09 rfl _ _ w.heap.size 32 60 _ _ rfl hB5 zT rfl rfl HZ.out) rfl ⟨rfl,?_⟩;have:=HX.out;rw [HE.out] at this;exact hT5.below this (zI _)
theorem Qdr {wr w6:zA} {B:Nat} {e:TypeId} {s n:Nat} {lv:zB} {vs:List zB} (h:wr.ownsRow B e s lv n vs) (hb:zD wr.heap.size wr w6) (o:Obj):(w6.alloc o).ownsRow B e s lv n vs :=
 Q6T h fun b hv=>by
  have hlt:b<wr.heap.size:=by
   rcases h.2 with⟨rfl,_⟩ | ⟨g,cap,cur,rfl,hg,hh,_⟩
   ·simp [zG] at hv
   simp [zG] at hv; subst hv;rcases zE g wr.heap.size with h | h
   ·exact h
   rw [Array.getElem?_eq_none h] at hh; cases hh
  exact(Below.heap_alloc w6 o b (by have:=hb.size; omega)).trans (hb.block b hlt)
theorem QdK (w:zA) (x:zB) (t:TypeId):Q08 (w.alloc (.cells #[x] t)) (w.heap.size+1) 1 (some ⟨w.heap.size,0,none⟩) 1 [x] :=⟨rfl,fun _=>⟨_,rfl,Nat.lt_succ_self _,cell_one_new w x t⟩⟩
theorem Qdq {w:zA} {B:Nat} {e:TypeId} {s n:Nat} {v:zB} {vs:List zB} (h:w.ownsRow B e s v n vs):∃ A c,v=.slice A n c:=by
 rcases h.2 with⟨rfl,h0⟩ | ⟨g,cap,cur,rfl,_⟩
 ·exact⟨none,0,by rw [h0]⟩
 exact⟨_,cap,rfl⟩
theorem Q17.row_ne {w:zA} {r B many:Nat} {lv:zB} {vs:List zB} {l:LL} (h:Q17 w r B lv vs l many):lv.ownBlock≠some r:=fun e=>by have:=h.row_lt e; have:=h.lt; omega
theorem Q17.snoc {wr w6 w8:zA} {r B many:Nat} {lv v v8:zB} {vs:List zB} {l:LL} {xs:List UInt8} {o:Obj} (h:Q17 wr r B lv vs l many) (hb6:zD wr.heap.size wr w6) (hov:OwnB w6 wr.heap.size v xs)
 (hown8:w8.ownsRow B 22 1 v8 (l.length+1) (vs++[v])) (hg8:(w6.alloc o).grownBy w8 lv.ownBlock) (hor8:v8.ownBlock=lv.ownBlock\/v8.ownBlock=some (w6.alloc o).heap.size) (hB:B<=wr.heap.size) :
 Q17 (w8.setCell ⟨r,0,none⟩ v8) r B v8 (vs++[v]) (l++[xs]) many:=by
 have hs6:=hb6.size;have hsa:(w6.alloc o).heap.size=w6.heap.size+1:=by simp
 have hbo:=fun b (hb:v8.ownBlock=some b)=>(show (lv.ownBlock=some b\/b=w6.heap.size+1) by
  rcases hor8 with e | e
  ·exact .inl (e▸hb)
  rw [e,hsa] at hb; injection hb with hb; exact .inr hb.symm)
 have hrs:=h.cells.lt;have hlt:=h.lt;have hne:v8.ownBlock≠some r:=fun e=>by
  rcases hbo r e with e | e
  ·exact h.row_ne e
  omega
 refine⟨hlt,?_,?_,fun j x hj=>?_⟩
 ·exact((((h.cells.below' hb6).alloc o).grown hg8 (fun e=>h.row_ne e.symm)).set_ 0 v8)
 ·rw [zJ];exact Q6T hown8 fun b hb=>zF w8 ⟨r,0,none⟩ v8 b (fun e=>hne (by rw [hb]; exact congrArg some e))
 rcases zE j l.length with hjl | hjl
 ·rw [List.getElem?_append_left hjl] at hj;obtain⟨u,hu,ho,hd⟩:=h.each j x hj;have hul:j<vs.length:=by rw [h.len]; exact hjl
  refine⟨u,by rw [List.getElem?_append_left hul]; exact hu,?_,fun b hb e=>?_⟩
  ·refine ho.keep fun b hb=>?_
   have h1:=ho.lt hb;have h2:=ho.ge hb;exact(zF w8 ⟨r,0,none⟩ v8 b (by show b≠r; omega)).trans ((hg8.block b (by omega) (fun e=>hd b hb e.symm)).trans ((Below.heap_alloc w6 o b (by omega)).trans (hb6.block b h1)))
  have h1:=ho.lt hb;rcases hbo b e with e | e
  ·exact hd b hb e
  omega
 rw [List.getElem?_append_right hjl] at hj;have hj0:j - l.length=0:=by
  rcases Nat.eq_zero_or_pos (j - l.length) with h | h
  ·exact h
  rw [List.getElem?_eq_none (by simp; omega)] at hj; cases hj
 rw [hj0] at hj;simp at hj;subst hj;have hul:vs.length<=j:=by rw [h.len]; exact hjl
 refine⟨v,by rw [List.getElem?_append_right hul,h.len,hj0]; rfl,?_,fun b hb e=>?_⟩
 ·refine(hov.more hB).keep fun b hb=>?_
  have h1:=hov.lt hb;have h2:=hov.ge hb;exact(zF w8 ⟨r,0,none⟩ v8 b (by show b≠r; omega)).trans ((hg8.block b (by omega) (fun e=>by have:=h.row_lt e.symm; omega)).trans (Below.heap_alloc w6 o b (by omega)))
 have h1:=hov.lt hb;have h2:=hov.ge hb;rcases hbo b e with e | e
 ·have:=h.row_lt e; omega
 omega
theorem Q17.snoc_held {wr w6:zA} {r B many:Nat} {lv v v8:zB} {vs:List zB} {l:LL} {xs:List UInt8} {o:Obj} (h:Q17 wr r B lv vs l many) (hb6:zD wr.heap.size wr w6) (hov:OwnB w6 wr.heap.size v xs)
 (hor8:v8.ownBlock=lv.ownBlock\/v8.ownBlock=some (w6.alloc o).heap.size):∀ b,Held v8 (vs++[v]) b->Held lv vs b\/wr.heap.size<=b:=by
 have hs6:=hb6.size;have hsa:(w6.alloc o).heap.size=w6.heap.size+1:=by simp
 rintro b (hb | ⟨u,hu,hb⟩)
 ·rcases hor8 with e | e
  ·exact .inl (.inl (e▸hb))
  rw [e,hsa] at hb; injection hb with hb; exact .inr (by omega)
 rcases List.mem_append.1 hu with hu | hu
 ·exact .inl (.inr ⟨u,hu,hb⟩)
 rw [List.mem_singleton] at hu;subst hu;exact .inr (hov.ge hb)
theorem QbL {l:LL} {x:List UInt8} (h:x∈l):Q13 l x=l:=by unfold Q13; rw [if_pos h]
theorem Qdm {l:LL} {x:List UInt8} (h:x∉l):Q13 l x=l++[x]:=by unfold Q13; rw [if_neg h]
theorem Q17.asked {w:zA} {r B many:Nat} {lv:zB} {vs:List zB} {l:LL} (h:Q17 w r B lv vs l many):Q17 (w.setCell ⟨r,1,none⟩ (.int .i64 ((many+1:Nat):Int))) r B lv vs l (many+1) :=⟨h.lt,h.cells.set_ 1 _,Q6T h.row fun b hb=>zF w ⟨r,1,none⟩ _ b (by have:=h.row_lt hb; have:=h.lt; show b≠r; omega),fun j x hx=>by obtain⟨v,h1,h2,h3⟩:=h.each j x hx;exact⟨v,h1,h2.keep fun b hb=>zF w ⟨r,1,none⟩ _ b (by have:=h2.ge hb; have:=h.lt; show b≠r; omega),h3⟩⟩
theorem QcX (r B many:Nat) (lv:zB) (vs:List zB) (l:LL) (A:Option Addr) (n c:Nat) (xs:List UInt8) (w:zA) (Bx:Nat) (h:Q17 w r B lv vs l many) (hr:Q08 w Bx 1 A n (xs.map vb)) (hB:Bx<=w.heap.size)
 (hBB:B<=w.heap.size) (hx:∀ a,0<n->A=some a->a.block≠r) (hn:n<=65536) (hl:l.length<=1000000) (hm:many<=1000000) :
 Calls zH 192 #[.pointer (some ⟨r,0,none⟩),.slice A n c] w fun e w'=>∃ lv' vs',e=.returned (.tuple #[.agg (bRow (Q16 xs)),.int .i64 0])/\Q17 w' r B lv' vs' (Q13 l xs) (many+1)/\(∀ b,Held lv' vs' b->Held lv vs b\/w.heap.size<=b)/\Q1i r lv w w':=by
 have hxn:xs.length=n:=by have:=hr.1; simpa using this
 have HXN:=sH hxn;have HK:=sH hx;have HN:=sH h;have HRD:=sH hr;have hrs:=h.cells.lt;clear h hr hxn hx;go_enter Tryz.func192,Tryz.ntmps192
 go_upto_region 3 with fail
 have hW:=Blk.new w 60 (zP 32 (.int .u8 0));have hX1:zD w.heap.size w (w.alloc (.cells (zP 32 (.int .u8 0)) 60)):=(zK _ _).alloc (zI _) _;have hS1:(w.alloc (.cells (zP 32 (.int .u8 0)) 60)).heap.size=w.heap.size+1:=by simp
 have HN1:=sH (HN.out.below hX1);have HRD1:=sH (HRD.out.below (hX1.mono hB));rw [Qco] at hW hX1 hS1 HN1 HRD1;obtain⟨gd,hgd⟩:∃ g,g=w.heap.size:=⟨_,rfl⟩;rw [<- hgd] at hW hS1 ⊢;generalize w.alloc _=W1 at hW hX1 hS1 HN1 HRD1 ⊢;have HGD:=sH hgd;rw [<- hgd] at hrs;have hgB:Bx<=gd:=by omega
 have hgBB:B<=gd:=by omega
 clear hgd;have HD1:=sH hW;have HX1:=sH hX1;clear hW hX1;have c1:W1.cell? ⟨r,1,none⟩=some (.int .i64 (many:Int)):=(HN1.out.cells.cell 1).trans rfl;have f1:=HN1.out.cells.frozen 1;go_wp2_with fail
 rw [show ((many:Int)+1)=((many+1:Nat):Int) by omega];have HT2:=sH (Q0b.setCell W1 ⟨r,1,none⟩ (.int .i64 ((many+1:Nat):Int)));have HN2:=sH HN1.out.asked;have HO2:=sH ((Q1i.of_below (r:=r) (lv:=lv) HX1.out).set 1 (.int .i64 ((many+1:Nat):Int)));generalize W1.setCell _ _=W2 at HT2 HN2 HO2 ⊢;have hs2:=HT2.out.size;clear c1 f1;have hrd2:Q08 W2 Bx 1 A n (xs.map vb):=HRD1.out.keepAt (fun a h0 ha p hp=>HT2.out.cell (by have:=HK.out a h0 ha; show p.block≠r; omega));refine(Qea A n c xs W2 Bx hrd2 (by omega) (by omega)).mono ?_;rintro _ W3 ⟨rfl,hb3⟩;have HN3:=sH (HN2.out.below hb3);have HRD3:=sH (hrd2.below (hb3.mono (by omega)));have HD3:=sH ((HT2.out.blk HD1.out (by show gd≠r; omega)).below hb3 (by omega));have HO3:=sH (HO2.out.trans_below hb3);have hs3:=hb3.size;clear hb3 hrd2;have hdl:=Q2G xs;have hds:(bRow (Q16 xs)).size=32:=by rw [Q1p,hdl]
 have HDS:=sH hds;have HDO:=sH (Q0K (Q16 xs));clear hdl hds;generalize hd:bRow (Q16 xs)=D at HDS HDO ⊢;have HDD:=sH hd;clear hd;go_upto_region 5 with(refine Q00 rfl 60 (.tmp 6) (.tmp 21) rfl W3.heap.size 0 D rfl rfl 60 _ (Blk.newAt rfl) (by rw [HDS.out]; rfl) (by rw [HDS.out]; simp) HDO.out ?_; intro W4 hT4 hB4; rw [Q0c _ _ (by rw [HDS.out]; simp)] at hB4)
 have hX4:zD W3.heap.size W3 W4:=hT4.below ((zK _ _).alloc (zI _) _) (zI _);have HN4:=sH (HN3.out.below hX4);have HRD4:=sH (HRD3.out.below (hX4.mono (by omega)));have HD4:=sH (HD3.out.below' hX4);have HO4:=sH (HO3.out.trans_below hX4);have hs4:=hX4.size;obtain⟨ge,hge⟩:∃ g,g=W3.heap.size:=⟨_,rfl⟩;rw [<- hge] at hB4 ⊢;have hgel:gd<ge:=by omega
 have HB4:=sH hB4;clear hT4 hX4 hB4 hge;go_wp2_with fail
 go_loopw [7] (fun jv wr=>∃ j:Nat,j<=l.length/\jv=.int .i64 j/\(∀ k y,k<j->l[k]?=some y->y≠xs)/\zD W4.heap.size W4 wr) (fun jv _=>l.length - (intOf jv).toNat)
 case atStart=>exact⟨0,by omega,rfl,by omega,zK _ _⟩
 obtain⟨j,hj,rfl,hno,hE⟩:=hrel;have HNO:=sH hno;have HE:=sH hE;have hse:=hE.size;clear hE hno;have HNE:=sH (HN4.out.below HE.out);obtain⟨LA,Lc,hlv⟩:=HNE.out.shape;have c0:wr.cell? ⟨r,0,none⟩=some (.slice LA l.length Lc):=by rw [<- hlv]; exact(HNE.out.cells.cell 0).trans rfl
 by_cases hjl:j<l.length
 ·obtain⟨ad,cap,Aj,mj,cj,hlv',hcell,hmc,hcm,hrj,hadb⟩:=HNE.out.at_ (zC hjl);rw [hlv] at hlv';injection hlv' with h1 h2 h3
  subst h1;subst h3;have hrde:=HRD4.out.below (HE.out.mono (by omega));have hmj:l[j].length=mj:=by have:=hrj.1; simpa using this
  have heq:=Q2b Aj A mj n cj c l[j] xs wr _ _ hrj hrde (by unfold maxLen at hcm ⊢; omega) (by unfold maxLen; omega);by_cases hyx:l[j]=xs
  ·rw [decide_eq_true hyx] at heq;have hadd:Q13 l xs=l:=QbL (hyx▸List.getElem_mem hjl);have HAD:=sH hadd;clear hadd;go_wp2_with fail
   refine heq.mono ?_;rintro _ W5 ⟨rfl,q,hq⟩;have hb5:zD wr.heap.size wr W5:=hq▸Q0v (zK _ _) q;have HN5:=sH (HNE.out.below hb5);have hEb:=HE.out.trans (hb5.mono hse);have HD5:=sH (HD4.out.below' hEb);have HB5:=sH (HB4.out.below' hEb);have HO5:=sH (HO4.out.trans_below hEb);clear hq hb5 hEb;go_wp2_with (first
    | (refine Q01 rfl 60 (.tmp 6) rfl ge 0 32 rfl 60 _ D _ HB5.out zT rfl rfl HDS.out (fun _ _=>by rw [zN]) ?_)
    | (refine Q00 rfl 60 (.tmp 4) (.tmp 40) rfl gd 0 D rfl rfl 60 _ HD5.out (by rw [HDS.out]; rfl) (by rw [HDS.out]; simp) HDO.out ?_; intro W8 hT8 hB8; rw [Q0c _ _ (by rw [HDS.out]; rfl)] at hB8))
   refine bodyPost_ret (Q09 rfl _ _ gd 32 60 _ _ rfl hB8 zT rfl rfl HDS.out) rfl ⟨lv,vs,by rw [HDD.out]; rfl,?_,fun b hb=>.inl hb,?_⟩
   ·rw [HAD.out];exact HN5.out.keep (hT8.block r (by omega)) fun b hb=>hT8.block b (by have:=HN4.out.held hb; have:=HN.out.held hb; have:=HGD.out; omega)
   exact HO5.out.later hT8 (by have:=HGD.out; omega)
  rw [decide_eq_false hyx] at heq;go_wp2_with fail
  refine heq.mono ?_;rintro _ W5 ⟨rfl,q,hq⟩;have hb5:zD wr.heap.size wr W5:=hq▸Q0v (zK _ _) q;have HE5:=sH (HE.out.trans (hb5.mono hse));clear hq hb5;go_wp2_with fail
  go_roundw
  case rel =>
   refine⟨j+1,by omega,by go_num,fun k y hk hy=>?_,HE5.out⟩;rcases zE k j with h | h
   ·exact HNO.out k y h hy
   obtain rfl:k=j:=by omega
   rw [zC hjl] at hy;injection hy with hy
   exact hy▸hyx
  case measure=>simp [intOf]; omega
 obtain rfl:j=l.length:=by omega
 have hadd:Q13 l xs=l++[xs]:=Qdm (fun hm=>by obtain⟨k,hk,hk2⟩:=List.getElem_of_mem hm; exact HNO.out k _ hk (zC hk) hk2);have HAD:=sH hadd;have HCB:=sH (Q1F A n c xs wr.drew Bx (HRD4.out.below (HE.out.mono (by omega))).drew (by show Bx<=wr.heap.size; omega) (by omega));clear hadd;have HRW:=sH (fun W (hb:zD wr.heap.size wr W)=>(HNE.out.below hb));obtain⟨i0,hi0,hz0,hz1,hz2⟩:=info_parts (show (Tryz.prog.info? 22).map (fun i=>(i.zero,i.size,i.bytes))=some (some (.slice none 0 0),1,24) by kernel_rfl);go_upto_region 10 with fail
 go_region_law (first
  | (go_simp; go_at_call 8; refine HCB.out.mono ?_; rintro _ w6 ⟨v,rfl,hov,hb6'⟩; have hb6:zD wr.heap.size wr w6:=⟨hb6'.os,hb6'.tape,hb6'.output,hb6'.size,hb6'.block⟩; clear hb6'; obtain⟨Av,cv,rfl,hvc,hvm,hvr,hvB⟩:=Q0f hov; have c6:=(hb6.cell (show (⟨r,0,none⟩:Addr).block<wr.heap.size from HNE.out.cells.lt)).trans c0; have c7:=fun o=>(World.cell?_alloc_lt w6 o ⟨r,0,none⟩ (by have:=hb6.size; have:=HNE.out.cells.lt; show r<_; omega)).trans c6)
  | (refine Q80 _ rfl (.tmp 45) (.tmp 48) 23 rfl B 22 i0 _ 1 24 Tryz.underlying23 hi0 hz0 hz1 hz2 rfl (by omega) (.slice LA l.length Lc) l.length vs (rfl) (by rw [<- hlv]; exact Qdr HNE.out.row hb6 _) (w6.heap.size+1) (some ⟨w6.heap.size,0,none⟩) 1 1 [.slice Av xs.length cv] (rfl) (QdK _ _ _) (by simp [Value.oneCell']) (by unfold maxLen; omega) (by omega) (by have:=hb6.size; simp; have:wr.drew.heap.size=wr.heap.size:=rfl; omega) ?_; intro v8 w8 hown8 hg8 hor8; obtain⟨A8,C8,rfl⟩:=Qdq hown8; have HB8:=((HNE.out.cells.below' hb6).alloc _).grown hg8 (by rw [<- hlv]; exact fun e=>HNE.out.row_ne e.symm); have c8:w8.cell? ⟨r,0,none⟩=some lv:=(HB8.cell 0).trans rfl; have f8:=HB8.frozen 0))
 all_goals
  have hrw:(w6.alloc (.cells #[.slice Av xs.length cv] 22)).grownBy w8 lv.ownBlock:=hlv▸hg8
  have hor:(Value.slice A8 (l.length+1) C8).ownBlock=lv.ownBlock\/(Value.slice A8 (l.length+1) C8).ownBlock=some (w6.alloc (.cells #[.slice Av xs.length cv] 22)).heap.size:=hlv▸hor8
  have hB6:B<=wr.heap.size:=by omega
  have HN9:=sH (HNE.out.snoc hb6 (hov.more (zI wr.heap.size)) hown8 hrw hor hB6)
  have HH9:=sH (HNE.out.snoc_held hb6 (hov.more (zI wr.heap.size)) hor)
  have HO9:=sH ((((HO4.out.trans_below HE.out).trans_below hb6).trans_below ((zK _ w6).alloc (zI _) (.cells #[.slice Av xs.length cv] 22))).grown hrw |>.set 0 (.slice A8 (l.length+1) C8))
  have hB6:=HE.out.trans (hb6.mono hse)
  have HD9:=sH ((((HD4.out.below' hB6).alloc (.cells #[.slice Av xs.length cv] 22)).grown hrw (fun e=>by have:=HN4.out.row_lt e.symm; have:=HN.out.row_lt e.symm; have:=HGD.out; omega)).far (p:=⟨r,0,none⟩) (by show gd≠r; omega) (.slice A8 (l.length+1) C8))
  have HB9:=sH ((((HB4.out.below' hB6).alloc (.cells #[.slice Av xs.length cv] 22)).grown hrw (fun e=>by have:=HN.out.row_lt e.symm; have:=HGD.out; omega)).far (p:=⟨r,0,none⟩) (by show ge≠r; omega) (.slice A8 (l.length+1) C8))
  clear hrw hor hB6 hov hb6 hown8 hg8 hor8 c8 f8 HB8 c6 c7 hvc hvm hvr hvB
  generalize w8.setCell _ _=W9 at HN9 HO9 HD9 HB9 ⊢
  go_wp2_with (first
   | (refine Q01 rfl 60 (.tmp 6) rfl ge 0 32 rfl 60 _ D _ HB9.out zT rfl rfl HDS.out (fun _ _=>by rw [zN]) ?_)
   | (refine Q00 rfl 60 (.tmp 4) (.tmp 52) rfl gd 0 D rfl rfl 60 _ HD9.out (by rw [HDS.out]; rfl) (by rw [HDS.out]; simp) HDO.out ?_; intro W10 hT10 hB10; rw [Q0c _ _ (by rw [HDS.out]; rfl)] at hB10))
  refine bodyPost_ret (Q09 rfl _ _ gd 32 60 _ _ rfl hB10 zT rfl rfl HDS.out) rfl ⟨.slice A8 (l.length+1) C8,vs++[.slice Av xs.length cv],by rw [HDD.out]; rfl,?_,?_,HO9.out.later hT10 (by have:=HGD.out; omega)⟩
  ·rw [HAD.out];exact HN9.out.keep (hT10.block r (by omega)) fun b hb=>hT10.block b (by
    rcases HH9.out b hb with h | h
    ·have:=HN.out.held h; have:=HGD.out; omega
    omega)
  intro b hb;rcases HH9.out b hb with h | h
  ·exact .inl h
  exact .inr (by have:=HGD.out; omega)
theorem QcK (r B many:Nat) (lv:zB) (vs:List zB) (l:LL) (A:Option Addr) (n c:Nat) (xs:List UInt8) (w:zA) (Bx:Nat) (h:Q17 w r B lv vs l many) (hr:Q08 w Bx 1 A n (xs.map vb)) (hB:Bx<=w.heap.size)
 (hBB:B<=w.heap.size) (hx:∀ a,0<n->A=some a->a.block≠r) (hc:n<=c) (hcm:c<=maxLen) (hl:l.length<=1000000) (hm:many<=1000000) :
 Calls zH 192 #[.pointer (some ⟨r,0,none⟩),.slice A n c] w fun e w'=>∃ D code lv' vs',e=.returned (.tuple #[.agg D,.int .i64 code])/\OfAns D code xs/\Q17 w' r B lv' vs' (Q9r l xs) (Qek many xs)/\(∀ b,Held lv' vs' b->Held lv vs b\/w.heap.size<=b)/\Q1i r lv w w':=by
 have hxn:xs.length=n:=by have:=hr.1; simpa using this
 by_cases hn:n<=65536
 ·refine(QcX r B many lv vs l A n c xs w Bx h hr hB hBB hx hn hl hm).mono ?_;rintro e w' ⟨lv',vs',rfl,h1,h2,h3⟩;have hx:xs.length<=65536:=by omega
  refine⟨_,_,lv',vs',rfl,⟨by rw [Q1p,Q2G],Q0K _,fun _=>⟨rfl,rfl⟩,fun hh=>absurd hh (by omega)⟩,?_,h2,h3⟩;unfold Q9r Qek;rw [if_pos hx,if_pos hx];exact h1
 refine(Qdi r A n c w (by omega) hc hcm).mono ?_;rintro e w' ⟨rfl,hb⟩;have hx:¬ xs.length<=65536:=by omega
 refine⟨_,_,lv,vs,rfl,⟨by simp [inkZ,bRow],Q0K _,fun hh=>absurd hh hx,fun _=>⟨rfl,rfl⟩⟩,?_,fun b hb=>.inl hb,Q1i.of_below hb⟩;unfold Q9r Qek;rw [if_neg hx,if_neg hx];exact h.below hb
end
section
open Go.RowKit Go.Maps
attribute [local irreducible] wpList Q0h
structure RBk (w:zA) (r:Nat) (N:Nat->Prop) (k:Nat):Prop where
 ex:∃ B lv vs l many,Q17 w r B lv vs l many/\B<=w.heap.size/\(∀ b,Held lv vs b->¬ N b)/\l.length<=k/\many<=k
def RM (r:Nat) (N:Nat->Prop) (b:Nat):Prop:=b=r\/¬ N b
theorem RBk.below {w w':zA} {r k:Nat} {N:Nat->Prop} (h:RBk w r N k) (hb:zD w.heap.size w w'):RBk w' r N k:=by obtain⟨B,lv,vs,l,many,h1,h2,h3,h4,h5⟩:=h.ex;exact⟨B,lv,vs,l,many,h1.below hb,by have:=hb.size; omega,h3,h4,h5⟩
theorem RBk.later {w w':zA} {r k:Nat} {N:Nat->Prop} (h:RBk w r N k) (hb:zD w.heap.size w w'):RBk w' r (fun b=>N b\/(w.heap.size<=b/\b<w'.heap.size)) k:=by
 obtain⟨B,lv,vs,l,many,h1,h2,h3,h4,h5⟩:=h.ex;exact⟨B,lv,vs,l,many,h1.below hb,by have:=hb.size; omega,fun b hb hn=>by
  have:=(h1.held hb).2;rcases hn with hn | hn
  ·exact h3 b hb hn
  omega,h4,h5⟩
theorem RBk.less {w:zA} {r k k':Nat} {N N':Nat->Prop} (h:RBk w r N k) (hk:k<=k') (hN:∀ b,N' b->N b):RBk w r N' k':=by obtain⟨B,lv,vs,l,many,h1,h2,h3,h4,h5⟩:=h.ex;exact⟨B,lv,vs,l,many,h1,h2,fun b hb hn=>h3 b hb (hN b hn),by omega,by omega⟩
theorem RBk.start {w:zA} {r:Nat} (h:Blk w r 186 (Q5D (.slice none 0 0) 0)) (N:Nat->Prop):RBk w r N 0 :=
 ⟨w.heap.size,_,_,_,_,Q17.start h h.lt,zI _,(fun b hb=>by
  rcases hb with e | ⟨v,hv,_⟩
  ·cases e
  cases hv),by simp,zI _⟩
theorem RBk.lt {w:zA} {r k:Nat} {N:Nat->Prop} (h:RBk w r N k):r<w.heap.size:=by obtain⟨B,lv,vs,l,many,h1,_⟩:=h.ex;exact h1.cells.lt
theorem RM.mono {r:Nat} {N N':Nat->Prop} (h:∀ b,N b->N' b) {b:Nat} (hb:RM r N' b):RM r N b:=hb.imp id fun hn e=>hn (h b e)
theorem Qcg (w:zA) (r k:Nat) (N:Nat->Prop) (A:Option Addr) (n c:Nat) (xs:List UInt8) (h:RBk w r N k) (hk:k<=900000) (hr:Q08 w w.heap.size 1 A n (xs.map vb)) (hx:∀ a,0<n->A=some a->a.block≠r) (hN:∀ b,N b->b<w.heap.size) (hc:n<=c) (hcm:c<=maxLen) (hn:n<=65536) :
 Calls zH 192 #[.pointer (some ⟨r,0,none⟩),.slice A n c] w fun e w'=>e=.returned (.tuple #[.agg (bRow (Q16 xs)),.int .i64 0])/\RBk w' r N (k+1)/\Only (RM r N) w w':=by
 obtain⟨B,lv,vs,l,many,h1,h2,h3,h4,h5⟩:=h.ex;have hxl:xs.length=n:=by have:=hr.1; simpa using this
 refine(QcK r B many lv vs l A n c xs w w.heap.size h1 hr (zI _) h2 hx hc hcm (by omega) (by omega)).mono ?_;rintro e w' ⟨D,code,lv',vs',rfl,ha,hn',hh,ho⟩;obtain⟨hc0,rfl⟩:=ha.small (by omega);subst hc0;refine⟨rfl,⟨B,lv',vs',_,_,hn',by have:=ho.size; omega,fun b hb hn=>?_,?_,?_⟩,ho.os,ho.tape,ho.output,ho.size,fun i hi hm=>ho.block i hi (fun e=>hm (.inl e)) fun e=>?_⟩
 ·rcases hh b hb with q | q
  ·exact h3 b q hn
  have:=hN b hn; omega
 ·unfold Q9r;split
  ·have:=Q4Q l xs; omega
  omega
 ·have:=noteN_le many xs; omega
 exact hm (.inr (h3 i (.inl e)))
theorem RBk.kept {w w':zA} {r k:Nat} {N:Nat->Prop} (h:RBk w r N k) (hs:w.heap.size<=w'.heap.size) (hk:∀ b,b<w.heap.size->RM r N b->w'.heap[b]?=w.heap[b]?):RBk w' r N k:=by obtain⟨B,lv,vs,l,many,h1,h2,h3,h4,h5⟩:=h.ex;exact⟨B,lv,vs,l,many,h1.keep (hk r h1.cells.lt (.inl rfl)) fun b hb=>hk b (h1.held hb).2 (.inr (h3 b hb)),by omega,h3,h4,h5⟩
theorem RBk.turned {w w':zA} {r k g:Nat} {N:Nat->Prop} (h:RBk w r N k) (hT:Q0b g w w') (hg:N g) (hr:g≠r):RBk w' r N k :=
 h.kept (by rw [hT.size]; exact zI _) fun b _ hb=>hT.block b fun e=>by
  subst e;rcases hb with e | e
  ·exact hr e
  exact e hg
theorem Blk.type_eq {w:zA} {g:Nat} {t t':TypeId} {cs cs':Array zB} (h:Blk w g t cs) (h':Blk w g t' cs'):t=t':=by
 refine Classical.byContradiction fun hne=>?_
 exact(Blk.ne_ (t:=t) h h' hne) rfl
theorem RBk.hold {w:zA} {r k:Nat} {N N':Nat->Prop} (h:RBk w r N k) (hN:∀ b,N' b->N b\/w.heap.size<=b\/∃ t cs,Blk w b t cs/\t≠22/\t≠5):RBk w r N' k:=by
 obtain⟨B,lv,vs,l,many,h1,h2,h3,h4,h5⟩:=h.ex;refine⟨B,lv,vs,l,many,h1,h2,fun b hb hn=>?_,h4,h5⟩;have hbl:=h1.held hb;rcases hN b hn with q | q | ⟨t,cs,q,q1,q2⟩
 ·exact h3 b hb q
 ·omega
 rcases hb with e | ⟨v,hv,e⟩
 ·rcases h1.row.2 with⟨rfl,_⟩ | ⟨g,cap,cur,rfl,hg,hh',_⟩
  ·cases e
  have:b=g:=by simpa [zG] using e.symm
  subst this;exact q1 (q.type_eq hh')
 obtain⟨j,hj,hj2⟩:=List.getElem_of_mem hv;have hl:=h1.len;obtain⟨v',hv',ho,_⟩:=h1.each j l[j] (zC (by omega));rw [zC hj,hj2] at hv';injection hv' with hv'
 subst hv';obtain⟨cur,hcur⟩:=Q5M ho e;exact q2 (q.type_eq hcur)
theorem Qee (w:zA) (u:UInt8) (B:Nat) (hB:B<=w.heap.size):(w.alloc (.cells #[vb u] 5)).ownsRow B 5 1 (.slice (some ⟨w.heap.size,0,none⟩) 1 1) 1 [vb u] :=⟨rfl,.inr ⟨w.heap.size,1,#[vb u],rfl,hB,Blk.newAt rfl,zI _,by unfold maxLen; omega,rfl,rfl⟩⟩
theorem Qba (w:zA) (r k:Nat) (N:Nat->Prop) (A:Option Addr) (n c:Nat) (xs:List UInt8) (h:RBk w r N k) (hk:k<=900000) (hr:Q08 w w.heap.size 1 A n (xs.map vb)) (hN:∀ b,N b->b<w.heap.size) (hn:n<65536) :
 Calls zH 176 #[.pointer (some ⟨r,0,none⟩),.slice A n c] w fun e w'=>e=.returned (.tuple #[.agg (bRow (Q1z xs)),.int .i64 0])/\RBk w' r N (k+1)/\Only (RM r N) w w':=by
 have hxl:xs.length=n:=by have:=hr.1; simpa using this
 have hX:=Q04 w (.cells inkZ 60);have hk0:Blk (w.alloc (.cells inkZ 60)) w.heap.size 60 inkZ:=Blk.newAt rfl;have HX:=sH hX;have HK:=sH hk0;have HB:=sH h;have HR:=sH hr;have HNN:=sH hN;have HXL:=sH hxl;have HZ:=sH Q1Y;have HZS:=sH (show inkZ.size=32 by simp [inkZ,bRow]);have hds:(bRow (Q1z xs)).size=32:=Q0E (Q2o xs);have hdo:=Q0K (Q1z xs);obtain⟨D,hD⟩:∃ D,D=bRow (Q1z xs):=⟨_,rfl⟩;rw [<- hD] at hds hdo ⊢;have HDE:=sH hD;have HDS:=sH hds;have HDO:=sH hdo;obtain⟨g4,hg4⟩:∃ g,g=w.heap.size:=⟨_,rfl⟩;have hgw:w.heap.size<=g4:=by omega
 have hnI:¬ (65536:Int)<=(n:Int):=by omega
 obtain⟨i0,hi0,hz0,hz1,hz2⟩:=info_parts Q1E;have hrl:=h.lt;clear h hr hN hX hk0 hxl hds hdo hD;go_enter Tryz.func176,Tryz.ntmps176
 go_upto_region 1 with fail
 rw [<- HZ.out];generalize World.alloc w _=w1 at HX HK ⊢;rw [<- hg4] at HK ⊢;have hl4:=HK.out.lt;have hs1:=HX.out.size;clear hg4;have hal:=Q04 w1 (.cells #[vb 0] 5);have HOW:=sH (Qee w1 0 w1.heap.size (zI _));have HR1:=sH (((HR.out.below HX.out).more hs1).below hal);have HAL:=sH hal;clear hal;go_wp2_with (at_builtin; go_must (refine Q03 _ rfl (.tmp 11) (.tmp 12) 22 rfl w1.heap.size 5 i0 _ 1 1 zS hi0 hz0 hz1 hz2 rfl (by omega) _ 1 [vb 0] rfl HOW.out w1.heap.size A n c (xs.map vb) rfl HR1.out ?c1 ?c2 ?c3 ?c4 ?_))
 case c1=>intro z hz; rfl
 case c2=>unfold maxLen; omega
 case c3=>omega
 intro v3 w3 hown3 hg3 hor3;have hb3:zD w1.heap.size w1 w3:=Q0e HAL.out (by simp) hg3 (fun b hb=>by simp [zG] at hb; omega);have ho3:OwnB w3 w1.heap.size v3 (Q2v xs):=by unfold OwnB Q2v;rw [List.length_cons,HXL.out,List.map_cons,Nat.add_comm];exact hown3
 obtain⟨A3,c3,hv,q1,q2,q3,q4⟩:=Q0f ho3;obtain⟨n3,hn3⟩:∃ k,k=(Q2v xs).length:=⟨_,rfl⟩;have hn3b:n3<=65536:=by rw [hn3]; unfold Q2v; rw [List.length_cons,HXL.out]; omega
 rw [<- hn3] at hv q1 q3;subst hv;have hs3:=hb3.size;have hx3:zD w.heap.size w w3:=HX.out.trans (hb3.mono hs1);have hg4:g4<w3.heap.size:=by omega
 have HOF:=sH (Qcg w3 r k (fun b=>N b\/(w.heap.size<=b/\b<w3.heap.size)) A3 n3 c3 (Q2v xs) (HB.out.later hx3) hk q3 (fun a _ ha e=>by have:=q4 a ha; omega) (fun b hb=>by
  rcases hb with hb | hb
  ·have:=HNN.out b hb; omega
  exact hb.2) q1 q2 hn3b)
 rw [show bRow (Q16 (Q2v xs))=D from HDE.out.symm] at HOF;have HK3:=sH (HK.out.below' hb3);have HX3:=sH hx3;clear hown3 hg3 hor3 hb3 ho3 hn3 q1 q2 q3 q4 HOW HR1 HAL hx3;go_wp2_with fail
 refine HOF.out.mono ?_;rintro _ w4 ⟨rfl,hb4,ho4⟩;have h4k:¬ RM r (fun b=>N b\/(w.heap.size<=b/\b<w3.heap.size)) g4:=by
  rintro (e | h)
  ·omega
  exact h (.inr ⟨hgw,hg4⟩)
 have HK4:=sH (ho4.blk HK3.out h4k);have HB4:=sH hb4;have HO4:=sH ((Only.of_below HX3.out).trans (ho4.mono fun b _=>RM.mono (N:=N) fun b=>.inl));have hs4:=ho4.size;clear hb4 ho4 h4k HOF;go_wp2_with (refine Q00 (o:=⟨none,_,_,_,_,_⟩) rfl 60 (.tmp 4) (.tmp 15) rfl g4 0 D rfl rfl 60 inkZ HK4.out (by rw [HDS.out]; rfl) (by rw [HDS.out,HZS.out]; omega) HDO.out ?_; intro w5 hT5 hD5; rw [Q0c _ _ (by rw [HDS.out,HZS.out])] at hD5)
 refine bodyPost_ret (Q09 rfl _ _ g4 32 60 _ _ rfl hD5 zT rfl rfl HDS.out) rfl ⟨rfl,?_,?_⟩
 ·exact(HB4.out.turned hT5 (.inr ⟨hgw,hg4⟩) (by omega)).less (zI _) fun b=>.inl
 exact⟨hT5.os.trans HO4.out.os,hT5.tape.trans HO4.out.tape,hT5.output.trans HO4.out.output,by rw [hT5.size]; exact HO4.out.size,fun i hi hn=>(hT5.block i (by omega)).trans (HO4.out.block i hi hn)⟩
theorem reads_u8 (w:zA) (u:UInt8):Q08 (w.alloc (.cells #[vb u] 5)) (w.heap.size+1) 1 (some ⟨w.heap.size,0,none⟩) 1 [vb u]:=Q7b _ _ _
theorem QeA (w:zA) (r k:Nat) (N:Nat->Prop) (A:Option Addr) (n c:Nat) (ds:LL) (h:RBk w r N k) (hk:k<=900000) (hr:Q08 w w.heap.size 32 A n (Q0o ds)) (hd:Digs ds) (hN:∀ b,N b->b<w.heap.size) (h1:1<=n) (h4:n<=4) :
 Calls zH 177 #[.pointer (some ⟨r,0,none⟩),.slice A n c] w fun e w'=>e=.returned (.tuple #[.agg (bRow (upD ds)),.int .i64 0])/\RBk w' r N (k+1)/\Only (RM r N) w w':=by
 have hxn:ds.length=n:=by have h2:=hr.1; rw [Q1V hd] at h2; omega
 obtain⟨ad,rfl,hadb,hcell⟩:=hr.2 (by omega);have hX:=Q04 w (.cells inkZ 60);have hk0:Blk (w.alloc (.cells inkZ 60)) w.heap.size 60 inkZ:=Blk.newAt rfl;have HX:=sH hX;have HK:=sH hk0;have HBK:=sH h;have HNN:=sH hN;have HXN:=sH hxn;have HDS:=sH hd;have HC:=sH hcell;have HZ:=sH Q1Y;have HZS:=sH (show inkZ.size=32 by simp [inkZ,bRow]);have hul:=Q58 ds;have hds:=Q0E hul;have hdo:=Q0K (upD ds);obtain⟨D,hD⟩:∃ D,D=bRow (upD ds):=⟨_,rfl⟩;rw [<- hD] at hds hdo ⊢;have HDE:=sH hD;have HDZ:=sH hds;have HDO:=sH hdo;obtain⟨g4,hg4⟩:∃ g,g=w.heap.size:=⟨_,rfl⟩;have hgw:w.heap.size<=g4:=by omega
 have hnn:¬ (n:Int)<1:=by omega
 have hnn4:¬ (4:Int)<(n:Int):=by omega
 obtain⟨i0,hi0,hz0,hz1,hz2⟩:=info_parts Q1E;have hrl:=h.lt;clear h hr hN hX hk0 hxn hds hdo hD hd hcell hul;go_enter Tryz.func177,Tryz.ntmps177
 go_upto_region 1 with fail
 rw [<- HZ.out];generalize World.alloc w _=w1 at HX HK ⊢;rw [<- hg4] at HK ⊢;have hl4:=HK.out.lt;have hs1:=HX.out.size;clear hg4;have hal:=Q04 w1 (.cells #[vb 1] 5);have HO1:=sH (show OwnB (w1.alloc (.cells #[vb 1] 5)) w1.heap.size (.slice (some ⟨w1.heap.size,0,none⟩) 1 1) (upIn (ds.take 0)) from Qee w1 1 w1.heap.size (zI _));have HX1:=sH (HX.out.trans (hal.mono hs1));have HA1:=sH hal;have hsz1:=hal.size;have HSZ:=sH hsz1;clear hal hsz1;go_wp2_with fail
 go_loopw [6,7] (fun ov iv wr=>∃ i:Nat,i<=n/\iv=.int .i64 i/\OwnB wr w1.heap.size ov (upIn (ds.take i))/\zD w1.heap.size w1 wr) (fun _ iv _=>n - (intOf iv).toNat)
 case atStart=>exact⟨0,by omega,rfl,HO1.out,HA1.out⟩
 obtain⟨i,hi,rfl,hov,hbel⟩:=hrel;have HOV:=sH hov;have HB:=sH hbel;have hsz:=hbel.size;clear hov hbel;by_cases hin:i<n
 ·have hil:i<ds.length:=by have:=HXN.out; omega
  have hcs:=Qad HDS.out hil HC.out;have hlen:(upIn (ds.take i)).length=1+i*32:=by rw [Q9C (fun d hd=>HDS.out d (List.mem_of_mem_take hd)),List.length_take,Nat.min_eq_left (by omega)];omega
  have htk:upIn (ds.take (i+1))=upIn (ds.take i)++ds[i]:=by
   unfold upIn;rw [zU hil,List.flatten_append]
   simp
  have hdl:ds[i].length=32:=HDS.out _ (List.getElem_mem hil);obtain⟨d,hdd⟩:∃ d,d=ds[i]:=⟨_,rfl⟩;rw [<- hdd] at hcs htk hdl;obtain⟨xb,hxb⟩:∃ xb,xb=upIn (ds.take i):=⟨_,rfl⟩;rw [<- hxb] at hlen htk HOV;have HCS:=sH hcs;have HTK:=sH htk;have HLN:=sH hlen;have HDL:=sH hdl;clear hcs htk hdd hdl hxb hlen;have hinI:(i:Int)<(n:Int):=by omega
  go_wp2_with fail
  go_loopw [6,8] (fun ov jv wr=>∃ j:Nat,j<=32/\jv=.int .i64 j/\OwnB wr w1.heap.size ov (xb++d.take j)/\zD w1.heap.size w1 wr) (fun _ jv _=>32 - (intOf jv).toNat)
  case atStart=>exact⟨0,by omega,rfl,(by rw [List.take_zero,List.append_nil]; exact HOV.out),HB.out⟩
  obtain⟨j,hj,rfl,hoj,hbj⟩:=hrel;have HOJ:=sH hoj;have HBJ:=sH hbj;have hszj:=hbj.size;clear hoj hbj;by_cases hjn:j<32
  ·have hjl:j<d.length:=by have:=HDL.out; omega
   have hcl:wr.cell? ((ad.add (i*32)).add j)=some (vb d[j]):=by
    have h2:((ad.add (i*32)).add j).block<w.heap.size:=by rw [Q0a,Q0a]; omega
    have h3:=HCS.out j (vb d[j]) (by simp [bRow,hjl]);exact(HBJ.out.cell (by have:=HX.out.size; omega)).trans ((HX.out.cell h2).trans h3)
   have hnext:xb++d.take (j+1)=(xb++d.take j)++[d[j]]:=by rw [zU hjl,List.append_assoc]
   have hlx:(xb++d.take j).length=1+i*32+j:=by rw [zJ,List.length_take,HLN.out,HDL.out,Nat.min_eq_left (by omega)]
   obtain⟨u,hu⟩:∃ u,u=d[j]:=⟨_,rfl⟩;rw [<- hu] at hcl hnext;obtain⟨xc,hxc⟩:∃ xc,xc=xb++d.take j:=⟨_,rfl⟩;rw [<- hxc] at hnext hlx HOJ;have HNX:=sH hnext;have HLX:=sH hlx;have HWN:=sH (show wr.ownsRow w1.heap.size 5 1 _ xc.length (xc.map vb) from HOJ.out);have HR1:=sH (reads_u8 wr u);have hjI:(j:Int)<32:=by omega
   unfold vb at hcl;clear hnext hlx hu hxc;go_wp2_with (at_builtin; go_must (refine Q03 _ rfl (.tmp 29) (.tmp 36) 22 rfl w1.heap.size 5 i0 _ 1 1 zS hi0 hz0 hz1 hz2 rfl (by omega) _ _ _ rfl (HWN.out.alloc _) (wr.heap.size+1) (some ⟨wr.heap.size,0,none⟩) 1 1 [.int .u8 (u.toNat:Int)] rfl HR1.out (by simp [Value.oneCell']) ?c1 ?c2 ?c3 ?_))
   case c1=>have:=HLX.out; unfold maxLen; omega
   case c2=>have:=HLX.out; omega
   case c3=>simp; omega
   intro v3 w3 hown3 hg3 hor3;have hb3:=Q0e (HBJ.out.trans ((Q04 wr (.cells #[vb u] 5)).mono hszj)) (by simp; omega) hg3 (fun b hb=>HOJ.out.ge hb);have HB3:=sH hb3;have HO3:=sH (show OwnB w3 w1.heap.size v3 (xb++d.take (j+1)) by unfold OwnB;rw [HNX.out,zJ,zL,List.length_singleton,List.map_singleton];exact hown3)
   clear hb3 hown3 hg3 hor3;go_wp2_with fail
   go_roundw
   case rel=>exact⟨j+1,by omega,by go_num,HO3.out,HB3.out⟩
   case measure=>simp [intOf]; omega
  obtain rfl:j=32:=by omega
  have hjI:¬ ((32:Nat):Int)<32:=by omega
  have HF:=sH (show OwnB wr w1.heap.size _ (upIn (ds.take (i+1))) by have:=HOJ.out;rw [zQ (by have:=HDL.out; omega),<- HTK.out] at this;exact this)
  go_wp2_with fail
  go_roundw
  case rel=>exact⟨i+1,by omega,by go_num,HF.out,HBJ.out⟩
  case measure=>simp [intOf]; omega
 obtain rfl:i=n:=by omega
 have hinI:¬ (i:Int)<(i:Int):=by omega
 have hov:=HOV.out;rw [zQ (by have:=HXN.out; omega)] at hov;obtain⟨A3,c3,hv,q1,q2,q3,q4⟩:=Q0f hov;have hul:=Q9C HDS.out;obtain⟨n3,hn3⟩:∃ k,k=(upIn ds).length:=⟨_,rfl⟩;have hn3b:n3<=65536:=by rw [hn3,hul]; have:=HXN.out; omega
 rw [<- hn3] at hv q1 q3;subst hv;have hs3:=HB.out.size;have hx3:zD w.heap.size w wr:=HX.out.trans (HB.out.mono hs1);have hg4:g4<wr.heap.size:=by omega
 have HOF:=sH (Qcg wr r k (fun b=>N b\/(w.heap.size<=b/\b<wr.heap.size)) A3 n3 c3 (upIn ds) (HBK.out.later hx3) hk q3 (fun a _ ha e=>by have:=q4 a ha; omega) (fun b hb=>by
  rcases hb with hb | hb
  ·have:=HNN.out b hb; omega
  exact hb.2) q1 q2 hn3b)
 rw [show bRow (Q16 (upIn ds))=D from HDE.out.symm] at HOF;have HK3:=sH (HK.out.below' HB.out);have HX3:=sH hx3;clear hov hn3 q1 q2 q3 q4 hul hx3;go_wp2_with fail
 refine HOF.out.mono ?_;rintro _ w4 ⟨rfl,hb4,ho4⟩;have h4k:¬ RM r (fun b=>N b\/(w.heap.size<=b/\b<wr.heap.size)) g4:=by
  rintro (e | h)
  ·omega
  exact h (.inr ⟨hgw,hg4⟩)
 have HK4:=sH (ho4.blk HK3.out h4k);have HB4:=sH hb4;have HO4:=sH ((Only.of_below HX3.out).trans (ho4.mono fun b _=>RM.mono (N:=N) fun b=>.inl));have hs4:=ho4.size;clear hb4 ho4 h4k HOF;go_wp2_with (refine Q00 (o:=⟨none,_,_,_,_,_⟩) rfl 60 (.tmp 4) (.tmp 41) rfl g4 0 D rfl rfl 60 inkZ HK4.out (by rw [HDZ.out]; rfl) (by rw [HDZ.out,HZS.out]; omega) HDO.out ?_; intro w5 hT5 hD5; rw [Q0c _ _ (by rw [HDZ.out,HZS.out])] at hD5)
 refine bodyPost_ret (Q09 rfl _ _ g4 32 60 _ _ rfl hD5 zT rfl rfl HDZ.out) rfl ⟨rfl,?_,?_⟩
 ·exact(HB4.out.turned hT5 (.inr ⟨hgw,hg4⟩) (by omega)).less (zI _) fun b=>.inl
 exact⟨hT5.os.trans HO4.out.os,hT5.tape.trans HO4.out.tape,hT5.output.trans HO4.out.output,by rw [hT5.size]; exact HO4.out.size,fun i hi hn=>(hT5.block i (by omega)).trans (HO4.out.block i hi hn)⟩
theorem Q7W {w:zA} {B n s:Nat} {e:TypeId} {v:zB} {vs:List zB} (h:w.ownsRow B e s v n vs) {b:Nat} (hb:v.ownBlock=some b):∃ cur,Blk w b e cur:=by
 rcases h.2 with⟨rfl,_⟩ | ⟨g,cap,cur,rfl,hg,hh,_⟩
 ·cases hb
 have:b=g:=by simpa [zG] using hb.symm
 subst this;exact⟨cur,hh⟩
def Q4L (w:zA) (r:Nat) (N:Nat->Prop) (A:Option Addr) (n:Nat) (ls:LL):Prop :=∀ W,w.heap.size<=W.heap.size->(∀ b,b<w.heap.size->¬ RM r N b->W.heap[b]?=w.heap[b]?)->Q45 W W.heap.size A n ls
structure LoSt (w wr:zA) (r k:Nat) (N:Nat->Prop) (ls:LL) (i:Nat) (ov:zB):Prop where
 row:wr.ownsRow w.heap.size 60 32 ov i (Q0o ((ls.take i).map Q1z))
 book:RBk wr r N (k+i)
 only:Only (RM r N) w wr
theorem LoSt.call {w wr:zA} {r k i:Nat} {N:Nat->Prop} {ls:LL} {ov:zB} (h:LoSt w wr r k N ls i ov) (hN:∀ b,N b->b<w.heap.size) :
 RBk wr r (fun b=>N b\/ov.ownBlock=some b) (k+i)/\∀ b,N b\/ov.ownBlock=some b->b<wr.heap.size :=
 ⟨h.book.hold fun b hb=>hb.imp id fun e=>by
  obtain⟨cur,hc⟩:=Q7W h.row e;exact .inr ⟨_,cur,hc,by decide,by decide⟩,fun b hb=>by
  rcases hb with hb | hb
  ·have:=hN b hb; have:=h.only.size; omega
  exact(Q07 h.row hb).2⟩
theorem LoSt.called {w wr w3:zA} {r k i:Nat} {N:Nat->Prop} {ls:LL} {ov:zB} (h:LoSt w wr r k N ls i ov) (hr:r<w.heap.size) (hb:RBk w3 r (fun b=>N b\/ov.ownBlock=some b) (k+i+1)) (ho:Only (RM r (fun b=>N b\/ov.ownBlock=some b)) wr w3) :
 w3.ownsRow w.heap.size 60 32 ov i (Q0o ((ls.take i).map Q1z))/\RBk w3 r N (k+(i+1))/\Only (RM r N) w w3 :=
 ⟨Q0d h.row fun b hb=>by
  have:=Q07 h.row hb;exact ho.block b this.2 (by
   rintro (e | e)
   ·omega
   exact e (.inr hb)),hb.less (by omega) fun b=>.inl,h.only.trans (ho.mono fun b _=>RM.mono fun b=>.inl)⟩
theorem QdQ {w w3 w4 w6:zA} {r k i:Nat} {N:Nat->Prop} {ls:LL} {ov v6:zB} {x:List UInt8} {D:Array zB} (hx:ls[i]?=some x) (hD:D.toList=(Q1z x).map vb) (hr:r<w.heap.size) (hb:RBk w4 r N (k+(i+1))) (ho:Only (RM r N) w w4) (hrow:w4.ownsRow w.heap.size 60 32 ov i (Q0o ((ls.take i).map Q1z)))
 (hown:w6.ownsRow w.heap.size 60 32 v6 (i+1) (Q0o ((ls.take i).map Q1z)++D.toList)) (hg:(w4.alloc (.cells D 60)).grownBy w6 ov.ownBlock) (hN:∀ b,N b->b<w.heap.size):LoSt w w6 r k N ls (i+1) v6:=by
 have hal:zD w4.heap.size w4 (w4.alloc (.cells D 60)):=(zK _ _).alloc (zI _) _;have hfar:∀ b,b<w4.heap.size->ov.ownBlock≠some b->w6.heap[b]?=w4.heap[b]?:=fun b hb hne=>(hg.block b (by have:=hal.size; omega) (fun e=>hne e.symm)).trans (hal.block b hb)
 have hs6:=hg.size;have hs4:=hal.size;have hs:=ho.size;refine⟨?_,?_,?_⟩
 ·have hil:=(List.getElem?_eq_some_iff.1 hx).1;have he:ls[i]=x:=(List.getElem?_eq_some_iff.1 hx).2;have e:(ls.take (i+1)).map Q1z=(ls.take i).map Q1z++[Q1z x]:=by rw [zU hil,zL,he]; rfl
  rw [e,Q4G];have e2:Q0o [Q1z x]=D.toList:=by rw [hD]; simp [Q0o]
  rw [e2];exact hown
 ·have hb':RBk w4 r (fun b=>N b\/ov.ownBlock=some b) (k+(i+1)):=hb.hold fun b hb=>hb.imp id fun e=>by
   obtain⟨cur,hc⟩:=Q7W hrow e;exact .inr ⟨_,cur,hc,by decide,by decide⟩
  refine(hb'.kept (w':=w6) (by omega) fun b hbl hm=>hfar b hbl fun e=>?_).less (zI _) fun b=>.inl
  rcases hm with hm | hm
  ·have:=Q07 hrow e; omega
  exact hm (.inr e)
 exact⟨hg.os.trans (hal.os.trans ho.os),hg.tape.trans (hal.tape.trans ho.tape),hg.output.trans (hal.output.trans ho.output),by omega,fun b hb hn=>(hfar b (by omega) (fun e=>by have:=Q07 hrow e; omega)).trans (ho.block b hb hn)⟩
structure ReSt (w wr:zA) (r k:Nat) (N:Nat->Prop) (ls:LL) (s g c m:Nat) (us:List zB) (ov:zB):Prop where
 row:wr.ownsRow w.heap.size 189 1 ov (s+1) (us++[.slice (some ⟨g,0,none⟩) m c])
 len:us.length=s
 dig:Q29 wr g c (lv ls s)
 new:w.heap.size<=g
 m:m=(lv ls s).length
 book:RBk wr r N (k+16+4*s)
 only:Only (RM r N) w wr
structure UpSt (w wo wr:zA) (r k:Nat) (N:Nat->Prop) (ds:LL) (g c j:Nat) (ov nv:zB):Prop where
 row:wr.ownsRow wo.heap.size 60 32 nv j (Q0o (Q1D ds j))
 book:RBk wr r (fun b=>N b\/b=g\/ov.ownBlock=some b) (k+j)
 only:Only (RM r (fun b=>N b\/b=g\/ov.ownBlock=some b)) wo wr
theorem UpSt.call {w wo wr:zA} {r k g c j:Nat} {N:Nat->Prop} {ds:LL} {ov nv:zB} (h:UpSt w wo wr r k N ds g c j ov nv) (hN:∀ b,(N b\/b=g\/ov.ownBlock=some b)->b<wo.heap.size) :
 RBk wr r (fun b=>(N b\/b=g\/ov.ownBlock=some b)\/nv.ownBlock=some b) (k+j)/\∀ b,(N b\/b=g\/ov.ownBlock=some b)\/nv.ownBlock=some b->b<wr.heap.size :=
 ⟨h.book.hold fun b hb=>hb.imp id fun e=>by
  obtain⟨cur,hc⟩:=Q7W h.row e;exact .inr ⟨_,cur,hc,by decide,by decide⟩,fun b hb=>by
  rcases hb with hb | hb
  ·have:=hN b hb; have:=h.only.size; omega
  exact(Q07 h.row hb).2⟩
theorem UpSt.called {w wo wr w3:zA} {r k g c j:Nat} {N:Nat->Prop} {ds:LL} {ov nv:zB} (h:UpSt w wo wr r k N ds g c j ov nv) (hr:r<wo.heap.size) (hb:RBk w3 r (fun b=>(N b\/b=g\/ov.ownBlock=some b)\/nv.ownBlock=some b) (k+j+1)) (ho:Only (RM r (fun b=>(N b\/b=g\/ov.ownBlock=some b)\/nv.ownBlock=some b)) wr w3) :
 w3.ownsRow wo.heap.size 60 32 nv j (Q0o (Q1D ds j))/\RBk w3 r (fun b=>N b\/b=g\/ov.ownBlock=some b) (k+(j+1))/\Only (RM r (fun b=>N b\/b=g\/ov.ownBlock=some b)) wo w3 :=
 ⟨Q0d h.row fun b hb=>by
  have:=Q07 h.row hb;exact ho.block b this.2 (by
   rintro (e | e)
   ·omega
   exact e (.inr hb)),hb.less (by omega) fun b=>.inl,h.only.trans (ho.mono fun b _=>RM.mono fun b=>.inl)⟩
theorem Qa9 {w wo w3 w4 w6:zA} {r k g c j:Nat} {N:Nat->Prop} {ds:LL} {ov nv v6:zB} {D:Array zB} (hD:D.toList=(upD (grp ds j)).map vb) (hr:r<wo.heap.size) (hb:RBk w4 r (fun b=>N b\/b=g\/ov.ownBlock=some b) (k+(j+1))) (ho:Only (RM r (fun b=>N b\/b=g\/ov.ownBlock=some b)) wo w4) (hrow:w4.ownsRow wo.heap.size 60 32 nv j (Q0o (Q1D ds j)))
 (hown:w6.ownsRow wo.heap.size 60 32 v6 (j+1) (Q0o (Q1D ds j)++D.toList)) (hg:(w4.alloc (.cells D 60)).grownBy w6 nv.ownBlock):UpSt w wo w6 r k N ds g c (j+1) ov v6:=by
 have hal:zD w4.heap.size w4 (w4.alloc (.cells D 60)):=(zK _ _).alloc (zI _) _;have hfar:∀ b,b<w4.heap.size->nv.ownBlock≠some b->w6.heap[b]?=w4.heap[b]?:=fun b hb hne=>(hg.block b (by have:=hal.size; omega) (fun e=>hne e.symm)).trans (hal.block b hb)
 have hs6:=hg.size;have hs4:=hal.size;have hs:=ho.size;refine⟨?_,?_,?_⟩
 ·rw [Q60,Q4G];have e2:Q0o [upD (grp ds j)]=D.toList:=by rw [hD]; simp [Q0o]
  rw [e2];exact hown
 ·have hb':RBk w4 r (fun b=>(N b\/b=g\/ov.ownBlock=some b)\/nv.ownBlock=some b) (k+(j+1)):=hb.hold fun b hb=>hb.imp id fun e=>by
   obtain⟨cur,hc⟩:=Q7W hrow e;exact .inr ⟨_,cur,hc,by decide,by decide⟩
  refine(hb'.kept (w':=w6) (by omega) fun b hbl hm=>hfar b hbl fun e=>?_).less (zI _) fun b=>.inl
  rcases hm with hm | hm
  ·have:=Q07 hrow e; omega
  exact hm (.inr e)
 exact⟨hg.os.trans (hal.os.trans ho.os),hg.tape.trans (hal.tape.trans ho.tape),hg.output.trans (hal.output.trans ho.output),by omega,fun b hb hn=>(hfar b (by omega) (fun e=>by have:=Q07 hrow e; omega)).trans (ho.block b hb hn)⟩
end
end Go.Proofs.YtcpngeiahgoacaaGreat
