/- Parts of the proof, in one text. -/
import Derived.Test.YtckjnbjiafgibaaGreatK10
import Derived.BigFrame
namespace Go.Proofs.YtckjnbjiafgibaaGreat
set_option linter.unusedVariables false
set_option linter.unusedSimpArgs false
set_option maxRecDepth 100000
set_option maxHeartbeats 16000000
open _root_.Go.RowKit.Below renaming refl->zC
open _root_.List renaming length_append->zB,length_set->zD
open _root_.Nat renaming le_refl->zA
section
open Go.RowKit Go.Maps
attribute [local irreducible] wpList
theorem Q37 {w:World} {x:Wish} (hd:x.data=[]) (hn:x.next=[]) (h:I64 x.client/\I64 x.stamp/\I64 x.group/\I64 x.epoch/\I64 x.kind/\I64 x.block/\I64 x.old/\I64 x.new):Q14 w w.heap.size x none 0 0 none 0 0 :=⟨by rw [hd]; exact Q04.none_,by simp,by simp,by rw [hn]; exact Q04.none_,by simp,by simp,⟨h.1,h.2.1,h.2.2.1,h.2.2.2.1,h.2.2.2.2.1,h.2.2.2.2.2.1,h.2.2.2.2.2.2.1,h.2.2.2.2.2.2.2,fun z hz=>by rw [hn] at hz; cases hz⟩⟩
theorem LSt.bad {w0 W:World} {V:VLoc} {N:Nat->Prop} {m:VM} {a:Nat} (h:LSt w0 V N m a W) (ha:a<=700000) (x:Wish) (hx:Q14 W W.heap.size x none 0 0 none 0 0) (q:Int) (hm:(doV m x).1=m/\((doV m x).2.2:Int)=q) :
 Calls Tryz.prog 8 #[.pointer (some ⟨V.g,0,none⟩),.agg (Q02 x none 0 0 none 0 0)] W fun r W'=>∃ D,r=.returned (.tuple #[.agg D,.int .i64 q])/\D.size=4/\D.all (·.oneCell')=true/\LSt w0 V N m (a+6) W'/\Only V.has W W':=by
 refine(h.do_ ha x none 0 0 none 0 0 W.heap.size hx (zA _) (fun ad h0=>by omega)).mono ?_;rintro r W' ⟨A3,q3,rfl,ho,hst,hon⟩;rw [hm.1] at hst;rw [hm.2];exact⟨_,rfl,rfl,Q0X _ _ _ _ _,hst,hon⟩
theorem vaultKnown_law (w:World) :
 Calls Tryz.prog 3 #[] w fun e w'=>e=.returned (.bool true)/\Below w.heap.size w w':=by
 go_enter Tryz.func3,Tryz.ntmps3
 go_wp2_with fail
 refine(Q5g w).mono ?_;rintro _ w1 ⟨k,rfl,hbk,hkn,hb1⟩;have HBK:=sH hbk;have HB1:=sH hb1;have HKN:=sH hkn;clear hbk hkn hb1;go_wp2_with fail
 refine(Q6Z w1 _ 0 (by omega)).mono ?_;rintro _ w2 ⟨rfl,hb2⟩;have HB2:=sH hb2;clear hb2;go_wp2_with fail
 refine(Q6Z w2 _ 3 (by omega)).mono ?_;rintro _ w3 ⟨rfl,hb3⟩;have HB3:=sH (HB2.out.trans (hb3.mono HB2.out.size));clear hb3 HB2;go_wp2_with fail
 refine(vNewNil 1 w3 (by omega)).mono ?_;rintro _ w4 ⟨rfl,hb4⟩;have HB4:=sH (HB3.out.trans (hb4.mono HB3.out.size));clear hb4 HB3;go_wp2_with fail
 refine(Q6Z w4 _ 3 (by omega)).mono ?_;rintro _ w5 ⟨rfl,hb5⟩;have HB5:=sH (HB4.out.trans (hb5.mono HB4.out.size));clear hb5 HB4;go_wp2_with fail
 refine(Q9F k [] 0 1 w5 (HBK.out.below HB5.out) (by omega) (by omega) 1 rfl).mono ?_;rintro _ w6 ⟨V,rfl,hna⟩;have hkk:=hna.kk;subst hkk;have HS:=sH (show LSt w V V.all vk0 48 w6 from LSt.start (HB1.out.trans (HB5.out.mono HB1.out.size)) (by have:=HKN.out; omega) hna);have HKL:=sH HKN.out;clear hna HBK HB1 HKN HB5;go_upto_region 9 with fail
 have hmut:=HS.out.mut;have HMUT:=sH hmut;clear hmut;go_wp2_with fail
 refine(Q12 31 1 0 0 w6).mono ?_;rintro _ w7 ⟨rfl,hb7⟩;have HB7:=sH hb7;have hs7:=hb7.size;clear hb7;go_upto_region 10 with(first
  | (refine Q00 (o:=⟨none,_,_,_,_,_⟩) rfl 31 (.tmp 12) (.tmp 103) rfl w7.heap.size 0 (Q02 (Q0B 31 1 0 0) none 0 0 none 0 0) rfl rfl 31 (Q02 Q3b none 0 0 none 0 0) ((Blk.newAt rfl).alloc _) (Q22 _ _ _ _ _ _ _) (by simp [Q02]) (Q2h _ _ _ _ _ _ _) ?_; intro w8 hT8 hD8; rw [Q6o] at hD8)
  | (refine Q00 (o:=⟨none,_,_,_,_,_⟩) rfl 31 (.tmp 13) (.tmp 104) rfl (w7.heap.size+1) 0 (Q02 Q3D none 0 0 none 0 0) rfl rfl 31 (Q02 Q3b none 0 0 none 0 0) (hT8.blk (Blk.newAt (by simp)) (by omega)) (Q22 _ _ _ _ _ _ _) (by simp [Q02]) (Q2h _ _ _ _ _ _ _) ?_; intro w9 hT9 hD9; rw [Q6o] at hD9))
 have hk12:Blk w9 w7.heap.size 31 (Q02 (Q0B 31 1 0 0) none 0 0 none 0 0):=hT9.blk hD8 (by omega);have hb9:Below w7.heap.size w7 w9:=hT9.below (hT8.below (((zC _ _).alloc (zA _) _).alloc (by simp) _) (zA _)) (by omega);obtain⟨g12,hg12⟩:∃ g,g=w7.heap.size:=⟨_,rfl⟩;obtain⟨g13,hg13⟩:∃ g,g=w7.heap.size+1:=⟨_,rfl⟩;rw [<- hg13] at hD9 ⊢;rw [<- hg12] at hk12 ⊢;have h12:w6.heap.size<=g12:=by omega
 have h13:w6.heap.size<=g13:=by omega
 have h123:g12≠g13:=by omega
 have cc:=hk12.cell 2;have ff:=hk12.frozen 2;have hk10:=hk12.set_ 2 (.int .i64 2);have hT10:=Q05.setCell w9 ⟨g12,2,none⟩ (.int .i64 2);have HK12:=sH (show Blk (w9.setCell ⟨g12,2,none⟩ (.int .i64 2)) g12 31 (Q02 Q3T none 0 0 none 0 0) from hk10);have HK13:=sH (hT10.blk hD9 (by simp only; omega));have hb10:Below w6.heap.size w6 (w9.setCell ⟨g12,2,none⟩ (.int .i64 2)):=hT10.below (HB7.out.trans (hb9.mono hs7)) h12;have HS10:=sH (HS.out.below hb10);have HS1:=sH hb10.size;clear hT8 hD8 hT9 hD9 hk12 hb9 hg12 hg13 hk10 hT10 hb10 HS HB7;simp only [Q02,Q0B] at cc;try simp only [Act.put,sA]
 go_upto_region 11 with fail
 clear cc ff;generalize w9.setCell ⟨g12,2,none⟩ (.int .i64 2)=w10 at HK12 HK13 HS10 HS1 ⊢;have hs10:=HS1.out;go_wp2_with (refine Q0c (o:=⟨some 108,_,_,_,_,_⟩) rfl 31 (.tmp 12) rfl g12 0 10 rfl 31 _ (Q02 Q3T none 0 0 none 0 0) _ HK12.out Tryz.underlying31 rfl rfl rfl (fun _ _=>by rw [Nat.zero_add]) ?_)
 refine(HS10.out.bad (by omega) Q3T (Q37 rfl rfl (by simp only [Q3T,I64]; omega)) 2 ⟨Q7K.1,by rw [Q7K.2]; rfl⟩).mono ?_;rintro _ w11 ⟨D,rfl,hds,hdo,hst,hon⟩;have HDS:=sH hds;have HDO:=sH hdo;have HST:=sH hst;have HK13:=sH (hon.blk HK13.out (fun hb=>by have:=HMUT.out _ hb; omega));have hs11:=hon.size;clear hds hdo hst hon HS10 HK12 HS1;go_upto_region 12 with(refine Q00 (o:=⟨none,_,_,_,_,_⟩) rfl 34 (.tmp 14) (.tmp 110) rfl w11.heap.size 0 D rfl rfl 34 (aC 0 none 0 0 0) (Blk.newAt rfl) (by rw [HDS.out]; kernel_rfl) (by rw [HDS.out]; simp [aC]) HDO.out ?_; intro w12 hT hD)
 have hb12:Below w11.heap.size w11 w12:=hT.below ((zC _ _).alloc (zA _) _) (zA _);have HST:=sH (HST.out.below hb12);have HK13:=sH (HK13.out.below' hb12);have hs12:=hb12.size;clear hT hD hb12 HDS HDO;go_wp2_with (refine Q0c (o:=⟨some 114,_,_,_,_,_⟩) rfl 31 (.tmp 13) rfl g13 0 10 rfl 31 _ (Q02 Q3D none 0 0 none 0 0) _ HK13.out Tryz.underlying31 rfl rfl rfl (fun _ _=>by rw [Nat.zero_add]) ?_)
 refine(HST.out.bad (by omega) Q3D (Q37 rfl rfl (by simp only [Q3D,I64]; omega)) 2 ⟨Q7C.1,by rw [Q7C.2]; rfl⟩).mono ?_;rintro _ w13 ⟨D,rfl,hds,hdo,hst,hon⟩;have HDS:=sH hds;have HDO:=sH hdo;have HST:=sH hst;have hs13:=hon.size;clear hds hdo hst hon HK13;go_upto_region 13 with(refine Q00 (o:=⟨none,_,_,_,_,_⟩) rfl 34 (.tmp 16) (.tmp 116) rfl w13.heap.size 0 D rfl rfl 34 (aC 0 none 0 0 0) (Blk.newAt rfl) (by rw [HDS.out]; kernel_rfl) (by rw [HDS.out]; simp [aC]) HDO.out ?_; intro w14 hT hD)
 have hb14:Below w13.heap.size w13 w14:=hT.below ((zC _ _).alloc (zA _) _) (zA _);have HST:=sH (HST.out.below hb14);have hs14:=hb14.size;clear hT hD hb14 HDS HDO;go_wp2_with fail
 refine(HST.out.bad (by omega) Q62 (Q37 rfl rfl (by simp only [Q62,I64]; omega)) 2 ⟨Q7q.1,by rw [Q7q.2]; rfl⟩).mono ?_;rintro _ w15 ⟨D,rfl,hds,hdo,hst,hon⟩;have HDS:=sH hds;have HDO:=sH hdo;have HST:=sH hst;have hs15:=hon.size;clear hds hdo hst hon;go_upto_region 14 with(refine Q00 (o:=⟨none,_,_,_,_,_⟩) rfl 34 (.tmp 18) (.tmp 122) rfl w15.heap.size 0 D rfl rfl 34 (aC 0 none 0 0 0) (Blk.newAt rfl) (by rw [HDS.out]; kernel_rfl) (by rw [HDS.out]; simp [aC]) HDO.out ?_; intro w16 hT hD)
 have hb16:Below w15.heap.size w15 w16:=hT.below ((zC _ _).alloc (zA _) _) (zA _);have HST:=sH (HST.out.below hb16);have hs16:=hb16.size;clear hT hD hb16 HDS HDO;go_wp2_with fail
 refine(Q7z w16 V _ _ HST.out.vat 8 (by omega)).mono ?_;rintro _ w17 ⟨rfl,hb17⟩;have HST:=sH (HST.out.below hb17);have hs17:=hb17.size;clear hb17;go_wp2_with fail
 refine(Q7z w17 V _ _ HST.out.vat (-1) (by omega)).mono ?_;rintro _ w18 ⟨rfl,hb18⟩;have HST:=sH (HST.out.below hb18);have hs18:=hb18.size;clear hb18;go_wp2_with fail
 refine(Q12 34 1 0 7 w18).mono ?_;rintro _ w19 ⟨rfl,hb19⟩;have HST:=sH (HST.out.below hb19);have hs19:=hb19.size;clear hb19;go_wp2_with fail
 refine(Q21 0 w19).mono ?_;rintro _ w20 ⟨v,rfl,ho20,hb20⟩;obtain⟨A0,q0,hv,q1,q2,hr0,hge⟩:=Q03 ho20;have e16:(Q0V 0).length=16:=by simp [Q0V]
 rw [e16] at hv hr0;subst hv;have HST:=sH (HST.out.below hb20);have HR0:=sH (show Q04 w20 w20.heap.size 1 A0 16 ((Q24 (Q0V 0)).data.map vb) from hr0);have HP0:=sH (show ∀ a,0<16->A0=some a->¬ V.has a.block from fun a _ ha hb=>by have:=HMUT.out _ hb; have:=hge a ha; omega);have hs20:=hb20.size;clear ho20 hb20 q1 q2 hr0 hge e16;go_wp2_with fail
 refine(HST.out.does_ (by omega) (Q0B 34 1 0 7) none 0 0 none 0 0 (Q3Z (by unfold I64; omega)) (fun a h0=>by omega) (Q24 (Q0V 0)) A0 16 q0 HR0.out HP0.out (by omega) vk1 vk_d0 _ rfl).mono ?_;rintro _ w21 ⟨rfl,hst,hon⟩;have HST:=sH hst;have hs21:=hon.size;clear hst hon HR0 HP0;go_wp2_with fail
 refine(show Calls Tryz.prog 12 _ w21 _ from Q5s 34 9007199254740991 0 7 1 w21).mono ?_;rintro _ w22 ⟨A1,q1,rfl,ho22,hb22⟩;have HST:=sH (HST.out.below hb22);have HIN:=sH (Q9M (c:=34) (s:=9007199254740991) (e:=0) (k:=7) ho22 (by unfold I64; omega));have HAP:=sH (show ∀ a,0<16->A1=some a->a.block≠V.g from fun a _ ha e=>by
  obtain⟨_,_,hv,_,_,_,hge⟩:=Q03 ho22;injection hv with hv1
  have:=hge a (hv1▸ha);have:=HMUT.out _ (.inl e);omega)
 have hs22:=hb22.size;clear ho22 hb22;go_wp2_with fail
 refine(HST.out.does_ (by omega) (Q2C 34 9007199254740991 0 7 1) A1 16 q1 none 0 0 HIN.out HAP.out okA none 0 0 Q04.none_ (fun a h0=>by omega) (by omega) vk2 vk_d1 _ rfl).mono ?_;rintro _ w23 ⟨rfl,hst,hon⟩;have HST:=sH hst;have hs23:=hon.size;clear hst hon HIN HAP;go_wp2_with fail
 refine(Q2F 1 w23).mono ?_;rintro _ w24 ⟨A2,q2,rfl,hr,hge,hq4,hb⟩;have HST:=sH (HST.out.below hb);have HIN:=sH (Q6B hr hq4 (e:=1) (by unfold I64; omega));have hs24:=hb.size;clear hr hge hq4 hb;go_wp2_with fail
 refine(HST.out.does_ (by omega) (Q2d 1) none 0 0 A2 4 q2 HIN.out (fun a h0=>by omega) (errA 171 0) none 0 0 Q04.none_ (fun a h0=>by omega) (by omega) vk3 vk_d2 _ rfl).mono ?_;rintro _ w25 ⟨rfl,hst,hon⟩;have HST:=sH hst;have hs25:=hon.size;clear hst hon HIN;go_wp2_with fail
 refine(Q2F 0 w25).mono ?_;rintro _ w26 ⟨A2,q2,rfl,hr,hge,hq4,hb⟩;have HST:=sH (HST.out.below hb);have HIN:=sH (Q6B hr hq4 (e:=0) (by unfold I64; omega));have hs26:=hb.size;clear hr hge hq4 hb;go_wp2_with fail
 refine(HST.out.does_ (by omega) (Q2d 0) none 0 0 A2 4 q2 HIN.out (fun a h0=>by omega) (okA) none 0 0 Q04.none_ (fun a h0=>by omega) (by omega) vk4 vk_d3 _ rfl).mono ?_;rintro _ w27 ⟨rfl,hst,hon⟩;have HST:=sH hst;have hs27:=hon.size;clear hst hon HIN;go_wp2_with fail
 refine(Q2F 0 w27).mono ?_;rintro _ w28 ⟨A2,q2,rfl,hr,hge,hq4,hb⟩;have HST:=sH (HST.out.below hb);have HIN:=sH (Q6B hr hq4 (e:=0) (by unfold I64; omega));have hs28:=hb.size;clear hr hge hq4 hb;go_wp2_with fail
 refine(HST.out.does_ (by omega) (Q2d 0) none 0 0 A2 4 q2 HIN.out (fun a h0=>by omega) (errA 171 1) none 0 0 Q04.none_ (fun a h0=>by omega) (by omega) vk5 vk_d4 _ rfl).mono ?_;rintro _ w29 ⟨rfl,hst,hon⟩;have HST:=sH hst;have hs29:=hon.size;clear hst hon HIN;go_upto_region 17 with fail
 have HLN:=sH Q1D;go_wp2_with fail
 refine(Q2w w29 V _ _ HST.out.vat).mono ?_;rintro _ w30 ⟨v,vs,rfl,hol,hb⟩;obtain⟨gl,cap,cur,hv,hgl,hcap,hlv⟩:=hol.lvm (by rw [Q1D]; omega);rw [Q1D] at hv hcap;subst hv;have hs30:=hb.size;have HLV:=sH hlv;have hcapI:¬ (cap:Int)<0:=by omega
 clear hol hlv;have hbl:=Q0a w30 (.cells #[.int .u8 1,.int .u8 1,.int .u8 3,.int .u8 16,.int .u8 0,.int .u8 0,.int .u8 0] 5);have hlv2:=HLV.out.below hbl;obtain⟨Ak,mk,ck,h12c,_⟩:=hlv2.at_ 12 ((Q01 vk5).getD 12 []) (by kernel_rfl);have cc:=hlv2.blk.cell 12;rw [h12c] at cc;have ff:=hlv2.blk.frozen 12;have hr7:Q04 (w30.alloc (.cells #[.int .u8 1,.int .u8 1,.int .u8 3,.int .u8 16,.int .u8 0,.int .u8 0,.int .u8 0] 5)) (w30.alloc (.cells #[.int .u8 1,.int .u8 1,.int .u8 3,.int .u8 16,.int .u8 0,.int .u8 0,.int .u8 0] 5)).heap.size 1 (some ⟨w30.heap.size,0,none⟩) 7 (([1,1,3,16,0,0,0]:List UInt8).map vb):=by have h:=Q0m w30 #[.int .u8 1,.int .u8 1,.int .u8 3,.int .u8 16,.int .u8 0,.int .u8 0,.int .u8 0] 5;rw [show (w30.alloc (.cells #[.int .u8 1,.int .u8 1,.int .u8 3,.int .u8 16,.int .u8 0,.int .u8 0,.int .u8 0] 5)).heap.size=w30.heap.size+1 by simp];exact h
 have hset:=hlv2.set 12 (some ⟨w30.heap.size,0,none⟩) 7 7 [1,1,3,16,0,0,0] hr7 (by omega) (fun a ha e=>by
  injection ha with ha
  subst ha;have:=HLV.out.blk.lt;simp only at e;omega)
 have HSET:=sH hset;have hb31:Below w29.heap.size w29 _:=(Q05.setCell (w30.alloc (.cells #[.int .u8 1,.int .u8 1,.int .u8 3,.int .u8 16,.int .u8 0,.int .u8 0,.int .u8 0] 5)) ⟨gl,12,none⟩ (.slice (some ⟨w30.heap.size,0,none⟩) 7 7)).below (hb.trans (hbl.mono hb.size)) hgl;have HST:=sH (HST.out.below hb31);have hs31:=hb31.size;clear hlv2 h12c hr7 hset hb31 hbl hb;go_upto_region 19 with fail
 clear cc ff;generalize World.setCell _ ⟨gl,12,none⟩ _=w31 at HSET HST hs31 ⊢;have HRC:=sH (show Q23 w31 w31.heap.size (some ⟨gl,0,none⟩) 13 Q6L from by have h:=HSET.out.rowsC;rw [zD,Q1D] at h;exact h)
 clear HSET HLV;go_wp2_with fail
 refine(HST.out.open_ (fun b h=>h) (by omega) (some ⟨gl,0,none⟩) 13 cap Q6L HRC.out (by omega) vk_short vk_end).mono ?_;rintro _ w32 ⟨V2,rfl,h2,hg2⟩;have HS2:=sH h2;have hs32:=h2.low.size;clear h2 HRC HST;go_wp2_with fail
 refine(Q5o w32 V2 _ _ HS2.out.vatb).mono ?_;rintro _ _ ⟨rfl,rfl⟩;rw [vk_epoch];have HS2:=sH HS2.out.swap;go_wp2_with fail
 refine(Q2F 1048576 w32).mono ?_;rintro _ w33 ⟨A2,q2,rfl,hr,hge,hq4,hb⟩;have HS2:=sH (HS2.out.below hb);have HIN:=sH (Q6B hr hq4 (e:=1048576) (by unfold I64; omega));have hs33:=hb.size;clear hr hge hq4 hb;go_wp2_with fail
 refine(HS2.out.does2 (by omega) (Q2d 1048576) none 0 0 A2 4 q2 HIN.out (fun a h0=>by omega) (errA 5 0) none 0 0 Q04.none_ (fun a h0=>by omega) (by omega) Q7P vk_e0 _ rfl).mono ?_;rintro _ w34 ⟨rfl,hst,hon⟩;have HS2:=sH hst;have hs34:=hon.size;clear hst hon HIN;go_wp2_with fail
 refine(Q12 31 1 1048576 7 w34).mono ?_;rintro _ w35 ⟨rfl,hb35⟩;have HS2:=sH (HS2.out.below hb35);have hs35:=hb35.size;clear hb35;go_wp2_with fail
 refine(show Calls Tryz.prog 11 _ w35 _ from Q21 1 w35).mono ?_;rintro _ w36 ⟨v,rfl,ho36,hb36⟩;obtain⟨A0,q0,hv,q1,q2,hr0,hge⟩:=Q03 ho36;have e16:(Q0V 1).length=16:=by simp [Q0V]
 rw [e16] at hv hr0;subst hv;have HR0:=sH (show Q04 w36 w36.heap.size 1 A0 16 ((Q24 (Q0V 1)).data.map vb) from hr0);have HP0:=sH (show ∀ a,0<16->A0=some a->¬ V2.has a.block from fun a _ ha hb=>by have:=HS2.out.mut _ hb; have:=hge a ha; omega);have HS2:=sH (HS2.out.below hb36);have hs36:=hb36.size;clear ho36 hb36 q1 q2 hr0 hge e16;go_wp2_with fail
 refine(HS2.out.does2 (by omega) (Q0B 31 1 1048576 7) none 0 0 none 0 0 (Q3Z (by unfold I64; omega)) (fun a h0=>by omega) (Q24 (Q0V 1)) A0 16 q0 HR0.out HP0.out (by omega) vkEnd2 vk_e1 _ rfl).mono ?_;rintro _ w37 ⟨rfl,hst,hon⟩;have HST:=sH hst.swap.one;have hs37:=hon.size;clear hst hon HR0 HP0 HS2;go_upto_region 23 with fail
 obtain⟨N2,hN2⟩:∃ N2:Nat->Prop,N2=fun b=>V.all b\/V2.all b:=⟨_,rfl⟩
 rw [<- hN2] at HST;clear hN2;obtain⟨aa,haa⟩:∃ a,a=48+6+6+6+6+6+6+6+6+48+6+6:=⟨_,rfl⟩;have HSL:=sH (show LSt w V N2 vk5 aa w37 from HST.out.more (by omega));have haa2:aa<=500000:=by omega
 clear HST haa;go_wp2_with fail
 go_loopw [29,30] (fun bv iv wr=>∃ i:Nat,i<=11/\bv=.int .i64 i/\iv=.int .i64 i/\LSt w V N2 vk5 aa wr/\w37.heap.size<=wr.heap.size) (fun _ iv _=>11 - (intOf iv).toNat)
 case atStart=>exact⟨0,by omega,rfl,rfl,HSL.out,zA _⟩
 obtain⟨i,hi,rfl,rfl,hst,hsr⟩:=hrel;have HS:=sH hst;clear hst HSL;by_cases hin:i<11
 ·have hinI:(i:Int)<11:=by omega
  go_wp2_with fail
  refine(Q2w wr V _ _ HS.out.vat).mono ?_;rintro _ x1 ⟨v,vs,rfl,hol,hb⟩;obtain⟨gl,cap,cur,hv,hgl,hcap,hlv⟩:=hol.lvm (by rw [Q1D]; omega);rw [Q1D] at hv hcap;subst hv;have HS1:=sH (HS.out.below hb);have HLV:=sH hlv;have hsx:=hb.size;have HBX:=sH hb;clear hol hlv hb;obtain rfl | rfl | rfl | rfl | rfl | rfl | rfl | rfl | rfl | rfl | rfl:i=0\/i=1\/i=2\/i=3\/i=4\/i=5\/i=6\/i=7\/i=8\/i=9\/i=10:=by omega
  ·have hcp:(12:Int)<=(cap:Int):=by omega
   have hcp2:¬ (cap:Int)<12:=by omega
   go_upto_region 48 with fail
   have HRC:=sH (show Q23 x1 x1.heap.size (some ⟨gl,0,none⟩) 12 (Q1P 0) from(by have h:=HLV.out.rowsC;rw [Q1D] at h;exact h.take (by omega)))
   clear HLV HBX hcp hcp2;go_wp2_with fail
   refine(HS1.out.openBad (by omega) (some ⟨gl,0,none⟩) 12 cap (Q1P 0) HRC.out (by omega) (Q16 0 (by omega)) (Q2I 0 (by omega))).mono ?_;rintro _ x3 ⟨rfl,hb3⟩;have HS3:=sH (HS1.out.below hb3);have hs3:=hb3.size;clear hb3 HS1 HRC;go_wp2_with fail
   go_roundw
   case rel=>exact⟨1,by omega,rfl,rfl,HS3.out,by omega⟩
   case measure=>simp [intOf]
  ·obtain⟨Ak,mk,ck,h12c,hrk,hmk,hak⟩:=HLV.out.at_ 0 ((Q01 vk5).getD 0 []) (by kernel_rfl);have hm16:mk=16:=by
    have h:=hrk.1;rw [List.length_map,show ((Q01 vk5).getD 0 []).length=16 from by kernel_rfl] at h;omega
   subst hm16;have cc:=HLV.out.blk.cell 0;rw [h12c] at cc;have ff:=HLV.out.blk.frozen 0;have hset:=HLV.out.set 0 Ak 15 ck (((Q01 vk5).getD 0 []).take 15) (by rw [List.map_take]; exact hrk.take_ (by omega)) (by omega) hak;have HSET:=sH hset;have hck:(15:Int)<=(ck:Int):=by omega
   have hck2:¬ (ck:Int)<15:=by omega
   have hb2:=(Q05.setCell x1 ⟨gl,0,none⟩ (.slice Ak 15 ck)).below HBX.out hgl;have HS2:=sH (HS.out.below hb2);have hsr2:=hb2.size;clear hset hb2 HS1 h12c hrk hmk hak;go_upto_region 48 with fail
   clear cc ff hck hck2;generalize World.setCell _ ⟨gl,0,none⟩ _=x2 at HSET HS2 hsr2 ⊢;have HRC:=sH (show Q23 x2 x2.heap.size (some ⟨gl,0,none⟩) 13 (Q1P 1) from by have h:=HSET.out.rowsC;rw [zD,Q1D] at h;exact h)
   clear HSET HLV HBX;go_wp2_with fail
   refine(HS2.out.openBad (by omega) (some ⟨gl,0,none⟩) 13 cap (Q1P 1) HRC.out (by omega) (Q16 1 (by omega)) (Q2I 1 (by omega))).mono ?_;rintro _ x3 ⟨rfl,hb3⟩;have HS3:=sH (HS2.out.below hb3);have hs3:=hb3.size;clear hb3 HS2 HRC;go_wp2_with fail
   go_roundw
   case rel=>exact⟨2,by omega,rfl,rfl,HS3.out,by omega⟩
   case measure=>simp [intOf]
  ·have hbl:=Q0a x1 (.cells #[.int .u8 0] 5);have hlv2:=HLV.out.below hbl;obtain⟨Ak,mk,ck,h12c,_⟩:=hlv2.at_ 8 ((Q01 vk5).getD 8 []) (by kernel_rfl);have cc:=hlv2.blk.cell 8;rw [h12c] at cc;have ff:=hlv2.blk.frozen 8;have hr7:Q04 (x1.alloc (.cells #[.int .u8 0] 5)) (x1.alloc (.cells #[.int .u8 0] 5)).heap.size 1 (some ⟨x1.heap.size,0,none⟩) 1 (([0]:List UInt8).map vb):=by
    have h:=Q0m x1 #[.int .u8 0] 5;rw [show (x1.alloc (.cells #[.int .u8 0] 5)).heap.size=x1.heap.size+1 by simp];exact h
   have hset:=hlv2.set 8 (some ⟨x1.heap.size,0,none⟩) 1 1 [0] hr7 (by omega) (fun a ha e=>by
    injection ha with ha
    subst ha;have:=HLV.out.blk.lt;simp only at e;omega)
   have HSET:=sH hset;have hb2:=(Q05.setCell (x1.alloc (.cells #[.int .u8 0] 5)) ⟨gl,8,none⟩ (.slice (some ⟨x1.heap.size,0,none⟩) 1 1)).below (HBX.out.trans (hbl.mono hsx)) hgl;have HS2:=sH (HS.out.below hb2);have hsr2:=hb2.size;clear hlv2 h12c hr7 hset hb2 hbl HS1;go_upto_region 48 with fail
   clear cc ff;generalize World.setCell _ ⟨gl,8,none⟩ _=x2 at HSET HS2 hsr2 ⊢;have HRC:=sH (show Q23 x2 x2.heap.size (some ⟨gl,0,none⟩) 13 (Q1P 2) from by have h:=HSET.out.rowsC;rw [zD,Q1D] at h;exact h)
   clear HSET HLV HBX;go_wp2_with fail
   refine(HS2.out.openBad (by omega) (some ⟨gl,0,none⟩) 13 cap (Q1P 2) HRC.out (by omega) (Q16 2 (by omega)) (Q2I 2 (by omega))).mono ?_;rintro _ x3 ⟨rfl,hb3⟩;have HS3:=sH (HS2.out.below hb3);have hs3:=hb3.size;clear hb3 HS2 HRC;go_wp2_with fail
   go_roundw
   case rel=>exact⟨3,by omega,rfl,rfl,HS3.out,by omega⟩
   case measure=>simp [intOf]
  ·obtain⟨i0,hi0,hz0,hz1,hz2⟩:=info_parts Q1f;have hbl:=Q0a x1 (.cells #[.int .u8 0,.int .u8 1,.int .u8 16] 5);have HO1:=sH (show OwnB (x1.alloc (.cells #[.int .u8 0,.int .u8 1,.int .u8 16] 5)) x1.heap.size (.slice (some ⟨x1.heap.size,0,none⟩) 3 3) [0,1,16] from⟨rfl,.inr ⟨x1.heap.size,3,#[.int .u8 0,.int .u8 1,.int .u8 16],rfl,zA _,heap_alloc_new x1 _,zA _,by unfold maxLen; omega,rfl,rfl⟩⟩);go_wp2_with fail
   refine(show Calls Tryz.prog 11 _ _ _ from Q21 1 _).mono ?_;rintro _ y1 ⟨v,rfl,ho,hb⟩;obtain⟨As,cs,hv,q1,q2,q3,q4⟩:=Q03 ho;have e16:(Q0V 1).length=16:=by simp [Q0V]
   rw [e16] at hv q3;subst hv;have HRS:=sH q3;have HO2:=sH (HO1.out.below hb);have HBY:=sH (hbl.trans (hb.mono hbl.size));have hsy:=HBY.out.size;clear ho hb q1 q2 q3 q4 HO1 hbl e16;go_wp2_with (at_builtin; go_must (refine Q06 _ rfl (.tmp 244) (.tmp 245) 28 rfl x1.heap.size 5 i0 _ 1 1 Tryz.underlying28 hi0 hz0 hz1 hz2 rfl (by omega) _ 3 (([0,1,16]:List UInt8).map vb) rfl HO2.out.row y1.heap.size As 16 cs ((Q0V 1).map vb) rfl HRS.out ?c1 ?c2 ?c3 ?c4 ?_))
   case c1=>intro u hu; obtain⟨y,_,rfl⟩:=List.mem_map.1 hu; rfl
   case c2=>unfold maxLen; omega
   case c3=>omega
   case c4=>omega
   intro v3 y2 hown3 hg3 hor3;have hb3:=Q0p HBY.out (by omega) hg3 (fun b hb=>HO2.out.ge hb);obtain⟨A3,c3,hv,q1,q2,q3,q4⟩:=Q03 (show OwnB y2 x1.heap.size v3 ([0,1,16]++Q0V 1) by unfold OwnB;rw [zB,List.map_append];exact hown3)
   have e19:([0,1,16]++Q0V 1:List UInt8).length=19:=by simp [Q0V]
   rw [e19] at hv q1 q3;subst hv;have HB3:=sH hb3;have hlv2:=HLV.out.below hb3;obtain⟨Ak,mk,ck,h12c,_⟩:=hlv2.at_ 8 ((Q01 vk5).getD 8 []) (by kernel_rfl);have cc:=hlv2.blk.cell 8;rw [h12c] at cc;have ff:=hlv2.blk.frozen 8;have hset:=hlv2.set 8 A3 19 c3 ([0,1,16]++Q0V 1) q3 (by omega) (fun a ha e=>by have:=q4 a ha;have:=HLV.out.blk.lt;omega)
   have HSET:=sH hset;have hb2:=(Q05.setCell y2 ⟨gl,8,none⟩ (.slice A3 19 c3)).below (HBX.out.trans (hb3.mono hsx)) hgl;have HS2:=sH (HS.out.below hb2);have hsr2:=hb2.size;clear hlv2 h12c hset hb2 HS1 hown3 hg3 hor3 hb3 q1 q2 q3 q4 e19 HRS HO2 HBY;go_upto_region 48 with fail
   clear cc ff;generalize World.setCell _ ⟨gl,8,none⟩ _=x2 at HSET HS2 hsr2 ⊢;have HRC:=sH (show Q23 x2 x2.heap.size (some ⟨gl,0,none⟩) 13 (Q1P 3) from by have h:=HSET.out.rowsC;rw [zD,Q1D] at h;exact h)
   clear HSET HLV HBX HB3;go_wp2_with fail
   refine(HS2.out.openBad (by omega) (some ⟨gl,0,none⟩) 13 cap (Q1P 3) HRC.out (by omega) (Q16 3 (by omega)) (Q2I 3 (by omega))).mono ?_;rintro _ x3 ⟨rfl,hb3⟩;have HS3:=sH (HS2.out.below hb3);have hs3:=hb3.size;clear hb3 HS2 HRC;go_wp2_with fail
   go_roundw
   case rel=>exact⟨4,by omega,rfl,rfl,HS3.out,by omega⟩
   case measure=>simp [intOf]
  ·have hbl:=Q0a x1 (.cells #[.int .u8 1,.int .u8 1,.int .u8 1,.int .u8 1,.int .u8 1] 5);have hlv2:=HLV.out.below hbl;obtain⟨Ak,mk,ck,h12c,_⟩:=hlv2.at_ 8 ((Q01 vk5).getD 8 []) (by kernel_rfl);have cc:=hlv2.blk.cell 8;rw [h12c] at cc;have ff:=hlv2.blk.frozen 8;have hr7:Q04 (x1.alloc (.cells #[.int .u8 1,.int .u8 1,.int .u8 1,.int .u8 1,.int .u8 1] 5)) (x1.alloc (.cells #[.int .u8 1,.int .u8 1,.int .u8 1,.int .u8 1,.int .u8 1] 5)).heap.size 1 (some ⟨x1.heap.size,0,none⟩) 5 (([1,1,1,1,1]:List UInt8).map vb):=by
    have h:=Q0m x1 #[.int .u8 1,.int .u8 1,.int .u8 1,.int .u8 1,.int .u8 1] 5;rw [show (x1.alloc (.cells #[.int .u8 1,.int .u8 1,.int .u8 1,.int .u8 1,.int .u8 1] 5)).heap.size=x1.heap.size+1 by simp];exact h
   have hset:=hlv2.set 8 (some ⟨x1.heap.size,0,none⟩) 5 5 [1,1,1,1,1] hr7 (by omega) (fun a ha e=>by
    injection ha with ha
    subst ha;have:=HLV.out.blk.lt;simp only at e;omega)
   have HSET:=sH hset;have hb2:=(Q05.setCell (x1.alloc (.cells #[.int .u8 1,.int .u8 1,.int .u8 1,.int .u8 1,.int .u8 1] 5)) ⟨gl,8,none⟩ (.slice (some ⟨x1.heap.size,0,none⟩) 5 5)).below (HBX.out.trans (hbl.mono hsx)) hgl;have HS2:=sH (HS.out.below hb2);have hsr2:=hb2.size;clear hlv2 h12c hr7 hset hb2 hbl HS1;go_upto_region 48 with fail
   clear cc ff;generalize World.setCell _ ⟨gl,8,none⟩ _=x2 at HSET HS2 hsr2 ⊢;have HRC:=sH (show Q23 x2 x2.heap.size (some ⟨gl,0,none⟩) 13 (Q1P 4) from by have h:=HSET.out.rowsC;rw [zD,Q1D] at h;exact h)
   clear HSET HLV HBX;go_wp2_with fail
   refine(HS2.out.openBad (by omega) (some ⟨gl,0,none⟩) 13 cap (Q1P 4) HRC.out (by omega) (Q16 4 (by omega)) (Q2I 4 (by omega))).mono ?_;rintro _ x3 ⟨rfl,hb3⟩;have HS3:=sH (HS2.out.below hb3);have hs3:=hb3.size;clear hb3 HS2 HRC;go_wp2_with fail
   go_roundw
   case rel=>exact⟨5,by omega,rfl,rfl,HS3.out,by omega⟩
   case measure=>simp [intOf]
  ·have hbl:=Q0a x1 (.cells #[.int .u8 1,.int .u8 1,.int .u8 0,.int .u8 0] 5);have hlv2:=HLV.out.below hbl;obtain⟨Ak,mk,ck,h12c,_⟩:=hlv2.at_ 9 ((Q01 vk5).getD 9 []) (by kernel_rfl);have cc:=hlv2.blk.cell 9;rw [h12c] at cc;have ff:=hlv2.blk.frozen 9;have hr7:Q04 (x1.alloc (.cells #[.int .u8 1,.int .u8 1,.int .u8 0,.int .u8 0] 5)) (x1.alloc (.cells #[.int .u8 1,.int .u8 1,.int .u8 0,.int .u8 0] 5)).heap.size 1 (some ⟨x1.heap.size,0,none⟩) 4 (([1,1,0,0]:List UInt8).map vb):=by
    have h:=Q0m x1 #[.int .u8 1,.int .u8 1,.int .u8 0,.int .u8 0] 5;rw [show (x1.alloc (.cells #[.int .u8 1,.int .u8 1,.int .u8 0,.int .u8 0] 5)).heap.size=x1.heap.size+1 by simp];exact h
   have hset:=hlv2.set 9 (some ⟨x1.heap.size,0,none⟩) 4 4 [1,1,0,0] hr7 (by omega) (fun a ha e=>by
    injection ha with ha
    subst ha;have:=HLV.out.blk.lt;simp only at e;omega)
   have HSET:=sH hset;have hb2:=(Q05.setCell (x1.alloc (.cells #[.int .u8 1,.int .u8 1,.int .u8 0,.int .u8 0] 5)) ⟨gl,9,none⟩ (.slice (some ⟨x1.heap.size,0,none⟩) 4 4)).below (HBX.out.trans (hbl.mono hsx)) hgl;have HS2:=sH (HS.out.below hb2);have hsr2:=hb2.size;clear hlv2 h12c hr7 hset hb2 hbl HS1;go_upto_region 48 with fail
   clear cc ff;generalize World.setCell _ ⟨gl,9,none⟩ _=x2 at HSET HS2 hsr2 ⊢;have HRC:=sH (show Q23 x2 x2.heap.size (some ⟨gl,0,none⟩) 13 (Q1P 5) from by have h:=HSET.out.rowsC;rw [zD,Q1D] at h;exact h)
   clear HSET HLV HBX;go_wp2_with fail
   refine(HS2.out.openBad (by omega) (some ⟨gl,0,none⟩) 13 cap (Q1P 5) HRC.out (by omega) (Q16 5 (by omega)) (Q2I 5 (by omega))).mono ?_;rintro _ x3 ⟨rfl,hb3⟩;have HS3:=sH (HS2.out.below hb3);have hs3:=hb3.size;clear hb3 HS2 HRC;go_wp2_with fail
   go_roundw
   case rel=>exact⟨6,by omega,rfl,rfl,HS3.out,by omega⟩
   case measure=>simp [intOf]
  ·have hbl:=Q0a x1 (.cells #[.int .u8 1,.int .u8 3,.int .u8 0,.int .u8 0] 5);have hlv2:=HLV.out.below hbl;obtain⟨Ak,mk,ck,h12c,_⟩:=hlv2.at_ 12 ((Q01 vk5).getD 12 []) (by kernel_rfl);have cc:=hlv2.blk.cell 12;rw [h12c] at cc;have ff:=hlv2.blk.frozen 12;have hr7:Q04 (x1.alloc (.cells #[.int .u8 1,.int .u8 3,.int .u8 0,.int .u8 0] 5)) (x1.alloc (.cells #[.int .u8 1,.int .u8 3,.int .u8 0,.int .u8 0] 5)).heap.size 1 (some ⟨x1.heap.size,0,none⟩) 4 (([1,3,0,0]:List UInt8).map vb):=by
    have h:=Q0m x1 #[.int .u8 1,.int .u8 3,.int .u8 0,.int .u8 0] 5;rw [show (x1.alloc (.cells #[.int .u8 1,.int .u8 3,.int .u8 0,.int .u8 0] 5)).heap.size=x1.heap.size+1 by simp];exact h
   have hset:=hlv2.set 12 (some ⟨x1.heap.size,0,none⟩) 4 4 [1,3,0,0] hr7 (by omega) (fun a ha e=>by
    injection ha with ha
    subst ha;have:=HLV.out.blk.lt;simp only at e;omega)
   have HSET:=sH hset;have hb2:=(Q05.setCell (x1.alloc (.cells #[.int .u8 1,.int .u8 3,.int .u8 0,.int .u8 0] 5)) ⟨gl,12,none⟩ (.slice (some ⟨x1.heap.size,0,none⟩) 4 4)).below (HBX.out.trans (hbl.mono hsx)) hgl;have HS2:=sH (HS.out.below hb2);have hsr2:=hb2.size;clear hlv2 h12c hr7 hset hb2 hbl HS1;go_upto_region 48 with fail
   clear cc ff;generalize World.setCell _ ⟨gl,12,none⟩ _=x2 at HSET HS2 hsr2 ⊢;have HRC:=sH (show Q23 x2 x2.heap.size (some ⟨gl,0,none⟩) 13 (Q1P 6) from by have h:=HSET.out.rowsC;rw [zD,Q1D] at h;exact h)
   clear HSET HLV HBX;go_wp2_with fail
   refine(HS2.out.openBad (by omega) (some ⟨gl,0,none⟩) 13 cap (Q1P 6) HRC.out (by omega) (Q16 6 (by omega)) (Q2I 6 (by omega))).mono ?_;rintro _ x3 ⟨rfl,hb3⟩;have HS3:=sH (HS2.out.below hb3);have hs3:=hb3.size;clear hb3 HS2 HRC;go_wp2_with fail
   go_roundw
   case rel=>exact⟨7,by omega,rfl,rfl,HS3.out,by omega⟩
   case measure=>simp [intOf]
  ·have hbl:=Q0a x1 (.cells #[.int .u8 1,.int .u8 1,.int .u8 3,.int .u8 16,.int .u8 0,.int .u8 1,.int .u8 0] 5);have hlv2:=HLV.out.below hbl;obtain⟨Ak,mk,ck,h12c,_⟩:=hlv2.at_ 12 ((Q01 vk5).getD 12 []) (by kernel_rfl);have cc:=hlv2.blk.cell 12;rw [h12c] at cc;have ff:=hlv2.blk.frozen 12;have hr7:Q04 (x1.alloc (.cells #[.int .u8 1,.int .u8 1,.int .u8 3,.int .u8 16,.int .u8 0,.int .u8 1,.int .u8 0] 5)) (x1.alloc (.cells #[.int .u8 1,.int .u8 1,.int .u8 3,.int .u8 16,.int .u8 0,.int .u8 1,.int .u8 0] 5)).heap.size 1 (some ⟨x1.heap.size,0,none⟩) 7 (([1,1,3,16,0,1,0]:List UInt8).map vb):=by
    have h:=Q0m x1 #[.int .u8 1,.int .u8 1,.int .u8 3,.int .u8 16,.int .u8 0,.int .u8 1,.int .u8 0] 5;rw [show (x1.alloc (.cells #[.int .u8 1,.int .u8 1,.int .u8 3,.int .u8 16,.int .u8 0,.int .u8 1,.int .u8 0] 5)).heap.size=x1.heap.size+1 by simp];exact h
   have hset:=hlv2.set 12 (some ⟨x1.heap.size,0,none⟩) 7 7 [1,1,3,16,0,1,0] hr7 (by omega) (fun a ha e=>by
    injection ha with ha
    subst ha;have:=HLV.out.blk.lt;simp only at e;omega)
   have HSET:=sH hset;have hb2:=(Q05.setCell (x1.alloc (.cells #[.int .u8 1,.int .u8 1,.int .u8 3,.int .u8 16,.int .u8 0,.int .u8 1,.int .u8 0] 5)) ⟨gl,12,none⟩ (.slice (some ⟨x1.heap.size,0,none⟩) 7 7)).below (HBX.out.trans (hbl.mono hsx)) hgl;have HS2:=sH (HS.out.below hb2);have hsr2:=hb2.size;clear hlv2 h12c hr7 hset hb2 hbl HS1;go_upto_region 48 with fail
   clear cc ff;generalize World.setCell _ ⟨gl,12,none⟩ _=x2 at HSET HS2 hsr2 ⊢;have HRC:=sH (show Q23 x2 x2.heap.size (some ⟨gl,0,none⟩) 13 (Q1P 7) from by have h:=HSET.out.rowsC;rw [zD,Q1D] at h;exact h)
   clear HSET HLV HBX;go_wp2_with fail
   refine(HS2.out.openBad (by omega) (some ⟨gl,0,none⟩) 13 cap (Q1P 7) HRC.out (by omega) (Q16 7 (by omega)) (Q2I 7 (by omega))).mono ?_;rintro _ x3 ⟨rfl,hb3⟩;have HS3:=sH (HS2.out.below hb3);have hs3:=hb3.size;clear hb3 HS2 HRC;go_wp2_with fail
   go_roundw
   case rel=>exact⟨8,by omega,rfl,rfl,HS3.out,by omega⟩
   case measure=>simp [intOf]
  ·have hbl:=Q0a x1 (.cells #[.int .u8 1,.int .u8 1,.int .u8 0,.int .u8 1,.int .u8 1] 5);have hlv2:=HLV.out.below hbl;obtain⟨Ak,mk,ck,h12c,_⟩:=hlv2.at_ 12 ((Q01 vk5).getD 12 []) (by kernel_rfl);have cc:=hlv2.blk.cell 12;rw [h12c] at cc;have ff:=hlv2.blk.frozen 12;have hr7:Q04 (x1.alloc (.cells #[.int .u8 1,.int .u8 1,.int .u8 0,.int .u8 1,.int .u8 1] 5)) (x1.alloc (.cells #[.int .u8 1,.int .u8 1,.int .u8 0,.int .u8 1,.int .u8 1] 5)).heap.size 1 (some ⟨x1.heap.size,0,none⟩) 5 (([1,1,0,1,1]:List UInt8).map vb):=by
    have h:=Q0m x1 #[.int .u8 1,.int .u8 1,.int .u8 0,.int .u8 1,.int .u8 1] 5;rw [show (x1.alloc (.cells #[.int .u8 1,.int .u8 1,.int .u8 0,.int .u8 1,.int .u8 1] 5)).heap.size=x1.heap.size+1 by simp];exact h
   have hset:=hlv2.set 12 (some ⟨x1.heap.size,0,none⟩) 5 5 [1,1,0,1,1] hr7 (by omega) (fun a ha e=>by
    injection ha with ha
    subst ha;have:=HLV.out.blk.lt;simp only at e;omega)
   have HSET:=sH hset;have hb2:=(Q05.setCell (x1.alloc (.cells #[.int .u8 1,.int .u8 1,.int .u8 0,.int .u8 1,.int .u8 1] 5)) ⟨gl,12,none⟩ (.slice (some ⟨x1.heap.size,0,none⟩) 5 5)).below (HBX.out.trans (hbl.mono hsx)) hgl;have HS2:=sH (HS.out.below hb2);have hsr2:=hb2.size;clear hlv2 h12c hr7 hset hb2 hbl HS1;go_upto_region 48 with fail
   clear cc ff;generalize World.setCell _ ⟨gl,12,none⟩ _=x2 at HSET HS2 hsr2 ⊢;have HRC:=sH (show Q23 x2 x2.heap.size (some ⟨gl,0,none⟩) 13 (Q1P 8) from by have h:=HSET.out.rowsC;rw [zD,Q1D] at h;exact h)
   clear HSET HLV HBX;go_wp2_with fail
   refine(HS2.out.openBad (by omega) (some ⟨gl,0,none⟩) 13 cap (Q1P 8) HRC.out (by omega) (Q16 8 (by omega)) (Q2I 8 (by omega))).mono ?_;rintro _ x3 ⟨rfl,hb3⟩;have HS3:=sH (HS2.out.below hb3);have hs3:=hb3.size;clear hb3 HS2 HRC;go_wp2_with fail
   go_roundw
   case rel=>exact⟨9,by omega,rfl,rfl,HS3.out,by omega⟩
   case measure=>simp [intOf]
  ·have hbl:=Q0a x1 (.cells #[.int .u8 1,.int .u8 1,.int .u8 0,.int .u8 1,.int .u8 2,.int .u8 1,.int .u8 1,.int .u8 1,.int .u8 2] 5);have hlv2:=HLV.out.below hbl;obtain⟨Ak,mk,ck,h12c,_⟩:=hlv2.at_ 12 ((Q01 vk5).getD 12 []) (by kernel_rfl);have cc:=hlv2.blk.cell 12;rw [h12c] at cc;have ff:=hlv2.blk.frozen 12;have hr7:Q04 (x1.alloc (.cells #[.int .u8 1,.int .u8 1,.int .u8 0,.int .u8 1,.int .u8 2,.int .u8 1,.int .u8 1,.int .u8 1,.int .u8 2] 5)) (x1.alloc (.cells #[.int .u8 1,.int .u8 1,.int .u8 0,.int .u8 1,.int .u8 2,.int .u8 1,.int .u8 1,.int .u8 1,.int .u8 2] 5)).heap.size 1 (some ⟨x1.heap.size,0,none⟩) 9 (([1,1,0,1,2,1,1,1,2]:List UInt8).map vb):=by
    have h:=Q0m x1 #[.int .u8 1,.int .u8 1,.int .u8 0,.int .u8 1,.int .u8 2,.int .u8 1,.int .u8 1,.int .u8 1,.int .u8 2] 5;rw [show (x1.alloc (.cells #[.int .u8 1,.int .u8 1,.int .u8 0,.int .u8 1,.int .u8 2,.int .u8 1,.int .u8 1,.int .u8 1,.int .u8 2] 5)).heap.size=x1.heap.size+1 by simp];exact h
   have hset:=hlv2.set 12 (some ⟨x1.heap.size,0,none⟩) 9 9 [1,1,0,1,2,1,1,1,2] hr7 (by omega) (fun a ha e=>by
    injection ha with ha
    subst ha;have:=HLV.out.blk.lt;simp only at e;omega)
   have HSET:=sH hset;have hb2:=(Q05.setCell (x1.alloc (.cells #[.int .u8 1,.int .u8 1,.int .u8 0,.int .u8 1,.int .u8 2,.int .u8 1,.int .u8 1,.int .u8 1,.int .u8 2] 5)) ⟨gl,12,none⟩ (.slice (some ⟨x1.heap.size,0,none⟩) 9 9)).below (HBX.out.trans (hbl.mono hsx)) hgl;have HS2:=sH (HS.out.below hb2);have hsr2:=hb2.size;clear hlv2 h12c hr7 hset hb2 hbl HS1;go_upto_region 48 with fail
   clear cc ff;generalize World.setCell _ ⟨gl,12,none⟩ _=x2 at HSET HS2 hsr2 ⊢;have HRC:=sH (show Q23 x2 x2.heap.size (some ⟨gl,0,none⟩) 13 (Q1P 9) from by have h:=HSET.out.rowsC;rw [zD,Q1D] at h;exact h)
   clear HSET HLV HBX;go_wp2_with fail
   refine(HS2.out.openBad (by omega) (some ⟨gl,0,none⟩) 13 cap (Q1P 9) HRC.out (by omega) (Q16 9 (by omega)) (Q2I 9 (by omega))).mono ?_;rintro _ x3 ⟨rfl,hb3⟩;have HS3:=sH (HS2.out.below hb3);have hs3:=hb3.size;clear hb3 HS2 HRC;go_wp2_with fail
   go_roundw
   case rel=>exact⟨10,by omega,rfl,rfl,HS3.out,by omega⟩
   case measure=>simp [intOf]
  have hbl:=Q0a x1 (.cells #[.int .u8 0,.int .u8 0,.int .u8 0] 5);have hlv2:=HLV.out.below hbl;obtain⟨Ak,mk,ck,h12c,_⟩:=hlv2.at_ 12 ((Q01 vk5).getD 12 []) (by kernel_rfl);have cc:=hlv2.blk.cell 12;rw [h12c] at cc;have ff:=hlv2.blk.frozen 12;have hr7:Q04 (x1.alloc (.cells #[.int .u8 0,.int .u8 0,.int .u8 0] 5)) (x1.alloc (.cells #[.int .u8 0,.int .u8 0,.int .u8 0] 5)).heap.size 1 (some ⟨x1.heap.size,0,none⟩) 3 (([0,0,0]:List UInt8).map vb):=by have h:=Q0m x1 #[.int .u8 0,.int .u8 0,.int .u8 0] 5;rw [show (x1.alloc (.cells #[.int .u8 0,.int .u8 0,.int .u8 0] 5)).heap.size=x1.heap.size+1 by simp];exact h
  have hset:=hlv2.set 12 (some ⟨x1.heap.size,0,none⟩) 3 3 [0,0,0] hr7 (by omega) (fun a ha e=>by
   injection ha with ha
   subst ha;have:=HLV.out.blk.lt;simp only at e;omega)
  have HSET:=sH hset;have hb2:=(Q05.setCell (x1.alloc (.cells #[.int .u8 0,.int .u8 0,.int .u8 0] 5)) ⟨gl,12,none⟩ (.slice (some ⟨x1.heap.size,0,none⟩) 3 3)).below (HBX.out.trans (hbl.mono hsx)) hgl;have HS2:=sH (HS.out.below hb2);have hsr2:=hb2.size;clear hlv2 h12c hr7 hset hb2 hbl HS1;go_upto_region 48 with fail
  clear cc ff;generalize World.setCell _ ⟨gl,12,none⟩ _=x2 at HSET HS2 hsr2 ⊢;have HRC:=sH (show Q23 x2 x2.heap.size (some ⟨gl,0,none⟩) 13 (Q1P 10) from by have h:=HSET.out.rowsC;rw [zD,Q1D] at h;exact h)
  clear HSET HLV HBX;go_wp2_with fail
  refine(HS2.out.openBad (by omega) (some ⟨gl,0,none⟩) 13 cap (Q1P 10) HRC.out (by omega) (Q16 10 (by omega)) (Q2I 10 (by omega))).mono ?_;rintro _ x3 ⟨rfl,hb3⟩;have HS3:=sH (HS2.out.below hb3);have hs3:=hb3.size;clear hb3 HS2 HRC;go_wp2_with fail
  go_roundw
  case rel=>exact⟨11,by omega,rfl,rfl,HS3.out,by omega⟩
  case measure=>simp [intOf]
 obtain rfl:i=11:=by omega
 clear hin hi;obtain⟨i0,hi0,hz0,hz1,hz2⟩:=info_parts Q1f;go_wp2_with fail
 refine(Q8y wr V _ _ HS.out.vat).mono ?_;rintro _ w38 ⟨v,rfl,hob,hb⟩;obtain⟨Ab,cb,hv,q1,q2,q3,q4⟩:=Q03 hob;rw [Q5L] at hv q1 q3;subst hv;have HS:=sH (HS.out.below hb);have HRB:=sH q3;have hcb:(181:Int)<=(cb:Int):=by omega
 have hcb2:¬ (cb:Int)<181:=by omega
 have hcb3:182<=cb:=q1;clear hob hb q1 q2 q3 q4;go_wp2_with fail
 refine(HS.out.loadBad (by omega) Ab 181 cb ((Q27 vk5).take 181) (by rw [List.map_take]; exact HRB.out.take_ (by omega)) (by omega) (by omega) 3 3 rfl (by have h:=vk_trunc; rw [Q5L] at h; exact h)).mono ?_;rintro _ w39 ⟨rfl,hb⟩;have HS:=sH (HS.out.below hb);have HRB:=sH ((HRB.out.below hb).more hb.size);clear hb hcb hcb2;go_wp2_with fail
 refine(Q5M Ab 182 cb (Q27 vk5) w39 _ HRB.out (zA _) (by omega)).mono ?_;rintro _ w40 ⟨v,rfl,hob,hb⟩;have hbl:=Q0a w40 (.cells #[.int .u8 0] 5);have HO1:=sH (hob.below hbl);have HB40:=sH (hb.trans (hbl.mono hb.size));have hs40:=hb.size;have hsl:(w40.alloc (.cells #[.int .u8 0] 5)).heap.size=w40.heap.size+1:=by simp
 have HR0:=sH (show Q04 (w40.alloc (.cells #[.int .u8 0] 5)) (w40.alloc (.cells #[.int .u8 0] 5)).heap.size 1 (some ⟨w40.heap.size,0,none⟩) 1 (([0]:List UInt8).map vb) from by have h:=Q0m w40 #[.int .u8 0] 5;rw [hsl];exact h)
 obtain⟨b40,hb40⟩:∃ b,b=w40.heap.size:=⟨_,rfl⟩;have HEB:=sH hb40;rw [<- hb40] at HR0;have hvb:=Q5L;have HVB:=sH hvb;clear hob hb hbl hb40 hvb;go_wp2_with (at_builtin; go_must (refine Q06 _ rfl (.tmp 306) (.tmp 307) 28 rfl w39.heap.size 5 i0 _ 1 1 Tryz.underlying28 hi0 hz0 hz1 hz2 rfl (by omega) _ 182 ((Q27 vk5).map vb) rfl (by have h:=HO1.out.row; rw [HVB.out] at h; exact h) _ (some ⟨b40,0,none⟩) 1 1 (([0]:List UInt8).map vb) (by rw [HEB.out]; rfl) HR0.out ?c1 ?c2 ?c3 ?c4 ?_))
 case c1=>intro u hu; obtain⟨y,_,rfl⟩:=List.mem_map.1 hu; rfl
 case c2=>unfold maxLen; omega
 case c3=>omega
 case c4=>omega
 intro v3 w41 hown3 hg3 hor3;have hb:=Q0p HB40.out (by omega) hg3 (fun b hb=>HO1.out.ge hb);have HS:=sH (HS.out.below hb);have HRB:=sH ((HRB.out.below hb).more hb.size);obtain⟨A3,c3,hv,q1,q2,q3,q4⟩:=Q03 (show OwnB w41 w39.heap.size v3 (Q27 vk5++[0]) by unfold OwnB;rw [zB,List.map_append,HVB.out];exact hown3)
 rw [show (Q27 vk5++[0]:List UInt8).length=183 by rw [zB,HVB.out]; rfl] at hv q1 q3;subst hv;have HR3:=sH q3;have hc3:183<=c3:=q1;clear hown3 hg3 hor3 hb q1 q2 q3 q4 HO1 HB40 HR0 HEB;go_wp2_with fail
 refine(HS.out.loadBad (by omega) A3 183 c3 (Q27 vk5++[0]) HR3.out (by omega) (by omega) 4 4 rfl Q8P).mono ?_;rintro _ w42 ⟨rfl,hb⟩;have HS:=sH (HS.out.below hb);have HRB:=sH ((HRB.out.below hb).more hb.size);clear hb HR3 hc3;go_wp2_with fail
 refine(HS.out.loadBad (by omega) none 0 0 [] Q04.none_ (by omega) (by omega) 3 3 rfl vk_none).mono ?_;rintro _ w43 ⟨rfl,hb⟩;have hbl:=Q0a w43 (.cells #[.int .u8 1,.int .u8 200] 5);have hb:=hb.trans (hbl.mono hb.size);have HS:=sH (HS.out.below hb);have HRB:=sH ((HRB.out.below hb).more hb.size);have HR2:=sH (show Q04 (w43.alloc (.cells #[.int .u8 1,.int .u8 200] 5)) (w43.alloc (.cells #[.int .u8 1,.int .u8 200] 5)).heap.size 1 (some ⟨w43.heap.size,0,none⟩) 2 (([1,200]:List UInt8).map vb) from by have h:=Q0m w43 #[.int .u8 1,.int .u8 200] 5;rw [show (w43.alloc (.cells #[.int .u8 1,.int .u8 200] 5)).heap.size=w43.heap.size+1 by simp];exact h)
 clear hb hbl;go_wp2_with fail
 refine(HS.out.loadBad (by omega) (some ⟨w43.heap.size,0,none⟩) 2 2 [1,200] HR2.out (by omega) (by omega) 5 5 rfl vk_long).mono ?_;rintro _ w44 ⟨rfl,hb⟩;have HS:=sH (HS.out.below hb);have HRB:=sH ((HRB.out.below hb).more hb.size);clear hb HR2;go_wp2_with fail
 refine(HS.out.loadNone Ab 182 cb (Q27 vk5) HRB.out (by omega) (by omega) vk_some).mono ?_;rintro _ w45 ⟨rfl,hb⟩;have HS:=sH (HS.out.below hb);have hs45:=hb.size;obtain⟨L,a',h1,h2,h3⟩:=HS.out.book;have HKK:=sH h1.lt;clear hb HRB L a' h1 h2 h3;go_wp2_with fail
 refine(Q7O V.k none 0 0 [] w45 HKK.out ⟨rfl,fun h=>absurd h (by omega)⟩ (by omega) (fun x hx=>by cases hx)).mono ?_;rintro _ w46 ⟨hno,_⟩;obtain⟨rfl,hb⟩:=hno rfl;have HLO:=sH (HS.out.below hb).low;clear hb hno HS HKK;go_upto_region 60 with fail
 have HZ:=sH Q1O;obtain⟨DZ,hD⟩:∃ D,D=inkZ:=⟨_,rfl⟩;have HDE:=sH hD;have HDS:=sH (show DZ.size=32 by rw [hD]; simp [inkZ,bRow]);have HDO:=sH (show DZ.all (·.oneCell')=true by rw [hD]; exact Q0I _);clear hD;go_wp2_with fail
 go_loopw [49,50] (fun pv tv wr=>∃ (i:Nat) (p:Option Addr),i<=2/\pv=.pointer p/\tv=.int .i64 i/\NilV wr p/\Below w.heap.size w wr) (fun _ tv _=>2 - (intOf tv).toNat)
 case atStart=>exact⟨0,none,by omega,rfl,rfl,.inl rfl,HLO.out⟩
 obtain⟨i,p,hi,rfl,rfl,hnv,hlo⟩:=hrel;have HNV:=sH hnv;have HL:=sH hlo;clear hnv hlo HLO;by_cases hi2:i<2
 ·have hiI:(i:Int)<2:=by omega
  go_wp2_with fail
  refine(Q12 31 1 0 0 wr).mono ?_;rintro _ y1 ⟨rfl,hb⟩;have HNV:=sH (HNV.out.below hb);have HL:=sH (HL.out.trans (hb.mono HL.out.size));clear hb;go_wp2_with fail
  refine(vNilDo y1 p _ rfl HNV.out).mono ?_;rintro _ y2 ⟨rfl,hb⟩;have HNV:=sH (HNV.out.below hb);have HL:=sH (HL.out.trans (hb.mono HL.out.size));clear hb;go_upto_region 64 with(refine Q00 (o:=⟨none,_,_,_,_,_⟩) rfl 34 (.tmp 51) (.tmp 366) rfl y2.heap.size 0 (anC 0 none 0 0 0 none 0 0) rfl rfl 34 (aC 0 none 0 0 0) (Blk.newAt rfl) (by kernel_rfl) (by simp [aC,anC]) (by simp [anC,Value.oneCell']) ?_; intro y3 hT hD)
  have hb:Below y2.heap.size y2 y3:=hT.below ((zC _ _).alloc (zA _) _) (zA _);have HNV:=sH (HNV.out.below hb);have HL:=sH (HL.out.trans (hb.mono HL.out.size));clear hb hT hD;go_wp2_with fail
  refine(vNilLook y3 p 9 HNV.out).mono ?_;rintro _ y4 ⟨rfl,hb⟩;have HNV:=sH (HNV.out.below hb);have HL:=sH (HL.out.trans (hb.mono HL.out.size));clear hb;go_wp2_with fail
  refine(vNilRoot y4 p HNV.out).mono ?_;rintro _ y5 ⟨rfl,hb⟩;have HNV:=sH (HNV.out.below hb);have HL:=sH (HL.out.trans (hb.mono HL.out.size));clear hb;rw [<- HDE.out];go_upto_region 66 with(refine Q00 (o:=⟨none,_,_,_,_,_⟩) rfl 51 (.tmp 55) (.tmp 376) rfl y5.heap.size 0 DZ rfl rfl 51 _ (Blk.newAt rfl) (by rw [HDS.out]; kernel_rfl) (by rw [HDS.out]; simp) HDO.out ?_; intro y6 hT hD)
  have hb:Below y5.heap.size y5 y6:=hT.below ((zC _ _).alloc (zA _) _) (zA _);have HNV:=sH (HNV.out.below hb);have HL:=sH (HL.out.trans (hb.mono HL.out.size));clear hb hT hD;go_wp2_with fail
  refine(Q91 y6 p HNV.out).mono ?_;rintro _ y7 ⟨rfl,hb⟩;have HNV:=sH (HNV.out.below hb);have HL:=sH (HL.out.trans (hb.mono HL.out.size));clear hb;go_wp2_with fail
  refine(Q12 31 1 0 0 y7).mono ?_;rintro _ y8 ⟨rfl,hb⟩;have HNV:=sH (HNV.out.below hb);have HL:=sH (HL.out.trans (hb.mono HL.out.size));clear hb;go_wp2_with fail
  refine(Q9v y8 p _ rfl HNV.out).mono ?_;rintro _ y9 ⟨rfl,hb⟩;have HNV:=sH (HNV.out.below hb);have HL:=sH (HL.out.trans (hb.mono HL.out.size));clear hb;go_upto_region 68 with(refine Q00 (o:=⟨none,_,_,_,_,_⟩) rfl 34 (.tmp 59) (.tmp 387) rfl y9.heap.size 0 (anC 0 none 0 0 0 none 0 0) rfl rfl 34 (aC 0 none 0 0 0) (Blk.newAt rfl) (by kernel_rfl) (by simp [aC,anC]) (by simp [anC,Value.oneCell']) ?_; intro z0 hT hD)
  have hb:Below y9.heap.size y9 z0:=hT.below ((zC _ _).alloc (zA _) _) (zA _);have HNV:=sH (HNV.out.below hb);have HL:=sH (HL.out.trans (hb.mono HL.out.size));clear hb hT hD;go_wp2_with fail
  refine(vNilTurn z0 p HNV.out).mono ?_;rintro _ z1 ⟨rfl,hb⟩;have HNV:=sH (HNV.out.below hb);have HL:=sH (HL.out.trans (hb.mono HL.out.size));clear hb;go_wp2_with fail
  refine(Q8s z1 p HNV.out).mono ?_;rintro _ z2 ⟨rfl,hb⟩;have HNV:=sH (HNV.out.below hb);have HL:=sH (HL.out.trans (hb.mono HL.out.size));clear hb;go_wp2_with fail
  refine(Q8C z2 p HNV.out).mono ?_;rintro _ z3 ⟨rfl,hb⟩;have HNV:=sH (HNV.out.below hb);have HL:=sH (HL.out.trans (hb.mono HL.out.size));clear hb;go_wp2_with fail
  refine(Q8R z3 p HNV.out).mono ?_;rintro _ z4 ⟨rfl,hb⟩;have HNV:=sH (HNV.out.below hb);have HL:=sH (HL.out.trans (hb.mono HL.out.size));clear hb;go_wp2_with fail
  refine(Q8X z4 p HNV.out).mono ?_;rintro _ z5 ⟨rfl,hb⟩;have HNV:=sH (HNV.out.below hb);have HL:=sH (HL.out.trans (hb.mono HL.out.size));clear hb;go_wp2_with fail
  go_roundw
  case rel=>exact⟨i+1,some ⟨z5.heap.size,0,none⟩,by omega,rfl,by go_num,.inr ⟨_,rfl,(Blk.newAt rfl).cell 0⟩,HL.out.alloc HL.out.size _⟩
  case measure=>simp [intOf]; omega
 obtain rfl:i=2:=by omega
 go_wp2_with fail
 refine(Q89 wr).mono ?_;rintro _ z1 ⟨rfl,hb⟩;go_wp2_with fail
 go_ret
 exact⟨rfl,HL.out.trans (hb.mono HL.out.size)⟩
end
end Go.Proofs.YtckjnbjiafgibaaGreat
