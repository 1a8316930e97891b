/- Parts of the proof, in one text. -/
import Derived.Test.YtckjnbjiafgibaaGreatK6
import Derived.Test.YtckjnbjiafgibaaGreatK4
import Derived.Laws.StructEq
import Derived.Laws.IdiomStrings
import Derived.Laws.BytesArg
import Derived.BigRegion
import Derived.Deep.DeepCutAuto
namespace Go.Proofs.YtckjnbjiafgibaaGreat
set_option linter.unusedVariables false
set_option linter.unusedSimpArgs false
set_option maxRecDepth 100000
set_option maxHeartbeats 16000000
open _root_.Array renaming getElem?_setIfInBounds->zI
open _root_.Go renaming Addr->zA,World->zB,Value->zC,Calls->zG
open _root_.Go.Act renaming put->zN
open _root_.Go.Proofs.Tryz renaming prog->zJ
open _root_.Go.RowKit renaming Below->zE
open _root_.Go.RowKit.Below renaming refl->zL
open _root_.Go.World renaming alloc->zR
open _root_.List renaming getElem?_eq_getElem->zD,getElem?_eq_none->zH,getD_eq_getElem?_getD->zM,getElem?_set->zO,length_set->zP,take_succ_eq_append_getElem->zQ
open _root_.Nat renaming lt_or_ge->zF,le_refl->zK
section
open Go.RowKit Go.Maps
attribute [local irreducible] wpList
def aC (err:Int) (A:Option zA) (n c:Nat) (ep:Int):Array zC:=#[.int .i64 err,.slice A n c,.int .i64 ep,.slice none 0 0]
theorem Q0F (err:Int) (A:Option zA) (n c:Nat) (ep:Int):(Tryz.prog.info? 34).map (·.size)=some (aC err A n c ep).size:=by kernel_rfl
theorem Q0X (err:Int) (A:Option zA) (n c:Nat) (ep:Int):(aC err A n c ep).all (·.oneCell')=true:=by simp [aC,Value.oneCell']
theorem Q17 (e e':Int) (A A':Option zA) (n c n' c':Nat) (p p':Int):spl (aC e A n c p) 0 (aC e' A' n' c' p').toList=aC e' A' n' c' p':=Q0h (aC e A n c p) (aC e' A' n' c' p') rfl
def ansC:Option Ans->Array zC
 | none=>aC 0 none 0 0 0
 | some a=>aC a.err none 0 0 a.epoch
theorem Q69 (w:zB) (g:Nat) (t:Option zA) (N:Nat->Prop) (m:VM) (S:VSl) (h:VDat w g t N m S) (e:Int) :
 zG zJ 47 #[.pointer (some ⟨g,0,none⟩),.int .i64 e] w fun r w'=>r=.returned (.agg (ansC (Q25 m e)))/\zE w.heap.size w w':=by
 have hep:=h.ok.epoch;have lg:=h.blk.lt;have hX:=Q0a w (.cells (aC 0 none 0 0 0) 34);have hk:Blk (w.alloc (.cells (aC 0 none 0 0 0) 34)) w.heap.size 34 (aC 0 none 0 0 0):=Blk.newAt rfl;have c2:=(h.below hX).cEpoch;have c19:=(h.below hX).cShut;have HX:=sH hX;have HK:=sH hk;have C2:=sH c2;have C19:=sH c19;have hZ:aC 0 none 0 0 0=#[.int .i64 0,.slice none 0 0,.int .i64 0,.slice none 0 0]:=rfl;obtain⟨gr,hgr⟩:∃ x,x=w.heap.size:=⟨_,rfl⟩;obtain⟨sl,hsl⟩:∃ x,x=m.shut.length:=⟨_,rfl⟩;rw [<- hsl] at C19;have hE:∀ D,D=ansC (Q25 m e)->D=ansC (Q25 m e):=fun _ h=>h
 have HE:=sH (show Q25 m e=if e≠(m.epoch:Int) then some (errA 171 m.epoch) else if 0<sl then some (errA 171 (m.epoch+1)) else none from by rw [hsl]; rfl);clear h hX hk c2 c19 hsl;go_enter Tryz.func47,Tryz.ntmps47
 go_upto_region 1 with fail
 rw [<- hZ];generalize zR w _=w1 at HX HK C2 C19 ⊢;rw [<- hgr] at HK ⊢;have hgw:w.heap.size<=gr:=by omega
 have c2:=C2.out;have c19:=C19.out;clear hgr hZ;by_cases h1:e=(m.epoch:Int)
 ·by_cases h2:0<sl
  ·have h2I:(0:Int)<(sl:Int):=by omega
   have hee:Q25 m e=some (errA 171 (m.epoch+1)):=by rw [HE.out,if_neg (fun h=>h h1),if_pos h2]
   have HEE:=sH hee;clear hee;go_wp2_with (refine Q00 (o:=⟨none,_,_,_,_,_⟩) rfl 34 (.tmp 4) (.tmp 29) rfl gr 0 (aC 171 none 0 0 ((m.epoch:Int)+1)) rfl rfl 34 _ HK.out (Q0F _ _ _ _ _) (by simp [aC]) (Q0X _ _ _ _ _) ?_; intro w5 hT5 hD5; rw [Q17] at hD5)
   refine bodyPost_ret (Q0x rfl _ _ gr 4 34 _ _ rfl hD5 Tryz.underlying34 rfl rfl rfl) rfl ?_;refine⟨by rw [HEE.out]; rfl,?_⟩;exact hT5.below HX.out hgw
  have h2I:¬ (0:Int)<(sl:Int):=by omega
  have hee:Q25 m e=none:=by rw [HE.out,if_neg (fun h=>h h1),if_neg h2]
  have HEE:=sH hee;clear hee;go_wp2_with (refine Q00 (o:=⟨none,_,_,_,_,_⟩) rfl 34 (.tmp 4) (.tmp 30) rfl gr 0 (aC 0 none 0 0 0) rfl rfl 34 _ HK.out (Q0F _ _ _ _ _) (by simp [aC]) (Q0X _ _ _ _ _) ?_; intro w5 hT5 hD5; rw [Q17] at hD5)
  refine bodyPost_ret (Q0x rfl _ _ gr 4 34 _ _ rfl hD5 Tryz.underlying34 rfl rfl rfl) rfl ?_;refine⟨by rw [HEE.out]; rfl,?_⟩;exact hT5.below HX.out hgw
 have hee:Q25 m e=some (errA 171 m.epoch):=by rw [HE.out,if_pos h1]
 have h1b:(e != (m.epoch:Int))=true:=by simpa using h1
 have HEE:=sH hee;clear hee;go_wp2_with (refine Q00 (o:=⟨none,_,_,_,_,_⟩) rfl 34 (.tmp 4) (.tmp 16) rfl gr 0 (aC 171 none 0 0 (m.epoch:Int)) rfl rfl 34 _ HK.out (Q0F _ _ _ _ _) (by simp [aC]) (Q0X _ _ _ _ _) ?_; intro w5 hT5 hD5; rw [Q17] at hD5)
 refine bodyPost_ret (Q0x rfl _ _ gr 4 34 _ _ rfl hD5 Tryz.underlying34 rfl rfl rfl) rfl ?_;refine⟨by rw [HEE.out]; rfl,?_⟩;exact hT5.below HX.out hgw
def Q9L (w:zB) (B:Nat) (D:Array zC) (x:Ans):Prop:=∃ A c,D=aC x.err A x.data.length c x.epoch/\OwnB w B (.slice A x.data.length c) x.data
theorem Q7Y (w:zB) (g:Nat) (t:Option zA) (N:Nat->Prop) (m:VM) (S:VSl) (h:VDat w g t N m S) (x:Wish) (A:Option zA) (n c:Nat) (A':Option zA) (n' c':Nat) (hc:31<=x.client/\x.client<=34) :
 zG zJ 46 #[.pointer (some ⟨g,0,none⟩),.agg (Q02 x A n c A' n' c')] w fun r w'=>∃ D,r=.returned (.tuple #[.agg D,.bool (oldV m x).isSome])/\Q9L w' w.heap.size D ((oldV m x).getD okA)/\zE w.heap.size w w':=by
 obtain⟨j,hj⟩:∃ j,j=(x.client - 31).toNat:=⟨_,rfl⟩;have hj4:j<4:=by omega
 have hjc:x.client - 31=(j:Int):=by omega
 have hjI:(j:Int)<4:=by omega
 have lg:=h.blk.lt;have hlc:=h.cLast j hj4;have hls:=h.ok.lst hj4;have hll:(Q0C m j).2.length<=16:=by
  rcases hls.2 with e | e
  ·rw [e]; simp
  rw [e.1]; omega
 have hf:=h.last j hj4;have hX:zE w.heap.size w ((w.alloc (.cells (Q02 x A n c A' n' c') 31)).alloc (.cells (aC 0 none 0 0 0) 34)):=((zL _ _).alloc (zK _) _).alloc (by simp) _;have k3:Blk ((w.alloc (.cells (Q02 x A n c A' n' c') 31)).alloc (.cells (aC 0 none 0 0 0) 34)) w.heap.size 31 (Q02 x A n c A' n' c'):=(Blk.newAt rfl).alloc _;have k4:Blk ((w.alloc (.cells (Q02 x A n c A' n' c') 31)).alloc (.cells (aC 0 none 0 0 0) 34)) (w.heap.size+1) 34 (aC 0 none 0 0 0):=Blk.newAt (by simp);have hz1:((w.alloc (.cells (Q02 x A n c A' n' c') 31)).alloc (.cells (aC 0 none 0 0 0) 34)).heap.size=w.heap.size+2:=by simp
 have hO:oldV m x=if x.stamp=((Q0C m j).1:Int) then some (Q24 (Q0C m j).2) else if x.stamp<((Q0C m j).1:Int) then some (errA 172 0) else none:=by unfold oldV; rw [<- hj]
 have hsz:(Q4U S m j).size=2:=rfl;have hon:(Q4U S m j).all (·.oneCell')=true:=by simp [Q4U,Value.oneCell']
 have e0:Q4U S m j=#[.int .i64 ((Q0C m j).1:Int),.slice (S.lA j) (Q0C m j).2.length (S.lC j)]:=rfl;generalize Q0C m j=y at hO hll hf e0;obtain⟨st,dt⟩:=y;simp only at hO hll hf e0;generalize Q4U S m j=D at hlc hsz hon e0;have HB:=sH (fun(W:zB) (hb:zE w.heap.size w W)=>h.blk.below' hb);have HF:=sH (fun(W:zB) (hb:zE w.heap.size w W)=>hf.below hb);have HLC:=sH hlc;have HSZ:=sH hsz;have HON:=sH hon;have HE:=sH e0;have HO:=sH hO;have HX:=sH hX;have K3:=sH k3;have K4:=sH k4;have HZ1:=sH hz1;have hZ:aC 0 none 0 0 0=#[.int .i64 0,.slice none 0 0,.int .i64 0,.slice none 0 0]:=rfl;obtain⟨g3,hg3⟩:∃ b,b=w.heap.size:=⟨_,rfl⟩;obtain⟨g4,hg4⟩:∃ b,b=w.heap.size+1:=⟨_,rfl⟩;generalize oldV m x=ov at HO ⊢;clear h hlc hls hf hX k3 k4 hz1 hO hsz hon e0 hj;go_enter Tryz.func46,Tryz.ntmps46
 go_upto_region 1 with fail
 rw [<- hZ];generalize zR (zR w _) _=w1 at HX K3 K4 HZ1 ⊢;rw [<- hg4] at K4 ⊢;rw [<- hg3] at K3 ⊢;have hz1:=HZ1.out;have hgw3:w.heap.size<=g3:=by omega
 have hgw4:w.heap.size<=g4:=by omega
 have hg34:g3≠g4:=by omega
 have hw1:w.heap.size<=w1.heap.size:=by omega
 have hl3:=K3.out.lt;have hl4:=K4.out.lt;clear hg3 hg4 HZ1 hz1 hZ;refine Q0r 9 33 (fun jx W v=>match jx with | 0=>v=.pointer (some ⟨g,0,none⟩) | 1=>v=.pointer (some ⟨g3,0,none⟩) | 2=>v=.int .i64 x.client | 3=>v=.int .i64 (j:Int) | 4=>v=.pointer (some ⟨g,0,none⟩) | 5=>v=.pointer (some ⟨g,11,none⟩) | 6=>v=.pointer (some ⟨g,11+j*2,none⟩) | 7=>v=.agg D | _=>∃ g6,v=.pointer (some ⟨g6,0,none⟩)/\w1.heap.size<=g6/\Blk W g6 61 #[.int .i64 0,.slice none 0 0]) [7,8,9,10,11,12,13,14,6] (by kernel_rfl) (by kernel_rfl) (by kernel_rfl) (by simp) (by kernel_rfl) (fun jx=>?last) ?heads ?_
 case last =>
  match jx with
  | 0 | 1 | 2 | 3 | 4 | 5 | 6 | 7=>exact Q1B.pure _
  | jx+8=>exact fun W W' v ⟨g3,h1,h2,h3⟩ hb=>⟨g3,h1,h2,h3.below' hb⟩
 case heads =>
  simp only [tT];and_intros;rotate_right;trivial;all_goals intro a W hb hkp hd
  ·have e0:(_:zC)=.pointer (some ⟨g,0,none⟩):=sK hkp 0;exact sV
  ·have e0:(_:zC)=.pointer (some ⟨g3,0,none⟩):=sK hkp 3;exact sV
  ·have e0:=sJ (hd 1) 8;have cc:W.cell? ⟨g3,0,none⟩=some (.int .i64 x.client):=((K3.out.below' hb).cell 0).trans rfl;exact sV
  ·have e0:=sJ (hd 2) 9;exact Q1b rfl (.int .i64 (j:Int)) (by go_simp; rw [IntKind.wrap_i64]; omega) rfl
  ·have e0:=sJ (hd 0) 7;exact sV
  ·have e0:=sJ (hd 4) 11;exact sV
  ·have e0:=sJ (hd 5) 12;have e1:=sJ (hd 3) 10;exact sV
  ·have e0:a.eval (.tmp 13)=.pointer (some ⟨g,11+j*2,none⟩):=(hd 6 (by kernel_rfl)) _ 13 rfl rfl;exact Q1b rfl (.agg D) (Q0s 61 (.tmp 13) rfl g (11+j*2) 2 e0 64 _ D _ (HB.out W (HX.out.trans (hb.mono hw1))) Tryz.underlying61 rfl rfl HSZ.out HLC.out) rfl
  refine Q2z rfl (.pointer (some ⟨W.heap.size,0,none⟩)) (W.alloc (.cells #[.int .i64 0,.slice none 0 0] 61)) (by go_simp) ((zL _ _).alloc (zK _) _) ⟨W.heap.size,rfl,hb.size,Blk.new W _ _⟩
 intro f W hb hd;have h14:f 14=.agg D:=hd 7 (by omega) _ 14 rfl rfl;obtain⟨g6,h6,hg6,hB6⟩:∃ g6,f 6=.pointer (some ⟨g6,0,none⟩)/\w1.heap.size<=g6/\Blk W g6 61 #[.int .i64 0,.slice none 0 0]:=hd 8 (by omega) _ 6 rfl rfl;have HB6:=sH hB6;have HBW:=sH hb;simp only [Q0R,tU,h14,h6];clear hd hB6 hb;try simp only [zN,sA]
 go_upto_region 2 with(refine Q00 (o:=⟨none,_,_,_,_,_⟩) rfl 61 (.tmp 6) (.tmp 14) rfl g6 0 D rfl rfl 61 _ HB6.out (by rw [HSZ.out]; rfl) (by rw [HSZ.out]; simp) HON.out ?_; intro w5 hT5 hD5; rw [Q0h _ _ (by rw [HSZ.out]; rfl)] at hD5)
 have hb5:zE w1.heap.size w1 w5:=hT5.below HBW.out hg6;rw [HE.out] at hD5;have c60:w5.cell? ⟨g6,0,none⟩=some (.int .i64 (st:Int)):=(hD5.cell 0).trans rfl;have c61:w5.cell? ⟨g6,1,none⟩=some (.slice (S.lA j) dt.length (S.lC j)):=(hD5.cell 1).trans rfl;have K35:=sH (K3.out.below' hb5);have K45:=sH (K4.out.below' hb5);have c31:w5.cell? ⟨g3,1,none⟩=some (.int .i64 x.stamp):=(K35.out.cell 1).trans rfl;have HB5:=sH (HX.out.trans (hb5.mono hw1));have hs5:=HB5.out.size;have hs15:=hb5.size;have hF5:=HF.out w5 HB5.out;have HCL:=sH (Q1t (S.lA j) dt.length (S.lC j) dt w5 w5.heap.size hF5.rd (zK _) (by omega));clear hT5 hD5 hb5 hF5 HB6 HBW HF HB K3 K4 HX;by_cases h1:x.stamp=(st:Int)
 ·have hov:ov=some (Q24 dt):=by rw [HO.out,if_pos h1]
  subst hov;have h1b:(x.stamp == (st:Int))=true:=by simpa using h1
  go_wp2_with fail
  refine HCL.out.mono ?_;rintro _ w6 ⟨v,rfl,ho6,hb6⟩;obtain⟨A6,k6,rfl,q1,q2,r6,q3⟩:=Q03 ho6;have K46:=sH (K45.out.below' hb6);have HB6:=sH (HB5.out.trans (hb6.mono hs5));have HO6:=sH ho6;have hs6:=hb6.size;clear ho6 hb6 r6;go_wp2_with (refine Q00 (o:=⟨none,_,_,_,_,_⟩) rfl 34 (.tmp 4) (.tmp 24) rfl g4 0 (aC 0 A6 dt.length k6 0) rfl rfl 34 _ K46.out (Q0F _ _ _ _ _) (by simp [aC]) (Q0X _ _ _ _ _) ?_; intro w7 hT7 hD7; rw [Q17] at hD7)
  refine bodyPost_ret (Q07 rfl _ _ g4 4 34 _ _ rfl hD7 Tryz.underlying34 rfl rfl rfl) rfl ⟨aC 0 A6 dt.length k6 0,rfl,⟨A6,k6,rfl,?_⟩,?_⟩
  ·exact(HO6.out.more (by omega)).keep fun b hb=>hT7.block b (fun e=>by have:=HO6.out.ge hb; omega)
  exact hT7.below HB6.out hgw4
 have h1b:(x.stamp == (st:Int))=false:=by simpa using h1
 by_cases h2:x.stamp<(st:Int)
 ·have hov:ov=some (errA 172 0):=by rw [HO.out,if_neg h1,if_pos h2]
  subst hov;go_wp2_with (refine Q00 (o:=⟨none,_,_,_,_,_⟩) rfl 34 (.tmp 4) (.tmp 31) rfl g4 0 (aC 172 none 0 0 0) rfl rfl 34 _ K45.out (Q0F _ _ _ _ _) (by simp [aC]) (Q0X _ _ _ _ _) ?_; intro w7 hT7 hD7; rw [Q17] at hD7)
  refine bodyPost_ret (Q07 rfl _ _ g4 4 34 _ _ rfl hD7 Tryz.underlying34 rfl rfl rfl) rfl ⟨aC 172 none 0 0 0,rfl,⟨none,0,rfl,OwnB.nil _ _⟩,?_⟩;exact hT7.below HB5.out hgw4
 have hov:ov=none:=by rw [HO.out,if_neg h1,if_neg h2]
 subst hov;go_wp2_with (refine Q00 (o:=⟨none,_,_,_,_,_⟩) rfl 34 (.tmp 4) (.tmp 32) rfl g4 0 (aC 0 none 0 0 0) rfl rfl 34 _ K45.out (Q0F _ _ _ _ _) (by simp [aC]) (Q0X _ _ _ _ _) ?_; intro w7 hT7 hD7; rw [Q17] at hD7)
 refine bodyPost_ret (Q07 rfl _ _ g4 4 34 _ _ rfl hD7 Tryz.underlying34 rfl rfl rfl) rfl ⟨aC 0 none 0 0 0,rfl,⟨none,0,rfl,OwnB.nil _ _⟩,?_⟩;exact hT7.below HB5.out hgw4
end
section
open Go.RowKit Go.Maps
theorem VAt.none_ {w:zB} {V:VLoc} {N:Nat->Prop} {m:VM} (h:VAt w V N m):w.cell? ⟨V.g,0,none⟩=some (.pointer (some ⟨V.T.t,0,none⟩)):=by obtain⟨S,hd⟩:=h.dat;exact hd.cTree
theorem Q8n (w:zB) (V:VLoc) (N:Nat->Prop) (m:VM) (h:VAt w V N m) :
 zG zJ 24 #[.pointer (some ⟨V.g,0,none⟩)] w fun e w'=>e=.returned (.int .i64 (m.group:Int))/\w=w':=by
 obtain⟨S,hd⟩:=h.dat;have c1:=hd.cGroup;have HN:=sH (Q1C w V.g V.T.t h.none_);clear h hd;go_enter Tryz.func24,Tryz.ntmps24
 go_wp2_with fail
 refine HN.out.mono ?_;rintro _ _ ⟨rfl,rfl⟩;go_wp2_with fail
 go_ret
 exact⟨rfl,rfl⟩
theorem Q5o (w:zB) (V:VLoc) (N:Nat->Prop) (m:VM) (h:VAt w V N m) :
 zG zJ 16 #[.pointer (some ⟨V.g,0,none⟩)] w fun e w'=>e=.returned (.int .i64 (m.epoch:Int))/\w=w':=by
 obtain⟨S,hd⟩:=h.dat;have c1:=hd.cEpoch;have HN:=sH (Q1C w V.g V.T.t h.none_);clear h hd;go_enter Tryz.func16,Tryz.ntmps16
 go_wp2_with fail
 refine HN.out.mono ?_;rintro _ _ ⟨rfl,rfl⟩;go_wp2_with fail
 go_ret
 exact⟨rfl,rfl⟩
theorem Q93 {cs:Array zC} {t:Option zA} {m:VM} {S:VSl} (hs:cs.size=20) (h0:cs[0]?=some (.pointer t)) (h1:cs[1]?=some (.int .i64 (m.group:Int))) (h2:cs[2]?=some (.int .i64 (m.epoch:Int)))
 (hb:∀ i,i<8->cs[3+i]?=some (.slice (S.bA i) (Q0l m i).length (S.bC i))) (hst:∀ i,i<4->cs[11+i*2]?=some (.int .i64 ((Q0C m i).1:Int)))
 (hdt:∀ i,i<4->cs[11+i*2+1]?=some (.slice (S.lA i) (Q0C m i).2.length (S.lC i))) (h19:cs[19]?=some (.slice S.sA m.shut.length S.sC)):cs=vC t m S:=by
 apply Array.ext_getElem?
 intro j;rcases zF j 20 with hj | hj
 ·rcases zF j 3 with h3 | h3
  ·obtain rfl | rfl | rfl:j=0\/j=1\/j=2:=by omega
   ·rw [h0,Q2H]
   ·rw [h1,Q2O]
   rw [h2,Q3p]
  rcases zF j 11 with h11 | h11
  ·have e:=hb (j - 3) (by omega);have e2:=Q1l t m S (j - 3) (by omega);rw [show 3+(j - 3)=j by omega] at e e2;rw [e,e2]
  rcases zF j 19 with h19' | h19'
  ·rcases Nat.mod_two_eq_zero_or_one (j - 11) with hm | hm
   ·have e:=hst ((j - 11) / 2) (by omega);have e2:=Q29 t m S ((j - 11) / 2) (by omega);rw [show 11+(j - 11) / 2*2=j by omega] at e e2;rw [e,e2]
   have e:=hdt ((j - 11) / 2) (by omega);have e2:=Q2y t m S ((j - 11) / 2) (by omega);rw [show 11+(j - 11) / 2*2+1=j by omega] at e e2;rw [e,e2]
  obtain rfl:j=19:=by omega
  rw [h19,Q4o]
 rw [Array.getElem?_eq_none (by omega),Array.getElem?_eq_none (by rw [Q0H]; exact hj)]
theorem vC_setE (t:Option zA) (m m':VM) (S:VSl) (hg:m'.group=m.group) (hb:m'.blocks=m.blocks) (hl:m'.last=m.last) (hs:m'.shut=m.shut):(vC t m S).setIfInBounds 2 (.int .i64 (m'.epoch:Int))=vC t m' S:=by
 have hz:=Q0H t m S;refine Q93 (by rw [Array.size_setIfInBounds]; exact hz) ?_ ?_ ?_ (fun i hi=>?_) (fun i hi=>?_) (fun i hi=>?_) ?_
 ·rw [zI,if_neg (by omega),Q2H]
 ·rw [zI,if_neg (by omega),Q2O,hg]
 ·rw [zI,if_pos rfl,hz,if_pos (by omega)]
 ·rw [zI,if_neg (by omega),Q1l _ _ _ _ hi]; unfold Q0l; rw [hb]
 ·rw [zI,if_neg (by omega),Q29 _ _ _ _ hi]; unfold Q0C; rw [hl]
 ·rw [zI,if_neg (by omega),Q2y _ _ _ _ hi]; unfold Q0C; rw [hl]
 rw [zI,if_neg (by omega),Q4o,hs]
def setS (S:VSl) (A:Option zA) (c:Nat):VSl:=⟨S.bA,S.bC,S.lA,S.lC,A,c⟩
theorem Q9S (t:Option zA) (m m':VM) (S:VSl) (A:Option zA) (c n:Nat) (hg:m'.group=m.group) (he:m'.epoch=m.epoch) (hb:m'.blocks=m.blocks) (hl:m'.last=m.last) (hs:m'.shut.length=n):(vC t m S).setIfInBounds 19 (.slice A n c)=vC t m' (setS S A c):=by
 have hz:=Q0H t m S;refine Q93 (by rw [Array.size_setIfInBounds]; exact hz) ?_ ?_ ?_ (fun i hi=>?_) (fun i hi=>?_) (fun i hi=>?_) ?_
 ·rw [zI,if_neg (by omega),Q2H]
 ·rw [zI,if_neg (by omega),Q2O,hg]
 ·rw [zI,if_neg (by omega),Q3p,he]
 ·rw [zI,if_neg (by omega),Q1l _ _ _ _ hi]; unfold Q0l; rw [hb]; rfl
 ·rw [zI,if_neg (by omega),Q29 _ _ _ _ hi]; unfold Q0C; rw [hl]
 ·rw [zI,if_neg (by omega),Q2y _ _ _ _ hi]; unfold Q0C; rw [hl]; rfl
 rw [zI,if_pos rfl,hz,if_pos (by omega),hs]; rfl
theorem Q5c {l:LL} {m:VM} (hl:l.length=13) (h:∀ j,j<13->l[j]?=some (Q0G m j)):l=Q01 m:=by
 apply List.ext_getElem?
 intro j;rcases zF j 13 with hj | hj
 ·rw [h j hj,Q1X m j hj]
 rw [zH (by omega),zH (by rw [Q0k]; exact hj)]
theorem Q39 {m m':VM} {i:Nat} (hi:i<13) (h:∀ j,j<13->j≠i->Q0G m' j=Q0G m j):(Q01 m).set i (Q0G m' i)=Q01 m':=by
 refine Q5c (by rw [zP,Q0k]) fun j hj=>?_
 rw [zO];by_cases e:i=j
 ·subst e; rw [if_pos rfl,Q0k,if_pos hi]
 rw [if_neg e,Q1X m j hj,h j hj (fun e'=>e e'.symm)]
structure Q1d (w w':zB) (V:VLoc) (N:Nat->Prop) (m':VM) (L:LL) (asked q:Nat):Prop where
 vat:VAt w' V N m'
 book:∃ L' a',Q0d w' V.k L' a'/\a'<=asked+q/\(∀ x,x∈L->x∈L')/\Q0J L' (Q01 m')
 only:Only V.has w w'
theorem VAt.only {w w':zB} {V:VLoc} {N M:Nat->Prop} {m:VM} (h:VAt w V N m) (ho:Only M w w') (hM:∀ b,M b->N b) (hg:¬ M V.g) (hT:∀ b,V.T.has b->¬ M b):VAt w' V N m:=by obtain⟨S,hd⟩:=h.dat;exact⟨⟨S,hd.only ho hM hg⟩,h.tree.only ho hT,h.far,h.all⟩
theorem VAt.below {w w':zB} {V:VLoc} {N:Nat->Prop} {m:VM} (h:VAt w V N m) (hb:zE w.heap.size w w'):VAt w' V N m:=by obtain⟨S,hd⟩:=h.dat;exact⟨⟨S,hd.below hb⟩,h.tree.below hb,h.far,h.all⟩
theorem Q1d.same {w w':zB} {V:VLoc} {N:Nat->Prop} {m:VM} {L:LL} {asked q:Nat} (h:VAt w V N m) (hbk:Q0d w V.k L asked) (hin:Q0J L (Q01 m)) (hb:zE w.heap.size w w'):Q1d w w' V N m L asked q :=⟨h.below hb,⟨L,asked,hbk.below hb,by omega,fun _ h=>h,hin⟩,Only.of_below hb⟩
theorem Q9N (w:zB) (V:VLoc) (N:Nat->Prop) (m:VM) (L:LL) (asked:Nat) (h:VAt w V N m) (hbk:Q0d w V.k L asked) (hin:Q0J L (Q01 m)) (has:asked<=800000) :
 zG zJ 22 #[.pointer (some ⟨V.g,0,none⟩)] w fun e w'=>e=.returned (.int .i64 ((Q3q m).2:Int))/\Q1d w w' V N (Q3q m).1 L asked 3:=by
 obtain⟨S,hd⟩:=h.dat;have c2:=hd.cEpoch;have c19:=hd.cShut;have f2:=hd.blk.frozen 2;have f19:=hd.blk.frozen 19;have hep:=hd.ok.epoch;have HN:=sH (Q1C w V.g V.T.t h.none_);have HV:=sH h;have HD:=sH hd;have HBK:=sH hbk;have HIN:=sH hin;obtain⟨sl,hsl⟩:∃ x,x=m.shut.length:=⟨_,rfl⟩;rw [<- hsl] at c19;have HSL:=sH hsl;clear h hd hbk hin hsl;by_cases h0:sl=0
 ·have ht:Q3q m=(m,171):=by unfold Q3q; rw [if_pos (by rw [<- HSL.out]; exact h0)]
  have HT:=sH ht;subst h0;clear ht;go_enter Tryz.func22,Tryz.ntmps22
  go_wp2_with fail
  refine HN.out.mono ?_;rintro _ _ ⟨rfl,rfl⟩;go_wp2_with fail
  go_ret
  rw [HT.out];exact⟨rfl,Q1d.same HV.out HBK.out HIN.out (zL _ _)⟩
 have h0I:¬ (sl:Int)=0:=by omega
 have h0b:((sl:Int) == 0)=false:=by simpa using h0
 have ht:Q3q m=(⟨m.group,m.epoch+1,m.blocks,m.last,[]⟩,0):=by unfold Q3q; rw [if_neg (by rw [<- HSL.out]; exact h0)]
 have hok:=HD.out.ok.turned;rw [ht] at hok;simp only at hok;obtain⟨m',hm'⟩:∃ m':VM,m'=⟨m.group,m.epoch+1,m.blocks,m.last,[]⟩:=⟨_,rfl⟩;rw [<- hm'] at ht hok;have HT:=sH ht;have HOK:=sH hok;have HM:=sH hm';obtain⟨ep,hepe⟩:∃ e,e=m.epoch:=⟨_,rfl⟩;have hB1:=HD.out.blk.set_ 2 (.int .i64 (((⟨m.group,m.epoch+1,m.blocks,m.last,m.shut⟩:VM).epoch:Nat):Int));rw [vC_setE _ m ⟨m.group,m.epoch+1,m.blocks,m.last,m.shut⟩ S rfl rfl rfl rfl] at hB1;have hB2:=hB1.set_ 19 (.slice none 0 0);rw [Q9S _ _ m' S none 0 0 (by rw [hm']) (by rw [hm']) (by rw [hm']) (by rw [hm']) (by rw [hm']; rfl)] at hB2;have hcast:(((⟨m.group,m.epoch+1,m.blocks,m.last,m.shut⟩:VM).epoch:Nat):Int)=(m.epoch:Int)+1:=by simp
 rw [hcast] at hB2;have hT2:=(Q05.setCell w ⟨V.g,2,none⟩ (.int .i64 ((m.epoch:Int)+1))).trans (Q05.setCell _ ⟨V.g,19,none⟩ (.slice none 0 0));have c19':(w.setCell ⟨V.g,2,none⟩ (.int .i64 ((m.epoch:Int)+1))).cell? ⟨V.g,19,none⟩=some (.slice S.sA sl S.sC):=(World.cell?_setCell_other _ _ _ _ (by simp)).trans c19;have f19':(w.setCell ⟨V.g,2,none⟩ (.int .i64 ((m.epoch:Int)+1))).frozen? ⟨V.g,19,none⟩=false:=by simpa [World.frozen?_setCell] using f19
 have HB2:=sH hB2;have HT2:=sH hT2;clear ht hok hm' hB1 hB2 hT2 hcast hepe;go_enter Tryz.func22,Tryz.ntmps22
 go_wp2_with fail
 refine HN.out.mono ?_;rintro _ _ ⟨rfl,rfl⟩;go_upto_region 7 with fail
 generalize (w.setCell ⟨V.g,2,none⟩ (.int .i64 ((m.epoch:Int)+1))).setCell ⟨V.g,19,none⟩ (.slice none 0 0)=w2 at HB2 HT2 ⊢;have ho2:Only (fun b=>b=V.g) w w2:=Only.of_turned HT2.out rfl;have hfar:=HV.out.far;have hNg:N V.g:=HV.out.all _ (.inl rfl);have hd2:VDat w2 V.g (some ⟨V.T.t,0,none⟩) N m' (setS S none 0):=by
  refine⟨HB2.out,fun i hi=>?_,fun i hi=>?_,?_,HOK.out⟩
  ·have:=(HD.out.block i hi).only ho2 (fun b e=>e▸hNg);have e:Q0l m' i=Q0l m i:=by rw [HM.out]; rfl
   rw [e]; exact this
  ·have:=(HD.out.last i hi).only ho2 (fun b e=>e▸hNg);have e:Q0C m' i=Q0C m i:=by rw [HM.out]; rfl
   rw [e]; exact this
  have e:m'.shut=[]:=by rw [HM.out]
  rw [e]; exact FarN.nil _ _
 have HS:=sH (Q3t w2 V.g 12 V.T V.k N m' _ (Q01 m) L asked hd2 (by omega) (HV.out.tree.only ho2 (fun b hb e=>hfar.1 (e▸hb))) (Q0k m) (HBK.out.only ho2 (fun e=>hfar.2 (.inl e.symm)) (fun e=>hfar.2 (.inr (.inl e.symm))) (fun e=>hfar.2 (.inr (.inr e.symm)))) (by omega));have hle:(Q01 m).set 12 (Q0G m' 12)=Q01 m':=Q39 (by omega) fun j hj hne=>by
  rw [HM.out];unfold Q0G;by_cases h8:j<8
  ·rw [if_pos h8,if_pos h8]; rfl
  rw [if_neg h8,if_neg h8,if_pos (by omega),if_pos (by omega)]; rfl
 rw [hle] at HS;have HD2:=sH hd2;have HO2:=sH ho2;clear hd2 ho2 hle;go_wp2_with fail
 refine HS.out.mono ?_;rintro _ w3 ⟨rfl,hsb⟩;have HSB:=sH hsb;clear hsb HS;go_wp2_with fail
 go_ret
 rw [HT.out];obtain⟨L',a',q1,q2,q3,q4⟩:=HSB.out.book;have ho3:Only V.has w w3:=(HO2.out.mono fun b _ e=>.inl e).trans (HSB.out.only.mono fun b _ e=>.inr e);refine⟨rfl,⟨⟨_,HD2.out.only HSB.out.only (fun b hb=>HV.out.all _ (.inr hb)) ?_⟩,HSB.out.tree,hfar,HV.out.all⟩,⟨L',a',q1,q2,q3,q4 L (fun _ h=>h) HIN.out⟩,ho3⟩;rintro (e | e)
 ·exact hfar.1 (.inr (.inr e))
 exact hfar.2 e
end
section
open Go.RowKit Go.Maps
attribute [local irreducible] wpList
theorem Q2D {m:VM} {e:Int} {a:Ans} (h:Q25 m e=some a):∃ n,a=errA 171 n:=by
 unfold Q25 at h;split at h
 ·exact⟨_,(Option.some.inj h).symm⟩
 split at h
 ·exact⟨_,(Option.some.inj h).symm⟩
 cases h
def ansP (a:Ans):Array zC:=aC a.err none 0 0 a.epoch
theorem Q6Q (w:zB) (V:VLoc) (N:Nat->Prop) (m:VM) (L:LL) (asked:Nat) (h:VAt w V N m) (hN:∀ b,N b->b<w.heap.size) (hbk:Q0d w V.k L asked) (hin:Q0J L (Q01 m)) (has:asked<=800000)
 (x:Wish) (A:Option zA) (n c:Nat) (A':Option zA) (n' c':Nat) (B:Nat) (hx:Q14 w B x A n c A' n' c') (hB:B<=w.heap.size) (hm:mayB x=true) (hk:x.kind=5) :
 zG zJ 45 #[.pointer (some ⟨V.g,0,none⟩),.agg (Q02 x A n c A' n' c')] w fun r w'=>r=.returned (.agg (ansP (Q3U m x).2))/\Q1d w w' V N (Q3U m x).1 L asked 3:=by
 obtain⟨S,hd⟩:=h.dat;have hcr:=Q6b (Q7J hm hk);have HNL:=sH hx.nlen;have hok:=hd.ok.sealed hm hk;have hX:zE w.heap.size w ((w.alloc (.cells (Q02 x A n c A' n' c') 31)).alloc (.cells (aC 0 none 0 0 0) 34)):=((zL _ _).alloc (zK _) _).alloc (by simp) _;have k3:Blk ((w.alloc (.cells (Q02 x A n c A' n' c') 31)).alloc (.cells (aC 0 none 0 0 0) 34)) w.heap.size 31 (Q02 x A n c A' n' c'):=(Blk.newAt rfl).alloc _;have k4:Blk ((w.alloc (.cells (Q02 x A n c A' n' c') 31)).alloc (.cells (aC 0 none 0 0 0) 34)) (w.heap.size+1) 34 (aC 0 none 0 0 0):=Blk.newAt (by simp);have hz1:((w.alloc (.cells (Q02 x A n c A' n' c') 31)).alloc (.cells (aC 0 none 0 0 0) 34)).heap.size=w.heap.size+2:=by simp
 have hZ:aC 0 none 0 0 0=#[.int .i64 0,.slice none 0 0,.int .i64 0,.slice none 0 0]:=rfl;have lg:=hd.blk.lt;have hep:=hd.ok.epoch;have HV:=sH h;have HD:=sH hd;have HBK:=sH hbk;have HIN:=sH hin;have HNN:=sH hN;have HXW:=sH hx;have HOK:=sH hok;have HX:=sH hX;have K3:=sH k3;have K4:=sH k4;have HZ1:=sH hz1;obtain⟨sv,hsv⟩:∃ p,p=Q3U m x:=⟨_,rfl⟩;have hsv2:sv=match Q25 m x.epoch with | some a=>(m,a) | none=>if m.epoch=1048576 then(m,errA 5 0) else(⟨m.group,m.epoch,m.blocks,m.last,x.next⟩,okA):=by rw [hsv]; rfl
 rw [<- hsv] at HOK ⊢;have HSV:=sH hsv2;obtain⟨g3,hg3⟩:∃ b,b=w.heap.size:=⟨_,rfl⟩;obtain⟨g4,hg4⟩:∃ b,b=w.heap.size+1:=⟨_,rfl⟩;clear h hd hbk hin hN hx hok hX k3 k4 hz1 hsv hsv2;go_enter Tryz.func45,Tryz.ntmps45
 go_upto_region 1 with fail
 rw [<- hZ];generalize zR (zR w _) _=w1 at HX K3 K4 HZ1 ⊢;rw [<- hg4] at K4 ⊢;rw [<- hg3] at K3 ⊢;have hz1:=HZ1.out;have hgw3:w.heap.size<=g3:=by omega
 have hgw4:w.heap.size<=g4:=by omega
 have hg34:g3≠g4:=by omega
 have hw1:w.heap.size<=w1.heap.size:=by omega
 have hl3:=K3.out.lt;have hl4:=K4.out.lt;have c33:w1.cell? ⟨g3,3,none⟩=some (.int .i64 x.epoch):=(K3.out.cell 3).trans rfl;have HEL:=sH (Q69 w1 V.g _ N m S (HD.out.below HX.out) x.epoch);clear hg3 hg4 HZ1 hz1 hZ;go_wp2_with fail
 refine HEL.out.mono ?_;rintro _ w2 ⟨rfl,hb2⟩;have HX2:=sH (HX.out.trans (hb2.mono hw1));have K32:=sH (K3.out.below' hb2);have K42:=sH (K4.out.below' hb2);have hs2:=hb2.size;clear hb2 c33 HEL K3 K4 HX;have hZ:aC 0 none 0 0 0=#[.int .i64 0,.slice none 0 0,.int .i64 0,.slice none 0 0]:=rfl;cases hel:Q25 m x.epoch with
 | some a =>
  obtain⟨q,rfl⟩:=Q2D hel;have hs:sv=(m,errA 171 q):=by rw [HSV.out,hel]
  have HS:=sH hs;have HOE:=sH (show ansC (some (errA 171 q))=aC 171 none 0 0 (q:Int) from rfl);clear hel hs;rw [HOE.out];go_upto_region 2 with(refine Q00 (o:=⟨none,_,_,_,_,_⟩) rfl 34 (.tmp 5) (.tmp 9) rfl w2.heap.size 0 (aC 171 none 0 0 (q:Int)) rfl rfl 34 (aC 0 none 0 0 0) (Blk.newAt rfl) (Q0F _ _ _ _ _) (by simp [aC]) (Q0X _ _ _ _ _) ?_; intro w5 hT5 hD5; rw [Q17] at hD5)
  have hb5:zE w2.heap.size w2 w5:=hT5.below ((zL _ _).alloc (zK _) _) (zK _);have c50:w5.cell? ⟨w2.heap.size,0,none⟩=some (.int .i64 171):=(hD5.cell 0).trans rfl;have K45:=sH (K42.out.below' hb5);have HX5:=sH (HX2.out.trans (hb5.mono (by omega)));have HD5:=sH hD5;obtain⟨g5,hg5⟩:∃ g,g=w2.heap.size:=⟨_,rfl⟩;rw [<- hg5] at c50 HD5 ⊢;clear hT5 hD5 hb5 hg5;go_wp2_with (first
   | (refine Q0c (o:=⟨some 13,_,_,_,_,_⟩) rfl 34 (.tmp 5) rfl g5 0 4 rfl 34 _ (aC 171 none 0 0 (q:Int)) _ HD5.out Tryz.underlying34 rfl rfl rfl (fun _ _=>by rw [Nat.zero_add]) ?_)
   | (refine Q00 (o:=⟨none,_,_,_,_,_⟩) rfl 34 (.tmp 4) (.tmp 13) rfl g4 0 (aC 171 none 0 0 (q:Int)) rfl rfl 34 _ K45.out (Q0F _ _ _ _ _) (by simp [aC]) (Q0X _ _ _ _ _) ?_; intro w7 hT7 hD7; rw [Q17] at hD7))
  refine bodyPost_ret (Q0x rfl _ _ g4 4 34 _ _ rfl hD7 Tryz.underlying34 rfl rfl rfl) rfl ?_;rw [HS.out];exact⟨rfl,Q1d.same HV.out HBK.out HIN.out (hT7.below HX5.out hgw4)⟩
 | none =>
  have HEL:=sH hel;have HOE:=sH (show ansC none=aC 0 none 0 0 0 from rfl);clear hel;rw [HOE.out];go_upto_region 2 with(refine Q00 (o:=⟨none,_,_,_,_,_⟩) rfl 34 (.tmp 5) (.tmp 9) rfl w2.heap.size 0 (aC 0 none 0 0 0) rfl rfl 34 (aC 0 none 0 0 0) (Blk.newAt rfl) (Q0F _ _ _ _ _) (by simp [aC]) (Q0X _ _ _ _ _) ?_; intro w5 hT5 hD5; rw [Q17] at hD5)
  have hb5:zE w2.heap.size w2 w5:=hT5.below ((zL _ _).alloc (zK _) _) (zK _);have c50:w5.cell? ⟨w2.heap.size,0,none⟩=some (.int .i64 0):=(hD5.cell 0).trans rfl;have K45:=sH (K42.out.below' hb5);have K35:=sH (K32.out.below' hb5);have HX5:=sH (HX2.out.trans (hb5.mono (by omega)));obtain⟨g5,hg5⟩:∃ g,g=w2.heap.size:=⟨_,rfl⟩;rw [<- hg5] at c50 ⊢;have hs5:=HX5.out.size;have hs25:=hb5.size;have c2:=(HD.out.below HX5.out).cEpoch;clear hT5 hD5 hb5 hg5;by_cases hmx:m.epoch=1048576
  ·have hs:sv=(m,errA 5 0):=by rw [HSV.out,HEL.out]; simp only; rw [if_pos hmx]
   have HS:=sH hs;have hmxI:(m.epoch:Int)=1048576:=by omega
   clear hs;rw [hmxI] at c2;go_wp2_with (refine Q00 (o:=⟨none,_,_,_,_,_⟩) rfl 34 (.tmp 4) (.tmp 19) rfl g4 0 (aC 5 none 0 0 0) rfl rfl 34 _ K45.out (Q0F _ _ _ _ _) (by simp [aC]) (Q0X _ _ _ _ _) ?_; intro w7 hT7 hD7; rw [Q17] at hD7)
   refine bodyPost_ret (Q0x rfl _ _ g4 4 34 _ _ rfl hD7 Tryz.underlying34 rfl rfl rfl) rfl ?_;rw [HS.out];exact⟨rfl,Q1d.same HV.out HBK.out HIN.out (hT7.below HX5.out hgw4)⟩
  have hs:sv=(⟨m.group,m.epoch,m.blocks,m.last,x.next⟩,okA):=by rw [HSV.out,HEL.out]; simp only; rw [if_neg hmx]
  have HS:=sH hs;have hmxI:¬ (m.epoch:Int)=1048576:=by omega
  have hmxb:((m.epoch:Int) == 1048576)=false:=by simpa using hmxI
  have c39:w5.cell? ⟨g3,9,none⟩=some (.slice A' n' c'):=(K35.out.cell 9).trans rfl;have hxn:=(HXW.out.next.below (HX5.out.mono hB));have HCL:=sH (Q8v A' n' c' x.next w5 B hxn (by omega) (by have:=HNL.out; omega));clear hs hxn;go_wp2_with fail
  refine HCL.out.mono ?_;rintro _ w6 ⟨v,rfl,ho6,hb6⟩;obtain⟨A6,c6,hv6,hf6⟩:=FarN.of_own (w0:=w) (N:=fun b=>N b\/b=g4) ho6 (fun b hb=>by rcases hb with hb | hb; have:=HNN.out b hb; omega; omega);subst hv6;have K46:=sH (K45.out.below' hb6);have HX6:=sH (HX5.out.trans (hb6.mono hs5));have HF6:=sH hf6;have hs6:=hb6.size;have hd6:=(HD.out.mono (N':=fun b=>N b\/b=g4) (fun b hb hn=>hn.elim id (fun e=>by omega))).below HX6.out;have c19:=hd6.cShut;have f19:=hd6.blk.frozen 19;obtain⟨m',hm'⟩:∃ m':VM,m'=⟨m.group,m.epoch,m.blocks,m.last,x.next⟩:=⟨_,rfl⟩;have hB7:=hd6.blk.set_ 19 (.slice A6 x.next.length c6);rw [Q9S _ m m' S A6 c6 _ (by rw [hm']) (by rw [hm']) (by rw [hm']) (by rw [hm']) (by rw [hm'])] at hB7;have hT7:=Q05.setCell w6 ⟨V.g,19,none⟩ (.slice A6 x.next.length c6);have HB7:=sH hB7;have HT7:=sH hT7;have HM:=sH hm';have hok':VOk m':=by have:=HOK.out; rw [HS.out] at this; rw [hm']; exact this
  have HOK':=sH hok';rw [<- hm'] at HS;have HD6:=sH hd6;clear ho6 hb6 hf6 hd6 hB7 hT7 hm' hok' c39 HCL c2 c50;go_upto_region 7 with fail
  generalize w6.setCell ⟨V.g,19,none⟩ (.slice A6 x.next.length c6)=w7 at HB7 HT7 ⊢;have ho7:Only (fun b=>b=V.g) w6 w7:=Only.of_turned HT7.out rfl;have hfar:=HV.out.far;have hNg:N V.g\/V.g=g4:=.inl (HV.out.all _ (.inl rfl));have hd7:VDat w7 V.g (some ⟨V.T.t,0,none⟩) (fun b=>N b\/b=g4) m' (setS S A6 c6):=by
   refine⟨HB7.out,fun i hi=>?_,fun i hi=>?_,?_,HOK'.out⟩
   ·have:=(HD6.out.block i hi).only ho7 (fun b e=>e▸hNg);have e:Q0l m' i=Q0l m i:=by rw [HM.out]; rfl
    rw [e]; exact this
   ·have:=(HD6.out.last i hi).only ho7 (fun b e=>e▸hNg);have e:Q0C m' i=Q0C m i:=by rw [HM.out]; rfl
    rw [e]; exact this
   have e:m'.shut=x.next:=by rw [HM.out]
   rw [e]; exact HF6.out.only ho7 (fun b e=>e▸hNg)
  have hv6:=HV.out.below HX6.out;have HS7:=sH (Q3t w7 V.g 12 V.T V.k _ m' _ (Q01 m) L asked hd7 (by omega) (hv6.tree.only ho7 (fun b hb e=>hfar.1 (e▸hb))) (Q0k m) ((HBK.out.below HX6.out).only ho7 (fun e=>hfar.2 (.inl e.symm)) (fun e=>hfar.2 (.inr (.inl e.symm))) (fun e=>hfar.2 (.inr (.inr e.symm)))) (by omega));have hle:(Q01 m).set 12 (Q0G m' 12)=Q01 m':=Q39 (by omega) fun j hj hne=>by
   rw [HM.out];unfold Q0G;by_cases h8:j<8
   ·rw [if_pos h8,if_pos h8]; rfl
   rw [if_neg h8,if_neg h8,if_pos (by omega),if_pos (by omega)]; rfl
  rw [hle] at HS7;have HD7:=sH hd7;have HO7:=sH ho7;have K47:=sH (HT7.out.blk K46.out (by omega));have hs7:=ho7.size;clear hd7 ho7 hle hv6;go_wp2_with fail
  refine HS7.out.mono ?_;rintro _ w8 ⟨rfl,hsb⟩;have hv8:=hsb.only;have hgs:∀ b,V.T.mut b\/V.k.has b->b<w.heap.size:=fun b hb=>HNN.out b (HV.out.all b (.inr hb))
  have K48:=sH (hv8.blk K47.out (fun hb=>by have:=hgs g4 hb; omega));have HSB:=sH hsb;have hs8:=hv8.size;clear hsb HS7 hv8;go_wp2_with (refine Q00 (o:=⟨none,_,_,_,_,_⟩) rfl 34 (.tmp 4) (.tmp 28) rfl g4 0 (aC 0 none 0 0 0) rfl rfl 34 _ K48.out (Q0F _ _ _ _ _) (by simp [aC]) (Q0X _ _ _ _ _) ?_; intro w9 hT9 hD9; rw [Q17] at hD9)
  refine bodyPost_ret (Q0x rfl _ _ g4 4 34 _ _ rfl hD9 Tryz.underlying34 rfl rfl rfl) rfl ?_;rw [HS.out];obtain⟨L',a',q1,q2,q3,q4⟩:=HSB.out.book;have ho9:Only (fun b=>b=g4) w8 w9:=Only.of_turned hT9 rfl;have hg4N:∀ b,N b->b≠g4:=fun b hb e=>by have:=HNN.out b hb; omega
  have hd9:=(HD7.out.only HSB.out.only (fun b hb=>.inl (HV.out.all _ (.inr hb))) (by
   rintro (e | e)
   ·exact hfar.1 (.inr (.inr e))
   exact hfar.2 e))
  have hd10:VDat w9 V.g (some ⟨V.T.t,0,none⟩) N m' (setS S A6 c6):=by exact(hd9.only ho9 (fun b e=>.inr e) (fun e=>hg4N _ (HV.out.all _ (.inl rfl)) e)).mono fun b _ h=>.inl h
  refine⟨rfl,⟨⟨_,hd10⟩,HSB.out.tree.only ho9 (fun b hb e=>?_),hfar,HV.out.all⟩,⟨L',a',q1.only ho9 ?_ ?_ ?_,q2,q3,q4 L (fun _ h=>h) HIN.out⟩,?_⟩
  ·have:=HV.out.tree.lt hb; omega
  ·exact fun e=>hg4N _ (HV.out.all _ (.inr (.inr (.inl rfl)))) e
  ·exact fun e=>hg4N _ (HV.out.all _ (.inr (.inr (.inr (.inl rfl))))) e
  ·exact fun e=>hg4N _ (HV.out.all _ (.inr (.inr (.inr (.inr rfl))))) e
  have h1:Only V.has w w8:=((Only.of_below HX6.out).trans (HO7.out.mono fun b _ e=>.inl e)).trans (HSB.out.only.mono fun b _ e=>.inr e);exact⟨hT9.os.trans h1.os,hT9.tape.trans h1.tape,hT9.output.trans h1.output,by have:=hT9.size; have:=h1.size; omega,fun b hb hn=>(hT9.block b (by omega)).trans (h1.block b hb hn)⟩
end
section
open Go.RowKit
theorem Q4J {xs:List Int} {k:Nat} {u:zC} (h:(xs.map vn)[k]?=some u):∃ (hk:k<xs.length),u=.int .i64 xs[k]:=by
 rw [List.getElem?_map] at h;rcases zF k xs.length with hk | hk
 ·rw [zD hk] at h;injection h with h
  exact⟨hk,h.symm⟩
 rw [zH hk] at h; cases h
theorem Q8w (A B:Option zA) (n m c d:Nat) (xs ys:List Int) (w:zB) (Bx By:Nat) (ha:Q04 w Bx 1 A n (xs.map vn)) (hb:Q04 w By 1 B m (ys.map vn)) (hn:n<=maxLen) (hm:m<=maxLen) :
 zG zJ 72 #[.slice A n c,.slice B m d] w fun e w'=>e=.returned (.bool (decide (xs=ys)))/\∃ k,w'=w.drewN k:=by
 have hlx:xs.length=n:=by have:=ha.1; simpa using this
 have hly:ys.length=m:=by have:=hb.1; simpa using this
 unfold maxLen at hn hm;by_cases hnm:n=m
 ·subst hnm;go_enter Tryz.func72,Tryz.ntmps72
  go_wp2
  go_loopw [5] (fun i wr=>∃ k q:Nat,k<=n/\i=.int .i64 k/\xs.take k=ys.take k/\wr=w.drewN q) (fun i _=>n - (intOf i).toNat)
  case atStart=>exact⟨0,0,Nat.zero_le _,rfl,by simp,rfl⟩
  obtain⟨k,q,hk,rfl,heq,rfl⟩:=hrel;have HE:=sH heq;clear heq;by_cases hlt:k<n
  ·obtain⟨ad,u,rfl,_,hx,hcx⟩:=ha.at_ hlt;obtain⟨bd,v,rfl,_,hy,hcy⟩:=hb.at_ hlt;obtain⟨hk1,rfl⟩:=Q4J hx;obtain⟨hk2,rfl⟩:=Q4J hy;clear hx hy ha hb;by_cases hne:xs[k]=ys[k]
   ·have hz:(xs[k] != ys[k])=false:=by simp [hne]
    have HN:=sH hne;clear hne
    go_wp2
    go_quiet (fail)
    go_wp2
    go_roundw
    case rel=>exact⟨k+1,_,by omega,by go_num,by rw [zQ hk1,zQ hk2,HE.out,HN.out],rfl⟩
    case measure=>simp [intOf]; omega
   have hz:(xs[k] != ys[k])=true:=by rw [bne_iff_ne]; intro e; exact hne e
   have HN:=sH hne;clear hne
   go_wp2
   go_quiet (fail)
   go_wp2
   go_ret
   exact⟨Q11 (by have:=HN.out; symm; rw [decide_eq_false_iff_not]; rintro rfl; exact this rfl),_,World.drewN_drewN _ _ _⟩
  have hkn:k=n:=by omega
  have HK:=sH hkn;clear hkn
  go_wp2
  go_ret
  exact⟨Q11 (by symm; rw [decide_eq_true_iff]; have h1:=HE.out; rw [HK.out] at h1; rwa [List.take_of_length_le (by omega),List.take_of_length_le (by omega)] at h1),q,rfl⟩
 have h0:((n:Int) != (m:Int))=true:=by rw [bne_iff_ne]; omega
 have HN:=sH hnm;clear hnm;go_enter Tryz.func72,Tryz.ntmps72
 go_wp2
 go_ret
 exact⟨Q11 (by symm; rw [decide_eq_false_iff_not]; rintro rfl; exact HN.out (by omega)),0,rfl⟩
theorem Q57 {W:zB} {B n c:Nat} {A:Option zA} {xs:List UInt8} (h:Q04 W B 1 A n (xs.map vb)):(convert 28 9 (.slice A n c)).run zJ W=.ok (.string ⟨xs.toArray⟩) W:=by
 have hn:xs.length=n:=by have:=h.1; simpa using this
 rcases Nat.eq_zero_or_pos n with h0 | h0
 ·subst h0;have hx:xs=[]:=List.eq_nil_of_length_eq_zero hn;subst hx;cases A with
  | none=>exact run_convert_bytes_nil W 28 5 Tryz.underlying28 Tryz.underlying5 0 c 9 Tryz.underlying9
  | some ad=>exact run_convert_bytes_back W 28 9 5 ad c [] Tryz.underlying28 Tryz.underlying5 Tryz.underlying9 (fun j hj=>by simp at hj)
 obtain⟨ad,rfl,_,hc⟩:=h.2 h0;rw [<- hn];exact run_convert_bytes_back W 28 9 5 ad c xs Tryz.underlying28 Tryz.underlying5 Tryz.underlying9 (fun j hj=>hc j _ (by rw [List.getElem?_map,zD hj]; rfl))
theorem Q5n (A B:Option zA) (n m c d:Nat) (xs ys:List UInt8) (w:zB) (Bx By:Nat) (ha:Q04 w Bx 1 A n (xs.map vb)) (hb:Q04 w By 1 B m (ys.map vb)) :
 zG zJ 49 #[.slice A n c,.slice B m d] w fun e w'=>e=.returned (.bool (decide (xs=ys)))/\∃ k,w'=w.drewN k:=by
 have h1:=Q57 (c:=c) ha;have h2:=Q57 (c:=d) hb;clear ha hb;go_enter Tryz.func49,Tryz.ntmps49
 go_wp2_with fail
 go_ret
 refine⟨Q11 ?_,0,rfl⟩;rw [Bool.eq_iff_iff]; simp
end
section
open Go.RowKit Go.Maps
def setL (m:VM) (j:Nat) (y:Nat×List UInt8):VM:=⟨m.group,m.epoch,m.blocks,m.last.set j y,m.shut⟩
def setB (m:VM) (b:Nat) (d:List UInt8):VM:=⟨m.group,m.epoch,m.blocks.set b d,m.last,m.shut⟩
theorem Q1y (m:VM) (j i:Nat) (y:Nat×List UInt8) (hl:m.last.length=4) (hj:j<4):Q0C (setL m j y) i=if i=j then y else Q0C m i:=by
 unfold Q0C setL;simp only [zM,zO];by_cases h:i=j
 ·subst h; rw [if_pos rfl,if_pos (by omega),if_pos rfl]; rfl
 rw [if_neg (fun e=>h e.symm),if_neg h]
theorem Q2Q (m:VM) (b i:Nat) (d:List UInt8) (hl:m.blocks.length=8) (hb:b<8):Q0l (setB m b d) i=if i=b then d else Q0l m i:=by
 unfold Q0l setB;simp only [zM,zO];by_cases h:i=b
 ·subst h; rw [if_pos rfl,if_pos (by omega),if_pos rfl]; rfl
 rw [if_neg (fun e=>h e.symm),if_neg h]
theorem VOk.setL {m:VM} (h:VOk m) {j:Nat} {y:Nat×List UInt8} (h1:y.1<=maxN) (h2:y.2=[]\/y.2.length=16/\0<y.1):VOk (setL m j y) :=
 ⟨h.group,h.epoch,h.blocks,h.block,by simp [Go.Proofs.YtckjnbjiafgibaaGreat.setL,h.last],fun x hx=>by
  rcases List.mem_or_eq_of_mem_set hx with h3 | rfl
  ·exact h.stamp x h3
  exact⟨h1,h2⟩,h.shut⟩
theorem VOk.setB {m:VM} (h:VOk m) {b:Nat} {d:List UInt8} (hd:d.length=16):VOk (setB m b d) :=
 ⟨h.group,h.epoch,by simp [Go.Proofs.YtckjnbjiafgibaaGreat.setB,h.blocks],fun x hx=>by
  rcases List.mem_or_eq_of_mem_set hx with h3 | rfl
  ·exact h.block x h3
  exact hd,h.last,h.stamp,h.shut⟩
def Q3M (S:VSl) (j:Nat) (A:Option zA) (c:Nat):VSl:=⟨S.bA,S.bC,fun i=>if i=j then A else S.lA i,fun i=>if i=j then c else S.lC i,S.sA,S.sC⟩
def Q2G (S:VSl) (b:Nat) (A:Option zA) (c:Nat):VSl:=⟨fun i=>if i=b then A else S.bA i,fun i=>if i=b then c else S.bC i,S.lA,S.lC,S.sA,S.sC⟩
theorem Q8T {cs:Array zC} {t:Option zA} {m:VM} {S:VSl} {j st:Nat} {d:List UInt8} {A:Option zA} {c:Nat} (hl:m.last.length=4) (hj:j<4) (hs:cs.size=20)
 (h1:cs[11+j*2]?=some (.int .i64 (st:Int))) (h2:cs[11+j*2+1]?=some (.slice A d.length c)) (hr:∀ i,i<20->i≠11+j*2->i≠11+j*2+1->cs[i]?=(vC t m S)[i]?):cs=vC t (setL m j (st,d)) (Q3M S j A c):=by
 refine Q93 hs ?_ ?_ ?_ (fun i hi=>?_) (fun i hi=>?_) (fun i hi=>?_) ?_
 ·rw [hr 0 (by omega) (by omega) (by omega),Q2H]
 ·rw [hr 1 (by omega) (by omega) (by omega),Q2O]; rfl
 ·rw [hr 2 (by omega) (by omega) (by omega),Q3p]; rfl
 ·rw [hr (3+i) (by omega) (by omega) (by omega),Q1l _ _ _ _ hi]; rfl
 ·rw [Q1y m j i _ hl hj];by_cases e:i=j
  ·subst e; rw [if_pos rfl,h1]
  rw [if_neg e,hr (11+i*2) (by omega) (by omega) (by omega),Q29 _ _ _ _ hi]
 ·rw [Q1y m j i _ hl hj];by_cases e:i=j
  ·subst e; rw [if_pos rfl,h2]; simp [Q3M]
  rw [if_neg e,hr (11+i*2+1) (by omega) (by omega) (by omega),Q2y _ _ _ _ hi];simp [Q3M,e]
 rw [hr 19 (by omega) (by omega) (by omega),Q4o]; rfl
theorem vC_blk {cs:Array zC} {t:Option zA} {m:VM} {S:VSl} {b:Nat} {d:List UInt8} {A:Option zA} {c:Nat} (hl:m.blocks.length=8) (hb:b<8) (hs:cs.size=20)
 (h1:cs[3+b]?=some (.slice A d.length c)) (hr:∀ i,i<20->i≠3+b->cs[i]?=(vC t m S)[i]?):cs=vC t (setB m b d) (Q2G S b A c):=by
 refine Q93 hs ?_ ?_ ?_ (fun i hi=>?_) (fun i hi=>?_) (fun i hi=>?_) ?_
 ·rw [hr 0 (by omega) (by omega),Q2H]
 ·rw [hr 1 (by omega) (by omega),Q2O]; rfl
 ·rw [hr 2 (by omega) (by omega),Q3p]; rfl
 ·rw [Q2Q m b i _ hl hb];by_cases e:i=b
  ·subst e; rw [if_pos rfl,h1]; simp [Q2G]
  rw [if_neg e,hr (3+i) (by omega) (by omega),Q1l _ _ _ _ hi];simp [Q2G,e]
 ·rw [hr (11+i*2) (by omega) (by omega),Q29 _ _ _ _ hi]; rfl
 ·rw [hr (11+i*2+1) (by omega) (by omega),Q2y _ _ _ _ hi]; rfl
 rw [hr 19 (by omega) (by omega),Q4o]; rfl
theorem VDat.setL {w w':zB} {g:Nat} {t:Option zA} {N:Nat->Prop} {m:VM} {S:VSl} {j st:Nat} {d:List UInt8} {A:Option zA} {c:Nat} {cs:Array zC} (h:VDat w g t N m S) (hT:Q05 g w w') (hN:N g) (hB:Blk w' g 64 cs) (hj:j<4) (hs:cs.size=20)
 (h1:cs[11+j*2]?=some (.int .i64 (st:Int))) (h2:cs[11+j*2+1]?=some (.slice A d.length c)) (hr:∀ i,i<20->i≠11+j*2->i≠11+j*2+1->cs[i]?=(vC t m S)[i]?) (hf:Far w' N A c d) (hst:st<=maxN) (hd:d=[]\/d.length=16/\0<st):VDat w' g t N (Go.Proofs.YtckjnbjiafgibaaGreat.setL m j (st,d)) (Q3M S j A c):=by
 have ho:Only (fun b=>b=g) w w':=Only.of_turned hT rfl;refine⟨by rw [<- Q8T h.ok.last hj hs h1 h2 hr]; exact hB,fun i hi=>?_,fun i hi=>?_,?_,h.ok.setL hst hd⟩
 ·exact(h.block i hi).only ho (fun b e=>e▸hN)
 ·rw [Q1y m j i _ h.ok.last hj];by_cases e:i=j
  ·subst e;rw [if_pos rfl];simp only [Q3M,if_true];exact hf
  rw [if_neg e];simp only [Q3M,if_neg e];exact(h.last i hi).only ho (fun b e=>e▸hN)
 exact h.shut.only ho (fun b e=>e▸hN)
theorem VDat.setB {w w':zB} {g:Nat} {t:Option zA} {N:Nat->Prop} {m:VM} {S:VSl} {b:Nat} {d:List UInt8} {A:Option zA} {c:Nat} {cs:Array zC} (h:VDat w g t N m S) (hT:Q05 g w w') (hN:N g) (hB:Blk w' g 64 cs) (hb:b<8) (hs:cs.size=20)
 (h1:cs[3+b]?=some (.slice A d.length c)) (hr:∀ i,i<20->i≠3+b->cs[i]?=(vC t m S)[i]?) (hf:Far w' N A c d) (hd:d.length=16):VDat w' g t N (Go.Proofs.YtckjnbjiafgibaaGreat.setB m b d) (Q2G S b A c):=by
 have ho:Only (fun b=>b=g) w w':=Only.of_turned hT rfl;refine⟨by rw [<- vC_blk h.ok.blocks hb hs h1 hr]; exact hB,fun i hi=>?_,fun i hi=>?_,?_,h.ok.setB hd⟩
 ·rw [Q2Q m b i _ h.ok.blocks hb];by_cases e:i=b
  ·subst e;rw [if_pos rfl];simp only [Q2G,if_true];exact hf
  rw [if_neg e];simp only [Q2G,if_neg e];exact(h.block i hi).only ho (fun b e=>e▸hN)
 ·exact(h.last i hi).only ho (fun b e=>e▸hN)
 exact h.shut.only ho (fun b e=>e▸hN)
theorem Q3N {m:VM} {j:Nat} {y:Nat×List UInt8} (hl:m.last.length=4) (hj:j<4) (i:Nat) (hi:i≠8+j):Q0G (setL m j y) i=Q0G m i:=by
 unfold Q0G;by_cases h8:i<8
 ·rw [if_pos h8,if_pos h8]; rfl
 rw [if_neg h8,if_neg h8];by_cases h12:i<12
 ·rw [if_pos h12,if_pos h12,Q1y m j _ _ hl hj,if_neg (by omega)]
 rw [if_neg h12,if_neg h12]; rfl
theorem Q8r {m:VM} {b:Nat} {d:List UInt8} (hl:m.blocks.length=8) (hb:b<8) (i:Nat) (hi:i≠b):Q0G (setB m b d) i=Q0G m i:=by
 unfold Q0G;by_cases h8:i<8
 ·rw [if_pos h8,if_pos h8,Q2Q m b i _ hl hb,if_neg hi]
 rw [if_neg h8,if_neg h8]; rfl
theorem Q4g {m:VM} {x:Wish} (hk:x.kind=1):(ranV m x).1=setL m (x.client - 31).toNat (x.stamp.toNat,Q0l m x.block.toNat)/\(ranV m x).2=Q0l m x.block.toNat:=by unfold ranV setL;simp only [hk,if_true,and_self]
theorem Q3j {m:VM} {x:Wish} (hk:x.kind≠1):(ranV m x).1=setB (setL m (x.client - 31).toNat (x.stamp.toNat,[])) x.block.toNat x.data/\(ranV m x).2=[]:=by unfold ranV setL setB;simp only [hk,if_false,and_self]
theorem Q6J {m:VM} {b:Nat} (hb:b<m.blocks.length):setB m b (Q0l m b)=m:=by
 obtain⟨q,e,bl,la,s⟩:=m;unfold setB Q0l;simp only at hb ⊢;congr 1
 rw [zM,zD hb];exact List.set_getElem_self hb
def DoPost (w:zB) (V:VLoc) (N:Nat->Prop) (L:LL) (asked:Nat) (p:VM×Ans×Nat) (r:Ending) (w':zB):Prop :=∃ D,r=.returned (.tuple #[.agg D,.int .i64 (p.2.2:Int)])/\Q9L w' w.heap.size D p.2.1/\Q1d w w' V N p.1 L asked 6
theorem Q1d.more {w w':zB} {V:VLoc} {N:Nat->Prop} {m:VM} {L:LL} {asked q q':Nat} (h:Q1d w w' V N m L asked q) (hq:q<=q'):Q1d w w' V N m L asked q':=by obtain⟨L',a',h1,h2,h3,h4⟩:=h.book;exact⟨h.vat,⟨L',a',h1,by omega,h3,h4⟩,h.only⟩
theorem VAt.mono {w:zB} {V:VLoc} {N N':Nat->Prop} {m:VM} (h:VAt w V N m) (hN:∀ b,b<w.heap.size->N' b->N b) (ha:∀ b,V.has b->N' b):VAt w V N' m:=by obtain⟨S,hd⟩:=h.dat;exact⟨⟨S,hd.mono hN⟩,h.tree,h.far,ha⟩
theorem Q1d.last {w w2 w5 w9:zB} {V:VLoc} {N:Nat->Prop} {m m':VM} {L:LL} {asked q g4:Nat} (h0:VAt w V N m) (hN:∀ b,N b->b<w.heap.size) (hb:zE w.heap.size w w2) (h:Q1d w2 w5 V (fun b=>N b\/b=g4) m' L asked q) (hT:Q05 g4 w5 w9) (hg:w.heap.size<=g4):Q1d w w9 V N m' L asked q:=by
 have ho:Only (fun b=>b=g4) w5 w9:=Only.of_turned hT rfl;have hlt:∀ b,V.has b->b≠g4:=fun b hb e=>by have:=hN b (h0.all b hb); omega
 obtain⟨L',a',q1,q2,q3,q4⟩:=h.book;refine⟨(h.vat.only ho (fun b e=>.inr e) (hlt _ (.inl rfl)) (fun b hb e=>by have:=h0.tree.lt hb; omega)).mono (fun b _ hn=>.inl hn) h0.all,⟨L',a',q1.only ho (hlt _ (.inr (.inr (.inl rfl)))) (hlt _ (.inr (.inr (.inr (.inl rfl))))) (hlt _ (.inr (.inr (.inr (.inr rfl))))),q2,q3,q4⟩,?_⟩;have h1:=(Only.of_below hb:Only V.has w w2).trans h.only;exact⟨hT.os.trans h1.os,hT.tape.trans h1.tape,hT.output.trans h1.output,by have:=hT.size; have:=h1.size; omega,fun b hb hn=>(hT.block b (by omega)).trans (h1.block b hb hn)⟩
theorem Q6u {cs:Array zC} {o:Nat} {a b:zC} (h:o+2<=cs.size):(spl cs o [a,b]).size=cs.size:=Q3h (by simpa using h)
theorem Q9K {cs:Array zC} {o:Nat} {a b:zC} (h:o+2<=cs.size):(spl cs o [a,b])[o]?=some a:=by rw [Q3a (by simpa using h),if_pos (by simp),Nat.sub_self]; rfl
theorem Q7w {cs:Array zC} {o:Nat} {a b:zC} (h:o+2<=cs.size):(spl cs o [a,b])[o+1]?=some b:=by rw [Q3a (by simpa using h),if_pos (by simp),show o+1 - o=1 by omega]; rfl
theorem Q6m {cs:Array zC} {o i:Nat} {a b:zC} (h:o+2<=cs.size) (h0:i≠o) (h1:i≠o+1):(spl cs o [a,b])[i]?=cs[i]?:=by rw [Q3a (by simpa using h),if_neg (by simp; omega)]
theorem VDat.setL0 {w w':zB} {g:Nat} {t:Option zA} {N:Nat->Prop} {m:VM} {S:VSl} {j st:Nat} (h:VDat w g t N m S) (hT:Q05 g w w') (hN:N g) (hB:Blk w' g 64 (spl (vC t m S) (11+j*2) [.int .i64 (st:Int),.slice none 0 0])) (hj:j<4) (hst:st<=maxN):VDat w' g t N (Go.Proofs.YtckjnbjiafgibaaGreat.setL m j (st,[])) (Q3M S j none 0):=by
 have hz:11+j*2+2<=(vC t m S).size:=by rw [Q0H]; omega
 refine h.setL (d:=[]) hT hN hB hj (by rw [Q6u hz,Q0H]) (Q9K hz) (Q7w hz) (fun i hi h0 h1=>Q6m hz h0 h1) (Far.nil _ _) hst (.inl rfl)
theorem Q9j (m:VM) (j:Nat) (y z:Nat×List UInt8):Go.Proofs.YtckjnbjiafgibaaGreat.setL (Go.Proofs.YtckjnbjiafgibaaGreat.setL m j y) j z=Go.Proofs.YtckjnbjiafgibaaGreat.setL m j z:=by unfold Go.Proofs.YtckjnbjiafgibaaGreat.setL; simp
theorem VDat.setLd {w w':zB} {g:Nat} {t:Option zA} {N:Nat->Prop} {m:VM} {S:VSl} {j st:Nat} {d0 d:List UInt8} {A:Option zA} {c:Nat} (h:VDat w g t N (Go.Proofs.YtckjnbjiafgibaaGreat.setL m j (st,d0)) S) (hl:m.last.length=4) (hT:Q05 g w w') (hN:N g) (hB:Blk w' g 64 ((vC t (Go.Proofs.YtckjnbjiafgibaaGreat.setL m j (st,d0)) S).setIfInBounds (11+j*2+1) (.slice A d.length c))) (hj:j<4) (hf:Far w' N A c d) (hst:st<=maxN) (hd:d=[]\/d.length=16/\0<st):∃ S',VDat w' g t N (Go.Proofs.YtckjnbjiafgibaaGreat.setL m j (st,d)) S':=by
 have hz:(vC t (Go.Proofs.YtckjnbjiafgibaaGreat.setL m j (st,d0)) S).size=20:=Q0H _ _ _;have e:=Q9j m j (st,d0) (st,d);refine⟨_,e▸h.setL (d:=d) (st:=st) (A:=A) (c:=c) hT hN hB hj (by simp [hz]) ?_ ?_ ?_ hf hst hd⟩
 ·rw [zI,if_neg (by omega),Q29 _ _ _ _ hj,Q1y m j j _ hl hj,if_pos rfl]
 ·rw [zI,if_pos rfl,hz,if_pos (by omega)]
 intro i hi h0 h1;rw [zI,if_neg (by omega)]
theorem VDat.setBd {w w':zB} {g:Nat} {t:Option zA} {N:Nat->Prop} {m:VM} {S:VSl} {b:Nat} {d:List UInt8} {A:Option zA} {c:Nat} (h:VDat w g t N m S) (hT:Q05 g w w') (hN:N g) (hB:Blk w' g 64 ((vC t m S).setIfInBounds (3+b) (.slice A d.length c))) (hb:b<8) (hf:Far w' N A c d) (hd:d.length=16):VDat w' g t N (Go.Proofs.YtckjnbjiafgibaaGreat.setB m b d) (Q2G S b A c):=by
 have hz:(vC t m S).size=20:=Q0H _ _ _;refine h.setB (d:=d) hT hN hB hb (by simp [hz]) ?_ ?_ hf hd
 ·rw [zI,if_pos rfl,hz,if_pos (by omega)]
 intro i hi h0;rw [zI,if_neg (by omega)]
theorem Q7n {m m':VM} {a b:Nat} (ha:a<13) (hb:b<13) (h:∀ j,j<13->j≠a->j≠b->Q0G m' j=Q0G m j):((Q01 m).set a (Q0G m' a)).set b (Q0G m' b)=Q01 m':=by
 refine Q5c (by rw [zP,zP,Q0k]) fun j hj=>?_
 rw [zO];by_cases e:b=j
 ·subst e; rw [if_pos rfl,zP,Q0k,if_pos hb]
 rw [if_neg e,zO];by_cases e2:a=j
 ·subst e2; rw [if_pos rfl,Q0k,if_pos ha]
 rw [if_neg e2,Q1X m j hj,h j hj (fun e'=>e2 e'.symm) (fun e'=>e e'.symm)]
structure Q40 (w:zB) (V:VLoc) (N:Nat->Prop) (m':VM) (L:LL) (asked q i:Nat) (wx:zB):Prop where
 dat:∃ S,VDat wx V.g (some ⟨V.T.t,0,none⟩) N m' S
 tree:∃ ls,Q1a wx V.T V.k ls/\ls.length=13/\ls.set i (Q0G m' i)=Q01 m'/\∃ L' a',Q0d wx V.k L' a'/\a'<=asked+q/\(∀ x,x∈L->x∈L')/\Q0J L' ls
 only:Only V.has w wx
theorem Q40.start {w w':zB} {V:VLoc} {N N':Nat->Prop} {m m':VM} {L:LL} {asked q i:Nat} {S:VSl} (h:VAt w V N m) (hbk:Q0d w V.k L asked) (hin:Q0J L (Q01 m)) (ho:Only (fun b=>b=V.g) w w') (hd:VDat w' V.g (some ⟨V.T.t,0,none⟩) N' m' S) (hi:i<13) (hl:∀ j,j<13->j≠i->Q0G m' j=Q0G m j):Q40 w V N' m' L asked q i w' :=⟨⟨S,hd⟩,⟨Q01 m,h.tree.only ho (fun b hb e=>h.far.1 (e▸hb)),Q0k m,Q39 hi hl,L,asked,hbk.only ho (fun e=>h.far.2 (.inl e.symm)) (fun e=>h.far.2 (.inr (.inl e.symm))) (fun e=>h.far.2 (.inr (.inr e.symm))),by omega,fun _ h=>h,hin⟩,ho.mono fun b _ e=>.inl e⟩
theorem Q40.done {w w0 w' wx:zB} {V:VLoc} {N N':Nat->Prop} {m m':VM} {L:LL} {asked q i:Nat} (h0:VAt w0 V N m) (hN:∀ b,V.has b->N' b) (h:Q40 w V N' m' L asked q i wx) {ls:LL} {L1:LL} {a1:Nat} (hls:ls.set i (Q0G m' i)=Q01 m') (h1:a1<=asked+q) (h2:∀ x,x∈L->x∈L1) (h3:Q0J L1 ls) (hs:SetBy wx w' V.T V.k ls (ls.set i (Q0G m' i)) L1 a1 3):Q1d w w' V N' m' L asked (q+3):=by
 obtain⟨S,hd⟩:=h.dat;obtain⟨L',a',p1,p2,p3,p4⟩:=hs.book;have hfar:=h0.far;refine⟨⟨⟨S,hd.only hs.only (fun b hb=>hN b (.inr hb)) ?_⟩,hls▸hs.tree,hfar,hN⟩,⟨L',a',p1,by omega,fun x hx=>p3 x (h2 x hx),hls▸p4 L1 (fun _ h=>h) h3⟩,h.only.trans (hs.only.mono fun b _ e=>.inr e)⟩;rintro (e | e)
 ·exact hfar.1 (.inr (.inr e))
 exact hfar.2 e
theorem Q1d.below {w w' w'':zB} {V:VLoc} {N:Nat->Prop} {m:VM} {L:LL} {asked q:Nat} (h:Q1d w w' V N m L asked q) (hb:zE w'.heap.size w' w''):Q1d w w'' V N m L asked q:=by obtain⟨L',a',h1,h2,h3,h4⟩:=h.book;exact⟨h.vat.below hb,⟨L',a',h1.below hb,h2,h3,h4⟩,h.only.trans (Only.of_below hb)⟩
theorem ran_last {m:VM} (hl:m.last.length=4) {x:Wish} {j:Nat} (hj:j=(x.client - 31).toNat) (hj4:j<4):(Q0C (ranV m x).1 j).2=(ranV m x).2:=by
 by_cases hk:x.kind=1
 ·rw [(Q4g hk).1,(Q4g hk).2,<- hj,Q1y m j j _ hl hj4,if_pos rfl]
 rw [(Q3j hk).1,(Q3j hk).2,<- hj];show (Q0C (Go.Proofs.YtckjnbjiafgibaaGreat.setL m j (x.stamp.toNat,[])) j).2=_;rw [Q1y m j j _ hl hj4,if_pos rfl]
theorem Q8I {m:VM} (h:VOk m) {x:Wish} {j b:Nat} (hj:j=(x.client - 31).toNat) (hb:b=x.block.toNat) (hj4:j<4) (hb8:b<8) (i:Nat) (hi:i≠8+j) (hib:x.kind=1\/i≠b):Q0G (ranV m x).1 i=Q0G m i:=by
 by_cases hk:x.kind=1
 ·rw [(Q4g hk).1,<- hj];exact Q3N h.last hj4 i hi
 rw [(Q3j hk).1,<- hj,<- hb,Q8r (m:=Go.Proofs.YtckjnbjiafgibaaGreat.setL m j (x.stamp.toNat,[])) h.blocks hb8 i (hib.resolve_left hk)];exact Q3N h.last hj4 i hi
end
section
open Go.RowKit Go.Maps
attribute [local irreducible] wpList
theorem Q8a (e:Int) (A:Option zA) (n c:Nat) (p:Int) (D:Array zC) (h:D.size=4):spl (aC e A n c p) 0 D.toList=D:=Q0h _ _ (by rw [h]; rfl)
theorem vDo_late (w:zB) (V:VLoc) (N:Nat->Prop) (m:VM) (L:LL) (asked:Nat) (h:VAt w V N m) (hN:∀ b,N b->b<w.heap.size) (hbk:Q0d w V.k L asked) (hin:Q0J L (Q01 m)) (has:asked<=700000)
 (x:Wish) (A:Option zA) (n c:Nat) (A':Option zA) (n' c':Nat) (B:Nat) (hx:Q14 w B x A n c A' n' c') (hB:B<=w.heap.size) (hap:∀ a,0<n->A=some a->a.block≠V.g)
 (hmb:mayB x=true) (hgq:x.group=(m.group:Int)) (hk5:x.kind≠5) (hol:oldV m x=none) :
 zG zJ 8 #[.pointer (some ⟨V.g,0,none⟩),.agg (Q02 x A n c A' n' c')] w (DoPost w V N L asked (doV m x)):=by
 have hcl:=Q2V hmb hk5;have hbg:=Q4s hmb hk5 (by have:=h.dat; obtain⟨S,hd⟩:=this; have:=hd.ok.group; omega);obtain⟨j,hjd⟩:∃ j,j=(x.client - 31).toNat:=⟨_,rfl⟩;obtain⟨b,hbd⟩:∃ b,b=x.block.toNat:=⟨_,rfl⟩;obtain⟨st,hsd⟩:∃ s,s=x.stamp.toNat:=⟨_,rfl⟩;have hj4:j<4:=by omega
 have hb8:b<8:=by omega
 have hst1:0<st:=by omega
 have hstn:st<=maxN:=by unfold maxN; omega
 have hjI:(j:Int)<4:=by omega
 have hbI:(b:Int)<8:=by omega
 have hdv:doV m x=match Q25 m x.epoch with | some a=>(m,a,0) | none=>((ranV m x).1,Q24 (ranV m x).2,0):=by unfold doV inV; rw [hmb,decide_eq_true hgq,hol]; simp only [Bool.and_self,if_true,if_neg hk5];cases Q25 m x.epoch <;> rfl
 have hcI:x.client - 31=(j:Int):=by omega
 have hcE:x.client=31+(j:Int):=by omega
 have hbE:x.block=(b:Int):=by omega
 have hsE:x.stamp=(st:Int):=by omega
 have HCI:=sH hcI;have HCE:=sH hcE;have HBE:=sH hbE;have HSE:=sH hsE;have HJD:=sH hjd;have HBD:=sH hbd;have HSD:=sH hsd;have HDV:=sH hdv;have HBG:=sH hbg;have HCL:=sH hcl;clear hcI hcE hbE hsE hjd hbd hsd hdv hbg hcl;obtain⟨S,hd⟩:=h.dat;have hX:zE w.heap.size w ((w.alloc (.cells (Q02 x A n c A' n' c') 31)).alloc (.cells (aC 0 none 0 0 0) 34)):=((zL _ _).alloc (zK _) _).alloc (by simp) _;have k3:Blk ((w.alloc (.cells (Q02 x A n c A' n' c') 31)).alloc (.cells (aC 0 none 0 0 0) 34)) w.heap.size 31 (Q02 x A n c A' n' c'):=(Blk.newAt rfl).alloc _;have k4:Blk ((w.alloc (.cells (Q02 x A n c A' n' c') 31)).alloc (.cells (aC 0 none 0 0 0) 34)) (w.heap.size+1) 34 (aC 0 none 0 0 0):=Blk.newAt (by simp);have hz1:((w.alloc (.cells (Q02 x A n c A' n' c') 31)).alloc (.cells (aC 0 none 0 0 0) 34)).heap.size=w.heap.size+2:=by simp
 have hZ:aC 0 none 0 0 0=#[.int .i64 0,.slice none 0 0,.int .i64 0,.slice none 0 0]:=rfl;have lg:=hd.blk.lt;have hgr:=hd.ok.group;have HV:=sH h;have HD:=sH hd;have HBK:=sH hbk;have HIN:=sH hin;have HNN:=sH hN;have HXW:=sH hx;have HAP:=sH hap;have HX:=sH hX;have K3:=sH k3;have K4:=sH k4;have HZ1:=sH hz1;obtain⟨g3,hg3⟩:∃ b,b=w.heap.size:=⟨_,rfl⟩;obtain⟨g4,hg4⟩:∃ b,b=w.heap.size+1:=⟨_,rfl⟩;obtain⟨p,hp⟩:∃ p,p=doV m x:=⟨_,rfl⟩;rw [<- hp];have HP:=sH hp;clear h hd hbk hin hN hx hX k3 k4 hz1 hap hp;go_enter Tryz.func8,Tryz.ntmps8
 go_upto_region 1 with fail
 rw [<- hZ];generalize zR (zR w _) _=w1 at HX K3 K4 HZ1 ⊢;rw [<- hg4] at K4 ⊢;rw [<- hg3] at K3 ⊢;have hz1:=HZ1.out;have hgw3:w.heap.size<=g3:=by omega
 have hgw4:w.heap.size<=g4:=by omega
 have hg34:g3≠g4:=by omega
 have hw1:w.heap.size<=w1.heap.size:=by omega
 have hl3:=K3.out.lt;have hl4:=K4.out.lt;have hv1:=HV.out.below HX.out;have HNO:=sH (Q1C w1 V.g V.T.t hv1.none_);have HCK0:=sH (fun(W:zB) (hb:zE w1.heap.size w1 W)=>Q4Q x A n c A' n' c' W B (HXW.out.below ((HX.out.trans (hb.mono hw1)).mono hB)) (by have:=hb.size; omega));have c32:∀ W,zE w1.heap.size w1 W->W.cell? ⟨g3,2,none⟩=some (.int .i64 x.group):=fun W hb=>((K3.out.below' hb).cell 2).trans (rfl:(Q02 x A n c A' n' c')[2]?=some (.int .i64 x.group))
 have cg:=fun(W:zB) (hb:zE w1.heap.size w1 W)=>((HD.out.below HX.out).below hb).cGroup
 have C32:=sH c32;have CG:=sH cg;clear hg3 hg4 HZ1 hz1 hZ hv1 c32 cg;go_wp2_with fail
 refine HNO.out.mono ?_;rintro _ _ ⟨rfl,rfl⟩;go_upto_region 3 with fail
 clear HNO;have HCK:=sH (show ∀ W,zE w1.heap.size w1 W->zG zJ 44 #[.agg (Q02 x A n c A' n' c')] W fun e w'=>e=.returned (.int .i64 0)/\zE W.heap.size W w' from fun W hb=>by have h:=HCK0.out W hb; rw [hmb] at h; exact h);have HMB:=sH hmb;clear hmb HCK0;have c32:=C32.out;have cg:=CG.out;have hgb:(x.group != (m.group:Int))=false:=by simpa using hgq
 refine Q0f 12 109 (by kernel_rfl) (by kernel_rfl) (by kernel_rfl) (by simp) ?_;simp only [tT,tU];refine Q0w rfl 31 (.tmp 3) rfl g3 0 10 rfl 31 _ (Q02 x A n c A' n' c') _ K3.out Tryz.underlying31 rfl rfl rfl (fun _ _=>by rw [Nat.zero_add]) ?_;try simp only [zN,sA]
 refine Q1g rfl rfl 44 #[.agg (Q02 x A n c A' n' c')] (fun W=>by go_simp) (.int .i64 0) (fun W hb=>HCK.out W hb) ?_;try simp only [zN,sA]
 refine tC (.bool false) ?_;try simp only [zN,sA]
 refine tD (.bool false) ?_;try simp only [zN,sA]
 refine tC (.pointer (some ⟨g3,2,none⟩)) ?_;try simp only [zN,sA]
 refine Q0g rfl rfl (.int .i64 x.group) (fun W hb=>by have:=c32 W hb; go_simp) ?_;try simp only [zN,sA]
 refine tD (.pointer (some ⟨V.g,0,none⟩)) ?_;try simp only [zN,sA]
 refine tC (.pointer (some ⟨V.g,0,none⟩)) ?_;try simp only [zN,sA]
 refine tC (.pointer (some ⟨V.g,1,none⟩)) ?_;try simp only [zN,sA]
 refine Q0g rfl rfl (.int .i64 (m.group:Int)) (fun W hb=>by have:=cg W hb; go_simp) ?_;try simp only [zN,sA]
 refine tC (.bool false) ?_;try simp only [zN,sA]
 refine tC (.bool false) ?_;try simp only [zN,sA]
 refine Q0A ?_;intro w2 hb2;have K32:=sH (K3.out.below' hb2);have K42:=sH (K4.out.below' hb2);have HX2:=sH (HX.out.trans (hb2.mono hw1));have hw12:=hb2.size;have HGQ:=sH hgq;have HK5:=sH hk5;clear hb2 c32 cg hgb hgq;have c34:w2.cell? ⟨g3,4,none⟩=some (.int .i64 x.kind):=(K32.out.cell 4).trans rfl;have hk5b:(x.kind == 5)=false:=by simpa using hk5
 have HOL:=sH (Q7Y w2 V.g _ N m S (HD.out.below HX2.out) x A n c A' n' c' ⟨HCL.out.1,HCL.out.2.1⟩);rw [hol] at HOL;clear hol hk5;go_wp2_with (refine Q0c (o:=⟨some 38,_,_,_,_,_⟩) rfl 31 (.tmp 3) rfl g3 0 10 rfl 31 _ (Q02 x A n c A' n' c') _ K32.out Tryz.underlying31 rfl rfl rfl (fun _ _=>by rw [Nat.zero_add]) ?_)
 refine HOL.out.mono ?_;rintro _ w3 ⟨D,rfl,⟨A3,q3,hDe,ho3⟩,hb3⟩;simp only [Option.isSome_none];have hDs:D.size=4:=by rw [hDe]; rfl
 have hDo:D.all (·.oneCell')=true:=by rw [hDe]; exact Q0X _ _ _ _ _
 have HDS:=sH hDs;have HDO:=sH hDo;have K33:=sH (K32.out.below' hb3);have K43:=sH (K42.out.below' hb3);have HX3:=sH (HX2.out.trans (hb3.mono (by omega)));have hs3:=hb3.size;clear ho3 hb3 HOL hDe hDs hDo c34 K32 K42;go_upto_region 8 with(refine Q00 (o:=⟨none,_,_,_,_,_⟩) rfl 34 (.tmp 6) (.tmp 40) rfl w3.heap.size 0 D rfl rfl 34 (aC 0 none 0 0 0) (Blk.newAt rfl) (by rw [HDS.out]; kernel_rfl) (by rw [HDS.out]; simp [aC]) HDO.out ?_; intro w5 hT5 hD5; rw [Q8a _ _ _ _ _ _ HDS.out] at hD5)
 have hb5:zE w3.heap.size w3 w5:=hT5.below ((zL _ _).alloc (zK _) _) (zK _);have K35:=sH (K33.out.below' hb5);have K45:=sH (K43.out.below' hb5);have HX5:=sH (HX3.out.trans (hb5.mono (by omega)));have hs5:=hb5.size;obtain⟨g6,hg6⟩:∃ g,g=w3.heap.size:=⟨_,rfl⟩;rw [<- hg6];clear hT5 hD5 hb5 hg6 K33 K43;go_upto_region 10 with fail
 have c30:∀ W,zE w5.heap.size w5 W->W.cell? ⟨g3,0,none⟩=some (.int .i64 x.client):=fun W hb=>((K35.out.below' hb).cell 0).trans rfl
 refine Q0f 7 109 (by kernel_rfl) (by kernel_rfl) (by kernel_rfl) (by simp) ?_;simp only [tT,tU];refine tD (.pointer (some ⟨V.g,0,none⟩)) ?_;try simp only [zN,sA]
 refine tC (.pointer (some ⟨g3,0,none⟩)) ?_;try simp only [zN,sA]
 refine Q0g rfl rfl (.int .i64 x.client) (fun W hb=>by have:=c30 W hb; go_simp) ?_;try simp only [zN,sA]
 refine Q2a rfl rfl (.int .i64 (j:Int)) (fun W _=>by go_simp; rw [IntKind.wrap_i64]; have:=HCI.out; omega) ?_;try simp only [zN,sA]
 refine tC (.pointer (some ⟨V.g,0,none⟩)) ?_;try simp only [zN,sA]
 refine tC (.pointer (some ⟨V.g,11,none⟩)) ?_;try simp only [zN,sA]
 refine tC (.pointer (some ⟨V.g,11+j*2,none⟩)) ?_;try simp only [zN,sA]
 refine Q0A ?_;intro w6 hb6;have K36:=sH (K35.out.below' hb6);have K46:=sH (K45.out.below' hb6);have HX6:=sH (HX5.out.trans (hb6.mono (by omega)));have hs6:=hb6.size;have c33:w6.cell? ⟨g3,3,none⟩=some (.int .i64 x.epoch):=(K36.out.cell 3).trans rfl;have HEL:=sH (Q69 w6 V.g _ N m S (HD.out.below HX6.out) x.epoch);clear hb6 c30 K35 K45;go_wp2_with fail
 refine HEL.out.mono ?_;rintro _ w7 ⟨rfl,hb7⟩;have K37:=sH (K36.out.below' hb7);have K47:=sH (K46.out.below' hb7);have HX7:=sH (HX6.out.trans (hb7.mono (by omega)));have hs7:=hb7.size;clear hb7 c33 HEL K36 K46;cases hel:Q25 m x.epoch with
 | some a =>
  obtain⟨q,rfl⟩:=Q2D hel;have hs:p=(m,errA 171 q,0):=by rw [HP.out,HDV.out,hel]
  have HS:=sH hs;have HOE:=sH (show ansC (some (errA 171 q))=aC 171 none 0 0 (q:Int) from rfl);clear hel hs;rw [HOE.out];go_upto_region 12 with(refine Q00 (o:=⟨none,_,_,_,_,_⟩) rfl 34 (.tmp 9) (.tmp 54) rfl w7.heap.size 0 (aC 171 none 0 0 (q:Int)) rfl rfl 34 (aC 0 none 0 0 0) (Blk.newAt rfl) (Q0F _ _ _ _ _) (by simp [aC]) (Q0X _ _ _ _ _) ?_; intro w8 hT8 hD8; rw [Q17] at hD8)
  have hb8:zE w7.heap.size w7 w8:=hT8.below ((zL _ _).alloc (zK _) _) (zK _);have c80:w8.cell? ⟨w7.heap.size,0,none⟩=some (.int .i64 171):=(hD8.cell 0).trans rfl;have K48:=sH (K47.out.below' hb8);have HX8:=sH (HX7.out.trans (hb8.mono (by omega)));have HD8:=sH hD8;obtain⟨g9,hg9⟩:∃ g,g=w7.heap.size:=⟨_,rfl⟩;rw [<- hg9] at c80 HD8 ⊢;clear hT8 hD8 hb8 hg9;go_upto_region 13 with fail
  clear c80;go_wp2_with (first
   | (refine Q0c (o:=⟨some 58,_,_,_,_,_⟩) rfl 34 (.tmp 9) rfl g9 0 4 rfl 34 _ (aC 171 none 0 0 (q:Int)) _ HD8.out Tryz.underlying34 rfl rfl rfl (fun _ _=>by rw [Nat.zero_add]) ?_)
   | (refine Q00 (o:=⟨none,_,_,_,_,_⟩) rfl 34 (.tmp 4) (.tmp 58) rfl g4 0 (aC 171 none 0 0 (q:Int)) rfl rfl 34 _ K48.out (Q0F _ _ _ _ _) (by simp [aC]) (Q0X _ _ _ _ _) ?_; intro w9 hT9 hD9; rw [Q17] at hD9))
  refine bodyPost_ret (Q07 rfl _ _ g4 4 34 _ _ rfl hD9 Tryz.underlying34 rfl rfl rfl) rfl ?_;rw [HS.out];exact⟨_,rfl,⟨none,0,rfl,OwnB.nil _ _⟩,Q1d.same HV.out HBK.out HIN.out (hT9.below HX8.out hgw4)⟩
 | none =>
  have hs:p=((ranV m x).1,Q24 (ranV m x).2,0):=by rw [HP.out,HDV.out,hel]
  have HS:=sH hs;have HOE:=sH (show ansC none=aC 0 none 0 0 0 from rfl);clear hel hs;rw [HOE.out];go_upto_region 12 with(refine Q00 (o:=⟨none,_,_,_,_,_⟩) rfl 34 (.tmp 9) (.tmp 54) rfl w7.heap.size 0 (aC 0 none 0 0 0) rfl rfl 34 (aC 0 none 0 0 0) (Blk.newAt rfl) (Q0F _ _ _ _ _) (by simp [aC]) (Q0X _ _ _ _ _) ?_; intro w8 hT8 hD8; rw [Q17] at hD8)
  have hb8':zE w7.heap.size w7 w8:=hT8.below ((zL _ _).alloc (zK _) _) (zK _);have c80:w8.cell? ⟨w7.heap.size,0,none⟩=some (.int .i64 0):=(hD8.cell 0).trans rfl;have K38:=sH (K37.out.below' hb8');have K48:=sH (K47.out.below' hb8');have HX8:=sH (HX7.out.trans (hb8'.mono (by omega)));have hs8:=hb8'.size;obtain⟨g9,hg9⟩:∃ g,g=w7.heap.size:=⟨_,rfl⟩;rw [<- hg9] at c80 ⊢;clear hT8 hD8 hb8' hg9;go_upto_region 14 with fail
  have c35:∀ W,zE w8.heap.size w8 W->W.cell? ⟨g3,5,none⟩=some (.int .i64 (b:Int)):=fun W hb=>((K38.out.below' hb).cell 5).trans (by rw [<- HBE.out]; rfl)
  clear c80;refine Q0f 6 109 (by kernel_rfl) (by kernel_rfl) (by kernel_rfl) (by simp) ?_;simp only [tT,tU];refine tD (.pointer (some ⟨V.g,0,none⟩)) ?_;try simp only [zN,sA]
  refine tC (.pointer (some ⟨g3,5,none⟩)) ?_;try simp only [zN,sA]
  refine Q0g rfl rfl (.int .i64 (b:Int)) (fun W hb=>by have:=c35 W hb; go_simp) ?_;try simp only [zN,sA]
  refine tC (.pointer (some ⟨V.g,0,none⟩)) ?_;try simp only [zN,sA]
  refine tC (.pointer (some ⟨V.g,3,none⟩)) ?_;try simp only [zN,sA]
  refine tC (.pointer (some ⟨V.g,3+b,none⟩)) ?_;try simp only [zN,sA]
  refine Q0A ?_;intro wA hbA;have K3A:=sH (K38.out.below' hbA);have K4A:=sH (K48.out.below' hbA);have HXA:=sH (HX8.out.trans (hbA.mono (by omega)));have hsA:=hbA.size;have c31:wA.cell? ⟨g3,1,none⟩=some (.int .i64 (st:Int)):=(K3A.out.cell 1).trans (by rw [<- HSE.out]; rfl);have hVA:VAt wA V (fun b=>N b\/b=g4) m:=(HV.out.mono (N':=fun b=>N b\/b=g4) (fun b hb hn=>hn.elim id (fun e=>by omega)) (fun b hb=>.inl (HV.out.all b hb))).below HXA.out;have HVA:=sH hVA;have HDA:=sH ((HD.out.mono (N':=fun b=>N b\/b=g4) (fun b hb hn=>hn.elim id (fun e=>by omega))).below HXA.out);clear hbA c35 K38 K48 hVA;go_upto_region 16 with(refine Q00 (o:=⟨none,_,_,_,_,_⟩) rfl 61 (.tmp 69) (.tmp 68) rfl V.g (11+j*2) #[.int .i64 (st:Int),.slice none 0 0] rfl rfl 64 _ HDA.out.blk (by kernel_rfl) (by rw [Q0H]; simp; omega) (by simp [Value.oneCell']) ?_; intro wB hTB hDB)
  have hNg:(fun b=>N b\/b=g4) V.g:=.inl (HV.out.all _ (.inl rfl));have hd1:=HDA.out.setL0 hTB hNg hDB hj4 hstn;have HOB:=sH (Only.of_turned (N:=fun b=>b=V.g) hTB rfl);have hg3g:g3≠V.g:=by omega
  have hg4g:g4≠V.g:=by omega
  have K3B:=sH (hTB.blk K3A.out hg3g);have HDR:=sH (HOB.out.reads (((HXW.out.data.more hB).below HXA.out).more HXA.out.size) (fun a h0 ha=>HAP.out a h0 ha));have HD1:=sH hd1;have hsB:=hTB.size;have HBL:=sH (HD.out.ok.blk hb8);have HM4:=sH HD.out.ok.last;have HLE:=sH (fun i hi hib=>Q8I (x:=x) HD.out.ok HJD.out HBD.out hj4 hb8 i hi hib);have hdn:=HXW.out.dlen;have HLD:=sH (ran_last (x:=x) HD.out.ok.last HJD.out hj4);have hvr:=HD.out.ok.ran HMB.out HGQ.out HK5.out;obtain⟨rv,hrv⟩:∃ r,r=ranV m x:=⟨_,rfl⟩;have HRV:=sH hrv;rw [<- hrv] at HS HLE HLD hvr;have hdl:rv.2.length<=16:=by
   have:=(hvr.lst hj4).2;rw [HLD.out] at this;rcases this with e | e
   ·rw [e]; simp
   omega
  have hnh:∀ b,V.has b->b<w.heap.size:=fun b hb=>HNN.out b (HV.out.all b hb)
  have HNH:=sH hnh;have HDN:=sH hdn;have HNG:=sH hNg;have hlt4:∀ b,N b\/b=g4->b<wB.heap.size:=fun b hb=>by
   rcases hb with hb | hb
   ·have:=HNN.out b hb; have:=HXA.out.size; omega
   have:=K4A.out.lt; omega
  have HLT4:=sH hlt4;have hVO:=HD.out.ok;have HVO:=sH hVO;clear hTB hDB hNg c31 hd1 hrv hnh hdn hlt4 hvr hVO;have c34:wB.cell? ⟨g3,4,none⟩=some (.int .i64 x.kind):=(K3B.out.cell 4).trans rfl
  go_upto_if 72 with(fail)
  go_cut [72] (fun _ wx=>Q40 wA V (fun b=>N b\/b=g4) rv.1 L asked 3 (8+j) wx)
  case first =>
   by_cases hk1:x.kind=1
   ·have hkb:(x.kind == 1)=true:=by simpa using hk1
    have hm':rv.1=setL m j (st,Q0l m b):=by rw [HRV.out,(Q4g hk1).1,HJD.out,HBD.out,HSD.out]
    have cbk:wB.cell? ⟨V.g,3+b,none⟩=some (.slice (S.bA b) 16 (S.bC b)):=(HD1.out.cBlock b hb8).trans (by show some (Value.slice (S.bA b) (Q0l m b).length (S.bC b))=_; rw [HBL.out]);have HCN:=sH (Q1t (S.bA b) 16 (S.bC b) (Q0l m b) wB wB.heap.size (by have:=(HD1.out.block b hb8).rd; rw [show Q0l (setL m j (st,[])) b=Q0l m b from rfl,HBL.out] at this; exact this) (zK _) (by omega));have HM:=sH hm';clear hm' c34;go_wp2_with fail
    refine HCN.out.mono ?_;rintro _ wC ⟨v,rfl,ho,hbC⟩;obtain⟨AC,cC,hv,hfC⟩:=Far.of_own (w0:=w) (N:=fun b=>N b\/b=g4) ho HLT4.out;subst hv;have hd1C:=HD1.out.below hbC;have ccl:wC.cell? ⟨V.g,11+j*2+1,none⟩=some (.slice ((Q3M S j none 0).lA j) (Q0C (setL m j (st,[])) j).2.length ((Q3M S j none 0).lC j)):=(hd1C.blk.cell _).trans (Q2y _ _ _ _ hj4);have fcl:=hd1C.blk.frozen (11+j*2+1);have hTC:=Q05.setCell wC ⟨V.g,11+j*2+1,none⟩ (.slice AC (Q0l m b).length cC);have hoC:Only (fun b=>b=V.g) wC _:=Only.of_turned hTC rfl;obtain⟨S',hd2⟩:=hd1C.setLd HM4.out hTC HNG.out (hd1C.blk.set_ (11+j*2+1) (.slice AC (Q0l m b).length cC)) hj4 (hfC.only hoC (fun b e=>e▸HNG.out)) hstn (.inr ⟨HBL.out,hst1⟩);have HTS:=sH (Q40.start (q:=3) HVA.out (HBK.out.below HXA.out) HIN.out ((HOB.out.trans (Only.of_below hbC)).trans hoC) (HM.out▸hd2) (show 8+j<13 by omega) (fun i hi h8=>HLE.out i h8 (.inl hk1)));clear hd1C hTC hoC hd2 ho hbC hfC HCN cbk;go_wp2_with fail
    go_meet
    exact HTS.out
   have hkb:(x.kind == 1)=false:=by simpa using hk1
   have HK2:=sH (show x.data.length=16 by
    rcases HBG.out.1 with e | e
    ·exact absurd e.1 hk1
    exact e.2)
   have hm':rv.1=setB (setL m j (st,[])) b x.data:=by rw [HRV.out,(Q3j hk1).1,HJD.out,HBD.out,HSD.out]
   have cbk:∀ W,zE wB.heap.size wB W->W.cell? ⟨V.g,3+b,none⟩=some (.slice (S.bA b) 16 (S.bC b)):=fun W hb=>((HD1.out.below hb).cBlock b hb8).trans (by show some (Value.slice (S.bA b) (Q0l m b).length (S.bC b))=_; rw [HBL.out])
   have c36:∀ W,zE wB.heap.size wB W->W.cell? ⟨g3,6,none⟩=some (.slice A n c):=fun W hb=>((K3B.out.below' hb).cell 6).trans rfl
   have HRB:=sH (by have:=(HD1.out.block b hb8).rd; rw [show Q0l (setL m j (st,[])) b=Q0l m b from rfl,HBL.out] at this; exact this);have HM:=sH hm';clear hm';go_upto_region 18 with fail
   by_cases heq:Q0l m b=x.data
   ·have HEQ:=sH (fun(W:zB) (hb:zE wB.heap.size wB W)=>(show zG zJ 49 #[.slice (S.bA b) 16 (S.bC b),.slice A n c] W fun e w'=>e=.returned (.bool true)/\zE W.heap.size W w' from(Q5n (S.bA b) A 16 n (S.bC b) c (Q0l m b) x.data W wB.heap.size wB.heap.size (HRB.out.below hb) (HDR.out.below hb)).mono fun e w' ⟨he,k,hk⟩=>⟨by rw [he,decide_eq_true heq],by rw [hk]; exact Q0M (zL _ _) k⟩));have HEB:=sH heq;clear heq;refine Q0f 6 109 (by kernel_rfl) (by kernel_rfl) (by kernel_rfl) (by simp) ?_;simp only [tT,tU];refine tD (.pointer (some ⟨V.g,3+b,none⟩)) ?_;try simp only [zN,sA]
    refine tC (.pointer (some ⟨V.g,3+b,none⟩)) ?_;try simp only [zN,sA]
    refine Q0g rfl rfl (.slice (S.bA b) 16 (S.bC b)) (fun W hb=>by have:=cbk W hb; go_simp) ?_;try simp only [zN,sA]
    refine tC (.pointer (some ⟨g3,6,none⟩)) ?_;try simp only [zN,sA]
    refine Q0g rfl rfl (.slice A n c) (fun W hb=>by have:=c36 W hb; go_simp) ?_;try simp only [zN,sA]
    refine Q1g rfl rfl 49 #[.slice (S.bA b) 16 (S.bC b),.slice A n c] (fun W=>by go_simp) (.bool true) (fun W hb=>HEQ.out W hb) ?_;try simp only [zN,sA]
    refine Q0A ?_;intro wC hbC;have hd1C:=HD1.out.below hbC;have HTS:=sH (Q40.start (q:=3) HVA.out (HBK.out.below HXA.out) HIN.out (HOB.out.trans (Only.of_below hbC)) ((show rv.1=setL m j (st,[]) by rw [HM.out,<- HEB.out]; exact Q6J (m:=setL m j (st,[])) (by show b<m.blocks.length; rw [HVO.out.blocks]; exact hb8))▸hd1C) (show 8+j<13 by omega) (fun i hi h8=>by rw [show rv.1=setL m j (st,[]) by rw [HM.out,<- HEB.out]; exact Q6J (m:=setL m j (st,[])) (by show b<m.blocks.length; rw [HVO.out.blocks]; exact hb8)];exact Q3N HM4.out hj4 i h8))
    clear hd1C hbC cbk c36 HEQ;go_wp2_with fail
    go_meet
    exact HTS.out
   have HEQ:=sH (fun(W:zB) (hb:zE wB.heap.size wB W)=>(show zG zJ 49 #[.slice (S.bA b) 16 (S.bC b),.slice A n c] W fun e w'=>e=.returned (.bool false)/\zE W.heap.size W w' from(Q5n (S.bA b) A 16 n (S.bC b) c (Q0l m b) x.data W wB.heap.size wB.heap.size (HRB.out.below hb) (HDR.out.below hb)).mono fun e w' ⟨he,k,hk⟩=>⟨by rw [he,decide_eq_false heq],by rw [hk]; exact Q0M (zL _ _) k⟩));clear heq;refine Q0f 6 109 (by kernel_rfl) (by kernel_rfl) (by kernel_rfl) (by simp) ?_;simp only [tT,tU];refine tD (.pointer (some ⟨V.g,3+b,none⟩)) ?_;try simp only [zN,sA]
   refine tC (.pointer (some ⟨V.g,3+b,none⟩)) ?_;try simp only [zN,sA]
   refine Q0g rfl rfl (.slice (S.bA b) 16 (S.bC b)) (fun W hb=>by have:=cbk W hb; go_simp) ?_;try simp only [zN,sA]
   refine tC (.pointer (some ⟨g3,6,none⟩)) ?_;try simp only [zN,sA]
   refine Q0g rfl rfl (.slice A n c) (fun W hb=>by have:=c36 W hb; go_simp) ?_;try simp only [zN,sA]
   refine Q1g rfl rfl 49 #[.slice (S.bA b) 16 (S.bC b),.slice A n c] (fun W=>by go_simp) (.bool false) (fun W hb=>HEQ.out W hb) ?_;try simp only [zN,sA]
   refine Q0A ?_;intro wC hbC;have HD1C:=sH (HD1.out.below hbC);have HOC:=sH (HOB.out.trans (Only.of_below hbC));have HCN:=sH (Q1t A n c x.data wC wB.heap.size (HDR.out.below hbC) hbC.size (by have:=HDN.out; have:=HK2.out; omega));have cc6:=c36 wC hbC;have cc5:wC.cell? ⟨g3,5,none⟩=some (.int .i64 (b:Int)):=((K3B.out.below' hbC).cell 5).trans (by rw [<- HBE.out]; rfl);have K3C:=sH (K3B.out.below' hbC);have hsC:=hbC.size;clear hbC cbk c36 HEQ;go_wp2_with fail
   refine HCN.out.mono ?_;rintro _ wD ⟨v,rfl,ho,hbD⟩;obtain⟨AD,cD,hv,hfD⟩:=Far.of_own (w0:=w) (N:=fun b=>N b\/b=g4) ho (fun b hb=>by have:=HLT4.out b hb; omega);subst hv;have hd1D:=HD1C.out.below hbD;have cbl:=hd1D.cBlock b hb8;have fbl:=hd1D.blk.frozen (3+b);have hTD:=Q05.setCell wD ⟨V.g,3+b,none⟩ (.slice AD x.data.length cD);have hoD:Only (fun b=>b=V.g) wD _:=Only.of_turned hTD rfl;have hd2:=hd1D.setBd hTD HNG.out (hd1D.blk.set_ (3+b) (.slice AD x.data.length cD)) hb8 (hfD.only hoD (fun b e=>e▸HNG.out)) HK2.out;rw [<- HM.out] at hd2;have HD2:=sH hd2;have HOD:=sH ((HOC.out.trans (Only.of_below hbD)).trans hoD);have cd5:(wD.setCell ⟨V.g,3+b,none⟩ (.slice AD x.data.length cD)).cell? ⟨g3,5,none⟩=some (.int .i64 (b:Int)):=(hTD.cell (by exact hg3g)).trans (((K3C.out.below' hbD).cell 5).trans (by rw [<- HBE.out]; rfl));clear hd1D hTD hoD hd2 ho hbD hfD HCN cc6 cc5;go_upto_region 20 with fail
   generalize wD.setCell ⟨V.g,3+b,none⟩ (.slice AD x.data.length cD)=wE at HD2 HOD cd5 ⊢;have hVA:=HVA.out;have hfar:=hVA.far;have HSE:=sH (fun(i:Int) (hi:i=(b:Int))=>(show zG zJ 50 #[.pointer (some ⟨V.g,0,none⟩),.int .i64 i] wE _ from hi▸Q3t wE V.g b V.T V.k _ rv.1 _ (Q01 m) L asked HD2.out (by omega) (hVA.tree.only HOD.out (fun b hb e=>hfar.1 (e▸hb))) (Q0k m) ((HBK.out.below HXA.out).only HOD.out (fun e=>hfar.2 (.inl e.symm)) (fun e=>hfar.2 (.inr (.inl e.symm))) (fun e=>hfar.2 (.inr (.inr e.symm)))) (by omega)));clear hVA cbl fbl;go_wp2_with fail
   refine(HSE.out _ (by omega)).mono ?_;rintro _ wF ⟨rfl,hsb⟩;have HTS:Hid (Q40 wA V (fun b=>N b\/b=g4) rv.1 L asked 3 (8+j) wF):=sH (by
    obtain⟨L',a',p1,p2,p3,p4⟩:=hsb.book;refine⟨⟨_,HD2.out.only hsb.only (fun b hb=>HVA.out.all b (.inr hb)) ?_⟩,⟨_,hsb.tree,by rw [zP,Q0k],Q7n (by omega) (by omega) (fun i hi h1 h2=>HLE.out i h2 (.inr h1)),L',a',p1,p2,p3,p4 L (fun _ h=>h) HIN.out⟩,(HOD.out.mono fun b _ e=>.inl e).trans (hsb.only.mono fun b _ e=>.inr e)⟩;rintro (e | e)
    ·exact hfar.1 (.inr (.inr e))
    exact hfar.2 e)
   clear hsb HSE cd5;go_wp2_with fail
   go_meet
   exact HTS.out
  have HTS:=sH hcut;clear hcut c34;obtain⟨S',hd'⟩:=HTS.out.dat;obtain⟨ls,ht,hll,hle,L1,a1,hbk1,ha1,hL1,hin1⟩:=HTS.out.tree;have K3x:=sH (HTS.out.only.blk K3A.out (fun hb=>by have:=HNH.out _ hb; omega));have K4x:=sH (HTS.out.only.blk K4A.out (fun hb=>by have:=HNH.out _ hb; omega));have HSE:=sH (fun(i:Int) (hi:i=((8+j:Nat):Int))=>(show zG zJ 50 #[.pointer (some ⟨V.g,0,none⟩),.int .i64 i] wc _ from hi▸Q3t wc V.g (8+j) V.T V.k _ rv.1 S' ls L1 a1 hd' (by omega) ht hll hbk1 (by omega)));have HLE2:=sH hle;have HL1:=sH hL1;have HI1:=sH hin1;have c30:wc.cell? ⟨g3,0,none⟩=some (.int .i64 (31+(j:Int))):=(K3x.out.cell 0).trans (by rw [<- HCE.out]; rfl);clear hd' ht hll hle hbk1 hL1 hin1;go_wp2_with fail
  refine(HSE.out _ (by omega)).mono ?_;rintro _ wY ⟨rfl,hsb⟩;have hdn:=HTS.out.done HV.out HVA.out.all HLE2.out ha1 HL1.out HI1.out hsb;have K4Y:=sH (hsb.only.blk K4x.out (fun hb=>by have:=HNH.out _ (.inr hb); omega));have HDNE:=sH hdn;have hsY:=hsb.only.size;obtain⟨S2,hd2⟩:=hdn.vat.dat;have cY:wY.cell? ⟨V.g,11+j*2+1,none⟩=some (.slice (S2.lA j) rv.2.length (S2.lC j)):=(hd2.blk.cell _).trans ((Q2y _ _ _ _ hj4).trans (by rw [HLD.out]));have hfY:=hd2.last j hj4;rw [HLD.out] at hfY;have HCN:=sH (Q1t (S2.lA j) rv.2.length (S2.lC j) rv.2 wY wY.heap.size hfY.rd (zK _) (by omega));clear hsb hdn hd2 hfY HSE c30;go_wp2_with fail
  refine HCN.out.mono ?_;rintro _ wZ ⟨v,rfl,ho,hbZ⟩;obtain⟨AZ,cZ,hv,q1,q2,q3,q4⟩:=Q03 ho;subst hv;have K4Z:=sH (K4Y.out.below' hbZ);have HDZ:=sH (HDNE.out.below hbZ);have HOZ:=sH ho;have hsZ:=hbZ.size;have hszA:=HTS.out.only.size;clear ho hbZ HCN cY q3;go_wp2_with (refine Q00 (o:=⟨none,_,_,_,_,_⟩) rfl 34 (.tmp 4) (.tmp 108) rfl g4 0 (aC 0 AZ rv.2.length cZ 0) rfl rfl 34 _ K4Z.out (Q0F _ _ _ _ _) (by simp [aC]) (Q0X _ _ _ _ _) ?_; intro w9 hT9 hD9; rw [Q17] at hD9)
  refine bodyPost_ret (Q07 rfl _ _ g4 4 34 _ _ rfl hD9 Tryz.underlying34 rfl rfl rfl) rfl ?_;rw [HS.out];refine⟨_,rfl,⟨AZ,cZ,rfl,?_⟩,Q1d.last HV.out HNN.out HXA.out HDZ.out hT9 hgw4⟩;exact(HOZ.out.more (by have:=HXA.out.size; omega)).keep fun b hb=>hT9.block b (fun e=>by have:=HOZ.out.ge hb; have:=K4Y.out.lt; omega)
end
end Go.Proofs.YtckjnbjiafgibaaGreat
