/- Parts of the proof, in one text. -/
import Derived.Test.YtcpngeiahgoacaaGreatM11
import Derived.BigRegion
import Derived.Deep.DeepCutAuto
import Derived.Test.YtcpngeiahgoacaaGreatM9
import Derived.Test.YtcpngeiahgoacaaGreatM6
namespace Go.Proofs.YtcpngeiahgoacaaGreat
set_option linter.unusedVariables false
set_option linter.unusedSimpArgs false
set_option maxRecDepth 100000
set_option maxHeartbeats 16000000
open _root_.Array renaming getElem?_toList->zM
open _root_.Go renaming Addr->zA,World->zB,Value->zC
open _root_.Go.Proofs.Tryz renaming underlying77->zR,underlying47->zS,underlying44->zT
open _root_.Go.RowKit renaming Below->zE
open _root_.Go.RowKit.Below renaming refl->zI
open _root_.Go.Value renaming slice->zP
open _root_.List renaming getElem?_eq_getElem->zD,getElem?_eq_none->zG,getD_eq_getElem?_getD->zJ,getElem?_take->zK,getElem?_set->zN,mem_of_getElem?->zQ
open _root_.Nat renaming le_trans->zF,le_refl->zH,zero_add->zL
open _root_.Option.some renaming inj->zO
section
open Go.RowKit Go.Maps
attribute [local irreducible] wpList Q0h
structure Q1A (w w':zB) (V:ALoc) (N:Nat->Prop) (m':AM) (L:LL) (asked q:Nat):Prop where
 vat:AAt w' V N m'
 book:∃ L' a',Q0y w' V.k L' a'/\a'<=asked+q/\(∀ x,x∈L->x∈L')/\Q20 L' (Q0g m')
 only:Only (V.hasN N) w w'
theorem Q1A.idle {w w':zB} {V:ALoc} {N:Nat->Prop} {m:AM} {L:LL} {asked q:Nat} (hb:zE w.heap.size w w') (h:AAt w V N m) (hbk:Q0y w V.k L asked) (hin:Q20 L (Q0g m)):Q1A w w' V N m L asked q :=⟨h.below hb,⟨L,asked,hbk.below hb,by omega,fun _ h=>h,hin⟩,Only.of_below hb⟩
theorem Q1A.under {w w1 w2:zB} {V:ALoc} {N:Nat->Prop} {m:AM} {L:LL} {asked q:Nat} (hb:zE w.heap.size w w1) (h:Q1A w1 w2 V N m L asked q):Q1A w w2 V N m L asked q :=⟨h.vat,h.book,(Only.of_below hb).trans h.only⟩
theorem Q1A.after {w w1 w2:zB} {V:ALoc} {N:Nat->Prop} {m:AM} {L:LL} {asked q:Nat} (h:Q1A w w1 V N m L asked q) (hb:zE w1.heap.size w1 w2):Q1A w w2 V N m L asked q:=by obtain⟨L',a',h1,h2,h3,h4⟩:=h.book;exact⟨h.vat.below hb,⟨L',a',h1.below hb,h2,h3,h4⟩,h.only.trans (Only.of_below hb)⟩
theorem AAt.hasN_lt {w:zB} {V:ALoc} {N:Nat->Prop} {m:AM} {S:ASl} (hd:ADat w V.g V.gc (some ⟨V.T.t,0,none⟩) N m S) (hN:∀ b,N b->b<w.heap.size) (hall:∀ b,V.all b->N b) {b:Nat} (h:b=V.gc\/IsMv S m.chunks.length b):b<w.heap.size:=by
 rcases h with e | e
 ·exact hN b (hall b (.inr (.inl e)))
 exact hd.mlt e
theorem leafQ_mv {m:AM} {c i:Nat} {s:Srv} {o z:Int} (h:i≠c):Q1v (mvQ m c s o z) i=Q1v m i:=by
 unfold Q1v Q5H;split
 ·have:(mvQ m c s o z).chunks[i]?=m.chunks[i]?:=by
   unfold mvQ;simp only [zN];rw [if_neg (fun e=>h e.symm)]
  rw [this]
 rfl
theorem QcO {m:AM} {c:Nat} {s:Srv} {o z:Int} (hc:c<6):(Q0g m).set c (Q1v (mvQ m c s o z) c)=Q0g (mvQ m c s o z):=by
 apply List.ext_getElem?
 intro i;rw [zN,Q0z];rcases Nat.lt_or_ge i 6 with hi | hi
 ·rw [Q1T _ i hi];by_cases e:c=i
  ·subst e; rw [if_pos rfl,if_pos hi,Q1T _ c hi]
  rw [if_neg e,Q1T _ i hi,leafQ_mv (fun q=>e q.symm)]
 rw [if_neg (by omega),zG (by rw [Q0z]; exact hi),zG (by rw [Q0z]; exact hi)]
def AnPost (w:zB) (V:ALoc) (N:Nat->Prop) (L:LL) (asked:Nat) (p:AM×Ans) (r:Ending) (w':zB):Prop :=∃ D,r=.returned (.agg D)/\AnsN w' w.heap.size D p.2/\D.size=4/\Q1A w w' V N p.1 L asked 3
theorem zSrv_eq:Q83=#[.int .i64 0,.slice none 0 0,.int .i64 0,.slice none 0 0,.slice none 0 0]:=rfl
theorem anZ:anC 0 none 0 0 0 none 0 0=#[.int .i64 0,.slice none 0 0,.int .i64 0,.slice none 0 0]:=rfl
theorem Qbi (w:zB) (V:ALoc) (N:Nat->Prop) (m:AM) (L:LL) (asked:Nat) (h:AAt w V N m) (hN:∀ b,N b->b<w.heap.size) (hbk:Q0y w V.k L asked) (hin:Q20 L (Q0g m)) (has:asked<=800000)
 (x:Wish) (A:Option zA) (n c:Nat) (A':Option zA) (n' c':Nat) (hx:inQ x=true) :
 Calls Tryz.prog 98 #[.pointer (some ⟨V.g,0,none⟩),.agg (Q06 x A n c A' n' c')] w (AnPost w V N L asked (Q0T m x)):=by
 obtain⟨S,hd⟩:=h.dat;obtain⟨_,_,_,_,b1,b2,hkind⟩:=Q6S hx;obtain⟨q,hq⟩:∃ q,q=(x.block - 1).toNat:=⟨_,rfl⟩;have hqb:x.block - 1=(q:Int):=by omega
 have hq2:q<2:=by omega
 have hlt:=hd.lt;have hX:zE w.heap.size w ((w.alloc (.cells (Q06 x A n c A' n' c') 44)).alloc (.cells (anC 0 none 0 0 0 none 0 0) 47)):=((zI _ _).alloc (zH _) _).alloc (by simp) _;have k3:Blk ((w.alloc (.cells (Q06 x A n c A' n' c') 44)).alloc (.cells (anC 0 none 0 0 0 none 0 0) 47)) w.heap.size 44 (Q06 x A n c A' n' c'):=(Blk.newAt rfl).alloc _;have k4:Blk ((w.alloc (.cells (Q06 x A n c A' n' c') 44)).alloc (.cells (anC 0 none 0 0 0 none 0 0) 47)) (w.heap.size+1) 47 (anC 0 none 0 0 0 none 0 0):=Blk.newAt (by simp);have hz1:((w.alloc (.cells (Q06 x A n c A' n' c') 44)).alloc (.cells (anC 0 none 0 0 0 none 0 0) 47)).heap.size=w.heap.size+2:=by simp
 have HV:=sH h;have HNL:=sH hN;have HBK:=sH hbk;have HIN:=sH hin;have HD:=sH (fun(W:zB) (hb:zE w.heap.size w W)=>hd.below hb);have HD0:=sH hd;have HX:=sH hX;have K3:=sH k3;have K4:=sH k4;have HZ1:=sH hz1;have HK:=sH hkind;have HQ:=sH hq;obtain⟨P,hP⟩:∃ P,P=AnPost w V N L asked (Q0T m x):=⟨_,rfl⟩;rw [<- hP];have HA:Hid (Q0T m x=match m.chunks[q]? with | none=>(m,errA 180 0) | some s=>if x.kind=3 then(m,⟨0,[],s.moves.length,s.now⟩) else if x.client≠34 then(m,errA 180 0) else if ¬ x.old∈s.now\/Q0S m.chunks s.f x.new=true then(m,errA 180 s.moves.length) else if s.moves.length+1=22 then(m,errA 5 0) else(mvQ m q s x.old x.new,errA 0 (s.moves.length+1))):=sH (by unfold Q0T; rw [<- hq]; rfl);have HPI:=sH (show ∀ w' a D,Q0T m x=(m,a)->AnsN w' w.heap.size D a->D.size=4->zE w.heap.size w w'->P (.returned (.agg D)) w' from fun w' a D ha hD hs hb=>by rw [hP,ha]; exact⟨D,rfl,hD,hs,Q1A.idle hb h hbk hin⟩)
 have HPM:=sH (show ∀ w' m' a D,Q0T m x=(m',a)->AnsN w' w.heap.size D a->D.size=4->Q1A w w' V N m' L asked 3->P (.returned (.agg D)) w' from fun w' m' a D ha hD hs hb=>by rw [hP,ha]; exact⟨D,rfl,hD,hs,hb⟩)
 obtain⟨g3,hg3⟩:∃ b,b=w.heap.size:=⟨_,rfl⟩;obtain⟨g4,hg4⟩:∃ b,b=w.heap.size+1:=⟨_,rfl⟩;obtain⟨nc,hnc⟩:∃ k,k=m.chunks.length:=⟨_,rfl⟩;have hnc2:nc<=2:=by rw [hnc]; exact hd.ok.one.2
 have C1:=sH (fun(W:zB) (hb:zE w.heap.size w W)=>(show W.cell? ⟨V.g,1,none⟩=some (.slice (some ⟨V.gc,0,none⟩) nc S.cap) from by rw [hnc]; exact((hd.below hb).blk.cell 1).trans (Q1N _ _ _ _ 1 (by omega))));have HNC:=sH hnc;have hl1:=hlt.1;have hl2:=hlt.2;clear h hN hbk hin hd hX k3 k4 hz1 hP hq hkind hx hlt hnc;go_enter Tryz.func98,Tryz.ntmps98
 go_upto_region 1 with fail
 rw [<- anZ];generalize World.alloc (World.alloc w _) _=w1 at HX K3 K4 HZ1 ⊢;rw [<- hg4] at K4 ⊢;rw [<- hg3] at K3 ⊢;have hz1:=HZ1.out;have hgw3:w.heap.size<=g3:=by omega
 have hgw4:w.heap.size<=g4:=by omega
 have hg34:g3≠g4:=by omega
 have hw1:w.heap.size<=w1.heap.size:=by omega
 have hl3:=K3.out.lt;have hl4:=K4.out.lt;clear hg3 hg4 HZ1 hz1;have c35:w1.cell? ⟨g3,5,none⟩=some (.int .i64 x.block):=(K3.out.cell 5).trans rfl;have c1:=C1.out w1 HX.out;by_cases hqn:nc<=q
 ·have hqI:(nc:Int)<=(q:Int):=by omega
  have ha:Q0T m x=(m,errA 180 0):=by rw [HA.out,zG (by rw [<- HNC.out]; exact hqn)]
  have HAA:=sH ha;clear ha;go_wp2_with (refine Q00 (o:=⟨none,_,_,_,_,_⟩) rfl 47 (.tmp 4) (.tmp 18) rfl g4 0 (anC 180 none 0 0 0 none 0 0) rfl rfl 47 _ K4.out (Q2k _ _ _ _ _ _ _ _) (by simp [anC]) (Q2C _ _ _ _ _ _ _ _) ?_; intro w7 hT7 hD7; rw [Q21 _ rfl] at hD7)
  refine bodyPost_ret (Q0t rfl _ _ g4 4 47 _ _ rfl hD7 zS rfl rfl rfl) rfl ?_;exact HPI.out _ _ _ HAA.out (AnsN.bare _ _ 180 0) rfl (hT7.below HX.out hgw4)
 have hqI:(q:Int)<(nc:Int):=by omega
 have hqN:¬ (nc:Int)<=(q:Int):=by omega
 have hql:q<m.chunks.length:=by have:=HNC.out; omega
 obtain⟨s,hs⟩:∃ s,m.chunks[q]?=some s:=⟨_,zD hql⟩;have ha1:Q0T m x=if x.kind=3 then(m,⟨0,[],s.moves.length,s.now⟩) else if x.client≠34 then(m,errA 180 0) else if ¬ x.old∈s.now\/Q0S m.chunks s.f x.new=true then(m,errA 180 s.moves.length) else if s.moves.length+1=22 then(m,errA 5 0) else(mvQ m q s x.old x.new,errA 0 (s.moves.length+1)):=by rw [HA.out,hs]
 have HA1:=sH ha1;have HS:=sH hs;have hsk:=HD0.out.ok.srv s (zQ hs);have hnow:=hsk.now_ok;have hml:=hsk.len;have HNOW:=sH hnow;have hns:=hnow.short;have hnf:=hnow.faults;have HLC:=sH (HD0.out.srv q s hs);have HROW1:=sH (HD.out w1 HX.out).row;have HNRD:=sH (HD0.out.now q s hs).rd;obtain⟨at_,hat⟩:∃ k,k=s.moves.length:=⟨_,rfl⟩;obtain⟨nn,hnn⟩:∃ k,k=s.now.length:=⟨_,rfl⟩;have hDe:srvC s S q=#[.int .i64 (s.f:Int),.slice (S.fA q) s.first.length (S.fC q),.int .i64 (s.f:Int),.slice (S.nA q) nn (S.nC q),.slice (S.mA q) at_ (S.mC q)]:=by rw [hat,hnn]; rfl
 obtain⟨D,hD⟩:∃ D,D=srvC s S q:=⟨_,rfl⟩;have hDs:D.size=5:=by rw [hD]; rfl
 have hDo:D.all (·.oneCell')=true:=by rw [hD]; exact Qci s S q
 rw [<- hD] at HLC hDe;rw [<- hat] at hml;rw [<- hnn] at HNRD hns;have HDE:=sH hDe;have HAT:=sH hat;have HNN:=sH hnn;clear hs ha1 hsk hnow hat hnn hD hDe hqn;go_upto_region 5 with(first
  | (refine Q01 (o:=⟨some 25,_,_,_,_,_⟩) rfl 173 (.tmp 24) rfl V.gc (q*5) 5 rfl 173 _ D _ HROW1.out Tryz.underlying173 rfl rfl hDs HLC.out ?_)
  | (refine Q00 (o:=⟨none,_,_,_,_,_⟩) rfl 173 (.tmp 6) (.tmp 25) rfl w1.heap.size 0 D rfl rfl 173 Q83 (by rw [zSrv_eq]; exact Blk.newAt rfl) (by rw [hDs]; exact Q7C) (by rw [hDs]; simp [Q83]) hDo ?_; intro w2 hT2 hD2; rw [Q0c _ _ (by rw [hDs]; rfl)] at hD2))
 have hb2:zE w1.heap.size w1 w2:=hT2.below (Q04 w1 _) (zH _);obtain⟨g6,hg6⟩:∃ g,g=w1.heap.size:=⟨_,rfl⟩;rw [<- hg6] at hD2 ⊢;have HB2:=sH (HX.out.trans (hb2.mono hw1));have HD2:=sH hD2;have K32:=sH (K3.out.below' hb2);have K42:=sH (K4.out.below' hb2);have hs2:=HB2.out.size;have hs12:=hb2.size;have hg6l:=hD2.lt;have hg36:g3≠g6:=by omega
 have hg46:g4≠g6:=by omega
 have hgw6:w.heap.size<=g6:=by omega
 have d4:w2.cell? ⟨g6,4,none⟩=some (.slice (S.mA q) at_ (S.mC q)):=(hD2.cell 4).trans (by rw [HDE.out]; rfl);have d3:w2.cell? ⟨g6,3,none⟩=some (.slice (S.nA q) nn (S.nC q)):=(hD2.cell 3).trans (by rw [HDE.out]; rfl);have e4:w2.cell? ⟨g3,4,none⟩=some (.int .i64 x.kind):=(K32.out.cell 4).trans rfl;have e0:w2.cell? ⟨g3,0,none⟩=some (.int .i64 x.client):=(K32.out.cell 0).trans rfl;clear hT2 hD2 hb2 hg6 HROW1 K3 K4 c35 c1;by_cases hk3:x.kind=3
 ·have hk3b:(x.kind == 3)=true:=by simpa using hk3
  have HAA:=sH (show Q0T m x=(m,⟨0,[],s.moves.length,s.now⟩) by rw [HA1.out,if_pos hk3]);have HCN:=sH (Q36 (S.nA q) nn (S.nC q) s.now w2 w.heap.size (HNRD.out.below HB2.out) hs2 (by omega));clear hk3;go_wp2_with fail
  refine HCN.out.mono ?_;rintro _ w5 ⟨v,rfl,ho5,hb5⟩;obtain⟨A5,k5,hv5,_⟩:=Q0i ho5;rw [<- HNN.out] at hv5;subst hv5;have HO5:=sH ho5;have HB5:=sH (HB2.out.trans (hb5.mono hs2));have K45:=sH (K42.out.below' hb5);clear ho5 hb5 HCN;go_wp2_with (refine Q00 (o:=⟨none,_,_,_,_,_⟩) rfl 47 (.tmp 4) (.tmp 38) rfl g4 0 (anC 0 none 0 0 (at_:Int) A5 nn k5) rfl rfl 47 _ K45.out (Q2k _ _ _ _ _ _ _ _) (by simp [anC]) (Q2C _ _ _ _ _ _ _ _) ?_; intro w7 hT7 hD7; rw [Q21 _ rfl] at hD7)
  refine bodyPost_ret (Q0t rfl _ _ g4 4 47 _ _ rfl hD7 zS rfl rfl rfl) rfl ?_;refine HPI.out _ _ _ HAA.out ⟨A5,k5,by rw [HAT.out,HNN.out]; rfl,?_⟩ rfl (hT7.below HB5.out hgw4);have:=HO5.out.keep_ (w':=w7) fun b hb=>hT7.block b (fun e=>by have:=HO5.out.ge_ hb; omega)
  rw [<- HNN.out];exact OwnN.more this hs2
 have hk3b:(x.kind == 3)=false:=by simpa using hk3
 by_cases hcl:x.client=34
 ·have hclb:(x.client != 34)=false:=by simp [hcl]
  have HH:=sH (Q5J s.f (S.nA q) nn (S.nC q) s.now x.old w2 ((HNRD.out.below HB2.out).more hs2) HNOW.out);obtain⟨C,hC⟩:∃ C,C=crC s.f (S.nA q) nn (S.nC q):=⟨_,rfl⟩;rw [<- hC] at HH;have hcs:C.size=2:=by rw [hC]; rfl
  have hcd:∀ j,j<2->D[2+j]?=C[j]?:=fun j hj=>by
   rw [HDE.out,hC];obtain rfl | rfl:j=0\/j=1:=by omega
   iterate 2 ·rfl
  have HCD:=sH hcd;have e7:w2.cell? ⟨g3,7,none⟩=some (.int .i64 x.old):=(K32.out.cell 7).trans rfl;have HK3:=sH hk3;have HCLI:=sH hcl;clear hC hcd hk3 hcl;go_wp2_with (refine Q01 (o:=⟨some 46,_,_,_,_,_⟩) rfl 77 (.tmp 45) rfl g6 2 2 rfl 173 _ C _ HD2.out zR rfl rfl hcs HCD.out ?_)
  refine HH.out.mono ?_;rintro _ w3 ⟨rfl,hb3⟩;have hs3:=hb3.size;have HB3:=sH (HB2.out.trans (hb3.mono hs2));have K33:=sH (K32.out.below' hb3);have K43:=sH (K42.out.below' hb3);have HD3:=sH (HD2.out.below' hb3);have hs13:=HB3.out.size;clear hb3 HH K32 K42 HD2 d3 d4 e4 e0 e7;have HAA1:=sH (show Q0T m x=if ¬ x.old∈s.now\/Q0S m.chunks s.f x.new=true then(m,errA 180 s.moves.length) else if s.moves.length+1=22 then(m,errA 5 0) else(mvQ m q s x.old x.new,errA 0 (s.moves.length+1)) by rw [HA1.out,if_neg HK3.out,if_neg (by rw [HCLI.out]; simp)]);by_cases hold:x.old∈s.now
  ·rw [decide_eq_true hold];have HU:=sH (Q9v w3 V.g V.gc s.f _ N m S x.new (HD.out w3 HB3.out) hnf);have d2:w3.cell? ⟨g6,2,none⟩=some (.int .i64 (s.f:Int)):=(HD3.out.cell 2).trans (by rw [HDE.out]; rfl);have e8:w3.cell? ⟨g3,8,none⟩=some (.int .i64 x.new):=(K33.out.cell 8).trans rfl;have HOLD:=sH hold;obtain⟨u,hu⟩:∃ u,u=Q0S m.chunks s.f x.new:=⟨_,rfl⟩;rw [<- hu] at HU;have HUE:=sH hu;clear hold hu;go_wp2_with fail
   refine HU.out.mono ?_;rintro _ w4 ⟨rfl,hb4⟩;have hs4:=hb4.size;have HB4:=sH (HB3.out.trans (hb4.mono hs13));have K34:=sH (K33.out.below' hb4);have K44:=sH (K43.out.below' hb4);have hs14:=HB4.out.size;clear hb4 HU K33 K43 HD3 d2 e8;cases u with
   | true =>
    have HAA:=sH (show Q0T m x=(m,errA 180 s.moves.length) by rw [HAA1.out,if_pos (.inr HUE.out.symm)]);go_wp2_with (refine Q00 (o:=⟨none,_,_,_,_,_⟩) rfl 47 (.tmp 4) (.tmp 61) rfl g4 0 (anC 180 none 0 0 (at_:Int) none 0 0) rfl rfl 47 _ K44.out (Q2k _ _ _ _ _ _ _ _) (by simp [anC]) (Q2C _ _ _ _ _ _ _ _) ?_; intro w7 hT7 hD7; rw [Q21 _ rfl] at hD7)
    refine bodyPost_ret (Q0t rfl _ _ g4 4 47 _ _ rfl hD7 zS rfl rfl rfl) rfl ?_;exact HPI.out _ _ _ HAA.out (by rw [<- HAT.out]; exact AnsN.bare _ _ 180 at_) rfl (hT7.below HB4.out hgw4)
   | false =>
    have HAA2:=sH (show Q0T m x=if s.moves.length+1=22 then(m,errA 5 0) else(mvQ m q s x.old x.new,errA 0 (s.moves.length+1)) by rw [HAA1.out,if_neg (fun h=>by
     rcases h with h | h
     ·exact h HOLD.out
     rw [<- HUE.out] at h; cases h)])
    by_cases h22:at_=21
    ·have h22b:((at_:Int)+1 == 22)=true:=by simp [h22]
     have HAA:=sH (show Q0T m x=(m,errA 5 0) by rw [HAA2.out,if_pos (by rw [<- HAT.out]; omega)]);clear h22;go_wp2_with (refine Q00 (o:=⟨none,_,_,_,_,_⟩) rfl 47 (.tmp 4) (.tmp 66) rfl g4 0 (anC 5 none 0 0 0 none 0 0) rfl rfl 47 _ K44.out (Q2k _ _ _ _ _ _ _ _) (by simp [anC]) (Q2C _ _ _ _ _ _ _ _) ?_; intro w7 hT7 hD7; rw [Q21 _ rfl] at hD7)
     refine bodyPost_ret (Q0t rfl _ _ g4 4 47 _ _ rfl hD7 zS rfl rfl rfl) rfl ?_;exact HPI.out _ _ _ HAA.out (AnsN.bare _ _ 5 0) rfl (hT7.below HB4.out hgw4)
    have h22b:((at_:Int)+1 == 22)=false:=by simp; omega
    have HAA:=sH (show Q0T m x=(mvQ m q s x.old x.new,errA 0 (s.moves.length+1)) by rw [HAA2.out,if_neg (by rw [<- HAT.out]; omega)]);have hk4:1<=x.new/\x.new<=28:=by
     rcases HK.out with e | e
     ·exact absurd e HK3.out
     exact⟨e.2.2.2.1,e.2.2.2.2.1⟩
    have HGD:=sH (show Q0S m.chunks s.f x.new=false/\Q22 s.now x.old x.new from⟨HUE.out.symm,HOLD.out,fun e=>(Q4e HUE.out.symm).2 (Q7k (zQ HS.out) (Q6d e)),hk4.1,hk4.2⟩);have hd4:ADat w4 V.g V.gc (some ⟨V.T.t,0,none⟩) (fun b=>N b\/b=g4) m S:=(HD0.out.mono (fun b hb hn=>hn.elim id (fun e=>by omega)) ⟨.inl HD0.out.gN.1,.inl HD0.out.gN.2⟩).below HB4.out;have HMV:=sH (QaL w4 V.g V.gc q _ (fun b=>N b\/b=g4) m S s x.old x.new hd4 HS.out (fun b hb=>by
     rcases hb with hb | hb
     ·have:=HNL.out b hb; omega
     have:=K44.out.lt; omega) HV.out.far.1 (by rw [<- HAT.out]; omega))
    have HD4:=sH hd4;have e7:w4.cell? ⟨g3,7,none⟩=some (.int .i64 x.old):=(K34.out.cell 7).trans rfl;have e8:w4.cell? ⟨g3,8,none⟩=some (.int .i64 x.new):=(K34.out.cell 8).trans rfl;clear hd4 h22;go_wp2_with fail
    refine HMV.out.mono ?_;rintro _ w5 ⟨hgo,_⟩;obtain⟨rfl,S',hd5,ho5⟩:=hgo HGD.out;have hmv5:∀ b,(b=V.gc\/MvC S q b)->b=V.gc\/IsMv S m.chunks.length b:=fun b hb=>by
     rcases hb with e | ⟨a,e1,e2⟩
     ·exact .inl e
     exact .inr ⟨q,a,hql,e1,e2⟩
    have hlt5:∀ b,(b=V.gc\/MvC S q b)->b<w.heap.size:=fun b hb=>AAt.hasN_lt HD0.out HNL.out HV.out.all (hmv5 b hb)
    have hnT:∀ b,V.T.has b->¬ (b=V.gc\/MvC S q b):=fun b hb e=>by
     rcases hmv5 b e with e | e
     ·exact HV.out.far.2.2.1 (e▸hb)
     exact HD0.out.mvN b e (HV.out.all b (.inr (.inr (.inr hb))))
    have hnk:∀ b,V.k.has b->¬ (b=V.gc\/MvC S q b):=fun b hb e=>by
     rcases hmv5 b e with e | e
     ·exact HV.out.far.2.2.2.2 (e▸hb)
     exact HD0.out.mvN b e (HV.out.all b (.inr (.inr (.inl hb))))
    have ht5:=(HV.out.tree.below HB4.out).only ho5 hnT;have hbk5:=(HBK.out.below HB4.out).only ho5 (hnk _ (.inl rfl)) (hnk _ (.inr (.inl rfl))) (hnk _ (.inr (.inr rfl)));have HST:=sH (Q9Q w5 V.g V.gc q V.T V.k (fun b=>N b\/b=g4) _ S' _ L asked hd5 (by omega) ht5 (Q0z m) hbk5 (by omega));rw [QcO (by omega)] at HST;have HD5:=sH hd5;have HO5:=sH ho5;have HMV5:=sH hmv5;have K45:=sH (ho5.blk K44.out (fun e=>by have:=hlt5 g4 e; omega));have hs5:=ho5.size;clear hgo hd5 ho5 hmv5 hlt5 hnT hnk ht5 hbk5 HMV e7 e8;go_wp2_with fail
    refine HST.out.mono ?_;rintro _ w6 ⟨rfl,hsb⟩;obtain⟨L',a',p1,p2,p3,p4⟩:=hsb.book;have hkT:∀ b,(V.T.mut b\/V.k.has b)->b<w.heap.size:=fun b hb=>HNL.out b (HV.out.all b (by
     rcases hb with e | e
     ·exact .inr (.inr (.inr (.inr (.inr e))))
     exact .inr (.inr (.inl e))))
    have hd6:ADat w6 V.g V.gc (some ⟨V.T.t,0,none⟩) (fun b=>N b\/b=g4) (mvQ m q s x.old x.new) S':=HD5.out.only hsb.only (fun b hb=>.inl (HV.out.all b (by
     rcases hb with e | e
     ·exact .inr (.inr (.inr (.inr (.inr e))))
     ·exact .inr (.inr (.inl e))))) (fun e=>by
     rcases e with e | e
     ·exact HV.out.far.2.1 (.inr (.inr e))
     ·exact HV.out.far.2.2.2.1 e) (fun e=>by
     rcases e with e | e
     ·exact HV.out.far.2.2.1 (.inr (.inr e))
     exact HV.out.far.2.2.2.2 e)
    have hT6:=hsb.tree;have hin6:=p4 L (fun _ h=>h) HIN.out;have ho6:Only (V.hasN N) w w6:=by
     refine((Only.of_below HB4.out).trans (HO5.out.mono fun b _ e=>?_)).trans (hsb.only.mono fun b _ e=>?_)
     ·rcases HMV5.out b e with e | e
      ·exact .inl (.inr (.inl e))
      exact .inr (HD0.out.mvN b e)
     rcases e with e | e
     ·exact .inl (.inr (.inr (.inl e)))
     exact .inl (.inr (.inr (.inr e)))
    have hdone:∀ w7,Q0b g4 w6 w7->Q1A w w7 V N (mvQ m q s x.old x.new) L asked 3:=fun w7 hT=>by
     have ht4:Only (fun b=>b=g4) w6 w7:=Only.of_turned hT rfl;have hold:∀ b,V.all b->b≠g4:=fun b hb e=>by have:=HNL.out b (HV.out.all b hb); omega
     refine⟨⟨⟨S',(hd6.only ht4 (fun b e=>.inr e) (fun e=>hold _ (.inl rfl) e) (fun e=>hold _ (.inr (.inl rfl)) e)).mono (fun b _ hn=>.inl hn) ⟨HD0.out.gN.1,HD0.out.gN.2⟩⟩,hT6.only ht4 (fun b hb e=>hold b (.inr (.inr (.inr hb))) e),HV.out.far,HV.out.all⟩,⟨L',a',p1.only ht4 (fun e=>hold _ (.inr (.inr (.inl (.inl rfl)))) e) (fun e=>hold _ (.inr (.inr (.inl (.inr (.inl rfl))))) e) (fun e=>hold _ (.inr (.inr (.inl (.inr (.inr rfl))))) e),p2,p3,hin6⟩,⟨ht4.os.trans ho6.os,ht4.tape.trans ho6.tape,ht4.output.trans ho6.output,zF ho6.size ht4.size,fun b hb hn=>(ht4.block b (by have:=ho6.size; omega) (fun e=>by omega)).trans (ho6.block b hb hn)⟩⟩
    have K46:=sH (hsb.only.blk K45.out (fun e=>by have:=hkT g4 e; omega));have HDN:=sH hdone;have hs6:=hsb.only.size;clear hsb hdone hkT p1 p2 p3 p4 HST hd6 hT6 hin6 ho6;go_wp2_with (refine Q00 (o:=⟨none,_,_,_,_,_⟩) rfl 47 (.tmp 4) (.tmp 80) rfl g4 0 (anC 0 none 0 0 ((at_:Int)+1) none 0 0) rfl rfl 47 _ K46.out (Q2k _ _ _ _ _ _ _ _) (by simp [anC]) (Q2C _ _ _ _ _ _ _ _) ?_; intro w7 hT7 hD7; rw [Q21 _ rfl] at hD7)
    refine bodyPost_ret (Q0t rfl _ _ g4 4 47 _ _ rfl hD7 zS rfl rfl rfl) rfl ?_;exact HPM.out _ _ _ _ HAA.out (by rw [<- HAT.out]; exact AnsN.bare w7 w.heap.size 0 (at_+1)) rfl (HDN.out w7 hT7)
  rw [decide_eq_false hold];have HAA:=sH (show Q0T m x=(m,errA 180 s.moves.length) by rw [HAA1.out,if_pos (.inl hold)]);clear hold;go_wp2_with (refine Q00 (o:=⟨none,_,_,_,_,_⟩) rfl 47 (.tmp 4) (.tmp 61) rfl g4 0 (anC 180 none 0 0 (at_:Int) none 0 0) rfl rfl 47 _ K43.out (Q2k _ _ _ _ _ _ _ _) (by simp [anC]) (Q2C _ _ _ _ _ _ _ _) ?_; intro w7 hT7 hD7; rw [Q21 _ rfl] at hD7)
  refine bodyPost_ret (Q0t rfl _ _ g4 4 47 _ _ rfl hD7 zS rfl rfl rfl) rfl ?_;exact HPI.out _ _ _ HAA.out (by rw [<- HAT.out]; exact AnsN.bare _ _ 180 at_) rfl (hT7.below HB3.out hgw4)
 have hclb:(x.client != 34)=true:=by simpa using hcl
 have HAA:=sH (show Q0T m x=(m,errA 180 0) by rw [HA1.out,if_neg hk3,if_pos hcl]);clear hk3 hcl;go_wp2_with (refine Q00 (o:=⟨none,_,_,_,_,_⟩) rfl 47 (.tmp 4) (.tmp 43) rfl g4 0 (anC 180 none 0 0 0 none 0 0) rfl rfl 47 _ K42.out (Q2k _ _ _ _ _ _ _ _) (by simp [anC]) (Q2C _ _ _ _ _ _ _ _) ?_; intro w7 hT7 hD7; rw [Q21 _ rfl] at hD7)
 refine bodyPost_ret (Q0t rfl _ _ g4 4 47 _ _ rfl hD7 zS rfl rfl rfl) rfl ?_;exact HPI.out _ _ _ HAA.out (AnsN.bare _ _ 180 0) rfl (hT7.below HB2.out hgw4)
def lsQ (m:AM) (j st:Nat) (a:Ans):AM:=⟨m.chunks,m.last.set j (st,a)⟩
theorem Q43 {m:AM} {j st:Nat} {a:Ans} (hl:m.last.length=4) (hj:j<4):Q0B (lsQ m j st a) j=(st,a):=by unfold Q0B lsQ;rw [zJ];simp only [zN];rw [if_pos trivial,if_pos (by omega)];rfl
theorem Q2I {m:AM} {j st i:Nat} {a:Ans} (hi:i≠j):Q0B (lsQ m j st a) i=Q0B m i:=by unfold Q0B lsQ;rw [zJ,zJ];simp only [zN];rw [if_neg (fun e=>hi e.symm)]
def lsS (S:ASl) (j:Nat) (A:Option zA) (k:Nat):ASl:={ S with lA:=upd S.lA j A,lC:=upd S.lC j k }
def lsC (st:Nat) (a:Ans) (A:Option zA) (k:Nat):Array zC:=#[.int .i64 (st:Int),.int .i64 (a.err:Int),.slice none 0 0,.int .i64 (a.epoch:Int),.slice A a.nodes.length k]
theorem aCs_ls (t:Option zA) (gc:Nat) (m:AM) (S:ASl) (j st:Nat) (a:Ans) (A:Option zA) (k:Nat) (hl:m.last.length=4) (hj:j<4):spl (aCs t gc m S) (2+j*5) (lsC st a A k).toList=aCs t gc (lsQ m j st a) (lsS S j A k):=by
 have hle:2+j*5+(lsC st a A k).toList.length<=(aCs t gc m S).size:=by rw [Q2Y]; show 2+j*5+5<=22; omega
 apply Array.ext_getElem?
 intro q;rw [Q57 hle];have hls:(lsC st a A k).toList.length=5:=rfl;rw [hls];rcases Nat.lt_or_ge q 22 with hq | hq
 ·rw [Q1N t gc (lsQ m j st a) (lsS S j A k) q hq];by_cases hin:2+j*5<=q/\q<2+j*5+5
  ·rw [if_pos hin];unfold aF;rw [if_neg (by omega),if_neg (by omega),show (q - 2) / 5=j by omega];have e:Q2K (lsS S j A k) (lsQ m j st a) j=lsC st a A k:=by
    unfold Q2K;rw [Q43 hl hj];show #[_,_,_,_,zP (upd S.lA j A j) _ (upd S.lC j k j)]=_;rw [Q0W,Q0W];rfl
   rw [e,show (q - 2) % 5=q - (2+j*5) by omega,zM];have hz:q - (2+j*5)<(lsC st a A k).size:=by show _<5; omega
   rw [Array.getElem?_eq_getElem hz];simp [Array.getD,hz]
  rw [if_neg hin,Q1N _ _ _ _ _ hq];unfold aF;split
  ·rfl
  split
  ·rfl
  have hne:(q - 2) / 5≠j:=by omega
  have e:Q2K (lsS S j A k) (lsQ m j st a) ((q - 2) / 5)=Q2K S m ((q - 2) / 5):=by unfold Q2K;rw [Q2I hne];show #[_,_,_,_,zP (upd S.lA j A _) _ (upd S.lC j k _)]=_;rw [Q0X _ _ _ hne,Q0X _ _ _ hne]
  rw [e]
 rw [if_neg (by omega),Array.getElem?_eq_none (by rw [Q2Y]; exact hq),Array.getElem?_eq_none (by rw [Q2Y]; exact hq)]
theorem ADat.lasted {w w':zB} {g gc j st B0:Nat} {t:Option zA} {N:Nat->Prop} {m:AM} {S:ASl} {a:Ans} {A:Option zA} {k:Nat} (h:ADat w g gc t N m S) (hj:j<4) (hg:g≠gc) (hT:Q0b g w w')
 (hb:Blk w' g 105 (spl (aCs t gc m S) (2+j*5) (lsC st a A k).toList)) (hn:OwnN w B0 (.slice A a.nodes.length k) a.nodes) (hB0:∀ b,N b->b<B0) (hok:AOk (lsQ m j st a)):ADat w' g gc t N (lsQ m j st a) (lsS S j A k):=by
 have ho:Only (fun b=>b=g) w w':=Only.of_turned hT rfl;rw [aCs_ls _ _ _ _ _ _ _ _ _ h.ok.last hj] at hb;refine h.head ho hg hb rfl hok rfl fun i hi=>?_
 by_cases e:i=j
 ·subst e;rw [Q43 h.ok.last hi];show FarN w' _ (upd S.lA i A i) (upd S.lC i k i) _;rw [Q0W,Q0W];have hn':OwnN w' B0 (.slice A a.nodes.length k) a.nodes:=hn.keep_ fun b hb'=>hT.block b (fun e=>Q05 hn h.blk (by decide) (by rw [hb',e]))
  obtain⟨A',c',e,q1,q2,q3,q4⟩:=Q0i hn';injection e with e1 _ e2
  subst e1 e2;refine⟨q3,⟨q1,q2⟩,fun ad h0 ha hbad=>?_⟩;rcases hbad with hbad | hbad
  ·have:=hB0 _ hbad; have:=q4 ad ha; omega
  obtain⟨i',a',hi',ha',hbb⟩:=hbad;rcases(h.mv i' _ (zD hi')).2 with⟨e1,_⟩ | ⟨g',cap',cur',e1,_,e3,_⟩
  ·injection e1 with e1; rw [ha'] at e1; cases e1
  injection e1 with e1
  rw [ha'] at e1;injection e1 with e1
  subst e1;have hB:Blk w g' 175 cur':=e3;exact Q9F hn hB (by decide) ad ha hbb.symm
 rw [Q2I e];show FarN w' _ (upd S.lA j A i) (upd S.lC j k i) _;rw [Q0X _ _ _ e,Q0X _ _ _ e];exact(h.nodes i hi).only ho (fun b e=>.inl (e▸h.gN.1))
theorem leafQ_ls {m:AM} {j st i:Nat} {a:Ans} (h:i≠2+j):Q1v (lsQ m j st a) i=Q1v m i:=by
 unfold Q1v Q5H;split
 ·rfl
 rw [Q2I (by omega)]
theorem Qda {m:AM} {j st:Nat} {a:Ans} (hj:j<4):(Q0g m).set (2+j) (Q1v (lsQ m j st a) (2+j))=Q0g (lsQ m j st a):=by
 apply List.ext_getElem?
 intro i;rw [zN,Q0z];rcases Nat.lt_or_ge i 6 with hi | hi
 ·rw [Q1T _ i hi];by_cases e:2+j=i
  ·subst e; rw [if_pos rfl,if_pos hi,Q1T _ _ hi]
  rw [if_neg e,Q1T _ i hi,leafQ_ls (fun q=>e q.symm)]
 rw [if_neg (by omega),zG (by rw [Q0z]; exact hi),zG (by rw [Q0z]; exact hi)]
theorem didQ_new {m:AM} {x:Wish} {j:Nat} (hj:j=(x.client - 31).toNat) (h:((Q0B m j).1:Int)<x.stamp) (hx:inQ x=true) (hm:AOk m):didQ m x=lsQ (Q0T m x).1 j x.stamp.toNat (Q0T m x).2:=by unfold didQ;rw [<- hj,if_pos h];rfl
def ADoPost (w:zB) (V:ALoc) (N:Nat->Prop) (L:LL) (asked:Nat) (p:AM×Ans×Nat) (r:Ending) (w':zB):Prop :=∃ D,r=.returned (.tuple #[.agg D,.int .i64 (p.2.2:Int)])/\D.size=4/\AnsN w' w.heap.size D p.2.1/\Q1A w w' V N p.1 L asked 6
def Qcp (w:zB) (V:ALoc) (N:Nat->Prop) (L:LL) (asked:Nat) (p:AM×Ans×Nat) (r:Ending) (w':zB):Prop :=∃ D q,r=.returned (.tuple #[.agg D,.int .i64 (p.2.2:Int)])/\D.size=4/\w.heap.size<=q/\AnsN w' q D p.2.1/\Q1A w w' V (fun b=>N b\/(q<=b/\b<w'.heap.size)) p.1 L asked 6
structure DoMid (w:zB) (V:ALoc) (N:Nat->Prop) (m':AM) (L:LL) (asked g3 g4:Nat) (wc:Array zC) (W:zB):Prop where
 done:Q1A w W V (fun b=>N b\/b=g3\/b=g4) m' L asked 6
 k3:Blk W g3 44 wc
 k4:Blk W g4 47 (anC 0 none 0 0 0 none 0 0)
 size:w.heap.size<=W.heap.size
theorem AAt.later {w W:zB} {V:ALoc} {N:Nat->Prop} {m:AM} (h:AAt w V N m) (hb:zE w.heap.size w W):AAt W V (fun b=>N b\/(w.heap.size<=b/\b<W.heap.size)) m :=(h.mono (N':=fun b=>N b\/(w.heap.size<=b/\b<W.heap.size)) (fun b hb' hn=>hn.elim id (fun e=>by omega)) (fun b hv=>.inl (h.all b hv))).below hb
theorem Q1A.fold {w W W':zB} {V:ALoc} {N:Nat->Prop} {m:AM} {L:LL} {asked q:Nat} (hN:∀ b,N b->b<w.heap.size) (hall:∀ b,V.all b->N b) (hT:∀ b,V.T.mut b->V.T.has b) (hb:zE w.heap.size w W) (h:Q1A W W' V (fun b=>N b\/(w.heap.size<=b/\b<W.heap.size)) m L asked q) :
 Q1A w W' V N m L asked q/\(∀ b,w.heap.size<=b->b<W.heap.size->W'.heap[b]?=W.heap[b]?)/\∀ b,N b->¬ V.all b->b<W.heap.size->W'.heap[b]?=W.heap[b]?:=by
 have hva:∀ b,V.has b->V.all b:=fun b hb=>by
  rcases hb with e | e | e | e
  ·exact .inl e
  ·exact .inr (.inl e)
  ·exact .inr (.inr (.inr (hT b e)))
  exact .inr (.inr (.inl e))
 have hv:∀ b,V.has b->N b:=fun b hb=>hall b (hva b hb)
 refine⟨⟨h.vat.mono (fun b _ hn=>.inl hn) hall,h.book,(Only.of_below hb).trans (h.only.mono fun b _ e=>?_)⟩,fun b h1 h2=>h.only.block b h2 fun e=>?_,fun b h1 h3 h2=>h.only.block b h2 fun e=>?_⟩
 ·rcases e with e | e
  ·exact .inl e
  exact .inr (fun hn=>e (.inl hn))
 ·rcases e with e | e
  ·have:=hN b (hv b e); omega
  exact e (.inr ⟨h1,h2⟩)
 rcases e with e | e
 ·exact h3 (hva b e)
 exact e (.inl h1)
theorem Q1A.kept {w W W7:zB} {V:ALoc} {N:Nat->Prop} {m:AM} {L:LL} {asked q:Nat} (h:Q1A w W V N m L asked q) (hT:Q0b V.g W W7) :
 Q2e W7 V.T V.k (Q0g m)/\∃ L' a',Q0y W7 V.k L' a'/\a'<=asked+q/\(∀ x,x∈L->x∈L')/\Q20 L' (Q0g m):=by
 have ho:Only (fun b=>b=V.g) W W7:=Only.of_turned hT rfl;have hf:=h.vat.far;obtain⟨L',a',h1,h2,h3,h4⟩:=h.book;exact⟨h.vat.tree.only ho (fun b hb e=>hf.2.1 (e▸hb)),L',a',h1.only ho (fun e=>hf.2.2.2.1 (.inl e.symm)) (fun e=>hf.2.2.2.1 (.inr (.inl e.symm))) (fun e=>hf.2.2.2.1 (.inr (.inr e.symm))),h2,h3,h4⟩
theorem Q1A.set_last {w W W7 W8:zB} {V:ALoc} {N:Nat->Prop} {m m':AM} {S':ASl} {L L':LL} {asked a' q q':Nat} (h:Q1A w W V N m L asked q) (hT:Q0b V.g W W7) (hd:ADat W7 V.g V.gc (some ⟨V.T.t,0,none⟩) N m' S') (h2:a'<=asked+q) (h3:∀ x,x∈L->x∈L') (h4:Q20 L' (Q0g m))
 (hsb:SetBy W7 W8 V.T V.k (Q0g m) (Q0g m') L' a' q'):Q1A w W8 V N m' L asked (q+q'):=by
 have hf:=h.vat.far;have hall:=h.vat.all;obtain⟨L2,a2,p1,p2,p3,p4⟩:=hsb.book;have hm:∀ b,(V.T.mut b\/V.k.has b)->V.all b:=fun b hb=>by
  rcases hb with e | e
  ·exact .inr (.inr (.inr (.inr (.inr e))))
  exact .inr (.inr (.inl e))
 refine⟨⟨⟨S',hd.only hsb.only (fun b hb=>hall b (hm b hb)) (fun e=>?_) (fun e=>?_)⟩,hsb.tree,hf,hall⟩,⟨L2,a2,p1,by omega,fun x hx=>p3 x (h3 x hx),p4 L' (fun _ h=>h) h4⟩,(h.only.trans (Only.of_turned hT (.inl (.inl rfl)))).trans (hsb.only.mono fun b _ e=>?_)⟩
 ·rcases e with e | e
  ·exact hf.2.1 (.inr (.inr e))
  exact hf.2.2.2.1 e
 ·rcases e with e | e
  ·exact hf.2.2.1 (.inr (.inr e))
  exact hf.2.2.2.2 e
 rcases e with e | e
 ·exact .inl (.inr (.inr (.inl e)))
 exact .inl (.inr (.inr (.inr e)))
structure DoSt (wd:zB) (V:ALoc) (N:Nat->Prop) (m':AM) (L:LL) (asked g3 g4:Nat) (W0:Array zC) (s:Nat) (W:zB):Prop where
 k3:Blk W g3 44 W0
 k4:Blk W g4 47 (anC 0 none 0 0 0 none 0 0)
 size:wd.heap.size<=W.heap.size
 zero:s=0->zE wd.heap.size wd W
 one:s=1->Q1A wd W V N m' L asked 3
theorem DoSt.below {wd W W':zB} {V:ALoc} {N:Nat->Prop} {m':AM} {L:LL} {asked g3 g4:Nat} {W0:Array zC} {s:Nat} (h:DoSt wd V N m' L asked g3 g4 W0 s W) (hb:zE W.heap.size W W'):DoSt wd V N m' L asked g3 g4 W0 s W' :=⟨h.k3.below' hb,h.k4.below' hb,zF h.size hb.size,fun e=>(h.zero e).trans (hb.mono h.size),fun e=>(h.one e).after hb⟩
theorem Q1A.side2 {w w1 w2:zB} {V:ALoc} {Nb N':Nat->Prop} {m:AM} {L:LL} {asked q g4:Nat} (hall:∀ b,V.all b->N' b) (hne:∀ b,V.all b->b≠g4) (hg:w.heap.size<=g4) (hN4:Nb g4) (hsub:∀ b,b<w1.heap.size->N' b->Nb b) (h:Q1A w w1 V Nb m L asked q) (hT:Q0b g4 w1 w2):Q1A w w2 V N' m L asked q:=by
 obtain⟨S,hd⟩:=h.vat.dat;obtain⟨L',a',h1,h2,h3,h4⟩:=h.book;have ht4:Only (fun b=>b=g4) w1 w2:=Only.of_turned hT rfl;have hs:=hT.size;exact⟨⟨⟨S,(hd.only ht4 (fun b e=>e▸hN4) (fun e=>hne _ (.inl rfl) e) (fun e=>hne _ (.inr (.inl rfl)) e)).mono (fun b hb hn=>hsub b (by omega) hn) ⟨hall _ (.inl rfl),hall _ (.inr (.inl rfl))⟩⟩,h.vat.tree.only ht4 (fun b hb e=>hne b (.inr (.inr (.inr hb))) e),h.vat.far,hall⟩,⟨L',a',h1.only ht4 (fun e=>hne _ (.inr (.inr (.inl (.inl rfl)))) e) (fun e=>hne _ (.inr (.inr (.inl (.inr (.inl rfl))))) e) (fun e=>hne _ (.inr (.inr (.inl (.inr (.inr rfl))))) e),h2,h3,h4⟩,⟨ht4.os.trans h.only.os,ht4.tape.trans h.only.tape,ht4.output.trans h.only.output,zF h.only.size ht4.size,fun b hb hn=>(ht4.block b (by have:=h.only.size; omega) (fun e=>by omega)).trans (h.only.block b hb (fun e=>hn (by
  rcases e with e | e
  ·exact .inl e
  exact .inr (fun q=>e (hsub b (by have:=h.only.size; omega) q)))))⟩⟩
theorem Q1A.later {w w1 w2:zB} {V:ALoc} {N:Nat->Prop} {m:AM} {L:LL} {asked q:Nat} (h:Q1A w w1 V N m L asked q) (hb:zE w1.heap.size w1 w2):Q1A w w2 V (fun b=>N b\/(w1.heap.size<=b/\b<w2.heap.size)) m L asked q:=by
 obtain⟨L',a',h1,h2,h3,h4⟩:=h.book;refine⟨h.vat.later hb,⟨L',a',h1.below hb,h2,h3,h4⟩,(h.only.mono fun b hb' e=>?_).trans (Only.of_below hb)⟩;rcases e with e | e
 ·exact .inl e
 exact .inr (fun hn=>hn.elim e (fun q=>by have:=h.only.size; omega))
theorem AnsN.keepN {w w':zB} {B:Nat} {D:Array zC} {x:Ans} (h:AnsN w B D x) (hk:∀ b,B<=b->b<w.heap.size->w'.heap[b]?=w.heap[b]?):AnsN w' B D x:=by obtain⟨A,c,h1,h2⟩:=h;exact⟨A,c,h1,h2.keep_ fun b hb=>hk b (h2.ge_ hb) (Q07 h2 hb).2⟩
def lsV (z:Int) (a:Ans) (A:Option zA) (k:Nat):Array zC:=#[.int .i64 z,.int .i64 (a.err:Int),.slice none 0 0,.int .i64 (a.epoch:Int),.slice A a.nodes.length k]
theorem lsV_one (z:Int) (a:Ans) (A:Option zA) (k:Nat):(lsV z a A k).all (·.oneCell')=true:=by simp [lsV,Value.oneCell']
theorem aDo2_any (w:zB) (V:ALoc) (N:Nat->Prop) (m:AM) (L:LL) (asked:Nat) (h:AAt w V N m) (hN:∀ b,N b->b<w.heap.size) (hbk:Q0y w V.k L asked) (hin:Q20 L (Q0g m)) (has:asked<=700000)
 (x:Wish) (A:Option zA) (n c:Nat) (A':Option zA) (n' c':Nat) (B:Nat) (hx:Q2g w B x A n c A' n' c') (hB:B<=w.heap.size) :
 Calls Tryz.prog 43 #[.pointer (some ⟨V.g,0,none⟩),.agg (Q06 x A n c A' n' c')] w (Qcp w V N L asked (doQ m x)):=by
 obtain⟨S,hd⟩:=h.dat;have hlt:=hd.lt;have hX:zE w.heap.size w ((w.alloc (.cells (Q06 x A n c A' n' c') 44)).alloc (.cells (anC 0 none 0 0 0 none 0 0) 47)):=((zI _ _).alloc (zH _) _).alloc (by simp) _;have k3:Blk ((w.alloc (.cells (Q06 x A n c A' n' c') 44)).alloc (.cells (anC 0 none 0 0 0 none 0 0) 47)) w.heap.size 44 (Q06 x A n c A' n' c'):=(Blk.newAt rfl).alloc _;have k4:Blk ((w.alloc (.cells (Q06 x A n c A' n' c') 44)).alloc (.cells (anC 0 none 0 0 0 none 0 0) 47)) (w.heap.size+1) 47 (anC 0 none 0 0 0 none 0 0):=Blk.newAt (by simp);have hz1:((w.alloc (.cells (Q06 x A n c A' n' c') 44)).alloc (.cells (anC 0 none 0 0 0 none 0 0) 47)).heap.size=w.heap.size+2:=by simp
 have HV:=sH h;have HNL:=sH hN;have HBK:=sH hbk;have HIN:=sH hin;have HD0:=sH hd;have HX:=sH hX;have K3:=sH k3;have K4:=sH k4;have HZ1:=sH hz1;have HCK:=sH (fun(W:zB) (hb:zE w.heap.size w W)=>Q5Q x A n c A' n' c' W B (hx.below (hb.mono hB)) (by have:=hb.size; omega));have HNO:=sH (fun(W:zB) (hb:zE w.heap.size w W)=>Q3a W V.g V.T.t (((hd.below hb).blk.cell 0).trans (Q1N _ _ _ _ 0 (by omega))));have HQE:=sH (show inQ x=(mayB x && decide (x.kind=3\/x.kind=4)) from rfl);obtain⟨P,hP⟩:∃ P,P=Qcp w V N L asked (doQ m x):=⟨_,rfl⟩;rw [<- hP];have HPB:=sH (show ∀ w',inQ x=false->zE w.heap.size w w'->P (.returned (.tuple #[.agg (anC 0 none 0 0 0 none 0 0),.int .i64 2])) w' from fun w' hq hb=>by rw [hP];unfold doQ;rw [if_neg (by rw [hq]; simp)];exact⟨_,w'.heap.size,rfl,rfl,hb.size,AnsN.bare _ _ 0 0,⟨(h.below hb).later (zI _ _),⟨L,asked,hbk.below hb,by omega,fun _ h=>h,hin⟩,Only.of_below hb⟩⟩)
 have HPG:=sH (show ∀ w' D q,inQ x=true->D.size=4->w.heap.size<=q->AnsN w' q D (oldQ (didQ m x) x).1->Q1A w w' V (fun b=>N b\/(q<=b/\b<w'.heap.size)) (didQ m x) L asked 6->P (.returned (.tuple #[.agg D,.int .i64 0])) w' from fun w' D q hq hs hwq ha hdn=>by rw [hP];unfold doQ;rw [if_pos hq];exact⟨D,q,rfl,hs,hwq,ha,hdn⟩)
 obtain⟨g3,hg3⟩:∃ b,b=w.heap.size:=⟨_,rfl⟩;obtain⟨g4,hg4⟩:∃ b,b=w.heap.size+1:=⟨_,rfl⟩;have hl1:=hlt.1;have hl2:=hlt.2;obtain⟨W0,hW0⟩:∃ W0,W0=Q06 x A n c A' n' c':=⟨_,rfl⟩;have hws:W0.size=10:=by rw [hW0]; simp [Q06]
 have hw4:W0[4]?=some (.int .i64 x.kind):=by rw [hW0]; rfl
 have hw0:W0[0]?=some (.int .i64 x.client):=by rw [hW0]; rfl
 have hw1':W0[1]?=some (.int .i64 x.stamp):=by rw [hW0]; rfl
 have HW0:=sH hW0;rw [<- hW0] at HX K3 K4 HZ1 HCK ⊢;have HW4:=sH hw4;have HW00:=sH hw0;have HW1:=sH hw1';clear h hN hbk hin hd hX k3 k4 hz1 hP hx hlt hW0 hw4 hw0 hw1';go_enter Tryz.func43,Tryz.ntmps43
 go_upto_region 1 with fail
 rw [<- anZ];generalize World.alloc (World.alloc w _) _=w1 at HX K3 K4 HZ1 ⊢;rw [<- hg4] at K4 ⊢;rw [<- hg3] at K3 ⊢;have hz1:=HZ1.out;have hgw3:w.heap.size<=g3:=by omega
 have hgw4:w.heap.size<=g4:=by omega
 have hg34:g3≠g4:=by omega
 have hw1:w.heap.size<=w1.heap.size:=by omega
 have hl3:=K3.out.lt;have hl4:=K4.out.lt;clear hg3 hg4 HZ1 hz1;go_wp2_with fail
 refine(HNO.out w1 HX.out).mono ?_;rintro _ _ ⟨rfl,rfl⟩;obtain⟨qb,hqb⟩:∃ b,b=inQ x:=⟨_,rfl⟩;have HQB:=sH hqb;clear hqb;go_upto_region 3 with fail
 go_cut [13] (fun s13 wx=>s13=.bool (!qb)/\zE w.heap.size w wx/\Blk wx g3 44 W0/\Blk wx g4 47 (anC 0 none 0 0 0 none 0 0))
 case first =>
  go_wp2_with (refine Q01 (o:=⟨some 14,_,_,_,_,_⟩) rfl 44 (.tmp 3) rfl g3 0 10 rfl 44 _ W0 _ K3.out zT rfl rfl hws (fun _ _=>by rw [zL]; try rfl) ?_)
  refine(HCK.out w1 HX.out).mono ?_;rintro _ w2 ⟨rfl,hb2⟩;have HB2:=sH (HX.out.trans (hb2.mono hw1));have K32:=sH (K3.out.below' hb2);have K42:=sH (K4.out.below' hb2);have e4:w2.cell? ⟨g3,4,none⟩=some (.int .i64 x.kind):=(K32.out.cell 4).trans HW4.out;clear hb2 K3 K4 HX HCK HNO;by_cases hmb:mayB x=true
  ·rw [if_pos hmb];by_cases hk3:x.kind=3
   ·have hq:qb=true:=by rw [HQB.out,HQE.out,hmb,decide_eq_true (.inl hk3)]; rfl
    have hk3b:(x.kind != 3)=false:=by simp [hk3]
    subst hq;clear hmb hk3;go_wp2_with fail
    go_meet
    exact⟨rfl,HB2.out,K32.out,K42.out⟩
   have hk3b:(x.kind != 3)=true:=by simpa using hk3
   by_cases hk4:x.kind=4
   ·have hq:qb=true:=by rw [HQB.out,HQE.out,hmb,decide_eq_true (.inr hk4)]; rfl
    have hk4b:(x.kind != 4)=false:=by simp [hk4]
    subst hq;clear hmb hk3 hk4;go_wp2_with fail
    go_meet
    exact⟨rfl,HB2.out,K32.out,K42.out⟩
   have hq:qb=false:=by rw [HQB.out,HQE.out,hmb,decide_eq_false (by omega)]; rfl
   have hk4b:(x.kind != 4)=true:=by simpa using hk4
   subst hq;clear hmb hk3 hk4;go_wp2_with fail
   go_meet
   exact⟨rfl,HB2.out,K32.out,K42.out⟩
  rw [if_neg hmb];have hq:qb=false:=by
   rw [HQB.out,HQE.out];cases hmq:mayB x with
   | true=>exact absurd hmq hmb
   | false=>rfl
  subst hq;clear hmb;go_wp2_with fail
  go_meet
  exact⟨rfl,HB2.out,K32.out,K42.out⟩
 obtain⟨rfl,hb2,hk32,hk42⟩:=hcut;have HB2:=sH hb2;have K32:=sH hk32;have K42:=sH hk42;have hs2:=hb2.size;have hl32:=hk32.lt;have hl42:=hk42.lt;clear hb2 hk32 hk42 K3 K4 HX HCK HNO;cases qb with
 | false =>
  go_wp2_with (refine Q00 (o:=⟨none,_,_,_,_,_⟩) rfl 47 (.tmp 4) (.tmp 27) rfl g4 0 (anC 0 none 0 0 0 none 0 0) rfl rfl 47 _ K42.out (Q2k _ _ _ _ _ _ _ _) (by simp [anC]) (Q2C _ _ _ _ _ _ _ _) ?_; intro w7 hT7 hD7; rw [Q21 _ rfl] at hD7)
  refine bodyPost_ret (Q09 rfl _ _ g4 4 47 _ _ rfl hD7 zS rfl rfl rfl) rfl ?_;exact HPB.out w7 HQB.out.symm (hT7.below HB2.out hgw4)
 | true =>
  have hq:inQ x=true:=HQB.out.symm;have HQ:=sH hq;obtain⟨cl1,cl2,st1,_⟩:=Q6S hq;obtain⟨j,hj⟩:∃ j,j=(x.client - 31).toNat:=⟨_,rfl⟩;have hjc:x.client - 31=(j:Int):=by omega
  have hj4:j<4:=by omega
  have hjI:(j:Int)<4:=by omega
  have HJ:=sH hj;have e0:wc.cell? ⟨g3,0,none⟩=some (.int .i64 x.client):=(K32.out.cell 0).trans HW00.out;have e1:wc.cell? ⟨g3,1,none⟩=some (.int .i64 x.stamp):=(K32.out.cell 1).trans HW1.out;obtain⟨st,hst⟩:∃ k,k=(Q0B m j).1:=⟨_,rfl⟩;have cst:wc.cell? ⟨V.g,2+j*5,none⟩=some (.int .i64 (st:Int)):=by rw [hst];exact((HD0.out.below HB2.out).blk.cell _).trans (Q9N _ _ m S j 0 hj4 (by omega))
  have HST:=sH hst;clear hq hj hst;go_upto_region 6 with fail
  go_quiet (fail)
  have hbd:=Q0v (zI wc.heap.size wc) nq;have k3d:=K32.out.drewN nq;have k4d:=K42.out.drewN nq;have HBD:=sH (HB2.out.trans (hbd.mono hs2));generalize wc.drewN nq=wd at HBD k3d k4d hbd ⊢;have K3D:=sH k3d;have K4D:=sH k4d;have hsd:=hbd.size;have HV4:=sH (HV.out.mono (N':=fun b=>N b\/b=g3\/b=g4) (fun b hb hn=>hn.elim id (fun e=>by omega)) (fun b hv=>.inl (HV.out.all b hv)));clear hbd k3d k4d e0 e1 cst K32 K42
  go_upto_if 40 with(fail)
  go_cut [6] (fun s6 wx=>s6=.int .i64 (j:Int)/\DoMid w V N (didQ m x) L asked g3 g4 W0 wx)
  case first =>
   by_cases hnew:(st:Int)<x.stamp
   ·rw [decide_eq_true hnew];obtain⟨sn,hsn⟩:∃ k:Nat,k=x.stamp.toNat:=⟨_,rfl⟩;have hsx:x.stamp=(sn:Int):=by omega
    have HSN:=sH (show W0[1]?=some (.int .i64 (sn:Int)) by rw [HW1.out,hsx]);have HDID:=sH (show didQ m x=lsQ (Q0T m x).1 j sn (Q0T m x).2 by rw [hsn]; exact didQ_new HJ.out (by rw [<- HST.out]; exact hnew) HQ.out HD0.out.ok);have HOK:=sH (HD0.out.ok.did HQ.out);have hN4:∀ b,(N b\/b=g3\/b=g4)->b<wd.heap.size:=fun b hb=>by
     rcases hb with hb | hb
     ·have:=HNL.out b hb; omega
     omega
    have HN4:=sH hN4;have HBW:=sH HBD.out;have HANS:=sH (fun(W:zB) (hb:zE wd.heap.size wd W)=>Qbi W V _ m L asked ((HV4.out.below HBD.out).later hb) (fun b hb'=>hb'.elim (fun e=>by have:=HN4.out b e; have:=hb.size; omega) (fun e=>e.2)) ((HBK.out.below HBD.out).below (hb.mono (by have:=HBK.out.lt; have:=HBD.out.size; omega))) HIN.out (by omega) x A n c A' n' c' HQ.out);rw [<- HW0.out] at HANS;obtain⟨q1,hq1⟩:∃ q,q=(Q0T m x).1:=⟨_,rfl⟩;obtain⟨an,han⟩:∃ q,q=(Q0T m x).2:=⟨_,rfl⟩;rw [<- hq1,<- han] at HDID;have HQ1:=sH hq1;have HAN:=sH han;clear hsn hsx hnew hN4 hq1 han;go_upto_region 7 with fail
    refine Q1I 11 63 (fun jx W v=>match jx with | 0=>v=.pointer (some ⟨V.g,0,none⟩) | 1=>v=.int .i64 (j:Int) | 2=>v=.pointer (some ⟨g3,1,none⟩) | 3=>v=.int .i64 (sn:Int) | 4=>v=.pointer (some ⟨V.g,0,none⟩) | 5=>v=.agg W0 | 6=>∃ A9 c9,v=.agg (anC an.err none 0 0 an.epoch A9 an.nodes.length c9)/\OwnN W wd.heap.size (.slice A9 an.nodes.length c9) an.nodes | 7=>∃ A9 c9,v=.agg (lsV (sn:Int) an A9 c9)/\OwnN W wd.heap.size (.slice A9 an.nodes.length c9) an.nodes | 8=>v=.pointer (some ⟨V.g,0,none⟩) | 9=>v=.pointer (some ⟨V.g,2,none⟩) | _=>v=.pointer (some ⟨V.g,2+j*5,none⟩)) (DoSt wd V (fun b=>N b\/b=g3\/b=g4) q1 L asked g3 g4 W0) (fun W W'=>∀ b,wd.heap.size<=b->b<W.heap.size->W'.heap[b]?=W.heap[b]?) [6] [41,42,43,44,45,46,47,48,49,50,51] (by kernel_rfl) (by kernel_rfl) (by kernel_rfl) (by kernel_rfl) (by first | rfl | simp) (by kernel_rfl) (fun jx=>?last) ?lastR (fun s W W' h1 h2=>h1.below h2) ⟨K3D.out,K4D.out,zH _,fun _=>zI _ _,fun e=>by omega⟩ ?heads ?_
    case last =>
     match jx with
     | 0 | 1 | 2 | 3 | 4 | 5 | 8 | 9 | jx+10=>exact Q15.pure _
     | 6 | 7=>exact fun W W' u ⟨A9,c9,h1,h2⟩ hb=>⟨A9,c9,h1,h2.below_ hb⟩
    case lastR =>
     intro s jx W W' u hsl hs hj hp hR;match jx with
     | 0 | 1 | 2 | 3 | 4 | 5 | 8 | 9 | jx+10=>exact hp
     | 6 | 7 =>obtain⟨A9,c9,h1,h2⟩:=hp;exact⟨A9,c9,h1,h2.keep_ fun b hb=>hR b (h2.ge_ hb) (Q07 h2 hb).2⟩
    case heads =>
     simp only [tT];and_intros;rotate_right;trivial
     all_goals try(rw [if_neg (by decide)];intro s a W hj hkp hd)
     ·have e0:(_:zC)=.pointer (some ⟨V.g,0,none⟩):=sK hkp 0;exact sV
     ·have e0:(_:zC)=.int .i64 (j:Int):=sK hkp 6;exact sV
     ·have e0:(_:zC)=.pointer (some ⟨g3,0,none⟩):=sK hkp 3;exact sV
     ·have e0:=sJ (hd 2) 43;have cc:W.cell? ⟨g3,1,none⟩=some (.int .i64 (sn:Int)):=(hj.k3.cell 1).trans HSN.out;exact sV
     ·have e0:(_:zC)=.pointer (some ⟨V.g,0,none⟩):=sK hkp 0;exact sV
     ·have e0:a.eval (.tmp 3)=.pointer (some ⟨g3,0,none⟩):=by have:=hkp.at_ (d:=3) (by kernel_rfl); rw [this]; rfl
      exact Q0j rfl (.agg W0) (Q0p 44 (.tmp 3) rfl g3 0 10 e0 44 _ W0 _ hj.k3 zT rfl rfl hws (fun _ _=>by rw [zL])) rfl
     ·rw [if_pos (by decide)];intro s a W hs hj hkp hd;have h0:s=0:=by
       match s,hs with
       | 0,_=>rfl
       | s+1,hs=>simp at hs
      have hbW:=hj.zero h0;have e0:=sJ (hd 4) 45;have e1:=sJ (hd 5) 46;refine Q4q rfl 98 #[.pointer (some ⟨V.g,0,none⟩),.agg W0] (by go_simp) ((HANS.out W hbW).mono ?_);rintro e w' ⟨D,rfl,⟨A9,c9,hD,ho⟩,_,hdn⟩;have hf:=Q1A.fold HN4.out HV4.out.all (fun b hb=>.inr (.inr hb)) hbW hdn;have hsW:=hbW.size;refine⟨_,rfl,fun b h1 h2=>hf.2.1 b h1 h2,⟨?_,?_,?_,fun e=>by omega,fun _=>?_⟩,A9,c9,by rw [HAN.out,hD],?_⟩
      ·exact(hf.2.2 g3 (.inr (.inl rfl)) (fun e=>by have:=HNL.out _ (HV.out.all _ e); omega) hj.k3.lt).trans hj.k3
      ·exact(hf.2.2 g4 (.inr (.inr rfl)) (fun e=>by have:=HNL.out _ (HV.out.all _ e); omega) hj.k4.lt).trans hj.k4
      ·exact zF hsW hdn.only.size
      ·rw [HQ1.out]; exact hf.1
      rw [HAN.out]; exact ho.more hsW
     ·have e0:=sJ (hd 3) 44;obtain⟨A9,c9,e1,ho⟩:=(sG (hd 6) 47:);exact Q0j rfl (.agg (lsV (sn:Int) an A9 c9)) (by simp only [anC] at e1; go_simp; try rfl) ⟨A9,c9,rfl,ho⟩
     ·have e0:=sJ (hd 0) 41;exact sV
     ·have e0:=sJ (hd 8) 49;exact sV
     have e0:=sJ (hd 9) 50;have e1:=sJ (hd 1) 42;exact sV
    intro f W hj hd;have h51:f 51=.pointer (some ⟨V.g,2+j*5,none⟩):=hd 10 (by omega) _ 51 rfl rfl;obtain⟨A9,c9,h48,ho⟩:=hd 7 (by omega) _ 48 rfl rfl;have hdn:=hj.one rfl;obtain⟨S1,hd1⟩:=hdn.vat.dat;obtain⟨C,hC⟩:∃ C,C=lsV (sn:Int) an A9 c9:=⟨_,rfl⟩;have hcs:C.size=5:=by rw [hC]; rfl
    have hc1:C.all (·.oneCell')=true:=by rw [hC]; exact lsV_one _ _ _ _
    rw [<- hC] at h48;have HC:=sH hC;have HO:=sH ho;have HDN:=sH hdn;have HD1:=sH hd1;have K3W:=sH hj.k3;have K4W:=sH hj.k4;have hsW:=hj.size;simp only [Q0F,tU,h48,h51];clear hd hj ho hdn hd1 hC h48 h51 HANS HBD HV4 K3D K4D;try simp only [Act.put,sA]
    go_upto_region 8 with(refine Q00 (o:=⟨none,_,_,_,_,_⟩) rfl 102 (.tmp 51) (.tmp 48) rfl V.g (2+j*5) C rfl rfl 105 _ HD1.out.blk (by rw [hcs]; kernel_rfl) (by rw [hcs,Q2Y]; omega) hc1 ?_; intro w7 hT7 hD7)
    have hfar:=HDN.out.vat.far;obtain⟨hT,L',a',p1,p2,p3,p4⟩:=HDN.out.kept hT7;have hd7:=HD1.out.lasted hj4 hfar.1 hT7 (by rw [HC.out] at hD7; exact hD7) HO.out HN4.out (by rw [<- HDID.out]; exact HOK.out);have HST:=sH (Q9Q w7 V.g V.gc (2+j) V.T V.k _ _ _ (Q0g q1) L' a' hd7 (by omega) hT (Q0z _) p1 (by omega));rw [Qda hj4,show ((2+j:Nat):Int)=2+(j:Int) by omega] at HST;have hne:∀ g,w.heap.size<=g->g≠V.g:=fun g h e=>by have:=HNL.out _ (HV.out.all _ (.inl rfl)); omega
    have K37:=sH (hT7.blk K3W.out (hne g3 hgw3));have K47:=sH (hT7.blk K4W.out (hne g4 hgw4));have hs7:=hT7.size;have HSL:=sH (fun(w8:zB) (h:SetBy w7 w8 V.T V.k (Q0g q1) (Q0g (lsQ q1 j sn an)) L' a' 3)=>HDN.out.set_last hT7 hd7 p2 p3 p4 h);clear hfar hT p1 p2 p3 p4 hd7 hT7 hD7 HO HC;go_wp2_with fail
    refine HST.out.mono ?_;rintro _ w8 ⟨rfl,hsb⟩;have hkT:∀ b,(V.T.mut b\/V.k.has b)->b<w.heap.size:=fun b hb=>HNL.out b (HV.out.all b (by
     rcases hb with e | e
     ·exact .inr (.inr (.inr (.inr (.inr e))))
     exact .inr (.inr (.inl e))))
    have HM:=sH (show DoMid w V N (didQ m x) L asked g3 g4 W0 w8 from⟨by rw [HDID.out]; exact(HSL.out w8 hsb).under HBW.out,hsb.only.blk K37.out (fun e=>by have:=hkT g3 e; omega),hsb.only.blk K47.out (fun e=>by have:=hkT g4 e; omega),by have:=hsb.only.size; omega⟩);clear hsb hkT HST HSL;go_wp2_with fail
    go_meet
    exact⟨rfl,HM.out⟩
   rw [decide_eq_false hnew];have hdid:didQ m x=m:=by unfold didQ;rw [<- HJ.out,if_neg (by rw [<- HST.out]; exact hnew)]
   have HM:=sH (show DoMid w V N (didQ m x) L asked g3 g4 W0 wd from⟨by rw [hdid]; exact Q1A.idle HBD.out HV4.out HBK.out HIN.out,K3D.out,K4D.out,by omega⟩);clear hdid hnew;go_wp2_with fail
   go_meet
   exact⟨rfl,HM.out⟩
  obtain⟨rfl,hmid⟩:=hcut;have hmd:=hmid.done;obtain⟨S6,hd6⟩:=hmd.vat.dat;have HOL:=sH (aOld_any wc V.g V.gc _ _ _ S6 hd6 x A n c A' n' c' ⟨by omega,by omega⟩);rw [<- HW0.out] at HOL;have K36:=sH hmid.k3;have K46:=sH hmid.k4;have HMD:=sH hmd;have hs6:=hmid.size;obtain⟨oa,hoa⟩:∃ q,q=(oldQ (didQ m x) x).1:=⟨_,rfl⟩;obtain⟨ob,hob⟩:∃ q,q=(oldQ (didQ m x) x).2:=⟨_,rfl⟩;rw [<- hoa,<- hob] at HOL;rw [<- hoa] at HPG;have hl36:=hmid.k3.lt;have hl46:=hmid.k4.lt;clear hmid hmd hd6 K3D K4D hoa hob HBD HV4 HD0;go_wp2_with (refine Q01 (o:=⟨some 58,_,_,_,_,_⟩) rfl 44 (.tmp 3) rfl g3 0 10 rfl 44 _ W0 _ K36.out zT rfl rfl hws (fun _ _=>by rw [zL]; try rfl) ?_)
  refine HOL.out.mono ?_;rintro _ w5 ⟨D,rfl,ha5,hb5⟩;obtain⟨A5,c5,hD5,ho5⟩:=ha5;have hs5:=hb5.size;have hds:D.size=4:=by rw [hD5]; rfl
  have hd1:D.all (·.oneCell')=true:=by rw [hD5]; exact Q2C _ _ _ _ _ _ _ _
  have HA5:=sH (show AnsN w5 wc.heap.size D oa from⟨A5,c5,hD5,ho5⟩);have HB5:=sH hb5;have K45:=sH (K46.out.below' hb5);clear hD5 ho5 hb5 HOL;go_upto_region 10 with(refine Q00 (o:=⟨none,_,_,_,_,_⟩) rfl 47 (.tmp 7) (.tmp 60) rfl w5.heap.size 0 D rfl rfl 47 (anC 0 none 0 0 0 none 0 0) (Blk.newAt rfl) (by rw [hds]; kernel_rfl) (by rw [hds]; simp [anC]) hd1 ?_; intro w7 hT7 hD7)
  rw [Q0c _ _ (by rw [hds]; rfl)] at hD7;have hb57:zE w5.heap.size w5 w7:=hT7.below ((zI _ _).alloc (zH _) _) (zH _);have hb67:zE wc.heap.size wc w7:=HB5.out.trans (hb57.mono hs5);have hs7:=hb57.size;have K47:=sH (K45.out.below' hb57);have HA7:=sH (HA5.out.below hb57);have HM7:=sH (HMD.out.later hb67);obtain⟨g7,hg7⟩:∃ b,b=w5.heap.size:=⟨_,rfl⟩;rw [<- hg7] at hD7 ⊢;have K77:=sH hD7;clear hT7 hD7 hb57 hb67 hg7 HB5 HA5 HMD;go_wp2_with (first | refine Q01 (o:=⟨some 62,_,_,_,_,_⟩) rfl 47 (.tmp 7) rfl g7 0 4 rfl 47 _ D _ K77.out zS rfl rfl hds (fun _ _=>by rw [zL]) ?_ | (refine Q00 (o:=⟨none,_,_,_,_,_⟩) rfl 47 (.tmp 4) (.tmp 62) rfl g4 0 D rfl rfl 47 _ K47.out (by rw [hds]; kernel_rfl) (by rw [hds]; simp [anC]) hd1 ?_; intro w8 hT8 hD8; rw [Q0c _ _ (by rw [hds]; rfl)] at hD8))
  refine bodyPost_ret (Q09 rfl _ _ g4 4 47 _ _ rfl hD8 zS rfl rfl hds) rfl ?_;exact HPG.out w8 D wc.heap.size HQ.out hds (by omega) (HA7.out.keepN (fun b h1 h2=>hT8.block b (by omega))) (Q1A.side2 (fun b hb=>.inl (HV.out.all b hb)) (fun b hb e=>by have:=HNL.out b (HV.out.all b hb); omega) hgw4 (.inl (.inr (.inr rfl))) (fun b hb hn=>hn.elim (fun e=>.inl (.inl e)) (fun e=>.inr ⟨e.1,hb⟩)) HM7.out hT8)
theorem Q1A.less {w w':zB} {V:ALoc} {N N':Nat->Prop} {m:AM} {L:LL} {asked q:Nat} (h:Q1A w w' V N' m L asked q) (hs:∀ b,N b->N' b) (hall:∀ b,V.all b->N b):Q1A w w' V N m L asked q :=⟨h.vat.mono (fun b _ hn=>hs b hn) hall,h.book,h.only.mono fun b _ e=>e.imp id (fun e hn=>e (hs b hn))⟩
theorem aDo_any (w:zB) (V:ALoc) (N:Nat->Prop) (m:AM) (L:LL) (asked:Nat) (h:AAt w V N m) (hN:∀ b,N b->b<w.heap.size) (hbk:Q0y w V.k L asked) (hin:Q20 L (Q0g m)) (has:asked<=700000)
 (x:Wish) (A:Option zA) (n c:Nat) (A':Option zA) (n' c':Nat) (B:Nat) (hx:Q2g w B x A n c A' n' c') (hB:B<=w.heap.size) :
 Calls Tryz.prog 43 #[.pointer (some ⟨V.g,0,none⟩),.agg (Q06 x A n c A' n' c')] w (ADoPost w V N L asked (doQ m x)):=by
 refine(aDo2_any w V N m L asked h hN hbk hin has x A n c A' n' c' B hx hB).mono ?_;rintro r w' ⟨D,q,h1,h2,h3,h4,h5⟩;exact⟨D,h1,h2,h4.more h3,h5.less (fun b hb=>.inl hb) h.all⟩
def Q1B (f:Nat) (nA:Nat->Option zA) (nC:Nat->Nat):Nat->List (List Int)->List zC
 | _,[]=>[]
 | i,l :: t=>.int .i64 (f:Int) :: .slice (nA i) l.length (nC i) :: Q1B f nA nC (i+1) t
theorem QcI (f:Nat) (nA:Nat->Option zA) (nC:Nat->Nat):∀ (l:List (List Int)) (i:Nat),(Q1B f nA nC i l).length=l.length*2
 | [],_=>rfl
 | s :: t,i=>by show (Q1B f nA nC (i+1) t).length+2=(t.length+1)*2;rw [QcI f nA nC t (i+1)]; omega
theorem Q8D (f:Nat) (nA:Nat->Option zA) (nC:Nat->Nat) (s:List Int):∀ (l:List (List Int)) (i:Nat),Q1B f nA nC i (l++[s])=Q1B f nA nC i l++[.int .i64 (f:Int),.slice (nA (i+l.length)) s.length (nC (i+l.length))]
 | [],i=>rfl
 | q :: t,i=>by show _ :: _ :: Q1B f nA nC (i+1) (t++[s])=_ :: _ :: (Q1B f nA nC (i+1) t++_);rw [Q8D f nA nC s t (i+1),show i+(q :: t).length=i+1+t.length by simp only [List.length_cons]; omega]
theorem Q6Z (f:Nat) (nA nA':Nat->Option zA) (nC nC':Nat->Nat):∀ (l:List (List Int)) (i:Nat),(∀ k,i<=k->k<i+l.length->nA k=nA' k/\nC k=nC' k)->Q1B f nA nC i l=Q1B f nA' nC' i l
 | [],_,_=>rfl
 | q :: t,i,h=>by have h1:=h i (zH _) (by simp);show _ :: _ :: Q1B f nA nC (i+1) t=_ :: _ :: Q1B f nA' nC' (i+1) t;rw [h1.1,h1.2,Q6Z f nA nA' nC nC' t (i+1) fun k h2 h3=>h k (by omega) (by simp only [List.length_cons]; omega)]
theorem Q38 (f:Nat) (nA:Nat->Option zA) (nC:Nat->Nat):∀ (l:List (List Int)) (i k:Nat) (s:List Int),l[k]?=some s->(Q1B f nA nC i l)[k*2]?=some (.int .i64 (f:Int))/\(Q1B f nA nC i l)[k*2+1]?=some (.slice (nA (i+k)) s.length (nC (i+k)))
 | q :: t,i,0,s,h=>by obtain rfl:=zO h;exact⟨rfl,rfl⟩
 | q :: t,i,k+1,s,h=>by have:=Q38 f nA nC t (i+1) k s (by simpa using h);rw [show (k+1)*2=k*2+1+1 by omega,show i+(k+1)=i+1+k by omega];exact this
structure Q1H (w:zB) (B:Nat) (v:zC) (f:Nat) (ls:List (List Int)) (nA:Nat->Option zA) (nC:Nat->Nat):Prop where
 row:w.ownsRow B 77 2 v ls.length (Q1B f nA nC 0 ls)
 nodes:∀ i l,ls[i]?=some l->OwnN w B (.slice (nA i) l.length (nC i)) l
theorem Q1H.keep {w w':zB} {B f:Nat} {v:zC} {ls:List (List Int)} {nA:Nat->Option zA} {nC:Nat->Nat} (h:Q1H w B v f ls nA nC) (hk:∀ b,B<=b->b<w.heap.size->w'.heap[b]?=w.heap[b]?):Q1H w' B v f ls nA nC :=⟨Q0d h.row fun b hb=>hk b (Q07 h.row hb).1 (Q07 h.row hb).2,fun i l hl=>(h.nodes i l hl).keep_ fun b hb=>hk b ((h.nodes i l hl).ge_ hb) (Q07 (h.nodes i l hl) hb).2⟩
theorem Q1H.below {w w':zB} {B f:Nat} {v:zC} {ls:List (List Int)} {nA:Nat->Option zA} {nC:Nat->Nat} (h:Q1H w B v f ls nA nC) (hb:zE w.heap.size w w'):Q1H w' B v f ls nA nC:=h.keep fun b _ hl=>hb.block b hl
theorem Q1H.turned {w w':zB} {B f g:Nat} {v:zC} {ls:List (List Int)} {nA:Nat->Option zA} {nC:Nat->Nat} (h:Q1H w B v f ls nA nC) (hT:Q0b g w w') (hv:v.ownBlock≠some g) {t:TypeId} {cs:Array zC} (hg:Blk w g t cs) (ht:3≠t):Q1H w' B v f ls nA nC :=⟨Q0d h.row fun b hb=>hT.block b (fun e=>hv (by rw [hb,e])),fun i l hl=>(h.nodes i l hl).keep_ fun b hb=>hT.block b (fun e=>Q05 (h.nodes i l hl) hg ht (by rw [hb,e]))⟩
theorem Q1H.push {w W:zB} {B f:Nat} {v v':zC} {ls:List (List Int)} {l:List Int} {nA:Nat->Option zA} {nC:Nat->Nat} {A:Option zA} {c:Nat} (h:Q1H w B v f ls nA nC) (hg:w.grownBy W v.ownBlock) (ho:OwnN w B (.slice A l.length c) l)
 (hrow:W.ownsRow B 77 2 v' (ls.length+1) (Q1B f nA nC 0 ls++[.int .i64 (f:Int),.slice A l.length c])) :
 Q1H W B v' f (ls++[l]) (fun k=>if k=ls.length then A else nA k) (fun k=>if k=ls.length then c else nC k):=by
 have hkeep:∀ {u:zC} {xs:List Int},OwnN w B u xs->OwnN W B u xs:=fun {u xs} hu=>hu.keep_ fun b hb=>hg.block b (Q07 hu hb).2 (fun e=>by
  rcases h.row.2 with⟨e1,_⟩ | ⟨gc,cap,cur,e1,_,e3,_⟩
  ·rw [e1] at e; cases e
  have hB:Blk w gc 77 cur:=e3;rw [e1] at e;have e':b=gc:=by simpa [Value.ownBlock] using e
  exact Q05 hu hB (by decide) (e'▸hb))
 refine⟨?_,?_⟩
 ·have e1:Q1B f (fun k=>if k=ls.length then A else nA k) (fun k=>if k=ls.length then c else nC k) 0 (ls++[l])=Q1B f nA nC 0 ls++[.int .i64 (f:Int),.slice A l.length c]:=by
   rw [Q8D,Q6Z f _ nA _ nC ls 0 (fun k _ hk=>⟨if_neg (by omega),if_neg (by omega)⟩)];simp only [zL,if_true]
  rw [e1,List.length_append];exact hrow
 intro i s hs;rcases Nat.lt_or_ge i ls.length with hi | hi
 ·rw [List.getElem?_append_left hi] at hs;rw [if_neg (by omega),if_neg (by omega)];exact hkeep (h.nodes i s hs)
 have hi2:i=ls.length:=by have:=(List.getElem?_eq_some_iff.1 hs).1;rw [List.length_append,List.length_singleton] at this; omega
 subst hi2;rw [List.getElem?_append_right (zH _),Nat.sub_self] at hs;obtain rfl:=zO hs;simp only [if_true];exact hkeep ho
theorem Q1H.one {w:zB} {B f g:Nat} {l:List Int} {A:Option zA} {c:Nat} (hB:B<=g) (hb:Blk w g 77 (crC f A l.length c)) (ho:OwnN w B (.slice A l.length c) l):Q1H w B (.slice (some ⟨g,0,none⟩) 1 1) f [l] (fun _=>A) (fun _=>c) :=
 ⟨⟨rfl,.inr ⟨g,1,_,rfl,hB,hb,zH _,by unfold maxLen; omega,rfl,rfl⟩⟩,fun i s hs=>by
  cases i with
  | zero=>obtain rfl:=zO hs; exact ho
  | succ i=>simp at hs⟩
theorem Q1g.at_:∀ {l:List Int} {a:List (Int×Int)} {i:Nat} {o z:Int},Q1g l a->a[i]?=some (o,z)->Q22 (nowL l (a.take i)) o z
 | _,m :: t,0,o,z,h,e=>by obtain rfl:=zO e;exact⟨h.1,h.2.1,h.2.2.1,h.2.2.2.1⟩
 | l,m :: t,i+1,o,z,h,e=>Q1g.at_ (l:=Q1L l m.1 m.2) h.2.2.2.2 (by simpa using e)
theorem Q74:(Tryz.prog.info? 77).map (fun i=>(i.zero,i.size,i.bytes))=some (some (.agg (crC 0 none 0 0)),2,32):=by kernel_rfl
def Q25 (w:zB) (s:Srv) (e:Ending) (w':zB):Prop:=∃ v nA nC,e=.returned v/\Q1H w' w.heap.size v s.f (Q12 s.first s.moves) nA nC/\zE w.heap.size w w'
theorem mv_at {w:zB} {A:Option zA} {n c:Nat} {ms:List (Int×Int)} {k:Nat} {o z:Int} (h:w.ownsRow 0 175 2 (.slice A n c) n (Q0H ms)) (hk:ms[k]?=some (o,z)):∃ gm cur,A=some ⟨gm,0,none⟩/\Blk w gm 175 cur/\∀ j,j<2->cur[k*2+j]?=(#[.int .i64 o,.int .i64 z]:Array zC)[j]?:=by
 obtain⟨hkl,hke⟩:=List.getElem?_eq_some_iff.1 hk;have hl:=h.1;rw [Q40] at hl;rcases h.2 with⟨_,h0⟩ | ⟨gm,cap,cur,e,_,h3,h4,h5,h6,h7⟩
 ·omega
 injection e with e
 refine⟨gm,cur,e,h3,fun j hj=>?_⟩;have hget:=Q3f ms k hkl;rw [hke] at hget;have ht:∀ q,q<n*2->cur[q]?=(Q0H ms)[q]?:=fun q hq=>by rw [<- h7,zK,if_pos hq,zM]
 obtain rfl | rfl:j=0\/j=1:=by omega
 ·rw [Nat.add_zero,ht _ (by omega),hget.1]; rfl
 rw [ht _ (by omega),hget.2]; rfl
theorem Q1y {w:zB} {B n:Nat} {A:Option zA} {c:Nat} {zs:List Int} (h:OwnN w B (.slice A n c) zs):zs.length=n/\Q08 w w.heap.size 1 A n (zs.map vn):=by
 obtain⟨A',c',e,_,_,h3,_⟩:=Q0i h;injection e with e1 e2 _
 subst e1 e2;exact⟨rfl,h3⟩
theorem Q4R (w:zB) (C:Array zC) (h:C.size=2):Q08 (w.alloc (.cells C 77)) (w.alloc (.cells C 77)).heap.size 2 (some ⟨w.heap.size,0,none⟩) 1 C.toList:=by have hk:Blk (w.alloc (.cells C 77)) w.heap.size 77 C:=Blk.newAt rfl;exact⟨by simp [h],fun _=>⟨⟨w.heap.size,0,none⟩,rfl,hk.lt,fun j u hu=>by rw [Q11,zL,hk.cell,<- zM]; exact hu⟩⟩
theorem QaS {w:zB} {base base':Nat} {e:TypeId} {size:Nat} {v:zC} {n:Nat} {xs:List zC} (h:w.ownsRow base e size v n xs) (hb:base'<=base):w.ownsRow base' e size v n xs:=by
 refine⟨h.1,?_⟩;rcases h.2 with h1 | ⟨g,cap,cur,h1,h2,h3⟩
 ·exact .inl h1
 exact .inr ⟨g,cap,cur,h1,zF hb h2,h3⟩
theorem Q25.of {w w6 wr:zB} {s:Srv} {v:zC} {nA:Nat->Option zA} {nC:Nat->Nat} (h:Q1H wr w6.heap.size v s.f (Q12 s.first s.moves) nA nC) (hb:zE w.heap.size w wr) (hw:w.heap.size<=w6.heap.size):Q25 w s (.returned v) wr :=⟨v,nA,nC,rfl,⟨QaS h.row hw,fun i l hl=>OwnN.more (h.nodes i l hl) hw⟩,hb⟩
structure CrLp (w w6:zB) (g6 f:Nat) (s:Srv) (k:Nat) (ov:zC) (wr:zB):Prop where
 own:∃ nA nC,Q1H wr w6.heap.size ov f (Q12 s.first (s.moves.take k)) nA nC
 cur:∃ A n c,Blk wr g6 77 (crC f A n c)/\Q08 wr wr.heap.size 1 A n ((nowL s.first (s.moves.take k)).map vn)
 below:zE w.heap.size w wr
 size:w6.heap.size<=wr.heap.size
theorem Q8l (w:zB) (g gc i:Nat) (T:Nat) (N:Nat->Prop) (m:AM) (S:ASl) (s:Srv) (h:ADat w g gc (some ⟨T,0,none⟩) N m S) (hs:m.chunks[i]?=some s) :
 Calls Tryz.prog 56 #[.pointer (some ⟨g,0,none⟩),.int .i64 ((i:Int)+1)] w (Q25 w s):=by
 have hil:i<m.chunks.length:=(List.getElem?_eq_some_iff.1 hs).1;have h2:=h.ok.one;have hok:=h.ok.srv s (zQ hs);have hc1:w.cell? ⟨g,1,none⟩=some (.slice (some ⟨gc,0,none⟩) m.chunks.length S.cap):=(h.blk.cell 1).trans (Q1N _ _ _ _ 1 (by omega));have HNO:=sH (Q3a w g T ((h.blk.cell 0).trans (Q1N _ _ _ _ 0 (by omega))));have hsrv:=h.srv i s hs;have hi:=h.srvIn hs;obtain⟨n,hn⟩:∃ n,n=m.chunks.length:=⟨_,rfl⟩;have hin:i<n:=by omega
 rw [<- hn] at hc1;have hx1:¬ ((i:Int)+1<1):=by omega
 have hx2:¬ ((n:Int)<(i:Int)+1):=by omega
 have hx3:(i:Int)+1 - 1=(i:Int):=by omega
 have hx4:(i:Int)<(n:Int):=by omega
 have hx5:(0:Int)<=(i:Int):=by omega
 obtain⟨D,hD⟩:∃ D,D=srvC s S i:=⟨_,rfl⟩;have hds:D.size=5:=by rw [hD]; rfl
 have hd1:D.all (·.oneCell')=true:=by rw [hD]; simp [srvC,Value.oneCell']
 rw [<- hD] at hsrv;have HROW:=sH h.row;have HSRV:=sH hsrv;have HD:=sH hD;have HI:=sH hi;have HOK:=sH hok;have hl1:=h.lt.1;have hl2:=h.lt.2;obtain⟨f,hf⟩:∃ f,f=s.f:=⟨_,rfl⟩;have HF:=sH hf;obtain⟨P,hP⟩:∃ P,P=Q25 w s:=⟨_,rfl⟩;have HP:=sH hP;rw [<- hP];clear h hs hok hsrv hi hn hD hf hP;go_enter Tryz.func56,Tryz.ntmps56
 go_wp2_with fail
 refine HNO.out.mono ?_;rintro _ _ ⟨rfl,rfl⟩;have hzs:Q83.size=5:=rfl;go_upto_region 4 with(first | refine Q01 (o:=⟨some 32,_,_,_,_,_⟩) rfl 173 (.tmp 31) rfl gc (i*5) 5 rfl 173 _ D _ HROW.out Tryz.underlying173 rfl rfl hds HSRV.out ?_ | (refine Q00 (o:=⟨none,_,_,_,_,_⟩) rfl 173 (.tmp 5) (.tmp 32) rfl w.heap.size 0 D rfl rfl 173 Q83 (Blk.newAt rfl) (by rw [hds]; kernel_rfl) (by rw [hds,hzs]; omega) hd1 ?_; intro w5 hT5 hD5))
 rw [Q0c _ _ (by rw [hds,hzs])] at hD5;have hb5:zE w.heap.size w w5:=hT5.below ((zI _ _).alloc (zH _) _) (zH _);obtain⟨g5,hg5⟩:∃ b,b=w.heap.size:=⟨_,rfl⟩;rw [<- hg5] at hD5 ⊢;have hgw5:w.heap.size<=g5:=by omega
 have HB5:=sH hb5;have HD5:=sH hD5;have hs5:=hb5.size;have hl5:=hD5.lt;obtain⟨C,hC⟩:∃ C,C=crC f (S.fA i) s.first.length (S.fC i):=⟨_,rfl⟩;have hcs:C.size=2:=by rw [hC]; rfl
 have hc1:C.all (·.oneCell')=true:=by rw [hC]; exact Q1h _ _ _ _
 have hcd:∀ j,j<2->D[0+j]?=C[j]?:=fun j hj=>by
  rw [HD.out,hC,HF.out,zL];obtain rfl | rfl:j=0\/j=1:=by omega
  iterate 2 ·rfl
 have HC:=sH hC;have HCD:=sH hcd;clear hb5 hT5 hD5 hC hcd hg5;go_upto_region 5 with(first | refine Q01 (o:=⟨some 34,_,_,_,_,_⟩) rfl 77 (.tmp 33) rfl g5 0 2 rfl 173 _ C _ HD5.out zR rfl rfl hcs HCD.out ?_ | (refine Q00 (o:=⟨none,_,_,_,_,_⟩) rfl 77 (.tmp 6) (.tmp 34) rfl w5.heap.size 0 C rfl rfl 77 (crC 0 none 0 0) (Blk.newAt rfl) (by rw [hcs]; kernel_rfl) (by rw [hcs]; simp [crC]) hc1 ?_; intro w6 hT6 hD6))
 rw [Q0c _ _ (by rw [hcs]; rfl)] at hD6;have hb6:zE w5.heap.size w5 w6:=hT6.below ((zI _ _).alloc (zH _) _) (zH _);obtain⟨g6,hg6⟩:∃ b,b=w5.heap.size:=⟨_,rfl⟩;rw [<- hg6] at hD6 ⊢;have HB6:=sH (HB5.out.trans (hb6.mono hs5));have HD6:=sH hD6;have HD56:=sH (HD5.out.below' hb6);have hs6:=hb6.size;have hl6:=hD6.lt;have hg56:g5<g6:=by omega
 clear hb6 hT6 hD6 hg6 HD5 HB5 HCD;have HI6:=sH (HI.out.below HB6.out);obtain⟨nn,hnn⟩:∃ k,k=s.first.length:=⟨_,rfl⟩;rw [<- hnn] at HC;have HNN:=sH hnn;have hnn7:nn<=7:=by rw [hnn]; exact HOK.out.crew.short.2
 obtain⟨Af,hAf⟩:∃ A,A=S.fA i:=⟨_,rfl⟩;obtain⟨cf,hcf⟩:∃ c,c=S.fC i:=⟨_,rfl⟩;rw [<- hAf,<- hcf] at HC;have HCL:=sH (fun(W:zB) (hb:zE w6.heap.size w6 W)=>Q36 Af nn cf s.first W w6.heap.size (by have:=HI6.out.first; rw [<- hAf,<- hnn] at this; exact this.below hb) hb.size (by omega));have C60:=sH (show w6.cell? ⟨g6,0,none⟩=some (.int .i64 (f:Int)) from(HD6.out.cell 0).trans (by rw [HC.out]; rfl));have C61:=sH (show w6.cell? ⟨g6,1,none⟩=some (.slice Af nn cf) from(HD6.out.cell 1).trans (by rw [HC.out]; rfl));have hAe:=sH hAf.symm;clear hnn hAf hcf;refine Q0m 7 64 (fun jx W v=>match jx with | 0=>v=.pointer (some ⟨g6,0,none⟩) | 1=>v=.int .i64 (f:Int) | 2=>v=.pointer (some ⟨g6,1,none⟩) | 3=>v=.slice Af nn cf | 4=>∃ A' c',v=.slice A' nn c'/\OwnN W w6.heap.size (.slice A' nn c') s.first | 5=>∃ A' c',v=.agg (crC f A' nn c')/\OwnN W w6.heap.size (.slice A' nn c') s.first | _=>∃ g9 A' c',v=.slice (some ⟨g9,0,none⟩) 1 1/\w6.heap.size<=g9/\Blk W g9 77 (crC f A' nn c')/\OwnN W w6.heap.size (.slice A' nn c') s.first) [35,36,37,38,39,40,41] (by kernel_rfl) (by kernel_rfl) (by kernel_rfl) (by first | rfl | simp) (by kernel_rfl) (fun jx=>?last) ?heads ?_
 case last =>
  match jx with
  | 0 | 1 | 2 | 3=>exact Q15.pure _
  | 4 | 5=>exact fun W W' u ⟨A',c',h1,h2⟩ hb=>⟨A',c',h1,h2.below_ hb⟩
  | jx+6=>exact fun W W' u ⟨g9,A',c',h1,h2,h3,h4⟩ hb=>⟨g9,A',c',h1,h2,h3.below' hb,h4.below_ hb⟩
 case heads =>
  simp only [tT];refine⟨?_,?_,?_,?_,?_,?_,?_,trivial⟩;all_goals intro a W hb hkp hd
  ·have e0:(_:zC)=.pointer (some ⟨g6,0,none⟩):=sK hkp 6;exact sV
  ·have e0:=sJ (hd 0) 35;have cc:=(hb.cell (p:=⟨g6,0,none⟩) hl6).trans C60.out;exact sV
  ·have e0:(_:zC)=.pointer (some ⟨g6,0,none⟩):=sK hkp 6;exact sV
  ·have e0:=sJ (hd 2) 37;have cc:=(hb.cell (p:=⟨g6,1,none⟩) hl6).trans C61.out;exact sV
  ·have e0:=sJ (hd 3) 38;refine Q0u rfl 86 #[.slice Af nn cf] (by go_simp) ((HCL.out W hb).mono ?_);rintro e w' ⟨v,rfl,ho,hb'⟩;obtain⟨A',c',hv,_⟩:=Q0i ho;rw [<- HNN.out] at hv;subst hv;exact⟨_,rfl,hb',A',c',rfl,OwnN.more ho hb.size⟩
  ·have e0:=sJ (hd 1) 36;obtain⟨A',c',e1,ho⟩:=(sG (hd 4) 39:);exact Q0j rfl (.agg (crC f A' nn c')) (by unfold crC; go_simp) ⟨A',c',rfl,ho⟩
  obtain⟨A',c',e0,ho⟩:=(sG (hd 5) 40:);exact Q1X rfl (.slice (some ⟨W.heap.size,0,none⟩) 1 1) (W.alloc (.cells (crC f A' nn c') 77)) (by unfold crC at e0 ⊢; go_simp; try rfl) (Q04 _ _) ⟨W.heap.size,A',c',rfl,hb.size,Blk.new W _ _,ho.below_ (Q04 _ _)⟩
 intro fv W hb hd;obtain⟨g9,A9,c9,h41,hg9,hB9,ho9⟩:=hd 6 (by omega) _ 41 rfl rfl;simp only [Q0F,tU,h41];have HBW:=sH (HB6.out.trans (hb.mono (by omega)));have HST:=sH (show CrLp w w6 g6 f s 0 (.slice (some ⟨g9,0,none⟩) 1 1) W from⟨⟨_,_,by
  have:=Q1H.one hg9 (by rw [HNN.out] at hB9; exact hB9) (by rw [HNN.out] at ho9; exact ho9);have e:Q12 s.first (s.moves.take 0)=[s.first]:=by simp [Q12]
  rw [e]; exact this⟩,⟨Af,nn,cf,by rw [<- HC.out]; exact HD6.out.below' hb,by
  have:=(HI6.out.below hb).first;have e:nowL s.first (s.moves.take 0)=s.first:=by simp [nowL]
  rw [e];have e2:S.fA i=Af:=by have:=HC.out;exact hAe.out
  rw [e2,<- HNN.out] at this; exact this⟩,HBW.out,hb.size⟩)
 obtain⟨mn,hmn⟩:∃ k,k=s.moves.length:=⟨_,rfl⟩;have hmn21:mn<=21:=by rw [hmn]; exact HOK.out.len
 obtain⟨mA,hmA⟩:∃ k,k=S.mA i:=⟨_,rfl⟩;obtain⟨mC,hmC⟩:∃ k,k=S.mC i:=⟨_,rfl⟩;have c54:W.cell? ⟨g5,4,none⟩=some (.slice mA mn mC):=((HD56.out.below' hb).cell 4).trans (by rw [HD.out,hmA,hmn,hmC]; rfl);have HMR:=sH (fun(W':zB) (hb:zE w.heap.size w W')=>(show W'.ownsRow 0 175 2 (.slice mA mn mC) mn (Q0H s.moves) by rw [hmA,hmn,hmC]; exact(HI.out.below hb).mv));have HMN:=sH hmn;have hg6w:g6<w6.heap.size:=hl6;have hw6w:w.heap.size<=w6.heap.size:=HB6.out.size;clear hd hb hB9 ho9 h41 hmn hmA hmC HI HI6 HCL C60 C61 HD6 HD56 HC HBW HB6 HROW HSRV;try simp only [Act.put,sA]
 go_wp2_with fail
 go_loopw [7,45] (fun ov iv wr=>∃ k:Nat,k<=mn/\iv=.int .i64 (k:Int)/\CrLp w w6 g6 f s k ov wr) (fun _ iv _=>mn - (intOf iv).toNat)
 case atStart=>exact⟨0,by omega,rfl,HST.out⟩
 obtain⟨k,hk,rfl,hlp⟩:=hrel;by_cases hkn:k<mn
 ·have hkI:(k:Int)<(mn:Int):=by omega
  have h0I:(0:Int)<=(k:Int):=by omega
  have hkl:k<s.moves.length:=by have:=HMN.out; omega
  obtain⟨⟨o,z⟩,hoz⟩:∃ q,s.moves[k]?=some q:=⟨_,zD hkl⟩;obtain⟨gm,cur,hmA,hBm,hcur⟩:=mv_at (HMR.out wr hlp.below) hoz;subst hmA;obtain⟨M,hM⟩:∃ M:Array zC,M=#[.int .i64 o,.int .i64 z]:=⟨_,rfl⟩;rw [<- hM] at hcur;have hms:M.size=2:=by rw [hM]; rfl
  have hm1:M.all (·.oneCell')=true:=by rw [hM]; simp [Value.oneCell']
  obtain⟨A,n,c,hB6,hrd⟩:=hlp.cur;obtain⟨nA,nC,hown⟩:=hlp.own;obtain⟨C',hC'⟩:∃ C',C'=crC f A n c:=⟨_,rfl⟩;rw [<- hC'] at hB6;have hcs':C'.size=2:=by rw [hC']; rfl
  have HLP:=sH hlp;have HBM:=sH hBm;have HCU:=sH hcur;have HM:=sH hM;have HC':=sH hC';have HB6:=sH hB6;have HRD:=sH hrd;have HOW:=sH hown;have HOZ:=sH hoz;have hszr:=hlp.size;have hlr:=hlp.below.size;clear hlp hoz hBm hcur hM hC' hB6 hrd hown HST c54;go_upto_region 9 with(first | refine Q01 (o:=⟨some 48,_,_,_,_,_⟩) rfl 175 (.tmp 47) rfl gm (k*2) 2 rfl 175 _ M _ HBM.out Tryz.underlying175 rfl rfl hms HCU.out ?_ | (refine Q00 (o:=⟨none,_,_,_,_,_⟩) rfl 175 (.tmp 9) (.tmp 48) rfl wr.heap.size 0 M rfl rfl 175 #[.int .i64 0,.int .i64 0] (Blk.newAt rfl) (by rw [hms]; kernel_rfl) (by rw [hms]; simp) hm1 ?_; intro w3 hT3 hD3))
  rw [Q0c _ _ (by rw [hms]; rfl)] at hD3;have hb3:zE wr.heap.size wr w3:=hT3.below ((zI _ _).alloc (zH _) _) (zH _);obtain⟨q9,hq9⟩:∃ b,b=wr.heap.size:=⟨_,rfl⟩;rw [<- hq9] at hD3 ⊢;have hs3:=hb3.size;have c90:w3.cell? ⟨q9,0,none⟩=some (.int .i64 o):=(hD3.cell 0).trans (by rw [HM.out]; rfl);have c91:w3.cell? ⟨q9,1,none⟩=some (.int .i64 z):=(hD3.cell 1).trans (by rw [HM.out]; rfl);have hmok:=HOK.out.mv;have hnok:OkC f (nowL s.first (s.moves.take k)):=by rw [HF.out]; exact(hmok.take k).now HOK.out.crew
  have HRP:=sH (Q5m f A n c _ o z w3 ((HRD.out.below hb3).more hb3.size) hnok);rw [<- HC'.out] at HRP;have HGD:=sH (hmok.at_ HOZ.out);have HB3:=sH hb3;have HB63:=sH (HB6.out.below' hb3);have hl9:=hD3.lt;clear hT3 hb3 hD3 hmok hnok hq9;go_upto_region 10 with(refine Q01 (o:=⟨some 50,_,_,_,_,_⟩) rfl 77 (.tmp 6) rfl g6 0 2 rfl 77 _ C' _ HB63.out zR rfl rfl hcs' (fun _ _=>by rw [zL]) ?_)
  refine HRP.out.mono ?_;rintro _ w4 ⟨hb4,hgo,_⟩;obtain⟨A',n',c',rfl,ho4⟩:=hgo HGD.out;obtain⟨hn4,_⟩:=Q1y ho4;obtain⟨E,hE⟩:∃ E,E=crC f A' n' c':=⟨_,rfl⟩;have hes:E.size=2:=by rw [hE]; rfl
  have he1:E.all (·.oneCell')=true:=by rw [hE]; exact Q1h _ _ _ _
  rw [<- hE];have HE:=sH hE;have HO4:=sH ho4;have HB64:=sH (HB63.out.below' hb4);have HB4:=sH hb4;have HN4:=sH hn4;have hs4:=hb4.size;clear hb4 hgo ho4 hE hn4 HRP HB63 c90 c91;go_upto_region 10 with(refine Q00 (o:=⟨none,_,_,_,_,_⟩) rfl 77 (.tmp 6) (.tmp 56) rfl g6 0 E rfl rfl 77 C' HB64.out (by rw [hes]; kernel_rfl) (by rw [hes,hcs']; omega) he1 ?_; intro w5' hT5 hD5)
  rw [Q0c _ _ (by rw [hes,hcs'])] at hD5;have hb4w:zE wr.heap.size wr w4:=HB3.out.trans (HB4.out.mono hs3);have HS5:=sH hT5.size;have HO5:=sH (HO4.out.keep_ (w':=w5') fun b hb=>hT5.block b (fun e=>by have:=HO4.out.ge_ hb; omega));have HOW5:=sH ((HOW.out.below hb4w).keep (w':=w5') fun b hb _=>hT5.block b (by omega));have HD5:=sH hD5;have hw65:w6.heap.size<=w5'.heap.size:=by rw [hT5.size]; omega
  have HB5s:=sH (show w.heap.size<=w5'.heap.size by rw [hT5.size]; omega);have HB5:=sH (hT5.below ((HLP.out.below.trans (hb4w.mono hlr))) (show w.heap.size<=g6 by omega));clear hb4w hT5 hD5 HO4 HB3 HB4 HB64 HOW;have hlt5:=HD5.out.lt;have hfold:Array.foldl (fun(cs:Array zC) (x:zC×Nat)=>cs.setIfInBounds x.snd x.fst) #[Value.int .i64 0,zP none 0 0] E.zipIdx 0 2=E:=by rw [HE.out]; rfl
  obtain⟨i0,hi0,hz0,hz1,hz2⟩:=info_parts Q74;have hb6:=Q04 w5' (.cells E 77);have hcl:(Q12 s.first (s.moves.take k)).length=k+1:=by rw [Q1J,List.length_take]; omega
  have hrow6:=(HOW5.out.below hb6).row;rw [hcl] at hrow6;obtain⟨cells,hcells⟩:∃ l,l=Q1B f nA nC 0 (Q12 s.first (s.moves.take k)):=⟨_,rfl⟩;rw [<- hcells] at hrow6;have HCE:=sH hcells;have HCL:=sH hcl;have HROW6:=sH hrow6;have HRD6:=sH (Q4R w5' E hes);have HOW6:=sH (HOW5.out.below hb6);have HO6:=sH (HO5.out.below_ hb6);have HD6':=sH (HD5.out.below' hb6);have HB6':=sH (HB5.out.trans (hb6.mono (by have:=HB5.out.size; omega)));have hs6':=hb6.size;clear hb6 hcl hrow6 hcells HOW5 HO5 HB5 HLP HRD HB6 HBM HCU HM HC';go_wp2_with (first
   | refine Q01 (o:=⟨some 59,_,_,_,_,_⟩) rfl 77 (.tmp 6) rfl g6 0 2 rfl 77 _ E _ HD5.out zR rfl rfl hes (fun _ _=>by rw [zL]) ?_
   | (at_builtin; go_must (refine Q03 _ rfl (.tmp 58) (.tmp 60) 74 rfl w6.heap.size 77 i0 _ 2 32 Tryz.underlying74 hi0 hz0 hz1 hz2 rfl (by omega) _ _ _ rfl HROW6.out _ (some ⟨w5'.heap.size,0,none⟩) 1 1 E.toList rfl HRD6.out ?d1 ?d2 ?d3 ?d4 ?_)))
  case d1=>exact fun u hu=>(Array.all_eq_true'.1 he1) u (by simpa using hu)
  case d2=>unfold maxLen; omega
  case d3=>first | omega | (simp; omega)
  case d4=>first | omega | (simp; omega)
  intro v6 w6' hown6 hg6 hor6;obtain⟨l',hl'⟩:∃ l,l=Q1L (nowL s.first (s.moves.take k)) o z:=⟨_,rfl⟩;have hn':=HN4.out;have ho6:=HO6.out;rw [<- hl'] at hn' ho6;have hown:Q1H w6' w6.heap.size v6 f (Q12 s.first (s.moves.take k)++[l']) _ _:=HOW6.out.push (l:=l') (A:=A') (c:=c') hg6 (by rw [hn']; exact OwnN.more ho6 (by omega)) (by rw [HCL.out,hn',<- HCE.out]; rw [HE.out] at hown6; exact hown6);have hb66:zE w.heap.size w w6':=Q0e HB6'.out (by simp; have:=HB5s.out; omega) hg6 (fun b hb=>by have:=(Q07 HROW6.out hb).1; omega);have htk:s.moves.take (k+1)=s.moves.take k++[(o,z)]:=by rw [List.take_add_one,HOZ.out]; rfl
  have hcrew:Q12 s.first (s.moves.take (k+1))=Q12 s.first (s.moves.take k)++[l']:=by rw [htk,Q46,hl']
  have hnow:nowL s.first (s.moves.take (k+1))=l':=by rw [htk,Q41,hl']
  have hlast:=hown.nodes _ l' List.getElem?_concat_length;rw [if_pos rfl,if_pos rfl] at hlast;have hbl6:Blk w6' g6 77 (crC f A' n' c'):=by rw [<- HE.out];exact HD6'.out.grown hg6 (fun e=>by have:=(Q07 HROW6.out e.symm).1; omega)
  have HLP':=sH (show CrLp w w6 g6 f s (k+1) v6 w6' from⟨⟨_,_,by rw [hcrew]; exact hown⟩,⟨A',n',c',hbl6,by rw [hnow,<- hn']; exact(Q1y hlast).2⟩,hb66,by have:=hg6.size; have:=HS5.out; omega⟩);clear hown hb66 htk hcrew hnow hlast hbl6 hl' hn' ho6 hown6 hg6 hor6 HS5 HB5s hfold;go_wp2_with fail
  go_roundw
  case rel=>exact⟨k+1,by omega,by go_num,HLP'.out⟩
  case measure=>simp [intOf]; omega
 obtain rfl:k=mn:=by omega
 have hkI:¬ (k:Int)<(k:Int):=by omega
 have htk:s.moves.take k=s.moves:=List.take_of_length_le (by rw [HMN.out]; omega);obtain⟨nA,nC,hown⟩:=hlp.own;rw [htk] at hown;rw [HF.out] at hown;have hpost:=Q25.of hown hlp.below hw6w;rw [<- HP.out] at hpost;have HR:=sH hpost;clear hlp htk hown hpost;go_wp2_with fail
 exact HR.out
end
section
open Go.RowKit Go.Maps
structure RASl where
 f:Nat
 fA:Option zA
 fC:Nat
 nA:Nat->Option zA
 nC:Nat->Nat
 mA:Nat->Option zA
 mC:Nat->Nat
 lA:Nat->Option zA
 lC:Nat->Nat
def Q1s (m:AM) (i:Nat):List (Int×Int):=match m.chunks[i]? with
 | some s=>s.moves
 | none=>[]
theorem Q1c {m:AM} {i:Nat} {s:Srv} (h:m.chunks[i]?=some s):Q1s m i=s.moves:=by unfold Q1s; rw [h]
def raN (x:Ans) (A:Option zA) (c:Nat):Array zC:=anC (x.err:Int) none 0 0 (x.epoch:Int) A x.nodes.length c
def raF (m:AM) (S:RASl) (j:Nat):zC :=
 if j=0 then .slice S.fA m.chunks.length S.fC
 else if j<3 then .slice (S.mA (j - 1)) (Q1s m (j - 1)).length (S.mC (j - 1))
 else if j<7 then .int .i64 ((Q0B m (j - 3)).1:Int)
 else((raN (Q0B m ((j - 7) / 4)).2 (S.lA ((j - 7) / 4)) (S.lC ((j - 7) / 4)))[(j - 7) % 4]?).getD undef
def Q1Q (m:AM) (S:RASl):Array zC:=rng 23 (raF m S)
theorem Q2J (m:AM) (S:RASl):(Q1Q m S).size=23:=Q0A _ _
theorem Q3J (m:AM) (S:RASl) (j:Nat) (h:j<23):(Q1Q m S)[j]?=some (raF m S j):=Q1e _ _ _ h
structure Q1r (w:zB) (g:Nat) (N:Nat->Prop) (m:AM) (S:RASl):Prop where
 cells:Blk w g 153 (Q1Q m S)
 row:w.ownsRow 0 77 2 (.slice S.fA m.chunks.length S.fC) m.chunks.length (Q1B S.f S.nA S.nC 0 (m.chunks.map (·.first)))
 same:∀ s,s∈m.chunks->s.f=S.f
 first:∀ i s,m.chunks[i]?=some s->FarN w N (S.nA i) (S.nC i) s.first
 mv:∀ i,i<2->w.ownsRow 0 168 2 (.slice (S.mA i) (Q1s m i).length (S.mC i)) (Q1s m i).length (Q0H (Q1s m i))
 apart:∀ b,(zP (S.mA 0) (Q1s m 0).length (S.mC 0)).ownBlock=some b->(zP (S.mA 1) (Q1s m 1).length (S.mC 1)).ownBlock≠some b
 nodes:∀ i,i<4->FarN w N (S.lA i) (S.lC i) (Q0B m i).2.nodes
 ok:AOk m
 out:¬ N g
 rout:∀ b,(zP S.fA m.chunks.length S.fC).ownBlock=some b->¬ N b
 mout:∀ i,i<2->∀ b,(zP (S.mA i) (Q1s m i).length (S.mC i)).ownBlock=some b->¬ N b
theorem Q1r.only {w w':zB} {g:Nat} {N M:Nat->Prop} {m:AM} {S:RASl} (h:Q1r w g N m S) (ho:Only M w w') (hM:∀ b,M b->N b):Q1r w' g N m S :=⟨ho.blk h.cells fun hm=>h.out (hM _ hm),Q0d h.row fun b hb=>ho.block b (Q07 h.row hb).2 fun hm=>h.rout b hb (hM _ hm),h.same,fun i s hs=>(h.first i s hs).only ho hM,fun i hi=>Q0d (h.mv i hi) fun b hb=>ho.block b (Q07 (h.mv i hi) hb).2 fun hm=>h.mout i hi b hb (hM _ hm),h.apart,fun i hi=>(h.nodes i hi).only ho hM,h.ok,h.out,h.rout,h.mout⟩
theorem Q1r.below {w w':zB} {g:Nat} {N:Nat->Prop} {m:AM} {S:RASl} (h:Q1r w g N m S) (hb:zE w.heap.size w w'):Q1r w' g N m S:=h.only (M:=fun _=>False) (Only.of_below hb) (fun _ h=>h.elim)
theorem Q1r.mono {w:zB} {g:Nat} {N N':Nat->Prop} {m:AM} {S:RASl} (h:Q1r w g N m S) (hN:∀ b,b<w.heap.size->N' b->N b):Q1r w g N' m S :=⟨h.cells,h.row,h.same,fun i s hs=>(h.first i s hs).mono hN,h.mv,h.apart,fun i hi=>(h.nodes i hi).mono hN,h.ok,fun hn=>h.out (hN _ h.cells.lt hn),fun b hb hn=>h.rout b hb (hN _ (Q07 h.row hb).2 hn),fun i hi b hb hn=>h.mout i hi b hb (hN _ (Q07 (h.mv i hi) hb).2 hn)⟩
section
variable {w:zB} {g:Nat} {N:Nat->Prop} {m:AM} {S:RASl}
theorem Q1r.cell (h:Q1r w g N m S) (j:Nat) (hj:j<23):w.cell? ⟨g,j,none⟩=some (raF m S j):=(h.cells.cell j).trans (Q3J m S j hj)
theorem Q1r.cFirst (h:Q1r w g N m S):w.cell? ⟨g,0,none⟩=some (.slice S.fA m.chunks.length S.fC):=h.cell 0 (by omega)
theorem Q1r.cMoves (h:Q1r w g N m S) (i:Nat) (hi:i<2):w.cell? ⟨g,1+i,none⟩=some (.slice (S.mA i) (Q1s m i).length (S.mC i)):=by rw [h.cell _ (by omega)];unfold raF;rw [if_neg (by omega),if_pos (by omega),show 1+i - 1=i by omega]
theorem Q1r.cStamp (h:Q1r w g N m S) (i:Nat) (hi:i<4):w.cell? ⟨g,3+i,none⟩=some (.int .i64 ((Q0B m i).1:Int)):=by rw [h.cell _ (by omega)];unfold raF;rw [if_neg (by omega),if_neg (by omega),if_pos (by omega),show 3+i - 3=i by omega]
theorem Qbf (m:AM) (S:RASl) (i j:Nat) (hi:i<4) (hj:j<4):(Q1Q m S)[7+i*4+j]?=(raN (Q0B m i).2 (S.lA i) (S.lC i))[j]?:=by rw [Q3J m S _ (by omega)];unfold raF;rw [if_neg (by omega),if_neg (by omega),if_neg (by omega),show (7+i*4+j - 7) / 4=i by omega,show (7+i*4+j - 7) % 4=j by omega];have hs:(raN (Q0B m i).2 (S.lA i) (S.lC i)).size=4:=rfl;rw [Array.getElem?_eq_getElem (by omega)];rfl
theorem Q1r.crew (h:Q1r w g N m S) {i:Nat} {s:Srv} (hs:m.chunks[i]?=some s):∃ gf cur,S.fA=some ⟨gf,0,none⟩/\Blk w gf 77 cur/\∀ j,j<2->cur[i*2+j]?=(crC (S.f:Int) (S.nA i) s.first.length (S.nC i))[j]?:=by
 have hil:i<m.chunks.length:=(List.getElem?_eq_some_iff.1 hs).1;have hr:=h.row;rcases hr.2 with⟨e,h0⟩ | ⟨gf,cap,cur,e,_,hh,q1,q2,q3,q4⟩
 ·omega
 injection e with e1 _ _
 refine⟨gf,cur,e1,hh,fun j hj=>?_⟩;have hm:(m.chunks.map (·.first))[i]?=some s.first:=by rw [List.getElem?_map,hs]; rfl
 have hg:=Q38 S.f S.nA S.nC (m.chunks.map (·.first)) 0 i s.first hm;rw [zL] at hg;have ht:∀ q,q<m.chunks.length*2->cur[q]?=(Q1B S.f S.nA S.nC 0 (m.chunks.map (·.first)))[q]?:=fun q hq=>by rw [<- q4,zK,if_pos hq,zM]
 obtain rfl | rfl:j=0\/j=1:=by omega
 ·rw [Nat.add_zero,ht _ (by omega),hg.1]; rfl
 rw [ht _ (by omega),hg.2]; rfl
theorem Qbr {A:Option zA} {n c:Nat} {ms:List (Int×Int)} {k:Nat} {o z:Int} (h:w.ownsRow 0 168 2 (.slice A n c) n (Q0H ms)) (hk:ms[k]?=some (o,z)):∃ gm cur,A=some ⟨gm,0,none⟩/\Blk w gm 168 cur/\cur[k*2]?=some (.int .i64 o)/\cur[k*2+1]?=some (.int .i64 z):=by
 obtain⟨hkl,hke⟩:=List.getElem?_eq_some_iff.1 hk;have hl:=h.1;rw [Q40] at hl;rcases h.2 with⟨e,h0⟩ | ⟨gm,cap,cur,e,_,hh,q1,q2,q3,q4⟩
 ·omega
 injection e with e _ _
 have hget:=Q3f ms k hkl;rw [hke] at hget;have ht:∀ q,q<n*2->cur[q]?=(Q0H ms)[q]?:=fun q hq=>by rw [<- q4,zK,if_pos hq,zM]
 exact⟨gm,cur,e,hh,by rw [ht _ (by omega),hget.1]; rfl,by rw [ht _ (by omega),hget.2]; rfl⟩
end
def RW (m:AM) (S:RASl) (g b:Nat):Prop:=b=g\/∃ i,i<2/\(zP (S.mA i) (Q1s m i).length (S.mC i)).ownBlock=some b
structure Q7f (m:AM) (S:RASl) (g:Nat):Prop where
 first:∀ i s,m.chunks[i]?=some s->∀ a,0<s.first.length->S.nA i=some a->¬ RW m S g a.block
 nodes:∀ i,i<4->∀ a,0<(Q0B m i).2.nodes.length->S.lA i=some a->¬ RW m S g a.block
def RAWr (w:zB) (g:Nat) (N:Nat->Prop) (m:AM):Prop:=∃ S,Q1r w g N m S/\Q7f m S g
theorem RAWr.mono {w:zB} {g:Nat} {N N':Nat->Prop} {m:AM} (h:RAWr w g N m) (hN:∀ b,b<w.heap.size->N' b->N b):RAWr w g N' m:=h.imp fun S hS=>⟨hS.1.mono hN,hS.2⟩
end
end Go.Proofs.YtcpngeiahgoacaaGreat
