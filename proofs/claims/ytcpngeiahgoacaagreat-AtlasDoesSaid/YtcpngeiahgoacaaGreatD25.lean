/- Parts of the proof, in one text: RaU. -/
import Derived.Test.YtcpngeiahgoacaaGreatD24
import Derived.Test.YtcpngeiahgoacaaGreatD17
import Derived.Test.YtcpngeiahgoacaaGreatD22
import Derived.Test.YtcpngeiahgoacaaGreatD8
namespace Go.Proofs.YtcpngeiahgoacaaGreat
set_option linter.unusedVariables false
set_option linter.unusedSimpArgs false
set_option maxRecDepth 100000
set_option maxHeartbeats 16000000
section
open Go.RowKit Go.Maps
attribute [local irreducible] wpList Q0i
structure Qas (wd:World) (g:Nat) (N:Nat->Prop) (m p1:AM) (an:Ans) (A:Option Addr) (c:Nat) (W:World):Prop where
 own:OwnN W wd.heap.size (.slice A an.nodes.length c) an.nodes
 dat:∃ S,Q1a W g N p1 S/\Q5m p1 S g/\(an.nodes≠[]->∀ b,RW p1 S g b->b<wd.heap.size)
 only:Only (fun b=>¬ N b) wd W
theorem Qas.below {wd W W':World} {g c:Nat} {N:Nat->Prop} {m p1:AM} {an:Ans} {A:Option Addr} (h:Qas wd g N m p1 an A c W) (hb:Below W.heap.size W W'):Qas wd g N m p1 an A c W':=by
 obtain⟨S,h1,h2,h3⟩:=h.dat;exact⟨h.own.below_ hb,⟨S,h1.below hb,h2,h3⟩,h.only.trans (Only.of_below hb)⟩
theorem Qas.of {wd W w':World} {g c:Nat} {N:Nat->Prop} {m p1:AM} {an:Ans} {A:Option Addr} {S:RASl} (hd:Q1a wd g N m S) (hp:Q5m m S g) (hb:Below wd.heap.size wd W) (h1:OwnN w' W.heap.size (.slice A an.nodes.length c) an.nodes) (h2:RAWr w' g N p1) (h3:Only (fun b=>¬ N b) W w') (h4:an.nodes≠[]->p1=m/\Below W.heap.size W w'):Qas wd g N m p1 an A c w':=by
 refine⟨OwnN.more h1 hb.size,?_,(Only.of_below hb).trans h3⟩;by_cases hn:an.nodes=[]
 ·obtain⟨S',q1,q2⟩:=h2;exact⟨S',q1,q2,fun e=>absurd hn e⟩
 ·obtain⟨rfl,q⟩:=h4 hn;refine⟨S,hd.below (hb.trans (q.mono hb.size)),hp,fun _ b hr=>?_⟩;rcases hr with e | ⟨i,hi,e⟩
  ·have:=hd.cells.lt; omega
  ·exact(Q0a (hd.mv i hi) e).2
theorem Q1a.toldD {W W2:World} {g j st c B:Nat} {N:Nat->Prop} {p:AM} {a:Ans} {A:Option Addr} {S:RASl} {C:Array Value} (hd:Q1a W g N p S) (hp:Q5m p S g) (hj:j<4) (ho:OwnN W B (.slice A a.nodes.length c) a.nodes) (hB:∀ b,N b->b<B) (hrw:a.nodes≠[]->∀ b,RW p S g b->b<B) (hT:Only (fun b=>b=g) W W2) (hBk:Blk W2 g 153 C) (hC:C.size=23) (hCq:∀ q,q<23->C[q]?=if q=3+j then some (.int .i64 (st:Int)) else if 7+j*4<=q/\q<11+j*4 then(raN a A c)[q - (7+j*4)]? else(Q1G p S)[q]?) (hok:AOk (lsQ p j st a)):RAWr W2 g N (lsQ p j st a):=by
 have ho':OwnN W2 B (.slice A a.nodes.length c) a.nodes:=ho.keep_ fun b hb'=>hT.block b (Q0a ho hb').2 fun e=>Q09 ho hd.cells (by decide) (by rw [hb',e])
 obtain⟨A',c',e1,hf⟩:=FarN.of_own (w0:=W) (N:=N) ho' hB;injection e1 with e1 _ e2
 subst e1 e2;obtain⟨h1,h2⟩:=hd.told hp hj (st:=st) (a:=a) (A:=A) (c:=c) hT.size (fun b hl hne=>hT.block b hl hne) hBk hC hCq hf (fun ad h0 ha hr=>by
  have hge:=(Q0a ho (b:=ad.block) (by rw [ha]; rfl)).1;have:=hrw (fun e=>by rw [e] at h0; simp at h0) _ hr;omega) hok
 exact⟨_,h1,h2⟩
theorem told_at2 {C D:Array Value} {j:Nat} {st:Int} (hC:C.size=23) (hD:D.size=4) (hj:j<4) (q:Nat) (hq:q<23):((spl C (7+j*4) D.toList).setIfInBounds (3+j) (.int .i64 st))[q]?=if q=3+j then some (.int .i64 st) else if 7+j*4<=q/\q<11+j*4 then D[q - (7+j*4)]? else C[q]?:=by
 have hl:D.toList.length=4:=by simpa using hD
 have hs:(spl C (7+j*4) D.toList).size=23:=by rw [Q3P (by rw [hl]; omega)]; exact hC
 by_cases e:q=3+j
 ·subst e;rw [if_pos rfl,Array.getElem?_setIfInBounds,if_pos rfl,if_pos (by omega)]
 ·rw [if_neg e,Array.getElem?_setIfInBounds,if_neg (by omega),Q4I (by rw [hl]; omega),hl];by_cases e2:7+j*4<=q/\q<11+j*4
  ·rw [if_pos e2,if_pos (by omega),Array.getElem?_toList]
  ·rw [if_neg e2,if_neg (by omega)]
theorem spl23 {p:AM} {S:RASl} {D:Array Value} {j:Nat} (hD:D.size=4) (hj:j<4):(spl (Q1G p S) (7+j*4) D.toList).size=23:=by
 have hl:D.toList.length=4:=by simpa using hD
 rw [Q3P (by rw [hl,Q2y]; omega),Q2y]
def QaC (w:World) (g:Nat) (N:Nat->Prop) (p:AM×Ans×Nat) (e:Ending) (w':World):Prop:=∃ A c,e=.returned (.tuple #[.agg (anC (p.2.1.err:Int) none 0 0 (p.2.1.epoch:Int) A p.2.1.nodes.length c),.int .i64 (p.2.2:Int)])/\OwnN w' w.heap.size (.slice A p.2.1.nodes.length c) p.2.1.nodes/\RAWr w' g N p.1/\Only (fun b=>¬ N b) w w'
structure RDoMid (w:World) (g:Nat) (N N':Nat->Prop) (m':AM) (g4:Nat) (W:World):Prop where
 rw_:RAWr W g N' m'
 only:Only (fun b=>¬ N b) w W
 k4:Blk W g4 47 (anC 0 none 0 0 0 none 0 0)
theorem Qba (w:World) (g:Nat) (N:Nat->Prop) (m:AM) (x:Wish) (A:Option Addr) (n c:Nat) (A':Option Addr) (n' c':Nat) (B:Nat) (h:RAWr w g N m) (hN:∀ b,N b->b<w.heap.size) (hx:Q0Y w B x A n c A' n' c') (hB:B<=w.heap.size) :
 Calls Tryz.prog 44 #[.pointer (some ⟨g,0,none⟩),.agg (Q05 x A n c A' n' c')] w (QaC w g N (doQ m x)):=by
 obtain⟨S,hd,hp⟩:=h;have hX:Below w.heap.size w ((w.alloc (.cells (Q05 x A n c A' n' c') 44)).alloc (.cells (anC 0 none 0 0 0 none 0 0) 47)):=((Below.refl _ _).alloc (Nat.le_refl _) _).alloc (by simp) _;have k3:Blk ((w.alloc (.cells (Q05 x A n c A' n' c') 44)).alloc (.cells (anC 0 none 0 0 0 none 0 0) 47)) w.heap.size 44 (Q05 x A n c A' n' c'):=(Blk.newAt rfl).alloc _;have k4:Blk ((w.alloc (.cells (Q05 x A n c A' n' c') 44)).alloc (.cells (anC 0 none 0 0 0 none 0 0) 47)) (w.heap.size+1) 47 (anC 0 none 0 0 0 none 0 0):=Blk.newAt (by simp);have hz1:((w.alloc (.cells (Q05 x A n c A' n' c') 44)).alloc (.cells (anC 0 none 0 0 0 none 0 0) 47)).heap.size=w.heap.size+2:=by simp
 obtain⟨N',hN'⟩:∃ N':Nat->Prop,N'=fun b=>N b\/b=w.heap.size\/b=w.heap.size+1:=⟨_,rfl⟩
 have HD:=Lib.hid (show ∀ (W:World),Below w.heap.size w W->Q1a W g N' m S from fun W hb=>(hd.mono (fun b hb hn=>by
  rw [hN'] at hn;rcases hn with hn | hn | hn
  ·exact hn
  ·omega
  ·omega)).below hb)
 have HNN:=Lib.hid (show ∀ b,N b->N' b from fun b hb=>by rw [hN']; exact .inl hb);have HNL:=Lib.hid (show ∀ (W:World),w.heap.size+2<=W.heap.size->∀ b,N' b->b<W.heap.size from fun W hW b hb=>by
  rw [hN'] at hb;rcases hb with hb | hb | hb
  ·have:=hN b hb; omega
  ·omega
  ·omega)
 have HNG:=Lib.hid (show N' (w.heap.size+1) by rw [hN']; exact .inr (.inr rfl));have HNG3:=Lib.hid (show N' w.heap.size by rw [hN']; exact .inr (.inl rfl));have HNO:=Lib.hid (show ∀ b,N b->b<w.heap.size from hN);have HP:=Lib.hid hp;have HX:=Lib.hid hX;have K3:=Lib.hid k3;have K4:=Lib.hid k4;have HZ1:=Lib.hid hz1;have HCK:=Lib.hid (fun(W:World) (hb:Below w.heap.size w W)=>Q5L x A n c A' n' c' W B (hx.below (hb.mono hB)) (by have:=hb.size; omega));have HQE:=Lib.hid (show inQ x=(mayB x && decide (x.kind=3\/x.kind=4)) from rfl);have HANSX:=Lib.hid (fun(W:World) (hW:w.heap.size+2<=W.heap.size) (hb:Below w.heap.size w W) (hq:inQ x=true)=>Q7e W g N' m x A n c A' n' c' ⟨S,HD.out W hb,hp⟩ (HNL.out W hW) hq);obtain⟨P,hP⟩:∃ P,P=QaC w g N (doQ m x):=⟨_,rfl⟩;rw [<- hP];have HPB:=Lib.hid (show ∀ w',inQ x=false->Below w.heap.size w w'->P (.returned (.tuple #[.agg (anC 0 none 0 0 0 none 0 0),.int .i64 2])) w' from fun w' hq hb=>by
  rw [hP];unfold doQ;rw [if_neg (by rw [hq]; simp)];exact⟨none,0,rfl,OwnN.nil_ _ _,⟨S,hd.below hb,hp⟩,Only.of_below hb⟩)
 have HPG:=Lib.hid (show ∀ w' A c (a:Ans),inQ x=true->a=(oldQ (didQ m x) x).1->OwnN w' w.heap.size (.slice A a.nodes.length c) a.nodes->RAWr w' g N (didQ m x)->Only (fun b=>¬ N b) w w'->P (.returned (.tuple #[.agg (anC (a.err:Int) none 0 0 (a.epoch:Int) A a.nodes.length c),.int .i64 0])) w' from fun w' A c a hq ha ho hr hon=>by
  rw [hP];unfold doQ;rw [if_pos hq];subst ha;exact⟨A,c,rfl,ho,hr,hon⟩)
 obtain⟨g3,hg3⟩:∃ b,b=w.heap.size:=⟨_,rfl⟩;obtain⟨g4,hg4⟩:∃ b,b=w.heap.size+1:=⟨_,rfl⟩;have hgl:=hd.cells.lt;obtain⟨W0,hW0⟩:∃ W0,W0=Q05 x A n c A' n' c':=⟨_,rfl⟩;have hws:W0.size=10:=by rw [hW0]; simp [Q05]
 have hw4:W0[4]?=some (.int .i64 x.kind):=by rw [hW0]; rfl
 have hw0:W0[0]?=some (.int .i64 x.client):=by rw [hW0]; rfl
 have hw1':W0[1]?=some (.int .i64 x.stamp):=by rw [hW0]; rfl
 rw [<- hW0] at HX K3 K4 HZ1 HCK HANSX ⊢;have HW4:=Lib.hid hw4;have HW00:=Lib.hid hw0;have HW1:=Lib.hid hw1';have HWS:=Lib.hid hws;clear hN hN' hd hp hX k3 k4 hz1 hP hx hW0 hw4 hw0 hw1';go_enter Tryz.func44,Tryz.ntmps44
 go_upto_region 1 with fail
 rw [<- anZ];generalize World.alloc (World.alloc w _) _=w1 at HX K3 K4 HZ1 ⊢;rw [<- hg4] at K4 HNG ⊢;rw [<- hg3] at K3 HNG3 ⊢;have hz1:=HZ1.out;have hgw3:w.heap.size<=g3:=by omega
 have hgw4:w.heap.size<=g4:=by omega
 have hg34:g3≠g4:=by omega
 have hgg4:g≠g4:=by omega
 have hgg3:g≠g3:=by omega
 have hw1:w.heap.size<=w1.heap.size:=by omega
 have hw12:w.heap.size+2<=w1.heap.size:=by omega
 have hl3:=K3.out.lt;have hl4:=K4.out.lt;clear hg3 hg4 HZ1 hz1;obtain⟨qb,hqb⟩:∃ b,b=inQ x:=⟨_,rfl⟩;have HQB:=Lib.hid hqb;clear hqb
 go_cut [20] (fun s20 wx=>s20=.bool (!qb)/\Below w1.heap.size w1 wx)
 case first =>
  go_wp2_with (refine Q03 (o:=⟨some 8,_,_,_,_,_⟩) rfl 44 (.tmp 3) rfl g3 0 10 rfl 44 _ W0 _ K3.out Tryz.underlying44 rfl rfl hws (fun _ _=>by rw [Nat.zero_add]; try rfl) ?_)
  refine(HCK.out w1 HX.out).mono ?_;rintro _ w2 ⟨rfl,hb2⟩;have HB2:=Lib.hid hb2;have K32:=Lib.hid (K3.out.below' hb2);have e4:w2.cell? ⟨g3,4,none⟩=some (.int .i64 x.kind):=(K32.out.cell 4).trans HW4.out;clear hb2 K3 K4 HX HCK;by_cases hmb:mayB x=true
  ·rw [if_pos hmb];by_cases hk3:x.kind=3
   ·have hq:qb=true:=by rw [HQB.out,HQE.out,hmb,decide_eq_true (.inl hk3)]; rfl
    have hk3b:(x.kind != 3)=false:=by simp [hk3]
    subst hq;clear hmb hk3;go_wp2_with fail
    go_meet
    exact⟨rfl,HB2.out⟩
   ·have hk3b:(x.kind != 3)=true:=by simpa using hk3
    by_cases hk4:x.kind=4
    ·have hq:qb=true:=by rw [HQB.out,HQE.out,hmb,decide_eq_true (.inr hk4)]; rfl
     have hk4b:(x.kind != 4)=false:=by simp [hk4]
     subst hq;clear hmb hk3 hk4;go_wp2_with fail
     go_meet
     exact⟨rfl,HB2.out⟩
    ·have hq:qb=false:=by rw [HQB.out,HQE.out,hmb,decide_eq_false (by omega)]; rfl
     have hk4b:(x.kind != 4)=true:=by simpa using hk4
     subst hq;clear hmb hk3 hk4;go_wp2_with fail
     go_meet
     exact⟨rfl,HB2.out⟩
  ·rw [if_neg hmb];have hq:qb=false:=by
    rw [HQB.out,HQE.out];cases hmq:mayB x with
    | true=>exact absurd hmq hmb
    | false=>rfl
   subst hq;clear hmb;go_wp2_with fail
   go_meet
   exact⟨rfl,HB2.out⟩
 case rest =>
  obtain⟨rfl,hb2⟩:=hcut;have HB2:=Lib.hid (HX.out.trans (hb2.mono hw1));have K32:=Lib.hid (K3.out.below' hb2);have K42:=Lib.hid (K4.out.below' hb2);have hs12:=hb2.size;have hs2:=HB2.out.size;have hl32:=K32.out.lt;have hl42:=K42.out.lt;clear hb2 K3 K4 HX HCK;cases qb with
  | false =>
   go_wp2_with (refine Q01 (o:=⟨none,_,_,_,_,_⟩) rfl 47 (.tmp 4) (.tmp 21) rfl g4 0 (anC 0 none 0 0 0 none 0 0) rfl rfl 47 _ K42.out (Q0P _ _ _ _ _ _ _ _) (by simp [anC]) (Q0G _ _ _ _ _ _ _ _) ?_; intro w7 hT7 hD7; rw [Q19 _ rfl] at hD7)
   refine bodyPost_ret (Q0b rfl _ _ g4 4 47 _ _ rfl hD7 Tryz.underlying47 rfl rfl rfl) rfl ?_;exact HPB.out w7 HQB.out.symm (hT7.below HB2.out hgw4)
  | true =>
   have hq:inQ x=true:=HQB.out.symm;have HQ:=Lib.hid hq;obtain⟨cl1,cl2,st1,_⟩:=Q2L hq;obtain⟨j,hj⟩:∃ j,j=(x.client - 31).toNat:=⟨_,rfl⟩;have hjc:x.client - 31=(j:Int):=by omega
   have hj4:j<4:=by omega
   have hjI:(j:Int)<4:=by omega
   have HJ:=Lib.hid hj;have HJ4:=Lib.hid hjI;have e0:wc.cell? ⟨g3,0,none⟩=some (.int .i64 x.client):=(K32.out.cell 0).trans HW00.out;have e1:wc.cell? ⟨g3,1,none⟩=some (.int .i64 x.stamp):=(K32.out.cell 1).trans HW1.out;obtain⟨st,hst⟩:∃ k,k=(Q0u m j).1:=⟨_,rfl⟩;have cst:wc.cell? ⟨g,3+j,none⟩=some (.int .i64 (st:Int)):=by
    rw [hst];exact(HD.out wc HB2.out).cStamp j hj4
   have HST:=Lib.hid hst;have hsw:w.heap.size+2<=wc.heap.size:=by omega
   clear hq hj hst;go_upto_region 4 with fail
   go_quiet (fail)
   have HBD1:=Lib.hid (HB2.out.trans ((Q0z (Below.refl wc.heap.size wc) nq).mono hs2));have k3d:=K32.out.drewN nq;have k4d:=K42.out.drewN nq;have hsd:w.heap.size+2<=(wc.drewN nq).heap.size:=hsw;have e1:(wc.drewN nq).cell? ⟨g3,1,none⟩=some (.int .i64 x.stamp):=e1;have cst:(wc.drewN nq).cell? ⟨g,3+j,none⟩=some (.int .i64 (st:Int)):=cst;generalize wc.drewN nq=wd1 at HBD1 k3d k4d hsd e1 cst ⊢;clear e0 K32 K42;by_cases hlt:x.stamp<(st:Int)
   ·have hold:(oldQ (didQ m x) x).1=errA 172 0:=by
     have hdid:didQ m x=m:=by unfold didQ; rw [if_neg (by rw [<- HJ.out,<- HST.out]; omega)]
     rw [hdid];show (if x.stamp<((Q0u m (x.client - 31).toNat).1:Int) then(errA 172 0,true) else if ((Q0u m (x.client - 31).toNat).1:Int)<x.stamp then(okA,false) else((Q0u m (x.client - 31).toNat).2,true)).1=_;rw [<- HJ.out,<- HST.out,if_pos hlt]
    have hdid:didQ m x=m:=by unfold didQ; rw [if_neg (by rw [<- HJ.out,<- HST.out]; omega)]
    have HOLD:=Lib.hid hold;have HDID:=Lib.hid hdid;have K4D:=Lib.hid k4d;rw [decide_eq_true hlt];clear hold hdid k3d k4d e1 cst hlt;go_wp2_with (refine Q01 (o:=⟨none,_,_,_,_,_⟩) rfl 47 (.tmp 4) (.tmp 34) rfl g4 0 (errD 172 0) rfl rfl 47 _ K4D.out (Q0P _ _ _ _ _ _ _ _) (by simp [anC,errD]) (Q0G _ _ _ _ _ _ _ _) ?_; intro w7 hT7 hD7; unfold errD at hD7; rw [Q19 _ rfl] at hD7)
    refine bodyPost_ret (Q0b rfl _ _ g4 4 47 _ _ rfl hD7 Tryz.underlying47 rfl rfl rfl) rfl ?_;have hb7:=hT7.below HBD1.out hgw4;exact HPG.out w7 none 0 (errA 172 0) HQ.out HOLD.out.symm (OwnN.nil_ _ _) (by rw [HDID.out]; exact⟨S,(HD.out w7 hb7).mono (fun b _ hb=>HNN.out b hb),HP.out⟩) (Only.of_below hb7)
   ·rw [decide_eq_false hlt];go_upto_region 6 with fail
    go_quiet (fail)
    have HBD:=Lib.hid (HBD1.out.trans ((Q0z (Below.refl wd1.heap.size wd1) nq).mono (by omega)));have k3e:=k3d.drewN nq;have k4e:=k4d.drewN nq;have hse:w.heap.size+2<=(wd1.drewN nq).heap.size:=hsd;generalize wd1.drewN nq=wd at HBD k3e k4e hse ⊢;have K3D:=Lib.hid k3e;have K4D:=Lib.hid k4e;have HNG':=Lib.hid (show ¬ N g from fun hn=>(HD.out w (Below.refl _ _)).out (HNN.out g hn));have HOLD:=Lib.hid (show (oldQ (didQ m x) x).1=(Q0u (didQ m x) j).2 from by
     have hst2:((Q0u (didQ m x) (x.client - 31).toNat).1:Int)=x.stamp:=by
      by_cases hnew:(st:Int)<x.stamp
      ·have hdid:didQ m x=lsQ (Q0s m x).1 j x.stamp.toNat (Q0s m x).2:=Q8G HJ.out (by rw [<- HST.out]; exact hnew) HQ.out (HD.out w (Below.refl _ _)).ok;have hck:=(HD.out w (Below.refl _ _)).ok.cok.answered HQ.out;rw [hdid,<- HJ.out,Q3T (by rw [hck.2.1]; exact(HD.out w (Below.refl _ _)).ok.last) hj4];show ((x.stamp.toNat:Nat):Int)=_;omega
      ·have hdid:didQ m x=m:=by unfold didQ; rw [if_neg (by rw [<- HJ.out,<- HST.out]; exact hnew)]
       rw [hdid,<- HJ.out,<- HST.out];omega
     show (if x.stamp<((Q0u (didQ m x) (x.client - 31).toNat).1:Int) then(errA 172 0,true) else if ((Q0u (didQ m x) (x.client - 31).toNat).1:Int)<x.stamp then(okA,false) else((Q0u (didQ m x) (x.client - 31).toNat).2,true)).1=_;rw [hst2,if_neg (by omega),if_neg (by omega),<- HJ.out])
    clear k3e k4e k3d k4d HBD1 e1 cst
    go_upto_if 43 with(fail)
    go_cut [6] (fun s6 wx=>s6=.int .i64 (j:Int)/\RDoMid w g N N' (didQ m x) g4 wx)
    case first =>
     by_cases hnew:(st:Int)<x.stamp
     ·rw [decide_eq_true hnew];obtain⟨sn,hsn⟩:∃ k:Nat,k=x.stamp.toNat:=⟨_,rfl⟩;have hsx:x.stamp=(sn:Int):=by omega
      have HSN:=Lib.hid (show W0[1]?=some (.int .i64 (sn:Int)) by rw [HW1.out,hsx]);have HDID:=Lib.hid (show didQ m x=lsQ (Q0s m x).1 j sn (Q0s m x).2 by rw [hsn]; exact Q8G HJ.out (by rw [<- HST.out]; exact hnew) HQ.out (HD.out w (Below.refl _ _)).ok);have HOK:=Lib.hid ((HD.out w (Below.refl _ _)).ok.did HQ.out);have HANS:=Lib.hid (fun(W:World) (hb:Below wd.heap.size wd W)=>HANSX.out W (by have:=hb.size; omega) (HBD.out.trans (hb.mono HBD.out.size)) HQ.out);unfold Q6u at HANS;obtain⟨p1,hp1⟩:∃ q,q=(Q0s m x).1:=⟨_,rfl⟩;obtain⟨an,han⟩:∃ q,q=(Q0s m x).2:=⟨_,rfl⟩;simp only [<- hp1,<- han] at HANS;rw [<- hp1,<- han] at HDID;have HD4:=Lib.hid (HD.out wd HBD.out);have HNL2:=Lib.hid (HNL.out wd hse);clear hsn hsx hnew hp1 han HANSX;go_upto_region 7 with fail
      refine Q2i 8 70 (fun jx W v=>match jx with | 0=>v=.pointer (some ⟨g,0,none⟩) | 1=>v=.int .i64 (j:Int) | 2=>v=.pointer (some ⟨g,0,none⟩) | 3=>v=.agg W0 | 4=>∃ A9 c9,v=.agg (anC (an.err:Int) none 0 0 (an.epoch:Int) A9 an.nodes.length c9)/\Qas wd g N' m p1 an A9 c9 W | 5=>v=.pointer (some ⟨g,0,none⟩) | 6=>v=.pointer (some ⟨g,7,none⟩) | 7=>v=.pointer (some ⟨g,7+j*4,none⟩) | _=>True) (fun s W=>match s with | 0=>Below wd.heap.size wd W/\Blk W g3 44 W0 | _=>True) (fun _ _=>True) [4] (fun _=>[]) (fun _=>[]) [44,45,46,47,48,49,50,51] (by kernel_rfl) (by kernel_rfl) (by kernel_rfl) (by kernel_rfl) (by kernel_rfl) (by kernel_rfl) (by first | rfl | simp) (by kernel_rfl) (fun jx=>?last) ?lastR ?jay ⟨Below.refl _ _,K3D.out⟩ ?heads ?_
      case last =>
       match jx with
       | 0 | 1 | 2 | 3 | 5 | 6 | 7 | jx+8=>exact Q16.pure _
       | 4=>exact fun W W' v ⟨A9,c9,h1,h2⟩ hb=>⟨A9,c9,h1,h2.below hb⟩
      case lastR =>
       intro s jx W W' v hsl hdd hlt hs hj hp hr;match jx with
       | 0 | 1 | 2 | 3 | 5 | 6 | 7 | jx+8=>exact hp
       | 4=>exact absurd (by simp at hsl; subst hsl; rfl) (hs 0 (by simp at hsl; omega))
      case jay =>
       intro s W W' hj hb;match s,hj with
       | 0,hj=>exact⟨hj.1.trans (hb.mono hj.1.size),hj.2.below' hb⟩
       | s+1,_=>trivial
      case heads =>
       simp only [List.take_succ_cons,List.take_zero];refine⟨?_,?_,?_,?_,?_,?_,?_,?_,trivial⟩
       ·rw [if_neg (by decide)];intro s a W hst hj hkp hd;have e0:a.tmps[0]?.getD undef=.pointer (some ⟨g,0,none⟩):=hkp.get (by kernel_rfl) rfl;exact Q00 rfl _ (by go_simp) rfl
       ·rw [if_neg (by decide)];intro s a W hst hj hkp hd;have e0:a.tmps[6]?.getD undef=.int .i64 (j:Int):=hkp.get (by kernel_rfl) rfl;exact Q00 rfl _ (by go_simp) rfl
       ·rw [if_neg (by decide)];intro s a W hst hj hkp hd;have e0:a.tmps[0]?.getD undef=.pointer (some ⟨g,0,none⟩):=hkp.get (by kernel_rfl) rfl;exact Q00 rfl _ (by go_simp) rfl
       ·rw [if_neg (by decide)];intro s a W hst hj hkp hd;obtain rfl:=Q11 hst rfl (by kernel_rfl);have hb:Below wd.heap.size wd W:=hj.1;have hk3:Blk W g3 44 W0:=hj.2;have e0:a.eval (.tmp 3)=.pointer (some ⟨g3,0,none⟩):=by have:=hkp.at_ (d:=3) (by kernel_rfl); rw [this]; rfl
        exact Q00 rfl (.agg W0) (Q0m 44 (.tmp 3) rfl g3 0 10 e0 44 _ W0 _ hk3 Tryz.underlying44 rfl rfl HWS.out (fun _ _=>by rw [Nat.zero_add])) rfl
       ·rw [if_pos (by decide)];intro s a W hs hj hkp hd;have e0:(_:Value)=.pointer (some ⟨g,0,none⟩):=(hd 2 (by kernel_rfl)).get 46 rfl rfl;have e1:(_:Value)=.agg W0:=(hd 3 (by kernel_rfl)).get 47 rfl rfl;obtain rfl:=Q8P hs;have hb0:Below wd.heap.size wd W:=hj.1;refine Q47 rfl 100 #[.pointer (some ⟨g,0,none⟩),.agg W0] (by go_simp) ((HANS.out W hb0).mono ?_);rintro e w' ⟨A9,c9,rfl,h1,h2,h3,h4⟩;exact⟨_,rfl,trivial,trivial,A9,c9,rfl,Qas.of HD4.out HP.out hb0 h1 h2 h3 h4⟩
       ·rw [if_neg (by decide)];intro s a W hst hj hkp hd;have e0:(_:Value)=.pointer (some ⟨g,0,none⟩):=(hd 0 (by kernel_rfl)).get 44 rfl rfl;exact Q00 rfl _ (by go_simp) rfl
       ·rw [if_neg (by decide)];intro s a W hst hj hkp hd;have e0:(_:Value)=.pointer (some ⟨g,0,none⟩):=(hd 5 (by kernel_rfl)).get 49 rfl rfl;exact Q00 rfl _ (by go_simp) rfl
       ·rw [if_neg (by decide)];intro s a W hst hj hkp hd;have e0:(_:Value)=.pointer (some ⟨g,7,none⟩):=(hd 6 (by kernel_rfl)).get 50 rfl rfl;have e1:(_:Value)=.int .i64 (j:Int):=(hd 1 (by kernel_rfl)).get 45 rfl rfl;have hlt:=HJ4.out;exact Q00 rfl _ (by go_simp) rfl
      intro f7 W hj7 hd7;obtain⟨A9,c9,f48,hai⟩:=hd7 4 (by omega) (by decide) _ 48 rfl rfl;have f51:f7 51=.pointer (some ⟨g,7+j*4,none⟩):=hd7 7 (by omega) (by decide) _ 51 rfl rfl;obtain⟨S',hd',hp',hrw'⟩:=hai.dat;obtain⟨D,hDe⟩:∃ D,D=raN an A9 c9:=⟨_,rfl⟩;have hD2:anC (an.err:Int) none 0 0 (an.epoch:Int) A9 an.nodes.length c9=D:=hDe.symm;rw [hD2] at f48;have hDs:D.size=4:=by rw [hDe]; rfl
      have hDo:D.all (·.oneCell')=true:=by rw [hDe]; simp [raN,anC,Value.oneCell']
      have HDE:=Lib.hid hDe;have HAI:=Lib.hid hai;have HD':=Lib.hid hd';have HP':=Lib.hid hp';have HRW:=Lib.hid hrw';have K3W:=Lib.hid (hai.only.blk K3D.out (fun hn=>hn HNG3.out));have K4W:=Lib.hid (hai.only.blk K4D.out (fun hn=>hn HNG.out));clear hj7 hd7 hai hd' hp' hrw' hDe hD2 HANS;simp only [Q0H,List.drop_succ_cons,List.drop_zero,f48,f51];try simp only [Act.put,sA1,sA2,sA3]
      go_upto_region 8 with(refine Q01 (o:=⟨none,_,_,_,_,_⟩) rfl 47 (.tmp 51) (.tmp 48) rfl g (7+j*4) D rfl rfl 153 _ HD'.out.cells (by rw [hDs]; kernel_rfl) (by rw [hDs,Q2y]; omega) hDo ?_; intro w8 hT8 hB8)
      have K38:=Lib.hid (hT8.blk K3W.out (fun e=>hgg3 e.symm));have CST:=Lib.hid (fun(W':World) (hb:Below w8.heap.size w8 W')=>((K38.out.below' hb).cell 1).trans HSN.out);have HT8:=Lib.hid hT8;have HB8:=Lib.hid hB8;clear hT8 hB8;refine Q0l 7 70 (fun jx W v=>match jx with | 0=>v=.pointer (some ⟨g,0,none⟩) | 1=>v=.int .i64 (j:Int) | 2=>v=.pointer (some ⟨g3,1,none⟩) | 3=>v=.int .i64 (sn:Int) | 4=>v=.pointer (some ⟨g,0,none⟩) | 5=>v=.pointer (some ⟨g,3,none⟩) | 6=>v=.pointer (some ⟨g,3+j,none⟩) | _=>True) [52,53,54,55,56,57,58] (by kernel_rfl) (by kernel_rfl) (by kernel_rfl) (by first | rfl | simp) (by kernel_rfl) (fun jx=>?last) ?heads ?_
      case last =>
       match jx with
       | 0 | 1 | 2 | 3 | 4 | 5 | 6 | jx+7=>exact Q16.pure _
      case heads =>
       simp only [List.take_succ_cons,List.take_zero];refine⟨?_,?_,?_,?_,?_,?_,?_,trivial⟩;all_goals intro a W hb hkp hd
       ·have e0:a.tmps[0]?.getD undef=.pointer (some ⟨g,0,none⟩):=hkp.get (by kernel_rfl) rfl;exact Q00 rfl _ (by go_simp) rfl
       ·have e0:a.tmps[6]?.getD undef=.int .i64 (j:Int):=hkp.get (by kernel_rfl) rfl;exact Q00 rfl _ (by go_simp) rfl
       ·have e0:a.tmps[3]?.getD undef=.pointer (some ⟨g3,0,none⟩):=hkp.get (by kernel_rfl) rfl;exact Q00 rfl _ (by go_simp) rfl
       ·have e0:(_:Value)=.pointer (some ⟨g3,1,none⟩):=(hd 2 (by kernel_rfl)).get 54 rfl rfl;have cc:=CST.out W hb;exact Q00 rfl _ (by go_simp) rfl
       ·have e0:(_:Value)=.pointer (some ⟨g,0,none⟩):=(hd 0 (by kernel_rfl)).get 52 rfl rfl;exact Q00 rfl _ (by go_simp) rfl
       ·have e0:(_:Value)=.pointer (some ⟨g,0,none⟩):=(hd 4 (by kernel_rfl)).get 56 rfl rfl;exact Q00 rfl _ (by go_simp) rfl
       ·have e0:(_:Value)=.pointer (some ⟨g,3,none⟩):=(hd 5 (by kernel_rfl)).get 57 rfl rfl;have e1:(_:Value)=.int .i64 (j:Int):=(hd 1 (by kernel_rfl)).get 53 rfl rfl;have hlt:=HJ4.out;exact Q00 rfl _ (by go_simp) rfl
      intro f8 W8 hb8 hd8;have f55:f8 55=.int .i64 (sn:Int):=hd8 3 (by omega) _ 55 rfl rfl;have f58:f8 58=.pointer (some ⟨g,3+j,none⟩):=hd8 6 (by omega) _ 58 rfl rfl;have hbk8:=HB8.out.below' hb8;have cc8:∃ old,W8.cell? ⟨g,3+j,none⟩=some old:=⟨_,(hbk8.cell (3+j)).trans (Array.getElem?_eq_getElem (by rw [spl23 hDs hj4]; omega))⟩;obtain⟨old,cc8⟩:=cc8;have cf8:W8.frozen? ⟨g,3+j,none⟩=false:=hbk8.frozen (3+j);have HB8':=Lib.hid hb8;have HBK8:=Lib.hid hbk8;clear hb8 hd8 hbk8;simp only [Q0H,List.drop_succ_cons,List.drop_zero,f55,f58];try simp only [Act.put,sA1,sA2,sA3]
      go_wp2_with fail
      go_meet
      have hT9:=Q0c.setCell W8 ⟨g,3+j,none⟩ (.int .i64 (sn:Int));have hon:Only (fun b=>b=g) W (W8.setCell ⟨g,3+j,none⟩ (.int .i64 (sn:Int))):=(Only.of_turned (N:=fun b=>b=g) HT8.out rfl).trans ((Only.of_below HB8'.out).trans (Only.of_turned hT9 rfl));refine⟨rfl,⟨?_,?_,?_⟩⟩
      ·rw [HDID.out];exact HD'.out.toldD HP'.out hj4 HAI.out.own HNL2.out HRW.out hon (HBK8.out.set_ (3+j) _) (by rw [Array.size_setIfInBounds,spl23 hDs hj4]) (fun q hq=>by rw [HDE.out]; exact told_at2 (Q2y _ _) rfl hj4 q hq) (by rw [<- HDID.out]; exact HOK.out)
      ·exact(Only.of_below HBD.out).trans ((HAI.out.only.mono fun b _ hn hb=>hn (HNN.out b hb)).trans (hon.mono fun b _ e=>by rw [e]; exact HNG'.out))
      ·exact hon.blk K4W.out (fun e=>hgg4 e.symm)
     ·rw [decide_eq_false hnew];have hdid:didQ m x=m:=by unfold didQ; rw [if_neg (by rw [<- HJ.out,<- HST.out]; exact hnew)]
      have HDID:=Lib.hid hdid;clear hnew hdid;go_wp2_with fail
      go_meet
      exact⟨rfl,⟨by rw [HDID.out]; exact⟨S,HD.out wd HBD.out,HP.out⟩,Only.of_below HBD.out,K4D.out⟩⟩
    case rest =>
     obtain⟨rfl,hmid⟩:=hcut;obtain⟨S2,hd2,hp2⟩:=hmid.rw_;have HON:=Lib.hid hmid.only;have K4M:=Lib.hid hmid.k4;have hnod:=hd2.nodes j hj4;obtain⟨la,hla⟩:∃ q,q=(Q0u (didQ m x) j).2:=⟨_,rfl⟩;have HLA:=Lib.hid (hla.trans HOLD.out.symm);have hbound:=(hd2.ok.lst j).2.1.bound;rw [<- hla] at hnod hbound;obtain⟨A2,hA2⟩:∃ q,q=S2.lA j:=⟨_,rfl⟩;obtain⟨c2,hc2⟩:∃ q,q=S2.lC j:=⟨_,rfl⟩;rw [<- hA2,<- hc2] at hnod;obtain⟨D,hDe⟩:∃ D,D=raN la A2 c2:=⟨_,rfl⟩;have hDs:D.size=4:=by rw [hDe]; rfl
     have hDo:D.all (·.oneCell')=true:=by rw [hDe]; simp [raN,anC,Value.oneCell']
     have hDq:∀ q,q<4->(Q1G (didQ m x) S2)[7+j*4+q]?=D[q]?:=fun q hq=>by rw [Q6s _ _ _ _ hj4 hq,hDe,hla,hA2,hc2]
     have HDE:=Lib.hid hDe;have HD2:=Lib.hid hd2;have HP2:=Lib.hid hp2;have HNOD:=Lib.hid hnod;have HBND:=Lib.hid hbound;have hcs:=hmid.only.size;clear hmid hd2 hp2 hnod hla hA2 hc2 hDe hbound;go_upto_region 10 with(first
      | refine Q03 (o:=⟨some 64,_,_,_,_,_⟩) rfl 47 (.tmp 63) rfl g (7+j*4) 4 rfl 153 _ D _ HD2.out.cells Tryz.underlying47 rfl rfl hDs hDq ?_
      | (refine Q01 (o:=⟨none,_,_,_,_,_⟩) rfl 47 (.tmp 7) (.tmp 64) rfl wc.heap.size 0 D rfl rfl 47 (anC 0 none 0 0 0 none 0 0) (Blk.newAt rfl) (by rw [hDs]; kernel_rfl) (by rw [hDs]; simp [anC]) hDo ?_; intro w9 hT9 hD9))
     rw [Q08 _ _ (by rw [hDs]; rfl)] at hD9;have hb9:Below wc.heap.size wc w9:=hT9.below ((Below.refl _ _).alloc (Nat.le_refl _) _) (Nat.le_refl _);obtain⟨g7,hg7⟩:∃ b,b=wc.heap.size:=⟨_,rfl⟩;rw [<- hg7] at hD9 ⊢;have hg7w:wc.heap.size<=g7:=by omega
     have HB9:=Lib.hid hb9;have hs9:=hb9.size;have K7:=Lib.hid hD9;have hr9:=(HNOD.out.rd.below hb9).more (B':=w9.heap.size) hs9;obtain⟨ln,hln⟩:∃ k,k=la.nodes.length:=⟨_,rfl⟩;have HLN:=Lib.hid hln;rw [<- hln] at hr9;have HCI:=Lib.hid (Q4d A2 ln c2 la.nodes w9 w9.heap.size hr9 (Nat.le_refl _) (by have:=HBND.out.1; omega));have c73:w9.cell? ⟨g7,3,none⟩=some (.slice A2 ln c2):=(hD9.cell 3).trans (by rw [HDE.out,hln]; rfl);have hl4m:=K4M.out.lt;have hne74:g4≠g7:=by omega
     clear hT9 hD9 hb9 hg7 hr9 hln;go_wp2_with fail
     refine HCI.out.mono ?_;rintro _ w10 ⟨v,rfl,ho10,hb10⟩;obtain⟨A3,c3,hv,_⟩:=Q0v ho10;rw [<- HLN.out] at hv;subst hv;have hs10:=hb10.size;have HO10:=Lib.hid ho10;have HB10:=Lib.hid hb10;have hk10:=K7.out.below' hb10;have HK10:=Lib.hid hk10;have cc10:w10.cell? ⟨g7,3,none⟩=some (.slice A2 ln c2):=(hb10.cell (p:=⟨g7,3,none⟩) K7.out.lt).trans c73;have cf10:w10.frozen? ⟨g7,3,none⟩=false:=hk10.frozen 3;clear ho10 hb10 hk10 HCI c73;go_upto_region 11 with fail
     have hT11:=Q0c.setCell w10 ⟨g7,3,none⟩ (.slice A3 ln c3);have hB11:=HK10.out.set_ 3 (.slice A3 ln c3);obtain⟨E,hE⟩:∃ E,E=anC (la.err:Int) none 0 0 (la.epoch:Int) A3 ln c3:=⟨_,rfl⟩;have hDE:D.setIfInBounds 3 (.slice A3 ln c3)=E:=by rw [HDE.out,hE]; rfl
     rw [hDE] at hB11;have hEs:E.size=4:=by rw [hE]; rfl
     have hEo:E.all (·.oneCell')=true:=by rw [hE]; exact Q0G _ _ _ _ _ _ _ _
     have HEE:=Lib.hid hE;have HT11:=Lib.hid hT11;generalize w10.setCell ⟨g7,3,none⟩ (.slice A3 ln c3)=w11 at HT11 hB11 ⊢;have K711:=Lib.hid (show Blk w11 g7 47 E from hB11);have K411:=Lib.hid (HT11.out.blk ((K4M.out.below' HB9.out).below' HB10.out) hne74);clear hT11 hB11 hDE hE cc10 cf10;go_wp2_with (first
      | refine Q03 (o:=⟨some 69,_,_,_,_,_⟩) rfl 47 (.tmp 7) rfl g7 0 4 rfl 47 _ E _ K711.out Tryz.underlying47 rfl rfl hEs (fun _ _=>by rw [Nat.zero_add]) ?_
      | (refine Q01 (o:=⟨none,_,_,_,_,_⟩) rfl 47 (.tmp 4) (.tmp 69) rfl g4 0 E rfl rfl 47 _ K411.out (by rw [hEs]; kernel_rfl) (by rw [hEs]; simp [anC]) hEo ?_; intro w12 hT12 hD12; rw [Q08 _ _ (by rw [hEs]; rfl)] at hD12))
     refine bodyPost_ret (Q0b rfl _ _ g4 4 47 _ _ rfl hD12 Tryz.underlying47 rfl rfl hEs) rfl ?_;have hwc:w.heap.size<=wc.heap.size:=hcs;have ho12:OwnN w12 w.heap.size (.slice A3 la.nodes.length c3) la.nodes:=by
      rw [<- HLN.out];have h11:OwnN w11 w9.heap.size (.slice A3 ln c3) la.nodes:=HO10.out.keep_ fun b hb'=>HT11.out.block b fun e=>Q09 HO10.out HK10.out (by decide) (by rw [hb',e])
      have h12:OwnN w12 w9.heap.size (.slice A3 ln c3) la.nodes:=h11.keep_ fun b hb'=>hT12.block b fun e=>Q09 h11 K411.out (by decide) (by rw [hb',e])
      exact OwnN.more h12 (by omega)
     have hlow:Below wc.heap.size wc w11:=HT11.out.below (HB9.out.trans (HB10.out.mono hs9)) hg7w;have hrw:RAWr w12 g N (didQ m x):=by
      have h11:RAWr w11 g N' (didQ m x):=⟨S2,HD2.out.below hlow,HP2.out⟩;exact(h11.only (M:=fun b=>b=g4) (Only.of_turned hT12 rfl) (fun b e=>by rw [e]; exact HNG.out)).mono fun b _ hb=>HNN.out b hb
     have:=HPG.out w12 A3 c3 la HQ.out HLA.out ho12 hrw (HON.out.trans ((Only.of_below hlow).trans (Only.of_turned hT12 (fun hn=>by have:=HNO.out g4 hn; omega))));rw [HEE.out];rw [<- HLN.out] at this;exact this
end
end Go.Proofs.YtcpngeiahgoacaaGreat
