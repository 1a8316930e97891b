/- Parts of the proof, in one text. -/
import Derived.Test.YtckjnbjiafgibaaGreatL9
import Derived.BigRegion
import Derived.Deep.DeepCutAuto
import Derived.Test.YtckjnbjiafgibaaGreatL7
import Derived.Test.YtckjnbjiafgibaaGreatL3
namespace Go.Proofs.YtckjnbjiafgibaaGreat
set_option linter.unusedVariables false
set_option linter.unusedSimpArgs false
set_option maxRecDepth 100000
set_option maxHeartbeats 16000000
open _root_.Array renaming getElem?_toList->zK
open _root_.Go renaming Addr->zA,World->zB,Value->zC
open _root_.Go.Proofs.Tryz renaming prog->zG
open _root_.Go.RowKit renaming Below->zE
open _root_.Go.RowKit.Below renaming refl->zI
open _root_.Go.World renaming alloc->zM
open _root_.List renaming getElem?_eq_getElem->zD
open _root_.Nat renaming le_trans->zF,le_refl->zH,zero_add->zJ
open _root_.Option.some renaming inj->zL
section
open Go.RowKit Go.Maps
attribute [local irreducible] wpList Q0c
def ADoPost (w:zB) (V:ALoc) (N:Nat->Prop) (L:LL) (asked:Nat) (p:AM×Ans×Nat) (r:Ending) (w':zB):Prop :=∃ D,r=.returned (.tuple #[.agg D,.int .i64 (p.2.2:Int)])/\D.size=4/\AnsN w' w.heap.size D p.2.1/\Q11 w w' V N p.1 L asked 6
def Q9e (w:zB) (V:ALoc) (N:Nat->Prop) (L:LL) (asked:Nat) (p:AM×Ans×Nat) (r:Ending) (w':zB):Prop :=∃ D q,r=.returned (.tuple #[.agg D,.int .i64 (p.2.2:Int)])/\D.size=4/\w.heap.size<=q/\AnsN w' q D p.2.1/\Q11 w w' V (fun b=>N b\/(q<=b/\b<w'.heap.size)) p.1 L asked 6
structure DoMid (w:zB) (V:ALoc) (N:Nat->Prop) (m':AM) (L:LL) (asked g3 g4:Nat) (wc:Array zC) (W:zB):Prop where
 done:Q11 w W V (fun b=>N b\/b=g3\/b=g4) m' L asked 6
 k3:Blk W g3 31 wc
 k4:Blk W g4 34 (anC 0 none 0 0 0 none 0 0)
 size:w.heap.size<=W.heap.size
theorem AAt.later {w W:zB} {V:ALoc} {N:Nat->Prop} {m:AM} (h:AAt w V N m) (hb:zE w.heap.size w W):AAt W V (fun b=>N b\/(w.heap.size<=b/\b<W.heap.size)) m :=(h.mono (N':=fun b=>N b\/(w.heap.size<=b/\b<W.heap.size)) (fun b hb' hn=>hn.elim id (fun e=>by omega)) (fun b hv=>.inl (h.all b hv))).below hb
theorem Q11.fold {w W W':zB} {V:ALoc} {N:Nat->Prop} {m:AM} {L:LL} {asked q:Nat} (hN:∀ b,N b->b<w.heap.size) (hall:∀ b,V.all b->N b) (hT:∀ b,V.T.mut b->V.T.has b) (hb:zE w.heap.size w W) (h:Q11 W W' V (fun b=>N b\/(w.heap.size<=b/\b<W.heap.size)) m L asked q) :
 Q11 w W' V N m L asked q/\(∀ b,w.heap.size<=b->b<W.heap.size->W'.heap[b]?=W.heap[b]?)/\∀ b,N b->¬ V.all b->b<W.heap.size->W'.heap[b]?=W.heap[b]?:=by
 have hva:∀ b,V.has b->V.all b:=fun b hb=>by
  rcases hb with e | e | e | e
  ·exact .inl e
  ·exact .inr (.inl e)
  ·exact .inr (.inr (.inr (hT b e)))
  exact .inr (.inr (.inl e))
 have hv:∀ b,V.has b->N b:=fun b hb=>hall b (hva b hb)
 refine⟨⟨h.vat.mono (fun b _ hn=>.inl hn) hall,h.book,(Only.of_below hb).trans (h.only.mono fun b _ e=>?_)⟩,fun b h1 h2=>h.only.block b h2 fun e=>?_,fun b h1 h3 h2=>h.only.block b h2 fun e=>?_⟩
 ·rcases e with e | e
  ·exact .inl e
  exact .inr (fun hn=>e (.inl hn))
 ·rcases e with e | e
  ·have:=hN b (hv b e); omega
  exact e (.inr ⟨h1,h2⟩)
 rcases e with e | e
 ·exact h3 (hva b e)
 exact e (.inl h1)
theorem Q11.kept {w W W7:zB} {V:ALoc} {N:Nat->Prop} {m:AM} {L:LL} {asked q:Nat} (h:Q11 w W V N m L asked q) (hT:Q06 V.g W W7) :
 Q1v W7 V.T V.k (Q07 m)/\∃ L' a',Q0h W7 V.k L' a'/\a'<=asked+q/\(∀ x,x∈L->x∈L')/\Q1f L' (Q07 m):=by
 have ho:Only (fun b=>b=V.g) W W7:=Only.of_turned hT rfl;have hf:=h.vat.far;obtain⟨L',a',h1,h2,h3,h4⟩:=h.book;exact⟨h.vat.tree.only ho (fun b hb e=>hf.2.1 (e▸hb)),L',a',h1.only ho (fun e=>hf.2.2.2.1 (.inl e.symm)) (fun e=>hf.2.2.2.1 (.inr (.inl e.symm))) (fun e=>hf.2.2.2.1 (.inr (.inr e.symm))),h2,h3,h4⟩
theorem Q11.set_last {w W W7 W8:zB} {V:ALoc} {N:Nat->Prop} {m m':AM} {S':ASl} {L L':LL} {asked a' q q':Nat} (h:Q11 w W V N m L asked q) (hT:Q06 V.g W W7) (hd:ADat W7 V.g V.gc (some ⟨V.T.t,0,none⟩) N m' S') (h2:a'<=asked+q) (h3:∀ x,x∈L->x∈L') (h4:Q1f L' (Q07 m))
 (hsb:SetBy W7 W8 V.T V.k (Q07 m) (Q07 m') L' a' q'):Q11 w W8 V N m' L asked (q+q'):=by
 have hf:=h.vat.far;have hall:=h.vat.all;obtain⟨L2,a2,p1,p2,p3,p4⟩:=hsb.book;have hm:∀ b,(V.T.mut b\/V.k.has b)->V.all b:=fun b hb=>by
  rcases hb with e | e
  ·exact .inr (.inr (.inr (.inr (.inr e))))
  exact .inr (.inr (.inl e))
 refine⟨⟨⟨S',hd.only hsb.only (fun b hb=>hall b (hm b hb)) (fun e=>?_) (fun e=>?_)⟩,hsb.tree,hf,hall⟩,⟨L2,a2,p1,by omega,fun x hx=>p3 x (h3 x hx),p4 L' (fun _ h=>h) h4⟩,(h.only.trans (Only.of_turned hT (.inl (.inl rfl)))).trans (hsb.only.mono fun b _ e=>?_)⟩
 ·rcases e with e | e
  ·exact hf.2.1 (.inr (.inr e))
  exact hf.2.2.2.1 e
 ·rcases e with e | e
  ·exact hf.2.2.1 (.inr (.inr e))
  exact hf.2.2.2.2 e
 rcases e with e | e
 ·exact .inl (.inr (.inr (.inl e)))
 exact .inl (.inr (.inr (.inr e)))
structure DoSt (wd:zB) (V:ALoc) (N:Nat->Prop) (m':AM) (L:LL) (asked g3 g4:Nat) (W0:Array zC) (s:Nat) (W:zB):Prop where
 k3:Blk W g3 31 W0
 k4:Blk W g4 34 (anC 0 none 0 0 0 none 0 0)
 size:wd.heap.size<=W.heap.size
 zero:s=0->zE wd.heap.size wd W
 one:s=1->Q11 wd W V N m' L asked 3
theorem DoSt.below {wd W W':zB} {V:ALoc} {N:Nat->Prop} {m':AM} {L:LL} {asked g3 g4:Nat} {W0:Array zC} {s:Nat} (h:DoSt wd V N m' L asked g3 g4 W0 s W) (hb:zE W.heap.size W W'):DoSt wd V N m' L asked g3 g4 W0 s W' :=⟨h.k3.below' hb,h.k4.below' hb,zF h.size hb.size,fun e=>(h.zero e).trans (hb.mono h.size),fun e=>(h.one e).after hb⟩
theorem Q11.side2 {w w1 w2:zB} {V:ALoc} {Nb N':Nat->Prop} {m:AM} {L:LL} {asked q g4:Nat} (hall:∀ b,V.all b->N' b) (hne:∀ b,V.all b->b≠g4) (hg:w.heap.size<=g4) (hN4:Nb g4) (hsub:∀ b,b<w1.heap.size->N' b->Nb b) (h:Q11 w w1 V Nb m L asked q) (hT:Q06 g4 w1 w2):Q11 w w2 V N' m L asked q:=by
 obtain⟨S,hd⟩:=h.vat.dat;obtain⟨L',a',h1,h2,h3,h4⟩:=h.book;have ht4:Only (fun b=>b=g4) w1 w2:=Only.of_turned hT rfl;have hs:=hT.size;exact⟨⟨⟨S,(hd.only ht4 (fun b e=>e▸hN4) (fun e=>hne _ (.inl rfl) e) (fun e=>hne _ (.inr (.inl rfl)) e)).mono (fun b hb hn=>hsub b (by omega) hn) ⟨hall _ (.inl rfl),hall _ (.inr (.inl rfl))⟩⟩,h.vat.tree.only ht4 (fun b hb e=>hne b (.inr (.inr (.inr hb))) e),h.vat.far,hall⟩,⟨L',a',h1.only ht4 (fun e=>hne _ (.inr (.inr (.inl (.inl rfl)))) e) (fun e=>hne _ (.inr (.inr (.inl (.inr (.inl rfl))))) e) (fun e=>hne _ (.inr (.inr (.inl (.inr (.inr rfl))))) e),h2,h3,h4⟩,⟨ht4.os.trans h.only.os,ht4.tape.trans h.only.tape,ht4.output.trans h.only.output,zF h.only.size ht4.size,fun b hb hn=>(ht4.block b (by have:=h.only.size; omega) (fun e=>by omega)).trans (h.only.block b hb (fun e=>hn (by
  rcases e with e | e
  ·exact .inl e
  exact .inr (fun q=>e (hsub b (by have:=h.only.size; omega) q)))))⟩⟩
theorem Q11.later {w w1 w2:zB} {V:ALoc} {N:Nat->Prop} {m:AM} {L:LL} {asked q:Nat} (h:Q11 w w1 V N m L asked q) (hb:zE w1.heap.size w1 w2):Q11 w w2 V (fun b=>N b\/(w1.heap.size<=b/\b<w2.heap.size)) m L asked q:=by
 obtain⟨L',a',h1,h2,h3,h4⟩:=h.book;refine⟨h.vat.later hb,⟨L',a',h1.below hb,h2,h3,h4⟩,(h.only.mono fun b hb' e=>?_).trans (Only.of_below hb)⟩;rcases e with e | e
 ·exact .inl e
 exact .inr (fun hn=>hn.elim e (fun q=>by have:=h.only.size; omega))
theorem AnsN.keepN {w w':zB} {B:Nat} {D:Array zC} {x:Ans} (h:AnsN w B D x) (hk:∀ b,B<=b->b<w.heap.size->w'.heap[b]?=w.heap[b]?):AnsN w' B D x:=by obtain⟨A,c,h1,h2⟩:=h;exact⟨A,c,h1,h2.keep_ fun b hb=>hk b (h2.ge_ hb) (Q0f h2 hb).2⟩
def lsV (z:Int) (a:Ans) (A:Option zA) (k:Nat):Array zC:=#[.int .i64 z,.int .i64 (a.err:Int),.slice none 0 0,.int .i64 (a.epoch:Int),.slice A a.nodes.length k]
theorem lsV_one (z:Int) (a:Ans) (A:Option zA) (k:Nat):(lsV z a A k).all (·.oneCell')=true:=by simp [lsV,Value.oneCell']
theorem aDo2_any (w:zB) (V:ALoc) (N:Nat->Prop) (m:AM) (L:LL) (asked:Nat) (h:AAt w V N m) (hN:∀ b,N b->b<w.heap.size) (hbk:Q0h w V.k L asked) (hin:Q1f L (Q07 m)) (has:asked<=700000)
 (x:Wish) (A:Option zA) (n c:Nat) (A':Option zA) (n' c':Nat) (B:Nat) (hx:Q1q w B x A n c A' n' c') (hB:B<=w.heap.size) :
 Calls zG 28 #[.pointer (some ⟨V.g,0,none⟩),.agg (Q0g x A n c A' n' c')] w (Q9e w V N L asked (doQ m x)):=by
 obtain⟨S,hd⟩:=h.dat;have hlt:=hd.lt;have hX:zE w.heap.size w ((w.alloc (.cells (Q0g x A n c A' n' c') 31)).alloc (.cells (anC 0 none 0 0 0 none 0 0) 34)):=((zI _ _).alloc (zH _) _).alloc (by simp) _;have k3:Blk ((w.alloc (.cells (Q0g x A n c A' n' c') 31)).alloc (.cells (anC 0 none 0 0 0 none 0 0) 34)) w.heap.size 31 (Q0g x A n c A' n' c'):=(Blk.newAt rfl).alloc _;have k4:Blk ((w.alloc (.cells (Q0g x A n c A' n' c') 31)).alloc (.cells (anC 0 none 0 0 0 none 0 0) 34)) (w.heap.size+1) 34 (anC 0 none 0 0 0 none 0 0):=Blk.newAt (by simp);have hz1:((w.alloc (.cells (Q0g x A n c A' n' c') 31)).alloc (.cells (anC 0 none 0 0 0 none 0 0) 34)).heap.size=w.heap.size+2:=by simp
 have HV:=sH h;have HNL:=sH hN;have HBK:=sH hbk;have HIN:=sH hin;have HD0:=sH hd;have HX:=sH hX;have K3:=sH k3;have K4:=sH k4;have HZ1:=sH hz1;have HCK:=sH (fun(W:zB) (hb:zE w.heap.size w W)=>Q3R x A n c A' n' c' W B (hx.below (hb.mono hB)) (by have:=hb.size; omega));have HNO:=sH (fun(W:zB) (hb:zE w.heap.size w W)=>Q2M W V.g V.T.t (((hd.below hb).blk.cell 0).trans (Q1a _ _ _ _ 0 (by omega))));have HQE:=sH (show inQ x=(mayB x && decide (x.kind=3\/x.kind=4)) from rfl);obtain⟨P,hP⟩:∃ P,P=Q9e w V N L asked (doQ m x):=⟨_,rfl⟩;rw [<- hP];have HPB:=sH (show ∀ w',inQ x=false->zE w.heap.size w w'->P (.returned (.tuple #[.agg (anC 0 none 0 0 0 none 0 0),.int .i64 2])) w' from fun w' hq hb=>by rw [hP];unfold doQ;rw [if_neg (by rw [hq]; simp)];exact⟨_,w'.heap.size,rfl,rfl,hb.size,AnsN.bare _ _ 0 0,⟨(h.below hb).later (zI _ _),⟨L,asked,hbk.below hb,by omega,fun _ h=>h,hin⟩,Only.of_below hb⟩⟩)
 have HPG:=sH (show ∀ w' D q,inQ x=true->D.size=4->w.heap.size<=q->AnsN w' q D (oldQ (didQ m x) x).1->Q11 w w' V (fun b=>N b\/(q<=b/\b<w'.heap.size)) (didQ m x) L asked 6->P (.returned (.tuple #[.agg D,.int .i64 0])) w' from fun w' D q hq hs hwq ha hdn=>by rw [hP];unfold doQ;rw [if_pos hq];exact⟨D,q,rfl,hs,hwq,ha,hdn⟩)
 obtain⟨g3,hg3⟩:∃ b,b=w.heap.size:=⟨_,rfl⟩;obtain⟨g4,hg4⟩:∃ b,b=w.heap.size+1:=⟨_,rfl⟩;have hl1:=hlt.1;have hl2:=hlt.2;obtain⟨W0,hW0⟩:∃ W0,W0=Q0g x A n c A' n' c':=⟨_,rfl⟩;have hws:W0.size=10:=by rw [hW0]; simp [Q0g]
 have hw4:W0[4]?=some (.int .i64 x.kind):=by rw [hW0]; rfl
 have hw0:W0[0]?=some (.int .i64 x.client):=by rw [hW0]; rfl
 have hw1':W0[1]?=some (.int .i64 x.stamp):=by rw [hW0]; rfl
 have HW0:=sH hW0;rw [<- hW0] at HX K3 K4 HZ1 HCK ⊢;have HW4:=sH hw4;have HW00:=sH hw0;have HW1:=sH hw1';clear h hN hbk hin hd hX k3 k4 hz1 hP hx hlt hW0 hw4 hw0 hw1';go_enter Tryz.func28,Tryz.ntmps28
 go_upto_region 1 with fail
 rw [<- anZ];generalize zM (zM w _) _=w1 at HX K3 K4 HZ1 ⊢;rw [<- hg4] at K4 ⊢;rw [<- hg3] at K3 ⊢;have hz1:=HZ1.out;have hgw3:w.heap.size<=g3:=by omega
 have hgw4:w.heap.size<=g4:=by omega
 have hg34:g3≠g4:=by omega
 have hw1:w.heap.size<=w1.heap.size:=by omega
 have hl3:=K3.out.lt;have hl4:=K4.out.lt;clear hg3 hg4 HZ1 hz1;go_wp2_with fail
 refine(HNO.out w1 HX.out).mono ?_;rintro _ _ ⟨rfl,rfl⟩;obtain⟨qb,hqb⟩:∃ b,b=inQ x:=⟨_,rfl⟩;have HQB:=sH hqb;clear hqb;go_upto_region 3 with fail
 go_cut [13] (fun s13 wx=>s13=.bool (!qb)/\zE w.heap.size w wx/\Blk wx g3 31 W0/\Blk wx g4 34 (anC 0 none 0 0 0 none 0 0))
 case first =>
  go_wp2_with (refine Q01 (o:=⟨some 14,_,_,_,_,_⟩) rfl 31 (.tmp 3) rfl g3 0 10 rfl 31 _ W0 _ K3.out Tryz.underlying31 rfl rfl hws (fun _ _=>by rw [zJ]; try rfl) ?_)
  refine(HCK.out w1 HX.out).mono ?_;rintro _ w2 ⟨rfl,hb2⟩;have HB2:=sH (HX.out.trans (hb2.mono hw1));have K32:=sH (K3.out.below' hb2);have K42:=sH (K4.out.below' hb2);have e4:w2.cell? ⟨g3,4,none⟩=some (.int .i64 x.kind):=(K32.out.cell 4).trans HW4.out;clear hb2 K3 K4 HX HCK HNO;by_cases hmb:mayB x=true
  ·rw [if_pos hmb];by_cases hk3:x.kind=3
   ·have hq:qb=true:=by rw [HQB.out,HQE.out,hmb,decide_eq_true (.inl hk3)]; rfl
    have hk3b:(x.kind != 3)=false:=by simp [hk3]
    subst hq;clear hmb hk3;go_wp2_with fail
    go_meet
    exact⟨rfl,HB2.out,K32.out,K42.out⟩
   have hk3b:(x.kind != 3)=true:=by simpa using hk3
   by_cases hk4:x.kind=4
   ·have hq:qb=true:=by rw [HQB.out,HQE.out,hmb,decide_eq_true (.inr hk4)]; rfl
    have hk4b:(x.kind != 4)=false:=by simp [hk4]
    subst hq;clear hmb hk3 hk4;go_wp2_with fail
    go_meet
    exact⟨rfl,HB2.out,K32.out,K42.out⟩
   have hq:qb=false:=by rw [HQB.out,HQE.out,hmb,decide_eq_false (by omega)]; rfl
   have hk4b:(x.kind != 4)=true:=by simpa using hk4
   subst hq;clear hmb hk3 hk4;go_wp2_with fail
   go_meet
   exact⟨rfl,HB2.out,K32.out,K42.out⟩
  rw [if_neg hmb];have hq:qb=false:=by
   rw [HQB.out,HQE.out];cases hmq:mayB x with
   | true=>exact absurd hmq hmb
   | false=>rfl
  subst hq;clear hmb;go_wp2_with fail
  go_meet
  exact⟨rfl,HB2.out,K32.out,K42.out⟩
 obtain⟨rfl,hb2,hk32,hk42⟩:=hcut;have HB2:=sH hb2;have K32:=sH hk32;have K42:=sH hk42;have hs2:=hb2.size;have hl32:=hk32.lt;have hl42:=hk42.lt;clear hb2 hk32 hk42 K3 K4 HX HCK HNO;cases qb with
 | false =>
  go_wp2_with (refine Q00 (o:=⟨none,_,_,_,_,_⟩) rfl 34 (.tmp 4) (.tmp 27) rfl g4 0 (anC 0 none 0 0 0 none 0 0) rfl rfl 34 _ K42.out (Q1z _ _ _ _ _ _ _ _) (by simp [anC]) (Q1N _ _ _ _ _ _ _ _) ?_; intro w7 hT7 hD7; rw [Q2x _ rfl] at hD7)
  refine bodyPost_ret (Q03 rfl _ _ g4 4 34 _ _ rfl hD7 Tryz.underlying34 rfl rfl rfl) rfl ?_;exact HPB.out w7 HQB.out.symm (hT7.below HB2.out hgw4)
 | true =>
  have hq:inQ x=true:=HQB.out.symm;have HQ:=sH hq;obtain⟨cl1,cl2,st1,_⟩:=Q4T hq;obtain⟨j,hj⟩:∃ j,j=(x.client - 31).toNat:=⟨_,rfl⟩;have hjc:x.client - 31=(j:Int):=by omega
  have hj4:j<4:=by omega
  have hjI:(j:Int)<4:=by omega
  have HJ:=sH hj;have e0:wc.cell? ⟨g3,0,none⟩=some (.int .i64 x.client):=(K32.out.cell 0).trans HW00.out;have e1:wc.cell? ⟨g3,1,none⟩=some (.int .i64 x.stamp):=(K32.out.cell 1).trans HW1.out;obtain⟨st,hst⟩:∃ k,k=(Q0u m j).1:=⟨_,rfl⟩;have cst:wc.cell? ⟨V.g,2+j*5,none⟩=some (.int .i64 (st:Int)):=by rw [hst];exact((HD0.out.below HB2.out).blk.cell _).trans (Q7p _ _ m S j 0 hj4 (by omega))
  have HST:=sH hst;clear hq hj hst;go_upto_region 6 with fail
  go_quiet (fail)
  have hbd:=Q0B (zI wc.heap.size wc) nq;have k3d:=K32.out.drewN nq;have k4d:=K42.out.drewN nq;have HBD:=sH (HB2.out.trans (hbd.mono hs2));generalize wc.drewN nq=wd at HBD k3d k4d hbd ⊢;have K3D:=sH k3d;have K4D:=sH k4d;have hsd:=hbd.size;have HV4:=sH (HV.out.mono (N':=fun b=>N b\/b=g3\/b=g4) (fun b hb hn=>hn.elim id (fun e=>by omega)) (fun b hv=>.inl (HV.out.all b hv)));clear hbd k3d k4d e0 e1 cst K32 K42
  go_upto_if 40 with(fail)
  go_cut [6] (fun s6 wx=>s6=.int .i64 (j:Int)/\DoMid w V N (didQ m x) L asked g3 g4 W0 wx)
  case first =>
   by_cases hnew:(st:Int)<x.stamp
   ·rw [decide_eq_true hnew];obtain⟨sn,hsn⟩:∃ k:Nat,k=x.stamp.toNat:=⟨_,rfl⟩;have hsx:x.stamp=(sn:Int):=by omega
    have HSN:=sH (show W0[1]?=some (.int .i64 (sn:Int)) by rw [HW1.out,hsx]);have HDID:=sH (show didQ m x=lsQ (Q0t m x).1 j sn (Q0t m x).2 by rw [hsn]; exact didQ_new HJ.out (by rw [<- HST.out]; exact hnew) HQ.out HD0.out.ok);have HOK:=sH (HD0.out.ok.did HQ.out);have hN4:∀ b,(N b\/b=g3\/b=g4)->b<wd.heap.size:=fun b hb=>by
     rcases hb with hb | hb
     ·have:=HNL.out b hb; omega
     omega
    have HN4:=sH hN4;have HBW:=sH HBD.out;have HANS:=sH (fun(W:zB) (hb:zE wd.heap.size wd W)=>Q8M W V _ m L asked ((HV4.out.below HBD.out).later hb) (fun b hb'=>hb'.elim (fun e=>by have:=HN4.out b e; have:=hb.size; omega) (fun e=>e.2)) ((HBK.out.below HBD.out).below (hb.mono (by have:=HBK.out.lt; have:=HBD.out.size; omega))) HIN.out (by omega) x A n c A' n' c' HQ.out);rw [<- HW0.out] at HANS;obtain⟨q1,hq1⟩:∃ q,q=(Q0t m x).1:=⟨_,rfl⟩;obtain⟨an,han⟩:∃ q,q=(Q0t m x).2:=⟨_,rfl⟩;rw [<- hq1,<- han] at HDID;have HQ1:=sH hq1;have HAN:=sH han;clear hsn hsx hnew hN4 hq1 han;go_upto_region 7 with fail
    refine Q0T 11 63 (fun jx W v=>match jx with | 0=>v=.pointer (some ⟨V.g,0,none⟩) | 1=>v=.int .i64 (j:Int) | 2=>v=.pointer (some ⟨g3,1,none⟩) | 3=>v=.int .i64 (sn:Int) | 4=>v=.pointer (some ⟨V.g,0,none⟩) | 5=>v=.agg W0 | 6=>∃ A9 c9,v=.agg (anC an.err none 0 0 an.epoch A9 an.nodes.length c9)/\OwnN W wd.heap.size (.slice A9 an.nodes.length c9) an.nodes | 7=>∃ A9 c9,v=.agg (lsV (sn:Int) an A9 c9)/\OwnN W wd.heap.size (.slice A9 an.nodes.length c9) an.nodes | 8=>v=.pointer (some ⟨V.g,0,none⟩) | 9=>v=.pointer (some ⟨V.g,2,none⟩) | _=>v=.pointer (some ⟨V.g,2+j*5,none⟩)) (DoSt wd V (fun b=>N b\/b=g3\/b=g4) q1 L asked g3 g4 W0) (fun W W'=>∀ b,wd.heap.size<=b->b<W.heap.size->W'.heap[b]?=W.heap[b]?) [6] [41,42,43,44,45,46,47,48,49,50,51] (by kernel_rfl) (by kernel_rfl) (by kernel_rfl) (by kernel_rfl) (by first | rfl | simp) (by kernel_rfl) (fun jx=>?last) ?lastR (fun s W W' h1 h2=>h1.below h2) ⟨K3D.out,K4D.out,zH _,fun _=>zI _ _,fun e=>by omega⟩ ?heads ?_
    case last =>
     match jx with
     | 0 | 1 | 2 | 3 | 4 | 5 | 8 | 9 | jx+10=>exact Q2w.pure _
     | 6 | 7=>exact fun W W' u ⟨A9,c9,h1,h2⟩ hb=>⟨A9,c9,h1,h2.below_ hb⟩
    case lastR =>
     intro s jx W W' u hsl hs hj hp hR;match jx with
     | 0 | 1 | 2 | 3 | 4 | 5 | 8 | 9 | jx+10=>exact hp
     | 6 | 7 =>obtain⟨A9,c9,h1,h2⟩:=hp;exact⟨A9,c9,h1,h2.keep_ fun b hb=>hR b (h2.ge_ hb) (Q0f h2 hb).2⟩
    case heads =>
     simp only [tT];and_intros;rotate_right;trivial
     all_goals try(rw [if_neg (by decide)];intro s a W hj hkp hd)
     ·have e0:(_:zC)=.pointer (some ⟨V.g,0,none⟩):=sK hkp 0;exact sV
     ·have e0:(_:zC)=.int .i64 (j:Int):=sK hkp 6;exact sV
     ·have e0:(_:zC)=.pointer (some ⟨g3,0,none⟩):=sK hkp 3;exact sV
     ·have e0:=sJ (hd 2) 43;have cc:W.cell? ⟨g3,1,none⟩=some (.int .i64 (sn:Int)):=(hj.k3.cell 1).trans HSN.out;exact sV
     ·have e0:(_:zC)=.pointer (some ⟨V.g,0,none⟩):=sK hkp 0;exact sV
     ·have e0:a.eval (.tmp 3)=.pointer (some ⟨g3,0,none⟩):=by have:=hkp.at_ (d:=3) (by kernel_rfl); rw [this]; rfl
      exact Q0E rfl (.agg W0) (Q0n 31 (.tmp 3) rfl g3 0 10 e0 31 _ W0 _ hj.k3 Tryz.underlying31 rfl rfl hws (fun _ _=>by rw [zJ])) rfl
     ·rw [if_pos (by decide)];intro s a W hs hj hkp hd;have h0:s=0:=by
       match s,hs with
       | 0,_=>rfl
       | s+1,hs=>simp at hs
      have hbW:=hj.zero h0;have e0:=sJ (hd 4) 45;have e1:=sJ (hd 5) 46;refine Q3a rfl 62 #[.pointer (some ⟨V.g,0,none⟩),.agg W0] (by go_simp) ((HANS.out W hbW).mono ?_);rintro e w' ⟨D,rfl,⟨A9,c9,hD,ho⟩,_,hdn⟩;have hf:=Q11.fold HN4.out HV4.out.all (fun b hb=>.inr (.inr hb)) hbW hdn;have hsW:=hbW.size;refine⟨_,rfl,fun b h1 h2=>hf.2.1 b h1 h2,⟨?_,?_,?_,fun e=>by omega,fun _=>?_⟩,A9,c9,by rw [HAN.out,hD],?_⟩
      ·exact(hf.2.2 g3 (.inr (.inl rfl)) (fun e=>by have:=HNL.out _ (HV.out.all _ e); omega) hj.k3.lt).trans hj.k3
      ·exact(hf.2.2 g4 (.inr (.inr rfl)) (fun e=>by have:=HNL.out _ (HV.out.all _ e); omega) hj.k4.lt).trans hj.k4
      ·exact zF hsW hdn.only.size
      ·rw [HQ1.out]; exact hf.1
      rw [HAN.out]; exact ho.more hsW
     ·have e0:=sJ (hd 3) 44;obtain⟨A9,c9,e1,ho⟩:=(sG (hd 6) 47:);exact Q0E rfl (.agg (lsV (sn:Int) an A9 c9)) (by simp only [anC] at e1; go_simp; try rfl) ⟨A9,c9,rfl,ho⟩
     ·have e0:=sJ (hd 0) 41;exact sV
     ·have e0:=sJ (hd 8) 49;exact sV
     have e0:=sJ (hd 9) 50;have e1:=sJ (hd 1) 42;exact sV
    intro f W hj hd;have h51:f 51=.pointer (some ⟨V.g,2+j*5,none⟩):=hd 10 (by omega) _ 51 rfl rfl;obtain⟨A9,c9,h48,ho⟩:=hd 7 (by omega) _ 48 rfl rfl;have hdn:=hj.one rfl;obtain⟨S1,hd1⟩:=hdn.vat.dat;obtain⟨C,hC⟩:∃ C,C=lsV (sn:Int) an A9 c9:=⟨_,rfl⟩;have hcs:C.size=5:=by rw [hC]; rfl
    have hc1:C.all (·.oneCell')=true:=by rw [hC]; exact lsV_one _ _ _ _
    rw [<- hC] at h48;have HC:=sH hC;have HO:=sH ho;have HDN:=sH hdn;have HD1:=sH hd1;have K3W:=sH hj.k3;have K4W:=sH hj.k4;have hsW:=hj.size;simp only [Q19,tU,h48,h51];clear hd hj ho hdn hd1 hC h48 h51 HANS HBD HV4 K3D K4D;try simp only [Act.put,sA]
    go_upto_region 8 with(refine Q00 (o:=⟨none,_,_,_,_,_⟩) rfl 81 (.tmp 51) (.tmp 48) rfl V.g (2+j*5) C rfl rfl 84 _ HD1.out.blk (by rw [hcs]; kernel_rfl) (by rw [hcs,Q29]; omega) hc1 ?_; intro w7 hT7 hD7)
    have hfar:=HDN.out.vat.far;obtain⟨hT,L',a',p1,p2,p3,p4⟩:=HDN.out.kept hT7;have hd7:=HD1.out.lasted hj4 hfar.1 hT7 (by rw [HC.out] at hD7; exact hD7) HO.out HN4.out (by rw [<- HDID.out]; exact HOK.out);have HST:=sH (Q7l w7 V.g V.gc (2+j) V.T V.k _ _ _ (Q07 q1) L' a' hd7 (by omega) hT (Q0r _) p1 (by omega));rw [Q9T hj4,show ((2+j:Nat):Int)=2+(j:Int) by omega] at HST;have hne:∀ g,w.heap.size<=g->g≠V.g:=fun g h e=>by have:=HNL.out _ (HV.out.all _ (.inl rfl)); omega
    have K37:=sH (hT7.blk K3W.out (hne g3 hgw3));have K47:=sH (hT7.blk K4W.out (hne g4 hgw4));have hs7:=hT7.size;have HSL:=sH (fun(w8:zB) (h:SetBy w7 w8 V.T V.k (Q07 q1) (Q07 (lsQ q1 j sn an)) L' a' 3)=>HDN.out.set_last hT7 hd7 p2 p3 p4 h);clear hfar hT p1 p2 p3 p4 hd7 hT7 hD7 HO HC;go_wp2_with fail
    refine HST.out.mono ?_;rintro _ w8 ⟨rfl,hsb⟩;have hkT:∀ b,(V.T.mut b\/V.k.has b)->b<w.heap.size:=fun b hb=>HNL.out b (HV.out.all b (by
     rcases hb with e | e
     ·exact .inr (.inr (.inr (.inr (.inr e))))
     exact .inr (.inr (.inl e))))
    have HM:=sH (show DoMid w V N (didQ m x) L asked g3 g4 W0 w8 from⟨by rw [HDID.out]; exact(HSL.out w8 hsb).under HBW.out,hsb.only.blk K37.out (fun e=>by have:=hkT g3 e; omega),hsb.only.blk K47.out (fun e=>by have:=hkT g4 e; omega),by have:=hsb.only.size; omega⟩);clear hsb hkT HST HSL;go_wp2_with fail
    go_meet
    exact⟨rfl,HM.out⟩
   rw [decide_eq_false hnew];have hdid:didQ m x=m:=by unfold didQ;rw [<- HJ.out,if_neg (by rw [<- HST.out]; exact hnew)]
   have HM:=sH (show DoMid w V N (didQ m x) L asked g3 g4 W0 wd from⟨by rw [hdid]; exact Q11.idle HBD.out HV4.out HBK.out HIN.out,K3D.out,K4D.out,by omega⟩);clear hdid hnew;go_wp2_with fail
   go_meet
   exact⟨rfl,HM.out⟩
  obtain⟨rfl,hmid⟩:=hcut;have hmd:=hmid.done;obtain⟨S6,hd6⟩:=hmd.vat.dat;have HOL:=sH (aOld_any wc V.g V.gc _ _ _ S6 hd6 x A n c A' n' c' ⟨by omega,by omega⟩);rw [<- HW0.out] at HOL;have K36:=sH hmid.k3;have K46:=sH hmid.k4;have HMD:=sH hmd;have hs6:=hmid.size;obtain⟨oa,hoa⟩:∃ q,q=(oldQ (didQ m x) x).1:=⟨_,rfl⟩;obtain⟨ob,hob⟩:∃ q,q=(oldQ (didQ m x) x).2:=⟨_,rfl⟩;rw [<- hoa,<- hob] at HOL;rw [<- hoa] at HPG;have hl36:=hmid.k3.lt;have hl46:=hmid.k4.lt;clear hmid hmd hd6 K3D K4D hoa hob HBD HV4 HD0;go_wp2_with (refine Q01 (o:=⟨some 58,_,_,_,_,_⟩) rfl 31 (.tmp 3) rfl g3 0 10 rfl 31 _ W0 _ K36.out Tryz.underlying31 rfl rfl hws (fun _ _=>by rw [zJ]; try rfl) ?_)
  refine HOL.out.mono ?_;rintro _ w5 ⟨D,rfl,ha5,hb5⟩;obtain⟨A5,c5,hD5,ho5⟩:=ha5;have hs5:=hb5.size;have hds:D.size=4:=by rw [hD5]; rfl
  have hd1:D.all (·.oneCell')=true:=by rw [hD5]; exact Q1N _ _ _ _ _ _ _ _
  have HA5:=sH (show AnsN w5 wc.heap.size D oa from⟨A5,c5,hD5,ho5⟩);have HB5:=sH hb5;have K45:=sH (K46.out.below' hb5);clear hD5 ho5 hb5 HOL;go_upto_region 10 with(refine Q00 (o:=⟨none,_,_,_,_,_⟩) rfl 34 (.tmp 7) (.tmp 60) rfl w5.heap.size 0 D rfl rfl 34 (anC 0 none 0 0 0 none 0 0) (Blk.newAt rfl) (by rw [hds]; kernel_rfl) (by rw [hds]; simp [anC]) hd1 ?_; intro w7 hT7 hD7)
  rw [Q0a _ _ (by rw [hds]; rfl)] at hD7;have hb57:zE w5.heap.size w5 w7:=hT7.below ((zI _ _).alloc (zH _) _) (zH _);have hb67:zE wc.heap.size wc w7:=HB5.out.trans (hb57.mono hs5);have hs7:=hb57.size;have K47:=sH (K45.out.below' hb57);have HA7:=sH (HA5.out.below hb57);have HM7:=sH (HMD.out.later hb67);obtain⟨g7,hg7⟩:∃ b,b=w5.heap.size:=⟨_,rfl⟩;rw [<- hg7] at hD7 ⊢;have K77:=sH hD7;clear hT7 hD7 hb57 hb67 hg7 HB5 HA5 HMD;go_wp2_with (first | refine Q01 (o:=⟨some 62,_,_,_,_,_⟩) rfl 34 (.tmp 7) rfl g7 0 4 rfl 34 _ D _ K77.out Tryz.underlying34 rfl rfl hds (fun _ _=>by rw [zJ]) ?_ | (refine Q00 (o:=⟨none,_,_,_,_,_⟩) rfl 34 (.tmp 4) (.tmp 62) rfl g4 0 D rfl rfl 34 _ K47.out (by rw [hds]; kernel_rfl) (by rw [hds]; simp [anC]) hd1 ?_; intro w8 hT8 hD8; rw [Q0a _ _ (by rw [hds]; rfl)] at hD8))
  refine bodyPost_ret (Q03 rfl _ _ g4 4 34 _ _ rfl hD8 Tryz.underlying34 rfl rfl hds) rfl ?_;exact HPG.out w8 D wc.heap.size HQ.out hds (by omega) (HA7.out.keepN (fun b h1 h2=>hT8.block b (by omega))) (Q11.side2 (fun b hb=>.inl (HV.out.all b hb)) (fun b hb e=>by have:=HNL.out b (HV.out.all b hb); omega) hgw4 (.inl (.inr (.inr rfl))) (fun b hb hn=>hn.elim (fun e=>.inl (.inl e)) (fun e=>.inr ⟨e.1,hb⟩)) HM7.out hT8)
theorem Q11.less {w w':zB} {V:ALoc} {N N':Nat->Prop} {m:AM} {L:LL} {asked q:Nat} (h:Q11 w w' V N' m L asked q) (hs:∀ b,N b->N' b) (hall:∀ b,V.all b->N b):Q11 w w' V N m L asked q :=⟨h.vat.mono (fun b _ hn=>hs b hn) hall,h.book,h.only.mono fun b _ e=>e.imp id (fun e hn=>e (hs b hn))⟩
theorem Qbt (w:zB) (V:ALoc) (N:Nat->Prop) (m:AM) (L:LL) (asked:Nat) (h:AAt w V N m) (hN:∀ b,N b->b<w.heap.size) (hbk:Q0h w V.k L asked) (hin:Q1f L (Q07 m)) (has:asked<=700000)
 (x:Wish) (A:Option zA) (n c:Nat) (A':Option zA) (n' c':Nat) (B:Nat) (hx:Q1q w B x A n c A' n' c') (hB:B<=w.heap.size) :
 Calls zG 28 #[.pointer (some ⟨V.g,0,none⟩),.agg (Q0g x A n c A' n' c')] w (ADoPost w V N L asked (doQ m x)):=by
 refine(aDo2_any w V N m L asked h hN hbk hin has x A n c A' n' c' B hx hB).mono ?_;rintro r w' ⟨D,q,h1,h2,h3,h4,h5⟩;exact⟨D,h1,h2,h4.more h3,h5.less (fun b hb=>.inl hb) h.all⟩
def Q1F (f:Nat) (nA:Nat->Option zA) (nC:Nat->Nat):Nat->List (List Int)->List zC
 | _,[]=>[]
 | i,l :: t=>.int .i64 (f:Int) :: .slice (nA i) l.length (nC i) :: Q1F f nA nC (i+1) t
theorem Q9V (f:Nat) (nA:Nat->Option zA) (nC:Nat->Nat):∀ (l:List (List Int)) (i:Nat),(Q1F f nA nC i l).length=l.length*2
 | [],_=>rfl
 | s :: t,i=>by show (Q1F f nA nC (i+1) t).length+2=(t.length+1)*2;rw [Q9V f nA nC t (i+1)]; omega
theorem Q6s (f:Nat) (nA:Nat->Option zA) (nC:Nat->Nat) (s:List Int):∀ (l:List (List Int)) (i:Nat),Q1F f nA nC i (l++[s])=Q1F f nA nC i l++[.int .i64 (f:Int),.slice (nA (i+l.length)) s.length (nC (i+l.length))]
 | [],i=>rfl
 | q :: t,i=>by show _ :: _ :: Q1F f nA nC (i+1) (t++[s])=_ :: _ :: (Q1F f nA nC (i+1) t++_);rw [Q6s f nA nC s t (i+1),show i+(q :: t).length=i+1+t.length by simp only [List.length_cons]; omega]
theorem Q5e (f:Nat) (nA nA':Nat->Option zA) (nC nC':Nat->Nat):∀ (l:List (List Int)) (i:Nat),(∀ k,i<=k->k<i+l.length->nA k=nA' k/\nC k=nC' k)->Q1F f nA nC i l=Q1F f nA' nC' i l
 | [],_,_=>rfl
 | q :: t,i,h=>by have h1:=h i (zH _) (by simp);show _ :: _ :: Q1F f nA nC (i+1) t=_ :: _ :: Q1F f nA' nC' (i+1) t;rw [h1.1,h1.2,Q5e f nA nA' nC nC' t (i+1) fun k h2 h3=>h k (by omega) (by simp only [List.length_cons]; omega)]
theorem Q6D (f:Nat) (nA:Nat->Option zA) (nC:Nat->Nat):∀ (l:List (List Int)) (i k:Nat) (s:List Int),l[k]?=some s->(Q1F f nA nC i l)[k*2]?=some (.int .i64 (f:Int))/\(Q1F f nA nC i l)[k*2+1]?=some (.slice (nA (i+k)) s.length (nC (i+k)))
 | q :: t,i,0,s,h=>by obtain rfl:=zL h;exact⟨rfl,rfl⟩
 | q :: t,i,k+1,s,h=>by have:=Q6D f nA nC t (i+1) k s (by simpa using h);rw [show (k+1)*2=k*2+1+1 by omega,show i+(k+1)=i+1+k by omega];exact this
structure Q2r (w:zB) (B:Nat) (v:zC) (f:Nat) (ls:List (List Int)) (nA:Nat->Option zA) (nC:Nat->Nat):Prop where
 row:w.ownsRow B 69 2 v ls.length (Q1F f nA nC 0 ls)
 nodes:∀ i l,ls[i]?=some l->OwnN w B (.slice (nA i) l.length (nC i)) l
theorem Q2r.keep {w w':zB} {B f:Nat} {v:zC} {ls:List (List Int)} {nA:Nat->Option zA} {nC:Nat->Nat} (h:Q2r w B v f ls nA nC) (hk:∀ b,B<=b->b<w.heap.size->w'.heap[b]?=w.heap[b]?):Q2r w' B v f ls nA nC :=⟨Q0k h.row fun b hb=>hk b (Q0f h.row hb).1 (Q0f h.row hb).2,fun i l hl=>(h.nodes i l hl).keep_ fun b hb=>hk b ((h.nodes i l hl).ge_ hb) (Q0f (h.nodes i l hl) hb).2⟩
theorem Q2r.below {w w':zB} {B f:Nat} {v:zC} {ls:List (List Int)} {nA:Nat->Option zA} {nC:Nat->Nat} (h:Q2r w B v f ls nA nC) (hb:zE w.heap.size w w'):Q2r w' B v f ls nA nC:=h.keep fun b _ hl=>hb.block b hl
theorem Q2r.push {w W:zB} {B f:Nat} {v v':zC} {ls:List (List Int)} {l:List Int} {nA:Nat->Option zA} {nC:Nat->Nat} {A:Option zA} {c:Nat} (h:Q2r w B v f ls nA nC) (hg:w.grownBy W v.ownBlock) (ho:OwnN w B (.slice A l.length c) l)
 (hrow:W.ownsRow B 69 2 v' (ls.length+1) (Q1F f nA nC 0 ls++[.int .i64 (f:Int),.slice A l.length c])) :
 Q2r W B v' f (ls++[l]) (fun k=>if k=ls.length then A else nA k) (fun k=>if k=ls.length then c else nC k):=by
 have hkeep:∀ {u:zC} {xs:List Int},OwnN w B u xs->OwnN W B u xs:=fun {u xs} hu=>hu.keep_ fun b hb=>hg.block b (Q0f hu hb).2 (fun e=>by
  rcases h.row.2 with⟨e1,_⟩ | ⟨gc,cap,cur,e1,_,e3,_⟩
  ·rw [e1] at e; cases e
  have hB:Blk w gc 69 cur:=e3;rw [e1] at e;have e':b=gc:=by simpa [Value.ownBlock] using e
  exact Q09 hu hB (by decide) (e'▸hb))
 refine⟨?_,?_⟩
 ·have e1:Q1F f (fun k=>if k=ls.length then A else nA k) (fun k=>if k=ls.length then c else nC k) 0 (ls++[l])=Q1F f nA nC 0 ls++[.int .i64 (f:Int),.slice A l.length c]:=by
   rw [Q6s,Q5e f _ nA _ nC ls 0 (fun k _ hk=>⟨if_neg (by omega),if_neg (by omega)⟩)];simp only [zJ,if_true]
  rw [e1,List.length_append];exact hrow
 intro i s hs;rcases Nat.lt_or_ge i ls.length with hi | hi
 ·rw [List.getElem?_append_left hi] at hs;rw [if_neg (by omega),if_neg (by omega)];exact hkeep (h.nodes i s hs)
 have hi2:i=ls.length:=by have:=(List.getElem?_eq_some_iff.1 hs).1;rw [List.length_append,List.length_singleton] at this; omega
 subst hi2;rw [List.getElem?_append_right (zH _),Nat.sub_self] at hs;obtain rfl:=zL hs;simp only [if_true];exact hkeep ho
theorem Q2r.one {w:zB} {B f g:Nat} {l:List Int} {A:Option zA} {c:Nat} (hB:B<=g) (hb:Blk w g 69 (crC f A l.length c)) (ho:OwnN w B (.slice A l.length c) l):Q2r w B (.slice (some ⟨g,0,none⟩) 1 1) f [l] (fun _=>A) (fun _=>c) :=
 ⟨⟨rfl,.inr ⟨g,1,_,rfl,hB,hb,zH _,by unfold maxLen; omega,rfl,rfl⟩⟩,fun i s hs=>by
  cases i with
  | zero=>obtain rfl:=zL hs; exact ho
  | succ i=>simp at hs⟩
theorem Q0K.at_:∀ {l:List Int} {a:List (Int×Int)} {i:Nat} {o z:Int},Q0K l a->a[i]?=some (o,z)->Q1I (nowL l (a.take i)) o z
 | _,m :: t,0,o,z,h,e=>by obtain rfl:=zL e;exact⟨h.1,h.2.1,h.2.2.1,h.2.2.2.1⟩
 | l,m :: t,i+1,o,z,h,e=>Q0K.at_ (l:=Q1D l m.1 m.2) h.2.2.2.2 (by simpa using e)
theorem Q7k:(Tryz.prog.info? 69).map (fun i=>(i.zero,i.size,i.bytes))=some (some (.agg (crC 0 none 0 0)),2,32):=by kernel_rfl
def Q2N (w:zB) (s:Srv) (e:Ending) (w':zB):Prop:=∃ v nA nC,e=.returned v/\Q2r w' w.heap.size v s.f (Q0U s.first s.moves) nA nC/\zE w.heap.size w w'
theorem mv_at {w:zB} {A:Option zA} {n c:Nat} {ms:List (Int×Int)} {k:Nat} {o z:Int} (h:w.ownsRow 0 119 2 (.slice A n c) n (Q0s ms)) (hk:ms[k]?=some (o,z)):∃ gm cur,A=some ⟨gm,0,none⟩/\Blk w gm 119 cur/\∀ j,j<2->cur[k*2+j]?=(#[.int .i64 o,.int .i64 z]:Array zC)[j]?:=by
 obtain⟨hkl,hke⟩:=List.getElem?_eq_some_iff.1 hk;have hl:=h.1;rw [Q3L] at hl;rcases h.2 with⟨_,h0⟩ | ⟨gm,cap,cur,e,_,h3,h4,h5,h6,h7⟩
 ·omega
 injection e with e
 refine⟨gm,cur,e,h3,fun j hj=>?_⟩;have hget:=Q2Z ms k hkl;rw [hke] at hget;have ht:∀ q,q<n*2->cur[q]?=(Q0s ms)[q]?:=fun q hq=>by rw [<- h7,List.getElem?_take,if_pos hq,zK]
 obtain rfl | rfl:j=0\/j=1:=by omega
 ·rw [Nat.add_zero,ht _ (by omega),hget.1]; rfl
 rw [ht _ (by omega),hget.2]; rfl
theorem Q2B {w:zB} {B n:Nat} {A:Option zA} {c:Nat} {zs:List Int} (h:OwnN w B (.slice A n c) zs):zs.length=n/\Q04 w w.heap.size 1 A n (zs.map vn):=by
 obtain⟨A',c',e,_,_,h3,_⟩:=Q0e h;injection e with e1 e2 _
 subst e1 e2;exact⟨rfl,h3⟩
theorem Q3o (w:zB) (C:Array zC) (h:C.size=2):Q04 (w.alloc (.cells C 69)) (w.alloc (.cells C 69)).heap.size 2 (some ⟨w.heap.size,0,none⟩) 1 C.toList:=by have hk:Blk (w.alloc (.cells C 69)) w.heap.size 69 C:=Blk.newAt rfl;exact⟨by simp [h],fun _=>⟨⟨w.heap.size,0,none⟩,rfl,hk.lt,fun j u hu=>by rw [Q0R,zJ,hk.cell,<- zK]; exact hu⟩⟩
theorem Qbn {w:zB} {base base':Nat} {e:TypeId} {size:Nat} {v:zC} {n:Nat} {xs:List zC} (h:w.ownsRow base e size v n xs) (hb:base'<=base):w.ownsRow base' e size v n xs:=by
 refine⟨h.1,?_⟩;rcases h.2 with h1 | ⟨g,cap,cur,h1,h2,h3⟩
 ·exact .inl h1
 exact .inr ⟨g,cap,cur,h1,zF hb h2,h3⟩
theorem Q2N.of {w w6 wr:zB} {s:Srv} {v:zC} {nA:Nat->Option zA} {nC:Nat->Nat} (h:Q2r wr w6.heap.size v s.f (Q0U s.first s.moves) nA nC) (hb:zE w.heap.size w wr) (hw:w.heap.size<=w6.heap.size):Q2N w s (.returned v) wr :=⟨v,nA,nC,rfl,⟨Qbn h.row hw,fun i l hl=>OwnN.more (h.nodes i l hl) hw⟩,hb⟩
structure CrLp (w w6:zB) (g6 f:Nat) (s:Srv) (k:Nat) (ov:zC) (wr:zB):Prop where
 own:∃ nA nC,Q2r wr w6.heap.size ov f (Q0U s.first (s.moves.take k)) nA nC
 cur:∃ A n c,Blk wr g6 69 (crC f A n c)/\Q04 wr wr.heap.size 1 A n ((nowL s.first (s.moves.take k)).map vn)
 below:zE w.heap.size w wr
 size:w6.heap.size<=wr.heap.size
theorem Q6r (w:zB) (g gc i:Nat) (T:Nat) (N:Nat->Prop) (m:AM) (S:ASl) (s:Srv) (h:ADat w g gc (some ⟨T,0,none⟩) N m S) (hs:m.chunks[i]?=some s) :
 Calls zG 33 #[.pointer (some ⟨g,0,none⟩),.int .i64 ((i:Int)+1)] w (Q2N w s):=by
 have hil:i<m.chunks.length:=(List.getElem?_eq_some_iff.1 hs).1;have h2:=h.ok.one;have hok:=h.ok.srv s (List.mem_of_getElem? hs);have hc1:w.cell? ⟨g,1,none⟩=some (.slice (some ⟨gc,0,none⟩) m.chunks.length S.cap):=(h.blk.cell 1).trans (Q1a _ _ _ _ 1 (by omega));have HNO:=sH (Q2M w g T ((h.blk.cell 0).trans (Q1a _ _ _ _ 0 (by omega))));have hsrv:=h.srv i s hs;have hi:=h.srvIn hs;obtain⟨n,hn⟩:∃ n,n=m.chunks.length:=⟨_,rfl⟩;have hin:i<n:=by omega
 rw [<- hn] at hc1;have hx1:¬ ((i:Int)+1<1):=by omega
 have hx2:¬ ((n:Int)<(i:Int)+1):=by omega
 have hx3:(i:Int)+1 - 1=(i:Int):=by omega
 have hx4:(i:Int)<(n:Int):=by omega
 have hx5:(0:Int)<=(i:Int):=by omega
 obtain⟨D,hD⟩:∃ D,D=srvC s S i:=⟨_,rfl⟩;have hds:D.size=5:=by rw [hD]; rfl
 have hd1:D.all (·.oneCell')=true:=by rw [hD]; simp [srvC,Value.oneCell']
 rw [<- hD] at hsrv;have HROW:=sH h.row;have HSRV:=sH hsrv;have HD:=sH hD;have HI:=sH hi;have HOK:=sH hok;have hl1:=h.lt.1;have hl2:=h.lt.2;obtain⟨f,hf⟩:∃ f,f=s.f:=⟨_,rfl⟩;have HF:=sH hf;obtain⟨P,hP⟩:∃ P,P=Q2N w s:=⟨_,rfl⟩;have HP:=sH hP;rw [<- hP];clear h hs hok hsrv hi hn hD hf hP;go_enter Tryz.func33,Tryz.ntmps33
 go_wp2_with fail
 refine HNO.out.mono ?_;rintro _ _ ⟨rfl,rfl⟩;have hzs:Q61.size=5:=rfl;go_upto_region 4 with(first | refine Q01 (o:=⟨some 32,_,_,_,_,_⟩) rfl 117 (.tmp 31) rfl gc (i*5) 5 rfl 117 _ D _ HROW.out Tryz.underlying117 rfl rfl hds HSRV.out ?_ | (refine Q00 (o:=⟨none,_,_,_,_,_⟩) rfl 117 (.tmp 5) (.tmp 32) rfl w.heap.size 0 D rfl rfl 117 Q61 (Blk.newAt rfl) (by rw [hds]; kernel_rfl) (by rw [hds,hzs]; omega) hd1 ?_; intro w5 hT5 hD5))
 rw [Q0a _ _ (by rw [hds,hzs])] at hD5;have hb5:zE w.heap.size w w5:=hT5.below ((zI _ _).alloc (zH _) _) (zH _);obtain⟨g5,hg5⟩:∃ b,b=w.heap.size:=⟨_,rfl⟩;rw [<- hg5] at hD5 ⊢;have hgw5:w.heap.size<=g5:=by omega
 have HB5:=sH hb5;have HD5:=sH hD5;have hs5:=hb5.size;have hl5:=hD5.lt;obtain⟨C,hC⟩:∃ C,C=crC f (S.fA i) s.first.length (S.fC i):=⟨_,rfl⟩;have hcs:C.size=2:=by rw [hC]; rfl
 have hc1:C.all (·.oneCell')=true:=by rw [hC]; exact Q1L _ _ _ _
 have hcd:∀ j,j<2->D[0+j]?=C[j]?:=fun j hj=>by
  rw [HD.out,hC,HF.out,zJ];obtain rfl | rfl:j=0\/j=1:=by omega
  iterate 2 ·rfl
 have HC:=sH hC;have HCD:=sH hcd;clear hb5 hT5 hD5 hC hcd hg5;go_upto_region 5 with(first | refine Q01 (o:=⟨some 34,_,_,_,_,_⟩) rfl 69 (.tmp 33) rfl g5 0 2 rfl 117 _ C _ HD5.out Tryz.underlying69 rfl rfl hcs HCD.out ?_ | (refine Q00 (o:=⟨none,_,_,_,_,_⟩) rfl 69 (.tmp 6) (.tmp 34) rfl w5.heap.size 0 C rfl rfl 69 (crC 0 none 0 0) (Blk.newAt rfl) (by rw [hcs]; kernel_rfl) (by rw [hcs]; simp [crC]) hc1 ?_; intro w6 hT6 hD6))
 rw [Q0a _ _ (by rw [hcs]; rfl)] at hD6;have hb6:zE w5.heap.size w5 w6:=hT6.below ((zI _ _).alloc (zH _) _) (zH _);obtain⟨g6,hg6⟩:∃ b,b=w5.heap.size:=⟨_,rfl⟩;rw [<- hg6] at hD6 ⊢;have HB6:=sH (HB5.out.trans (hb6.mono hs5));have HD6:=sH hD6;have HD56:=sH (HD5.out.below' hb6);have hs6:=hb6.size;have hl6:=hD6.lt;have hg56:g5<g6:=by omega
 clear hb6 hT6 hD6 hg6 HD5 HB5 HCD;have HI6:=sH (HI.out.below HB6.out);obtain⟨nn,hnn⟩:∃ k,k=s.first.length:=⟨_,rfl⟩;rw [<- hnn] at HC;have HNN:=sH hnn;have hnn7:nn<=7:=by rw [hnn]; exact HOK.out.crew.short.2
 obtain⟨Af,hAf⟩:∃ A,A=S.fA i:=⟨_,rfl⟩;obtain⟨cf,hcf⟩:∃ c,c=S.fC i:=⟨_,rfl⟩;rw [<- hAf,<- hcf] at HC;have HCL:=sH (fun(W:zB) (hb:zE w6.heap.size w6 W)=>Q2c Af nn cf s.first W w6.heap.size (by have:=HI6.out.first; rw [<- hAf,<- hnn] at this; exact this.below hb) hb.size (by omega));have C60:=sH (show w6.cell? ⟨g6,0,none⟩=some (.int .i64 (f:Int)) from(HD6.out.cell 0).trans (by rw [HC.out]; rfl));have C61:=sH (show w6.cell? ⟨g6,1,none⟩=some (.slice Af nn cf) from(HD6.out.cell 1).trans (by rw [HC.out]; rfl));have hAe:=sH hAf.symm;clear hnn hAf hcf;refine Q17 7 64 (fun jx W v=>match jx with | 0=>v=.pointer (some ⟨g6,0,none⟩) | 1=>v=.int .i64 (f:Int) | 2=>v=.pointer (some ⟨g6,1,none⟩) | 3=>v=.slice Af nn cf | 4=>∃ A' c',v=.slice A' nn c'/\OwnN W w6.heap.size (.slice A' nn c') s.first | 5=>∃ A' c',v=.agg (crC f A' nn c')/\OwnN W w6.heap.size (.slice A' nn c') s.first | _=>∃ g9 A' c',v=.slice (some ⟨g9,0,none⟩) 1 1/\w6.heap.size<=g9/\Blk W g9 69 (crC f A' nn c')/\OwnN W w6.heap.size (.slice A' nn c') s.first) [35,36,37,38,39,40,41] (by kernel_rfl) (by kernel_rfl) (by kernel_rfl) (by first | rfl | simp) (by kernel_rfl) (fun jx=>?last) ?heads ?_
 case last =>
  match jx with
  | 0 | 1 | 2 | 3=>exact Q2w.pure _
  | 4 | 5=>exact fun W W' u ⟨A',c',h1,h2⟩ hb=>⟨A',c',h1,h2.below_ hb⟩
  | jx+6=>exact fun W W' u ⟨g9,A',c',h1,h2,h3,h4⟩ hb=>⟨g9,A',c',h1,h2,h3.below' hb,h4.below_ hb⟩
 case heads =>
  simp only [tT];refine⟨?_,?_,?_,?_,?_,?_,?_,trivial⟩;all_goals intro a W hb hkp hd
  ·have e0:(_:zC)=.pointer (some ⟨g6,0,none⟩):=sK hkp 6;exact sV
  ·have e0:=sJ (hd 0) 35;have cc:=(hb.cell (p:=⟨g6,0,none⟩) hl6).trans C60.out;exact sV
  ·have e0:(_:zC)=.pointer (some ⟨g6,0,none⟩):=sK hkp 6;exact sV
  ·have e0:=sJ (hd 2) 37;have cc:=(hb.cell (p:=⟨g6,1,none⟩) hl6).trans C61.out;exact sV
  ·have e0:=sJ (hd 3) 38;refine Q1m rfl 58 #[.slice Af nn cf] (by go_simp) ((HCL.out W hb).mono ?_);rintro e w' ⟨v,rfl,ho,hb'⟩;obtain⟨A',c',hv,_⟩:=Q0e ho;rw [<- HNN.out] at hv;subst hv;exact⟨_,rfl,hb',A',c',rfl,OwnN.more ho hb.size⟩
  ·have e0:=sJ (hd 1) 36;obtain⟨A',c',e1,ho⟩:=(sG (hd 4) 39:);exact Q0E rfl (.agg (crC f A' nn c')) (by unfold crC; go_simp) ⟨A',c',rfl,ho⟩
  obtain⟨A',c',e0,ho⟩:=(sG (hd 5) 40:);exact Q3m rfl (.slice (some ⟨W.heap.size,0,none⟩) 1 1) (W.alloc (.cells (crC f A' nn c') 69)) (by unfold crC at e0 ⊢; go_simp; try rfl) (Q02 _ _) ⟨W.heap.size,A',c',rfl,hb.size,Blk.new W _ _,ho.below_ (Q02 _ _)⟩
 intro fv W hb hd;obtain⟨g9,A9,c9,h41,hg9,hB9,ho9⟩:=hd 6 (by omega) _ 41 rfl rfl;simp only [Q19,tU,h41];have HBW:=sH (HB6.out.trans (hb.mono (by omega)));have HST:=sH (show CrLp w w6 g6 f s 0 (.slice (some ⟨g9,0,none⟩) 1 1) W from⟨⟨_,_,by
  have:=Q2r.one hg9 (by rw [HNN.out] at hB9; exact hB9) (by rw [HNN.out] at ho9; exact ho9);have e:Q0U s.first (s.moves.take 0)=[s.first]:=by simp [Q0U]
  rw [e]; exact this⟩,⟨Af,nn,cf,by rw [<- HC.out]; exact HD6.out.below' hb,by
  have:=(HI6.out.below hb).first;have e:nowL s.first (s.moves.take 0)=s.first:=by simp [nowL]
  rw [e];have e2:S.fA i=Af:=by have:=HC.out;exact hAe.out
  rw [e2,<- HNN.out] at this; exact this⟩,HBW.out,hb.size⟩)
 obtain⟨mn,hmn⟩:∃ k,k=s.moves.length:=⟨_,rfl⟩;have hmn21:mn<=21:=by rw [hmn]; exact HOK.out.len
 obtain⟨mA,hmA⟩:∃ k,k=S.mA i:=⟨_,rfl⟩;obtain⟨mC,hmC⟩:∃ k,k=S.mC i:=⟨_,rfl⟩;have c54:W.cell? ⟨g5,4,none⟩=some (.slice mA mn mC):=((HD56.out.below' hb).cell 4).trans (by rw [HD.out,hmA,hmn,hmC]; rfl);have HMR:=sH (fun(W':zB) (hb:zE w.heap.size w W')=>(show W'.ownsRow 0 119 2 (.slice mA mn mC) mn (Q0s s.moves) by rw [hmA,hmn,hmC]; exact(HI.out.below hb).mv));have HMN:=sH hmn;have hg6w:g6<w6.heap.size:=hl6;have hw6w:w.heap.size<=w6.heap.size:=HB6.out.size;clear hd hb hB9 ho9 h41 hmn hmA hmC HI HI6 HCL C60 C61 HD6 HD56 HC HBW HB6 HROW HSRV;try simp only [Act.put,sA]
 go_wp2_with fail
 go_loopw [7,45] (fun ov iv wr=>∃ k:Nat,k<=mn/\iv=.int .i64 (k:Int)/\CrLp w w6 g6 f s k ov wr) (fun _ iv _=>mn - (intOf iv).toNat)
 case atStart=>exact⟨0,by omega,rfl,HST.out⟩
 obtain⟨k,hk,rfl,hlp⟩:=hrel;by_cases hkn:k<mn
 ·have hkI:(k:Int)<(mn:Int):=by omega
  have h0I:(0:Int)<=(k:Int):=by omega
  have hkl:k<s.moves.length:=by have:=HMN.out; omega
  obtain⟨⟨o,z⟩,hoz⟩:∃ q,s.moves[k]?=some q:=⟨_,zD hkl⟩;obtain⟨gm,cur,hmA,hBm,hcur⟩:=mv_at (HMR.out wr hlp.below) hoz;subst hmA;obtain⟨M,hM⟩:∃ M:Array zC,M=#[.int .i64 o,.int .i64 z]:=⟨_,rfl⟩;rw [<- hM] at hcur;have hms:M.size=2:=by rw [hM]; rfl
  have hm1:M.all (·.oneCell')=true:=by rw [hM]; simp [Value.oneCell']
  obtain⟨A,n,c,hB6,hrd⟩:=hlp.cur;obtain⟨nA,nC,hown⟩:=hlp.own;obtain⟨C',hC'⟩:∃ C',C'=crC f A n c:=⟨_,rfl⟩;rw [<- hC'] at hB6;have hcs':C'.size=2:=by rw [hC']; rfl
  have HLP:=sH hlp;have HBM:=sH hBm;have HCU:=sH hcur;have HM:=sH hM;have HC':=sH hC';have HB6:=sH hB6;have HRD:=sH hrd;have HOW:=sH hown;have HOZ:=sH hoz;have hszr:=hlp.size;have hlr:=hlp.below.size;clear hlp hoz hBm hcur hM hC' hB6 hrd hown HST c54;go_upto_region 9 with(first | refine Q01 (o:=⟨some 48,_,_,_,_,_⟩) rfl 119 (.tmp 47) rfl gm (k*2) 2 rfl 119 _ M _ HBM.out Tryz.underlying119 rfl rfl hms HCU.out ?_ | (refine Q00 (o:=⟨none,_,_,_,_,_⟩) rfl 119 (.tmp 9) (.tmp 48) rfl wr.heap.size 0 M rfl rfl 119 #[.int .i64 0,.int .i64 0] (Blk.newAt rfl) (by rw [hms]; kernel_rfl) (by rw [hms]; simp) hm1 ?_; intro w3 hT3 hD3))
  rw [Q0a _ _ (by rw [hms]; rfl)] at hD3;have hb3:zE wr.heap.size wr w3:=hT3.below ((zI _ _).alloc (zH _) _) (zH _);obtain⟨q9,hq9⟩:∃ b,b=wr.heap.size:=⟨_,rfl⟩;rw [<- hq9] at hD3 ⊢;have hs3:=hb3.size;have c90:w3.cell? ⟨q9,0,none⟩=some (.int .i64 o):=(hD3.cell 0).trans (by rw [HM.out]; rfl);have c91:w3.cell? ⟨q9,1,none⟩=some (.int .i64 z):=(hD3.cell 1).trans (by rw [HM.out]; rfl);have hmok:=HOK.out.mv;have hnok:OkC f (nowL s.first (s.moves.take k)):=by rw [HF.out]; exact(hmok.take k).now HOK.out.crew
  have HRP:=sH (Q3X f A n c _ o z w3 ((HRD.out.below hb3).more hb3.size) hnok);rw [<- HC'.out] at HRP;have HGD:=sH (hmok.at_ HOZ.out);have HB3:=sH hb3;have HB63:=sH (HB6.out.below' hb3);have hl9:=hD3.lt;clear hT3 hb3 hD3 hmok hnok hq9;go_upto_region 10 with(refine Q01 (o:=⟨some 50,_,_,_,_,_⟩) rfl 69 (.tmp 6) rfl g6 0 2 rfl 69 _ C' _ HB63.out Tryz.underlying69 rfl rfl hcs' (fun _ _=>by rw [zJ]) ?_)
  refine HRP.out.mono ?_;rintro _ w4 ⟨hb4,hgo,_⟩;obtain⟨A',n',c',rfl,ho4⟩:=hgo HGD.out;obtain⟨hn4,_⟩:=Q2B ho4;obtain⟨E,hE⟩:∃ E,E=crC f A' n' c':=⟨_,rfl⟩;have hes:E.size=2:=by rw [hE]; rfl
  have he1:E.all (·.oneCell')=true:=by rw [hE]; exact Q1L _ _ _ _
  rw [<- hE];have HE:=sH hE;have HO4:=sH ho4;have HB64:=sH (HB63.out.below' hb4);have HB4:=sH hb4;have HN4:=sH hn4;have hs4:=hb4.size;clear hb4 hgo ho4 hE hn4 HRP HB63 c90 c91;go_upto_region 10 with(refine Q00 (o:=⟨none,_,_,_,_,_⟩) rfl 69 (.tmp 6) (.tmp 56) rfl g6 0 E rfl rfl 69 C' HB64.out (by rw [hes]; kernel_rfl) (by rw [hes,hcs']; omega) he1 ?_; intro w5' hT5 hD5)
  rw [Q0a _ _ (by rw [hes,hcs'])] at hD5;have hb4w:zE wr.heap.size wr w4:=HB3.out.trans (HB4.out.mono hs3);have HS5:=sH hT5.size;have HO5:=sH (HO4.out.keep_ (w':=w5') fun b hb=>hT5.block b (fun e=>by have:=HO4.out.ge_ hb; omega));have HOW5:=sH ((HOW.out.below hb4w).keep (w':=w5') fun b hb _=>hT5.block b (by omega));have HD5:=sH hD5;have hw65:w6.heap.size<=w5'.heap.size:=by rw [hT5.size]; omega
  have HB5s:=sH (show w.heap.size<=w5'.heap.size by rw [hT5.size]; omega);have HB5:=sH (hT5.below ((HLP.out.below.trans (hb4w.mono hlr))) (show w.heap.size<=g6 by omega));clear hb4w hT5 hD5 HO4 HB3 HB4 HB64 HOW;have hlt5:=HD5.out.lt;have hfold:Array.foldl (fun(cs:Array zC) (x:zC×Nat)=>cs.setIfInBounds x.snd x.fst) #[Value.int .i64 0,Value.slice none 0 0] E.zipIdx 0 2=E:=by rw [HE.out]; rfl
  obtain⟨i0,hi0,hz0,hz1,hz2⟩:=info_parts Q7k;have hb6:=Q02 w5' (.cells E 69);have hcl:(Q0U s.first (s.moves.take k)).length=k+1:=by rw [Q6y,List.length_take]; omega
  have hrow6:=(HOW5.out.below hb6).row;rw [hcl] at hrow6;obtain⟨cells,hcells⟩:∃ l,l=Q1F f nA nC 0 (Q0U s.first (s.moves.take k)):=⟨_,rfl⟩;rw [<- hcells] at hrow6;have HCE:=sH hcells;have HCL:=sH hcl;have HROW6:=sH hrow6;have HRD6:=sH (Q3o w5' E hes);have HOW6:=sH (HOW5.out.below hb6);have HO6:=sH (HO5.out.below_ hb6);have HD6':=sH (HD5.out.below' hb6);have HB6':=sH (HB5.out.trans (hb6.mono (by have:=HB5.out.size; omega)));have hs6':=hb6.size;clear hb6 hcl hrow6 hcells HOW5 HO5 HB5 HLP HRD HB6 HBM HCU HM HC';go_wp2_with (first
   | refine Q01 (o:=⟨some 59,_,_,_,_,_⟩) rfl 69 (.tmp 6) rfl g6 0 2 rfl 69 _ E _ HD5.out Tryz.underlying69 rfl rfl hes (fun _ _=>by rw [zJ]) ?_
   | (at_builtin; go_must (refine Q05 _ rfl (.tmp 58) (.tmp 60) 66 rfl w6.heap.size 69 i0 _ 2 32 Tryz.underlying66 hi0 hz0 hz1 hz2 rfl (by omega) _ _ _ rfl HROW6.out _ (some ⟨w5'.heap.size,0,none⟩) 1 1 E.toList rfl HRD6.out ?d1 ?d2 ?d3 ?d4 ?_)))
  case d1=>exact fun u hu=>(Array.all_eq_true'.1 he1) u (by simpa using hu)
  case d2=>unfold maxLen; omega
  case d3=>first | omega | (simp; omega)
  case d4=>first | omega | (simp; omega)
  intro v6 w6' hown6 hg6 hor6;obtain⟨l',hl'⟩:∃ l,l=Q1D (nowL s.first (s.moves.take k)) o z:=⟨_,rfl⟩;have hn':=HN4.out;have ho6:=HO6.out;rw [<- hl'] at hn' ho6;have hown:Q2r w6' w6.heap.size v6 f (Q0U s.first (s.moves.take k)++[l']) _ _:=HOW6.out.push (l:=l') (A:=A') (c:=c') hg6 (by rw [hn']; exact OwnN.more ho6 (by omega)) (by rw [HCL.out,hn',<- HCE.out]; rw [HE.out] at hown6; exact hown6);have hb66:zE w.heap.size w w6':=Q0i HB6'.out (by simp; have:=HB5s.out; omega) hg6 (fun b hb=>by have:=(Q0f HROW6.out hb).1; omega);have htk:s.moves.take (k+1)=s.moves.take k++[(o,z)]:=by rw [List.take_add_one,HOZ.out]; rfl
  have hcrew:Q0U s.first (s.moves.take (k+1))=Q0U s.first (s.moves.take k)++[l']:=by rw [htk,Q3U,hl']
  have hnow:nowL s.first (s.moves.take (k+1))=l':=by rw [htk,Q3F,hl']
  have hlast:=hown.nodes _ l' List.getElem?_concat_length;rw [if_pos rfl,if_pos rfl] at hlast;have hbl6:Blk w6' g6 69 (crC f A' n' c'):=by rw [<- HE.out];exact HD6'.out.grown hg6 (fun e=>by have:=(Q0f HROW6.out e.symm).1; omega)
  have HLP':=sH (show CrLp w w6 g6 f s (k+1) v6 w6' from⟨⟨_,_,by rw [hcrew]; exact hown⟩,⟨A',n',c',hbl6,by rw [hnow,<- hn']; exact(Q2B hlast).2⟩,hb66,by have:=hg6.size; have:=HS5.out; omega⟩);clear hown hb66 htk hcrew hnow hlast hbl6 hl' hn' ho6 hown6 hg6 hor6 HS5 HB5s hfold;go_wp2_with fail
  go_roundw
  case rel=>exact⟨k+1,by omega,by go_num,HLP'.out⟩
  case measure=>simp [intOf]; omega
 obtain rfl:k=mn:=by omega
 have hkI:¬ (k:Int)<(k:Int):=by omega
 have htk:s.moves.take k=s.moves:=List.take_of_length_le (by rw [HMN.out]; omega);obtain⟨nA,nC,hown⟩:=hlp.own;rw [htk] at hown;rw [HF.out] at hown;have hpost:=Q2N.of hown hlp.below hw6w;rw [<- HP.out] at hpost;have HR:=sH hpost;clear hlp htk hown hpost;go_wp2_with fail
 exact HR.out
def Qbq (w:zB) (V:ALoc) (N:Nat->Prop) (L:LL) (asked:Nat) (p:AM×Ans×Nat) (err ep:Nat) (nodes:List Int) (r:Ending) (w':zB):Prop :=r=.returned (.bool (decide (p.2.2=0/\p.2.1.err=err/\p.2.1.epoch=ep/\p.2.1.nodes=nodes)))/\Q11 w w' V N p.1 L asked 6
theorem AAt.has_all {w:zB} {V:ALoc} {N:Nat->Prop} {m:AM} {b:Nat} (hb:V.has b):V.all b:=by
 rcases hb with e | e | e | e
 ·exact .inl e
 ·exact .inr (.inl e)
 ·exact .inr (.inr (.inr (.inr (.inr e))))
 exact .inr (.inr (.inl e))
theorem Qaw (w:zB) (V:ALoc) (N:Nat->Prop) (m:AM) (L:LL) (asked:Nat) (h:AAt w V N m) (hN:∀ b,N b->b<w.heap.size) (hbk:Q0h w V.k L asked) (hin:Q1f L (Q07 m)) (has:asked<=700000)
 (x:Wish) (A:Option zA) (n c:Nat) (A':Option zA) (n' c':Nat) (B:Nat) (hx:Q1q w B x A n c A' n' c') (hB:B<=w.heap.size)
 (err ep:Nat) (nodes:List Int) (D:Option zA) (k d:Nat) (hy:Q04 w B 1 D k (nodes.map vn)) (hyp:∀ a,0<k->D=some a->N a.block/\¬ V.all a.block) (hk:k<=1000000) :
 Calls zG 30 #[.pointer (some ⟨V.g,0,none⟩),.agg (Q0g x A n c A' n' c'),.int .i64 (err:Int),.int .i64 (ep:Int),.slice D k d] w (Qbq w V N L asked (doQ m x) err ep nodes):=by
 have hX:zE w.heap.size w (w.alloc (.cells (Q0g x A n c A' n' c') 31)):=Q02 _ _;have k3:Blk (w.alloc (.cells (Q0g x A n c A' n' c') 31)) w.heap.size 31 (Q0g x A n c A' n' c'):=Blk.newAt rfl;have hz1:(w.alloc (.cells (Q0g x A n c A' n' c') 31)).heap.size=w.heap.size+1:=by simp
 have HV:=sH h;have HNN:=sH hN;have HX:=sH hX;have K3:=sH k3;have HY:=sH hy;have HYP:=sH hyp;have HDO:=sH (fun(W:zB) (hb:zE w.heap.size w W)=>Qbt W V _ m L asked (h.later hb) (fun b hn=>hn.elim (fun e=>by have:=hN b e; have:=hb.size; omega) (fun e=>e.2)) (hbk.below hb) hin has x A n c A' n' c' B (hx.below (hb.mono hB)) (by have:=hb.size; omega));obtain⟨g4,hg4⟩:∃ b,b=w.heap.size:=⟨_,rfl⟩;obtain⟨p,hp⟩:∃ p,p=doQ m x:=⟨_,rfl⟩;rw [<- hp] at HDO ⊢;clear h hN hbk hin hx hX k3 hy hyp hp;obtain⟨W0,hW0⟩:∃ W0,W0=Q0g x A n c A' n' c':=⟨_,rfl⟩;have hws:W0.size=10:=by rw [hW0]; simp [Q0g]
 rw [<- hW0] at HX K3 HDO hz1 ⊢;clear hW0;go_enter Tryz.func30,Tryz.ntmps30
 go_upto_region 1 with fail
 generalize zM w _=w1 at HX K3 hz1 ⊢;rw [<- hg4] at K3 ⊢;have hl3:=K3.out.lt;have hw1:w.heap.size<=w1.heap.size:=by omega
 have hgw4:w.heap.size<=g4:=by omega
 clear hg4 hz1;go_wp2_with (refine Q01 (o:=⟨some 15,_,_,_,_,_⟩) rfl 31 (.tmp 6) rfl g4 0 10 rfl 31 _ W0 _ K3.out Tryz.underlying31 rfl rfl hws (fun _ _=>by rw [zJ]; try rfl) ?_)
 refine(HDO.out w1 HX.out).mono ?_;rintro _ w2 ⟨Dc,rfl,hds,hans,hvd⟩;obtain⟨⟨pm,pa,pf⟩,hpe⟩:∃ r,r=p:=⟨_,rfl⟩;subst hpe;simp only at hvd hans ⊢;have HVD:=sH (Q11.fold HNN.out HV.out.all (fun b hb=>.inr (.inr hb)) HX.out hvd).1;have HY2:=sH (hvd.only.reads ((HY.out.below (HX.out.mono hB)).more (show B<=w1.heap.size by omega)) (fun a h0 ha e=>by
  have hh:=HYP.out a h0 ha;rcases e with e | e
  ·exact hh.2 (AAt.has_all (w:=w) (m:=m) (N:=N) e)
  exact e (.inl hh.1)))
 have hs2:=hvd.only.size;obtain⟨A3,q3,hDe,ho3⟩:=hans;have hd1:Dc.all (·.oneCell')=true:=by rw [hDe]; exact Q1N _ _ _ _ _ _ _ _
 obtain⟨A4,q4,e4,b1,b2,r3,_⟩:=Q0e ho3;injection e4 with e5 _ e6
 subst e5 e6;have HR3:=sH r3;have HDE:=sH hDe;obtain⟨kn,hkn⟩:∃ q,q=pa.nodes.length:=⟨_,rfl⟩;rw [<- hkn] at b1 HR3 HDE;clear hvd ho3 HDO r3 hDe hkn;by_cases hz:pf=0
 ·have hzb:((pf:Int) == 0)=true:=by simp [hz]
  go_upto_region 2 with(refine Q00 (o:=⟨none,_,_,_,_,_⟩) rfl 34 (.tmp 11) (.tmp 17) rfl w2.heap.size 0 Dc rfl rfl 34 (anC 0 none 0 0 0 none 0 0) (Blk.newAt rfl) (by rw [hds]; kernel_rfl) (by rw [hds]; simp [anC]) hd1 ?_; intro w5 hT5 hD5)
  rw [Q0a _ _ (by rw [hds]; rfl)] at hD5;have hb5:zE w2.heap.size w2 w5:=hT5.below ((zI _ _).alloc (zH _) _) (zH _);have HD5:=sH hD5;have hs5:=hb5.size;have HSA:=sH (Q5Z pa.err err pa.epoch ep none 0 0 A3 kn q3 none 0 0 D k d [] [] pa.nodes nodes w5 w2.heap.size Q04.none_ (HR3.out.below hb5) Q04.none_ (HY2.out.below hb5) hs5 (by unfold maxLen; omega) (zF b1 b2) (by unfold maxLen; omega) (by unfold maxLen; omega));rw [<- HDE.out] at HSA;unfold anC at HSA;have HVD5:=sH (HVD.out.after hb5);obtain⟨g6,hg6⟩:∃ g,g=w2.heap.size:=⟨_,rfl⟩;rw [<- hg6] at HD5 ⊢;clear hT5 hD5 hb5 hg6;go_wp2_with (refine Q2j (o:=⟨some 22,_,_,_,_,_⟩) rfl 34 (.tmp 11) rfl g6 0 4 rfl 34 _ Dc _ HD5.out Tryz.underlying34 rfl rfl hds (fun _ _=>by rw [zJ]) ?_)
  refine HSA.out.mono ?_;rintro _ w6 ⟨rfl,hb6⟩;have HVD6:=sH (HVD5.out.after hb6);clear hb6 HSA;go_wp2_with fail
  go_ret
  refine⟨Q0C ?_,HVD6.out⟩;rw [Bool.eq_iff_iff];simp only [Bool.and_eq_true,decide_eq_true_eq];constructor
  ·rintro ⟨h1,h2,h3⟩; exact⟨hz,by omega,by omega,h3⟩
  rintro ⟨_,h1,h2,h3⟩; exact⟨by omega,by omega,h3⟩
 have hzb:((pf:Int) == 0)=false:=by simpa using hz
 have HZ:=sH hz;clear hz;go_upto_region 2 with(refine Q00 (o:=⟨none,_,_,_,_,_⟩) rfl 34 (.tmp 11) (.tmp 17) rfl w2.heap.size 0 Dc rfl rfl 34 (anC 0 none 0 0 0 none 0 0) (Blk.newAt rfl) (by rw [hds]; kernel_rfl) (by rw [hds]; simp [anC]) hd1 ?_; intro w5 hT5 hD5)
 have HVD5:=sH (HVD.out.after (hT5.below ((zI _ _).alloc (zH _) _) (zH _)));clear hT5 hD5;go_wp2_with fail
 go_ret
 refine⟨Q0C ?_,HVD5.out⟩;rw [decide_eq_false];rintro ⟨h1,_⟩;exact HZ.out h1
end
section
open Go.RowKit Go.Maps
attribute [local irreducible] wpList
theorem wC_spl (x y:Wish) (A B A' B':Option zA) (n c n' c' m d m' d':Nat):spl (Q0g x A n c A' n' c') 0 (Q0g y B m d B' m' d').toList=Q0g y B m d B' m' d':=Q0a (Q0g x A n c A' n' c') (Q0g y B m d B' m' d') rfl
end
section
open Go.RowKit Go.Maps
attribute [local irreducible] wpList Q0c
theorem Q5F (w:zB) (g gc T:Nat) (N:Nat->Prop) (m:AM) (S:ASl) (h:ADat w g gc (some ⟨T,0,none⟩) N m S) :
 Calls zG 32 #[.pointer (some ⟨g,0,none⟩)] w fun e w'=>e=.returned (.int .i64 (m.chunks.length:Int))/\w'=w:=by
 have hc1:w.cell? ⟨g,1,none⟩=some (.slice (some ⟨gc,0,none⟩) m.chunks.length S.cap):=(h.blk.cell 1).trans (Q1a _ _ _ _ 1 (by omega));have HNO:=sH (Q2M w g T ((h.blk.cell 0).trans (Q1a _ _ _ _ 0 (by omega))));obtain⟨n,hn⟩:∃ n,n=m.chunks.length:=⟨_,rfl⟩;rw [<- hn] at hc1 ⊢;clear h hn;go_enter Tryz.func32,Tryz.ntmps32
 go_wp2_with fail
 refine HNO.out.mono ?_;rintro _ _ ⟨rfl,rfl⟩;go_wp2_with fail
 go_ret
 exact⟨rfl,rfl⟩
def Q1e (c s b:Int):Wish:={ client:=c,stamp:=s,group:=0,epoch:=0,kind:=3,block:=b,data:=[],old:=0,new:=0,next:=[] }
def Q0N (c s b o z:Int):Wish:={ client:=c,stamp:=s,group:=0,epoch:=0,kind:=4,block:=b,data:=[],old:=o,new:=z,next:=[] }
theorem Q1O (c s b:Int) (w:zB) :
 Calls zG 29 #[.int .i64 c,.int .i64 s,.int .i64 b] w fun e w'=>e=.returned (.agg (Q0g (Q1e c s b) none 0 0 none 0 0))/\zE w.heap.size w w':=by
 have hX:zE w.heap.size w (w.alloc (.cells (Q0g Q4O none 0 0 none 0 0) 31)):=Q02 _ _;have hk:Blk (w.alloc (.cells (Q0g Q4O none 0 0 none 0 0) 31)) w.heap.size 31 (Q0g Q4O none 0 0 none 0 0):=Blk.newAt rfl;have HZ:=sH (show Q0g Q4O none 0 0 none 0 0=#[.int .i64 0,.int .i64 0,.int .i64 0,.int .i64 0,.int .i64 0,.int .i64 0,.slice none 0 0,.int .i64 0,.int .i64 0,.slice none 0 0] from rfl);have HX:=sH hX;have HK:=sH hk;obtain⟨g,hg⟩:∃ g,g=w.heap.size:=⟨_,rfl⟩;clear hX hk;go_enter Tryz.func29,Tryz.ntmps29
 go_upto_region 1 with fail
 rw [<- HZ.out];generalize zM w _=w1 at HX HK ⊢;rw [<- hg] at HK ⊢;have hgw:w.heap.size<=g:=by omega
 clear hg;go_wp2_with (refine Q00 (o:=⟨none,_,_,_,_,_⟩) rfl 31 (.tmp 6) (.tmp 10) rfl g 0 (Q0g (Q1e c s b) none 0 0 none 0 0) rfl rfl 31 (Q0g Q4O none 0 0 none 0 0) HK.out (Q5a _ _ _ _ _ _ _) (by simp [Q0g]) (Q6n _ _ _ _ _ _ _) ?_; intro w3 hT3 hD3; rw [wC_spl] at hD3)
 refine bodyPost_ret (Q0y rfl _ _ g 10 31 _ _ rfl hD3 Tryz.underlying31 rfl rfl rfl) rfl ?_;exact⟨rfl,hT3.below HX.out hgw⟩
theorem Q0z (c s b o z:Int) (w:zB) :
 Calls zG 31 #[.int .i64 c,.int .i64 s,.int .i64 b,.int .i64 o,.int .i64 z] w fun e w'=>e=.returned (.agg (Q0g (Q0N c s b o z) none 0 0 none 0 0))/\zE w.heap.size w w':=by
 have hX:zE w.heap.size w (w.alloc (.cells (Q0g Q4O none 0 0 none 0 0) 31)):=Q02 _ _;have hk:Blk (w.alloc (.cells (Q0g Q4O none 0 0 none 0 0) 31)) w.heap.size 31 (Q0g Q4O none 0 0 none 0 0):=Blk.newAt rfl;have HZ:=sH (show Q0g Q4O none 0 0 none 0 0=#[.int .i64 0,.int .i64 0,.int .i64 0,.int .i64 0,.int .i64 0,.int .i64 0,.slice none 0 0,.int .i64 0,.int .i64 0,.slice none 0 0] from rfl);have HX:=sH hX;have HK:=sH hk;obtain⟨g,hg⟩:∃ g,g=w.heap.size:=⟨_,rfl⟩;clear hX hk;go_enter Tryz.func31,Tryz.ntmps31
 go_upto_region 1 with fail
 rw [<- HZ.out];generalize zM w _=w1 at HX HK ⊢;rw [<- hg] at HK ⊢;have hgw:w.heap.size<=g:=by omega
 clear hg;go_wp2_with (refine Q00 (o:=⟨none,_,_,_,_,_⟩) rfl 31 (.tmp 10) (.tmp 16) rfl g 0 (Q0g (Q0N c s b o z) none 0 0 none 0 0) rfl rfl 31 (Q0g Q4O none 0 0 none 0 0) HK.out (Q5a _ _ _ _ _ _ _) (by simp [Q0g]) (Q6n _ _ _ _ _ _ _) ?_; intro w3 hT3 hD3; rw [wC_spl] at hD3)
 refine bodyPost_ret (Q0y rfl _ _ g 10 31 _ _ rfl hD3 Tryz.underlying31 rfl rfl rfl) rfl ?_;exact⟨rfl,hT3.below HX.out hgw⟩
def twoL:List (Int×List Int):=[(1,[5,6,7,8]),(1,[9,10,11,12])]
theorem Q70 (w:zB) :
 Calls zG 26 #[] w fun e w'=>∃ A c,e=.returned (.slice A 2 c)/\Q1g w' A 2 twoL/\zE w.heap.size w w':=by
 go_enter Tryz.func26,Tryz.ntmps26
 go_wp2_with fail
 have h1:=Q02 w (.cells #[.int .i64 5,.int .i64 6,.int .i64 7,.int .i64 8] 3);have k1:Blk (w.alloc (.cells #[.int .i64 5,.int .i64 6,.int .i64 7,.int .i64 8] 3)) w.heap.size 3 #[.int .i64 5,.int .i64 6,.int .i64 7,.int .i64 8]:=Blk.newAt rfl;have hs1:(w.alloc (.cells #[.int .i64 5,.int .i64 6,.int .i64 7,.int .i64 8] 3)).heap.size=w.heap.size+1:=by simp
 generalize w.alloc (.cells #[.int .i64 5,.int .i64 6,.int .i64 7,.int .i64 8] 3)=w1 at h1 k1 hs1 ⊢;have h2:=Q02 w1 (.cells #[.int .i64 9,.int .i64 10,.int .i64 11,.int .i64 12] 3);have k2:Blk (w1.alloc (.cells #[.int .i64 9,.int .i64 10,.int .i64 11,.int .i64 12] 3)) w1.heap.size 3 #[.int .i64 9,.int .i64 10,.int .i64 11,.int .i64 12]:=Blk.newAt rfl;have hs2:(w1.alloc (.cells #[.int .i64 9,.int .i64 10,.int .i64 11,.int .i64 12] 3)).heap.size=w1.heap.size+1:=by simp
 generalize w1.alloc (.cells #[.int .i64 9,.int .i64 10,.int .i64 11,.int .i64 12] 3)=w2 at h2 k2 hs2 ⊢;have h3:=Q02 w2 (.cells #[.int .i64 1,.slice (some ⟨w.heap.size,0,none⟩) 4 4,.int .i64 1,.slice (some ⟨w.heap.size+1,0,none⟩) 4 4] 69);have k3:Blk (w2.alloc (.cells #[.int .i64 1,.slice (some ⟨w.heap.size,0,none⟩) 4 4,.int .i64 1,.slice (some ⟨w.heap.size+1,0,none⟩) 4 4] 69)) w2.heap.size 69 #[.int .i64 1,.slice (some ⟨w.heap.size,0,none⟩) 4 4,.int .i64 1,.slice (some ⟨w.heap.size+1,0,none⟩) 4 4]:=Blk.newAt rfl;generalize w2.alloc (.cells #[.int .i64 1,.slice (some ⟨w.heap.size,0,none⟩) 4 4,.int .i64 1,.slice (some ⟨w.heap.size+1,0,none⟩) 4 4] 69)=w3 at h3 k3 ⊢;have k13:Blk w3 w.heap.size 3 #[.int .i64 5,.int .i64 6,.int .i64 7,.int .i64 8]:=(k1.below' h2).below' h3;have k23:Blk w3 (w.heap.size+1) 3 #[.int .i64 9,.int .i64 10,.int .i64 11,.int .i64 12]:=by rw [<- hs1]; exact k2.below' h3
 have hrd:∀ (q a b c d:Int) (g:Nat),Blk w3 g 3 #[.int .i64 a,.int .i64 b,.int .i64 c,.int .i64 d]->Q04 w3 w3.heap.size 1 (some ⟨g,0,none⟩) 4 ([a,b,c,d].map vn):=fun q a b c d g hb=>⟨rfl,fun _=>⟨⟨g,0,none⟩,rfl,hb.lt,fun j u hu=>by rw [Q0R,zJ,hb.cell,<- zK]; exact hu⟩⟩
 have e:w2.heap.size=w.heap.size+1+1:=by omega
 go_ret
 refine⟨some ⟨w.heap.size+1+1,0,none⟩,2,rfl,⟨rfl,fun _=>⟨w2.heap.size,_,by rw [e],k3,fun i f l hi=>?_⟩⟩,(h1.trans (h2.mono (by omega))).trans (h3.mono (by omega))⟩;match i,hi with
 | 0,hi =>obtain⟨rfl,rfl⟩:=Prod.mk.inj (zL hi);exact⟨_,_,rfl,rfl,hrd 0 _ _ _ _ _ k13,by decide⟩
 | 1,hi =>obtain⟨rfl,rfl⟩:=Prod.mk.inj (zL hi);exact⟨_,_,rfl,rfl,hrd 0 _ _ _ _ _ k23,by decide⟩
 | i+2,hi=>simp [twoL] at hi
theorem Q2r.at_ {w:zB} {B f i:Nat} {v:zC} {ls:List (List Int)} {nA:Nat->Option zA} {nC:Nat->Nat} {l:List Int} (h:Q2r w B v f ls nA nC) (hi:ls[i]?=some l):∃ gl cap,v=.slice (some ⟨gl,0,none⟩) ls.length cap/\B<=gl/\gl<w.heap.size/\w.cell? ⟨gl,i*2+1,none⟩=some (.slice (nA i) l.length (nC i)):=by
 have hil:i<ls.length:=(List.getElem?_eq_some_iff.1 hi).1;have hr:=h.row;rcases h.row.2 with⟨_,h0⟩ | ⟨gl,cap,cur,hv,h2,h3,h4,h5,h6,h7⟩
 ·omega
 have hB:Blk w gl 69 cur:=h3;refine⟨gl,cap,hv,h2,hB.lt,?_⟩;rw [hB.cell];have:=(Q6D f nA nC ls 0 i l hi).2;rw [zJ] at this;rw [<- this,<- h7,List.getElem?_take,if_pos (by omega),zK]
structure ALSt (w0:zB) (V:ALoc) (N:Nat->Prop) (m:AM) (a:Nat) (W:zB):Prop where
 vat:AAt W V N m
 book:∃ L a',Q0h W V.k L a'/\a'<=a/\Q1f L (Q07 m)
 low:zE w0.heap.size w0 W
 nlt:∀ b,N b->b<W.heap.size
 old:∀ b,b<w0.heap.size->N b
 new:∀ b,V.all b->w0.heap.size<=b
theorem ALSt.below {w0 W W':zB} {V:ALoc} {N:Nat->Prop} {m:AM} {a:Nat} (h:ALSt w0 V N m a W) (hb:zE W.heap.size W W'):ALSt w0 V N m a W':=by obtain⟨L,a',h1,h2,h3⟩:=h.book;exact⟨h.vat.below hb,⟨L,a',h1.below hb,h2,h3⟩,h.low.trans (hb.mono h.low.size),fun b hn=>by have:=h.nlt b hn; have:=hb.size; omega,h.old,h.new⟩
theorem ALSt.only {w0 W W':zB} {V:ALoc} {N:Nat->Prop} {m:AM} {a:Nat} (h:ALSt w0 V N m a W) (ho:Only (V.hasN N) W W'):zE w0.heap.size w0 W' :=
 h.low.trans (ho.below h.low.size fun b hb hv=>by
  rcases hv with e | e
  ·exact absurd (h.new b (AAt.has_all (w:=w0) (m:=m) (N:=N) e)) (by omega)
  exact e (h.old b hb))
theorem ALSt.did {w0 W W':zB} {V:ALoc} {N:Nat->Prop} {m m':AM} {a a' q asked:Nat} {L:LL} (h:ALSt w0 V N m a W) (hd:Q11 W W' V N m' L asked q) (hq:asked+q<=a'):ALSt w0 V N m' a' W':=by obtain⟨L',b',h1,h2,h3,h4⟩:=hd.book;exact⟨hd.vat,⟨L',b',h1,by omega,h4⟩,h.only hd.only,fun b hn=>by have:=h.nlt b hn; have:=hd.only.size; omega,h.old,h.new⟩
theorem ALSt.more {w0 W:zB} {V:ALoc} {N:Nat->Prop} {m:AM} {a a':Nat} (h:ALSt w0 V N m a W) (ha:a<=a'):ALSt w0 V N m a' W:=by obtain⟨L,b,h1,h2,h3⟩:=h.book;exact⟨h.vat,⟨L,b,h1,by omega,h3⟩,h.low,h.nlt,h.old,h.new⟩
theorem ALSt.later {w0 W W':zB} {V:ALoc} {N:Nat->Prop} {m:AM} {a:Nat} (h:ALSt w0 V N m a W) (hb:zE W.heap.size W W'):ALSt w0 V (fun b=>N b\/(W.heap.size<=b/\b<W'.heap.size)) m a W':=by obtain⟨L,a',h1,h2,h3⟩:=h.book;exact⟨h.vat.later hb,⟨L,a',h1.below hb,h2,h3⟩,h.low.trans (hb.mono h.low.size),fun b hn=>hn.elim (fun e=>by have:=h.nlt b e; have:=hb.size; omega) (fun e=>e.2),fun b hb'=>.inl (h.old b hb'),h.new⟩
theorem ALoc.all_lt {w:zB} {V:ALoc} {N:Nat->Prop} {m:AM} {L:LL} {a:Nat} (h:AAt w V N m) (hb:Q0h w V.k L a):∀ b,V.all b->b<w.heap.size:=fun b hb'=>by
 obtain⟨S,hd⟩:=h.dat;have hl:=hb.lt;rcases hb' with e | e | e | e
 ·rw [e]; exact hd.lt.1
 ·rw [e]; exact hd.lt.2
 ·rcases e with e | e | e <;> rw [e]
  ·exact hl.1
  ·exact hl.2.1
  exact hl.2.2
 exact h.tree.lt e
theorem ALSt.start {w0 W W':zB} {V:ALoc} {m:AM} {asked:Nat} {L:LL} (hb:zE w0.heap.size w0 W) (hk:w0.heap.size<=V.k.g/\w0.heap.size<=V.k.b1/\w0.heap.size<=V.k.b2) (h:ANew W W' V.k V L asked m):ALSt w0 V (fun b=>V.all b\/b<W.heap.size) m (asked+30) W':=by
 obtain⟨L',a',h1,h2,h3,h4⟩:=h.book;have hs:=hb.size;refine⟨h.vat,⟨L',a',h1,by omega,h4⟩,hb.trans (h.only.below hs fun b hb' hn=>by rcases hn with e | e | e <;> omega),fun b hn=>hn.elim (fun e=>ALoc.all_lt h.vat h1 b e) (fun e=>by have:=h.only.size; omega),fun b hb'=>.inr (by omega),fun b hb'=>?_⟩;rcases hb' with e | e | e | e
 ·have:=h.new.1; omega
 ·have:=h.new.2.1; omega
 ·rcases e with e | e | e <;> omega
 have:=h.new.2.2 b e; omega
def ADidP (w0:zB) (V:ALoc) (N:Nat->Prop) (a:Nat) (W:zB) (p:AM×Ans×Nat) (r:Ending) (W':zB):Prop :=∃ D,r=.returned (.tuple #[.agg D,.int .i64 (p.2.2:Int)])/\D.size=4/\AnsN W' W.heap.size D p.2.1/\ALSt w0 V N p.1 (a+6) W'/\Only (V.hasN N) W W'
theorem ALSt.do_ {w0 W:zB} {V:ALoc} {N:Nat->Prop} {m:AM} {a:Nat} (h:ALSt w0 V N m a W) (ha:a<=700000) (x:Wish) (A:Option zA) (n c:Nat) (A':Option zA) (n' c':Nat) (B:Nat) (hx:Q1q W B x A n c A' n' c') (hB:B<=W.heap.size) :
 Calls zG 28 #[.pointer (some ⟨V.g,0,none⟩),.agg (Q0g x A n c A' n' c')] W (ADidP w0 V N a W (doQ m x)):=by
 obtain⟨L,a',h1,h2,h3⟩:=h.book;refine(Qbt W V N m L a' h.vat h.nlt h1 h3 (by omega) x A n c A' n' c' B hx hB).mono ?_;rintro r W' ⟨D,rfl,hs,ho,hd⟩;exact⟨D,rfl,hs,ho,h.did hd (by omega),hd.only⟩
theorem ALSt.does_ {w0 W0 W:zB} {V:ALoc} {N:Nat->Prop} {m:AM} {a:Nat} (h:ALSt w0 V N m a W0) (hb:zE W0.heap.size W0 W) (ha:a<=700000) (x:Wish) (hx:Q1q W W.heap.size x none 0 0 none 0 0)
 (err ep:Nat) (nodes:List Int) (D:Option zA) (k d:Nat) (hy:Q04 W W.heap.size 1 D k (nodes.map vn)) (hyp:∀ a,0<k->D=some a->W0.heap.size<=a.block) (hk:k<=1000000)
 (m':AM) (hm':(doQ m x).1=m') (hres:(doQ m x).2.2=0/\(doQ m x).2.1.err=err/\(doQ m x).2.1.epoch=ep/\(doQ m x).2.1.nodes=nodes) (args:Array zC) (hargs:args=#[.pointer (some ⟨V.g,0,none⟩),.agg (Q0g x none 0 0 none 0 0),.int .i64 (err:Int),.int .i64 (ep:Int),.slice D k d]) :
 Calls zG 30 args W fun e W'=>e=.returned (.bool true)/\ALSt w0 V (fun b=>N b\/(W0.heap.size<=b/\b<W.heap.size)) m' (a+6) W':=by
 have hl:=h.later hb;obtain⟨L,a',h1,h2,h3⟩:=hl.book;subst hargs;refine(Qaw W V _ m L a' hl.vat hl.nlt h1 h3 (by omega) x none 0 0 none 0 0 _ hx (zH _) err ep nodes D k d hy (fun ad h0 hA=>?_) hk).mono ?_
 ·obtain⟨ad',e,hlt,_⟩:=hy.2 h0;rw [hA] at e;injection e with e
  subst e;have h5:=hyp ad h0 hA;exact⟨.inr ⟨h5,hlt⟩,fun hv=>by have:=h.nlt _ (h.vat.all _ hv); omega⟩
 rintro e W' ⟨rfl,hd⟩;subst hm';exact⟨by rw [decide_eq_true hres],hl.did hd (by omega)⟩
theorem Q5l {w:zB} {c s b:Int} (h:I64 c/\I64 s/\I64 b):Q1q w w.heap.size (Q1e c s b) none 0 0 none 0 0 :=⟨Q04.none_,by simp [Q1e],by simp [Q1e],Q04.none_,by simp [Q1e],by simp [Q1e],⟨h.1,h.2.1,by show I64 0; unfold I64; omega,by show I64 0; unfold I64; omega,by show I64 3; unfold I64; omega,h.2.2,by show I64 0; unfold I64; omega,by show I64 0; unfold I64; omega,fun z hz=>by simp [Q1e] at hz⟩⟩
theorem Q37 {w:zB} {c s b o z:Int} (h:I64 c/\I64 s/\I64 b/\I64 o/\I64 z):Q1q w w.heap.size (Q0N c s b o z) none 0 0 none 0 0 :=⟨Q04.none_,by simp [Q0N],by simp [Q0N],Q04.none_,by simp [Q0N],by simp [Q0N],⟨h.1,h.2.1,by show I64 0; unfold I64; omega,by show I64 0; unfold I64; omega,by show I64 4; unfold I64; omega,h.2.2.1,h.2.2.2.1,h.2.2.2.2,fun z hz=>by simp [Q0N] at hz⟩⟩
def ak0:AM:=Q1k [⟨1,[5,6,7,8],[]⟩,⟨1,[9,10,11,12],[]⟩]
theorem Q6T:newQ twoL=some ak0:=by kernel_rfl
def ak1:AM:=(doQ ak0 (Q1e 31 1 2)).1
def ak2:AM:=(doQ ak1 (Q1e 31 1 2)).1
def ak3:AM:=(doQ ak2 (Q0N 34 1 1 6 20)).1
def ak4:AM:=(doQ ak3 (Q0N 34 2 1 6 21)).1
def ak5:AM:=(doQ ak4 (Q0N 34 3 1 7 6)).1
def ak6:AM:=(doQ ak5 (Q0N 31 2 1 7 21)).1
def Q1p (m:AM) (x:Wish) (err ep:Nat) (nodes:List Int):Prop:=(doQ m x).2.2=0/\(doQ m x).2.1.err=err/\(doQ m x).2.1.epoch=ep/\(doQ m x).2.1.nodes=nodes
instance (m:AM) (x:Wish) (err ep:Nat) (nodes:List Int):Decidable (Q1p m x err ep nodes):=by unfold Q1p; infer_instance
theorem ak_0:Q1p ak0 (Q1e 31 1 2) 0 0 [9,10,11,12]:=by decide +kernel
theorem ak_1:Q1p ak1 (Q1e 31 1 2) 0 0 [9,10,11,12]:=by decide +kernel
theorem ak_2:Q1p ak2 (Q0N 34 1 1 6 20) 0 1 []:=by decide +kernel
theorem ak_3:Q1p ak3 (Q0N 34 2 1 6 21) 180 1 []:=by decide +kernel
theorem ak_4:Q1p ak4 (Q0N 34 3 1 7 6) 180 1 []:=by decide +kernel
theorem ak_5:Q1p ak5 (Q0N 31 2 1 7 21) 180 0 []:=by decide +kernel
theorem ak_6:(ak6.chunks[0]?.map fun s=>Q0U s.first s.moves)=some [[5,6,7,8],[5,7,8,20]]/\ak6.chunks.length=2:=by decide +kernel
theorem Qah (w:zB) (a b c d:Int):Q04 (w.alloc (.cells #[.int .i64 a,.int .i64 b,.int .i64 c,.int .i64 d] 3)) (w.alloc (.cells #[.int .i64 a,.int .i64 b,.int .i64 c,.int .i64 d] 3)).heap.size 1 (some ⟨w.heap.size,0,none⟩) 4 ([a,b,c,d].map vn):=by have hk:Blk (w.alloc (.cells #[.int .i64 a,.int .i64 b,.int .i64 c,.int .i64 d] 3)) w.heap.size 3 #[.int .i64 a,.int .i64 b,.int .i64 c,.int .i64 d]:=Blk.newAt rfl;exact⟨rfl,fun _=>⟨⟨w.heap.size,0,none⟩,rfl,hk.lt,fun j u hu=>by rw [Q0R,zJ,hk.cell,<- zK]; exact hu⟩⟩
theorem Qa8 (w:zB) :
 Calls zG 40 #[] w fun e w'=>e=.returned (.bool true)/\zE w.heap.size w w':=by
 go_enter Tryz.func40,Tryz.ntmps40
 go_wp2_with fail
 refine(Q6i w).mono ?_;rintro _ w1 ⟨k,rfl,hbk,hkn,hb1⟩;have HB1:=sH hb1;have HKN:=sH hkn;have HBK:=sH hbk;have hs1:=hb1.size;clear hb1 hkn hbk;go_wp2_with fail
 refine(Q70 w1).mono ?_;rintro _ wt ⟨At,ct,rfl,hct,hbt⟩;have HNW:=sH (Q1B k [] 0 At 2 ct twoL wt (HBK.out.below hbt) (by omega) hct (by omega));have HBT:=sH (HB1.out.trans (hbt.mono hs1));clear hct hbt;go_wp2_with fail
 refine HNW.out.mono ?_;rintro _ w2 ⟨_,hgo⟩;obtain⟨V,rfl,hna⟩:=hgo ak0 Q6T;have hkk:=hna.kk;subst hkk;have HS0:=sH (ALSt.start HBT.out HKN.out hna);clear hgo hna HNW HBK HBT HB1 HKN;have hI0:∀ z:Int,0<=z->z<=1000->I64 z:=fun z h1 h2=>by unfold I64; omega
 go_wp2_with fail
 refine(Q1O _ _ _ _).mono ?_;rintro _ q0 ⟨rfl,hbq0⟩;have hb0:=hbq0.trans ((Q02 q0 (.cells #[.int .i64 9,.int .i64 10,.int .i64 11,.int .i64 12] 3)).mono hbq0.size);have HD0:=sH (HS0.out.does_ hb0 (by omega) (Q1e 31 1 2) (Q5l ⟨hI0 31 (by omega) (by omega),hI0 1 (by omega) (by omega),hI0 2 (by omega) (by omega)⟩) 0 0 [9,10,11,12] _ 4 4 (Qah q0 9 10 11 12) (fun a _ ha=>by injection ha with ha; subst ha; exact hbq0.size) (by omega) ak1 rfl ak_0 _ rfl);clear hb0 hbq0 hI0;go_wp2_with fail
 refine HD0.out.mono ?_;rintro _ d0 ⟨rfl,hs0⟩;have HS1:=sH hs0;clear hs0 HD0 HS0;have hI1:∀ z:Int,0<=z->z<=1000->I64 z:=fun z h1 h2=>by unfold I64; omega
 go_wp2_with fail
 refine(Q1O _ _ _ _).mono ?_;rintro _ q1 ⟨rfl,hbq1⟩;have hb1:=hbq1.trans ((Q02 q1 (.cells #[.int .i64 9,.int .i64 10,.int .i64 11,.int .i64 12] 3)).mono hbq1.size);have HD1:=sH (HS1.out.does_ hb1 (by omega) (Q1e 31 1 2) (Q5l ⟨hI1 31 (by omega) (by omega),hI1 1 (by omega) (by omega),hI1 2 (by omega) (by omega)⟩) 0 0 [9,10,11,12] _ 4 4 (Qah q1 9 10 11 12) (fun a _ ha=>by injection ha with ha; subst ha; exact hbq1.size) (by omega) ak2 rfl ak_1 _ rfl);clear hb1 hbq1 hI1;go_wp2_with fail
 refine HD1.out.mono ?_;rintro _ d1 ⟨rfl,hs1⟩;have HS2:=sH hs1;clear hs1 HD1 HS1;have hI2:∀ z:Int,0<=z->z<=1000->I64 z:=fun z h1 h2=>by unfold I64; omega
 go_wp2_with fail
 refine(Q0z _ _ _ _ _ _).mono ?_;rintro _ q2 ⟨rfl,hbq2⟩;have HD2:=sH (HS2.out.does_ hbq2 (by omega) (Q0N 34 1 1 6 20) (Q37 ⟨hI2 34 (by omega) (by omega),hI2 1 (by omega) (by omega),hI2 1 (by omega) (by omega),hI2 6 (by omega) (by omega),hI2 20 (by omega) (by omega)⟩) 0 1 [] none 0 0 Q04.none_ (fun a h0 _=>by omega) (by omega) ak3 rfl ak_2 _ rfl);clear hbq2 hI2;go_wp2_with fail
 refine HD2.out.mono ?_;rintro _ d2 ⟨rfl,hs2⟩;have HS3:=sH hs2;clear hs2 HD2 HS2;have hI3:∀ z:Int,0<=z->z<=1000->I64 z:=fun z h1 h2=>by unfold I64; omega
 go_wp2_with fail
 refine(Q0z _ _ _ _ _ _).mono ?_;rintro _ q3 ⟨rfl,hbq3⟩;have HD3:=sH (HS3.out.does_ hbq3 (by omega) (Q0N 34 2 1 6 21) (Q37 ⟨hI3 34 (by omega) (by omega),hI3 2 (by omega) (by omega),hI3 1 (by omega) (by omega),hI3 6 (by omega) (by omega),hI3 21 (by omega) (by omega)⟩) 180 1 [] none 0 0 Q04.none_ (fun a h0 _=>by omega) (by omega) ak4 rfl ak_3 _ rfl);clear hbq3 hI3;go_wp2_with fail
 refine HD3.out.mono ?_;rintro _ d3 ⟨rfl,hs3⟩;have HS4:=sH hs3;clear hs3 HD3 HS3;have hI4:∀ z:Int,0<=z->z<=1000->I64 z:=fun z h1 h2=>by unfold I64; omega
 go_wp2_with fail
 refine(Q0z _ _ _ _ _ _).mono ?_;rintro _ q4 ⟨rfl,hbq4⟩;have HD4:=sH (HS4.out.does_ hbq4 (by omega) (Q0N 34 3 1 7 6) (Q37 ⟨hI4 34 (by omega) (by omega),hI4 3 (by omega) (by omega),hI4 1 (by omega) (by omega),hI4 7 (by omega) (by omega),hI4 6 (by omega) (by omega)⟩) 180 1 [] none 0 0 Q04.none_ (fun a h0 _=>by omega) (by omega) ak5 rfl ak_4 _ rfl);clear hbq4 hI4;go_wp2_with fail
 refine HD4.out.mono ?_;rintro _ d4 ⟨rfl,hs4⟩;have HS5:=sH hs4;clear hs4 HD4 HS4;have hI5:∀ z:Int,0<=z->z<=1000->I64 z:=fun z h1 h2=>by unfold I64; omega
 go_wp2_with fail
 refine(Q0z _ _ _ _ _ _).mono ?_;rintro _ q5 ⟨rfl,hbq5⟩;have HD5:=sH (HS5.out.does_ hbq5 (by omega) (Q0N 31 2 1 7 21) (Q37 ⟨hI5 31 (by omega) (by omega),hI5 2 (by omega) (by omega),hI5 1 (by omega) (by omega),hI5 7 (by omega) (by omega),hI5 21 (by omega) (by omega)⟩) 180 0 [] none 0 0 Q04.none_ (fun a h0 _=>by omega) (by omega) ak6 rfl ak_5 _ rfl);clear hbq5 hI5;go_wp2_with fail
 refine HD5.out.mono ?_;rintro _ d5 ⟨rfl,hs5⟩;have HS6:=sH hs5;clear hs5 HD5 HS5;obtain⟨S,hd⟩:=HS6.out.vat.dat;obtain⟨s,hs⟩:∃ s,ak6.chunks[0]?=some s:=⟨_,zD (by rw [ak_6.2]; omega)⟩;have hcr:Q0U s.first s.moves=[[5,6,7,8],[5,7,8,20]]:=by have:=ak_6.1;rw [hs] at this;exact zL this
 have HCW:=sH (Q6r _ _ _ 0 _ _ _ _ s hd hs);have HCR:=sH hcr;clear hd hs hcr;go_wp2_with fail
 refine HCW.out.mono ?_;rintro _ w7 ⟨v,nA,nC,rfl,hown,hb7⟩;rw [HCR.out] at hown;obtain⟨gl,cap,rfl,hgl,hgl2,hcl⟩:=hown.at_ (i:=1) (l:=[5,7,8,20]) rfl;have hnd:=Q2B (hown.nodes 1 [5,7,8,20] rfl);obtain⟨An,hAn⟩:∃ A,A=nA 1:=⟨_,rfl⟩;obtain⟨cn,hcn⟩:∃ c,c=nC 1:=⟨_,rfl⟩;rw [<- hAn] at hnd hcl;rw [<- hcn] at hcl;have hcl':w7.cell? ⟨gl,3,none⟩=some (.slice An 4 cn):=hcl;have hb8:=Q02 w7 (.cells #[.int .i64 5,.int .i64 7,.int .i64 8,.int .i64 20] 3);have HEQ:=sH (Q4w An (some ⟨w7.heap.size,0,none⟩) 4 4 cn 4 [5,7,8,20] [5,7,8,20] _ w7.heap.size _ (hnd.2.below hb8) (Qah w7 5 7 8 20) (by unfold maxLen; omega) (by unfold maxLen; omega));have HS7:=sH (HS6.out.below (hb7.trans (hb8.mono hb7.size)));have hz2:[[5,6,7,8],[5,7,8,(20:Int)]].length=2:=rfl;rw [hz2];clear hown hcl hnd hAn hcn hb7 hb8 HCW HS6 hgl hgl2 hz2;go_wp2_with fail
 refine HEQ.out.mono ?_;rintro _ _ ⟨rfl,q,rfl⟩;rw [decide_eq_true trivial];have HS8:=sH (HS7.out.below (Q0B (zI _ _) q));clear HEQ HS7 hcl';obtain⟨S,hd⟩:=HS8.out.vat.dat;have HCH:=sH (Q5F _ _ _ _ _ _ _ hd);rw [ak_6.2] at HCH;clear hd;go_wp2_with fail
 refine HCH.out.mono ?_;rintro _ _ ⟨rfl,rfl⟩;go_wp2_with fail
 go_ret
 exact⟨rfl,HS8.out.low⟩
def Q8V (w:zB) (m:AM) (e:Ending) (w':zB):Prop:=∃ v vs,e=.returned v/\OwnL w' w.heap.size v (Q07 m) vs/\zE w.heap.size w w'
theorem Q57 (w:zB) (V:ALoc) (N:Nat->Prop) (m:AM) (h:AAt w V N m) :
 Calls zG 34 #[.pointer (some ⟨V.g,0,none⟩)] w (Q8V w m):=by
 obtain⟨S,hd⟩:=h.dat;have HN:=sH (Q2M w V.g V.T.t ((hd.blk.cell 0).trans (Q1a _ _ _ _ 0 (by omega))));have HL:=sH (fun(i:Nat) (hi:i<6) (W:zB) (hb:zE w.heap.size w W)=>Q8e W V.g V.gc i _ N m S (hd.below hb) hi);have hlen:=Q0r m;have HLN:=sH hlen;obtain⟨i0,hi0,hz0,hz1,hz2⟩:=info_parts Q7f;clear h hd hlen;go_enter Tryz.func34,Tryz.ntmps34
 go_wp2_with fail
 refine HN.out.mono ?_;rintro _ _ ⟨rfl,rfl⟩;go_wp2_with fail
 go_loopw [3,7] (fun ov iv wr=>∃ (i:Nat) (vs:List zC),i<=6/\iv=.int .i64 i/\OwnL wr w.heap.size ov ((Q07 m).take i) vs/\zE w.heap.size w wr) (fun _ iv _=>6 - (intOf iv).toNat)
 case atStart=>exact⟨0,[],by omega,rfl,OwnL.nil _ _,zI _ _⟩
 obtain⟨i,vs,hi,rfl,hov,hbel⟩:=hrel;have HOV:=sH hov;have HB:=sH hbel;have hsz:=hbel.size;by_cases hin:i<6
 ·have hinI:(i:Int)<6:=by omega
  have htl:((Q07 m).take i).length=i:=by rw [List.length_take,HLN.out]; omega
  have HTL:=sH htl;have HLF:=sH (HL.out i hin wr hbel);have htk:(Q07 m).take (i+1)=(Q07 m).take i++[Q1C m i]:=by have hl:=HLN.out;have hg:=Q1c m i hin;rw [zD (by omega)] at hg;rw [List.take_succ_eq_append_getElem (by omega),zL hg]
  have HTK:=sH htk;clear hov hbel htl htk;generalize Q1C m i=x at HLF HTK;go_wp2_with fail
  refine HLF.out.mono ?_;rintro _ w3 ⟨u0,rfl,hu,hb3⟩;obtain⟨Au,cu,hue,_⟩:=Q0m hu;subst hue;obtain⟨nu,hnu⟩:∃ k,k=x.length:=⟨_,rfl⟩;rw [<- hnu] at hu ⊢;obtain⟨u,hu0⟩:∃ u,u=Value.slice Au nu cu:=⟨_,rfl⟩;rw [<- hu0] at hu;have HU:=sH (hu.more hsz);have HB3:=sH hb3;have hs3:=hb3.size;have hr3:=Q0l w3 #[u] 28;have HR3:=sH hr3;have HU0:=sH hu0;have HW:=sH (show (w3.alloc (.cells #[u] 28)).ownsRow w.heap.size 28 1 _ i vs from by have:=(Q0k HOV.out.row (w':=w3) fun b hb''=>hb3.block b (Q0f HOV.out.row hb'').2).alloc (.cells #[u] 28);rw [HTL.out] at this;exact this)
  rw [hu0] at HW HR3;clear hu hb3 hr3 HLF hnu hu0;go_wp2_with (at_builtin; go_must (refine Q05 _ rfl (.tmp 10) (.tmp 14) 43 rfl w.heap.size 28 i0 _ 1 24 Tryz.underlying43 hi0 hz0 hz1 hz2 rfl (by omega) _ i vs rfl HW.out (w3.heap.size+1) (some ⟨w3.heap.size,0,none⟩) 1 1 [.slice Au nu cu] rfl HR3.out ?c1 ?c2 ?c3 ?c4 ?_))
  case c1=>intro z hz; rw [List.mem_singleton] at hz; subst hz; rfl
  case c2=>unfold maxLen; omega
  case c3=>omega
  case c4=>simp; omega
  intro v6 w6 hown6 hg6 hor6;rw [<- HU0.out] at hown6 hg6;have ho6:OwnL w6 w.heap.size v6 ((Q07 m).take (i+1)) (vs++[u]):=by rw [HTK.out];exact HOV.out.push HB3.out HU.out (by rw [HTL.out]; exact hown6) hg6
  have hb6:zE w.heap.size w w6:=Q0i ((HB.out.trans (HB3.out.mono hsz)).trans ((Q02 w3 (.cells #[u] 28)).mono (by omega))) (by simp; omega) hg6 (fun b hb=>(Q0f HOV.out.row hb).1);have HO6:=sH ho6;have HB6:=sH hb6;clear hown6 hg6 hor6 ho6 hb6;go_wp2_with fail
  go_roundw
  case rel=>exact⟨i+1,_,by omega,by go_num,HO6.out,HB6.out⟩
  case measure=>simp [intOf]; omega
 obtain rfl:i=6:=by omega
 have hinI:¬ (6:Int)<6:=by omega
 have he:(Q07 m).take 6=Q07 m:=List.take_of_length_le (by rw [HLN.out]; omega);rw [he] at HOV;clear hov hbel he;go_wp2_with fail
 go_ret
 exact⟨_,_,rfl,HOV.out,HB.out⟩
end
end Go.Proofs.YtckjnbjiafgibaaGreat
