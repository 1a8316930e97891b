/- Parts of the proof, in one text: AtT, AtU, AtV, RaA. -/
import Derived.Test.YtcpngeiahgoacaaGreatD16
import Derived.BigRegion
import Derived.Deep.DeepCutAuto
import Derived.Test.YtcpngeiahgoacaaGreatD12
import Derived.Test.YtcpngeiahgoacaaGreatD8
namespace Go.Proofs.YtcpngeiahgoacaaGreat
set_option linter.unusedVariables false
set_option linter.unusedSimpArgs false
set_option maxRecDepth 100000
set_option maxHeartbeats 16000000
section
open Go.RowKit Go.Maps
attribute [local irreducible] wpList Q0i
def ADoPost (w:World) (V:ALoc) (N:Nat->Prop) (L:List (List UInt8)) (asked:Nat) (p:AM×Ans×Nat) (r:Ending) (w':World):Prop :=
 ∃ D,r=.returned (.tuple #[.agg D,.int .i64 (p.2.2:Int)])/\D.size=4/\AnsN w' w.heap.size D p.2.1/\Q1B w w' V N p.1 L asked 6
def QaU (w:World) (V:ALoc) (N:Nat->Prop) (L:List (List UInt8)) (asked:Nat) (p:AM×Ans×Nat) (r:Ending) (w':World):Prop :=
 ∃ D q,r=.returned (.tuple #[.agg D,.int .i64 (p.2.2:Int)])/\D.size=4/\w.heap.size<=q/\AnsN w' q D p.2.1/\Q1B w w' V (fun b=>N b\/(q<=b/\b<w'.heap.size)) p.1 L asked 6
structure DoMid (w:World) (V:ALoc) (N:Nat->Prop) (m':AM) (L:List (List UInt8)) (asked g3 g4:Nat) (wc:Array Value) (W:World):Prop where
 done:Q1B w W V (fun b=>N b\/b=g3\/b=g4) m' L asked 6
 k3:Blk W g3 44 wc
 k4:Blk W g4 47 (anC 0 none 0 0 0 none 0 0)
 size:w.heap.size<=W.heap.size
theorem AAt.later {w W:World} {V:ALoc} {N:Nat->Prop} {m:AM} (h:AAt w V N m) (hb:Below w.heap.size w W):AAt W V (fun b=>N b\/(w.heap.size<=b/\b<W.heap.size)) m :=
 (h.mono (N':=fun b=>N b\/(w.heap.size<=b/\b<W.heap.size)) (fun b hb' hn=>hn.elim id (fun e=>by omega)) (fun b hv=>.inl (h.all b hv))).below hb
theorem Q1B.fold {w W W':World} {V:ALoc} {N:Nat->Prop} {m:AM} {L:List (List UInt8)} {asked q:Nat} (hN:∀ b,N b->b<w.heap.size) (hall:∀ b,V.all b->N b) (hT:∀ b,V.T.mut b->V.T.has b) (hb:Below w.heap.size w W) (h:Q1B W W' V (fun b=>N b\/(w.heap.size<=b/\b<W.heap.size)) m L asked q) :
 Q1B w W' V N m L asked q/\(∀ b,w.heap.size<=b->b<W.heap.size->W'.heap[b]?=W.heap[b]?)/\∀ b,N b->¬ V.all b->b<W.heap.size->W'.heap[b]?=W.heap[b]?:=by
 have hva:∀ b,V.has b->V.all b:=fun b hb=>by
  rcases hb with e | e | e | e
  ·exact .inl e
  ·exact .inr (.inl e)
  ·exact .inr (.inr (.inr (hT b e)))
  ·exact .inr (.inr (.inl e))
 have hv:∀ b,V.has b->N b:=fun b hb=>hall b (hva b hb)
 refine⟨⟨h.vat.mono (fun b _ hn=>.inl hn) hall,h.book,(Only.of_below hb).trans (h.only.mono fun b _ e=>?_)⟩,fun b h1 h2=>h.only.block b h2 fun e=>?_,fun b h1 h3 h2=>h.only.block b h2 fun e=>?_⟩
 ·rcases e with e | e
  ·exact .inl e
  ·exact .inr (fun hn=>e (.inl hn))
 ·rcases e with e | e
  ·have:=hN b (hv b e); omega
  ·exact e (.inr ⟨h1,h2⟩)
 ·rcases e with e | e
  ·exact h3 (hva b e)
  ·exact e (.inl h1)
theorem Q1B.kept {w W W7:World} {V:ALoc} {N:Nat->Prop} {m:AM} {L:List (List UInt8)} {asked q:Nat} (h:Q1B w W V N m L asked q) (hT:Q0c V.g W W7) :
 Q2b W7 V.T V.k (Q0g m)/\∃ L' a',Q0A W7 V.k L' a'/\a'<=asked+q/\(∀ x,x∈L->x∈L')/\Q1X L' (Q0g m):=by
 have ho:Only (fun b=>b=V.g) W W7:=Only.of_turned hT rfl;have hf:=h.vat.far;obtain⟨L',a',h1,h2,h3,h4⟩:=h.book;exact⟨h.vat.tree.only ho (fun b hb e=>hf.2.1 (e▸hb)),L',a',h1.only ho (fun e=>hf.2.2.2.1 (.inl e.symm)) (fun e=>hf.2.2.2.1 (.inr (.inl e.symm))) (fun e=>hf.2.2.2.1 (.inr (.inr e.symm))),h2,h3,h4⟩
theorem Q1B.set_last {w W W7 W8:World} {V:ALoc} {N:Nat->Prop} {m m':AM} {S':ASl} {L L':List (List UInt8)} {asked a' q q':Nat} (h:Q1B w W V N m L asked q) (hT:Q0c V.g W W7) (hd:ADat W7 V.g V.gc (some ⟨V.T.t,0,none⟩) N m' S') (h2:a'<=asked+q) (h3:∀ x,x∈L->x∈L') (h4:Q1X L' (Q0g m))
 (hsb:SetBy W7 W8 V.T V.k (Q0g m) (Q0g m') L' a' q'):Q1B w W8 V N m' L asked (q+q'):=by
 have hf:=h.vat.far;have hall:=h.vat.all;obtain⟨L2,a2,p1,p2,p3,p4⟩:=hsb.book;have hm:∀ b,(V.T.mut b\/V.k.has b)->V.all b:=fun b hb=>by
  rcases hb with e | e
  ·exact .inr (.inr (.inr (.inr (.inr e))))
  ·exact .inr (.inr (.inl e))
 refine⟨⟨⟨S',hd.only hsb.only (fun b hb=>hall b (hm b hb)) (fun e=>?_) (fun e=>?_)⟩,hsb.tree,hf,hall⟩,⟨L2,a2,p1,by omega,fun x hx=>p3 x (h3 x hx),p4 L' (fun _ h=>h) h4⟩,(h.only.trans (Only.of_turned hT (.inl (.inl rfl)))).trans (hsb.only.mono fun b _ e=>?_)⟩
 ·rcases e with e | e
  ·exact hf.2.1 (.inr (.inr e))
  ·exact hf.2.2.2.1 e
 ·rcases e with e | e
  ·exact hf.2.2.1 (.inr (.inr e))
  ·exact hf.2.2.2.2 e
 ·rcases e with e | e
  ·exact .inl (.inr (.inr (.inl e)))
  ·exact .inl (.inr (.inr (.inr e)))
structure DoSt (wd:World) (V:ALoc) (N:Nat->Prop) (m':AM) (L:List (List UInt8)) (asked g3 g4:Nat) (W0:Array Value) (s:Nat) (W:World):Prop where
 k3:Blk W g3 44 W0
 k4:Blk W g4 47 (anC 0 none 0 0 0 none 0 0)
 size:wd.heap.size<=W.heap.size
 zero:s=0->Below wd.heap.size wd W
 one:s=1->Q1B wd W V N m' L asked 3
theorem DoSt.below {wd W W':World} {V:ALoc} {N:Nat->Prop} {m':AM} {L:List (List UInt8)} {asked g3 g4:Nat} {W0:Array Value} {s:Nat} (h:DoSt wd V N m' L asked g3 g4 W0 s W) (hb:Below W.heap.size W W'):DoSt wd V N m' L asked g3 g4 W0 s W' :=
 ⟨h.k3.below' hb,h.k4.below' hb,Nat.le_trans h.size hb.size,fun e=>(h.zero e).trans (hb.mono h.size),fun e=>(h.one e).after hb⟩
theorem Q1B.side2 {w w1 w2:World} {V:ALoc} {Nb N':Nat->Prop} {m:AM} {L:List (List UInt8)} {asked q g4:Nat} (hall:∀ b,V.all b->N' b) (hne:∀ b,V.all b->b≠g4) (hg:w.heap.size<=g4) (hN4:Nb g4) (hsub:∀ b,b<w1.heap.size->N' b->Nb b) (h:Q1B w w1 V Nb m L asked q) (hT:Q0c g4 w1 w2):Q1B w w2 V N' m L asked q:=by
 obtain⟨S,hd⟩:=h.vat.dat;obtain⟨L',a',h1,h2,h3,h4⟩:=h.book;have ht4:Only (fun b=>b=g4) w1 w2:=Only.of_turned hT rfl;have hs:=hT.size;exact⟨⟨⟨S,(hd.only ht4 (fun b e=>e▸hN4) (fun e=>hne _ (.inl rfl) e) (fun e=>hne _ (.inr (.inl rfl)) e)).mono (fun b hb hn=>hsub b (by omega) hn) ⟨hall _ (.inl rfl),hall _ (.inr (.inl rfl))⟩⟩,h.vat.tree.only ht4 (fun b hb e=>hne b (.inr (.inr (.inr hb))) e),h.vat.far,hall⟩,⟨L',a',h1.only ht4 (fun e=>hne _ (.inr (.inr (.inl (.inl rfl)))) e) (fun e=>hne _ (.inr (.inr (.inl (.inr (.inl rfl))))) e) (fun e=>hne _ (.inr (.inr (.inl (.inr (.inr rfl))))) e),h2,h3,h4⟩,⟨ht4.os.trans h.only.os,ht4.tape.trans h.only.tape,ht4.output.trans h.only.output,Nat.le_trans h.only.size ht4.size,fun b hb hn=>(ht4.block b (by have:=h.only.size; omega) (fun e=>by omega)).trans (h.only.block b hb (fun e=>hn (by
  rcases e with e | e
  ·exact .inl e
  ·exact .inr (fun q=>e (hsub b (by have:=h.only.size; omega) q)))))⟩⟩
theorem Q1B.later {w w1 w2:World} {V:ALoc} {N:Nat->Prop} {m:AM} {L:List (List UInt8)} {asked q:Nat} (h:Q1B w w1 V N m L asked q) (hb:Below w1.heap.size w1 w2):Q1B w w2 V (fun b=>N b\/(w1.heap.size<=b/\b<w2.heap.size)) m L asked q:=by
 obtain⟨L',a',h1,h2,h3,h4⟩:=h.book;refine⟨h.vat.later hb,⟨L',a',h1.below hb,h2,h3,h4⟩,(h.only.mono fun b hb' e=>?_).trans (Only.of_below hb)⟩;rcases e with e | e
 ·exact .inl e
 ·exact .inr (fun hn=>hn.elim e (fun q=>by have:=h.only.size; omega))
theorem AnsN.keepN {w w':World} {B:Nat} {D:Array Value} {x:Ans} (h:AnsN w B D x) (hk:∀ b,B<=b->b<w.heap.size->w'.heap[b]?=w.heap[b]?):AnsN w' B D x:=by
 obtain⟨A,c,h1,h2⟩:=h;exact⟨A,c,h1,h2.keep_ fun b hb=>hk b (h2.ge_ hb) (Q0a h2 hb).2⟩
def lsV (z:Int) (a:Ans) (A:Option Addr) (k:Nat):Array Value:=#[.int .i64 z,.int .i64 (a.err:Int),.slice none 0 0,.int .i64 (a.epoch:Int),.slice A a.nodes.length k]
theorem lsV_one (z:Int) (a:Ans) (A:Option Addr) (k:Nat):(lsV z a A k).all (·.oneCell')=true:=by simp [lsV,Value.oneCell']
theorem QaZ (w:World) (V:ALoc) (N:Nat->Prop) (m:AM) (L:List (List UInt8)) (asked:Nat) (h:AAt w V N m) (hN:∀ b,N b->b<w.heap.size) (hbk:Q0A w V.k L asked) (hin:Q1X L (Q0g m)) (has:asked<=700000)
 (x:Wish) (A:Option Addr) (n c:Nat) (A':Option Addr) (n' c':Nat) (B:Nat) (hx:Q0Y w B x A n c A' n' c') (hB:B<=w.heap.size) :
 Calls Tryz.prog 43 #[.pointer (some ⟨V.g,0,none⟩),.agg (Q05 x A n c A' n' c')] w (QaU w V N L asked (doQ m x)):=by
 obtain⟨S,hd⟩:=h.dat;have hlt:=hd.lt;have hX:Below w.heap.size w ((w.alloc (.cells (Q05 x A n c A' n' c') 44)).alloc (.cells (anC 0 none 0 0 0 none 0 0) 47)):=((Below.refl _ _).alloc (Nat.le_refl _) _).alloc (by simp) _;have k3:Blk ((w.alloc (.cells (Q05 x A n c A' n' c') 44)).alloc (.cells (anC 0 none 0 0 0 none 0 0) 47)) w.heap.size 44 (Q05 x A n c A' n' c'):=(Blk.newAt rfl).alloc _;have k4:Blk ((w.alloc (.cells (Q05 x A n c A' n' c') 44)).alloc (.cells (anC 0 none 0 0 0 none 0 0) 47)) (w.heap.size+1) 47 (anC 0 none 0 0 0 none 0 0):=Blk.newAt (by simp);have hz1:((w.alloc (.cells (Q05 x A n c A' n' c') 44)).alloc (.cells (anC 0 none 0 0 0 none 0 0) 47)).heap.size=w.heap.size+2:=by simp
 have HV:=Lib.hid h;have HNL:=Lib.hid hN;have HBK:=Lib.hid hbk;have HIN:=Lib.hid hin;have HD0:=Lib.hid hd;have HX:=Lib.hid hX;have K3:=Lib.hid k3;have K4:=Lib.hid k4;have HZ1:=Lib.hid hz1;have HCK:=Lib.hid (fun(W:World) (hb:Below w.heap.size w W)=>Q6S x A n c A' n' c' W B (hx.below (hb.mono hB)) (by have:=hb.size; omega));have HNO:=Lib.hid (fun(W:World) (hb:Below w.heap.size w W)=>Q2g W V.g V.T.t (((hd.below hb).blk.cell 0).trans (Q1D _ _ _ _ 0 (by omega))));have HQE:=Lib.hid (show inQ x=(mayB x && decide (x.kind=3\/x.kind=4)) from rfl);obtain⟨P,hP⟩:∃ P,P=QaU w V N L asked (doQ m x):=⟨_,rfl⟩;rw [<- hP];have HPB:=Lib.hid (show ∀ w',inQ x=false->Below w.heap.size w w'->P (.returned (.tuple #[.agg (anC 0 none 0 0 0 none 0 0),.int .i64 2])) w' from fun w' hq hb=>by
  rw [hP];unfold doQ;rw [if_neg (by rw [hq]; simp)];exact⟨_,w'.heap.size,rfl,rfl,hb.size,AnsN.bare _ _ 0 0,⟨(h.below hb).later (Below.refl _ _),⟨L,asked,hbk.below hb,by omega,fun _ h=>h,hin⟩,Only.of_below hb⟩⟩)
 have HPG:=Lib.hid (show ∀ w' D q,inQ x=true->D.size=4->w.heap.size<=q->AnsN w' q D (oldQ (didQ m x) x).1->Q1B w w' V (fun b=>N b\/(q<=b/\b<w'.heap.size)) (didQ m x) L asked 6->P (.returned (.tuple #[.agg D,.int .i64 0])) w' from fun w' D q hq hs hwq ha hdn=>by
  rw [hP];unfold doQ;rw [if_pos hq];exact⟨D,q,rfl,hs,hwq,ha,hdn⟩)
 obtain⟨g3,hg3⟩:∃ b,b=w.heap.size:=⟨_,rfl⟩;obtain⟨g4,hg4⟩:∃ b,b=w.heap.size+1:=⟨_,rfl⟩;have hl1:=hlt.1;have hl2:=hlt.2;obtain⟨W0,hW0⟩:∃ W0,W0=Q05 x A n c A' n' c':=⟨_,rfl⟩;have hws:W0.size=10:=by rw [hW0]; simp [Q05]
 have hw4:W0[4]?=some (.int .i64 x.kind):=by rw [hW0]; rfl
 have hw0:W0[0]?=some (.int .i64 x.client):=by rw [hW0]; rfl
 have hw1':W0[1]?=some (.int .i64 x.stamp):=by rw [hW0]; rfl
 have HW0:=Lib.hid hW0;rw [<- hW0] at HX K3 K4 HZ1 HCK ⊢;have HW4:=Lib.hid hw4;have HW00:=Lib.hid hw0;have HW1:=Lib.hid hw1';clear h hN hbk hin hd hX k3 k4 hz1 hP hx hlt hW0 hw4 hw0 hw1';go_enter Tryz.func43,Tryz.ntmps43
 go_upto_region 1 with fail
 rw [<- anZ];generalize World.alloc (World.alloc w _) _=w1 at HX K3 K4 HZ1 ⊢;rw [<- hg4] at K4 ⊢;rw [<- hg3] at K3 ⊢;have hz1:=HZ1.out;have hgw3:w.heap.size<=g3:=by omega
 have hgw4:w.heap.size<=g4:=by omega
 have hg34:g3≠g4:=by omega
 have hw1:w.heap.size<=w1.heap.size:=by omega
 have hl3:=K3.out.lt;have hl4:=K4.out.lt;clear hg3 hg4 HZ1 hz1;go_wp2_with fail
 refine(HNO.out w1 HX.out).mono ?_;rintro _ _ ⟨rfl,rfl⟩;obtain⟨qb,hqb⟩:∃ b,b=inQ x:=⟨_,rfl⟩;have HQB:=Lib.hid hqb;clear hqb;go_upto_region 3 with fail
 go_cut [13] (fun s13 wx=>s13=.bool (!qb)/\Below w.heap.size w wx/\Blk wx g3 44 W0/\Blk wx g4 47 (anC 0 none 0 0 0 none 0 0))
 case first =>
  go_wp2_with (refine Q03 (o:=⟨some 14,_,_,_,_,_⟩) rfl 44 (.tmp 3) rfl g3 0 10 rfl 44 _ W0 _ K3.out Tryz.underlying44 rfl rfl hws (fun _ _=>by rw [Nat.zero_add]; try rfl) ?_)
  refine(HCK.out w1 HX.out).mono ?_;rintro _ w2 ⟨rfl,hb2⟩;have HB2:=Lib.hid (HX.out.trans (hb2.mono hw1));have K32:=Lib.hid (K3.out.below' hb2);have K42:=Lib.hid (K4.out.below' hb2);have e4:w2.cell? ⟨g3,4,none⟩=some (.int .i64 x.kind):=(K32.out.cell 4).trans HW4.out;clear hb2 K3 K4 HX HCK HNO;by_cases hmb:mayB x=true
  ·rw [if_pos hmb];by_cases hk3:x.kind=3
   ·have hq:qb=true:=by rw [HQB.out,HQE.out,hmb,decide_eq_true (.inl hk3)]; rfl
    have hk3b:(x.kind != 3)=false:=by simp [hk3]
    subst hq;clear hmb hk3;go_wp2_with fail
    go_meet
    exact⟨rfl,HB2.out,K32.out,K42.out⟩
   ·have hk3b:(x.kind != 3)=true:=by simpa using hk3
    by_cases hk4:x.kind=4
    ·have hq:qb=true:=by rw [HQB.out,HQE.out,hmb,decide_eq_true (.inr hk4)]; rfl
     have hk4b:(x.kind != 4)=false:=by simp [hk4]
     subst hq;clear hmb hk3 hk4;go_wp2_with fail
     go_meet
     exact⟨rfl,HB2.out,K32.out,K42.out⟩
    ·have hq:qb=false:=by rw [HQB.out,HQE.out,hmb,decide_eq_false (by omega)]; rfl
     have hk4b:(x.kind != 4)=true:=by simpa using hk4
     subst hq;clear hmb hk3 hk4;go_wp2_with fail
     go_meet
     exact⟨rfl,HB2.out,K32.out,K42.out⟩
  ·rw [if_neg hmb];have hq:qb=false:=by
    rw [HQB.out,HQE.out];cases hmq:mayB x with
    | true=>exact absurd hmq hmb
    | false=>rfl
   subst hq;clear hmb;go_wp2_with fail
   go_meet
   exact⟨rfl,HB2.out,K32.out,K42.out⟩
 case rest =>
  obtain⟨rfl,hb2,hk32,hk42⟩:=hcut;have HB2:=Lib.hid hb2;have K32:=Lib.hid hk32;have K42:=Lib.hid hk42;have hs2:=hb2.size;have hl32:=hk32.lt;have hl42:=hk42.lt;clear hb2 hk32 hk42 K3 K4 HX HCK HNO;cases qb with
  | false =>
   go_wp2_with (refine Q01 (o:=⟨none,_,_,_,_,_⟩) rfl 47 (.tmp 4) (.tmp 27) rfl g4 0 (anC 0 none 0 0 0 none 0 0) rfl rfl 47 _ K42.out (Q0P _ _ _ _ _ _ _ _) (by simp [anC]) (Q0G _ _ _ _ _ _ _ _) ?_; intro w7 hT7 hD7; rw [Q19 _ rfl] at hD7)
   refine bodyPost_ret (Q0b rfl _ _ g4 4 47 _ _ rfl hD7 Tryz.underlying47 rfl rfl rfl) rfl ?_;exact HPB.out w7 HQB.out.symm (hT7.below HB2.out hgw4)
  | true =>
   have hq:inQ x=true:=HQB.out.symm;have HQ:=Lib.hid hq;obtain⟨cl1,cl2,st1,_⟩:=Q2L hq;obtain⟨j,hj⟩:∃ j,j=(x.client - 31).toNat:=⟨_,rfl⟩;have hjc:x.client - 31=(j:Int):=by omega
   have hj4:j<4:=by omega
   have hjI:(j:Int)<4:=by omega
   have HJ:=Lib.hid hj;have e0:wc.cell? ⟨g3,0,none⟩=some (.int .i64 x.client):=(K32.out.cell 0).trans HW00.out;have e1:wc.cell? ⟨g3,1,none⟩=some (.int .i64 x.stamp):=(K32.out.cell 1).trans HW1.out;obtain⟨st,hst⟩:∃ k,k=(Q0u m j).1:=⟨_,rfl⟩;have cst:wc.cell? ⟨V.g,2+j*5,none⟩=some (.int .i64 (st:Int)):=by
    rw [hst];exact((HD0.out.below HB2.out).blk.cell _).trans (Q8o _ _ m S j 0 hj4 (by omega))
   have HST:=Lib.hid hst;clear hq hj hst;go_upto_region 6 with fail
   go_quiet (fail)
   have hbd:=Q0z (Below.refl wc.heap.size wc) nq;have k3d:=K32.out.drewN nq;have k4d:=K42.out.drewN nq;have HBD:=Lib.hid (HB2.out.trans (hbd.mono hs2));generalize wc.drewN nq=wd at HBD k3d k4d hbd ⊢;have K3D:=Lib.hid k3d;have K4D:=Lib.hid k4d;have hsd:=hbd.size;have HV4:=Lib.hid (HV.out.mono (N':=fun b=>N b\/b=g3\/b=g4) (fun b hb hn=>hn.elim id (fun e=>by omega)) (fun b hv=>.inl (HV.out.all b hv)));clear hbd k3d k4d e0 e1 cst K32 K42
   go_upto_if 40 with(fail)
   go_cut [6] (fun s6 wx=>s6=.int .i64 (j:Int)/\DoMid w V N (didQ m x) L asked g3 g4 W0 wx)
   case first =>
    by_cases hnew:(st:Int)<x.stamp
    ·rw [decide_eq_true hnew];obtain⟨sn,hsn⟩:∃ k:Nat,k=x.stamp.toNat:=⟨_,rfl⟩;have hsx:x.stamp=(sn:Int):=by omega
     have HSN:=Lib.hid (show W0[1]?=some (.int .i64 (sn:Int)) by rw [HW1.out,hsx]);have HDID:=Lib.hid (show didQ m x=lsQ (Q0s m x).1 j sn (Q0s m x).2 by rw [hsn]; exact Q8G HJ.out (by rw [<- HST.out]; exact hnew) HQ.out HD0.out.ok);have HOK:=Lib.hid (HD0.out.ok.did HQ.out);have hN4:∀ b,(N b\/b=g3\/b=g4)->b<wd.heap.size:=fun b hb=>by
      rcases hb with hb | hb
      ·have:=HNL.out b hb; omega
      ·omega
     have HN4:=Lib.hid hN4;have HBW:=Lib.hid HBD.out;have HANS:=Lib.hid (fun(W:World) (hb:Below wd.heap.size wd W)=>Qa2 W V _ m L asked ((HV4.out.below HBD.out).later hb) (fun b hb'=>hb'.elim (fun e=>by have:=HN4.out b e; have:=hb.size; omega) (fun e=>e.2)) ((HBK.out.below HBD.out).below (hb.mono (by have:=HBK.out.lt; have:=HBD.out.size; omega))) HIN.out (by omega) x A n c A' n' c' HQ.out);rw [<- HW0.out] at HANS;obtain⟨q1,hq1⟩:∃ q,q=(Q0s m x).1:=⟨_,rfl⟩;obtain⟨an,han⟩:∃ q,q=(Q0s m x).2:=⟨_,rfl⟩;rw [<- hq1,<- han] at HDID;have HQ1:=Lib.hid hq1;have HAN:=Lib.hid han;clear hsn hsx hnew hN4 hq1 han;go_upto_region 7 with fail
     refine Q1Z 11 63 (fun jx W v=>match jx with | 0=>v=.pointer (some ⟨V.g,0,none⟩) | 1=>v=.int .i64 (j:Int) | 2=>v=.pointer (some ⟨g3,1,none⟩) | 3=>v=.int .i64 (sn:Int) | 4=>v=.pointer (some ⟨V.g,0,none⟩) | 5=>v=.agg W0 | 6=>∃ A9 c9,v=.agg (anC an.err none 0 0 an.epoch A9 an.nodes.length c9)/\OwnN W wd.heap.size (.slice A9 an.nodes.length c9) an.nodes | 7=>∃ A9 c9,v=.agg (lsV (sn:Int) an A9 c9)/\OwnN W wd.heap.size (.slice A9 an.nodes.length c9) an.nodes | 8=>v=.pointer (some ⟨V.g,0,none⟩) | 9=>v=.pointer (some ⟨V.g,2,none⟩) | _=>v=.pointer (some ⟨V.g,2+j*5,none⟩)) (DoSt wd V (fun b=>N b\/b=g3\/b=g4) q1 L asked g3 g4 W0) (fun W W'=>∀ b,wd.heap.size<=b->b<W.heap.size->W'.heap[b]?=W.heap[b]?) [6] [41,42,43,44,45,46,47,48,49,50,51] (by kernel_rfl) (by kernel_rfl) (by kernel_rfl) (by kernel_rfl) (by first | rfl | simp) (by kernel_rfl) (fun jx=>?last) ?lastR (fun s W W' h1 h2=>h1.below h2) ⟨K3D.out,K4D.out,Nat.le_refl _,fun _=>Below.refl _ _,fun e=>by omega⟩ ?heads ?_
     case last =>
      match jx with
      | 0 | 1 | 2 | 3 | 4 | 5 | 8 | 9 | jx+10=>exact Q16.pure _
      | 6 | 7=>exact fun W W' u ⟨A9,c9,h1,h2⟩ hb=>⟨A9,c9,h1,h2.below_ hb⟩
     case lastR =>
      intro s jx W W' u hsl hs hj hp hR;match jx with
      | 0 | 1 | 2 | 3 | 4 | 5 | 8 | 9 | jx+10=>exact hp
      | 6 | 7 =>
       obtain⟨A9,c9,h1,h2⟩:=hp;exact⟨A9,c9,h1,h2.keep_ fun b hb=>hR b (h2.ge_ hb) (Q0a h2 hb).2⟩
     case heads =>
      simp only [List.take_succ_cons,List.take_zero];refine⟨?_,?_,?_,?_,?_,?_,?_,?_,?_,?_,?_,trivial⟩
      ·rw [if_neg (by decide)];intro s a W hj hkp hd;have e0:a.tmps[0]?.getD undef=.pointer (some ⟨V.g,0,none⟩):=hkp.get (by kernel_rfl) rfl;exact Q00 rfl _ (by go_simp) rfl
      ·rw [if_neg (by decide)];intro s a W hj hkp hd;have e0:a.tmps[6]?.getD undef=.int .i64 (j:Int):=hkp.get (by kernel_rfl) rfl;exact Q00 rfl _ (by go_simp) rfl
      ·rw [if_neg (by decide)];intro s a W hj hkp hd;have e0:a.tmps[3]?.getD undef=.pointer (some ⟨g3,0,none⟩):=hkp.get (by kernel_rfl) rfl;exact Q00 rfl _ (by go_simp) rfl
      ·rw [if_neg (by decide)];intro s a W hj hkp hd;have e0:(_:Value)=.pointer (some ⟨g3,1,none⟩):=(hd 2 (by kernel_rfl)).get 43 rfl rfl;have cc:W.cell? ⟨g3,1,none⟩=some (.int .i64 (sn:Int)):=(hj.k3.cell 1).trans HSN.out;exact Q00 rfl _ (by go_simp) rfl
      ·rw [if_neg (by decide)];intro s a W hj hkp hd;have e0:a.tmps[0]?.getD undef=.pointer (some ⟨V.g,0,none⟩):=hkp.get (by kernel_rfl) rfl;exact Q00 rfl _ (by go_simp) rfl
      ·rw [if_neg (by decide)];intro s a W hj hkp hd;have e0:a.eval (.tmp 3)=.pointer (some ⟨g3,0,none⟩):=by have:=hkp.at_ (d:=3) (by kernel_rfl); rw [this]; rfl
       exact Q00 rfl (.agg W0) (Q0m 44 (.tmp 3) rfl g3 0 10 e0 44 _ W0 _ hj.k3 Tryz.underlying44 rfl rfl hws (fun _ _=>by rw [Nat.zero_add])) rfl
      ·rw [if_pos (by decide)];intro s a W hs hj hkp hd;have h0:s=0:=by
        match s,hs with
        | 0,_=>rfl
        | s+1,hs=>simp at hs
       have hbW:=hj.zero h0;have e0:(_:Value)=.pointer (some ⟨V.g,0,none⟩):=(hd 4 (by kernel_rfl)).get 45 rfl rfl;have e1:(_:Value)=.agg W0:=(hd 5 (by kernel_rfl)).get 46 rfl rfl;refine Q47 rfl 98 #[.pointer (some ⟨V.g,0,none⟩),.agg W0] (by go_simp) ((HANS.out W hbW).mono ?_);rintro e w' ⟨D,rfl,⟨A9,c9,hD,ho⟩,_,hdn⟩;have hf:=Q1B.fold HN4.out HV4.out.all (fun b hb=>.inr (.inr hb)) hbW hdn;have hsW:=hbW.size;refine⟨_,rfl,fun b h1 h2=>hf.2.1 b h1 h2,⟨?_,?_,?_,fun e=>by omega,fun _=>?_⟩,A9,c9,by rw [HAN.out,hD],?_⟩
       ·exact(hf.2.2 g3 (.inr (.inl rfl)) (fun e=>by have:=HNL.out _ (HV.out.all _ e); omega) hj.k3.lt).trans hj.k3
       ·exact(hf.2.2 g4 (.inr (.inr rfl)) (fun e=>by have:=HNL.out _ (HV.out.all _ e); omega) hj.k4.lt).trans hj.k4
       ·exact Nat.le_trans hsW hdn.only.size
       ·rw [HQ1.out]; exact hf.1
       ·rw [HAN.out]; exact ho.more hsW
      ·rw [if_neg (by decide)];intro s a W hj hkp hd;have e0:(_:Value)=.int .i64 (sn:Int):=(hd 3 (by kernel_rfl)).get 44 rfl rfl;obtain⟨A9,c9,e1,ho⟩:=(hd 6 (by kernel_rfl)).get 47 rfl rfl;exact Q00 rfl (.agg (lsV (sn:Int) an A9 c9)) (by simp only [anC] at e1; go_simp; try rfl) ⟨A9,c9,rfl,ho⟩
      ·rw [if_neg (by decide)];intro s a W hj hkp hd;have e0:(_:Value)=.pointer (some ⟨V.g,0,none⟩):=(hd 0 (by kernel_rfl)).get 41 rfl rfl;exact Q00 rfl _ (by go_simp) rfl
      ·rw [if_neg (by decide)];intro s a W hj hkp hd;have e0:(_:Value)=.pointer (some ⟨V.g,0,none⟩):=(hd 8 (by kernel_rfl)).get 49 rfl rfl;exact Q00 rfl _ (by go_simp) rfl
      ·rw [if_neg (by decide)];intro s a W hj hkp hd;have e0:(_:Value)=.pointer (some ⟨V.g,2,none⟩):=(hd 9 (by kernel_rfl)).get 50 rfl rfl;have e1:(_:Value)=.int .i64 (j:Int):=(hd 1 (by kernel_rfl)).get 42 rfl rfl;exact Q00 rfl _ (by go_simp) rfl
     intro f W hj hd;have h51:f 51=.pointer (some ⟨V.g,2+j*5,none⟩):=hd 10 (by omega) _ 51 rfl rfl;obtain⟨A9,c9,h48,ho⟩:=hd 7 (by omega) _ 48 rfl rfl;have hdn:=hj.one rfl;obtain⟨S1,hd1⟩:=hdn.vat.dat;obtain⟨C,hC⟩:∃ C,C=lsV (sn:Int) an A9 c9:=⟨_,rfl⟩;have hcs:C.size=5:=by rw [hC]; rfl
     have hc1:C.all (·.oneCell')=true:=by rw [hC]; exact lsV_one _ _ _ _
     rw [<- hC] at h48;have HC:=Lib.hid hC;have HO:=Lib.hid ho;have HDN:=Lib.hid hdn;have HD1:=Lib.hid hd1;have K3W:=Lib.hid hj.k3;have K4W:=Lib.hid hj.k4;have hsW:=hj.size;simp only [Q0H,List.drop_succ_cons,List.drop_zero,h48,h51];clear hd hj ho hdn hd1 hC h48 h51 HANS HBD HV4 K3D K4D;try simp only [Act.put,sA1,sA2,sA3]
     go_upto_region 8 with(refine Q01 (o:=⟨none,_,_,_,_,_⟩) rfl 102 (.tmp 51) (.tmp 48) rfl V.g (2+j*5) C rfl rfl 105 _ HD1.out.blk (by rw [hcs]; kernel_rfl) (by rw [hcs,Q36]; omega) hc1 ?_; intro w7 hT7 hD7)
     have hfar:=HDN.out.vat.far;obtain⟨hT,L',a',p1,p2,p3,p4⟩:=HDN.out.kept hT7;have hd7:=HD1.out.lasted hj4 hfar.1 hT7 (by rw [HC.out] at hD7; exact hD7) HO.out HN4.out (by rw [<- HDID.out]; exact HOK.out);have HST:=Lib.hid (Q8d w7 V.g V.gc (2+j) V.T V.k _ _ _ (Q0g q1) L' a' hd7 (by omega) hT (Q0B _) p1 (by omega));rw [Qbx hj4,show ((2+j:Nat):Int)=2+(j:Int) by omega] at HST;have hne:∀ g,w.heap.size<=g->g≠V.g:=fun g h e=>by have:=HNL.out _ (HV.out.all _ (.inl rfl)); omega
     have K37:=Lib.hid (hT7.blk K3W.out (hne g3 hgw3));have K47:=Lib.hid (hT7.blk K4W.out (hne g4 hgw4));have hs7:=hT7.size;have HSL:=Lib.hid (fun(w8:World) (h:SetBy w7 w8 V.T V.k (Q0g q1) (Q0g (lsQ q1 j sn an)) L' a' 3)=>HDN.out.set_last hT7 hd7 p2 p3 p4 h);clear hfar hT p1 p2 p3 p4 hd7 hT7 hD7 HO HC;go_wp2_with fail
     refine HST.out.mono ?_;rintro _ w8 ⟨rfl,hsb⟩;have hkT:∀ b,(V.T.mut b\/V.k.has b)->b<w.heap.size:=fun b hb=>HNL.out b (HV.out.all b (by
      rcases hb with e | e
      ·exact .inr (.inr (.inr (.inr (.inr e))))
      ·exact .inr (.inr (.inl e))))
     have HM:=Lib.hid (show DoMid w V N (didQ m x) L asked g3 g4 W0 w8 from⟨by rw [HDID.out]; exact(HSL.out w8 hsb).under HBW.out,hsb.only.blk K37.out (fun e=>by have:=hkT g3 e; omega),hsb.only.blk K47.out (fun e=>by have:=hkT g4 e; omega),by have:=hsb.only.size; omega⟩);clear hsb hkT HST HSL;go_wp2_with fail
     go_meet
     exact⟨rfl,HM.out⟩
    ·rw [decide_eq_false hnew];have hdid:didQ m x=m:=by
      unfold didQ;rw [<- HJ.out,if_neg (by rw [<- HST.out]; exact hnew)]
     have HM:=Lib.hid (show DoMid w V N (didQ m x) L asked g3 g4 W0 wd from⟨by rw [hdid]; exact Q1B.idle HBD.out HV4.out HBK.out HIN.out,K3D.out,K4D.out,by omega⟩);clear hdid hnew;go_wp2_with fail
     go_meet
     exact⟨rfl,HM.out⟩
   case rest =>
    obtain⟨rfl,hmid⟩:=hcut;have hmd:=hmid.done;obtain⟨S6,hd6⟩:=hmd.vat.dat;have HOL:=Lib.hid (QaK wc V.g V.gc _ _ _ S6 hd6 x A n c A' n' c' ⟨by omega,by omega⟩);rw [<- HW0.out] at HOL;have K36:=Lib.hid hmid.k3;have K46:=Lib.hid hmid.k4;have HMD:=Lib.hid hmd;have hs6:=hmid.size;obtain⟨oa,hoa⟩:∃ q,q=(oldQ (didQ m x) x).1:=⟨_,rfl⟩;obtain⟨ob,hob⟩:∃ q,q=(oldQ (didQ m x) x).2:=⟨_,rfl⟩;rw [<- hoa,<- hob] at HOL;rw [<- hoa] at HPG;have hl36:=hmid.k3.lt;have hl46:=hmid.k4.lt;clear hmid hmd hd6 K3D K4D hoa hob HBD HV4 HD0;go_wp2_with (refine Q03 (o:=⟨some 58,_,_,_,_,_⟩) rfl 44 (.tmp 3) rfl g3 0 10 rfl 44 _ W0 _ K36.out Tryz.underlying44 rfl rfl hws (fun _ _=>by rw [Nat.zero_add]; try rfl) ?_)
    refine HOL.out.mono ?_;rintro _ w5 ⟨D,rfl,ha5,hb5⟩;obtain⟨A5,c5,hD5,ho5⟩:=ha5;have hs5:=hb5.size;have hds:D.size=4:=by rw [hD5]; rfl
    have hd1:D.all (·.oneCell')=true:=by rw [hD5]; exact Q0G _ _ _ _ _ _ _ _
    have HA5:=Lib.hid (show AnsN w5 wc.heap.size D oa from⟨A5,c5,hD5,ho5⟩);have HB5:=Lib.hid hb5;have K45:=Lib.hid (K46.out.below' hb5);clear hD5 ho5 hb5 HOL;go_upto_region 10 with(refine Q01 (o:=⟨none,_,_,_,_,_⟩) rfl 47 (.tmp 7) (.tmp 60) rfl w5.heap.size 0 D rfl rfl 47 (anC 0 none 0 0 0 none 0 0) (Blk.newAt rfl) (by rw [hds]; kernel_rfl) (by rw [hds]; simp [anC]) hd1 ?_; intro w7 hT7 hD7)
    rw [Q08 _ _ (by rw [hds]; rfl)] at hD7;have hb57:Below w5.heap.size w5 w7:=hT7.below ((Below.refl _ _).alloc (Nat.le_refl _) _) (Nat.le_refl _);have hb67:Below wc.heap.size wc w7:=HB5.out.trans (hb57.mono hs5);have hs7:=hb57.size;have K47:=Lib.hid (K45.out.below' hb57);have HA7:=Lib.hid (HA5.out.below hb57);have HM7:=Lib.hid (HMD.out.later hb67);obtain⟨g7,hg7⟩:∃ b,b=w5.heap.size:=⟨_,rfl⟩;rw [<- hg7] at hD7 ⊢;have K77:=Lib.hid hD7;clear hT7 hD7 hb57 hb67 hg7 HB5 HA5 HMD;go_wp2_with (first | refine Q03 (o:=⟨some 62,_,_,_,_,_⟩) rfl 47 (.tmp 7) rfl g7 0 4 rfl 47 _ D _ K77.out Tryz.underlying47 rfl rfl hds (fun _ _=>by rw [Nat.zero_add]) ?_ | (refine Q01 (o:=⟨none,_,_,_,_,_⟩) rfl 47 (.tmp 4) (.tmp 62) rfl g4 0 D rfl rfl 47 _ K47.out (by rw [hds]; kernel_rfl) (by rw [hds]; simp [anC]) hd1 ?_; intro w8 hT8 hD8; rw [Q08 _ _ (by rw [hds]; rfl)] at hD8))
    refine bodyPost_ret (Q0b rfl _ _ g4 4 47 _ _ rfl hD8 Tryz.underlying47 rfl rfl hds) rfl ?_;exact HPG.out w8 D wc.heap.size HQ.out hds (by omega) (HA7.out.keepN (fun b h1 h2=>hT8.block b (by omega))) (Q1B.side2 (fun b hb=>.inl (HV.out.all b hb)) (fun b hb e=>by have:=HNL.out b (HV.out.all b hb); omega) hgw4 (.inl (.inr (.inr rfl))) (fun b hb hn=>hn.elim (fun e=>.inl (.inl e)) (fun e=>.inr ⟨e.1,hb⟩)) HM7.out hT8)
theorem Q1B.less {w w':World} {V:ALoc} {N N':Nat->Prop} {m:AM} {L:List (List UInt8)} {asked q:Nat} (h:Q1B w w' V N' m L asked q) (hs:∀ b,N b->N' b) (hall:∀ b,V.all b->N b):Q1B w w' V N m L asked q :=
 ⟨h.vat.mono (fun b _ hn=>hs b hn) hall,h.book,h.only.mono fun b _ e=>e.imp id (fun e hn=>e (hs b hn))⟩
theorem aDo_any (w:World) (V:ALoc) (N:Nat->Prop) (m:AM) (L:List (List UInt8)) (asked:Nat) (h:AAt w V N m) (hN:∀ b,N b->b<w.heap.size) (hbk:Q0A w V.k L asked) (hin:Q1X L (Q0g m)) (has:asked<=700000)
 (x:Wish) (A:Option Addr) (n c:Nat) (A':Option Addr) (n' c':Nat) (B:Nat) (hx:Q0Y w B x A n c A' n' c') (hB:B<=w.heap.size) :
 Calls Tryz.prog 43 #[.pointer (some ⟨V.g,0,none⟩),.agg (Q05 x A n c A' n' c')] w (ADoPost w V N L asked (doQ m x)):=by
 refine(QaZ w V N m L asked h hN hbk hin has x A n c A' n' c' B hx hB).mono ?_;rintro r w' ⟨D,q,h1,h2,h3,h4,h5⟩;exact⟨D,h1,h2,h4.more h3,h5.less (fun b hb=>.inl hb) h.all⟩
end
section
open Go.RowKit Go.Maps
attribute [local irreducible] wpList Q0i
def Q1C (f:Nat) (nA:Nat->Option Addr) (nC:Nat->Nat):Nat->List (List Int)->List Value
 | _,[]=>[]
 | i,l :: t=>.int .i64 (f:Int) :: .slice (nA i) l.length (nC i) :: Q1C f nA nC (i+1) t
theorem QbX (f:Nat) (nA:Nat->Option Addr) (nC:Nat->Nat):∀ (l:List (List Int)) (i:Nat),(Q1C f nA nC i l).length=l.length*2
 | [],_=>rfl
 | s :: t,i=>by
  show (Q1C f nA nC (i+1) t).length+2=(t.length+1)*2;rw [QbX f nA nC t (i+1)]; omega
theorem Q7J (f:Nat) (nA:Nat->Option Addr) (nC:Nat->Nat) (s:List Int):∀ (l:List (List Int)) (i:Nat),Q1C f nA nC i (l++[s])=Q1C f nA nC i l++[.int .i64 (f:Int),.slice (nA (i+l.length)) s.length (nC (i+l.length))]
 | [],i=>rfl
 | q :: t,i=>by
  show _ :: _ :: Q1C f nA nC (i+1) (t++[s])=_ :: _ :: (Q1C f nA nC (i+1) t++_);rw [Q7J f nA nC s t (i+1),show i+(q :: t).length=i+1+t.length by simp only [List.length_cons]; omega]
theorem Q6W (f:Nat) (nA nA':Nat->Option Addr) (nC nC':Nat->Nat):∀ (l:List (List Int)) (i:Nat),(∀ k,i<=k->k<i+l.length->nA k=nA' k/\nC k=nC' k)->Q1C f nA nC i l=Q1C f nA' nC' i l
 | [],_,_=>rfl
 | q :: t,i,h=>by
  have h1:=h i (Nat.le_refl _) (by simp);show _ :: _ :: Q1C f nA nC (i+1) t=_ :: _ :: Q1C f nA' nC' (i+1) t;rw [h1.1,h1.2,Q6W f nA nA' nC nC' t (i+1) fun k h2 h3=>h k (by omega) (by simp only [List.length_cons]; omega)]
theorem Q2R (f:Nat) (nA:Nat->Option Addr) (nC:Nat->Nat):∀ (l:List (List Int)) (i k:Nat) (s:List Int),l[k]?=some s->(Q1C f nA nC i l)[k*2]?=some (.int .i64 (f:Int))/\(Q1C f nA nC i l)[k*2+1]?=some (.slice (nA (i+k)) s.length (nC (i+k)))
 | q :: t,i,0,s,h=>by
  obtain rfl:=Option.some.inj h;exact⟨rfl,rfl⟩
 | q :: t,i,k+1,s,h=>by
  have:=Q2R f nA nC t (i+1) k s (by simpa using h);rw [show (k+1)*2=k*2+1+1 by omega,show i+(k+1)=i+1+k by omega];exact this
structure Q1J (w:World) (B:Nat) (v:Value) (f:Nat) (ls:List (List Int)) (nA:Nat->Option Addr) (nC:Nat->Nat):Prop where
 row:w.ownsRow B 77 2 v ls.length (Q1C f nA nC 0 ls)
 nodes:∀ i l,ls[i]?=some l->OwnN w B (.slice (nA i) l.length (nC i)) l
theorem Q1J.keep {w w':World} {B f:Nat} {v:Value} {ls:List (List Int)} {nA:Nat->Option Addr} {nC:Nat->Nat} (h:Q1J w B v f ls nA nC) (hk:∀ b,B<=b->b<w.heap.size->w'.heap[b]?=w.heap[b]?):Q1J w' B v f ls nA nC :=
 ⟨Q0f h.row fun b hb=>hk b (Q0a h.row hb).1 (Q0a h.row hb).2,fun i l hl=>(h.nodes i l hl).keep_ fun b hb=>hk b ((h.nodes i l hl).ge_ hb) (Q0a (h.nodes i l hl) hb).2⟩
theorem Q1J.below {w w':World} {B f:Nat} {v:Value} {ls:List (List Int)} {nA:Nat->Option Addr} {nC:Nat->Nat} (h:Q1J w B v f ls nA nC) (hb:Below w.heap.size w w'):Q1J w' B v f ls nA nC:=h.keep fun b _ hl=>hb.block b hl
theorem Q1J.turned {w w':World} {B f g:Nat} {v:Value} {ls:List (List Int)} {nA:Nat->Option Addr} {nC:Nat->Nat} (h:Q1J w B v f ls nA nC) (hT:Q0c g w w') (hv:v.ownBlock≠some g) {t:TypeId} {cs:Array Value} (hg:Blk w g t cs) (ht:3≠t):Q1J w' B v f ls nA nC :=
 ⟨Q0f h.row fun b hb=>hT.block b (fun e=>hv (by rw [hb,e])),fun i l hl=>(h.nodes i l hl).keep_ fun b hb=>hT.block b (fun e=>Q09 (h.nodes i l hl) hg ht (by rw [hb,e]))⟩
theorem Q1J.push {w W:World} {B f:Nat} {v v':Value} {ls:List (List Int)} {l:List Int} {nA:Nat->Option Addr} {nC:Nat->Nat} {A:Option Addr} {c:Nat} (h:Q1J w B v f ls nA nC) (hg:w.grownBy W v.ownBlock) (ho:OwnN w B (.slice A l.length c) l)
 (hrow:W.ownsRow B 77 2 v' (ls.length+1) (Q1C f nA nC 0 ls++[.int .i64 (f:Int),.slice A l.length c])) :
 Q1J W B v' f (ls++[l]) (fun k=>if k=ls.length then A else nA k) (fun k=>if k=ls.length then c else nC k):=by
 have hkeep:∀ {u:Value} {xs:List Int},OwnN w B u xs->OwnN W B u xs:=fun {u xs} hu=>hu.keep_ fun b hb=>hg.block b (Q0a hu hb).2 (fun e=>by
  rcases h.row.2 with⟨e1,_⟩ | ⟨gc,cap,cur,e1,_,e3,_⟩
  ·rw [e1] at e; cases e
  ·have hB:Blk w gc 77 cur:=e3;rw [e1] at e;have e':b=gc:=by simpa [Value.ownBlock] using e
   exact Q09 hu hB (by decide) (e'▸hb))
 refine⟨?_,?_⟩
 ·have e1:Q1C f (fun k=>if k=ls.length then A else nA k) (fun k=>if k=ls.length then c else nC k) 0 (ls++[l])=Q1C f nA nC 0 ls++[.int .i64 (f:Int),.slice A l.length c]:=by
   rw [Q7J,Q6W f _ nA _ nC ls 0 (fun k _ hk=>⟨if_neg (by omega),if_neg (by omega)⟩)];simp only [Nat.zero_add,if_true]
  rw [e1,List.length_append];exact hrow
 ·intro i s hs;rcases Nat.lt_or_ge i ls.length with hi | hi
  ·rw [List.getElem?_append_left hi] at hs;rw [if_neg (by omega),if_neg (by omega)];exact hkeep (h.nodes i s hs)
  ·have hi2:i=ls.length:=by
    have:=(List.getElem?_eq_some_iff.1 hs).1;rw [List.length_append,List.length_singleton] at this; omega
   subst hi2;rw [List.getElem?_append_right (Nat.le_refl _),Nat.sub_self] at hs;obtain rfl:=Option.some.inj hs;simp only [if_true];exact hkeep ho
theorem Q1J.one {w:World} {B f g:Nat} {l:List Int} {A:Option Addr} {c:Nat} (hB:B<=g) (hb:Blk w g 77 (crC f A l.length c)) (ho:OwnN w B (.slice A l.length c) l):Q1J w B (.slice (some ⟨g,0,none⟩) 1 1) f [l] (fun _=>A) (fun _=>c) :=
 ⟨⟨rfl,.inr ⟨g,1,_,rfl,hB,hb,Nat.le_refl _,by unfold maxLen; omega,rfl,rfl⟩⟩,fun i s hs=>by
  cases i with
  | zero=>obtain rfl:=Option.some.inj hs; exact ho
  | succ i=>simp at hs⟩
theorem Q1d.at_:∀ {l:List Int} {a:List (Int×Int)} {i:Nat} {o z:Int},Q1d l a->a[i]?=some (o,z)->Q3v (nowL l (a.take i)) o z
 | _,m :: t,0,o,z,h,e=>by
  obtain rfl:=Option.some.inj e;exact⟨h.1,h.2.1,h.2.2.1,h.2.2.2.1⟩
 | l,m :: t,i+1,o,z,h,e=>Q1d.at_ (l:=Q1N l m.1 m.2) h.2.2.2.2 (by simpa using e)
theorem Q8m:(Tryz.prog.info? 77).map (fun i=>(i.zero,i.size,i.bytes))=some (some (.agg (crC 0 none 0 0)),2,32):=by kernel_rfl
end
section
open Go.RowKit Go.Maps
attribute [local irreducible] wpList Q0i
def Q1Y (w:World) (s:Srv) (e:Ending) (w':World):Prop:=∃ v nA nC,e=.returned v/\Q1J w' w.heap.size v s.f (Q0U s.first s.moves) nA nC/\Below w.heap.size w w'
theorem mv_at {w:World} {A:Option Addr} {n c:Nat} {ms:List (Int×Int)} {k:Nat} {o z:Int} (h:w.ownsRow 0 175 2 (.slice A n c) n (Q0F ms)) (hk:ms[k]?=some (o,z)):∃ gm cur,A=some ⟨gm,0,none⟩/\Blk w gm 175 cur/\∀ j,j<2->cur[k*2+j]?=(#[.int .i64 o,.int .i64 z]:Array Value)[j]?:=by
 obtain⟨hkl,hke⟩:=List.getElem?_eq_some_iff.1 hk;have hl:=h.1;rw [Q3R] at hl;rcases h.2 with⟨_,h0⟩ | ⟨gm,cap,cur,e,_,h3,h4,h5,h6,h7⟩
 ·omega
 ·injection e with e
  refine⟨gm,cur,e,h3,fun j hj=>?_⟩;have hget:=Q2T ms k hkl;rw [hke] at hget;have ht:∀ q,q<n*2->cur[q]?=(Q0F ms)[q]?:=fun q hq=>by
   rw [<- h7,List.getElem?_take,if_pos hq,Array.getElem?_toList]
  obtain rfl | rfl:j=0\/j=1:=by omega
  ·rw [Nat.add_zero,ht _ (by omega),hget.1]; rfl
  ·rw [ht _ (by omega),hget.2]; rfl
theorem Q1K {w:World} {B n:Nat} {A:Option Addr} {c:Nat} {zs:List Int} (h:OwnN w B (.slice A n c) zs):zs.length=n/\Q0d w w.heap.size 1 A n (zs.map vn):=by
 obtain⟨A',c',e,_,_,h3,_⟩:=Q0v h;injection e with e1 e2 _
 subst e1 e2;exact⟨rfl,h3⟩
theorem Q5u (w:World) (C:Array Value) (h:C.size=2):Q0d (w.alloc (.cells C 77)) (w.alloc (.cells C 77)).heap.size 2 (some ⟨w.heap.size,0,none⟩) 1 C.toList:=by
 have hk:Blk (w.alloc (.cells C 77)) w.heap.size 77 C:=Blk.newAt rfl;exact⟨by simp [h],fun _=>⟨⟨w.heap.size,0,none⟩,rfl,hk.lt,fun j u hu=>by rw [Q13,Nat.zero_add,hk.cell,<- Array.getElem?_toList]; exact hu⟩⟩
theorem Q9g {w:World} {base base':Nat} {e:TypeId} {size:Nat} {v:Value} {n:Nat} {xs:List Value} (h:w.ownsRow base e size v n xs) (hb:base'<=base):w.ownsRow base' e size v n xs:=by
 refine⟨h.1,?_⟩;rcases h.2 with h1 | ⟨g,cap,cur,h1,h2,h3⟩
 ·exact .inl h1
 ·exact .inr ⟨g,cap,cur,h1,Nat.le_trans hb h2,h3⟩
theorem Q1Y.of {w w6 wr:World} {s:Srv} {v:Value} {nA:Nat->Option Addr} {nC:Nat->Nat} (h:Q1J wr w6.heap.size v s.f (Q0U s.first s.moves) nA nC) (hb:Below w.heap.size w wr) (hw:w.heap.size<=w6.heap.size):Q1Y w s (.returned v) wr :=
 ⟨v,nA,nC,rfl,⟨Q9g h.row hw,fun i l hl=>OwnN.more (h.nodes i l hl) hw⟩,hb⟩
structure CrLp (w w6:World) (g6 f:Nat) (s:Srv) (k:Nat) (ov:Value) (wr:World):Prop where
 own:∃ nA nC,Q1J wr w6.heap.size ov f (Q0U s.first (s.moves.take k)) nA nC
 cur:∃ A n c,Blk wr g6 77 (crC f A n c)/\Q0d wr wr.heap.size 1 A n ((nowL s.first (s.moves.take k)).map vn)
 below:Below w.heap.size w wr
 size:w6.heap.size<=wr.heap.size
theorem Q7r (w:World) (g gc i:Nat) (T:Nat) (N:Nat->Prop) (m:AM) (S:ASl) (s:Srv) (h:ADat w g gc (some ⟨T,0,none⟩) N m S) (hs:m.chunks[i]?=some s) :
 Calls Tryz.prog 56 #[.pointer (some ⟨g,0,none⟩),.int .i64 ((i:Int)+1)] w (Q1Y w s):=by
 have hil:i<m.chunks.length:=(List.getElem?_eq_some_iff.1 hs).1;have h2:=h.ok.one;have hok:=h.ok.srv s (List.mem_of_getElem? hs);have hc1:w.cell? ⟨g,1,none⟩=some (.slice (some ⟨gc,0,none⟩) m.chunks.length S.cap):=(h.blk.cell 1).trans (Q1D _ _ _ _ 1 (by omega));have HNO:=Lib.hid (Q2g w g T ((h.blk.cell 0).trans (Q1D _ _ _ _ 0 (by omega))));have hsrv:=h.srv i s hs;have hi:=h.srvIn hs;obtain⟨n,hn⟩:∃ n,n=m.chunks.length:=⟨_,rfl⟩;have hin:i<n:=by omega
 rw [<- hn] at hc1;have hx1:¬ ((i:Int)+1<1):=by omega
 have hx2:¬ ((n:Int)<(i:Int)+1):=by omega
 have hx3:(i:Int)+1 - 1=(i:Int):=by omega
 have hx4:(i:Int)<(n:Int):=by omega
 have hx5:(0:Int)<=(i:Int):=by omega
 obtain⟨D,hD⟩:∃ D,D=srvC s S i:=⟨_,rfl⟩;have hds:D.size=5:=by rw [hD]; rfl
 have hd1:D.all (·.oneCell')=true:=by rw [hD]; simp [srvC,Value.oneCell']
 rw [<- hD] at hsrv;have HROW:=Lib.hid h.row;have HSRV:=Lib.hid hsrv;have HD:=Lib.hid hD;have HI:=Lib.hid hi;have HOK:=Lib.hid hok;have hl1:=h.lt.1;have hl2:=h.lt.2;obtain⟨f,hf⟩:∃ f,f=s.f:=⟨_,rfl⟩;have HF:=Lib.hid hf;obtain⟨P,hP⟩:∃ P,P=Q1Y w s:=⟨_,rfl⟩;have HP:=Lib.hid hP;rw [<- hP];clear h hs hok hsrv hi hn hD hf hP;go_enter Tryz.func56,Tryz.ntmps56
 go_wp2_with fail
 refine HNO.out.mono ?_;rintro _ _ ⟨rfl,rfl⟩;have hzs:Q7k.size=5:=rfl;go_upto_region 4 with(first | refine Q03 (o:=⟨some 32,_,_,_,_,_⟩) rfl 173 (.tmp 31) rfl gc (i*5) 5 rfl 173 _ D _ HROW.out Tryz.underlying173 rfl rfl hds HSRV.out ?_ | (refine Q01 (o:=⟨none,_,_,_,_,_⟩) rfl 173 (.tmp 5) (.tmp 32) rfl w.heap.size 0 D rfl rfl 173 Q7k (Blk.newAt rfl) (by rw [hds]; kernel_rfl) (by rw [hds,hzs]; omega) hd1 ?_; intro w5 hT5 hD5))
 rw [Q08 _ _ (by rw [hds,hzs])] at hD5;have hb5:Below w.heap.size w w5:=hT5.below ((Below.refl _ _).alloc (Nat.le_refl _) _) (Nat.le_refl _);obtain⟨g5,hg5⟩:∃ b,b=w.heap.size:=⟨_,rfl⟩;rw [<- hg5] at hD5 ⊢;have hgw5:w.heap.size<=g5:=by omega
 have HB5:=Lib.hid hb5;have HD5:=Lib.hid hD5;have hs5:=hb5.size;have hl5:=hD5.lt;obtain⟨C,hC⟩:∃ C,C=crC f (S.fA i) s.first.length (S.fC i):=⟨_,rfl⟩;have hcs:C.size=2:=by rw [hC]; rfl
 have hc1:C.all (·.oneCell')=true:=by rw [hC]; exact Q1p _ _ _ _
 have hcd:∀ j,j<2->D[0+j]?=C[j]?:=fun j hj=>by
  rw [HD.out,hC,HF.out,Nat.zero_add];obtain rfl | rfl:j=0\/j=1:=by omega
  iterate 2 ·rfl
 have HC:=Lib.hid hC;have HCD:=Lib.hid hcd;clear hb5 hT5 hD5 hC hcd hg5;go_upto_region 5 with(first | refine Q03 (o:=⟨some 34,_,_,_,_,_⟩) rfl 77 (.tmp 33) rfl g5 0 2 rfl 173 _ C _ HD5.out Tryz.underlying77 rfl rfl hcs HCD.out ?_ | (refine Q01 (o:=⟨none,_,_,_,_,_⟩) rfl 77 (.tmp 6) (.tmp 34) rfl w5.heap.size 0 C rfl rfl 77 (crC 0 none 0 0) (Blk.newAt rfl) (by rw [hcs]; kernel_rfl) (by rw [hcs]; simp [crC]) hc1 ?_; intro w6 hT6 hD6))
 rw [Q08 _ _ (by rw [hcs]; rfl)] at hD6;have hb6:Below w5.heap.size w5 w6:=hT6.below ((Below.refl _ _).alloc (Nat.le_refl _) _) (Nat.le_refl _);obtain⟨g6,hg6⟩:∃ b,b=w5.heap.size:=⟨_,rfl⟩;rw [<- hg6] at hD6 ⊢;have HB6:=Lib.hid (HB5.out.trans (hb6.mono hs5));have HD6:=Lib.hid hD6;have HD56:=Lib.hid (HD5.out.below' hb6);have hs6:=hb6.size;have hl6:=hD6.lt;have hg56:g5<g6:=by omega
 clear hb6 hT6 hD6 hg6 HD5 HB5 HCD;have HI6:=Lib.hid (HI.out.below HB6.out);obtain⟨nn,hnn⟩:∃ k,k=s.first.length:=⟨_,rfl⟩;rw [<- hnn] at HC;have HNN:=Lib.hid hnn;have hnn7:nn<=7:=by rw [hnn]; exact HOK.out.crew.short.2
 obtain⟨Af,hAf⟩:∃ A,A=S.fA i:=⟨_,rfl⟩;obtain⟨cf,hcf⟩:∃ c,c=S.fC i:=⟨_,rfl⟩;rw [<- hAf,<- hcf] at HC;have HCL:=Lib.hid (fun(W:World) (hb:Below w6.heap.size w6 W)=>Q2Q Af nn cf s.first W w6.heap.size (by have:=HI6.out.first; rw [<- hAf,<- hnn] at this; exact this.below hb) hb.size (by omega));have C60:=Lib.hid (show w6.cell? ⟨g6,0,none⟩=some (.int .i64 (f:Int)) from(HD6.out.cell 0).trans (by rw [HC.out]; rfl));have C61:=Lib.hid (show w6.cell? ⟨g6,1,none⟩=some (.slice Af nn cf) from(HD6.out.cell 1).trans (by rw [HC.out]; rfl));have hAe:=Lib.hid hAf.symm;clear hnn hAf hcf;refine Q0l 7 64 (fun jx W v=>match jx with | 0=>v=.pointer (some ⟨g6,0,none⟩) | 1=>v=.int .i64 (f:Int) | 2=>v=.pointer (some ⟨g6,1,none⟩) | 3=>v=.slice Af nn cf | 4=>∃ A' c',v=.slice A' nn c'/\OwnN W w6.heap.size (.slice A' nn c') s.first | 5=>∃ A' c',v=.agg (crC f A' nn c')/\OwnN W w6.heap.size (.slice A' nn c') s.first | _=>∃ g9 A' c',v=.slice (some ⟨g9,0,none⟩) 1 1/\w6.heap.size<=g9/\Blk W g9 77 (crC f A' nn c')/\OwnN W w6.heap.size (.slice A' nn c') s.first) [35,36,37,38,39,40,41] (by kernel_rfl) (by kernel_rfl) (by kernel_rfl) (by first | rfl | simp) (by kernel_rfl) (fun jx=>?last) ?heads ?_
 case last =>
  match jx with
  | 0 | 1 | 2 | 3=>exact Q16.pure _
  | 4 | 5=>exact fun W W' u ⟨A',c',h1,h2⟩ hb=>⟨A',c',h1,h2.below_ hb⟩
  | jx+6=>exact fun W W' u ⟨g9,A',c',h1,h2,h3,h4⟩ hb=>⟨g9,A',c',h1,h2,h3.below' hb,h4.below_ hb⟩
 case heads =>
  simp only [List.take_succ_cons,List.take_zero];refine⟨?_,?_,?_,?_,?_,?_,?_,trivial⟩;all_goals intro a W hb hkp hd
  ·have e0:a.tmps[6]?.getD undef=.pointer (some ⟨g6,0,none⟩):=hkp.get (by kernel_rfl) rfl;exact Q00 rfl _ (by go_simp) rfl
  ·have e0:(_:Value)=.pointer (some ⟨g6,0,none⟩):=(hd 0 (by kernel_rfl)).get 35 rfl rfl;have cc:=(hb.cell (p:=⟨g6,0,none⟩) hl6).trans C60.out;exact Q00 rfl _ (by go_simp) rfl
  ·have e0:a.tmps[6]?.getD undef=.pointer (some ⟨g6,0,none⟩):=hkp.get (by kernel_rfl) rfl;exact Q00 rfl _ (by go_simp) rfl
  ·have e0:(_:Value)=.pointer (some ⟨g6,1,none⟩):=(hd 2 (by kernel_rfl)).get 37 rfl rfl;have cc:=(hb.cell (p:=⟨g6,1,none⟩) hl6).trans C61.out;exact Q00 rfl _ (by go_simp) rfl
  ·have e0:(_:Value)=.slice Af nn cf:=(hd 3 (by kernel_rfl)).get 38 rfl rfl;refine Q0w rfl 86 #[.slice Af nn cf] (by go_simp) ((HCL.out W hb).mono ?_);rintro e w' ⟨v,rfl,ho,hb'⟩;obtain⟨A',c',hv,_⟩:=Q0v ho;rw [<- HNN.out] at hv;subst hv;exact⟨_,rfl,hb',A',c',rfl,OwnN.more ho hb.size⟩
  ·have e0:(_:Value)=.int .i64 (f:Int):=(hd 1 (by kernel_rfl)).get 36 rfl rfl;obtain⟨A',c',e1,ho⟩:=(hd 4 (by kernel_rfl)).get 39 rfl rfl;exact Q00 rfl (.agg (crC f A' nn c')) (by unfold crC; go_simp) ⟨A',c',rfl,ho⟩
  ·obtain⟨A',c',e0,ho⟩:=(hd 5 (by kernel_rfl)).get 40 rfl rfl;exact Q21 rfl (.slice (some ⟨W.heap.size,0,none⟩) 1 1) (W.alloc (.cells (crC f A' nn c') 77)) (by unfold crC at e0 ⊢; go_simp; try rfl) (Q07 _ _) ⟨W.heap.size,A',c',rfl,hb.size,Blk.new W _ _,ho.below_ (Q07 _ _)⟩
 intro fv W hb hd;obtain⟨g9,A9,c9,h41,hg9,hB9,ho9⟩:=hd 6 (by omega) _ 41 rfl rfl;simp only [Q0H,List.drop_succ_cons,List.drop_zero,h41];have HBW:=Lib.hid (HB6.out.trans (hb.mono (by omega)));have HST:=Lib.hid (show CrLp w w6 g6 f s 0 (.slice (some ⟨g9,0,none⟩) 1 1) W from⟨⟨_,_,by
  have:=Q1J.one hg9 (by rw [HNN.out] at hB9; exact hB9) (by rw [HNN.out] at ho9; exact ho9);have e:Q0U s.first (s.moves.take 0)=[s.first]:=by simp [Q0U]
  rw [e]; exact this⟩,⟨Af,nn,cf,by rw [<- HC.out]; exact HD6.out.below' hb,by
  have:=(HI6.out.below hb).first;have e:nowL s.first (s.moves.take 0)=s.first:=by simp [nowL]
  rw [e];have e2:S.fA i=Af:=by
   have:=HC.out;exact hAe.out
  rw [e2,<- HNN.out] at this; exact this⟩,HBW.out,hb.size⟩)
 obtain⟨mn,hmn⟩:∃ k,k=s.moves.length:=⟨_,rfl⟩;have hmn21:mn<=21:=by rw [hmn]; exact HOK.out.len
 obtain⟨mA,hmA⟩:∃ k,k=S.mA i:=⟨_,rfl⟩;obtain⟨mC,hmC⟩:∃ k,k=S.mC i:=⟨_,rfl⟩;have c54:W.cell? ⟨g5,4,none⟩=some (.slice mA mn mC):=((HD56.out.below' hb).cell 4).trans (by rw [HD.out,hmA,hmn,hmC]; rfl);have HMR:=Lib.hid (fun(W':World) (hb:Below w.heap.size w W')=>(show W'.ownsRow 0 175 2 (.slice mA mn mC) mn (Q0F s.moves) by rw [hmA,hmn,hmC]; exact(HI.out.below hb).mv));have HMN:=Lib.hid hmn;have hg6w:g6<w6.heap.size:=hl6;have hw6w:w.heap.size<=w6.heap.size:=HB6.out.size;clear hd hb hB9 ho9 h41 hmn hmA hmC HI HI6 HCL C60 C61 HD6 HD56 HC HBW HB6 HROW HSRV;try simp only [Act.put,sA1,sA2,sA3]
 go_wp2_with fail
 go_loopw [7,45] (fun ov iv wr=>∃ k:Nat,k<=mn/\iv=.int .i64 (k:Int)/\CrLp w w6 g6 f s k ov wr) (fun _ iv _=>mn - (intOf iv).toNat)
 case atStart=>exact⟨0,by omega,rfl,HST.out⟩
 case round =>
  obtain⟨k,hk,rfl,hlp⟩:=hrel;by_cases hkn:k<mn
  ·have hkI:(k:Int)<(mn:Int):=by omega
   have h0I:(0:Int)<=(k:Int):=by omega
   have hkl:k<s.moves.length:=by have:=HMN.out; omega
   obtain⟨⟨o,z⟩,hoz⟩:∃ q,s.moves[k]?=some q:=⟨_,List.getElem?_eq_getElem hkl⟩;obtain⟨gm,cur,hmA,hBm,hcur⟩:=mv_at (HMR.out wr hlp.below) hoz;subst hmA;obtain⟨M,hM⟩:∃ M:Array Value,M=#[.int .i64 o,.int .i64 z]:=⟨_,rfl⟩;rw [<- hM] at hcur;have hms:M.size=2:=by rw [hM]; rfl
   have hm1:M.all (·.oneCell')=true:=by rw [hM]; simp [Value.oneCell']
   obtain⟨A,n,c,hB6,hrd⟩:=hlp.cur;obtain⟨nA,nC,hown⟩:=hlp.own;obtain⟨C',hC'⟩:∃ C',C'=crC f A n c:=⟨_,rfl⟩;rw [<- hC'] at hB6;have hcs':C'.size=2:=by rw [hC']; rfl
   have HLP:=Lib.hid hlp;have HBM:=Lib.hid hBm;have HCU:=Lib.hid hcur;have HM:=Lib.hid hM;have HC':=Lib.hid hC';have HB6:=Lib.hid hB6;have HRD:=Lib.hid hrd;have HOW:=Lib.hid hown;have HOZ:=Lib.hid hoz;have hszr:=hlp.size;have hlr:=hlp.below.size;clear hlp hoz hBm hcur hM hC' hB6 hrd hown HST c54;go_upto_region 9 with(first | refine Q03 (o:=⟨some 48,_,_,_,_,_⟩) rfl 175 (.tmp 47) rfl gm (k*2) 2 rfl 175 _ M _ HBM.out Tryz.underlying175 rfl rfl hms HCU.out ?_ | (refine Q01 (o:=⟨none,_,_,_,_,_⟩) rfl 175 (.tmp 9) (.tmp 48) rfl wr.heap.size 0 M rfl rfl 175 #[.int .i64 0,.int .i64 0] (Blk.newAt rfl) (by rw [hms]; kernel_rfl) (by rw [hms]; simp) hm1 ?_; intro w3 hT3 hD3))
   rw [Q08 _ _ (by rw [hms]; rfl)] at hD3;have hb3:Below wr.heap.size wr w3:=hT3.below ((Below.refl _ _).alloc (Nat.le_refl _) _) (Nat.le_refl _);obtain⟨q9,hq9⟩:∃ b,b=wr.heap.size:=⟨_,rfl⟩;rw [<- hq9] at hD3 ⊢;have hs3:=hb3.size;have c90:w3.cell? ⟨q9,0,none⟩=some (.int .i64 o):=(hD3.cell 0).trans (by rw [HM.out]; rfl);have c91:w3.cell? ⟨q9,1,none⟩=some (.int .i64 z):=(hD3.cell 1).trans (by rw [HM.out]; rfl);have hmok:=HOK.out.mv;have hnok:OkC f (nowL s.first (s.moves.take k)):=by rw [HF.out]; exact(hmok.take k).now HOK.out.crew
   have HRP:=Lib.hid (Q5n f A n c _ o z w3 ((HRD.out.below hb3).more hb3.size) hnok);rw [<- HC'.out] at HRP;have HGD:=Lib.hid (hmok.at_ HOZ.out);have HB3:=Lib.hid hb3;have HB63:=Lib.hid (HB6.out.below' hb3);have hl9:=hD3.lt;clear hT3 hb3 hD3 hmok hnok hq9;go_upto_region 10 with(refine Q03 (o:=⟨some 50,_,_,_,_,_⟩) rfl 77 (.tmp 6) rfl g6 0 2 rfl 77 _ C' _ HB63.out Tryz.underlying77 rfl rfl hcs' (fun _ _=>by rw [Nat.zero_add]) ?_)
   refine HRP.out.mono ?_;rintro _ w4 ⟨hb4,hgo,_⟩;obtain⟨A',n',c',rfl,ho4⟩:=hgo HGD.out;obtain⟨hn4,_⟩:=Q1K ho4;obtain⟨E,hE⟩:∃ E,E=crC f A' n' c':=⟨_,rfl⟩;have hes:E.size=2:=by rw [hE]; rfl
   have he1:E.all (·.oneCell')=true:=by rw [hE]; exact Q1p _ _ _ _
   rw [<- hE];have HE:=Lib.hid hE;have HO4:=Lib.hid ho4;have HB64:=Lib.hid (HB63.out.below' hb4);have HB4:=Lib.hid hb4;have HN4:=Lib.hid hn4;have hs4:=hb4.size;clear hb4 hgo ho4 hE hn4 HRP HB63 c90 c91;go_upto_region 10 with(refine Q01 (o:=⟨none,_,_,_,_,_⟩) rfl 77 (.tmp 6) (.tmp 56) rfl g6 0 E rfl rfl 77 C' HB64.out (by rw [hes]; kernel_rfl) (by rw [hes,hcs']; omega) he1 ?_; intro w5' hT5 hD5)
   rw [Q08 _ _ (by rw [hes,hcs'])] at hD5;have hb4w:Below wr.heap.size wr w4:=HB3.out.trans (HB4.out.mono hs3);have HS5:=Lib.hid hT5.size;have HO5:=Lib.hid (HO4.out.keep_ (w':=w5') fun b hb=>hT5.block b (fun e=>by have:=HO4.out.ge_ hb; omega));have HOW5:=Lib.hid ((HOW.out.below hb4w).keep (w':=w5') fun b hb _=>hT5.block b (by omega));have HD5:=Lib.hid hD5;have hw65:w6.heap.size<=w5'.heap.size:=by rw [hT5.size]; omega
   have HB5s:=Lib.hid (show w.heap.size<=w5'.heap.size by rw [hT5.size]; omega);have HB5:=Lib.hid (hT5.below ((HLP.out.below.trans (hb4w.mono hlr))) (show w.heap.size<=g6 by omega));clear hb4w hT5 hD5 HO4 HB3 HB4 HB64 HOW;have hlt5:=HD5.out.lt;have hfold:Array.foldl (fun(cs:Array Value) (x:Value×Nat)=>cs.setIfInBounds x.snd x.fst) #[Value.int .i64 0,Value.slice none 0 0] E.zipIdx 0 2=E:=by rw [HE.out]; rfl
   obtain⟨i0,hi0,hz0,hz1,hz2⟩:=info_parts Q8m;have hb6:=Q07 w5' (.cells E 77);have hcl:(Q0U s.first (s.moves.take k)).length=k+1:=by rw [Q1r,List.length_take]; omega
   have hrow6:=(HOW5.out.below hb6).row;rw [hcl] at hrow6;obtain⟨cells,hcells⟩:∃ l,l=Q1C f nA nC 0 (Q0U s.first (s.moves.take k)):=⟨_,rfl⟩;rw [<- hcells] at hrow6;have HCE:=Lib.hid hcells;have HCL:=Lib.hid hcl;have HROW6:=Lib.hid hrow6;have HRD6:=Lib.hid (Q5u w5' E hes);have HOW6:=Lib.hid (HOW5.out.below hb6);have HO6:=Lib.hid (HO5.out.below_ hb6);have HD6':=Lib.hid (HD5.out.below' hb6);have HB6':=Lib.hid (HB5.out.trans (hb6.mono (by have:=HB5.out.size; omega)));have hs6':=hb6.size;clear hb6 hcl hrow6 hcells HOW5 HO5 HB5 HLP HRD HB6 HBM HCU HM HC';go_wp2_with (first
    | refine Q03 (o:=⟨some 59,_,_,_,_,_⟩) rfl 77 (.tmp 6) rfl g6 0 2 rfl 77 _ E _ HD5.out Tryz.underlying77 rfl rfl hes (fun _ _=>by rw [Nat.zero_add]) ?_
    | (at_builtin; go_must (refine Q06 _ rfl (.tmp 58) (.tmp 60) 74 rfl w6.heap.size 77 i0 _ 2 32 Tryz.underlying74 hi0 hz0 hz1 hz2 rfl (by omega) _ _ _ rfl HROW6.out _ (some ⟨w5'.heap.size,0,none⟩) 1 1 E.toList rfl HRD6.out ?d1 ?d2 ?d3 ?d4 ?_)))
   case d1=>exact fun u hu=>(Array.all_eq_true'.1 he1) u (by simpa using hu)
   case d2=>unfold maxLen; omega
   case d3=>first | omega | (simp; omega)
   case d4=>first | omega | (simp; omega)
   intro v6 w6' hown6 hg6 hor6;obtain⟨l',hl'⟩:∃ l,l=Q1N (nowL s.first (s.moves.take k)) o z:=⟨_,rfl⟩;have hn':=HN4.out;have ho6:=HO6.out;rw [<- hl'] at hn' ho6;have hown:Q1J w6' w6.heap.size v6 f (Q0U s.first (s.moves.take k)++[l']) _ _:=HOW6.out.push (l:=l') (A:=A') (c:=c') hg6 (by rw [hn']; exact OwnN.more ho6 (by omega)) (by rw [HCL.out,hn',<- HCE.out]; rw [HE.out] at hown6; exact hown6);have hb66:Below w.heap.size w w6':=Q0k HB6'.out (by simp; have:=HB5s.out; omega) hg6 (fun b hb=>by have:=(Q0a HROW6.out hb).1; omega);have htk:s.moves.take (k+1)=s.moves.take k++[(o,z)]:=by rw [List.take_add_one,HOZ.out]; rfl
   have hcrew:Q0U s.first (s.moves.take (k+1))=Q0U s.first (s.moves.take k)++[l']:=by rw [htk,Q3L,hl']
   have hnow:nowL s.first (s.moves.take (k+1))=l':=by rw [htk,Q3O,hl']
   have hlast:=hown.nodes _ l' List.getElem?_concat_length;rw [if_pos rfl,if_pos rfl] at hlast;have hbl6:Blk w6' g6 77 (crC f A' n' c'):=by
    rw [<- HE.out];exact HD6'.out.grown hg6 (fun e=>by have:=(Q0a HROW6.out e.symm).1; omega)
   have HLP':=Lib.hid (show CrLp w w6 g6 f s (k+1) v6 w6' from⟨⟨_,_,by rw [hcrew]; exact hown⟩,⟨A',n',c',hbl6,by rw [hnow,<- hn']; exact(Q1K hlast).2⟩,hb66,by have:=hg6.size; have:=HS5.out; omega⟩);clear hown hb66 htk hcrew hnow hlast hbl6 hl' hn' ho6 hown6 hg6 hor6 HS5 HB5s hfold;go_wp2_with fail
   go_roundw
   case rel=>exact⟨k+1,by omega,by go_num,HLP'.out⟩
   case measure=>simp [intOf]; omega
  ·obtain rfl:k=mn:=by omega
   have hkI:¬ (k:Int)<(k:Int):=by omega
   have htk:s.moves.take k=s.moves:=List.take_of_length_le (by rw [HMN.out]; omega);obtain⟨nA,nC,hown⟩:=hlp.own;rw [htk] at hown;rw [HF.out] at hown;have hpost:=Q1Y.of hown hlp.below hw6w;rw [<- HP.out] at hpost;have HR:=Lib.hid hpost;clear hlp htk hown hpost;go_wp2_with fail
   exact HR.out
end
section
open Go.RowKit Go.Maps
structure RASl where
 f:Nat
 fA:Option Addr
 fC:Nat
 nA:Nat->Option Addr
 nC:Nat->Nat
 mA:Nat->Option Addr
 mC:Nat->Nat
 lA:Nat->Option Addr
 lC:Nat->Nat
def Q1o (m:AM) (i:Nat):List (Int×Int):=match m.chunks[i]? with
 | some s=>s.moves
 | none=>[]
theorem Q1b {m:AM} {i:Nat} {s:Srv} (h:m.chunks[i]?=some s):Q1o m i=s.moves:=by unfold Q1o; rw [h]
def raN (x:Ans) (A:Option Addr) (c:Nat):Array Value:=anC (x.err:Int) none 0 0 (x.epoch:Int) A x.nodes.length c
def raF (m:AM) (S:RASl) (j:Nat):Value :=
 if j=0 then .slice S.fA m.chunks.length S.fC
 else if j<3 then .slice (S.mA (j - 1)) (Q1o m (j - 1)).length (S.mC (j - 1))
 else if j<7 then .int .i64 ((Q0u m (j - 3)).1:Int)
 else((raN (Q0u m ((j - 7) / 4)).2 (S.lA ((j - 7) / 4)) (S.lC ((j - 7) / 4)))[(j - 7) % 4]?).getD undef
def Q1G (m:AM) (S:RASl):Array Value:=rng 23 (raF m S)
theorem Q2y (m:AM) (S:RASl):(Q1G m S).size=23:=Q0C _ _
theorem Q3q (m:AM) (S:RASl) (j:Nat) (h:j<23):(Q1G m S)[j]?=some (raF m S j):=Q1z _ _ _ h
structure Q1a (w:World) (g:Nat) (N:Nat->Prop) (m:AM) (S:RASl):Prop where
 cells:Blk w g 153 (Q1G m S)
 row:w.ownsRow 0 77 2 (.slice S.fA m.chunks.length S.fC) m.chunks.length (Q1C S.f S.nA S.nC 0 (m.chunks.map (·.first)))
 same:∀ s,s∈m.chunks->s.f=S.f
 first:∀ i s,m.chunks[i]?=some s->FarN w N (S.nA i) (S.nC i) s.first
 mv:∀ i,i<2->w.ownsRow 0 168 2 (.slice (S.mA i) (Q1o m i).length (S.mC i)) (Q1o m i).length (Q0F (Q1o m i))
 apart:∀ b,(Value.slice (S.mA 0) (Q1o m 0).length (S.mC 0)).ownBlock=some b->(Value.slice (S.mA 1) (Q1o m 1).length (S.mC 1)).ownBlock≠some b
 nodes:∀ i,i<4->FarN w N (S.lA i) (S.lC i) (Q0u m i).2.nodes
 ok:AOk m
 out:¬ N g
 rout:∀ b,(Value.slice S.fA m.chunks.length S.fC).ownBlock=some b->¬ N b
 mout:∀ i,i<2->∀ b,(Value.slice (S.mA i) (Q1o m i).length (S.mC i)).ownBlock=some b->¬ N b
theorem Q1a.only {w w':World} {g:Nat} {N M:Nat->Prop} {m:AM} {S:RASl} (h:Q1a w g N m S) (ho:Only M w w') (hM:∀ b,M b->N b):Q1a w' g N m S :=
 ⟨ho.blk h.cells fun hm=>h.out (hM _ hm),Q0f h.row fun b hb=>ho.block b (Q0a h.row hb).2 fun hm=>h.rout b hb (hM _ hm),h.same,fun i s hs=>(h.first i s hs).only ho hM,fun i hi=>Q0f (h.mv i hi) fun b hb=>ho.block b (Q0a (h.mv i hi) hb).2 fun hm=>h.mout i hi b hb (hM _ hm),h.apart,fun i hi=>(h.nodes i hi).only ho hM,h.ok,h.out,h.rout,h.mout⟩
theorem Q1a.below {w w':World} {g:Nat} {N:Nat->Prop} {m:AM} {S:RASl} (h:Q1a w g N m S) (hb:Below w.heap.size w w'):Q1a w' g N m S:=h.only (M:=fun _=>False) (Only.of_below hb) (fun _ h=>h.elim)
theorem Q1a.mono {w:World} {g:Nat} {N N':Nat->Prop} {m:AM} {S:RASl} (h:Q1a w g N m S) (hN:∀ b,b<w.heap.size->N' b->N b):Q1a w g N' m S :=
 ⟨h.cells,h.row,h.same,fun i s hs=>(h.first i s hs).mono hN,h.mv,h.apart,fun i hi=>(h.nodes i hi).mono hN,h.ok,fun hn=>h.out (hN _ h.cells.lt hn),fun b hb hn=>h.rout b hb (hN _ (Q0a h.row hb).2 hn),fun i hi b hb hn=>h.mout i hi b hb (hN _ (Q0a (h.mv i hi) hb).2 hn)⟩
section
variable {w:World} {g:Nat} {N:Nat->Prop} {m:AM} {S:RASl}
theorem Q1a.cell (h:Q1a w g N m S) (j:Nat) (hj:j<23):w.cell? ⟨g,j,none⟩=some (raF m S j):=(h.cells.cell j).trans (Q3q m S j hj)
theorem Q1a.cFirst (h:Q1a w g N m S):w.cell? ⟨g,0,none⟩=some (.slice S.fA m.chunks.length S.fC):=h.cell 0 (by omega)
theorem Q1a.cMoves (h:Q1a w g N m S) (i:Nat) (hi:i<2):w.cell? ⟨g,1+i,none⟩=some (.slice (S.mA i) (Q1o m i).length (S.mC i)):=by
 rw [h.cell _ (by omega)];unfold raF;rw [if_neg (by omega),if_pos (by omega),show 1+i - 1=i by omega]
theorem Q1a.cStamp (h:Q1a w g N m S) (i:Nat) (hi:i<4):w.cell? ⟨g,3+i,none⟩=some (.int .i64 ((Q0u m i).1:Int)):=by
 rw [h.cell _ (by omega)];unfold raF;rw [if_neg (by omega),if_neg (by omega),if_pos (by omega),show 3+i - 3=i by omega]
theorem Q6s (m:AM) (S:RASl) (i j:Nat) (hi:i<4) (hj:j<4):(Q1G m S)[7+i*4+j]?=(raN (Q0u m i).2 (S.lA i) (S.lC i))[j]?:=by
 rw [Q3q m S _ (by omega)];unfold raF;rw [if_neg (by omega),if_neg (by omega),if_neg (by omega),show (7+i*4+j - 7) / 4=i by omega,show (7+i*4+j - 7) % 4=j by omega];have hs:(raN (Q0u m i).2 (S.lA i) (S.lC i)).size=4:=rfl;rw [Array.getElem?_eq_getElem (by omega)];rfl
theorem Q1a.crew (h:Q1a w g N m S) {i:Nat} {s:Srv} (hs:m.chunks[i]?=some s):∃ gf cur,S.fA=some ⟨gf,0,none⟩/\Blk w gf 77 cur/\∀ j,j<2->cur[i*2+j]?=(crC (S.f:Int) (S.nA i) s.first.length (S.nC i))[j]?:=by
 have hil:i<m.chunks.length:=(List.getElem?_eq_some_iff.1 hs).1;have hr:=h.row;rcases hr.2 with⟨e,h0⟩ | ⟨gf,cap,cur,e,_,hh,q1,q2,q3,q4⟩
 ·omega
 ·injection e with e1 _ _
  refine⟨gf,cur,e1,hh,fun j hj=>?_⟩;have hm:(m.chunks.map (·.first))[i]?=some s.first:=by rw [List.getElem?_map,hs]; rfl
  have hg:=Q2R S.f S.nA S.nC (m.chunks.map (·.first)) 0 i s.first hm;rw [Nat.zero_add] at hg;have ht:∀ q,q<m.chunks.length*2->cur[q]?=(Q1C S.f S.nA S.nC 0 (m.chunks.map (·.first)))[q]?:=fun q hq=>by
   rw [<- q4,List.getElem?_take,if_pos hq,Array.getElem?_toList]
  obtain rfl | rfl:j=0\/j=1:=by omega
  ·rw [Nat.add_zero,ht _ (by omega),hg.1]; rfl
  ·rw [ht _ (by omega),hg.2]; rfl
theorem Q9V {A:Option Addr} {n c:Nat} {ms:List (Int×Int)} {k:Nat} {o z:Int} (h:w.ownsRow 0 168 2 (.slice A n c) n (Q0F ms)) (hk:ms[k]?=some (o,z)):∃ gm cur,A=some ⟨gm,0,none⟩/\Blk w gm 168 cur/\cur[k*2]?=some (.int .i64 o)/\cur[k*2+1]?=some (.int .i64 z):=by
 obtain⟨hkl,hke⟩:=List.getElem?_eq_some_iff.1 hk;have hl:=h.1;rw [Q3R] at hl;rcases h.2 with⟨e,h0⟩ | ⟨gm,cap,cur,e,_,hh,q1,q2,q3,q4⟩
 ·omega
 ·injection e with e _ _
  have hget:=Q2T ms k hkl;rw [hke] at hget;have ht:∀ q,q<n*2->cur[q]?=(Q0F ms)[q]?:=fun q hq=>by
   rw [<- q4,List.getElem?_take,if_pos hq,Array.getElem?_toList]
  exact⟨gm,cur,e,hh,by rw [ht _ (by omega),hget.1]; rfl,by rw [ht _ (by omega),hget.2]; rfl⟩
end
def RW (m:AM) (S:RASl) (g b:Nat):Prop:=b=g\/∃ i,i<2/\(Value.slice (S.mA i) (Q1o m i).length (S.mC i)).ownBlock=some b
structure Q5m (m:AM) (S:RASl) (g:Nat):Prop where
 first:∀ i s,m.chunks[i]?=some s->∀ a,0<s.first.length->S.nA i=some a->¬ RW m S g a.block
 nodes:∀ i,i<4->∀ a,0<(Q0u m i).2.nodes.length->S.lA i=some a->¬ RW m S g a.block
def RAWr (w:World) (g:Nat) (N:Nat->Prop) (m:AM):Prop:=∃ S,Q1a w g N m S/\Q5m m S g
theorem RAWr.only {w w':World} {g:Nat} {N M:Nat->Prop} {m:AM} (h:RAWr w g N m) (ho:Only M w w') (hM:∀ b,M b->N b):RAWr w' g N m:=h.imp fun S hS=>⟨hS.1.only ho hM,hS.2⟩
theorem RAWr.below {w w':World} {g:Nat} {N:Nat->Prop} {m:AM} (h:RAWr w g N m) (hb:Below w.heap.size w w'):RAWr w' g N m:=h.imp fun S hS=>⟨hS.1.below hb,hS.2⟩
theorem RAWr.mono {w:World} {g:Nat} {N N':Nat->Prop} {m:AM} (h:RAWr w g N m) (hN:∀ b,b<w.heap.size->N' b->N b):RAWr w g N' m:=h.imp fun S hS=>⟨hS.1.mono hN,hS.2⟩
end
end Go.Proofs.YtcpngeiahgoacaaGreat
