/- Parts of the proof, in one text: RaV, RaD. -/
import Derived.Test.YtcpngeiahgoacaaGreatD25
import Derived.Test.YtcpngeiahgoacaaGreatD18
import Derived.Test.YtcpngeiahgoacaaGreatD9
import Derived.Test.YtcpngeiahgoacaaGreatD12
namespace Go.Proofs.YtcpngeiahgoacaaGreat
set_option linter.unusedVariables false
set_option linter.unusedSimpArgs false
set_option maxRecDepth 100000
set_option maxHeartbeats 16000000
section
open Go.RowKit Go.Maps
attribute [local irreducible] wpList Q0i
def Q7A (w:World) (g:Nat) (N:Nat->Prop) (m:AM) (p:Ans×Bool) (e:Ending) (w':World):Prop:=∃ A c,e=.returned (.tuple #[.agg (anC (p.1.err:Int) none 0 0 (p.1.epoch:Int) A p.1.nodes.length c),.bool p.2])/\OwnN w' w.heap.size (.slice A p.1.nodes.length c) p.1.nodes/\RAWr w' g N m/\Only (fun b=>¬ N b) w w'
theorem Qa3 (w:World) (g:Nat) (N:Nat->Prop) (m:AM) (x:Wish) (A:Option Addr) (n c:Nat) (A':Option Addr) (n' c':Nat) (B:Nat) (h:RAWr w g N m) (hN:∀ b,N b->b<w.heap.size) (hx:Q0Y w B x A n c A' n' c') (hB:B<=w.heap.size) :
 Calls Tryz.prog 40 #[.pointer (some ⟨g,0,none⟩),.agg (Q05 x A n c A' n' c')] w (Q7A w g N m (Q1y m x)):=by
 obtain⟨S,hd,hp⟩:=h;have hX:Below w.heap.size w ((w.alloc (.cells (Q05 x A n c A' n' c') 44)).alloc (.cells (anC 0 none 0 0 0 none 0 0) 47)):=((Below.refl _ _).alloc (Nat.le_refl _) _).alloc (by simp) _;have k3:Blk ((w.alloc (.cells (Q05 x A n c A' n' c') 44)).alloc (.cells (anC 0 none 0 0 0 none 0 0) 47)) w.heap.size 44 (Q05 x A n c A' n' c'):=(Blk.newAt rfl).alloc _;have k4:Blk ((w.alloc (.cells (Q05 x A n c A' n' c') 44)).alloc (.cells (anC 0 none 0 0 0 none 0 0) 47)) (w.heap.size+1) 47 (anC 0 none 0 0 0 none 0 0):=Blk.newAt (by simp);have hz1:((w.alloc (.cells (Q05 x A n c A' n' c') 44)).alloc (.cells (anC 0 none 0 0 0 none 0 0) 47)).heap.size=w.heap.size+2:=by simp
 obtain⟨N',hN'⟩:∃ N':Nat->Prop,N'=fun b=>N b\/b=w.heap.size\/b=w.heap.size+1:=⟨_,rfl⟩
 have HD:=Lib.hid (show ∀ (W:World),Below w.heap.size w W->Q1a W g N' m S from fun W hb=>(hd.mono (fun b hb hn=>by
  rw [hN'] at hn;rcases hn with hn | hn | hn
  ·exact hn
  ·omega
  ·omega)).below hb)
 have HNN:=Lib.hid (show ∀ b,N b->N' b from fun b hb=>by rw [hN']; exact .inl hb);have HNL:=Lib.hid (show ∀ (W:World),w.heap.size+2<=W.heap.size->∀ b,N' b->b<W.heap.size from fun W hW b hb=>by
  rw [hN'] at hb;rcases hb with hb | hb | hb
  ·have:=hN b hb; omega
  ·omega
  ·omega)
 have HNG:=Lib.hid (show N' (w.heap.size+1) by rw [hN']; exact .inr (.inr rfl));have HNO:=Lib.hid (show ∀ b,N b->b<w.heap.size from hN);have HX:=Lib.hid hX;have K3:=Lib.hid k3;have K4:=Lib.hid k4;have HZ1:=Lib.hid hz1;have HCK':=Lib.hid (fun(W:World) (hb:Below w.heap.size w W)=>Q5L x A n c A' n' c' W B (hx.below (hb.mono hB)) (by have:=hb.size; omega));have HQE:=Lib.hid (show inQ x=(mayB x && decide (x.kind=3\/x.kind=4)) from rfl);have HDOX:=Lib.hid (fun(W:World) (hW:w.heap.size+2<=W.heap.size) (hb:Below w.heap.size w W)=>Qba W g N' m x A n c A' n' c' B ⟨S,HD.out W hb,hp⟩ (HNL.out W hW) (hx.below (hb.mono hB)) (by omega));obtain⟨P,hP⟩:∃ P,P=Q7A w g N m (Q1y m x):=⟨_,rfl⟩;rw [<- hP];have HPB:=Lib.hid (show ∀ w',Q1y m x=(okA,false)->Below w.heap.size w w'->P (.returned (.tuple #[.agg (anC 0 none 0 0 0 none 0 0),.bool false])) w' from fun w' hq hb=>by
  rw [hP,hq];exact⟨none,0,rfl,OwnN.nil_ _ _,⟨S,hd.below hb,hp⟩,Only.of_below hb⟩)
 have HPG:=Lib.hid (show ∀ w' A c (a:Ans),Q1y m x=(a,true)->OwnN w' w.heap.size (.slice A a.nodes.length c) a.nodes->RAWr w' g N m->Only (fun b=>¬ N b) w w'->P (.returned (.tuple #[.agg (anC (a.err:Int) none 0 0 (a.epoch:Int) A a.nodes.length c),.bool true])) w' from fun w' A c a hq ho hr hon=>by
  rw [hP,hq];exact⟨A,c,rfl,ho,hr,hon⟩)
 obtain⟨g3,hg3⟩:∃ b,b=w.heap.size:=⟨_,rfl⟩;obtain⟨g4,hg4⟩:∃ b,b=w.heap.size+1:=⟨_,rfl⟩;have hgl:=hd.cells.lt;obtain⟨W0,hW0⟩:∃ W0,W0=Q05 x A n c A' n' c':=⟨_,rfl⟩;have hws:W0.size=10:=by rw [hW0]; simp [Q05]
 have hw4:W0[4]?=some (.int .i64 x.kind):=by rw [hW0]; rfl
 have hw0:W0[0]?=some (.int .i64 x.client):=by rw [hW0]; rfl
 have hw1':W0[1]?=some (.int .i64 x.stamp):=by rw [hW0]; rfl
 rw [<- hW0] at HX K3 K4 HZ1 HCK' HDOX ⊢;have HWS:=Lib.hid hws;clear hN hN' hd hp hX k3 k4 hz1 hP hx hW0;go_enter Tryz.func40,Tryz.ntmps40
 go_upto_region 1 with fail
 rw [<- anZ];generalize World.alloc (World.alloc w _) _=w1 at HX K3 K4 HZ1 ⊢;rw [<- hg4] at K4 HNG ⊢;rw [<- hg3] at K3 ⊢;have hz1:=HZ1.out;have hgw3:w.heap.size<=g3:=by omega
 have hgw4:w.heap.size<=g4:=by omega
 have hgg4:g≠g4:=by omega
 have hw1:w.heap.size<=w1.heap.size:=by omega
 have hw12:w.heap.size+2<=w1.heap.size:=by omega
 have hl3:=K3.out.lt;have hl4:=K4.out.lt;have C0:=Lib.hid (fun(W:World) (hb:Below w1.heap.size w1 W)=>((K3.out.below' hb).cell 0).trans hw0);have C1:=Lib.hid (fun(W:World) (hb:Below w1.heap.size w1 W)=>((K3.out.below' hb).cell 1).trans hw1');have C4:=Lib.hid (fun(W:World) (hb:Below w1.heap.size w1 W)=>((K3.out.below' hb).cell 4).trans hw4);have HCK2:=Lib.hid (fun(W:World) (hb:Below w1.heap.size w1 W)=>HCK'.out W (HX.out.trans (hb.mono hw1)));clear hg3 hg4 HZ1 hz1 HCK';have HSHUT:=Lib.hid (show ∀ (W:World) (_:Below w1.heap.size w1 W),Q1y m x=(okA,false)->Blk W g4 47 (anC 0 none 0 0 0 none 0 0) from fun W hb _=>K4.out.below' hb);by_cases hmb:mayB x=true
 ·have hck:∀ (W:World),Below w1.heap.size w1 W->Calls Tryz.prog 69 #[.agg W0] W fun e w'=>e=.returned (.int .i64 0)/\Below W.heap.size W w':=fun W hb=>by
   have:=HCK2.out W hb;rw [if_pos hmb] at this;exact this
  have HCK:=Lib.hid hck;by_cases hkd:x.kind=3\/x.kind=4
  ·have hq:inQ x=true:=by rw [HQE.out,hmb,decide_eq_true hkd]; rfl
   have HQ:=Lib.hid hq;obtain⟨cl1,cl2,st1,_⟩:=Q2L hq;obtain⟨j,hj⟩:∃ j,j=(x.client - 31).toNat:=⟨_,rfl⟩;have hjc:x.client - 31=(j:Int):=by omega
   have hj4:j<4:=by omega
   have HJ:=Lib.hid hj;have HJ4:=Lib.hid (show (j:Int)<4 by omega);have HCJ:=Lib.hid hjc;have HWJ:=Lib.hid (show IntKind.i64.wrap (j:Int)=(j:Int) from IntWalk.i64_in _ (by omega));obtain⟨st,hst⟩:∃ k,k=(Q0u m j).1:=⟨_,rfl⟩;have CT:=Lib.hid (show ∀ (W:World),Below w1.heap.size w1 W->W.cell? ⟨g,3+j,none⟩=some (.int .i64 (st:Int)) from fun W hb=>by
    rw [hst];exact(HD.out W (HX.out.trans (hb.mono hw1))).cStamp j hj4)
   obtain⟨bq,hbq⟩:∃ b,b=decide ((st:Int)<x.stamp):=⟨_,rfl⟩;have HBQ:=Lib.hid (show decide ((st:Int)<x.stamp)=bq from hbq.symm);have HHE:=Lib.hid (show Q1y m x=oldQ m x from by unfold Q1y; rw [if_pos hq]);have HHN:=Lib.hid (show bq=true->Q1y m x=(okA,false) from fun e=>by
    rw [HHE.out];rw [hbq] at e;have e':=of_decide_eq_true e;show (if x.stamp<((Q0u m (x.client - 31).toNat).1:Int) then(errA 172 0,true) else if ((Q0u m (x.client - 31).toNat).1:Int)<x.stamp then(okA,false) else((Q0u m (x.client - 31).toNat).2,true))=_;rw [<- HJ.out,<- hst,if_neg (by omega),if_pos e'])
   have HHO:=Lib.hid (show bq=false->Q1y m x=((doQ m x).2.1,true)/\(doQ m x).1=m from fun e=>by
    rw [hbq] at e;have e':=of_decide_eq_false e;have hdid:didQ m x=m:=by unfold didQ; rw [if_neg (by rw [<- HJ.out,<- hst]; exact e')]
    have h2:doQ m x=(m,(oldQ m x).1,0):=by unfold doQ; rw [if_pos hq,hdid]
    rw [h2,HHE.out];refine⟨?_,rfl⟩;show (if x.stamp<((Q0u m (x.client - 31).toNat).1:Int) then(errA 172 0,true) else if ((Q0u m (x.client - 31).toNat).1:Int)<x.stamp then(okA,false) else((Q0u m (x.client - 31).toNat).2,true))=((if x.stamp<((Q0u m (x.client - 31).toNat).1:Int) then(errA 172 0,true) else if ((Q0u m (x.client - 31).toNat).1:Int)<x.stamp then(okA,false) else((Q0u m (x.client - 31).toNat).2,true)).1,true);rw [<- HJ.out,<- hst];by_cases h1:x.stamp<(st:Int)
    ·rw [if_pos h1]
    ·rw [if_neg h1,if_neg e'])
   go_cut [33] (fun s33 wx=>s33=.bool bq/\Below w1.heap.size w1 wx)
   case first =>
    clear hbq hst hj hjc hck hmb hq;by_cases hk3:x.kind=3
    ·have HK3:=Lib.hid (show (x.kind != 3)=false by simp [hk3]);clear hk3 hkd;refine Q0l 25 42 (fun jx W v=>match jx with | 0=>v=.agg W0 | 1=>v=.int .i64 0 | 2=>v=.bool false | 3=>v=.bool false | 4=>v=.pointer (some ⟨g3,4,none⟩) | 5=>v=.int .i64 x.kind | 6=>v=.bool false | 7=>v=.bool false | 8=>v=undef | 9=>v=undef | 10=>v=undef | 11=>v=.bool false | 12=>v=.bool false | 13=>v=.bool false | 14=>v=.pointer (some ⟨g3,1,none⟩) | 15=>v=.int .i64 x.stamp | 16=>v=.pointer (some ⟨g,0,none⟩) | 17=>v=.pointer (some ⟨g3,0,none⟩) | 18=>v=.int .i64 x.client | 19=>v=.int .i64 (j:Int) | 20=>v=.pointer (some ⟨g,0,none⟩) | 21=>v=.pointer (some ⟨g,3,none⟩) | 22=>v=.pointer (some ⟨g,3+j,none⟩) | 23=>v=.int .i64 (st:Int) | 24=>v=.bool bq | _=>True) [8,9,10,11,12,13,14,15,16,17,18,19,20,21,22,23,24,25,26,27,28,29,30,31,32] (by kernel_rfl) (by kernel_rfl) (by kernel_rfl) (by first | rfl | simp) (by kernel_rfl) (fun jx=>?last) ?heads ?_
     case last =>
      match jx with
      | 0 | 1 | 2 | 3 | 4 | 5 | 6 | 7 | 8 | 9 | 10 | 11 | 12 | 13 | 14 | 15 | 16 | 17 | 18 | 19 | 20 | 21 | 22 | 23 | 24 | jx+25=>exact Q16.pure _
     case heads =>
      simp only [List.take_succ_cons,List.take_zero];refine⟨?_,?_,?_,?_,?_,?_,?_,?_,?_,?_,?_,?_,?_,?_,?_,?_,?_,?_,?_,?_,?_,?_,?_,?_,?_,trivial⟩;all_goals intro a W hb hkp hd
      ·have e0:a.eval (.tmp 3)=.pointer (some ⟨g3,0,none⟩):=by have:=hkp.at_ (d:=3) (by kernel_rfl); rw [this]; rfl
       exact Q00 rfl (.agg W0) (Q0m 44 (.tmp 3) rfl g3 0 10 e0 44 _ W0 _ (K3.out.below' hb) Tryz.underlying44 rfl rfl HWS.out (fun _ _=>by rw [Nat.zero_add])) rfl
      ·have e0:(_:Value)=.agg W0:=(hd 0 (by kernel_rfl)).get 8 rfl rfl;have e0:(_:Value)=.agg W0:=(hd 0 (by kernel_rfl)).get 8 rfl rfl;exact Q0w rfl 69 #[.agg W0] (by go_simp) ((HCK.out W hb).mono fun e w h=>⟨_,h.1,h.2,rfl⟩)
      ·have e0:(_:Value)=.int .i64 0:=(hd 1 (by kernel_rfl)).get 9 rfl rfl;exact Q00 rfl _ (by go_simp) rfl
      ·have e0:(_:Value)=.bool false:=(hd 2 (by kernel_rfl)).get 10 rfl rfl;exact Q00 rfl _ (by go_simp) rfl
      ·have eg:(_:Value)=.bool false:=(hd 3 (by kernel_rfl)).get 11 rfl rfl;have e0:a.tmps[3]?.getD undef=.pointer (some ⟨g3,0,none⟩):=hkp.get (by kernel_rfl) rfl;exact Q00 (Q04 rfl rfl eg) _ (by go_simp) rfl
      ·have eg:(_:Value)=.bool false:=(hd 3 (by kernel_rfl)).get 11 rfl rfl;have e0:(_:Value)=.pointer (some ⟨g3,4,none⟩):=(hd 4 (by kernel_rfl)).get 12 rfl rfl;have cc:=C4.out W hb;exact Q00 (Q04 rfl rfl eg) _ (by go_simp) rfl
      ·have eg:(_:Value)=.bool false:=(hd 3 (by kernel_rfl)).get 11 rfl rfl;have e0:(_:Value)=.int .i64 x.kind:=(hd 5 (by kernel_rfl)).get 13 rfl rfl;have hk:=HK3.out;exact Q00 (Q04 rfl rfl eg) _ (by go_simp) rfl
      ·have eg:(_:Value)=.bool false:=(hd 3 (by kernel_rfl)).get 11 rfl rfl;have e0:(_:Value)=.bool false:=(hd 6 (by kernel_rfl)).get 14 rfl rfl;exact Q00 (Q04 rfl rfl eg) _ (by go_simp) rfl
      iterate 3 ·have eg:(_:Value)=.bool false:=(hd 7 (by kernel_rfl)).get 15 rfl rfl;exact Q1F (Q0Z rfl rfl eg rfl) rfl
      ·have eg:(_:Value)=.bool false:=(hd 3 (by kernel_rfl)).get 11 rfl rfl;have e0:(_:Value)=.bool false:=(hd 7 (by kernel_rfl)).get 15 rfl rfl;have e1:(_:Value)=undef:=(hd 10 (by kernel_rfl)).get 18 rfl rfl;exact Q00 (Q04 rfl rfl eg) _ (by go_simp) rfl
      ·have e0:(_:Value)=.bool false:=(hd 3 (by kernel_rfl)).get 11 rfl rfl;have e1:(_:Value)=.bool false:=(hd 11 (by kernel_rfl)).get 19 rfl rfl;exact Q00 rfl _ (by go_simp) rfl
      ·have e0:(_:Value)=.bool false:=(hd 12 (by kernel_rfl)).get 20 rfl rfl;exact Q00 rfl _ (by go_simp) rfl
      ·have eg:(_:Value)=.bool false:=(hd 13 (by kernel_rfl)).get 21 rfl rfl;have e0:a.tmps[3]?.getD undef=.pointer (some ⟨g3,0,none⟩):=hkp.get (by kernel_rfl) rfl;exact Q00 (Q04 rfl rfl eg) _ (by go_simp) rfl
      ·have eg:(_:Value)=.bool false:=(hd 13 (by kernel_rfl)).get 21 rfl rfl;have e0:(_:Value)=.pointer (some ⟨g3,1,none⟩):=(hd 14 (by kernel_rfl)).get 22 rfl rfl;have cc:=C1.out W hb;exact Q00 (Q04 rfl rfl eg) _ (by go_simp) rfl
      ·have eg:(_:Value)=.bool false:=(hd 13 (by kernel_rfl)).get 21 rfl rfl;have e0:a.tmps[0]?.getD undef=.pointer (some ⟨g,0,none⟩):=hkp.get (by kernel_rfl) rfl;exact Q00 (Q04 rfl rfl eg) _ (by go_simp) rfl
      ·have eg:(_:Value)=.bool false:=(hd 13 (by kernel_rfl)).get 21 rfl rfl;have e0:a.tmps[3]?.getD undef=.pointer (some ⟨g3,0,none⟩):=hkp.get (by kernel_rfl) rfl;exact Q00 (Q04 rfl rfl eg) _ (by go_simp) rfl
      ·have eg:(_:Value)=.bool false:=(hd 13 (by kernel_rfl)).get 21 rfl rfl;have e0:(_:Value)=.pointer (some ⟨g3,0,none⟩):=(hd 17 (by kernel_rfl)).get 25 rfl rfl;have cc:=C0.out W hb;exact Q00 (Q04 rfl rfl eg) _ (by go_simp) rfl
      ·have eg:(_:Value)=.bool false:=(hd 13 (by kernel_rfl)).get 21 rfl rfl;have e0:(_:Value)=.int .i64 x.client:=(hd 18 (by kernel_rfl)).get 26 rfl rfl;have hw:=HCJ.out;have hwj:=HWJ.out;exact Q00 (Q04 rfl rfl eg) _ (by go_simp) rfl
      ·have eg:(_:Value)=.bool false:=(hd 13 (by kernel_rfl)).get 21 rfl rfl;have e0:(_:Value)=.pointer (some ⟨g,0,none⟩):=(hd 16 (by kernel_rfl)).get 24 rfl rfl;exact Q00 (Q04 rfl rfl eg) _ (by go_simp) rfl
      ·have eg:(_:Value)=.bool false:=(hd 13 (by kernel_rfl)).get 21 rfl rfl;have e0:(_:Value)=.pointer (some ⟨g,0,none⟩):=(hd 20 (by kernel_rfl)).get 28 rfl rfl;exact Q00 (Q04 rfl rfl eg) _ (by go_simp) rfl
      ·have eg:(_:Value)=.bool false:=(hd 13 (by kernel_rfl)).get 21 rfl rfl;have e0:(_:Value)=.pointer (some ⟨g,3,none⟩):=(hd 21 (by kernel_rfl)).get 29 rfl rfl;have e1:(_:Value)=.int .i64 (j:Int):=(hd 19 (by kernel_rfl)).get 27 rfl rfl;have hlt:=HJ4.out;exact Q00 (Q04 rfl rfl eg) _ (by go_simp) rfl
      ·have eg:(_:Value)=.bool false:=(hd 13 (by kernel_rfl)).get 21 rfl rfl;have e0:(_:Value)=.pointer (some ⟨g,3+j,none⟩):=(hd 22 (by kernel_rfl)).get 30 rfl rfl;have cc:=CT.out W hb;exact Q00 (Q04 rfl rfl eg) _ (by go_simp) rfl
      ·have eg:(_:Value)=.bool false:=(hd 13 (by kernel_rfl)).get 21 rfl rfl;have e0:(_:Value)=.int .i64 x.stamp:=(hd 15 (by kernel_rfl)).get 23 rfl rfl;have e1:(_:Value)=.int .i64 (st:Int):=(hd 23 (by kernel_rfl)).get 31 rfl rfl;have hz:=HBQ.out;exact Q00 (Q04 rfl rfl eg) _ (by go_simp) rfl
     intro f7 W hbW hd7;have f21:f7 21=.bool false:=hd7 13 (by omega) _ 21 rfl rfl;have f32:f7 32=.bool bq:=hd7 24 (by omega) _ 32 rfl rfl;have HBW:=Lib.hid hbW;clear hd7 hbW;simp only [Q0H,List.drop_succ_cons,List.drop_zero,f21,f32];try simp only [Act.put,sA1,sA2,sA3]
     go_wp2_with fail
     go_meet
     exact⟨rfl,HBW.out⟩
    ·have HK3:=Lib.hid (show (x.kind != 3)=true by simpa using hk3);have HK4:=Lib.hid (show (x.kind != 4)=false by rcases hkd with e | e; exact absurd e hk3; simp [e]);clear hk3 hkd;refine Q0l 25 42 (fun jx W v=>match jx with | 0=>v=.agg W0 | 1=>v=.int .i64 0 | 2=>v=.bool false | 3=>v=.bool false | 4=>v=.pointer (some ⟨g3,4,none⟩) | 5=>v=.int .i64 x.kind | 6=>v=.bool true | 7=>v=.bool true | 8=>v=.pointer (some ⟨g3,4,none⟩) | 9=>v=.int .i64 x.kind | 10=>v=.bool false | 11=>v=.bool false | 12=>v=.bool false | 13=>v=.bool false | 14=>v=.pointer (some ⟨g3,1,none⟩) | 15=>v=.int .i64 x.stamp | 16=>v=.pointer (some ⟨g,0,none⟩) | 17=>v=.pointer (some ⟨g3,0,none⟩) | 18=>v=.int .i64 x.client | 19=>v=.int .i64 (j:Int) | 20=>v=.pointer (some ⟨g,0,none⟩) | 21=>v=.pointer (some ⟨g,3,none⟩) | 22=>v=.pointer (some ⟨g,3+j,none⟩) | 23=>v=.int .i64 (st:Int) | 24=>v=.bool bq | _=>True) [8,9,10,11,12,13,14,15,16,17,18,19,20,21,22,23,24,25,26,27,28,29,30,31,32] (by kernel_rfl) (by kernel_rfl) (by kernel_rfl) (by first | rfl | simp) (by kernel_rfl) (fun jx=>?last) ?heads ?_
     case last =>
      match jx with
      | 0 | 1 | 2 | 3 | 4 | 5 | 6 | 7 | 8 | 9 | 10 | 11 | 12 | 13 | 14 | 15 | 16 | 17 | 18 | 19 | 20 | 21 | 22 | 23 | 24 | jx+25=>exact Q16.pure _
     case heads =>
      simp only [List.take_succ_cons,List.take_zero];refine⟨?_,?_,?_,?_,?_,?_,?_,?_,?_,?_,?_,?_,?_,?_,?_,?_,?_,?_,?_,?_,?_,?_,?_,?_,?_,trivial⟩;all_goals intro a W hb hkp hd
      ·have e0:a.eval (.tmp 3)=.pointer (some ⟨g3,0,none⟩):=by have:=hkp.at_ (d:=3) (by kernel_rfl); rw [this]; rfl
       exact Q00 rfl (.agg W0) (Q0m 44 (.tmp 3) rfl g3 0 10 e0 44 _ W0 _ (K3.out.below' hb) Tryz.underlying44 rfl rfl HWS.out (fun _ _=>by rw [Nat.zero_add])) rfl
      ·have e0:(_:Value)=.agg W0:=(hd 0 (by kernel_rfl)).get 8 rfl rfl;have e0:(_:Value)=.agg W0:=(hd 0 (by kernel_rfl)).get 8 rfl rfl;exact Q0w rfl 69 #[.agg W0] (by go_simp) ((HCK.out W hb).mono fun e w h=>⟨_,h.1,h.2,rfl⟩)
      ·have e0:(_:Value)=.int .i64 0:=(hd 1 (by kernel_rfl)).get 9 rfl rfl;exact Q00 rfl _ (by go_simp) rfl
      ·have e0:(_:Value)=.bool false:=(hd 2 (by kernel_rfl)).get 10 rfl rfl;exact Q00 rfl _ (by go_simp) rfl
      ·have eg:(_:Value)=.bool false:=(hd 3 (by kernel_rfl)).get 11 rfl rfl;have e0:a.tmps[3]?.getD undef=.pointer (some ⟨g3,0,none⟩):=hkp.get (by kernel_rfl) rfl;exact Q00 (Q04 rfl rfl eg) _ (by go_simp) rfl
      ·have eg:(_:Value)=.bool false:=(hd 3 (by kernel_rfl)).get 11 rfl rfl;have e0:(_:Value)=.pointer (some ⟨g3,4,none⟩):=(hd 4 (by kernel_rfl)).get 12 rfl rfl;have cc:=C4.out W hb;exact Q00 (Q04 rfl rfl eg) _ (by go_simp) rfl
      ·have eg:(_:Value)=.bool false:=(hd 3 (by kernel_rfl)).get 11 rfl rfl;have e0:(_:Value)=.int .i64 x.kind:=(hd 5 (by kernel_rfl)).get 13 rfl rfl;have hk:=HK3.out;exact Q00 (Q04 rfl rfl eg) _ (by go_simp) rfl
      ·have eg:(_:Value)=.bool false:=(hd 3 (by kernel_rfl)).get 11 rfl rfl;have e0:(_:Value)=.bool true:=(hd 6 (by kernel_rfl)).get 14 rfl rfl;exact Q00 (Q04 rfl rfl eg) _ (by go_simp) rfl
      ·have eg:(_:Value)=.bool true:=(hd 7 (by kernel_rfl)).get 15 rfl rfl;have e0:a.tmps[3]?.getD undef=.pointer (some ⟨g3,0,none⟩):=hkp.get (by kernel_rfl) rfl;exact Q00 (Q04 rfl rfl eg) _ (by go_simp) rfl
      ·have eg:(_:Value)=.bool true:=(hd 7 (by kernel_rfl)).get 15 rfl rfl;have e0:(_:Value)=.pointer (some ⟨g3,4,none⟩):=(hd 8 (by kernel_rfl)).get 16 rfl rfl;have cc:=C4.out W hb;exact Q00 (Q04 rfl rfl eg) _ (by go_simp) rfl
      ·have eg:(_:Value)=.bool true:=(hd 7 (by kernel_rfl)).get 15 rfl rfl;have e0:(_:Value)=.int .i64 x.kind:=(hd 9 (by kernel_rfl)).get 17 rfl rfl;have hk:=HK4.out;exact Q00 (Q04 rfl rfl eg) _ (by go_simp) rfl
      ·have eg:(_:Value)=.bool false:=(hd 3 (by kernel_rfl)).get 11 rfl rfl;have e0:(_:Value)=.bool true:=(hd 7 (by kernel_rfl)).get 15 rfl rfl;have e1:(_:Value)=.bool false:=(hd 10 (by kernel_rfl)).get 18 rfl rfl;exact Q00 (Q04 rfl rfl eg) _ (by go_simp) rfl
      ·have e0:(_:Value)=.bool false:=(hd 3 (by kernel_rfl)).get 11 rfl rfl;have e1:(_:Value)=.bool false:=(hd 11 (by kernel_rfl)).get 19 rfl rfl;exact Q00 rfl _ (by go_simp) rfl
      ·have e0:(_:Value)=.bool false:=(hd 12 (by kernel_rfl)).get 20 rfl rfl;exact Q00 rfl _ (by go_simp) rfl
      ·have eg:(_:Value)=.bool false:=(hd 13 (by kernel_rfl)).get 21 rfl rfl;have e0:a.tmps[3]?.getD undef=.pointer (some ⟨g3,0,none⟩):=hkp.get (by kernel_rfl) rfl;exact Q00 (Q04 rfl rfl eg) _ (by go_simp) rfl
      ·have eg:(_:Value)=.bool false:=(hd 13 (by kernel_rfl)).get 21 rfl rfl;have e0:(_:Value)=.pointer (some ⟨g3,1,none⟩):=(hd 14 (by kernel_rfl)).get 22 rfl rfl;have cc:=C1.out W hb;exact Q00 (Q04 rfl rfl eg) _ (by go_simp) rfl
      ·have eg:(_:Value)=.bool false:=(hd 13 (by kernel_rfl)).get 21 rfl rfl;have e0:a.tmps[0]?.getD undef=.pointer (some ⟨g,0,none⟩):=hkp.get (by kernel_rfl) rfl;exact Q00 (Q04 rfl rfl eg) _ (by go_simp) rfl
      ·have eg:(_:Value)=.bool false:=(hd 13 (by kernel_rfl)).get 21 rfl rfl;have e0:a.tmps[3]?.getD undef=.pointer (some ⟨g3,0,none⟩):=hkp.get (by kernel_rfl) rfl;exact Q00 (Q04 rfl rfl eg) _ (by go_simp) rfl
      ·have eg:(_:Value)=.bool false:=(hd 13 (by kernel_rfl)).get 21 rfl rfl;have e0:(_:Value)=.pointer (some ⟨g3,0,none⟩):=(hd 17 (by kernel_rfl)).get 25 rfl rfl;have cc:=C0.out W hb;exact Q00 (Q04 rfl rfl eg) _ (by go_simp) rfl
      ·have eg:(_:Value)=.bool false:=(hd 13 (by kernel_rfl)).get 21 rfl rfl;have e0:(_:Value)=.int .i64 x.client:=(hd 18 (by kernel_rfl)).get 26 rfl rfl;have hw:=HCJ.out;have hwj:=HWJ.out;exact Q00 (Q04 rfl rfl eg) _ (by go_simp) rfl
      ·have eg:(_:Value)=.bool false:=(hd 13 (by kernel_rfl)).get 21 rfl rfl;have e0:(_:Value)=.pointer (some ⟨g,0,none⟩):=(hd 16 (by kernel_rfl)).get 24 rfl rfl;exact Q00 (Q04 rfl rfl eg) _ (by go_simp) rfl
      ·have eg:(_:Value)=.bool false:=(hd 13 (by kernel_rfl)).get 21 rfl rfl;have e0:(_:Value)=.pointer (some ⟨g,0,none⟩):=(hd 20 (by kernel_rfl)).get 28 rfl rfl;exact Q00 (Q04 rfl rfl eg) _ (by go_simp) rfl
      ·have eg:(_:Value)=.bool false:=(hd 13 (by kernel_rfl)).get 21 rfl rfl;have e0:(_:Value)=.pointer (some ⟨g,3,none⟩):=(hd 21 (by kernel_rfl)).get 29 rfl rfl;have e1:(_:Value)=.int .i64 (j:Int):=(hd 19 (by kernel_rfl)).get 27 rfl rfl;have hlt:=HJ4.out;exact Q00 (Q04 rfl rfl eg) _ (by go_simp) rfl
      ·have eg:(_:Value)=.bool false:=(hd 13 (by kernel_rfl)).get 21 rfl rfl;have e0:(_:Value)=.pointer (some ⟨g,3+j,none⟩):=(hd 22 (by kernel_rfl)).get 30 rfl rfl;have cc:=CT.out W hb;exact Q00 (Q04 rfl rfl eg) _ (by go_simp) rfl
      ·have eg:(_:Value)=.bool false:=(hd 13 (by kernel_rfl)).get 21 rfl rfl;have e0:(_:Value)=.int .i64 x.stamp:=(hd 15 (by kernel_rfl)).get 23 rfl rfl;have e1:(_:Value)=.int .i64 (st:Int):=(hd 23 (by kernel_rfl)).get 31 rfl rfl;have hz:=HBQ.out;exact Q00 (Q04 rfl rfl eg) _ (by go_simp) rfl
     intro f7 W hbW hd7;have f21:f7 21=.bool false:=hd7 13 (by omega) _ 21 rfl rfl;have f32:f7 32=.bool bq:=hd7 24 (by omega) _ 32 rfl rfl;have HBW:=Lib.hid hbW;clear hd7 hbW;simp only [Q0H,List.drop_succ_cons,List.drop_zero,f21,f32];try simp only [Act.put,sA1,sA2,sA3]
     go_wp2_with fail
     go_meet
     exact⟨rfl,HBW.out⟩
   case rest =>
    obtain⟨rfl,hbc⟩:=hcut;have HBC:=Lib.hid (HX.out.trans (hbc.mono hw1));have K4C:=Lib.hid (K4.out.below' hbc);have K3C:=Lib.hid (K3.out.below' hbc);have hsc:=hbc.size;have hlc4:=K4C.out.lt;clear hbc hbq hst hj hjc hck hmb hq hkd HCK HCK2 C0 C1 C4 CT;cases bq with
    | true =>
     have HHN2:=Lib.hid (HHN.out rfl);go_wp2_with (refine Q01 (o:=⟨none,_,_,_,_,_⟩) rfl 47 (.tmp 4) (.tmp 34) rfl g4 0 (anC 0 none 0 0 0 none 0 0) rfl rfl 47 _ K4C.out (Q0P _ _ _ _ _ _ _ _) (by simp [anC]) (Q0G _ _ _ _ _ _ _ _) ?_; intro w7 hT7 hD7; rw [Q19 _ rfl] at hD7)
     refine bodyPost_ret (Q0b rfl _ _ g4 4 47 _ _ rfl hD7 Tryz.underlying47 rfl rfl rfl) rfl ?_;exact HPB.out w7 HHN2.out (hT7.below HBC.out hgw4)
    | false =>
     obtain⟨hh1,hh2⟩:=HHO.out rfl;have HH1:=Lib.hid hh1;have HDC:=Lib.hid (HDOX.out wc (by omega) HBC.out);unfold QaC at HDC;rw [hh2] at HDC;obtain⟨da,hda⟩:∃ a,a=(doQ m x).2.1:=⟨_,rfl⟩;obtain⟨dn,hdn⟩:∃ a,a=(doQ m x).2.2:=⟨_,rfl⟩;rw [<- hda] at HH1;simp only [<- hda,<- hdn] at HDC;have HNL2:=Lib.hid (HNL.out wc (by omega));clear hh1 hh2 hda hdn HDOX;go_wp2_with (refine Q03 (o:=⟨some 37,_,_,_,_,_⟩) rfl 44 (.tmp 3) rfl g3 0 10 rfl 44 _ W0 _ K3C.out Tryz.underlying44 rfl rfl hws (fun _ _=>by rw [Nat.zero_add]) ?_)
     refine HDC.out.mono ?_;rintro _ w5 ⟨A5,c5,rfl,ho5,hr5,hon5⟩;obtain⟨D,hDe⟩:∃ D,D=anC (da.err:Int) none 0 0 (da.epoch:Int) A5 da.nodes.length c5:=⟨_,rfl⟩;have hDs:D.size=4:=by rw [hDe]; rfl
     have hDo:D.all (·.oneCell')=true:=by rw [hDe]; exact Q0G _ _ _ _ _ _ _ _
     rw [<- hDe];have HDE:=Lib.hid hDe;have HO5:=Lib.hid ho5;have HR5:=Lib.hid hr5;have HON5:=Lib.hid hon5;have K45:=Lib.hid (hon5.blk K4C.out (fun hn=>hn HNG.out));have hs5:=hon5.size;have hl45:=K45.out.lt;clear ho5 hr5 hon5 HDC hDe;go_upto_region 4 with(refine Q01 (o:=⟨none,_,_,_,_,_⟩) rfl 47 (.tmp 6) (.tmp 39) rfl w5.heap.size 0 D rfl rfl 47 (anC 0 none 0 0 0 none 0 0) (Blk.newAt rfl) (by rw [hDs]; kernel_rfl) (by rw [hDs]; simp [anC]) hDo ?_; intro w6 hT6 hD6)
     rw [Q08 _ _ (by rw [hDs]; rfl)] at hD6;have hb6:Below w5.heap.size w5 w6:=hT6.below ((Below.refl _ _).alloc (Nat.le_refl _) _) (Nat.le_refl _);have K46:=Lib.hid (K45.out.below' hb6);have HB6:=Lib.hid hb6;have HD6:=Lib.hid hD6;obtain⟨g6,hg6⟩:∃ b,b=w5.heap.size:=⟨_,rfl⟩;rw [<- hg6] at HD6 ⊢;clear hT6 hD6 hb6 hg6;go_wp2_with (first
      | refine Q03 (o:=⟨some 41,_,_,_,_,_⟩) rfl 47 (.tmp 6) rfl g6 0 4 rfl 47 _ D _ HD6.out Tryz.underlying47 rfl rfl hDs (fun _ _=>by rw [Nat.zero_add]) ?_
      | (refine Q01 (o:=⟨none,_,_,_,_,_⟩) rfl 47 (.tmp 4) (.tmp 41) rfl g4 0 D rfl rfl 47 _ K46.out (by rw [hDs]; kernel_rfl) (by rw [hDs]; simp [anC]) hDo ?_; intro w12 hT12 hD12; rw [Q08 _ _ (by rw [hDs]; rfl)] at hD12))
     refine bodyPost_ret (Q0b rfl _ _ g4 4 47 _ _ rfl hD12 Tryz.underlying47 rfl rfl hDs) rfl ?_;have ho6:=HO5.out.below_ HB6.out;have ho12:OwnN w12 w.heap.size (.slice A5 da.nodes.length c5) da.nodes:=OwnN.more (ho6.keep_ fun b hb'=>hT12.block b fun e=>Q09 ho6 K46.out (by decide) (by rw [hb',e])) HBC.out.size;have hr12:RAWr w12 g N m:=((HR5.out.below HB6.out).only (M:=fun b=>b=g4) (Only.of_turned hT12 rfl) (fun b e=>by rw [e]; exact HNG.out)).mono fun b _ hb=>HNN.out b hb
     rw [HDE.out];exact HPG.out w12 A5 c5 da HH1.out ho12 hr12 ((Only.of_below HBC.out).trans ((HON5.out.mono fun b _ hn hb=>hn (HNN.out b hb)).trans ((Only.of_below HB6.out).trans (Only.of_turned hT12 (fun hn=>by have:=HNO.out g4 hn; omega)))))
  ·have hq:inQ x=false:=by rw [HQE.out,hmb,decide_eq_false hkd]; rfl
   have HHN:=Lib.hid (show Q1y m x=(okA,false) from by unfold Q1y; rw [if_neg (by rw [hq]; simp)]);have HK3:=Lib.hid (show (x.kind != 3)=true by simp; omega);have HK4:=Lib.hid (show (x.kind != 4)=true by simp; omega);clear hck hmb hq hkd;refine Q0l 25 42 (fun jx W v=>match jx with | 0=>v=.agg W0 | 1=>v=.int .i64 0 | 2=>v=.bool false | 3=>v=.bool false | 4=>v=.pointer (some ⟨g3,4,none⟩) | 5=>v=.int .i64 x.kind | 6=>v=.bool true | 7=>v=.bool true | 8=>v=.pointer (some ⟨g3,4,none⟩) | 9=>v=.int .i64 x.kind | 10=>v=.bool true | 11=>v=.bool true | 12=>v=.bool true | 13=>v=.bool true | 14=>v=undef | 15=>v=undef | 16=>v=undef | 17=>v=undef | 18=>v=undef | 19=>v=undef | 20=>v=undef | 21=>v=undef | 22=>v=undef | 23=>v=undef | 24=>v=undef | _=>True) [8,9,10,11,12,13,14,15,16,17,18,19,20,21,22,23,24,25,26,27,28,29,30,31,32] (by kernel_rfl) (by kernel_rfl) (by kernel_rfl) (by first | rfl | simp) (by kernel_rfl) (fun jx=>?last) ?heads ?_
   case last =>
    match jx with
    | 0 | 1 | 2 | 3 | 4 | 5 | 6 | 7 | 8 | 9 | 10 | 11 | 12 | 13 | 14 | 15 | 16 | 17 | 18 | 19 | 20 | 21 | 22 | 23 | 24 | jx+25=>exact Q16.pure _
   case heads =>
    simp only [List.take_succ_cons,List.take_zero];refine⟨?_,?_,?_,?_,?_,?_,?_,?_,?_,?_,?_,?_,?_,?_,?_,?_,?_,?_,?_,?_,?_,?_,?_,?_,?_,trivial⟩;all_goals intro a W hb hkp hd
    ·have e0:a.eval (.tmp 3)=.pointer (some ⟨g3,0,none⟩):=by have:=hkp.at_ (d:=3) (by kernel_rfl); rw [this]; rfl
     exact Q00 rfl (.agg W0) (Q0m 44 (.tmp 3) rfl g3 0 10 e0 44 _ W0 _ (K3.out.below' hb) Tryz.underlying44 rfl rfl HWS.out (fun _ _=>by rw [Nat.zero_add])) rfl
    ·have e0:(_:Value)=.agg W0:=(hd 0 (by kernel_rfl)).get 8 rfl rfl;have e0:(_:Value)=.agg W0:=(hd 0 (by kernel_rfl)).get 8 rfl rfl;exact Q0w rfl 69 #[.agg W0] (by go_simp) ((HCK.out W hb).mono fun e w h=>⟨_,h.1,h.2,rfl⟩)
    ·have e0:(_:Value)=.int .i64 0:=(hd 1 (by kernel_rfl)).get 9 rfl rfl;exact Q00 rfl _ (by go_simp) rfl
    ·have e0:(_:Value)=.bool false:=(hd 2 (by kernel_rfl)).get 10 rfl rfl;exact Q00 rfl _ (by go_simp) rfl
    ·have eg:(_:Value)=.bool false:=(hd 3 (by kernel_rfl)).get 11 rfl rfl;have e0:a.tmps[3]?.getD undef=.pointer (some ⟨g3,0,none⟩):=hkp.get (by kernel_rfl) rfl;exact Q00 (Q04 rfl rfl eg) _ (by go_simp) rfl
    ·have eg:(_:Value)=.bool false:=(hd 3 (by kernel_rfl)).get 11 rfl rfl;have e0:(_:Value)=.pointer (some ⟨g3,4,none⟩):=(hd 4 (by kernel_rfl)).get 12 rfl rfl;have cc:=C4.out W hb;exact Q00 (Q04 rfl rfl eg) _ (by go_simp) rfl
    ·have eg:(_:Value)=.bool false:=(hd 3 (by kernel_rfl)).get 11 rfl rfl;have e0:(_:Value)=.int .i64 x.kind:=(hd 5 (by kernel_rfl)).get 13 rfl rfl;have hk:=HK3.out;exact Q00 (Q04 rfl rfl eg) _ (by go_simp) rfl
    ·have eg:(_:Value)=.bool false:=(hd 3 (by kernel_rfl)).get 11 rfl rfl;have e0:(_:Value)=.bool true:=(hd 6 (by kernel_rfl)).get 14 rfl rfl;exact Q00 (Q04 rfl rfl eg) _ (by go_simp) rfl
    ·have eg:(_:Value)=.bool true:=(hd 7 (by kernel_rfl)).get 15 rfl rfl;have e0:a.tmps[3]?.getD undef=.pointer (some ⟨g3,0,none⟩):=hkp.get (by kernel_rfl) rfl;exact Q00 (Q04 rfl rfl eg) _ (by go_simp) rfl
    ·have eg:(_:Value)=.bool true:=(hd 7 (by kernel_rfl)).get 15 rfl rfl;have e0:(_:Value)=.pointer (some ⟨g3,4,none⟩):=(hd 8 (by kernel_rfl)).get 16 rfl rfl;have cc:=C4.out W hb;exact Q00 (Q04 rfl rfl eg) _ (by go_simp) rfl
    ·have eg:(_:Value)=.bool true:=(hd 7 (by kernel_rfl)).get 15 rfl rfl;have e0:(_:Value)=.int .i64 x.kind:=(hd 9 (by kernel_rfl)).get 17 rfl rfl;have hk:=HK4.out;exact Q00 (Q04 rfl rfl eg) _ (by go_simp) rfl
    ·have eg:(_:Value)=.bool false:=(hd 3 (by kernel_rfl)).get 11 rfl rfl;have e0:(_:Value)=.bool true:=(hd 7 (by kernel_rfl)).get 15 rfl rfl;have e1:(_:Value)=.bool true:=(hd 10 (by kernel_rfl)).get 18 rfl rfl;exact Q00 (Q04 rfl rfl eg) _ (by go_simp) rfl
    ·have e0:(_:Value)=.bool false:=(hd 3 (by kernel_rfl)).get 11 rfl rfl;have e1:(_:Value)=.bool true:=(hd 11 (by kernel_rfl)).get 19 rfl rfl;exact Q00 rfl _ (by go_simp) rfl
    ·have e0:(_:Value)=.bool true:=(hd 12 (by kernel_rfl)).get 20 rfl rfl;exact Q00 rfl _ (by go_simp) rfl
    iterate 11 ·have eg:(_:Value)=.bool true:=(hd 13 (by kernel_rfl)).get 21 rfl rfl;exact Q1F (Q0Z rfl rfl eg rfl) rfl
   intro f7 W hbW hd7;have f21:f7 21=.bool true:=hd7 13 (by omega) _ 21 rfl rfl;have f32:f7 32=undef:=hd7 24 (by omega) _ 32 rfl rfl;have HBC:=Lib.hid (HX.out.trans (hbW.mono hw1));have K4C:=Lib.hid (K4.out.below' hbW);clear hd7 hbW;simp only [Q0H,List.drop_succ_cons,List.drop_zero,f21,f32];try simp only [Act.put,sA1,sA2,sA3]
   go_wp2_with (refine Q01 (o:=⟨none,_,_,_,_,_⟩) rfl 47 (.tmp 4) (.tmp 34) rfl g4 0 (anC 0 none 0 0 0 none 0 0) rfl rfl 47 _ K4C.out (Q0P _ _ _ _ _ _ _ _) (by simp [anC]) (Q0G _ _ _ _ _ _ _ _) ?_; intro w7 hT7 hD7; rw [Q19 _ rfl] at hD7)
   refine bodyPost_ret (Q0b rfl _ _ g4 4 47 _ _ rfl hD7 Tryz.underlying47 rfl rfl rfl) rfl ?_;exact HPB.out w7 HHN.out (hT7.below HBC.out hgw4)
 ·have HCK:=Lib.hid (show ∀ (W:World),Below w1.heap.size w1 W->Calls Tryz.prog 69 #[.agg W0] W fun e w'=>e=.returned (.int .i64 2)/\Below W.heap.size W w' from fun W hb=>by
   have:=HCK2.out W hb;rw [if_neg hmb] at this;exact this)
  have HHN:=Lib.hid (show Q1y m x=(okA,false) from by
   unfold Q1y;rw [if_neg];rw [HQE.out,Bool.and_eq_true];exact fun e=>hmb e.1)
  clear hmb;refine Q0l 25 42 (fun jx W v=>match jx with | 0=>v=.agg W0 | 1=>v=.int .i64 2 | 2=>v=.bool true | 3=>v=.bool true | 4=>v=undef | 5=>v=undef | 6=>v=undef | 7=>v=undef | 8=>v=undef | 9=>v=undef | 10=>v=undef | 11=>v=undef | 12=>v=.bool true | 13=>v=.bool true | 14=>v=undef | 15=>v=undef | 16=>v=undef | 17=>v=undef | 18=>v=undef | 19=>v=undef | 20=>v=undef | 21=>v=undef | 22=>v=undef | 23=>v=undef | 24=>v=undef | _=>True) [8,9,10,11,12,13,14,15,16,17,18,19,20,21,22,23,24,25,26,27,28,29,30,31,32] (by kernel_rfl) (by kernel_rfl) (by kernel_rfl) (by first | rfl | simp) (by kernel_rfl) (fun jx=>?last) ?heads ?_
  case last =>
   match jx with
   | 0 | 1 | 2 | 3 | 4 | 5 | 6 | 7 | 8 | 9 | 10 | 11 | 12 | 13 | 14 | 15 | 16 | 17 | 18 | 19 | 20 | 21 | 22 | 23 | 24 | jx+25=>exact Q16.pure _
  case heads =>
   simp only [List.take_succ_cons,List.take_zero];refine⟨?_,?_,?_,?_,?_,?_,?_,?_,?_,?_,?_,?_,?_,?_,?_,?_,?_,?_,?_,?_,?_,?_,?_,?_,?_,trivial⟩;all_goals intro a W hb hkp hd
   ·have e0:a.eval (.tmp 3)=.pointer (some ⟨g3,0,none⟩):=by have:=hkp.at_ (d:=3) (by kernel_rfl); rw [this]; rfl
    exact Q00 rfl (.agg W0) (Q0m 44 (.tmp 3) rfl g3 0 10 e0 44 _ W0 _ (K3.out.below' hb) Tryz.underlying44 rfl rfl HWS.out (fun _ _=>by rw [Nat.zero_add])) rfl
   ·have e0:(_:Value)=.agg W0:=(hd 0 (by kernel_rfl)).get 8 rfl rfl;have e0:(_:Value)=.agg W0:=(hd 0 (by kernel_rfl)).get 8 rfl rfl;exact Q0w rfl 69 #[.agg W0] (by go_simp) ((HCK.out W hb).mono fun e w h=>⟨_,h.1,h.2,rfl⟩)
   ·have e0:(_:Value)=.int .i64 2:=(hd 1 (by kernel_rfl)).get 9 rfl rfl;exact Q00 rfl _ (by go_simp) rfl
   ·have e0:(_:Value)=.bool true:=(hd 2 (by kernel_rfl)).get 10 rfl rfl;exact Q00 rfl _ (by go_simp) rfl
   iterate 4 ·have eg:(_:Value)=.bool true:=(hd 3 (by kernel_rfl)).get 11 rfl rfl;exact Q1F (Q0Z rfl rfl eg rfl) rfl
   iterate 3 ·have eg:(_:Value)=undef:=(hd 7 (by kernel_rfl)).get 15 rfl rfl;exact Q1F (Q4G rfl rfl eg) rfl
   ·have eg:(_:Value)=.bool true:=(hd 3 (by kernel_rfl)).get 11 rfl rfl;exact Q1F (Q0Z rfl rfl eg rfl) rfl
   ·have e0:(_:Value)=.bool true:=(hd 3 (by kernel_rfl)).get 11 rfl rfl;have e1:(_:Value)=undef:=(hd 11 (by kernel_rfl)).get 19 rfl rfl;exact Q00 rfl _ (by go_simp) rfl
   ·have e0:(_:Value)=.bool true:=(hd 12 (by kernel_rfl)).get 20 rfl rfl;exact Q00 rfl _ (by go_simp) rfl
   iterate 11 ·have eg:(_:Value)=.bool true:=(hd 13 (by kernel_rfl)).get 21 rfl rfl;exact Q1F (Q0Z rfl rfl eg rfl) rfl
  intro f7 W hbW hd7;have f21:f7 21=.bool true:=hd7 13 (by omega) _ 21 rfl rfl;have f32:f7 32=undef:=hd7 24 (by omega) _ 32 rfl rfl;have HBC:=Lib.hid (HX.out.trans (hbW.mono hw1));have K4C:=Lib.hid (K4.out.below' hbW);clear hd7 hbW;simp only [Q0H,List.drop_succ_cons,List.drop_zero,f21,f32];try simp only [Act.put,sA1,sA2,sA3]
  go_wp2_with (refine Q01 (o:=⟨none,_,_,_,_,_⟩) rfl 47 (.tmp 4) (.tmp 34) rfl g4 0 (anC 0 none 0 0 0 none 0 0) rfl rfl 47 _ K4C.out (Q0P _ _ _ _ _ _ _ _) (by simp [anC]) (Q0G _ _ _ _ _ _ _ _) ?_; intro w7 hT7 hD7; rw [Q19 _ rfl] at hD7)
  refine bodyPost_ret (Q0b rfl _ _ g4 4 47 _ _ rfl hD7 Tryz.underlying47 rfl rfl rfl) rfl ?_;exact HPB.out w7 HHN.out (hT7.below HBC.out hgw4)
end
section
open Go.RowKit Go.Maps
attribute [local irreducible] wpList Q0i
theorem Q56 (a b:List Int):Q0M (a++b)=Q0M a++Q0M b:=by unfold Q0M; rw [List.flatMap_append]
theorem Q27:∀ (l:List Int),(∀ z,z∈l->NumI z)->(Q0M l).length<=8*l.length
 | [],_=>by simp [Q0M]
 | z :: t,h=>by
  have h1:=Q27 t fun x hx=>h x (List.mem_cons_of_mem _ hx)
  have h2:=h z (List.mem_cons_self ..);have h3:=(Q2N (n:=z.toNat) (by unfold maxN; unfold NumI at h2; omega)).2;show (numB z.toNat++Q0M t).length<=_;rw [List.length_append,List.length_cons];omega
theorem Q9M {w:World} {g:Nat} {x y:Int} (h:Blk w g 3 #[.int .i64 x,.int .i64 y]):Q0d w w.heap.size 1 (some ⟨g,0,none⟩) 2 ([x,y].map vn) :=
 ⟨rfl,fun _=>⟨_,rfl,h.lt,fun j u hu=>by
  have hj:j<2:=by
   have:=(List.getElem?_eq_some_iff.1 hu).1;simpa using this
  rw [Q13,Nat.zero_add,h.cell j];obtain rfl | rfl:j=0\/j=1:=by omega
  ·exact hu
  ·exact hu⟩⟩
theorem Q3m (A:Option Addr) (n c:Nat) (zs:List Int) (w:World) (B:Nat) (h:Q0d w B 1 A n (zs.map vn)) (hB:B<=w.heap.size) (hn:n<=1000) (hz:∀ z,z∈zs->NumI z) :
 Calls Tryz.prog 139 #[.slice A n c] w fun e w'=>∃ v,e=.returned v/\OwnB w' w.heap.size v (Q0M zs)/\Below w.heap.size w w':=by
 have hzn:zs.length=n:=by have:=h.1; simpa using this
 have H:=Lib.hid (h.more hB);have HZN:=Lib.hid hzn;have HZ:=Lib.hid hz;obtain⟨i0,hi0,hz0,hz1,hz2⟩:=info_parts Q1O;clear h hzn hz hB;go_enter Tryz.func139,Tryz.ntmps139
 go_wp2_with fail
 go_loopw [3,4] (fun ov iv wr=>∃ i:Nat,i<=n/\iv=.int .i64 i/\OwnB wr w.heap.size ov (Q0M (zs.take i))/\Below w.heap.size w wr) (fun _ iv _=>n - (intOf iv).toNat)
 case atStart=>exact⟨0,by omega,rfl,OwnB.nil _ _,Below.refl _ _⟩
 case round =>
  obtain⟨i,hi,rfl,hov,hlow⟩:=hrel;have HOV:=Lib.hid hov;have HL:=Lib.hid hlow;have hls:=hlow.size;by_cases hin:i<n
  ·obtain⟨ad,u,hA,hadb,hxi,hcell⟩:=(H.out.below hlow).at_ hin;subst hA;have hil:i<zs.length:=by have:=HZN.out; omega
   have hu:u=.int .i64 zs[i]:=by
    rw [List.getElem?_map,List.getElem?_eq_getElem hil] at hxi;injection hxi with hxi
    exact hxi.symm
   subst hu;have hsn:=Q80 zs i hil;have hzi:=HZ.out _ (List.getElem_mem hil);have hlen:=Q27 (zs.take i) fun x hx=>HZ.out x (List.mem_of_mem_take hx)
   rw [List.length_take] at hlen;generalize zs[i]=z at hsn hzi hcell;obtain⟨q,hq⟩:∃ q:Nat,q=z.toNat:=⟨_,rfl⟩;have hzq:z=(q:Int):=by unfold NumI at hzi; omega
   subst hzq;have hqm:q<=maxN:=by unfold maxN; unfold NumI at hzi; omega
   rw [Int.toNat_natCast] at hsn;have HSN:=Lib.hid hsn;have HRN:=Lib.hid (Q7I q hqm wr);have hnl:=(Q2N hqm).2;obtain⟨ys,hys⟩:∃ ys,ys=Q0M (zs.take i):=⟨_,rfl⟩;rw [<- hys] at HOV HSN hlen;generalize numB q=x at HSN HRN hnl;have hlen2:ys.length<=8000:=by omega
   have hinI:(i:Int)<(n:Int):=by omega
   clear hxi hov hlow hzi hsn hys hq hqm hlen;go_wp2_with fail
   refine HRN.out.mono ?_;rintro _ w2 ⟨v2,rfl,ho2,hb2⟩;obtain⟨A2,c2,rfl,p1,p2,p3,p4⟩:=Q0p ho2;obtain⟨nx,hnx⟩:∃ k,k=x.length:=⟨_,rfl⟩;rw [<- hnx] at p3 hnl ⊢;have HNX:=Lib.hid hnx;have HP3:=Lib.hid p3;have HO2:=Lib.hid (HOV.out.below hb2);have HB2:=Lib.hid (HL.out.trans (hb2.mono hls));have hs2:=hb2.size;clear ho2 hb2 p1 p2 p3 p4 HRN hnx hcell;go_wp2_with (at_builtin; go_must (refine Q06 _ rfl (.tmp 21) (.tmp 22) 22 rfl w.heap.size 5 i0 _ 1 1 Tryz.underlying22 hi0 hz0 hz1 hz2 rfl (by omega) _ _ _ rfl HO2.out.row w2.heap.size A2 nx c2 (x.map vb) rfl HP3.out ?c1 ?c2 ?c3 ?c4 ?_))
   case c1=>intro u hu; obtain⟨y,_,rfl⟩:=List.mem_map.1 hu; rfl
   case c2=>unfold maxLen; omega
   case c3=>omega
   case c4=>omega
   intro v3 w3 hown3 hg3 hor3;have HB3:=Lib.hid (Q0k HB2.out (by omega) hg3 (fun b hb=>HO2.out.ge hb));have HO3:=Lib.hid (show OwnB w3 w.heap.size v3 (Q0M (zs.take (i+1))) by
    unfold OwnB;rw [HSN.out,List.length_append,List.map_append,<- HNX.out];exact hown3)
   clear hown3 hg3 hor3;go_wp2_with fail
   go_roundw
   case rel=>exact⟨i+1,by omega,by go_num,HO3.out,HB3.out⟩
   case measure=>simp [intOf]; omega
  ·obtain rfl:i=n:=by omega
   have hinI:¬ (i:Int)<(i:Int):=by omega
   clear hov hlow;go_wp2_with fail
   go_ret
   have:=HOV.out;rw [List.take_of_length_le (by have:=HZN.out; omega)] at this;exact⟨_,rfl,this,HL.out⟩
theorem Q6n (w:World) (g i:Nat) (N:Nat->Prop) (m:AM) (S:RASl) (h:Q1a w g N m S) (hi2:i<2) :
 Calls Tryz.prog 138 #[.pointer (some ⟨g,0,none⟩),.int .i64 (i:Int)] w fun e w'=>∃ v,e=.returned v/\OwnB w' w.heap.size v (Q1w m i)/\Below w.heap.size w w':=by
 obtain⟨gf,cur,hfA,hBf,hcf⟩:=h.head;have hc0:=h.cFirst;rw [hfA] at hc0;obtain⟨lf,hlf⟩:∃ l,l=Q1w m i:=⟨_,rfl⟩;rw [<- hlf];obtain⟨n0,hn0⟩:∃ n,n=m.chunks.length:=⟨_,rfl⟩;obtain⟨fC,hfC⟩:∃ f,f=S.fC:=⟨_,rfl⟩;rw [<- hn0,<- hfC] at hc0;by_cases hin:i<n0
 ·have hil:i<m.chunks.length:=by omega
  have hsc:=List.getElem?_eq_getElem hil;have hmem:=List.getElem_mem hil;generalize m.chunks[i]=s at hsc hmem;have hok:=h.ok.srv s hmem;have hsf:=h.same s hmem;have hcm:=h.cMoves i hi2;have hmr:=h.mv i hi2;rw [Q1b hsc] at hcm hmr;have hfar:=h.first i s hsc;have hle:lf=Q0M [(s.moves.length:Int)+1,(s.f:Int)]++Q0M s.first++Q0M (Q1h s.moves):=by
   rw [hlf];unfold Q1w Q5l;rw [if_pos hi2,hsc];simp only;unfold Q31;rw [Q56,<- Q56 [(s.moves.length:Int)+1,(s.f:Int)]]
   simp
  have hcf0:=hcf i s hsc 0 (by omega);have hcf1:=hcf i s hsc 1 (by omega);obtain⟨f,hf⟩:∃ f,f=S.f:=⟨_,rfl⟩;obtain⟨mA,hmA⟩:∃ k,k=S.mA i:=⟨_,rfl⟩;obtain⟨mC,hmC⟩:∃ k,k=S.mC i:=⟨_,rfl⟩;obtain⟨mn,hmn⟩:∃ k,k=s.moves.length:=⟨_,rfl⟩;obtain⟨Af,hAf⟩:∃ A,A=S.nA i:=⟨_,rfl⟩;obtain⟨cf,hcfe⟩:∃ c,c=S.nC i:=⟨_,rfl⟩;obtain⟨nf,hnf⟩:∃ c,c=s.first.length:=⟨_,rfl⟩;rw [<- hAf,<- hcfe] at hfar;have hrd:=hfar.rd;rw [<- hf,<- hAf,<- hcfe,<- hnf] at hcf0 hcf1;rw [<- hnf] at hrd;rw [<- hmA,<- hmC,<- hmn] at hcm hmr;rw [hsf,<- hf,<- hmn] at hle;have hmn21:mn<=21:=by rw [hmn]; exact hok.len
  have hnf7:nf<=7:=by rw [hnf]; exact hok.crew.short.2
  have hf2:f<=2:=by rw [hf,<- hsf]; exact hok.crew.faults
  have HMN:=Lib.hid hmn;have HNF:=Lib.hid hnf;have HLE:=Lib.hid hle;have HFZ:=Lib.hid (show ∀ z,z∈s.first->NumI z from fun z hz=>by have:=hok.crew.bound hz; unfold NumI; omega);have HMZ:=Lib.hid (show ∀ x,x∈s.moves->NumI x.1/\NumI x.2 from fun x hx=>by have:=Q1d.mem_old hok.crew hok.mv x hx; unfold NumI; omega);have HNUM0:=Lib.hid (show ∀ z,z∈[(mn:Int)+1,(f:Int)]->NumI z from fun z hz=>by
   unfold NumI;rcases List.mem_cons.1 hz with rfl | hz
   ·omega
   ·rw [List.mem_singleton.1 hz]; omega)
  have HC0:=Lib.hid (fun(W:World) (hb:Below w.heap.size w W)=>(hb.cell (p:=⟨g,0,none⟩) h.cells.lt).trans hc0);have HCM:=Lib.hid (fun(W:World) (hb:Below w.heap.size w W)=>(hb.cell (p:=⟨g,1+i,none⟩) h.cells.lt).trans hcm);have HCF0:=Lib.hid (fun(W:World) (hb:Below w.heap.size w W)=>(hb.cell (p:=⟨gf,i*2,none⟩) hBf.lt).trans ((hBf.cell (i*2)).trans hcf0):∀ (W:World),Below w.heap.size w W->W.cell? ⟨gf,i*2,none⟩=some (.int .i64 (f:Int)));have HCF1:=Lib.hid (fun(W:World) (hb:Below w.heap.size w W)=>(hb.cell (p:=⟨gf,i*2+1,none⟩) hBf.lt).trans ((hBf.cell (i*2+1)).trans hcf1):∀ (W:World),Below w.heap.size w W->W.cell? ⟨gf,i*2+1,none⟩=some (.slice Af nf cf));have HMR:=Lib.hid (fun(W:World) (hb:Below w.heap.size w W)=>Q0f hmr (fun b hb'=>hb.block b (Q0a hmr hb').2));have HRD:=Lib.hid hrd;have hinI:(i:Int)<(n0:Int):=by omega
  have hgeI:¬ (n0:Int)<=(i:Int):=by omega
  have hi2I:(i:Int)<2:=by omega
  have hwm:IntKind.i64.wrap ((mn:Int)+1)=(mn:Int)+1:=by rw [IntKind.wrap_i64]; omega
  obtain⟨i0,hi0,hz0,hz1,hz2⟩:=info_parts Q1O;clear h hfA hBf hcf hlf hn0 hfC hil hsc hmem hok hsf hcm hmr hfar hle hcf0 hcf1 hf hmA hmC hmn hAf hcfe hnf hrd;go_enter Tryz.func138,Tryz.ntmps138
  go_upto_region 3 with fail
  refine Q0l 18 81 (fun jx W v=>match jx with | 0=>v=.pointer (some ⟨g,0,none⟩) | 1=>v=.int .i64 (i:Int) | 2=>v=.pointer (some ⟨g,0,none⟩) | 3=>v=.pointer (some ⟨g,1,none⟩) | 4=>v=.pointer (some ⟨g,1+i,none⟩) | 5=>v=.slice mA mn mC | 6=>v=.int .i64 (mn:Int) | 7=>v=.int .i64 ((mn:Int)+1) | 8=>v=.pointer (some ⟨g,0,none⟩) | 9=>v=.pointer (some ⟨g,0,none⟩) | 10=>v=.pointer (some ⟨g,0,none⟩) | 11=>v=.slice (some ⟨gf,0,none⟩) n0 fC | 12=>v=.int .i64 (i:Int) | 13=>v=.pointer (some ⟨gf,i*2,none⟩) | 14=>v=.pointer (some ⟨gf,i*2,none⟩) | 15=>v=.int .i64 (f:Int) | 16=>∃ g9,v=.slice (some ⟨g9,0,none⟩) 2 2/\Blk W g9 3 #[.int .i64 ((mn:Int)+1),.int .i64 (f:Int)] | 17=>OwnB W w.heap.size v (Q0M [(mn:Int)+1,(f:Int)]) | _=>True) [16,17,18,19,20,21,22,23,24,25,26,27,28,29,30,31,32,33] (by kernel_rfl) (by kernel_rfl) (by kernel_rfl) (by simp) (by kernel_rfl) (fun jx=>?last) ?heads ?_
  case last =>
   match jx with
   | 0 | 1 | 2 | 3 | 4 | 5 | 6 | 7 | 8 | 9 | 10 | 11 | 12 | 13 | 14 | 15 | jx+18=>exact Q16.pure _
   | 16=>exact fun W W' v ⟨g9,h1,h2⟩ hb=>⟨g9,h1,h2.below' hb⟩
   | 17=>exact fun W W' v h hb=>h.below hb
  case heads =>
   simp only [List.take_succ_cons,List.take_zero];refine⟨?_,?_,?_,?_,?_,?_,?_,?_,?_,?_,?_,?_,?_,?_,?_,?_,?_,?_,trivial⟩;all_goals intro a W hb hkp hd
   ·have e0:a.tmps[0]?.getD undef=.pointer (some ⟨g,0,none⟩):=hkp.get (by kernel_rfl) rfl;exact Q00 rfl _ (by go_simp) rfl
   ·have e0:a.tmps[1]?.getD undef=.int .i64 (i:Int):=hkp.get (by kernel_rfl) rfl;exact Q00 rfl _ (by go_simp) rfl
   ·have e0:(_:Value)=.pointer (some ⟨g,0,none⟩):=(hd 0 (by kernel_rfl)).get 16 rfl rfl;exact Q00 rfl _ (by go_simp) rfl
   ·have e0:(_:Value)=.pointer (some ⟨g,0,none⟩):=(hd 2 (by kernel_rfl)).get 18 rfl rfl;exact Q00 rfl _ (by go_simp) rfl
   ·have e0:(_:Value)=.pointer (some ⟨g,1,none⟩):=(hd 3 (by kernel_rfl)).get 19 rfl rfl;have e1:(_:Value)=.int .i64 (i:Int):=(hd 1 (by kernel_rfl)).get 17 rfl rfl;have hlt:=hi2I;exact Q00 rfl _ (by go_simp) rfl
   ·have e0:(_:Value)=.pointer (some ⟨g,1+i,none⟩):=(hd 4 (by kernel_rfl)).get 20 rfl rfl;have cc:=HCM.out W hb;exact Q00 rfl _ (by go_simp) rfl
   ·have e0:(_:Value)=.slice mA mn mC:=(hd 5 (by kernel_rfl)).get 21 rfl rfl;exact Q00 rfl _ (by go_simp) rfl
   ·have e0:(_:Value)=.int .i64 (mn:Int):=(hd 6 (by kernel_rfl)).get 22 rfl rfl;have hw:=hwm;exact Q00 rfl _ (by go_simp) rfl
   ·have e0:a.tmps[0]?.getD undef=.pointer (some ⟨g,0,none⟩):=hkp.get (by kernel_rfl) rfl;exact Q00 rfl _ (by go_simp) rfl
   ·have e0:(_:Value)=.pointer (some ⟨g,0,none⟩):=(hd 8 (by kernel_rfl)).get 24 rfl rfl;exact Q00 rfl _ (by go_simp) rfl
   ·have e0:(_:Value)=.pointer (some ⟨g,0,none⟩):=(hd 9 (by kernel_rfl)).get 25 rfl rfl;exact Q00 rfl _ (by go_simp) rfl
   ·have e0:(_:Value)=.pointer (some ⟨g,0,none⟩):=(hd 10 (by kernel_rfl)).get 26 rfl rfl;have cc:=HC0.out W hb;exact Q00 rfl _ (by go_simp) rfl
   ·have e0:a.tmps[1]?.getD undef=.int .i64 (i:Int):=hkp.get (by kernel_rfl) rfl;exact Q00 rfl _ (by go_simp) rfl
   ·have e0:(_:Value)=.slice (some ⟨gf,0,none⟩) n0 fC:=(hd 11 (by kernel_rfl)).get 27 rfl rfl;have e1:(_:Value)=.int .i64 (i:Int):=(hd 12 (by kernel_rfl)).get 28 rfl rfl;have hlt:=hinI;exact Q00 rfl _ (by go_simp) rfl
   ·have e0:(_:Value)=.pointer (some ⟨gf,i*2,none⟩):=(hd 13 (by kernel_rfl)).get 29 rfl rfl;exact Q00 rfl _ (by go_simp) rfl
   ·have e0:(_:Value)=.pointer (some ⟨gf,i*2,none⟩):=(hd 14 (by kernel_rfl)).get 30 rfl rfl;have cc:=HCF0.out W hb;exact Q00 rfl _ (by go_simp) rfl
   ·have e0:(_:Value)=.int .i64 ((mn:Int)+1):=(hd 7 (by kernel_rfl)).get 23 rfl rfl;have e1:(_:Value)=.int .i64 (f:Int):=(hd 15 (by kernel_rfl)).get 31 rfl rfl;exact Q21 rfl (.slice (some ⟨W.heap.size,0,none⟩) 2 2) (W.alloc (.cells #[.int .i64 ((mn:Int)+1),.int .i64 (f:Int)] 3)) (by go_simp) (Q07 _ _) ⟨W.heap.size,rfl,Blk.new W _ _⟩
   ·obtain⟨g9,e0,h9⟩:=(hd 16 (by kernel_rfl)).get 32 rfl rfl;refine Q0w rfl 139 #[.slice (some ⟨g9,0,none⟩) 2 2] (by go_simp) ((Q3m (some ⟨g9,0,none⟩) 2 2 [(mn:Int)+1,(f:Int)] W W.heap.size (Q9M h9) (Nat.le_refl _) (by omega) HNUM0.out).mono ?_);rintro e w' ⟨v,rfl,ho,hb'⟩;exact⟨v,rfl,hb',ho.more hb.size⟩
  intro ff w2 hb2 hd;have h33:OwnB w2 w.heap.size (ff 33) (Q0M [(mn:Int)+1,(f:Int)]):=hd 17 (by omega) _ 33 rfl rfl;have HL2:=Lib.hid hb2;have HO2:=Lib.hid h33;have hs2:=hb2.size;simp only [Q0H,List.drop_succ_cons,List.drop_zero];clear hd;have hc02:=HC0.out w2 hb2;have hcf12:=HCF1.out w2 hb2;have HNM:=Lib.hid (Q3m Af nf cf s.first w2 w.heap.size (HRD.out.below hb2) hs2 (by omega) HFZ.out);have hl0:=Q27 _ HNUM0.out;have hl1:=Q27 _ HFZ.out;rw [<- HNF.out] at hl1;simp only [List.length_cons,List.length_nil] at hl0;clear h33 hb2;try simp only [Act.put,sA1,sA2,sA3]
  generalize ff 33=ov at HO2 ⊢;go_wp2_with fail
  refine HNM.out.mono ?_;rintro _ w3 ⟨v3,rfl,ho3,hb3⟩;obtain⟨A2,c2,rfl,p1,p2,p3,p4⟩:=Q0p ho3;obtain⟨nx,hnx⟩:∃ k,k=(Q0M s.first).length:=⟨_,rfl⟩;rw [<- hnx] at p3 hl1 ⊢;have HNX:=Lib.hid hnx;have HP3:=Lib.hid p3;have HO3:=Lib.hid (HO2.out.below hb3);have HB3:=Lib.hid (HL2.out.trans (hb3.mono hs2));have hs3:=hb3.size;clear ho3 hb3 p1 p2 p3 p4 HNM hnx hc02 hcf12;go_wp2_with (at_builtin; go_must (refine Q06 _ rfl (.tmp 34) (.tmp 43) 22 rfl w.heap.size 5 i0 _ 1 1 Tryz.underlying22 hi0 hz0 hz1 hz2 rfl (by omega) _ _ _ rfl HO3.out.row w3.heap.size A2 nx c2 ((Q0M s.first).map vb) rfl HP3.out ?c1 ?c2 ?c3 ?c4 ?_))
  case c1=>intro u hu; obtain⟨y,_,rfl⟩:=List.mem_map.1 hu; rfl
  case c2=>unfold maxLen; omega
  case c3=>omega
  case c4=>omega
  intro v4 w4 hown4 hg4 hor4;have HB4:=Lib.hid (Q0k HB3.out (by omega) hg4 (fun b hb=>HO3.out.ge hb));have HO4:=Lib.hid (show OwnB w4 w.heap.size v4 (Q0M [(mn:Int)+1,(f:Int)]++Q0M s.first++Q0M (Q1h (s.moves.take 0))) by
   have e:Q0M (Q1h (s.moves.take 0))=[]:=by simp [Q1h,Q0M]
   rw [e,List.append_nil];unfold OwnB;rw [List.length_append,List.map_append,<- HNX.out];exact hown4)
  have hcm4:=HCM.out w4 HB4.out;have HL0:=Lib.hid (show (Q0M [(mn:Int)+1,(f:Int)]++Q0M s.first).length<=72 by rw [List.length_append,<- HNX.out]; omega);clear hown4 hg4 hor4 HB3 HO3 hl0 hl1;go_wp2_with fail
  go_loopw [5,6] (fun ov iv wr=>∃ k:Nat,k<=mn/\iv=.int .i64 k/\OwnB wr w.heap.size ov (Q0M [(mn:Int)+1,(f:Int)]++Q0M s.first++Q0M (Q1h (s.moves.take k)))/\Below w.heap.size w wr) (fun _ iv _=>mn - (intOf iv).toNat)
  case atStart=>exact⟨0,by omega,rfl,HO4.out,HB4.out⟩
  clear HO4 HB4 hcm4;case round =>
   obtain⟨k,hk,rfl,hov,hlow⟩:=hrel;have HOV:=Lib.hid hov;have HL:=Lib.hid hlow;have hls:=hlow.size;have hcmr:=HCM.out wr hlow;by_cases hkn:k<mn
   ·have hkI:(k:Int)<(mn:Int):=by omega
    have hkl:k<s.moves.length:=by have:=HMN.out; omega
    obtain⟨⟨o,z⟩,hoz⟩:∃ q,s.moves[k]?=some q:=⟨_,List.getElem?_eq_getElem hkl⟩;have hmz:=HMZ.out _ (List.mem_of_getElem? hoz);obtain⟨gm,cur2,hmA,hBm,hcm0,hcm1⟩:=Q9V (HMR.out wr hlow) hoz;subst hmA;have htk:Q1h (s.moves.take (k+1))=Q1h (s.moves.take k)++[o,z]:=by
     rw [List.take_add_one,hoz];show Q1h (s.moves.take k++[(o,z)])=_;rw [Q3V]; rfl
    have HTK:=Lib.hid htk;have hml:=Q27 (Q1h (s.moves.take k)) fun x hx=>by
     obtain⟨q,hq,e | e⟩:=Q5w hx
     ·rw [e]; exact(HMZ.out q (List.mem_of_mem_take hq)).1
     ·rw [e]; exact(HMZ.out q (List.mem_of_mem_take hq)).2
    rw [Q3y,List.length_take] at hml;have HNUM1:=Lib.hid (show ∀ y,y∈[o,z]->NumI y from fun y hy=>by
     rcases List.mem_cons.1 hy with rfl | hy
     ·exact hmz.1
     ·rw [List.mem_singleton.1 hy]; exact hmz.2)
    have CM0:=Lib.hid (fun(W:World) (hb:Below wr.heap.size wr W)=>(hb.cell (p:=⟨gm,k*2,none⟩) hBm.lt).trans ((hBm.cell _).trans hcm0));have CM1:=Lib.hid (fun(W:World) (hb:Below wr.heap.size wr W)=>(hb.cell (p:=⟨gm,k*2+1,none⟩) hBm.lt).trans ((hBm.cell _).trans hcm1));have HCM2:=Lib.hid (fun(W:World) (hb:Below wr.heap.size wr W)=>HCM.out W (HL.out.trans (hb.mono hls)));obtain⟨ys,hys⟩:∃ ys,ys=Q0M [(mn:Int)+1,(f:Int)]++Q0M s.first++Q0M (Q1h (s.moves.take k)):=⟨_,rfl⟩;have hyl:ys.length<=600:=by
     rw [hys,List.length_append];have:=HL0.out;omega
    have HYS:=Lib.hid hys;rw [<- hys] at HOV;obtain⟨Ao,co,hovv,_⟩:=Q0p HOV.out;obtain⟨no,hno⟩:∃ no,no=ys.length:=⟨_,rfl⟩;rw [<- hno] at hovv hyl;have HNO:=Lib.hid hno;subst hovv;clear hov hlow hoz hmz hBm hcm0 hcm1 htk hml hys hno;go_upto_region 8 with fail
    refine Q0l 23 81 (fun jx W v=>match jx with | 0=>v=.slice Ao no co | 1=>v=.pointer (some ⟨g,0,none⟩) | 2=>v=.int .i64 (i:Int) | 3=>v=.pointer (some ⟨g,0,none⟩) | 4=>v=.pointer (some ⟨g,1,none⟩) | 5=>v=.pointer (some ⟨g,1+i,none⟩) | 6=>v=.slice (some ⟨gm,0,none⟩) mn mC | 7=>v=.int .i64 (k:Int) | 8=>v=.pointer (some ⟨gm,k*2,none⟩) | 9=>v=.pointer (some ⟨gm,k*2,none⟩) | 10=>v=.int .i64 o | 11=>v=.pointer (some ⟨g,0,none⟩) | 12=>v=.int .i64 (i:Int) | 13=>v=.pointer (some ⟨g,0,none⟩) | 14=>v=.pointer (some ⟨g,1,none⟩) | 15=>v=.pointer (some ⟨g,1+i,none⟩) | 16=>v=.slice (some ⟨gm,0,none⟩) mn mC | 17=>v=.int .i64 (k:Int) | 18=>v=.pointer (some ⟨gm,k*2,none⟩) | 19=>v=.pointer (some ⟨gm,k*2+1,none⟩) | 20=>v=.int .i64 z | 21=>∃ g9,v=.slice (some ⟨g9,0,none⟩) 2 2/\Blk W g9 3 #[.int .i64 o,.int .i64 z] | 22=>OwnB W w.heap.size v (Q0M [o,z]) | _=>True) [56,57,58,59,60,61,62,63,64,65,66,67,68,69,70,71,72,73,74,75,76,77,78] (by kernel_rfl) (by kernel_rfl) (by kernel_rfl) (by simp) (by kernel_rfl) (fun jx=>?last) ?heads ?_
    case last =>
     match jx with
     | 0 | 1 | 2 | 3 | 4 | 5 | 6 | 7 | 8 | 9 | 10 | 11 | 12 | 13 | 14 | 15 | 16 | 17 | 18 | 19 | 20 | jx+23=>exact Q16.pure _
     | 21=>exact fun W W' v ⟨g9,h1,h2⟩ hb=>⟨g9,h1,h2.below' hb⟩
     | 22=>exact fun W W' v h hb=>h.below hb
    case heads =>
     simp only [List.take_succ_cons,List.take_zero];refine⟨?_,?_,?_,?_,?_,?_,?_,?_,?_,?_,?_,?_,?_,?_,?_,?_,?_,?_,?_,?_,?_,?_,?_,trivial⟩;all_goals intro a W hb hkp hd
     ·have e0:a.tmps[5]?.getD undef=.slice Ao no co:=hkp.get (by kernel_rfl) rfl;exact Q00 rfl _ (by go_simp) rfl
     ·have e0:a.tmps[0]?.getD undef=.pointer (some ⟨g,0,none⟩):=hkp.get (by kernel_rfl) rfl;exact Q00 rfl _ (by go_simp) rfl
     ·have e0:a.tmps[1]?.getD undef=.int .i64 (i:Int):=hkp.get (by kernel_rfl) rfl;exact Q00 rfl _ (by go_simp) rfl
     ·have e0:(_:Value)=.pointer (some ⟨g,0,none⟩):=(hd 1 (by kernel_rfl)).get 57 rfl rfl;exact Q00 rfl _ (by go_simp) rfl
     ·have e0:(_:Value)=.pointer (some ⟨g,0,none⟩):=(hd 3 (by kernel_rfl)).get 59 rfl rfl;exact Q00 rfl _ (by go_simp) rfl
     ·have e0:(_:Value)=.pointer (some ⟨g,1,none⟩):=(hd 4 (by kernel_rfl)).get 60 rfl rfl;have e1:(_:Value)=.int .i64 (i:Int):=(hd 2 (by kernel_rfl)).get 58 rfl rfl;have hlt:=hi2I;exact Q00 rfl _ (by go_simp) rfl
     ·have e0:(_:Value)=.pointer (some ⟨g,1+i,none⟩):=(hd 5 (by kernel_rfl)).get 61 rfl rfl;have cc:=HCM2.out W hb;exact Q00 rfl _ (by go_simp) rfl
     ·have e0:a.tmps[6]?.getD undef=.int .i64 (k:Int):=hkp.get (by kernel_rfl) rfl;exact Q00 rfl _ (by go_simp) rfl
     ·have e0:(_:Value)=.slice (some ⟨gm,0,none⟩) mn mC:=(hd 6 (by kernel_rfl)).get 62 rfl rfl;have e1:(_:Value)=.int .i64 (k:Int):=(hd 7 (by kernel_rfl)).get 63 rfl rfl;have hlt:=hkI;exact Q00 rfl _ (by go_simp) rfl
     ·have e0:(_:Value)=.pointer (some ⟨gm,k*2,none⟩):=(hd 8 (by kernel_rfl)).get 64 rfl rfl;exact Q00 rfl _ (by go_simp) rfl
     ·have e0:(_:Value)=.pointer (some ⟨gm,k*2,none⟩):=(hd 9 (by kernel_rfl)).get 65 rfl rfl;have cc:=CM0.out W hb;exact Q00 rfl _ (by go_simp) rfl
     ·have e0:a.tmps[0]?.getD undef=.pointer (some ⟨g,0,none⟩):=hkp.get (by kernel_rfl) rfl;exact Q00 rfl _ (by go_simp) rfl
     ·have e0:a.tmps[1]?.getD undef=.int .i64 (i:Int):=hkp.get (by kernel_rfl) rfl;exact Q00 rfl _ (by go_simp) rfl
     ·have e0:(_:Value)=.pointer (some ⟨g,0,none⟩):=(hd 11 (by kernel_rfl)).get 67 rfl rfl;exact Q00 rfl _ (by go_simp) rfl
     ·have e0:(_:Value)=.pointer (some ⟨g,0,none⟩):=(hd 13 (by kernel_rfl)).get 69 rfl rfl;exact Q00 rfl _ (by go_simp) rfl
     ·have e0:(_:Value)=.pointer (some ⟨g,1,none⟩):=(hd 14 (by kernel_rfl)).get 70 rfl rfl;have e1:(_:Value)=.int .i64 (i:Int):=(hd 12 (by kernel_rfl)).get 68 rfl rfl;have hlt:=hi2I;exact Q00 rfl _ (by go_simp) rfl
     ·have e0:(_:Value)=.pointer (some ⟨g,1+i,none⟩):=(hd 15 (by kernel_rfl)).get 71 rfl rfl;have cc:=HCM2.out W hb;exact Q00 rfl _ (by go_simp) rfl
     ·have e0:a.tmps[6]?.getD undef=.int .i64 (k:Int):=hkp.get (by kernel_rfl) rfl;exact Q00 rfl _ (by go_simp) rfl
     ·have e0:(_:Value)=.slice (some ⟨gm,0,none⟩) mn mC:=(hd 16 (by kernel_rfl)).get 72 rfl rfl;have e1:(_:Value)=.int .i64 (k:Int):=(hd 17 (by kernel_rfl)).get 73 rfl rfl;have hlt:=hkI;exact Q00 rfl _ (by go_simp) rfl
     ·have e0:(_:Value)=.pointer (some ⟨gm,k*2,none⟩):=(hd 18 (by kernel_rfl)).get 74 rfl rfl;exact Q00 rfl _ (by go_simp) rfl
     ·have e0:(_:Value)=.pointer (some ⟨gm,k*2+1,none⟩):=(hd 19 (by kernel_rfl)).get 75 rfl rfl;have cc:=CM1.out W hb;exact Q00 rfl _ (by go_simp) rfl
     ·have e0:(_:Value)=.int .i64 o:=(hd 10 (by kernel_rfl)).get 66 rfl rfl;have e1:(_:Value)=.int .i64 z:=(hd 20 (by kernel_rfl)).get 76 rfl rfl;exact Q21 rfl (.slice (some ⟨W.heap.size,0,none⟩) 2 2) (W.alloc (.cells #[.int .i64 o,.int .i64 z] 3)) (by go_simp) (Q07 _ _) ⟨W.heap.size,rfl,Blk.new W _ _⟩
     ·obtain⟨g9,e0,h9⟩:=(hd 21 (by kernel_rfl)).get 77 rfl rfl;refine Q0w rfl 139 #[.slice (some ⟨g9,0,none⟩) 2 2] (by go_simp) ((Q3m (some ⟨g9,0,none⟩) 2 2 [o,z] W W.heap.size (Q9M h9) (Nat.le_refl _) (by omega) HNUM1.out).mono ?_);rintro e w' ⟨v,rfl,ho,hb'⟩;exact⟨v,rfl,hb',ho.more (by have:=hb.size; omega)⟩
    intro ff2 w5 hb5 hd;have h56:ff2 56=.slice Ao no co:=hd 0 (by omega) _ 56 rfl rfl;have h78:OwnB w5 w.heap.size (ff2 78) (Q0M [o,z]):=hd 22 (by omega) _ 78 rfl rfl;simp only [Q0H,List.drop_succ_cons,List.drop_zero,h56];clear hd;obtain⟨A2,c2,e78,p1,p2,p3,p4⟩:=Q0p h78;rw [e78];have hnl:=Q27 _ HNUM1.out;simp only [List.length_cons,List.length_nil] at hnl;obtain⟨nx,hnx⟩:∃ k,k=(Q0M [o,z]).length:=⟨_,rfl⟩;rw [<- hnx] at p3 hnl ⊢;have HNX:=Lib.hid hnx;have HP3:=Lib.hid p3;have HO5:=Lib.hid (show OwnB w5 w.heap.size (.slice Ao no co) ys from HOV.out.below hb5);have HB5:=Lib.hid (HL.out.trans (hb5.mono hls));have hs5:=hb5.size;have HROW:=Lib.hid (show w5.ownsRow w.heap.size 5 1 (.slice Ao no co) no (ys.map vb) by have:=HO5.out.row; rw [<- HNO.out] at this; exact this);clear h78 e78 p1 p2 p3 p4 hnx h56 hb5;try simp only [Act.put,sA1,sA2,sA3]
    go_wp2_with (at_builtin; go_must (refine Q06 _ rfl (.tmp 56) (.tmp 78) 22 rfl w.heap.size 5 i0 _ 1 1 Tryz.underlying22 hi0 hz0 hz1 hz2 rfl (by omega) _ _ _ rfl HROW.out w5.heap.size A2 nx c2 ((Q0M [o,z]).map vb) rfl HP3.out ?c1 ?c2 ?c3 ?c4 ?_))
    case c1=>intro u hu; obtain⟨y,_,rfl⟩:=List.mem_map.1 hu; rfl
    case c2=>unfold maxLen; omega
    case c3=>omega
    case c4=>omega
    intro v6 w6 hown6 hg6 hor6;have HB6:=Lib.hid (Q0k HB5.out (by omega) hg6 (fun b hb=>HO5.out.ge hb));have HO6:=Lib.hid (show OwnB w6 w.heap.size v6 (Q0M [(mn:Int)+1,(f:Int)]++Q0M s.first++Q0M (Q1h (s.moves.take (k+1)))) by
     unfold OwnB;rw [HTK.out,Q56,<- List.append_assoc,<- HYS.out,List.length_append,List.map_append,<- HNX.out,<- HNO.out];exact hown6)
    clear hown6 hg6 hor6;go_wp2_with fail
    go_roundw
    case rel=>exact⟨k+1,by omega,by go_num,HO6.out,HB6.out⟩
    case measure=>simp [intOf]; omega
   ·obtain rfl:k=mn:=by omega
    have hkI:¬ (k:Int)<(k:Int):=by omega
    clear hov hlow;go_wp2_with fail
    go_ret
    have:=HOV.out;rw [List.take_of_length_le (by have:=HMN.out; omega),<- HLE.out] at this;exact⟨_,rfl,this,HL.out⟩
 ·have hgeI:(n0:Int)<=(i:Int):=by omega
  have hle:lf=Q0M [0]:=by
   rw [hlf];unfold Q1w Q5l;rw [if_pos hi2,List.getElem?_eq_none (by omega)]
  subst hle;have hX:=Q07 w (.cells #[.int .i64 0] 3);have HX:=Lib.hid hX;have HNM:=Lib.hid (Q3m (some ⟨w.heap.size,0,none⟩) 1 1 [0] (w.alloc (.cells #[.int .i64 0] 3)) _ (Q1m w #[.int .i64 0] 3) (by simp) (by omega) (fun z hz=>by rw [List.mem_singleton.1 hz]; unfold NumI; omega));clear h hfA hBf hcf hlf hn0 hfC hX;go_enter Tryz.func138,Tryz.ntmps138
  go_wp2_with fail
  refine HNM.out.mono ?_;rintro _ w2 ⟨v,rfl,ho,hb⟩;have HO:=Lib.hid (ho.more HX.out.size);have HB:=Lib.hid (HX.out.trans (hb.mono HX.out.size));clear ho hb HNM;go_wp2_with fail
  go_ret
  exact⟨_,rfl,HO.out,HB.out⟩
end
end Go.Proofs.YtcpngeiahgoacaaGreat
