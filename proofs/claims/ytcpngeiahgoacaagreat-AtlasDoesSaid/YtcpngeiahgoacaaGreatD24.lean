/- Parts of the proof, in one text: RaS, RaT. -/
import Derived.Test.YtcpngeiahgoacaaGreatD23
import Derived.Test.YtcpngeiahgoacaaGreatD16
import Derived.Test.YtcpngeiahgoacaaGreatD18
import Derived.Test.YtcpngeiahgoacaaGreatD22
namespace Go.Proofs.YtcpngeiahgoacaaGreat
set_option linter.unusedVariables false
set_option linter.unusedSimpArgs false
set_option maxRecDepth 100000
set_option maxHeartbeats 16000000
section
open Go.RowKit Go.Maps
attribute [local irreducible] wpList Q0i
theorem RAWr.movedD {w w7 W9:World} {g i:Nat} {N:Nat->Prop} {m:AM} {s:Srv} {o z:Int} {S:RASl} {A2:Option Addr} {c2:Nat} (hN:∀ b,N b->b<w.heap.size) (hw:w.heap.size<=w7.heap.size) (hs:m.chunks[i]?=some s) (hi:i<2) (hg:o∈s.now/\Q18 m.chunks s.f z=false) (hz:1<=z/\z<=28) (hl:s.moves.length<=20)
 (hd:Q1a w7 g N m S) (hp:Q5m m S g) (hu:MvUp w7 (.slice (S.mA i) s.moves.length (S.mC i)) s.moves.length s.moves o z A2 c2 W9) :
 Blk W9 g 153 (Q1G m S)/\RAWr (W9.setCell ⟨g,1+i,none⟩ (.slice A2 (s.moves.length+1) c2)) g N (mvQ m i s o z)/\Only (fun b=>¬ N b) w7 (W9.setCell ⟨g,1+i,none⟩ (.slice A2 (s.moves.length+1) c2)):=by
 have hmi:=hd.mv i hi;rw [Q1b hs] at hmi;have hmo:=hd.mout i hi;rw [Q1b hs] at hmo;have hng:(Value.slice (S.mA i) s.moves.length (S.mC i)).ownBlock≠some g:=Q09 hmi hd.cells (by decide);have hblk:Blk W9 g 153 (Q1G m S):=hu.only.blk hd.cells hng;have hT:=Q0c.setCell W9 ⟨g,1+i,none⟩ (.slice A2 (s.moves.length+1) c2);have hck:=hd.ok.cok.moved hs hg.1 hg.2 hz.1 hz.2 hl;have hok:AOk (mvQ m i s o z):=⟨hck.one,hck.srv,hck.same,hck.apart,hck.high,hd.ok.last,hd.ok.ans⟩;obtain⟨h1,h2⟩:=hd.moved hp hi hs (w2:=W9.setCell ⟨g,1+i,none⟩ (.slice A2 (s.moves.length+1) c2)) (by have:=hu.only.size; have:=hT.size; omega) (fun b hl hne hno=>(hT.block b hne).trans (hu.only.block b hl hno)) (hblk.set_ (1+i) _) (Q0f hu.row fun b hb'=>hT.block b fun e=>Q09 hu.row hblk (by decide) (by rw [hb',e])) (fun b hb'=>by
  rcases hu.or_ with e | ⟨b',e,hge⟩
  ·rw [hb'] at e;exact⟨hmo b e.symm,.inl e.symm⟩
  ·rw [hb'] at e;injection e with e
   subst e;exact⟨fun hn=>by have:=hN b hn; omega,.inr hge⟩) hok
 exact⟨hblk,⟨_,h1,h2⟩,(hu.only.mono fun b _ e=>hmo b e).trans (Only.of_turned hT hd.out)⟩
def errD (e p:Nat):Array Value:=anC (e:Int) none 0 0 (p:Int) none 0 0
def Q9u (w:World) (g:Nat) (N:Nat->Prop) (p:AM×Ans) (e:Ending) (w':World):Prop:=e=.returned (.agg (errD p.2.err p.2.epoch))/\p.2.nodes=[]/\RAWr w' g N p.1/\Only (fun b=>¬ N b) w w'
theorem Q8L (w:World) (g:Nat) (N:Nat->Prop) (m:AM) (x:Wish) (A:Option Addr) (n c:Nat) (A':Option Addr) (n' c':Nat) (h:RAWr w g N m) (hN:∀ b,N b->b<w.heap.size) (hx:inQ x=true) (hk4:x.kind≠3) (i:Nat) (hi:x.block=(i:Int)+1) (s:Srv) (hs:m.chunks[i]?=some s) :
 Calls Tryz.prog 142 #[.pointer (some ⟨g,0,none⟩),.agg (Q05 x A n c A' n' c')] w (Q9u w g N (Q0s m x)):=by
 have ha:Q0s m x=if x.client≠34 then(m,errA 180 0) else if ¬ x.old∈s.now\/Q18 m.chunks s.f x.new=true then(m,errA 180 s.moves.length) else if s.moves.length+1=22 then(m,errA 5 0) else(mvQ m i s x.old x.new,errA 0 (s.moves.length+1)):=by
  unfold Q0s;rw [show (x.block - 1).toNat=i by omega,hs];simp only;rw [if_neg hk4];rfl
 obtain⟨_,_,_,_,_,_,hkind⟩:=Q2L hx;have hil:=(List.getElem?_eq_some_iff.1 hs).1;obtain⟨S,hd,hp⟩:=h;have hi2:i<2:=by have:=hd.ok.one; omega
 have hmv28:1<=x.new/\x.new<=28:=by
  rcases hkind with e | e
  ·exact absurd e hk4
  ·exact⟨e.2.2.2.1,e.2.2.2.2.1⟩
 have hsok:=hd.ok.srv s (List.mem_of_getElem? hs);have hX:Below w.heap.size w ((w.alloc (.cells (Q05 x A n c A' n' c') 44)).alloc (.cells (anC 0 none 0 0 0 none 0 0) 47)):=((Below.refl _ _).alloc (Nat.le_refl _) _).alloc (by simp) _;have k3:Blk ((w.alloc (.cells (Q05 x A n c A' n' c') 44)).alloc (.cells (anC 0 none 0 0 0 none 0 0) 47)) w.heap.size 44 (Q05 x A n c A' n' c'):=(Blk.newAt rfl).alloc _;have k4:Blk ((w.alloc (.cells (Q05 x A n c A' n' c') 44)).alloc (.cells (anC 0 none 0 0 0 none 0 0) 47)) (w.heap.size+1) 47 (anC 0 none 0 0 0 none 0 0):=Blk.newAt (by simp);have hz1:((w.alloc (.cells (Q05 x A n c A' n' c') 44)).alloc (.cells (anC 0 none 0 0 0 none 0 0) 47)).heap.size=w.heap.size+2:=by simp
 have HNL:=Lib.hid hN;obtain⟨N',hN'⟩:∃ N':Nat->Prop,N'=fun b=>N b\/b=w.heap.size\/b=w.heap.size+1:=⟨_,rfl⟩
 have HD:=Lib.hid (show ∀ (W:World),Below w.heap.size w W->Q1a W g N' m S from fun W hb=>(hd.mono (fun b hb hn=>by
  rw [hN'] at hn;rcases hn with hn | hn | hn
  ·exact hn
  ·omega
  ·omega)).below hb)
 have HNN:=Lib.hid (show ∀ b,N b->N' b from fun b hb=>by rw [hN']; exact .inl hb);have HNL2:=Lib.hid (show ∀ (W:World),w.heap.size+2<=W.heap.size->∀ b,N' b->b<W.heap.size from fun W hW b hb=>by
  rw [hN'] at hb;rcases hb with hb | hb | hb
  ·have:=hN b hb; omega
  ·omega
  ·omega)
 have HNG:=Lib.hid (show N' (w.heap.size+1) by rw [hN']; exact .inr (.inr rfl));have HP:=Lib.hid hp;have HS:=Lib.hid hs;have HSOK:=Lib.hid hsok;have HA:=Lib.hid ha;have HMV:=Lib.hid hmv28;have HX:=Lib.hid hX;have K3:=Lib.hid k3;have K4:=Lib.hid k4;have HZ1:=Lib.hid hz1;obtain⟨P,hP⟩:∃ P,P=Q9u w g N (Q0s m x):=⟨_,rfl⟩;rw [<- hP];have HPI:=Lib.hid (show ∀ w' (er ep:Nat),Q0s m x=(m,errA er ep)->Below w.heap.size w w'->P (.returned (.agg (errD er ep))) w' from fun w' er ep ha hb=>by
  rw [hP,ha]; exact⟨rfl,rfl,⟨S,hd.below hb,hp⟩,Only.of_below hb⟩)
 have HPM:=Lib.hid (show ∀ w' m' (er ep:Nat),Q0s m x=(m',errA er ep)->RAWr w' g N m'->Only (fun b=>¬ N b) w w'->P (.returned (.agg (errD er ep))) w' from fun w' m' er ep ha h1 h2=>by
  rw [hP,ha]; exact⟨rfl,rfl,h1,h2⟩)
 obtain⟨g3,hg3⟩:∃ b,b=w.heap.size:=⟨_,rfl⟩;obtain⟨g4,hg4⟩:∃ b,b=w.heap.size+1:=⟨_,rfl⟩;obtain⟨o,ho⟩:∃ q,q=x.old:=⟨_,rfl⟩;obtain⟨z,hz⟩:∃ q,q=x.new:=⟨_,rfl⟩;obtain⟨cl,hcl⟩:∃ q,q=x.client:=⟨_,rfl⟩;obtain⟨W0,hW0⟩:∃ W0,W0=Q05 x A n c A' n' c':=⟨_,rfl⟩;have w00:W0[0]?=some (.int .i64 cl):=by rw [hW0,hcl]; rfl
 have w05:W0[5]?=some (.int .i64 ((i:Int)+1)):=by rw [hW0,<- hi]; rfl
 have w07:W0[7]?=some (.int .i64 o):=by rw [hW0,ho]; rfl
 have w08:W0[8]?=some (.int .i64 z):=by rw [hW0,hz]; rfl
 rw [<- hW0] at HX K3 K4 HZ1 ⊢;rw [<- ho,<- hz,<- hcl] at HA;rw [<- hz] at HMV;have hgl:=hd.cells.lt;have hgo:¬ N g:=hd.out;clear hN hN' hd hp hX k3 k4 hz1 hP hx hW0 hs hsok ha hmv28 ho hz hcl hkind hk4 hi;go_enter Tryz.func142,Tryz.ntmps142
 go_upto_region 1 with fail
 rw [<- anZ];generalize World.alloc (World.alloc w _) _=w1 at HX K3 K4 HZ1 ⊢;rw [<- hg4] at K4 HNG ⊢;rw [<- hg3] at K3 ⊢;have hz1:=HZ1.out;have hgw3:w.heap.size<=g3:=by omega
 have hgw4:w.heap.size<=g4:=by omega
 have hg34:g3≠g4:=by omega
 have hgg3:g≠g3:=by omega
 have hgg4:g≠g4:=by omega
 have hw1:w.heap.size<=w1.heap.size:=by omega
 have hw12:w.heap.size+2<=w1.heap.size:=by omega
 have hl3:=K3.out.lt;have hl4:=K4.out.lt;have c30:=(K3.out.cell 0).trans w00;have c35:=(K3.out.cell 5).trans w05;clear hg3 hg4 HZ1 hz1;by_cases hc34:cl=34
 ·subst hc34;have HCR:=Lib.hid (Q78 w1 g i N' m S s (HD.out w1 HX.out) HS.out);unfold Q1Y at HCR;have HA1:=Lib.hid (show Q0s m x=_ from HA.out.trans (if_neg (by simp)));go_wp2_with fail
  refine HCR.out.mono ?_;rintro _ w6 ⟨v,nA,nC,rfl,hown,hb6⟩;have hs6:=hb6.size;have HB6:=Lib.hid (HX.out.trans (hb6.mono hw1));have HB61:=Lib.hid hb6;obtain⟨gl,cl,Ai,cai,C,cur,hv,hC,hCs,hBL,hCV,hrdn⟩:=RAWr.crewsAt_ (g:=g) (m:=m) HSOK.out hown;subst hv;have hnok:=HSOK.out.now_ok;have HHS':=fun(W:World) (hb:Below w6.heap.size w6 W)=>Q9S (s.f:Int) Ai s.now.length cai s.now o W w6.heap.size (hrdn.below hb) hb.size (by have:=hnok.short; omega)
  rw [Q3F hnok] at HHS';simp only [Bool.true_and] at HHS';rw [<- hC] at HHS';have hsf:=(HD.out w (Below.refl _ _)).same s (List.mem_of_getElem? HS.out);have HUS':=fun(W:World) (hb:Below w6.heap.size w6 W)=>Qbj W g N' m S z (HD.out W (HB6.out.trans (hb.mono HB6.out.size)))
  rw [<- hsf] at HUS';obtain⟨ub,hub⟩:∃ b,b=Q18 m.chunks s.f z:=⟨_,rfl⟩;rw [<- hub] at HUS';have hl21:=HSOK.out.len;obtain⟨mn,hmn⟩:∃ q,q=s.moves.length:=⟨_,rfl⟩;rw [<- hmn] at hCV hl21 ⊢;have HMN:=Lib.hid hmn;have HMN1:=Lib.hid (show (mn:Int)<(mn:Int)+1 by omega);have hwm:IntKind.i64.wrap (mn:Int)=(mn:Int):=IntWalk.i64_in _ (by omega);have HUB:=Lib.hid hub;have HHAS:=Lib.hid HHS';have HUS:=Lib.hid HUS';have HBL:=Lib.hid hBL;have HCV:=Lib.hid hCV;have HCS:=Lib.hid hCs;have K36:=Lib.hid (K3.out.below' hb6);have K46:=Lib.hid (K4.out.below' hb6);have CO:=Lib.hid (fun(W:World) (hb:Below w6.heap.size w6 W)=>((K36.out.below' hb).cell 7).trans w07);have CZ:=Lib.hid (fun(W:World) (hb:Below w6.heap.size w6 W)=>((K36.out.below' hb).cell 8).trans w08);clear hown hb6 hC hCs hBL hCV hrdn hnok HHS' hsf HUS' hub hmn c30 c35 HCR K3 K4;go_upto_region 5 with fail
  clear hwm;by_cases ho1:o∈s.now
  ·rw [decide_eq_true ho1] at HHAS;have HHS:=HHAS;have HOO:=Lib.hid ho1;clear ho1;refine Q0l 13 63 (fun jx W v=>match jx with | 0=>v=.slice (some ⟨gl,0,none⟩) (mn+1) cl | 1=>v=.int .i64 (mn:Int) | 2=>v=.pointer (some ⟨gl,mn*2,none⟩) | 3=>v=.agg C | 4=>v=.pointer (some ⟨g3,7,none⟩) | 5=>v=.int .i64 o | 6=>v=.bool true | 7=>v=.bool false | 8=>v=.bool false | 9=>v=.pointer (some ⟨g,0,none⟩) | 10=>v=.pointer (some ⟨g3,8,none⟩) | 11=>v=.int .i64 z | 12=>v=.bool ub | _=>True) [18,19,20,21,22,23,24,25,26,27,28,29,30] (by kernel_rfl) (by kernel_rfl) (by kernel_rfl) (by first | rfl | simp) (by kernel_rfl) (fun jx=>?last) ?heads ?_
   case last =>
    match jx with
    | 0 | 1 | 2 | 3 | 4 | 5 | 6 | 7 | 8 | 9 | 10 | 11 | 12 | jx+13=>exact Q16.pure _
   case heads =>
    simp only [List.take_succ_cons,List.take_zero];refine⟨?_,?_,?_,?_,?_,?_,?_,?_,?_,?_,?_,?_,?_,trivial⟩;all_goals intro a W hb hkp hd
    ·have e0:a.tmps[5]?.getD undef=.slice (some ⟨gl,0,none⟩) (mn+1) cl:=hkp.get (by kernel_rfl) rfl;exact Q00 rfl _ (by go_simp) rfl
    ·have e0:a.tmps[6]?.getD undef=.int .i64 (mn:Int):=hkp.get (by kernel_rfl) rfl;exact Q00 rfl _ (by go_simp) rfl
    ·have e0:(_:Value)=.slice (some ⟨gl,0,none⟩) (mn+1) cl:=(hd 0 (by kernel_rfl)).get 18 rfl rfl;have e1:(_:Value)=.int .i64 (mn:Int):=(hd 1 (by kernel_rfl)).get 19 rfl rfl;have hlt:=HMN1.out;exact Q00 rfl _ (by go_simp) rfl
    ·have e0:(_:Value)=.pointer (some ⟨gl,mn*2,none⟩):=(hd 2 (by kernel_rfl)).get 20 rfl rfl;have e0':a.eval (.tmp 20)=.pointer (some ⟨gl,mn*2,none⟩):=by simpa [Act.eval] using e0
     exact Q00 rfl (.agg C) (Q0m 77 (.tmp 20) rfl gl (mn*2) 2 e0' 77 _ C _ (HBL.out.below' hb) Tryz.underlying77 rfl rfl HCS.out HCV.out) rfl
    ·have e0:a.tmps[3]?.getD undef=.pointer (some ⟨g3,0,none⟩):=hkp.get (by kernel_rfl) rfl;exact Q00 rfl _ (by go_simp) rfl
    ·have e0:(_:Value)=.pointer (some ⟨g3,7,none⟩):=(hd 4 (by kernel_rfl)).get 22 rfl rfl;have cc:=CO.out W hb;exact Q00 rfl _ (by go_simp) rfl
    ·have e0:(_:Value)=.agg C:=(hd 3 (by kernel_rfl)).get 21 rfl rfl;have e1:(_:Value)=.int .i64 o:=(hd 5 (by kernel_rfl)).get 23 rfl rfl;have e0:(_:Value)=.agg C:=(hd 3 (by kernel_rfl)).get 21 rfl rfl;have e1:(_:Value)=.int .i64 o:=(hd 5 (by kernel_rfl)).get 23 rfl rfl;exact Q0w rfl 108 #[.agg C,.int .i64 o] (by go_simp) ((HHS.out W hb).mono fun e w h=>⟨_,h.1,h.2,rfl⟩)
    ·have e0:(_:Value)=.bool true:=(hd 6 (by kernel_rfl)).get 24 rfl rfl;exact Q00 rfl _ (by go_simp) rfl
    ·have e0:(_:Value)=.bool false:=(hd 7 (by kernel_rfl)).get 25 rfl rfl;exact Q00 rfl _ (by go_simp) rfl
    ·have eg:(_:Value)=.bool false:=(hd 8 (by kernel_rfl)).get 26 rfl rfl;have e0:a.tmps[0]?.getD undef=.pointer (some ⟨g,0,none⟩):=hkp.get (by kernel_rfl) rfl;exact Q00 (Q04 rfl rfl eg) _ (by go_simp) rfl
    ·have eg:(_:Value)=.bool false:=(hd 8 (by kernel_rfl)).get 26 rfl rfl;have e0:a.tmps[3]?.getD undef=.pointer (some ⟨g3,0,none⟩):=hkp.get (by kernel_rfl) rfl;exact Q00 (Q04 rfl rfl eg) _ (by go_simp) rfl
    ·have eg:(_:Value)=.bool false:=(hd 8 (by kernel_rfl)).get 26 rfl rfl;have e0:(_:Value)=.pointer (some ⟨g3,8,none⟩):=(hd 10 (by kernel_rfl)).get 28 rfl rfl;have cc:=CZ.out W hb;exact Q00 (Q04 rfl rfl eg) _ (by go_simp) rfl
    ·have eg:(_:Value)=.bool false:=(hd 8 (by kernel_rfl)).get 26 rfl rfl;have e0:(_:Value)=.pointer (some ⟨g,0,none⟩):=(hd 9 (by kernel_rfl)).get 27 rfl rfl;have e1:(_:Value)=.int .i64 z:=(hd 11 (by kernel_rfl)).get 29 rfl rfl;have e0:(_:Value)=.pointer (some ⟨g,0,none⟩):=(hd 9 (by kernel_rfl)).get 27 rfl rfl;have e1:(_:Value)=.int .i64 z:=(hd 11 (by kernel_rfl)).get 29 rfl rfl;exact Q0w (Q04 rfl rfl eg) 109 #[.pointer (some ⟨g,0,none⟩),.int .i64 z] (by go_simp) ((HUS.out W hb).mono fun e w h=>⟨_,h.1,h.2,rfl⟩)
   intro f7 W hbW hd7;have f26:f7 26=.bool false:=hd7 8 (by omega) _ 26 rfl rfl;have f30:f7 30=.bool ub:=hd7 12 (by omega) _ 30 rfl rfl;obtain⟨w7,hw7⟩:∃ x,x=W:=⟨_,rfl⟩;rw [<- hw7] at hbW ⊢;have HBW:=Lib.hid hbW;have HB7:=Lib.hid (HB6.out.trans (hbW.mono HB6.out.size));have HB71:=Lib.hid (HB61.out.trans (hbW.mono HB61.out.size));have K37:=Lib.hid (K36.out.below' hbW);have K47:=Lib.hid (K46.out.below' hbW);clear hd7 hbW hw7 K36 K46;simp only [Q0H,List.drop_succ_cons,List.drop_zero,f26,f30];try simp only [Act.put,sA1,sA2,sA3]
   cases ub with
   | true =>
    have HA2:=Lib.hid (show Q0s m x=(m,errA 180 mn) from HA1.out.trans ((if_pos (.inr HUB.out.symm)).trans (by rw [HMN.out])));go_wp2_with (refine Q01 (o:=⟨none,_,_,_,_,_⟩) rfl 47 (.tmp 4) (.tmp 33) rfl g4 0 (errD 180 mn) rfl rfl 47 _ K47.out (Q0P _ _ _ _ _ _ _ _) (by simp [anC,errD]) (Q0G _ _ _ _ _ _ _ _) ?_; intro w8 hT8 hD8; unfold errD at hD8; rw [Q19 _ rfl] at hD8)
    refine bodyPost_ret (Q0h rfl _ _ g4 4 47 _ _ rfl hD8 Tryz.underlying47 rfl rfl rfl) rfl ?_;exact HPI.out _ 180 mn HA2.out (hT8.below HB7.out hgw4)
   | false =>
    have HA2:=Lib.hid (HA1.out.trans (if_neg (by rintro (q | q); exact q HOO.out; rw [<- HUB.out] at q; cases q)));by_cases h22:mn=21
    ·have HA3:=Lib.hid (show Q0s m x=(m,errA 5 0) from HA2.out.trans (if_pos (by rw [<- HMN.out]; omega)));subst h22;go_wp2_with (refine Q01 (o:=⟨none,_,_,_,_,_⟩) rfl 47 (.tmp 4) (.tmp 37) rfl g4 0 (errD 5 0) rfl rfl 47 _ K47.out (Q0P _ _ _ _ _ _ _ _) (by simp [anC,errD]) (Q0G _ _ _ _ _ _ _ _) ?_; intro w8 hT8 hD8; unfold errD at hD8; rw [Q19 _ rfl] at hD8)
     refine bodyPost_ret (Q0h rfl _ _ g4 4 47 _ _ rfl hD8 Tryz.underlying47 rfl rfl rfl) rfl ?_;exact HPI.out _ 5 0 HA3.out (hT8.below HB7.out hgw4)
    ·have h22b:((mn:Int)+1 == 22)=false:=by simp; omega
     have HA3:=Lib.hid (show Q0s m x=(mvQ m i s o z,errA 0 (mn+1)) from HA2.out.trans ((if_neg (by rw [<- HMN.out]; omega)).trans (by rw [HMN.out])));have hl20:mn<=20:=by omega
     have HD7:=Lib.hid (HD.out w7 HB7.out);have hmvr:=HD7.out.mv i hi2;have hcmv:=HD7.out.cMoves i hi2;rw [Q1b HS.out,<- HMN.out] at hmvr hcmv;obtain⟨mA,hmA⟩:∃ x,x=S.mA i:=⟨_,rfl⟩;obtain⟨mC,hmC⟩:∃ x,x=S.mC i:=⟨_,rfl⟩;rw [<- hmA,<- hmC] at hmvr hcmv;have HROW:=Lib.hid hmvr;have hgl7:=HD7.out.cells.lt;have CM:=Lib.hid (fun(W:World) (hb:Below w7.heap.size w7 W)=>(hb.cell (p:=⟨g,1+i,none⟩) hgl7).trans hcmv);have hs67:=HBW.out.size;have CO:=Lib.hid (fun(W:World) (hb:Below w7.heap.size w7 W)=>CO.out W (HBW.out.trans (hb.mono hs67)));have CZ:=Lib.hid (fun(W:World) (hb:Below w7.heap.size w7 W)=>CZ.out W (HBW.out.trans (hb.mono hs67)));have CB:=Lib.hid (fun(W:World) (hb:Below w7.heap.size w7 W)=>((K37.out.below' hb).cell 5).trans w05);have CBJ:=Lib.hid (show ∀ (s:Nat) (W:World),(match s with | 0=>Below w7.heap.size w7 W/\Blk W g3 44 W0 | _=>Blk W g3 44 W0)->W.cell? ⟨g3,5,none⟩=some (.int .i64 ((i:Int)+1)) from fun s W hj=>by
      match s,hj with
      | 0,hj=>exact(hj.2.cell 5).trans w05
      | s+1,hj=>exact(Blk.cell hj 5).trans w05)
     have K3N:=Lib.hid (show ∀ (W w':World),(Below w7.heap.size w7 W/\Blk W g3 44 W0)->W.grownBy w' (Value.slice mA mn mC).ownBlock->Blk w' g3 44 W0 from fun W w' hj hg=>(hg.block g3 hj.2.lt (fun e=>Q09 HROW.out K37.out (by decide) e.symm)).trans hj.2);have HMNL:=Lib.hid hl20;have HMA:=Lib.hid hmA;have HMC:=Lib.hid hmC;have HI2:=Lib.hid (show (i:Int)<2 by omega);have HWB:=Lib.hid (show IntKind.i64.wrap (i:Int)=(i:Int) from IntWalk.i64_in _ (by omega));obtain⟨i0,hi0,hz0,hz1,hz2⟩:=info_parts rmv_info;clear hmvr hcmv hmA hmC HBL HCV HCS HHS HHAS HUS h22;go_upto_region 9 with fail
     refine Q2i 22 63 (fun jx W v=>match jx with | 0=>v=.pointer (some ⟨g,0,none⟩) | 1=>v=.pointer (some ⟨g3,5,none⟩) | 2=>v=.int .i64 ((i:Int)+1) | 3=>v=.int .i64 (i:Int) | 4=>v=.pointer (some ⟨g,0,none⟩) | 5=>v=.pointer (some ⟨g3,5,none⟩) | 6=>v=.int .i64 ((i:Int)+1) | 7=>v=.int .i64 (i:Int) | 8=>v=.pointer (some ⟨g,0,none⟩) | 9=>v=.pointer (some ⟨g,1,none⟩) | 10=>v=.pointer (some ⟨g,1+i,none⟩) | 11=>v=.slice mA mn mC | 12=>v=.pointer (some ⟨g3,7,none⟩) | 13=>v=.int .i64 o | 14=>v=.pointer (some ⟨g3,8,none⟩) | 15=>v=.int .i64 z | 16=>v=.agg #[.int .i64 o,.int .i64 z] | 17=>∃ g9,v=.slice (some ⟨g9,0,none⟩) 1 1/\g9<W.heap.size/\(Value.slice mA mn mC).ownBlock≠some g9/\Blk W g9 168 #[.int .i64 o,.int .i64 z] | 18=>∃ A2 c2,v=.slice A2 (mn+1) c2/\MvUp w7 (.slice mA mn mC) mn s.moves o z A2 c2 W | 19=>v=.pointer (some ⟨g,0,none⟩) | 20=>v=.pointer (some ⟨g,1,none⟩) | 21=>v=.pointer (some ⟨g,1+i,none⟩) | _=>True) (fun s W=>match s with | 0=>Below w7.heap.size w7 W/\Blk W g3 44 W0 | _=>Blk W g3 44 W0) (fun W W'=>W.grownBy W' (Value.slice mA mn mC).ownBlock) [18] (fun _=>[]) (fun _=>[]) [38,39,40,41,42,43,44,45,46,47,48,49,50,51,52,53,54,55,56,57,58,59] (by kernel_rfl) (by kernel_rfl) (by kernel_rfl) (by kernel_rfl) (by kernel_rfl) (by kernel_rfl) (by first | rfl | simp) (by kernel_rfl) (fun jx=>?last) ?lastR ?jay ⟨Below.refl _ _,K37.out⟩ ?heads ?_
     case last =>
      match jx with
      | 0 | 1 | 2 | 3 | 4 | 5 | 6 | 7 | 8 | 9 | 10 | 11 | 12 | 13 | 14 | 15 | 16 | 19 | 20 | 21 | jx+22=>exact Q16.pure _
      | 17=>exact fun W W' v ⟨g9,h1,h2,h3,h4⟩ hb=>⟨g9,h1,by have:=hb.size; omega,h3,h4.below' hb⟩
      | 18=>exact fun W W' v ⟨A2,c2,h1,h2⟩ hb=>⟨A2,c2,h1,h2.below hb⟩
     case lastR =>
      intro s jx W W' v hsl hdd hlt hs hj hp hr;match jx with
      | 0 | 1 | 2 | 3 | 4 | 5 | 6 | 7 | 8 | 9 | 10 | 11 | 12 | 13 | 14 | 15 | 16 | 19 | 20 | 21 | jx+22=>exact hp
      | 17 =>
       obtain⟨g9,h1,h2,h3,h4⟩:=hp;exact⟨g9,h1,by have:=hr.size; omega,h3,(hr.block g9 h2 (fun e=>h3 e.symm)).trans h4⟩
      | 18=>exact absurd (by simp at hsl; subst hsl; rfl) (hs 0 (by simp at hsl; omega))
     case jay =>
      intro s W W' hj hb;match s,hj with
      | 0,hj=>exact⟨hj.1.trans (hb.mono hj.1.size),hj.2.below' hb⟩
      | s+1,hj=>exact hj.below' hb
     case heads =>
      simp only [List.take_succ_cons,List.take_zero];refine⟨?_,?_,?_,?_,?_,?_,?_,?_,?_,?_,?_,?_,?_,?_,?_,?_,?_,?_,?_,?_,?_,?_,trivial⟩
      ·rw [if_neg (by decide)];intro s a W hst hj hkp hd;have e0:a.tmps[0]?.getD undef=.pointer (some ⟨g,0,none⟩):=hkp.get (by kernel_rfl) rfl;exact Q00 rfl _ (by go_simp) rfl
      ·rw [if_neg (by decide)];intro s a W hst hj hkp hd;have e0:a.tmps[3]?.getD undef=.pointer (some ⟨g3,0,none⟩):=hkp.get (by kernel_rfl) rfl;exact Q00 rfl _ (by go_simp) rfl
      ·rw [if_neg (by decide)];intro s a W hst hj hkp hd;have e0:(_:Value)=.pointer (some ⟨g3,5,none⟩):=(hd 1 (by kernel_rfl)).get 39 rfl rfl;have e0:(_:Value)=.pointer (some ⟨g3,5,none⟩):=(hd 1 (by kernel_rfl)).get 39 rfl rfl;have cc:=CBJ.out s W hj;exact Q00 rfl _ (by go_simp) rfl
      ·rw [if_neg (by decide)];intro s a W hst hj hkp hd;have e0:(_:Value)=.int .i64 ((i:Int)+1):=(hd 2 (by kernel_rfl)).get 40 rfl rfl;have hw:=HWB.out;exact Q00 rfl _ (by go_simp) rfl
      ·rw [if_neg (by decide)];intro s a W hst hj hkp hd;have e0:a.tmps[0]?.getD undef=.pointer (some ⟨g,0,none⟩):=hkp.get (by kernel_rfl) rfl;exact Q00 rfl _ (by go_simp) rfl
      ·rw [if_neg (by decide)];intro s a W hst hj hkp hd;obtain rfl:=Q11 hst rfl (by kernel_rfl);have hb:Below w7.heap.size w7 W:=hj.1;have e0:a.tmps[3]?.getD undef=.pointer (some ⟨g3,0,none⟩):=hkp.get (by kernel_rfl) rfl;exact Q00 rfl _ (by go_simp) rfl
      ·rw [if_neg (by decide)];intro s a W hst hj hkp hd;obtain rfl:=Q11 hst rfl (by kernel_rfl);have hb:Below w7.heap.size w7 W:=hj.1;have e0:(_:Value)=.pointer (some ⟨g3,5,none⟩):=(hd 5 (by kernel_rfl)).get 43 rfl rfl;have cc:=CB.out W hb;exact Q00 rfl _ (by go_simp) rfl
      ·rw [if_neg (by decide)];intro s a W hst hj hkp hd;obtain rfl:=Q11 hst rfl (by kernel_rfl);have hb:Below w7.heap.size w7 W:=hj.1;have e0:(_:Value)=.int .i64 ((i:Int)+1):=(hd 6 (by kernel_rfl)).get 44 rfl rfl;have hw:=HWB.out;exact Q00 rfl _ (by go_simp) rfl
      ·rw [if_neg (by decide)];intro s a W hst hj hkp hd;have e0:(_:Value)=.pointer (some ⟨g,0,none⟩):=(hd 4 (by kernel_rfl)).get 42 rfl rfl;exact Q00 rfl _ (by go_simp) rfl
      ·rw [if_neg (by decide)];intro s a W hst hj hkp hd;have e0:(_:Value)=.pointer (some ⟨g,0,none⟩):=(hd 8 (by kernel_rfl)).get 46 rfl rfl;exact Q00 rfl _ (by go_simp) rfl
      ·rw [if_neg (by decide)];intro s a W hst hj hkp hd;obtain rfl:=Q11 hst rfl (by kernel_rfl);have hb:Below w7.heap.size w7 W:=hj.1;have e0:(_:Value)=.pointer (some ⟨g,1,none⟩):=(hd 9 (by kernel_rfl)).get 47 rfl rfl;have e1:(_:Value)=.int .i64 (i:Int):=(hd 7 (by kernel_rfl)).get 45 rfl rfl;have hlt:=HI2.out;exact Q00 rfl _ (by go_simp) rfl
      ·rw [if_neg (by decide)];intro s a W hst hj hkp hd;obtain rfl:=Q11 hst rfl (by kernel_rfl);have hb:Below w7.heap.size w7 W:=hj.1;have e0:(_:Value)=.pointer (some ⟨g,1+i,none⟩):=(hd 10 (by kernel_rfl)).get 48 rfl rfl;have cc:=CM.out W hb;exact Q00 rfl _ (by go_simp) rfl
      ·rw [if_neg (by decide)];intro s a W hst hj hkp hd;obtain rfl:=Q11 hst rfl (by kernel_rfl);have hb:Below w7.heap.size w7 W:=hj.1;have e0:a.tmps[3]?.getD undef=.pointer (some ⟨g3,0,none⟩):=hkp.get (by kernel_rfl) rfl;exact Q00 rfl _ (by go_simp) rfl
      ·rw [if_neg (by decide)];intro s a W hst hj hkp hd;obtain rfl:=Q11 hst rfl (by kernel_rfl);have hb:Below w7.heap.size w7 W:=hj.1;have e0:(_:Value)=.pointer (some ⟨g3,7,none⟩):=(hd 12 (by kernel_rfl)).get 50 rfl rfl;have cc:=CO.out W hb;exact Q00 rfl _ (by go_simp) rfl
      ·rw [if_neg (by decide)];intro s a W hst hj hkp hd;obtain rfl:=Q11 hst rfl (by kernel_rfl);have hb:Below w7.heap.size w7 W:=hj.1;have e0:a.tmps[3]?.getD undef=.pointer (some ⟨g3,0,none⟩):=hkp.get (by kernel_rfl) rfl;exact Q00 rfl _ (by go_simp) rfl
      ·rw [if_neg (by decide)];intro s a W hst hj hkp hd;obtain rfl:=Q11 hst rfl (by kernel_rfl);have hb:Below w7.heap.size w7 W:=hj.1;have e0:(_:Value)=.pointer (some ⟨g3,8,none⟩):=(hd 14 (by kernel_rfl)).get 52 rfl rfl;have cc:=CZ.out W hb;exact Q00 rfl _ (by go_simp) rfl
      ·rw [if_neg (by decide)];intro s a W hst hj hkp hd;obtain rfl:=Q11 hst rfl (by kernel_rfl);have hb:Below w7.heap.size w7 W:=hj.1;have e0:(_:Value)=.int .i64 o:=(hd 13 (by kernel_rfl)).get 51 rfl rfl;have e1:(_:Value)=.int .i64 z:=(hd 15 (by kernel_rfl)).get 53 rfl rfl;exact Q00 rfl _ (by go_simp) rfl
      ·rw [if_neg (by decide)];intro s a W hst hj hkp hd;obtain rfl:=Q11 hst rfl (by kernel_rfl);have hb:Below w7.heap.size w7 W:=hj.1;have e0:(_:Value)=.agg #[.int .i64 o,.int .i64 z]:=(hd 16 (by kernel_rfl)).get 54 rfl rfl;exact Q21 rfl (.slice (some ⟨W.heap.size,0,none⟩) 1 1) (W.alloc (.cells #[.int .i64 o,.int .i64 z] 168)) (by go_simp) (Q07 _ _) ⟨W.heap.size,rfl,(Blk.new W _ _:Blk _ _ _ _).lt,fun e=>by have:=(Q0a HROW.out e).2; have:=hb.size; omega,Blk.new W _ _⟩
      ·rw [if_pos (by decide)];intro s a W hs hj hkp hd;obtain rfl:=Q8P hs;have hb0:Below w7.heap.size w7 W:=hj.1;have e49:(_:Value)=.slice mA mn mC:=(hd 11 (by kernel_rfl)).get 49 rfl rfl;obtain⟨g9,e55,h9,hne9,hk9⟩:=(hd 17 (by kernel_rfl)).get 55 rfl rfl;have e49':a.eval (.tmp 49)=.slice mA mn mC:=by simpa [Act.eval] using e49
       have e55':a.eval (.tmp 55)=.slice (some ⟨g9,0,none⟩) 1 1:=by simpa [Act.eval] using e55
       have hrow:=Q0f HROW.out fun b hb'=>hb0.block b (Q0a HROW.out hb').2
       refine Q94 rfl (.tmp 49) (.tmp 55) 149 rfl 0 168 i0 _ 2 16 Tryz.underlying149 hi0 hz0 hz1 hz2 rfl (by omega) (.slice mA mn mC) mn (Q0F s.moves) e49' hrow (g9+1) (some ⟨g9,0,none⟩) 1 1 [.int .i64 o,.int .i64 z] e55' ⟨rfl,fun _=>⟨_,rfl,by show g9<g9+1; omega,fun j u hu=>?_⟩⟩ (fun u hu=>by simp at hu; rcases hu with rfl | rfl <;> rfl) (by have:=HMNL.out; unfold maxLen; omega) (by have:=HMNL.out; omega) (Nat.zero_le _) ?_
       ·rw [Q13,Nat.zero_add,hk9.cell,<- Array.getElem?_toList]; exact hu
       ·intro v' w' h2 h3 h4;obtain⟨A2,c2,q1,_,_⟩:=Q3A h2;subst q1;exact⟨h3,K3N.out W w' hj h3,A2,c2,rfl,⟨(Only.of_below hb0).trans ⟨h3.os,h3.tape,h3.output,h3.size,fun i hi hn=>h3.block i hi (fun e=>hn e.symm)⟩,by rw [Q4K]; exact h2,by rcases h4 with e | e; exact .inl e; exact .inr ⟨_,e,hb0.size⟩⟩⟩
      ·rw [if_neg (by decide)];intro s a W hst hj hkp hd;have e0:(_:Value)=.pointer (some ⟨g,0,none⟩):=(hd 0 (by kernel_rfl)).get 38 rfl rfl;exact Q00 rfl _ (by go_simp) rfl
      ·rw [if_neg (by decide)];intro s a W hst hj hkp hd;have e0:(_:Value)=.pointer (some ⟨g,0,none⟩):=(hd 19 (by kernel_rfl)).get 57 rfl rfl;exact Q00 rfl _ (by go_simp) rfl
      ·rw [if_neg (by decide)];intro s a W hst hj hkp hd;have e0:(_:Value)=.pointer (some ⟨g,1,none⟩):=(hd 20 (by kernel_rfl)).get 58 rfl rfl;have e1:(_:Value)=.int .i64 (i:Int):=(hd 3 (by kernel_rfl)).get 41 rfl rfl;have hlt:=HI2.out;exact Q00 rfl _ (by go_simp) rfl
     intro fv W9 hj9 hd9;obtain⟨A2,c2,e56,hup⟩:=hd9 18 (by omega) (by decide) _ 56 rfl rfl;have f59:fv 59=.pointer (some ⟨g,1+i,none⟩):=hd9 21 (by omega) (by decide) _ 59 rfl rfl;obtain⟨hbk9,hnew,hon⟩:=RAWr.movedD (HNL2.out w1 (by omega)) (by have:=HB71.out.size; omega) HS.out hi2 ⟨HOO.out,HUB.out.symm⟩ HMV.out (by rw [<- HMN.out]; exact HMNL.out) HD7.out HP.out (A2:=A2) (c2:=c2) (W9:=W9) (by rw [<- HMN.out,<- HMA.out,<- HMC.out]; exact hup);rw [<- HMN.out] at hnew hon;have HNEW:=Lib.hid hnew;have HON:=Lib.hid hon;have cc9:W9.cell? ⟨g,1+i,none⟩=some _:=(hbk9.cell (1+i)).trans (Q3q _ _ _ (by omega));have cf9:W9.frozen? ⟨g,1+i,none⟩=false:=hbk9.frozen (1+i);have hne4:(Value.slice mA mn mC).ownBlock≠some g4:=Q09 HROW.out K47.out (by decide);have K49:=Lib.hid ((Q0c.setCell W9 ⟨g,1+i,none⟩ (.slice A2 (mn+1) c2)).blk (hup.only.blk K47.out hne4) (fun e=>hgg4 e.symm));generalize raF m S (1+i)=old9 at cc9;clear hj9 hd9 hup hnew hbk9 hon hne4;simp only [Q0H,List.drop_succ_cons,List.drop_zero,f59,e56];try simp only [Act.put,sA1,sA2,sA3]
     go_upto_region 10 with fail
     generalize W9.setCell ⟨g,1+i,none⟩ (.slice A2 (mn+1) c2)=w10 at HNEW HON K49 ⊢;have hs10:=HON.out.size;go_wp2_with (refine Q01 (o:=⟨none,_,_,_,_,_⟩) rfl 47 (.tmp 4) (.tmp 62) rfl g4 0 (anC 0 none 0 0 ((mn:Int)+1) none 0 0) rfl rfl 47 _ K49.out (Q0P _ _ _ _ _ _ _ _) (by simp [anC]) (Q0G _ _ _ _ _ _ _ _) ?_; intro w8 hT8 hD8; rw [Q19 _ rfl] at hD8)
     refine bodyPost_ret (Q0h rfl _ _ g4 4 47 _ _ rfl hD8 Tryz.underlying47 rfl rfl rfl) rfl ?_;have hN4:¬ N g4:=fun hn=>by have:=HNL.out g4 hn; omega
     have hr:=(HNEW.out.only (M:=fun b=>b=g4) (Only.of_turned hT8 rfl) (fun b e=>by rw [e]; exact HNG.out)).mono (N':=N) (fun b _ hb=>HNN.out b hb);exact HPM.out _ _ 0 (mn+1) HA3.out hr ((Only.of_below HB7.out).trans ((HON.out.mono fun b _ hn hb=>hn (HNN.out b hb)).trans (Only.of_turned hT8 hN4)))
  ·rw [decide_eq_false ho1] at HHAS;have HHS:=HHAS;have HA2:=Lib.hid (show Q0s m x=(m,errA 180 mn) from HA1.out.trans ((if_pos (.inl ho1)).trans (by rw [HMN.out])));refine Q0l 13 63 (fun jx W v=>match jx with | 0=>v=.slice (some ⟨gl,0,none⟩) (mn+1) cl | 1=>v=.int .i64 (mn:Int) | 2=>v=.pointer (some ⟨gl,mn*2,none⟩) | 3=>v=.agg C | 4=>v=.pointer (some ⟨g3,7,none⟩) | 5=>v=.int .i64 o | 6=>v=.bool false | 7=>v=.bool true | 8=>v=.bool true | 9=>v=undef | 10=>v=undef | 11=>v=undef | 12=>v=undef | _=>True) [18,19,20,21,22,23,24,25,26,27,28,29,30] (by kernel_rfl) (by kernel_rfl) (by kernel_rfl) (by first | rfl | simp) (by kernel_rfl) (fun jx=>?last) ?heads ?_
   case last =>
    match jx with
    | 0 | 1 | 2 | 3 | 4 | 5 | 6 | 7 | 8 | 9 | 10 | 11 | 12 | jx+13=>exact Q16.pure _
   case heads =>
    simp only [List.take_succ_cons,List.take_zero];refine⟨?_,?_,?_,?_,?_,?_,?_,?_,?_,?_,?_,?_,?_,trivial⟩;all_goals intro a W hb hkp hd
    ·have e0:a.tmps[5]?.getD undef=.slice (some ⟨gl,0,none⟩) (mn+1) cl:=hkp.get (by kernel_rfl) rfl;exact Q00 rfl _ (by go_simp) rfl
    ·have e0:a.tmps[6]?.getD undef=.int .i64 (mn:Int):=hkp.get (by kernel_rfl) rfl;exact Q00 rfl _ (by go_simp) rfl
    ·have e0:(_:Value)=.slice (some ⟨gl,0,none⟩) (mn+1) cl:=(hd 0 (by kernel_rfl)).get 18 rfl rfl;have e1:(_:Value)=.int .i64 (mn:Int):=(hd 1 (by kernel_rfl)).get 19 rfl rfl;have hlt:=HMN1.out;exact Q00 rfl _ (by go_simp) rfl
    ·have e0:(_:Value)=.pointer (some ⟨gl,mn*2,none⟩):=(hd 2 (by kernel_rfl)).get 20 rfl rfl;have e0':a.eval (.tmp 20)=.pointer (some ⟨gl,mn*2,none⟩):=by simpa [Act.eval] using e0
     exact Q00 rfl (.agg C) (Q0m 77 (.tmp 20) rfl gl (mn*2) 2 e0' 77 _ C _ (HBL.out.below' hb) Tryz.underlying77 rfl rfl HCS.out HCV.out) rfl
    ·have e0:a.tmps[3]?.getD undef=.pointer (some ⟨g3,0,none⟩):=hkp.get (by kernel_rfl) rfl;exact Q00 rfl _ (by go_simp) rfl
    ·have e0:(_:Value)=.pointer (some ⟨g3,7,none⟩):=(hd 4 (by kernel_rfl)).get 22 rfl rfl;have cc:=CO.out W hb;exact Q00 rfl _ (by go_simp) rfl
    ·have e0:(_:Value)=.agg C:=(hd 3 (by kernel_rfl)).get 21 rfl rfl;have e1:(_:Value)=.int .i64 o:=(hd 5 (by kernel_rfl)).get 23 rfl rfl;have e0:(_:Value)=.agg C:=(hd 3 (by kernel_rfl)).get 21 rfl rfl;have e1:(_:Value)=.int .i64 o:=(hd 5 (by kernel_rfl)).get 23 rfl rfl;exact Q0w rfl 108 #[.agg C,.int .i64 o] (by go_simp) ((HHS.out W hb).mono fun e w h=>⟨_,h.1,h.2,rfl⟩)
    ·have e0:(_:Value)=.bool false:=(hd 6 (by kernel_rfl)).get 24 rfl rfl;exact Q00 rfl _ (by go_simp) rfl
    ·have e0:(_:Value)=.bool true:=(hd 7 (by kernel_rfl)).get 25 rfl rfl;exact Q00 rfl _ (by go_simp) rfl
    iterate 4 ·have eg:(_:Value)=.bool true:=(hd 8 (by kernel_rfl)).get 26 rfl rfl;exact Q1F (Q0Z rfl rfl eg rfl) rfl
   intro f7 W hbW hd7;have f26:f7 26=.bool true:=hd7 8 (by omega) _ 26 rfl rfl;have f30:f7 30=undef:=hd7 12 (by omega) _ 30 rfl rfl;have HB7:=Lib.hid (HB6.out.trans (hbW.mono HB6.out.size));have K47:=Lib.hid (K46.out.below' hbW);clear hd7 hbW K36 K46;simp only [Q0H,List.drop_succ_cons,List.drop_zero,f26,f30];try simp only [Act.put,sA1,sA2,sA3]
   go_wp2_with (refine Q01 (o:=⟨none,_,_,_,_,_⟩) rfl 47 (.tmp 4) (.tmp 33) rfl g4 0 (errD 180 mn) rfl rfl 47 _ K47.out (Q0P _ _ _ _ _ _ _ _) (by simp [anC,errD]) (Q0G _ _ _ _ _ _ _ _) ?_; intro w8 hT8 hD8; unfold errD at hD8; rw [Q19 _ rfl] at hD8)
   refine bodyPost_ret (Q0h rfl _ _ g4 4 47 _ _ rfl hD8 Tryz.underlying47 rfl rfl rfl) rfl ?_;exact HPI.out _ 180 mn HA2.out (hT8.below HB7.out hgw4)
 ·have hc34b:(cl != 34)=true:=by simpa using hc34
  have HA1:=Lib.hid (show Q0s m x=(m,errA 180 0) from HA.out.trans (if_pos hc34));clear hc34 c35;go_wp2_with (refine Q01 (o:=⟨none,_,_,_,_,_⟩) rfl 47 (.tmp 4) (.tmp 10) rfl g4 0 (errD 180 0) rfl rfl 47 _ K4.out (Q0P _ _ _ _ _ _ _ _) (by simp [anC,errD]) (Q0G _ _ _ _ _ _ _ _) ?_; intro w8 hT8 hD8; unfold errD at hD8; rw [Q19 _ rfl] at hD8)
  refine bodyPost_ret (Q0h rfl _ _ g4 4 47 _ _ rfl hD8 Tryz.underlying47 rfl rfl rfl) rfl ?_;exact HPI.out _ 180 0 HA1.out (hT8.below HX.out hgw4)
end
section
open Go.RowKit Go.Maps
attribute [local irreducible] wpList Q0i
def Q6u (w:World) (g:Nat) (N:Nat->Prop) (m:AM) (p:AM×Ans) (e:Ending) (w':World):Prop:=∃ A c,e=.returned (.agg (anC (p.2.err:Int) none 0 0 (p.2.epoch:Int) A p.2.nodes.length c))/\OwnN w' w.heap.size (.slice A p.2.nodes.length c) p.2.nodes/\RAWr w' g N p.1/\Only (fun b=>¬ N b) w w'/\(p.2.nodes≠[]->p.1=m/\Below w.heap.size w w')
theorem Q98 {m:AM} {x:Wish} {i:Nat} {s:Srv} (hi:x.block=(i:Int)+1) (hs:m.chunks[i]?=some s) (hk:x.kind=3):Q0s m x=(m,⟨0,[],s.moves.length,s.now⟩):=by
 unfold Q0s;rw [show (x.block - 1).toNat=i by omega,hs];simp only;rw [if_pos hk]
theorem Q9e {m:AM} {x:Wish} {i:Nat} (hi:x.block=(i:Int)+1) (hs:m.chunks[i]?=none):Q0s m x=(m,errA 180 0):=by
 unfold Q0s;rw [show (x.block - 1).toNat=i by omega,hs]
theorem Q7e (w:World) (g:Nat) (N:Nat->Prop) (m:AM) (x:Wish) (A:Option Addr) (n c:Nat) (A':Option Addr) (n' c':Nat) (h:RAWr w g N m) (hN:∀ b,N b->b<w.heap.size) (hx:inQ x=true) :
 Calls Tryz.prog 100 #[.pointer (some ⟨g,0,none⟩),.agg (Q05 x A n c A' n' c')] w (Q6u w g N m (Q0s m x)):=by
 obtain⟨_,_,_,_,b1,b2,_⟩:=Q2L hx;obtain⟨i,hi⟩:∃ i:Nat,x.block=(i:Int)+1:=⟨(x.block - 1).toNat,by omega⟩;have hi2:i<2:=by omega
 obtain⟨S,hd,hp⟩:=h;have hX:Below w.heap.size w ((w.alloc (.cells (Q05 x A n c A' n' c') 44)).alloc (.cells (anC 0 none 0 0 0 none 0 0) 47)):=((Below.refl _ _).alloc (Nat.le_refl _) _).alloc (by simp) _;have k3:Blk ((w.alloc (.cells (Q05 x A n c A' n' c') 44)).alloc (.cells (anC 0 none 0 0 0 none 0 0) 47)) w.heap.size 44 (Q05 x A n c A' n' c'):=(Blk.newAt rfl).alloc _;have k4:Blk ((w.alloc (.cells (Q05 x A n c A' n' c') 44)).alloc (.cells (anC 0 none 0 0 0 none 0 0) 47)) (w.heap.size+1) 47 (anC 0 none 0 0 0 none 0 0):=Blk.newAt (by simp);have hz1:((w.alloc (.cells (Q05 x A n c A' n' c') 44)).alloc (.cells (anC 0 none 0 0 0 none 0 0) 47)).heap.size=w.heap.size+2:=by simp
 obtain⟨N',hN'⟩:∃ N':Nat->Prop,N'=fun b=>N b\/b=w.heap.size\/b=w.heap.size+1:=⟨_,rfl⟩
 have HD:=Lib.hid (show ∀ (W:World),Below w.heap.size w W->Q1a W g N' m S from fun W hb=>(hd.mono (fun b hb hn=>by
  rw [hN'] at hn;rcases hn with hn | hn | hn
  ·exact hn
  ·omega
  ·omega)).below hb)
 have HNN:=Lib.hid (show ∀ b,N b->N' b from fun b hb=>by rw [hN']; exact .inl hb);have HNL:=Lib.hid (show ∀ (W:World),w.heap.size+2<=W.heap.size->∀ b,N' b->b<W.heap.size from fun W hW b hb=>by
  rw [hN'] at hb;rcases hb with hb | hb | hb
  ·have:=hN b hb; omega
  ·omega
  ·omega)
 have HNG:=Lib.hid (show N' (w.heap.size+1) by rw [hN']; exact .inr (.inr rfl));have HNO:=Lib.hid (show ∀ b,N b->b<w.heap.size from hN);have HP:=Lib.hid hp;have HX:=Lib.hid hX;have K3:=Lib.hid k3;have K4:=Lib.hid k4;have HZ1:=Lib.hid hz1;have HNX:=Lib.hid (show ∀ q,m.chunks[i]?=none->q=Q0s m x->q=(m,errA 180 0) from fun q hs e=>e.trans (Q9e hi hs));have HQX:=Lib.hid (show ∀ q s,m.chunks[i]?=some s->x.kind=3->q=Q0s m x->q=(m,⟨0,[],s.moves.length,s.now⟩) from fun q s hs hk e=>e.trans (Q98 hi hs hk));have HRP:=Lib.hid (fun(W:World) (s:Srv) (hW:w.heap.size+2<=W.heap.size) (hb:Below w.heap.size w W) (hk:x.kind≠3) (hs:m.chunks[i]?=some s)=>Q8L W g N' m x A n c A' n' c' ⟨S,HD.out W hb,hp⟩ (HNL.out W hW) hx hk i hi s hs);have HCR:=Lib.hid (fun(W:World) (hb:Below w.heap.size w W)=>Q4C W g N' m (i+1) (by omega) S (HD.out W hb));obtain⟨q,hq⟩:∃ q,q=Q0s m x:=⟨_,rfl⟩;rw [<- hq] at HRP ⊢;obtain⟨P,hP⟩:∃ P,P=Q6u w g N m q:=⟨_,rfl⟩;rw [<- hP];have HPI:=Lib.hid (show ∀ w' (er ep:Nat) (l:List Int) (A:Option Addr) (c:Nat),q=(m,⟨er,[],ep,l⟩)->OwnN w' w.heap.size (.slice A l.length c) l->Below w.heap.size w w'->P (.returned (.agg (anC (er:Int) none 0 0 (ep:Int) A l.length c))) w' from fun w' er ep l A c hq ho hb=>by
  rw [hP,hq]; exact⟨A,c,rfl,ho,⟨S,hd.below hb,hp⟩,Only.of_below hb,fun _=>⟨rfl,hb⟩⟩)
 have HPM:=Lib.hid (show ∀ w',q.2.nodes=[]->RAWr w' g N q.1->Only (fun b=>¬ N b) w w'->P (.returned (.agg (errD q.2.err q.2.epoch))) w' from fun w' hn h1 h2=>by
  rw [hP]; exact⟨none,0,by rw [hn]; rfl,by rw [hn]; exact OwnN.nil_ _ _,h1,h2,fun e=>absurd hn e⟩)
 have HQ:=Lib.hid hq;obtain⟨g3,hg3⟩:∃ b,b=w.heap.size:=⟨_,rfl⟩;obtain⟨g4,hg4⟩:∃ b,b=w.heap.size+1:=⟨_,rfl⟩;obtain⟨kd,hkd⟩:∃ q,q=x.kind:=⟨_,rfl⟩;obtain⟨W0,hW0⟩:∃ W0,W0=Q05 x A n c A' n' c':=⟨_,rfl⟩;have w04:W0[4]?=some (.int .i64 kd):=by rw [hW0,hkd]; rfl
 have w05:W0[5]?=some (.int .i64 ((i:Int)+1)):=by rw [hW0,<- hi]; rfl
 have hws:W0.size=10:=by rw [hW0]; simp [Q05]
 rw [<- hkd] at HQX HRP;rw [<- hW0] at HX K3 K4 HZ1 HRP ⊢;have hgl:=hd.cells.lt;clear hN hN' hd hp hX k3 k4 hz1 hP hx hW0 hkd hi hq;go_enter Tryz.func100,Tryz.ntmps100
 go_upto_region 1 with fail
 rw [<- anZ];generalize World.alloc (World.alloc w _) _=w1 at HX K3 K4 HZ1 ⊢;rw [<- hg4] at K4 HNG ⊢;rw [<- hg3] at K3 ⊢;have hz1:=HZ1.out;have hgw3:w.heap.size<=g3:=by omega
 have hgw4:w.heap.size<=g4:=by omega
 have hg34:g3≠g4:=by omega
 have hgg4:g≠g4:=by omega
 have hw1:w.heap.size<=w1.heap.size:=by omega
 have hw12:w.heap.size+2<=w1.heap.size:=by omega
 have hl3:=K3.out.lt;have hl4:=K4.out.lt;have c35:=(K3.out.cell 5).trans w05;have HCR1:=Lib.hid (HCR.out w1 HX.out);have HCR2:=Lib.hid (show Calls Tryz.prog 97 #[.pointer (some ⟨g,0,none⟩),.int .i64 ((i:Int)+1)] w1 (Q5i w1 m (i+1)) from HCR1.out);clear hg3 hg4 HZ1 hz1 HCR HCR1;go_wp2_with fail
 refine HCR2.out.mono ?_;rintro _ w6 ⟨v,nA,nC,rfl,hown,hb6⟩;have hs6:=hb6.size;have HB6:=Lib.hid (HX.out.trans (hb6.mono hw1));have K36:=Lib.hid (K3.out.below' hb6);have K46:=Lib.hid (K4.out.below' hb6);clear hb6 HCR2 K3 K4 c35;cases hs:m.chunks[i]? with
 | none =>
  have hn:crLs m (i+1)=[]:=by unfold crLs; rw [if_neg (by omega),show i+1 - 1=i by omega,hs]
  rw [hn] at hown;obtain⟨A0,c0,hv,_,_⟩:=Q3A hown.row;rw [List.length_nil] at hv;have HE:=Lib.hid (HNX.out q hs HQ.out);subst hv;clear hown hn;go_wp2_with (refine Q01 (o:=⟨none,_,_,_,_,_⟩) rfl 47 (.tmp 4) (.tmp 13) rfl g4 0 (errD 180 0) rfl rfl 47 _ K46.out (Q0P _ _ _ _ _ _ _ _) (by simp [anC,errD]) (Q0G _ _ _ _ _ _ _ _) ?_; intro w8 hT8 hD8; unfold errD at hD8; rw [Q19 _ rfl] at hD8)
  refine bodyPost_ret (Q0h rfl _ _ g4 4 47 _ _ rfl hD8 Tryz.underlying47 rfl rfl rfl) rfl ?_;exact HPI.out w8 180 0 [] none 0 HE.out (OwnN.nil_ _ _) (hT8.below HB6.out hgw4)
 | some s =>
  have e1:crFa m (i+1)=s.f:=by unfold crFa; rw [show i+1 - 1=i by omega,hs]
  have e2:crLs m (i+1)=Q0U s.first s.moves:=by unfold crLs; rw [if_neg (by omega),show i+1 - 1=i by omega,hs]
  rw [e1,e2] at hown;have hat:(Q0U s.first s.moves)[s.moves.length]?=some s.now:=by
   have:=Q4j s.first s.moves s.moves.length (Nat.le_refl _);rw [List.take_length] at this;exact this
  obtain⟨gl,cl,hv,hBl,hll,hcell⟩:=hown.at_ hat;have hno:=hown.nodes _ _ hat;rw [Q1r] at hv;have hl21:=((HD.out w (Below.refl _ _)).ok.srv s (List.mem_of_getElem? hs)).len;obtain⟨nA',hnA⟩:∃ a,a=nA s.moves.length:=⟨_,rfl⟩;obtain⟨nC',hnC⟩:∃ a,a=nC s.moves.length:=⟨_,rfl⟩;rw [<- hnA,<- hnC] at hcell hno;obtain⟨mn,hmn⟩:∃ q,q=s.moves.length:=⟨_,rfl⟩;rw [<- hmn] at hcell hv hl21;subst hv;have HS:=Lib.hid hs;have HMN:=Lib.hid hmn;have HNOW:=Lib.hid (OwnN.more (B':=w.heap.size) hno hw1);have c34:=(K36.out.cell 4).trans w04;obtain⟨nl,hnl⟩:∃ k,k=s.now.length:=⟨_,rfl⟩;rw [<- hnl] at hcell;have HNLE:=Lib.hid hnl;have hmI:(mn:Int)<(mn:Int)+1:=by omega
  have hwm:IntKind.i64.wrap (mn:Int)=(mn:Int):=IntWalk.i64_in _ (by omega);clear hown e1 e2 hat hno hnA hnC hmn hnl hs;by_cases hk3:kd=3
  ·have HE:=Lib.hid (HQX.out q s HS.out hk3 HQ.out);subst hk3;go_wp2_with (refine Q01 (o:=⟨none,_,_,_,_,_⟩) rfl 47 (.tmp 4) (.tmp 27) rfl g4 0 (anC 0 none 0 0 (mn:Int) nA' nl nC') rfl rfl 47 _ K46.out (Q0P _ _ _ _ _ _ _ _) (by simp [anC]) (Q0G _ _ _ _ _ _ _ _) ?_; intro w8 hT8 hD8; rw [Q19 _ rfl] at hD8)
   refine bodyPost_ret (Q0h rfl _ _ g4 4 47 _ _ rfl hD8 Tryz.underlying47 rfl rfl rfl) rfl ?_;have hne:OwnN w8 w.heap.size (.slice nA' s.now.length nC') s.now:=HNOW.out.keep_ fun b hb=>hT8.block b fun e=>Q09 HNOW.out K46.out (by decide) (by rw [hb,e])
   have:=HPI.out w8 0 mn s.now nA' nC' (by rw [HMN.out]; exact HE.out) hne (hT8.below HB6.out hgw4);rw [<- HNLE.out] at this;exact this
  ·have hk3b:(kd == 3)=false:=by simpa using hk3
   have HRC:=Lib.hid (HRP.out w6 s (by omega) HB6.out hk3 HS.out);go_wp2_with (refine Q03 (o:=⟨some 29,_,_,_,_,_⟩) rfl 44 (.tmp 3) rfl g3 0 10 rfl 44 _ W0 _ K36.out Tryz.underlying44 rfl rfl hws (fun _ _=>by rw [Nat.zero_add]) ?_)
   refine HRC.out.mono ?_;rintro _ w7 ⟨rfl,hnil,hrw,hon⟩;have hng4:Blk w7 g4 47 (anC 0 none 0 0 0 none 0 0):=hon.blk K46.out (fun hn=>hn HNG.out);have HR7:=Lib.hid hrw;have HO7:=Lib.hid hon;have HK7:=Lib.hid hng4;have HNIL:=Lib.hid hnil;have hed:(errD q.2.err q.2.epoch).size=4:=rfl;obtain⟨D,hD⟩:∃ D,D=errD q.2.err q.2.epoch:=⟨_,rfl⟩;have hdo:D.all (·.oneCell')=true:=by rw [hD]; exact Q0G _ _ _ _ _ _ _ _
   rw [<- hD] at hed ⊢;have HDD:=Lib.hid hD;clear hrw hon hng4 hnil HRC HRP hD;go_wp2_with (refine Q01 (o:=⟨none,_,_,_,_,_⟩) rfl 47 (.tmp 4) (.tmp 30) rfl g4 0 D rfl rfl 47 _ HK7.out (by rw [hed]; kernel_rfl) (by rw [hed]; simp [anC]) hdo ?_; intro w8 hT8 hD8; rw [Q08 _ _ (by rw [hed]; rfl)] at hD8)
   refine bodyPost_ret (Q0h rfl _ _ g4 4 47 _ _ rfl hD8 Tryz.underlying47 rfl rfl hed) rfl ?_;rw [HDD.out];exact HPM.out w8 HNIL.out ((HR7.out.only (M:=fun b=>b=g4) (Only.of_turned hT8 rfl) (fun b e=>by rw [e]; exact HNG.out)).mono fun b _ hb=>HNN.out b hb) ((Only.of_below HB6.out).trans ((HO7.out.mono fun b _ hn hb=>hn (HNN.out b hb)).trans (Only.of_turned hT8 (fun hn=>by have:=HNO.out g4 hn; omega))))
end
end Go.Proofs.YtcpngeiahgoacaaGreat
