/- Parts of the proof, in one text. -/
import Derived.Test.YtckjnbjiafgibaaGreatL11
import Derived.Test.YtckjnbjiafgibaaGreatL7
import Derived.Test.YtckjnbjiafgibaaGreatL8
import Derived.Test.YtckjnbjiafgibaaGreatL9
import Derived.Test.YtckjnbjiafgibaaGreatL5
import Derived.BigRegion
import Derived.Deep.DeepCutAuto
import Derived.Test.YtckjnbjiafgibaaGreatL4
import Derived.Test.YtckjnbjiafgibaaGreatL10
import Derived.ProofKit
import Derived.Test.YtckjnbjiafgibaaGreatL1
namespace Go.Proofs.YtckjnbjiafgibaaGreat
set_option linter.unusedVariables false
set_option linter.unusedSimpArgs false
set_option maxRecDepth 100000
set_option maxHeartbeats 16000000
open _root_.Go renaming Addr->zA,World->zB,Value->zC
open _root_.Go.Proofs.Tryz renaming prog->zH
open _root_.Go.RowKit renaming Below->zE
open _root_.Go.RowKit.Below renaming refl->zK
open _root_.List renaming getElem?_eq_getElem->zD,range->zG,length_append->zJ,getD_eq_getElem?_getD->zL,getElem_mem->zM,length_cons->zN
open _root_.Nat renaming lt_or_ge->zF,le_refl->zI
open _root_.Option.some renaming inj->zO
section
open Go.RowKit Go.Maps
attribute [local irreducible] wpList Q0c
def numF (xss:LL) (j:Nat):List Nat:=(Q28 (xss.getD j [])).getD []
def sixV (vs:Nat->zC) (i:Nat):Array zC:=rng 6 (fun j=>if j<i then vs j else .slice none 0 0)
theorem Q8b (vs:Nat->zC):sixV vs 0=#[.slice none 0 0,.slice none 0 0,.slice none 0 0,.slice none 0 0,.slice none 0 0,.slice none 0 0]:=rfl
theorem Q3i (vs:Nat->zC) (i j:Nat) (h:j<6):(sixV vs i)[j]?=some (if j<i then vs j else .slice none 0 0):=Q15 _ _ _ h
theorem sixV_set (vs:Nat->zC) (i:Nat) (v:zC):(sixV vs i).setIfInBounds i v=sixV (upd vs i v) (i+1):=by
 unfold sixV;rw [Q1w];refine Q10 fun j hj=>?_
 by_cases h:j=i
 ·subst h; rw [if_pos rfl,if_pos (by omega),Q13]
 rw [if_neg h];by_cases h2:j<i
 ·rw [if_pos h2,if_pos (by omega),Q0W _ _ _ h]
 rw [if_neg h2,if_neg (by omega)]
structure NmSt (w:zB) (g6:Nat) (xss:LL) (i:Nat) (wr:zB):Prop where
 blk:∃ vs:Nat->zC,Blk wr g6 122 (sixV vs i)/\∀ j,j<i->OwnN wr w.heap.size (vs j) (nI (numF xss j))
 max:∀ j,j<i->∀ x,x∈numF xss j->x<=maxN
 is_:∀ j,j<i->(Q28 (xss.getD j [])).isSome=true
 low:zE w.heap.size w wr
 g6:w.heap.size<=g6
theorem NmSt.below {w wr W:zB} {g6:Nat} {xss:LL} {i:Nat} (h:NmSt w g6 xss i wr) (hb:zE wr.heap.size wr W):NmSt w g6 xss i W:=by obtain⟨vs,h1,h2⟩:=h.blk;exact⟨⟨vs,h1.below' hb,fun j hj=>(h2 j hj).below_ hb⟩,h.max,h.is_,h.low.trans (hb.mono h.low.size),h.g6⟩
theorem NmSt.push {w wr w2:zB} {g6:Nat} {xss:LL} {i:Nat} {v:zC} (h:NmSt w g6 xss i wr) (hb:zE wr.heap.size wr w2) (ho:OwnN w2 wr.heap.size v (nI (numF xss i))) (hm:∀ x,x∈numF xss i->x<=maxN) (hs:(Q28 (xss.getD i [])).isSome=true):NmSt w g6 xss (i+1) (w2.setCell ⟨g6,i,none⟩ v):=by
 obtain⟨vs,h1,h2⟩:=(h.below hb).blk;have hT:=Q06.setCell w2 ⟨g6,i,none⟩ v;have hl:=h.low.size;refine⟨⟨upd vs i v,?_,fun j hj=>?_⟩,fun j hj=>?_,fun j hj=>?_,hT.below (h.below hb).low h.g6,h.g6⟩
 ·rw [<- sixV_set]; exact h1.set_ i v
 ·by_cases e:j=i
  ·subst e;rw [Q13];exact(OwnN.more ho hl).keep_ fun b hb'=>hT.block b (fun e=>Q09 ho h1 (by decide) (by rw [hb',e]))
  rw [Q0W _ _ _ e];have:=h2 j (by omega);exact this.keep_ fun b hb'=>hT.block b (fun e=>Q09 this h1 (by decide) (by rw [hb',e]))
 ·rcases zF j i with e | e
  ·exact h.max j e
  obtain rfl:j=i:=by omega
  exact hm
 rcases zF j i with e | e
 ·exact h.is_ j e
 obtain rfl:j=i:=by omega
 exact hs
theorem Q3N {xss:LL} (h:¬ (xss.length=6/\(∀ i,i<6->(Q28 (xss.getD i [])).isSome=true))):Q2h xss=none:=if_neg h
theorem Q6t {xss:LL} (h1:xss.length=6) (h2:∀ i,i<6->(Q28 (xss.getD i [])).isSome=true):Q2h xss=Q7W (numF xss):=if_pos ⟨h1,h2⟩
def fstF (xss:LL) (j:Nat):(Int×List Int)×List Int:=(Q2i (numF xss j)).getD ((0,[]),[])
structure SaSt (w:zB) (g6:Nat) (xss:LL) (vs:Nat->zC) (wr:zB):Prop where
 blk:Blk wr g6 122 (sixV vs 6)
 own:∀ j,j<6->OwnN wr w.heap.size (vs j) (nI (numF xss j))
 low:zE w.heap.size w wr
theorem SaSt.below {w wr W:zB} {g6:Nat} {xss:LL} {vs:Nat->zC} (h:SaSt w g6 xss vs wr) (hb:zE wr.heap.size wr W):SaSt w g6 xss vs W :=⟨h.blk.below' hb,fun j hj=>(h.own j hj).below_ hb,h.low.trans (hb.mono h.low.size)⟩
theorem NmSt.sa {w wr:zB} {g6:Nat} {xss:LL} (h:NmSt w g6 xss 6 wr):∃ vs,SaSt w g6 xss vs wr:=by obtain⟨vs,h1,h2⟩:=h.blk;exact⟨vs,h1,h2,h.low⟩
def Q4P (q:(Int×List Int)×List Int) (A:Option zA) (c:Nat):List zC:=[.int .i64 q.1.1,.slice A q.1.2.length c]
def Q1G (xss:LL) (fA:Nat->Option zA) (fC:Nat->Nat):Nat->List zC
 | 0=>[]
 | i+1=>Q1G xss fA fC i++Q4P (fstF xss i) (fA i) (fC i)
theorem Q6c (xss:LL) (fA:Nat->Option zA) (fC:Nat->Nat):∀ i,(Q1G xss fA fC i).length=i*2
 | 0=>rfl
 | i+1=>by show (Q1G xss fA fC i++Q4P _ _ _).length=_;rw [zJ,Q6c xss fA fC i];show i*2+2=_;omega
theorem Q6e (xss:LL) (fA:Nat->Option zA) (fC:Nat->Nat) (k:Nat) (A:Option zA) (c:Nat):∀ i,i<=k->Q1G xss (upd fA k A) (upd fC k c) i=Q1G xss fA fC i
 | 0,_=>rfl
 | i+1,h=>by show Q1G xss (upd fA k A) (upd fC k c) i++Q4P _ _ _=Q1G xss fA fC i++Q4P _ _ _;rw [Q6e xss fA fC k A c i (by omega),Q0W _ _ _ (by omega),Q0W _ _ _ (by omega)]
theorem Q63 (xss:LL) (fA:Nat->Option zA) (fC:Nat->Nat):∀ (i j:Nat),j<i->(Q1G xss fA fC i)[j*2]?=some (.int .i64 (fstF xss j).1.1)/\(Q1G xss fA fC i)[j*2+1]?=some (.slice (fA j) (fstF xss j).1.2.length (fC j))
 | i+1,j,h=>by
  show (Q1G xss fA fC i++Q4P _ _ _)[j*2]?=_/\(Q1G xss fA fC i++Q4P _ _ _)[j*2+1]?=_;have hl:=Q6c xss fA fC i;by_cases e:j=i
  ·subst e;rw [List.getElem?_append_right (by omega),List.getElem?_append_right (by omega),hl,Nat.sub_self,show j*2+1 - j*2=1 by omega];exact⟨rfl,rfl⟩
  rw [List.getElem?_append_left (by omega),List.getElem?_append_left (by omega)];exact Q63 xss fA fC i j (by omega)
def twoV (ms:Nat->zC) (i:Nat):Array zC:=rng 2 (fun j=>if j<i then ms j else .slice none 0 0)
theorem Q89 (ms:Nat->zC):twoV ms 0=#[.slice none 0 0,.slice none 0 0]:=rfl
theorem Q7i (ms:Nat->zC) (i j:Nat) (h:j<2):(twoV ms i)[j]?=some (if j<i then ms j else .slice none 0 0):=Q15 _ _ _ h
theorem twoV_set (ms:Nat->zC) (i:Nat) (v:zC):(twoV ms i).setIfInBounds i v=twoV (upd ms i v) (i+1):=by
 unfold twoV;rw [Q1w];refine Q10 fun j hj=>?_
 by_cases h:j=i
 ·subst h; rw [if_pos rfl,if_pos (by omega),Q13]
 rw [if_neg h];by_cases h2:j<i
 ·rw [if_pos h2,if_pos (by omega),Q0W _ _ _ h]
 rw [if_neg h2,if_neg (by omega)]
structure FsOk (B:Nat) (xss:LL) (u:zC) (j:Nat) (A1:Option zA) (c1:Nat) (m:zC):Prop where
 is_:Q2i (numF xss j)=some (fstF xss j)
 fl:∃ f:Nat,(fstF xss j).1.1=(f:Int)/\f<=2
 rd:∀ W,OwnN W B u (nI (numF xss j))->Q04 W W.heap.size 1 A1 (fstF xss j).1.2.length ((fstF xss j).1.2.map vn)
 mv:∃ A c,m=.slice A (fstF xss j).2.length c/\(∀ W,OwnN W B u (nI (numF xss j))->Q04 W W.heap.size 1 A (fstF xss j).2.length ((fstF xss j).2.map vn))/\(fstF xss j).2.length<=c
structure ChS (w:zB) (g6 g12:Nat) (xss:LL) (vs:Nat->zC) (fA:Nat->Option zA) (fC:Nat->Nat) (ms:Nat->zC) (i:Nat) (cv:zC) (wr:zB):Prop where
 sa:SaSt w g6 xss vs wr
 row:wr.ownsRow w.heap.size 69 2 cv i (Q1G xss fA fC i)
 arr:Blk wr g12 125 (twoV ms i)
 ok:∀ j,j<i->FsOk w.heap.size xss (vs j) j (fA j) (fC j) (ms j)
 gs:w.heap.size<=g12/\g6≠g12
theorem ChS.below {w wr W:zB} {g6 g12 i:Nat} {xss:LL} {vs ms:Nat->zC} {fA:Nat->Option zA} {fC:Nat->Nat} {cv:zC} (h:ChS w g6 g12 xss vs fA fC ms i cv wr) (hb:zE wr.heap.size wr W):ChS w g6 g12 xss vs fA fC ms i cv W :=⟨h.sa.below hb,Q0k h.row fun b hb'=>hb.block b (Q0f h.row hb').2,h.arr.below' hb,h.ok,h.gs⟩
theorem ChS.push {w wr W W':zB} {g6 g12 i:Nat} {xss:LL} {vs ms:Nat->zC} {fA:Nat->Option zA} {fC:Nat->Nat} {cv v':zC} {A1:Option zA} {c1:Nat} {m:zC} (h:ChS w g6 g12 xss vs fA fC ms i cv wr) (hb:zE wr.heap.size wr W)
 (hown:W'.ownsRow w.heap.size 69 2 v' (i+1) (Q1G xss fA fC i++Q4P (fstF xss i) A1 c1)) (hg:W.grownBy W' cv.ownBlock) (hq:FsOk w.heap.size xss (vs i) i A1 c1 m) :
 ChS w g6 g12 xss vs (upd fA i A1) (upd fC i c1) (upd ms i m) (i+1) v' (W'.setCell ⟨g12,i,none⟩ m):=by
 have hW:=h.below hb;have hT:=Q06.setCell W' ⟨g12,i,none⟩ m;have hlow:=h.sa.low.size;have hbs:=hb.size;have n6:cv.ownBlock≠some g6:=Q09 hW.row hW.sa.blk (by decide);have n12:cv.ownBlock≠some g12:=Q09 hW.row hW.arr (by decide);have a1:Blk W' g6 122 (sixV vs 6):=(hg.block g6 hW.sa.blk.lt (fun e=>n6 e.symm)).trans hW.sa.blk;have a2:Blk W' g12 125 (twoV ms i):=(hg.block g12 hW.arr.lt (fun e=>n12 e.symm)).trans hW.arr;refine⟨⟨(hT.block g6 h.gs.2).trans a1,fun j hj=>?_,?_⟩,?_,?_,fun j hj=>?_,h.gs⟩
 ·have ho:=hW.sa.own j hj;have ho':OwnN W' w.heap.size (vs j) (nI (numF xss j)):=ho.keep_ fun b hb'=>hg.block b (Q0f ho hb').2 fun e=>by
   rcases hW.row.2 with⟨e1,_⟩ | ⟨gc,cap,cur,e1,_,e3,_⟩
   ·rw [e1] at e; cases e
   have hB:Blk W gc 69 cur:=e3;rw [e1] at e;have e':b=gc:=by simpa [Value.ownBlock] using e
   exact Q09 ho hB (by decide) (e'▸hb')
  exact ho'.keep_ fun b hb'=>hT.block b fun e=>Q09 ho' a2 (by decide) (by rw [hb',e])
 ·exact hT.below (Q0i hW.sa.low (by omega) hg fun b e=>(Q0f hW.row e).1) h.gs.1
 ·have hr:W'.ownsRow w.heap.size 69 2 v' (i+1) (Q1G xss (upd fA i A1) (upd fC i c1) (i+1)):=by
   show W'.ownsRow _ _ _ _ _ (Q1G xss (upd fA i A1) (upd fC i c1) i++Q4P (fstF xss i) (upd fA i A1 i) (upd fC i c1 i));rw [Q6e _ _ _ _ _ _ i (zI _),Q13,Q13];exact hown
  exact Q0k hr fun b hb'=>hT.block b fun e=>Q09 hr a2 (by decide) (by rw [hb',e])
 ·rw [<- twoV_set]; exact a2.set_ i m
 by_cases e:j=i
 ·subst e; rw [Q13,Q13,Q13]; exact hq
 rw [Q0W _ _ _ e,Q0W _ _ _ e,Q0W _ _ _ e]; exact h.ok j (by omega)
theorem ChS.crews {w wr:zB} {g6 g12 i:Nat} {xss:LL} {vs ms:Nat->zC} {fA:Nat->Option zA} {fC:Nat->Nat} {cv:zC} (h:ChS w g6 g12 xss vs fA fC ms i cv wr) (hi:i<=6) (hl:∀ j,j<i->(fstF xss j).1.2.length<=100):∃ A c,cv=.slice A i c/\Q1g wr A i ((zG i).map fun j=>(fstF xss j).1):=by
 have hrd:∀ j,j<i->Q04 wr wr.heap.size 1 (fA j) (fstF xss j).1.2.length ((fstF xss j).1.2.map vn):=fun j hj=>(h.ok j hj).rd wr (h.sa.own j (by omega))
 rcases h.row.2 with⟨e,h0⟩ | ⟨gl,cap,cur,e,h2,h3,h4,h5,h6,h7⟩
 ·subst h0;exact⟨none,0,e,⟨rfl,fun h1=>by omega⟩⟩
 refine⟨some ⟨gl,0,none⟩,cap,e,⟨by simp,fun h1=>⟨gl,cur,rfl,h3,fun j f l hj=>?_⟩⟩⟩;rw [List.getElem?_map] at hj;have hji:j<i:=by
  rcases zF j i with q | q
  ·exact q
  rw [List.getElem?_eq_none (by simpa using q)] at hj; cases hj
 rw [List.getElem?_range hji] at hj;have e1:(fstF xss j).1=(f,l):=zO hj;have hg:=Q63 xss fA fC i j hji;have ht:∀ q,q<i*2->cur[q]?=(Q1G xss fA fC i)[q]?:=fun q hq'=>by rw [<- h7,List.getElem?_take,if_pos hq',Array.getElem?_toList]
 have hr:=hrd j hji;have hl':=hl j hji;rw [e1] at hg hr hl';exact⟨fA j,fC j,by rw [ht _ (by omega)]; exact hg.1,by rw [ht _ (by omega)]; exact hg.2,hr,by show l.length<=_; have:l.length<=100:=hl'; omega⟩
theorem Q5D:∀ (f:Nat) (b:List UInt8) (l:List Nat),Q2I f b=some l->l.length<=f
 | 0,b,l,h=>by
  unfold Q2I at h;split at h
  ·rw [<- zO h]; simp
  cases h
 | f+1,b,l,h=>by
  unfold Q2I at h;split at h
  ·rw [<- zO h]; simp
  split at h
  ·cases h
  cases hq:Q2I f (tn b).2.1 with
  | none=>rw [hq] at h; cases h
  | some t =>rw [hq] at h;have:=Q5D f _ t hq;have e:=zO h;rw [<- e,zN]; omega
theorem Q4U (xss:LL) (j:Nat):(numF xss j).length<=(xss.getD j []).length:=by
 unfold numF;cases hq:Q28 (xss.getD j []) with
 | none=>exact Nat.zero_le _
 | some l=>exact Q5D _ _ l hq
theorem Q7S {f:Nat->List Nat} {nch i:Nat} (hn:nch=if f 1=[0] then 1 else 2) (hi:i<nch) (h:Q2i (f i)=none):Q7W f=none:=by
 unfold Q7W;by_cases h1:f 1=[0]
 ·rw [if_pos h1] at hn ⊢;obtain rfl:i=0:=by omega
  rw [h]
 rw [if_neg h1] at hn ⊢;obtain rfl | rfl:i=0\/i=1:=by omega
 ·rw [h]
 cases Q2i (f 0) with
 | none=>rfl
 | some p=>simp only; rw [h]
theorem Q91 {cs:List (Int×List Int)} {ms ms':Nat->List Int} {f:Nat->List Nat} (h0:ms 0=ms' 0) (h1:ms 1=ms' 1):Q4L cs ms f=Q4L cs ms' f:=by unfold Q4L;rw [h0,h1]
theorem Q6E {f:Nat->List Nat} {nch:Nat} {q:Nat->(Int×List Int)×List Int} (hn:nch=if f 1=[0] then 1 else 2) (h:∀ j,j<nch->Q2i (f j)=some (q j)):Q7W f=Q4L ((zG nch).map fun j=>(q j).1) (fun j=>if j<nch then(q j).2 else []) f:=by
 unfold Q7W;by_cases h1:f 1=[0]
 ·rw [if_pos h1] at hn ⊢;subst hn;rw [h 0 (by omega)];exact Q91 rfl rfl
 rw [if_neg h1] at hn ⊢;subst hn;rw [h 0 (by omega),h 1 (by omega)];exact Q91 rfl rfl
end
section
open Go.RowKit Go.Maps
theorem ADat.lastedF {w w':zB} {g gc j st:Nat} {t:Option zA} {N:Nat->Prop} {m:AM} {S:ASl} {a:Ans} {A:Option zA} {k:Nat} (h:ADat w g gc t N m S) (hj:j<4) (hg:g≠gc) (hT:Q06 g w w')
 (hb:Blk w' g 84 (spl (aCs t gc m S) (2+j*5) (lsC st a A k).toList)) (hf:FarN w' (fun b=>N b\/IsMv S m.chunks.length b) A k a.nodes) (hok:AOk (lsQ m j st a)):ADat w' g gc t N (lsQ m j st a) (lsS S j A k):=by
 have ho:Only (fun b=>b=g) w w':=Only.of_turned hT rfl;rw [aCs_ls _ _ _ _ _ _ _ _ _ h.ok.last hj] at hb;refine h.head ho hg hb rfl hok rfl fun i hi=>?_
 by_cases e:i=j
 ·subst e;rw [Q79 h.ok.last hi];show FarN w' _ (upd S.lA i A i) (upd S.lC i k i) _;rw [Q13,Q13];exact hf
 rw [Q47 e];show FarN w' _ (upd S.lA j A i) (upd S.lC j k i) _;rw [Q0W _ _ _ e,Q0W _ _ _ e];exact(h.nodes i hi).only ho (fun b e=>.inl (e▸h.gN.1))
theorem Q3k {l:List Nat} {q:(Int×List Int)×List Int} (h:Q2i l=some q):q.1.2.length<=7/\q.2.length<=42:=by
 unfold Q2i at h;split at h
 ·cases h
 rename_i hb;obtain rfl:=zO h;unfold badF at hb;refine⟨?_,?_⟩
 ·show (nI ((l.drop 2).take _)).length<=7;rw [Q2J,List.length_take,List.length_drop]; omega
 show (nI (l.drop _)).length<=42;rw [Q2J,List.length_drop]; omega
theorem toldQ_ok {l:List Nat} {x:Nat×Ans} (hm:∀ z,z∈l->z<=maxN) (h:Q34 l=some x):x.1<=maxN/\Q6R x.2/\(x.1=0->x.2=okA):=by
 unfold Q34 at h;split at h
 ·cases h
 rename_i hb;obtain rfl:=zO h;unfold badT at hb;obtain⟨l0,hl0⟩:∃ k,k=l.getD 0 0:=⟨_,rfl⟩;obtain⟨l1,hl1⟩:∃ k,k=l.getD 1 0:=⟨_,rfl⟩;obtain⟨l2,hl2⟩:∃ k,k=l.getD 2 0:=⟨_,rfl⟩;have hlen:4<=l.length:=by
  rcases zF l.length 4 with q | q
  ·exact absurd (.inl q) hb
  exact q
 have h0:l.getD 0 0<=maxN:=by rw [zL,zD (by omega)]; exact hm _ (zM _)
 rw [<- hl0,<- hl1,<- hl2] at hb ⊢;rw [<- hl0] at h0;have hdr:l.length=4->nI (l.drop 4)=[]:=fun e=>by rw [List.drop_eq_nil_of_le (by omega)]; rfl
 have e1:l1=0\/l1=5\/l1=180:=Classical.byContradiction fun q=>hb (.inr (.inr (.inr (.inl q))))
 have e2:l2<=21:=by
  rcases zF l2 22 with q | q
  ·omega
  exact absurd (.inr (.inr (.inl q))) hb
 have e3:nI (l.drop 4)=[]\/Q2m (nI (l.drop 4))=true:=by
  rcases zF 4 l.length with q | q
  ·right
   cases hc:Q2m (nI (l.drop 4)) with
   | true=>rfl
   | false=>exact absurd (.inr (.inr (.inr (.inr (.inl ⟨q,hc⟩))))) hb
  exact .inl (hdr (by omega))
 have e4:0<l0\/(l1=0/\l2=0/\l.length=4):=Classical.byContradiction fun q=>hb (.inr (.inr (.inr (.inr (.inr q)))))
 refine⟨h0,⟨e1,rfl,e2,e3⟩,fun hz=>?_⟩;have hz':l0=0:=hz;rcases e4 with q | ⟨q1,q2,q3⟩
 ·omega
 show (⟨l1,[],l2,nI (l.drop 4)⟩:Ans)=okA;rw [q1,q2,hdr q3]; rfl
def remQ (mv:Nat->List Int) (i:Nat) (cs:List Srv) (rest:List Int):Option (List Srv):=(Q1n cs i rest).bind fun c1=>if i=0 then Q1n c1 1 (mv 1) else some c1
def Qbx (mv:Nat->List Int) (i:Nat) (cs:List Srv):Option (List Srv):=if i<2 then remQ mv i cs (mv i) else some cs
theorem Q7a {cs:List Srv} {i:Nat} {rest:List Int} (h:rest.length<=1):Q1n cs i rest=some cs:=by
 match rest,h with
 | [],_=>rfl
 | [x],_=>rfl
theorem remQ_end {mv:Nat->List Int} {i:Nat} {cs:List Srv} {rest:List Int} (hi:i<2) (h:rest.length<=1):remQ mv i cs rest=Qbx mv (i+1) cs:=by
 unfold remQ Qbx;rw [Q7a h];obtain rfl | rfl:i=0\/i=1:=by omega
 ·show Q1n cs 1 (mv 1)=remQ mv 1 cs (mv 1);unfold remQ;cases Q1n cs 1 (mv 1) <;> rfl
 rfl
theorem remQ_bad {mv:Nat->List Int} {i:Nat} {cs:List Srv} {s:Srv} {o z:Int} {t:List Int} (hs:cs[i]?=some s) (h:¬ (Q0H cs s.f z=false/\Q1I s.now o z)):remQ mv i cs (o :: z :: t)=none:=by unfold remQ Q1n;rw [hs];simp only;rw [if_neg h]; rfl
theorem QaJ {mv:Nat->List Int} {i:Nat} {cs:List Srv} {s:Srv} {o z:Int} {t:List Int} (hs:cs[i]?=some s) (h:Q0H cs s.f z=false/\Q1I s.now o z):remQ mv i cs (o :: z :: t)=remQ mv i (cs.set i (Q1b s o z)) t:=by unfold remQ;rw [show Q1n cs i (o :: z :: t)=Q1n (cs.set i (Q1b s o z)) i t from by rw [Q1n];rw [hs];simp only;rw [if_pos h]]
structure OmSt (w3:zB) (g gc nch:Nat) (T:Option (List Srv)) (mv:Nat->List Int) (i:Nat) (cs:List Srv) (rest:List Int) (wr:zB):Prop where
 dat:∃ S,ADat wr g gc none (fun b=>b=g\/b=gc\/b<w3.heap.size) (Q1k cs) S
 low:zE w3.heap.size w3 wr
 len:cs.length=nch
 tot:T=remQ mv i cs rest
 bare:∀ j s,i<j->cs[j]?=some s->s.moves=[]
 bnd:∀ s,cs[i]?=some s->s.moves.length*2+rest.length<=42
 has:0<rest.length->i<nch
structure OhSt (w3:zB) (g gc nch:Nat) (T:Option (List Srv)) (mv:Nat->List Int) (i:Nat) (cs:List Srv) (wr:zB):Prop where
 dat:∃ S,ADat wr g gc none (fun b=>b=g\/b=gc\/b<w3.heap.size) (Q1k cs) S
 low:zE w3.heap.size w3 wr
 len:cs.length=nch
 tot:T=Qbx mv i cs
 bare:∀ j s,i<=j->cs[j]?=some s->s.moves=[]
theorem OhSt.enter {w3 wr:zB} {g gc nch i:Nat} {T:Option (List Srv)} {mv:Nat->List Int} {cs:List Srv} (h:OhSt w3 g gc nch T mv i cs wr) (hi:i<2) (hl:(mv i).length<=42) (hn:0<(mv i).length->i<nch):OmSt w3 g gc nch T mv i cs (mv i) wr :=⟨h.dat,h.low,h.len,by rw [h.tot]; unfold Qbx; rw [if_pos hi],fun j s hj hs=>h.bare j s (by omega) hs,fun s hs=>by rw [h.bare i s (zI _) hs]; simpa using hl,hn⟩
theorem OmSt.leave {w3 wr:zB} {g gc nch i:Nat} {T:Option (List Srv)} {mv:Nat->List Int} {cs:List Srv} {rest:List Int} (h:OmSt w3 g gc nch T mv i cs rest wr) (hi:i<2) (hr:rest.length<=1):OhSt w3 g gc nch T mv (i+1) cs wr :=⟨h.dat,h.low,h.len,by rw [h.tot,remQ_end hi hr],fun j s hj hs=>h.bare j s (by omega) hs⟩
theorem OmSt.below {w3 wr W:zB} {g gc nch i:Nat} {T:Option (List Srv)} {mv:Nat->List Int} {cs:List Srv} {rest:List Int} (h:OmSt w3 g gc nch T mv i cs rest wr) (hb:zE wr.heap.size wr W):OmSt w3 g gc nch T mv i cs rest W:=by obtain⟨S,hd⟩:=h.dat;exact⟨⟨S,hd.below hb⟩,h.low.trans (hb.mono h.low.size),h.len,h.tot,h.bare,h.bnd,h.has⟩
theorem OmSt.step {w3 wr W:zB} {g gc nch i:Nat} {T:Option (List Srv)} {mv:Nat->List Int} {cs:List Srv} {s:Srv} {o z:Int} {t:List Int} (h:OmSt w3 g gc nch T mv i cs (o :: z :: t) wr) (hs:cs[i]?=some s) (hg:Q0H cs s.f z=false/\Q1I s.now o z) (hb:zE w3.heap.size w3 W) (hd:∃ S,ADat W g gc none (fun b=>b=g\/b=gc\/b<w3.heap.size) (mvQ (Q1k cs) i s o z) S) :
 OmSt w3 g gc nch T mv i (cs.set i (Q1b s o z)) t W:=by
 have hil:=(List.getElem?_eq_some_iff.1 hs).1;refine⟨hd,hb,by rw [List.length_set]; exact h.len,by rw [h.tot,QaJ hs hg],fun j q hj hq=>?_,fun q hq=>?_,fun _=>by have:=h.len; omega⟩
 ·rw [List.getElem?_set,if_neg (by omega)] at hq;exact h.bare j q hj hq
 rw [List.getElem?_set,if_pos rfl,if_pos hil] at hq;obtain rfl:=zO hq;have:=h.bnd s hs;show (s.moves++[(o,z)]).length*2+t.length<=42;simp only [zJ,zN,List.length_nil] at this ⊢;omega
theorem OmSt.fail {w3 wr:zB} {g gc nch i:Nat} {T:Option (List Srv)} {mv:Nat->List Int} {cs:List Srv} {s:Srv} {o z:Int} {t:List Int} (h:OmSt w3 g gc nch T mv i cs (o :: z :: t) wr) (hs:cs[i]?=some s) (hg:¬ (Q0H cs s.f z=false/\Q1I s.now o z)):T=none:=by rw [h.tot,remQ_bad hs hg]
def totQ (acc:List Srv) (mv:Nat->List Int):Option (List Srv):=(Q1n acc 0 (mv 0)).bind fun s1=>Q1n s1 1 (mv 1)
theorem Q8i (acc:List Srv) (mv:Nat->List Int):totQ acc mv=Qbx mv 0 acc:=rfl
def endQ (T:Option (List Srv)) (f:Nat->List Nat):Option AM:=match T with
 | none=>none
 | some s2=>if ∀ i,i<4->(Q34 (f (2+i))).isSome=true then some ⟨s2,(zG 4).map (fun i=>(Q34 (f (2+i))).getD (0,okA))⟩ else none
theorem Q96 {cs:List (Int×List Int)} {ms:Nat->List Int} {f:Nat->List Nat} {acc:List Srv} (h:Q1S cs=some acc):Q4L cs ms f=endQ (totQ acc ms) f:=by
 unfold Q4L totQ endQ;rw [h];simp only;cases Q1n acc 0 (ms 0) with
 | none=>rfl
 | some s1 =>simp only [Option.bind_some];rfl
def midA (cs:List Srv) (f:Nat->List Nat) (j:Nat):AM:=⟨cs,(zG j).map (fun q=>(Q34 (f (2+q))).getD (0,okA))++List.replicate (4 - j) (0,okA)⟩
theorem Qbe (cs:List Srv) (f:Nat->List Nat) (j:Nat) (x:Nat×Ans) (hj:j<4) (h:Q34 (f (2+j))=some x):lsQ (midA cs f j) j x.1 x.2=midA cs f (j+1):=by
 unfold lsQ midA;congr 1
 rw [List.range_succ,List.map_append,List.set_append_right _ _ (by simp)];simp only [List.length_map,List.length_range,Nat.sub_self,List.map_cons,List.map_nil];rw [show 4 - j=(4 - (j+1))+1 by omega,List.replicate_succ,List.set_cons_zero,h,List.append_assoc];rfl
theorem midA_end (cs:List Srv) (f:Nat->List Nat):midA cs f 4=⟨cs,(zG 4).map (fun i=>(Q34 (f (2+i))).getD (0,okA))⟩:=by unfold midA; simp
theorem AOk.lsQ {m:AM} (h:AOk m) {j st:Nat} {a:Ans} (hx:st<=maxN/\Q6R a/\(st=0->a=okA)):AOk (lsQ m j st a):=by
 refine⟨h.one,h.srv,h.same,h.apart,h.high,by show (m.last.set _ _).length=4; rw [List.length_set]; exact h.last,fun x hx'=>?_⟩;rcases List.mem_or_eq_of_mem_set hx' with e | e
 ·exact h.ans x e
 rw [e]; exact hx
structure MvJ (wr:zB) (a0 a1:zA) (o z:Int) (K:zB->Prop) (s:Nat) (W:zB):Prop where
 c0:W.cell? a0=some (.int .i64 o)
 c1:W.cell? a1=some (.int .i64 z)
 lt:a0.block<W.heap.size/\a1.block<W.heap.size
 zero:s=0->zE wr.heap.size wr W
 one:s=1->K W
theorem MvJ.later_ {wr W W':zB} {a0 a1:zA} {o z:Int} {K:zB->Prop} {s:Nat} (h:MvJ wr a0 a1 o z K s W) (hK:∀ W W',K W->zE W.heap.size W W'->K W') (hb:zE W.heap.size W W'):MvJ wr a0 a1 o z K s W' :=⟨(hb.cell h.lt.1).trans h.c0,(hb.cell h.lt.2).trans h.c1,⟨by have:=h.lt.1; have:=hb.size; omega,by have:=h.lt.2; have:=hb.size; omega⟩,fun e=>by have h0:=h.zero e;exact h0.trans (hb.mono h0.size),fun e=>hK _ _ (h.one e) hb⟩
structure OaSt (w w3:zB) (g gc:Nat) (k:Book) (cs:List Srv) (f:Nat->List Nat) (j:Nat) (wr:zB):Prop where
 dat:∃ S,ADat wr g gc none (fun b=>b=g\/b=gc\/k.has b\/b<w.heap.size) (midA cs f j) S
 low:zE w3.heap.size w3 wr
 told:∀ q,q<j->(Q34 (f (2+q))).isSome=true
theorem OhSt.answers {w w3 wr:zB} {g gc nch:Nat} {T:Option (List Srv)} {mv:Nat->List Int} {cs:List Srv} {k:Book} {f:Nat->List Nat} (h:OhSt w3 g gc nch T mv 2 cs wr) (hw:w.heap.size<=w3.heap.size) (hk:∀ b,k.has b->b<w.heap.size):T=some cs/\OaSt w w3 g gc k cs f 0 wr:=by
 obtain⟨S,hd⟩:=h.dat;exact⟨h.tot,⟨⟨S,hd.mono (fun b _ hn=>by
  rcases hn with e | e | e | e
  ·exact .inl e
  ·exact .inr (.inl e)
  ·have:=hk b e; exact .inr (.inr (by omega))
  exact .inr (.inr (by omega))) ⟨.inl rfl,.inr (.inl rfl)⟩⟩,h.low,fun q hq=>by omega⟩⟩
theorem OmSt.move_ {w3 wr W:zB} {g gc nch i:Nat} {T:Option (List Srv)} {mv:Nat->List Int} {cs:List Srv} {s:Srv} {o z:Int} {t:List Int} (h:OmSt w3 g gc nch T mv i cs (o :: z :: t) wr) (hs:cs[i]?=some s) (hgg:g≠gc) (hg:w3.heap.size<=g/\w3.heap.size<=gc) (hb:zE wr.heap.size wr W) (bq:Bool) (hbq:bq=decide (Q0H cs s.f z=false/\Q1I s.now o z)) :
 Calls zH 70 #[.pointer (some ⟨g,0,none⟩),.int .i64 (i:Int),.int .i64 o,.int .i64 z] W fun e w'=>e=.returned (.bool bq)/\(zE w3.heap.size w3 w'/\(bq=true->OmSt w3 g gc nch T mv i (cs.set i (Q1b s o z)) t w'))/\(∀ b,b<w3.heap.size->w'.heap[b]?=W.heap[b]?)/\W.heap.size<=w'.heap.size:=by
 obtain⟨S,hd0⟩:=h.dat;have hd:=hd0.below hb;have hlow:=h.low.trans (hb.mono h.low.size);have hbnd:=h.bnd s hs;have hl20:s.moves.length<=20:=by simp only [zN] at hbnd; omega
 refine(Q7A W g gc i none _ (Q1k cs) S s o z hd hs (fun b hN=>by have:=hd.lt;have:=hlow.size;rcases hN with e | e | e <;> omega) hgg hl20).mono ?_
 rintro e w' ⟨h1,h2⟩;by_cases hc:Q0H cs s.f z=false/\Q1I s.now o z
 ·obtain⟨rfl,S',hd',ho⟩:=h1 hc;have hno:∀ b,b<w3.heap.size->¬ (b=gc\/MvC S i b):=fun b hb' e=>by
   rcases e with e | ⟨a,ha,rfl⟩
   ·omega
   exact hd.mvN a.block ⟨i,a,(List.getElem?_eq_some_iff.1 hs).1,ha,rfl⟩ (.inr (.inr hb'))
  have hbl:=hlow.trans (ho.below hlow.size fun b hb' hv=>hno b hb' hv);rw [decide_eq_true hc] at hbq;subst hbq;exact⟨rfl,⟨hbl,fun _=>h.step hs hc hbl ⟨S',hd'⟩⟩,fun b hb'=>ho.block b (by have:=hlow.size; omega) (hno b hb'),ho.size⟩
 obtain⟨rfl,hbw⟩:=h2 hc;rw [decide_eq_false hc] at hbq;subst hbq;exact⟨rfl,⟨hlow.trans (hbw.mono hlow.size),fun e=>by cases e⟩,fun b hb'=>hbw.block b (by have:=hlow.size; omega),hbw.size⟩
theorem OaSt.put {w w3 wr W:zB} {g gc j:Nat} {k:Book} {cs:List Srv} {f:Nat->List Nat} {x:Nat×Ans} {A:Option zA} {c:Nat} {u:zC} (h:OaSt w w3 g gc k cs f j wr) (hj:j<4) (hgg:g≠gc) (hg3:w3.heap.size<=g/\w3.heap.size<=gc) (hk:∀ b,k.has b->b<w.heap.size) (hb:zE wr.heap.size wr W) (hq:Q34 (f (2+j))=some x) (hm:∀ z,z∈f (2+j)->z<=maxN) (ho:OwnN W w.heap.size u (nI (f (2+j))))
 (hrd:∀ W,OwnN W w.heap.size u (nI (f (2+j)))->Q04 W W.heap.size 1 A x.2.nodes.length (x.2.nodes.map vn)) (hc:x.2.nodes.length<=c/\c<=maxLen) (hob:∀ a,0<x.2.nodes.length->A=some a->u.ownBlock=some a.block) :
 ∃ c0,Blk W g 84 c0/\c0.size=22/\∀ W',Q06 g W W'->Blk W' g 84 (spl c0 (2+j*5) (lsC x.1 x.2 A c).toList)->OaSt w w3 g gc k cs f (j+1) W':=by
 obtain⟨S,hd0⟩:=h.dat;have hd:=hd0.below hb;refine⟨_,hd.blk,Q29 _ _ _ _,fun W' hT hB=>?_⟩;have ho':OwnN W' w.heap.size u (nI (f (2+j))):=ho.keep_ fun b hb'=>hT.block b fun e=>Q09 ho hd.blk (by decide) (by rw [hb',e])
 have hlow:=h.low.trans (hb.mono h.low.size);have hok:=hd.ok.lsQ (j:=j) (toldQ_ok hm hq);have hdl:=hd.lastedF hj hgg hT hB ⟨hrd W' ho',hc,fun a h0 ha hN=>by
  have hub:=hob a h0 ha;have hge:=(Q0f ho hub).1;rcases hN with(e | e | e | e) | ⟨i,a',hi,ha',e⟩
  ·exact Q09 ho hd.blk (by decide) (by rw [hub,e])
  ·exact Q09 ho hd.row (by decide) (by rw [hub,e])
  ·have:=hk _ e; omega
  ·omega
  rcases(hd.mv i _ (zD hi)).2 with⟨e1,_⟩ | ⟨g',cap',cur',e1,_,e3,_⟩
  ·injection e1 with e1; rw [ha'] at e1; cases e1
  injection e1 with e1
  rw [ha'] at e1;injection e1 with e1
  subst e1;have hB':Blk W g' 119 cur':=e3;exact Q09 ho hB' (by decide) (by rw [hub,<- e])⟩ hok
 rw [Qbe cs f j x hj hq] at hdl;refine⟨⟨_,hdl⟩,hT.below hlow hg3.1,fun q hq'=>?_⟩;rcases zF q j with e | e
 ·exact h.told q e
 obtain rfl:q=j:=by omega
 rw [hq]; rfl
theorem Q7T {cs:List Srv} {f:Nat->List Nat} {j:Nat} (hj:j<4) (h:Q34 (f (2+j))=none):endQ (some cs) f=none:=by unfold endQ;simp only;rw [if_neg (fun hh=>by have:=hh j hj; rw [h] at this; cases this)]
theorem Q7Q {cs:List Srv} {f:Nat->List Nat} (h:∀ q,q<4->(Q34 (f (2+q))).isSome=true):endQ (some cs) f=some (midA cs f 4):=by unfold endQ;simp only;rw [if_pos h,midA_end]
end
section
open Go.RowKit Go.Maps
attribute [local irreducible] wpList Q0c
theorem Q7H (k:Book) (L:LL) (asked:Nat) (A:Option zA) (n c:Nat) (xss:LL) (w:zB) (hbk:Q0h w k L asked) (has:asked<=600000) (hr:Q2L w w.heap.size A n xss) (hn:n<=1000000000000) (hlx:∀ x,x∈xss->x.length<=1000000000000) :
 Calls zH 35 #[.pointer (some ⟨k.g,0,none⟩),.slice A n c] w (Q4S w k L asked (Q2h xss)):=by
 have hxl:=hr.1;obtain⟨o,ho⟩:∃ o,o=Q2h xss:=⟨_,rfl⟩;rw [<- ho];have HO:=sH ho;clear ho;by_cases h6:n=6
 ·have h6b:((n:Int) != 6)=false:=by simp [h6]
  obtain⟨ad,hA,hadb,hcell⟩:=hr.2 (by omega);subst hA;have HXL:=sH (show xss.length=6 by omega);have HBK:=sH hbk;have HLX:=sH hlx;have hkl:=hbk.lt;have HCELL:=sH (fun(W:zB) (hb:zE w.heap.size w W) (q:Nat) (hq:q<6)=>(show ∃ Ak mk ck,W.cell? (ad.add q)=some (.slice Ak mk ck)/\Q04 W w.heap.size 1 Ak mk ((xss.getD q []).map vb)/\mk<=ck/\mk<=1000000000000 from by
   have hqx:q<xss.length:=by omega
   obtain⟨Ak,mk,ck,h1,h2,h3⟩:=hcell q xss[q] (zD hqx);have e:xss.getD q []=xss[q]:=by rw [zL,zD hqx]; rfl
   rw [e];have hmk:xss[q].length=mk:=by have:=h2.1; simpa using this
   exact⟨Ak,mk,ck,(hb.cell (by rw [Q0d]; exact hadb)).trans h1,h2.below hb,h3,by have:=hlx _ (zM hqx); omega⟩))
  obtain⟨g6,hg⟩:∃ g,g=w.heap.size:=⟨_,rfl⟩;have HST:=sH (show NmSt w g6 xss 0 (w.alloc (.cells (sixV (fun _=>undef) 0) 122)) from⟨⟨fun _=>undef,Blk.newAt hg,fun j h=>by omega⟩,fun j h=>by omega,fun j h=>by omega,Q02 _ _,by omega⟩);rw [Q8b] at HST;have hgw:w.heap.size<=g6:=by omega
  clear hr hbk hlx hcell hxl;subst h6;go_enter Tryz.func35,Tryz.ntmps35
  go_upto_region 4 with fail
  generalize World.alloc w _=w1 at HST ⊢;rw [<- hg];clear hg;go_wp2_with fail
  go_loopw [27] (fun iv wr=>∃ i:Nat,i<=6/\iv=.int .i64 i/\NmSt w g6 xss i wr) (fun iv _=>6 - (intOf iv).toNat)
  case atStart=>exact⟨0,by omega,rfl,HST.out⟩
  obtain⟨i,hi,rfl,hst⟩:=hrel;have HS:=sH hst;have hlow:=hst.low.size;clear hst HST;by_cases hin:i<6
  ·have hinI:(i:Int)<6:=by omega
   have h0I:(0:Int)<=(i:Int):=by omega
   obtain⟨Ak,mk,ck,h1,h2,h3,h4⟩:=HCELL.out wr HS.out.low i hin;have HNM:=sH (Q4K Ak mk ck (xss.getD i []) wr w.heap.size h2 hlow h3 h4);obtain⟨oq,hoq⟩:∃ q,q=Q28 (xss.getD i []):=⟨_,rfl⟩;rw [<- hoq] at HNM;have HOQ:=sH hoq;clear h2 hoq;go_wp2_with fail
   refine HNM.out.mono ?_;rintro _ w2 ⟨v,rfl,hown,hmx,hb2⟩;have hs2:=hb2.size;have HB2:=sH hb2;have HOW:=sH hown;have HMX:=sH hmx;obtain⟨Av,cv,hv,_⟩:=Q0e hown;obtain⟨ln,hln⟩:∃ q,q=(nI (oq.getD [])).length:=⟨_,rfl⟩;rw [<- hln] at hv;subst hv;clear hb2 hown hmx hln HNM h1;cases oq with
   | none =>
    have hon:o=none:=by
     rw [HO.out];refine Q3N fun hh=>?_
     have:=hh.2 i hin;rw [<- HOQ.out] at this;cases this
    subst hon;go_wp2_with fail
    go_ret2
    exact⟨fun _=>⟨rfl,HS.out.low.trans (HB2.out.mono hlow)⟩,fun m hm=>by cases hm⟩
   | some l =>
    have hnf:numF xss i=l:=by unfold numF; rw [<- HOQ.out]; rfl
    have hpush:=HS.out.push (v:=.slice Av ln cv) HB2.out (by rw [hnf]; exact HOW.out) (by rw [hnf]; exact HMX.out) (by rw [<- HOQ.out]; rfl);have HPU:=sH hpush;obtain⟨vs,hb6,_⟩:=(HS.out.below HB2.out).blk;have cc:w2.cell? ⟨g6,i,none⟩=some (.slice none 0 0):=(hb6.cell i).trans (by rw [Q3i _ _ _ hin,if_neg (by omega)]);have cf:w2.frozen? ⟨g6,i,none⟩=false:=hb6.frozen i;clear hnf hpush hb6;go_wp2_with fail
    go_roundw
    case rel=>exact⟨i+1,by omega,by go_num,HPU.out⟩
    case measure=>simp [intOf]; omega
  obtain rfl:i=6:=by omega
  go_upto_region 13 with fail
  obtain⟨nch,hnch⟩:∃ q:Nat,q=if numF xss 1=[0] then 1 else 2:=⟨_,rfl⟩
  have HNCH:=sH hnch;have hn12:1<=nch/\nch<=2:=by rw [hnch]; split <;> omega
  clear hnch;obtain⟨vs,hb6,hv6⟩:=HS.out.blk;have hv1:=hv6 1 (by omega);obtain⟨A1,c1,hvs,q1,q2,q3,q4⟩:=Q0e hv1;have cc:wr.cell? ⟨g6,1,none⟩=some (.slice A1 (nI (numF xss 1)).length c1):=by rw [<- hvs];exact(hb6.cell 1).trans (by rw [Q3i _ _ _ (by omega),if_pos (by omega)])
  obtain⟨n1,hn1⟩:∃ q,q=(nI (numF xss 1)).length:=⟨_,rfl⟩;rw [<- hn1] at cc q3 q1;have hal:=Q02 wr (.cells #[.int .i64 0] 3);have HEQ:=sH (Q5u A1 (some ⟨wr.heap.size,0,none⟩) n1 1 c1 1 (nI (numF xss 1)) [0] (wr.alloc (.cells #[.int .i64 0] 3)) _ _ (q3.below hal) (Q0l wr #[.int .i64 0] 3) (by unfold maxLen at q2 ⊢; omega) (by unfold maxLen; omega));have hiff:(nI (numF xss 1)=[0]) <-> (numF xss 1=[0]):=by
   constructor
   ·intro h;match hq:numF xss 1 with
    | []=>rw [hq] at h; simp [nI] at h
    | [x]=>rw [hq] at h; simp [nI] at h; rw [h]
    | x :: y :: t=>rw [hq] at h; simp [nI] at h
   intro h; rw [h]; rfl
  obtain⟨bq,hbq⟩:∃ b,b=decide (nI (numF xss 1)=[0]):=⟨_,rfl⟩;rw [<- hbq] at HEQ;have hnq:nch=if bq=true then 1 else 2:=by
   rw [HNCH.out,hbq];by_cases h:numF xss 1=[0]
   ·rw [if_pos h,if_pos (by rw [decide_eq_true (hiff.2 h)])]
   rw [if_neg h,if_neg (by rw [decide_eq_false (fun e=>h (hiff.1 e))]; simp)]
  have HNQ:=sH hnq;have HNM:=sH (HS.out.below hal);clear hb6 hv6 hv1 hvs q1 q2 q3 q4 hn1 hal hiff hbq hnq;go_wp2_with fail
  refine HEQ.out.mono ?_;rintro _ w3 ⟨rfl,kk,hw3⟩;have HN3:=sH (show NmSt w g6 xss 6 w3 from by rw [hw3]; exact HNM.out.below (Q0B (zK _ _) kk));clear hw3 cc HNM HEQ;have HSX:=sH (show NmSt w g6 xss 6 w3 from HN3.out)
  go_upto_if 49 with(fail)
  go_cut [10] (fun s10 wx=>s10=.slice (some ⟨g6,0,none⟩) nch 6/\NmSt w g6 xss 6 wx)
  case first =>
   cases bq with
   | true =>
    have hnc:=HNQ.out;simp only [if_true] at hnc;subst hnc;go_wp2_with fail
    go_meet
    exact⟨rfl,HN3.out⟩
   | false =>
    have hnc:=HNQ.out;simp only [Bool.false_eq_true,if_false] at hnc;subst hnc;go_wp2_with fail
    go_meet
    exact⟨rfl,HN3.out⟩
  obtain⟨rfl,hnm⟩:=hcut;obtain⟨vs,hsa⟩:=hnm.sa;have HMX:=sH hnm.max;have HIS:=sH hnm.is_;have hwc:=hnm.low.size;have hg6l:=hsa.blk.lt;obtain⟨g12,hg12⟩:∃ g,g=wc.heap.size:=⟨_,rfl⟩;have hcs:ChS w g6 g12 xss vs (fun _=>none) (fun _=>0) (fun _=>undef) 0 (.slice none 0 0) (wc.alloc (.cells (twoV (fun _=>undef) 0) 125)):=⟨hsa.below (Q02 _ _),⟨by simp [Q1G],.inl ⟨rfl,rfl⟩⟩,Blk.newAt hg12,fun j h=>by omega,by omega,by omega⟩;rw [Q89] at hcs;have HCS:=sH hcs;have HGC:=sH (show Q2h xss=Q7W (numF xss) from Q6t HXL.out HIS.out);clear hnm hcs HS hsa HCELL HSX HN3 HNQ;go_upto_region 17 with fail
  generalize World.alloc wc _=wd at HCS ⊢;rw [<- hg12];clear hg12;go_wp2_with fail
  go_loopw [11,54] (fun cv iv wr=>∃ i:Nat,i<=nch/\iv=.int .i64 i/\∃ fA fC ms,ChS w g6 g12 xss vs fA fC ms i cv wr) (fun _ iv _=>nch - (intOf iv).toNat)
  case atStart=>exact⟨0,by omega,rfl,_,_,_,HCS.out⟩
  obtain⟨i,hi,rfl,fA,fC,ms,hcs⟩:=hrel;obtain⟨w3,rfl⟩:∃ x,x=wr:=⟨_,rfl⟩;have HC3:=sH hcs;have hlow3:=hcs.sa.low.size;have hcl3:=hcs.row;clear HCS;by_cases hin:i<nch
  ·have hinI:(i:Int)<(nch:Int):=by omega
   have h0I:(0:Int)<=(i:Int):=by omega
   have hi2:i<2:=by omega
   have hown:=hcs.sa.own i (by omega);obtain⟨Ai,ci,hvi,_⟩:=Q0e hown;obtain⟨ni,hni⟩:∃ q,q=(nI (numF xss i)).length:=⟨_,rfl⟩;rw [<- hni] at hvi;have hnl:=Q4U xss i;have hnx:(xss.getD i []).length<=1000000000000:=by rw [zL,zD (by have:=HXL.out; omega)];exact HLX.out _ (zM _)
   have HF:=sH (Q65 (vs i) (numF xss i) w3 w.heap.size hown (by omega) (HMX.out i (by omega)));have cc:w3.cell? ⟨g6,i,none⟩=some (vs i):=(hcs.sa.blk.cell i).trans (by rw [Q3i _ _ _ (by omega),if_pos (by omega)]);obtain⟨u,hu⟩:∃ u,u=vs i:=⟨_,rfl⟩;rw [<- hu] at HF cc hvi;subst hvi;have HU:=sH hu;clear hcs hown hni hnl hnx hu hcl3;go_wp2_with fail
   refine HF.out.mono ?_;rintro e4 w4 ⟨hb4,hno,hso⟩;cases hq:Q2i (numF xss i) with
   | none =>
    have he:=hno hq;subst he;have hon:o=none:=by rw [HO.out,HGC.out]; exact Q7S HNCH.out hin hq
    subst hon;have hlw:=HC3.out.sa.low.trans (hb4.mono hlow3);have hs4:=hb4.size;have HLW:=sH hlw;clear hb4 hno hso hq HF cc hlw;go_wp2_with (refine Q00 (o:=⟨none,_,_,_,_,_⟩) rfl 69 (.tmp 15) (.tmp 62) rfl w4.heap.size 0 (crC 0 none 0 0) rfl rfl 69 (crC 0 none 0 0) (Blk.newAt rfl) (by kernel_rfl) (by simp [crC]) (by simp [crC,Value.oneCell']) ?_; intro w5 hT5 hD5)
    go_ret2
    exact⟨fun _=>⟨rfl,hT5.below (HLW.out.alloc (by omega) _) (by omega)⟩,fun m hm=>by cases hm⟩
   | some q =>
    obtain⟨f,A1,c1,A2,c2,hf,hf2,he,hr1,hr2,hc2⟩:=hso q hq;subst he;have hfq:fstF xss i=q:=by unfold fstF; rw [hq]; rfl
    rw [<- hfq] at hf hr1 hr2 hc2 ⊢;have hFS:=(⟨by rw [hq,hfq],⟨f,hf,hf2⟩,by rw [<- HU.out]; exact hr1,⟨A2,c2,rfl,by rw [<- HU.out]; exact hr2,hc2⟩⟩:FsOk w.heap.size xss (vs i) i A1 c1 (.slice A2 (fstF xss i).2.length c2));have HFS:=sH hFS;obtain⟨E,hE⟩:∃ E,E=crC f A1 (fstF xss i).1.2.length c1:=⟨_,rfl⟩;have hes:E.size=2:=by rw [hE]; rfl
    have he1:E.all (·.oneCell')=true:=by rw [hE]; exact Q1L _ _ _ _
    rw [<- hE];have HER:=sH (show E.toList=Q4P (fstF xss i) A1 c1 from by rw [hE]; unfold Q4P; rw [hf]; rfl);have HB4:=sH hb4;have hs4:=hb4.size;obtain⟨n2,hn2⟩:∃ k,k=(fstF xss i).2.length:=⟨_,rfl⟩;rw [<- hn2] at HFS ⊢;have hfold:Array.foldl (fun(cs:Array zC) (x:zC×Nat)=>cs.setIfInBounds x.snd x.fst) #[Value.int .i64 0,Value.slice none 0 0] E.zipIdx 0 2=E:=by rw [hE]; rfl
    have HFO:=sH hfold;clear hno hso hq hfq hf hr1 hr2 hc2 hFS hE HF cc hn2 hb4 hfold;go_upto_region 21 with(refine Q00 (o:=⟨none,_,_,_,_,_⟩) rfl 69 (.tmp 15) (.tmp 62) rfl w4.heap.size 0 E rfl rfl 69 #[.int .i64 0,.slice none 0 0] (Blk.newAt rfl) (by rw [hes]; kernel_rfl) (by rw [hes]; simp) he1 ?_; intro w5 hT5 hD5)
    rw [Q0a _ _ (by rw [hes]; rfl)] at hD5;have hb5:zE w4.heap.size w4 w5:=hT5.below ((zK _ _).alloc (zI _) _) (zI _);obtain⟨g15,hg15⟩:∃ b,b=w4.heap.size:=⟨_,rfl⟩;rw [<- hg15] at hD5 ⊢;have hs5:=hb5.size;have K15:=sH hD5;have HB5:=sH (HB4.out.trans (hb5.mono hs4));have hb6:=Q02 w5 (.cells E 69);have HB6:=sH (HB5.out.trans (hb6.mono (by omega)));have HC6:=sH (HC3.out.below HB6.out);have HROW6:=sH HC6.out.row;have HRD6:=sH (Q3o w5 E hes);obtain⟨i0,hi0,hz0,hz1,hz2⟩:=info_parts Q7k;have hlt5:=hD5.lt;have hfold:=HFO.out;have hi40:i<=40:=by omega
    have hlw6:=HC6.out.sa.low.size;simp only [World.alloc] at hlw6;clear hT5 hD5 hg15 hb5 hb6 HB4;go_wp2_with (first
     | refine Q01 (o:=⟨some 69,_,_,_,_,_⟩) rfl 69 (.tmp 15) rfl g15 0 2 rfl 69 _ E _ K15.out Tryz.underlying69 rfl rfl hes (fun _ _=>by rw [Nat.zero_add]) ?_
     | (at_builtin; go_must (refine Q05 _ rfl (.tmp 68) (.tmp 70) 66 rfl w.heap.size 69 i0 _ 2 32 Tryz.underlying66 hi0 hz0 hz1 hz2 rfl (by omega) _ _ _ rfl HROW6.out _ (some ⟨w5.heap.size,0,none⟩) 1 1 E.toList rfl HRD6.out ?d1 ?d2 ?d3 ?d4 ?_)))
    case d1=>exact fun u hu=>(Array.all_eq_true'.1 he1) u (by simpa using hu)
    case d2=>unfold maxLen; omega
    case d3=>first | omega | (simp; omega)
    case d4=>first | omega | (simp; omega)
    intro v6 w6 hown6 hg6' hor6;have hpu:=HC3.out.push HB6.out (by rw [<- HER.out]; exact hown6) hg6' HFS.out;have HPU:=sH hpu;have n12:=Q09 HC6.out.row HC6.out.arr (by decide);have a2:Blk w6 g12 125 (twoV ms i):=(hg6'.block g12 HC6.out.arr.lt (fun e=>n12 e.symm)).trans HC6.out.arr;have ca:w6.cell? ⟨g12,i,none⟩=some (.slice none 0 0):=(a2.cell i).trans (by rw [Q7i _ _ _ hi2,if_neg (by omega)]);have cf:w6.frozen? ⟨g12,i,none⟩=false:=a2.frozen i;clear hown6 hg6' hor6 hpu n12 a2 HROW6 HRD6 hfold;go_wp2_with fail
    go_roundw
    case rel=>exact⟨i+1,by omega,by go_num,_,_,_,HPU.out⟩
    case measure=>simp [intOf]; omega
  obtain rfl:nch=i:=by omega
  have hl7:∀ j,j<nch->(fstF xss j).1.2.length<=100:=fun j hj=>by have:=(Q3k (HC3.out.ok j hj).is_).1; omega
  obtain⟨Ac,cc,hcv,hcr⟩:=HC3.out.crews (by omega) hl7;subst hcv;obtain⟨cl,hcl⟩:∃ l,l=(zG nch).map (fun j=>(fstF xss j).1):=⟨_,rfl⟩;obtain⟨mv,hmv⟩:∃ f:Nat->List Int,f=fun j=>if j<nch then(fstF xss j).2 else []:=⟨_,rfl⟩
  have hgo:Q2h xss=Q4L cl mv (numF xss):=by rw [HGC.out,hcl,hmv]; exact Q6E HNCH.out (fun j hj=>(HC3.out.ok j hj).is_)
  rw [<- hcl] at hcr;have HGO:=sH hgo;have HMV:=sH hmv;have HCL:=sH hcl;have HBG:=sH (Q4d Ac nch cc cl w3 hcr (by omega));clear hl7 hcr hgo hmv hcl hcs hcl3 hin hi;go_wp2_with fail
  refine HBG.out.mono ?_;rintro e4 w4 ⟨hb4,hno,hso⟩;have hs4:=hb4.size;cases hq:Q1S cl with
  | none =>
   have he:=hno hq;subst he;have hon:o=none:=by rw [HO.out,HGO.out]; unfold Q4L; rw [hq]
   subst hon;have HLW:=sH (HC3.out.sa.low.trans (hb4.mono hlow3));clear hb4 hno hso hq HBG;go_wp2_with fail
   go_ret2
   exact⟨fun _=>⟨rfl,HLW.out⟩,fun m hm=>by cases hm⟩
  | some acc =>
   obtain⟨g,v,nA,nC,he,hraw⟩:=hso acc hq;subst he;obtain⟨hck,hbare,hlen⟩:=Q59 hq;obtain⟨gc,arr,cap,hv,hgcB,hgg,hdat⟩:=hraw.dat hck;have hgB:=hraw.gB;obtain⟨T,hT⟩:∃ T,T=totQ acc mv:=⟨_,rfl⟩;have HOC:=sH (show Q2h xss=endQ T (numF xss) from by rw [HGO.out,Q96 hq,hT]);have HOH:=sH (show OhSt w3 g gc nch T mv 0 acc w4 from⟨⟨_,hdat⟩,hb4,by rw [hlen,HCL.out]; simp,by rw [hT,Q8i],fun j s _ hs=>hbare s (List.mem_of_getElem? hs)⟩);have HSW:=sH (fun(W:zB) (hb:zE w3.heap.size w3 W)=>HC3.out.sa.below hb);obtain⟨M2,hM2⟩:∃ M,M=twoV ms nch:=⟨_,rfl⟩;have harr:=(HC3.out.below hb4).arr;rw [<- hM2] at harr;have HARR:=sH harr;have hm2s:M2.size=2:=by rw [hM2]; exact Q0q _ _
   have HMS:=sH (show ∀ j,j<2->∃ A n c,M2[j]?=some (.slice A n c)/\n=(mv j).length/\n<=c/\n<=42/\(0<n->j<nch)/\∀ W,zE w3.heap.size w3 W->Q04 W W.heap.size 1 A n ((mv j).map vn) from fun j hj=>by
    rw [hM2,Q7i _ _ _ hj,HMV.out];by_cases hjn:j<nch
    ·have hok:=HC3.out.ok j hjn;obtain⟨A,c,h1,h2,h3⟩:=hok.mv;refine⟨A,_,c,by rw [if_pos hjn,h1],by show _=(if j<nch then _ else _:List Int).length; rw [if_pos hjn],h3,(Q3k hok.is_).2,fun _=>hjn,fun W hb=>?_⟩;show Q04 W _ 1 A _ ((if j<nch then _ else _:List Int).map vn);rw [if_pos hjn];exact h2 W ((HSW.out W hb).own j (by omega))
    refine⟨none,0,0,by rw [if_neg hjn],by show _=(if j<nch then _ else _:List Int).length; rw [if_neg hjn]; rfl,zI _,by omega,fun h=>by omega,fun W hb=>?_⟩;show Q04 W _ 1 none 0 ((if j<nch then _ else _:List Int).map vn);rw [if_neg hjn];exact Q04.none_)
   clear hb4 hno hso hq hraw hck hbare hlen hv hdat hT hM2 harr HBG HGO;go_wp2_with (refine Q01 (o:=⟨some 79,_,_,_,_,_⟩) rfl 125 (.tmp 12) rfl g12 0 2 rfl 125 _ M2 _ HARR.out Tryz.underlying125 rfl rfl hm2s (fun _ _=>by rw [Nat.zero_add]) ?_)
   go_loopw [80] (fun iv wr=>∃ i:Nat,i<=2/\iv=.int .i64 i/\∃ cs,OhSt w3 g gc nch T mv i cs wr) (fun iv _=>2 - (intOf iv).toNat)
   case atStart=>exact⟨0,by omega,rfl,_,HOH.out⟩
   obtain⟨i,hi,rfl,cs,hoh⟩:=hrel;obtain⟨w5,rfl⟩:∃ x,x=wr:=⟨_,rfl⟩;have HH:=sH hoh;clear hoh HOH;by_cases hin:i<2
   ·have hinI:(i:Int)<2:=by omega
    have h0I:(0:Int)<=(i:Int):=by omega
    obtain⟨A,n,c2,hM,hnl,hnc,hn42,hnn,hrd⟩:=HMS.out i hin;have HOM:=sH (HH.out.enter hin (by omega) (by rw [<- hnl]; exact hnn));have HRD:=sH hrd;have HNL:=sH hnl;have HIX:=sH (fun(W:zB)=>Q35 (P:=zH) (t:=125) (e:=29) Tryz.underlying125 (by kernel_rfl) (fun w=>by go_simp) M2 i (.slice A n c2) hin hM W);clear hnl hrd hnn hM;go_wp2_with (refine Q1l (o:=⟨some 83,_,_,_,_,_⟩) rfl (.slice A n c2) (by have h:=HIX.out w5; go_simp) ?_)
    go_loopw [20] (fun mvv wr=>∃ (A:Option zA) (n c2:Nat) (rest:List Int) (cs:List Srv),mvv=.slice A n c2/\rest.length=n/\n<=c2/\(∀ W,zE w3.heap.size w3 W->Q04 W W.heap.size 1 A n (rest.map vn))/\OmSt w3 g gc nch T mv i cs rest wr) (fun mvv _=>match mvv with | .slice _ n _=>n | _=>0)
    case atStart=>exact⟨_,_,_,_,_,rfl,HNL.out.symm,hnc,HRD.out,HOM.out⟩
    obtain⟨A,n,c2,rest,cs,rfl,hrl,hnc,hrd,hom⟩:=hrel;obtain⟨w6,rfl⟩:∃ x,x=wr:=⟨_,rfl⟩;clear HOM HH HRD HNL;have HM:=sH hom;have HRD:=sH hrd;have HRL:=sH hrl;have hlow6:=hom.low.size;clear hom hrd hrl;by_cases hn1:1<n
    ·have hn1I:(1:Int)<(n:Int):=by omega
     have hn0I:(0:Int)<(n:Int):=by omega
     have hn0:0<n:=by omega
     obtain⟨ov,z,t,rfl⟩:∃ a b t,rest=a :: b :: t:=by
      match rest,HRL.out with
      | a :: b :: t,_=>exact⟨a,b,t,rfl⟩
      | [x],h=>simp at h; omega
      | [],h=>simp at h; omega
     have hwi:i<nch:=HM.out.has (by simp);obtain⟨s,hs⟩:∃ s,cs[i]?=some s:=⟨_,zD (by have:=HM.out.len; omega)⟩;obtain⟨ad,hA,had,_⟩:=(HRD.out w3 (zK _ _)).2 hn0;subst hA;obtain⟨ad',hA,_,hcell⟩:=(HRD.out w6 HM.out.low).2 hn0;injection hA with hA
     subst hA;have c0:w6.cell? (ad.add 0)=some (.int .i64 ov):=hcell 0 (.int .i64 ov) rfl;have c1:w6.cell? (ad.add 1)=some (.int .i64 z):=hcell 1 (.int .i64 z) rfl;obtain⟨bq,hbq⟩:∃ b,b=decide (Q0H cs s.f z=false/\Q1I s.now ov z):=⟨_,rfl⟩;have HMVE:=sH (fun(W:zB) (hb:zE w6.heap.size w6 W)=>HM.out.move_ hs hgg ⟨hgB,hgcB⟩ hb bq hbq);obtain⟨K,hK⟩:∃ K:zB->Prop,K=fun W=>zE w3.heap.size w3 W/\(bq=true->OmSt w3 g gc nch T mv i (cs.set i (Q1b s ov z)) t W):=⟨_,rfl⟩
     have HKS:=sH (show ∀ W W',K W->zE W.heap.size W W'->K W' from fun W W' h hb=>by rw [hK] at h ⊢;exact⟨h.1.trans (hb.mono h.1.size),fun e=>(h.2 e).below hb⟩)
     have HKO:=sH (show ∀ W,K W->zE w3.heap.size w3 W/\(bq=true->OmSt w3 g gc nch T mv i (cs.set i (Q1b s ov z)) t W) from fun W h=>by rw [hK] at h; exact h);have HKI:=sH (show ∀ W,(zE w3.heap.size w3 W/\(bq=true->OmSt w3 g gc nch T mv i (cs.set i (Q1b s ov z)) t W))->K W from fun W h=>by rw [hK]; exact h);have HBQ:=sH hbq;have HSS:=sH hs;have hb0:(ad.add 0).block<w3.heap.size:=by rw [Q0d]; exact had
     have hb1:(ad.add 1).block<w3.heap.size:=by rw [Q0d]; exact had
     have hw36:=HM.out.low.size;have HJ0:=sH (show MvJ w6 (ad.add 0) (ad.add 1) ov z K 0 w6 from⟨c0,c1,⟨by omega,by omega⟩,fun _=>zK _ _,fun e=>by omega⟩);have HSL:=sH (fun(W:zB)=>Q0G (P:=zH) (t:=29) (e:=3) Tryz.underlying29 (by kernel_rfl) (some ad) n c2 2 2 rfl (by omega) W);clear hcell c0 c1 hbq hK hs;go_upto_region 33 with fail
     refine Q0T 9 125 (fun jx W v=>match jx with | 0=>v=.pointer (some ⟨g,0,none⟩) | 1=>v=.int .i64 (i:Int) | 2=>v=.slice (some ad) n c2 | 3=>v=.pointer (some (ad.add 0)) | 4=>v=.int .i64 ov | 5=>v=.slice (some ad) n c2 | 6=>v=.pointer (some (ad.add 1)) | 7=>v=.int .i64 z | _=>v=.bool bq) (MvJ w6 (ad.add 0) (ad.add 1) ov z K) (fun _ _=>True) [8] [89,90,91,92,93,94,95,96,97] (by kernel_rfl) (by kernel_rfl) (by kernel_rfl) (by kernel_rfl) (by first | rfl | simp) (by kernel_rfl) (fun jx=>?last) ?lastR (fun s W W' h1 h2=>h1.later_ HKS.out h2) HJ0.out ?heads ?_
     case last =>
      match jx with
      | 0 | 1 | 2 | 3 | 4 | 5 | 6 | 7 | jx+8=>exact Q2w.pure _
     case lastR =>
      intro s jx W W' u hsl hs hj hp hR;match jx with
      | 0 | 1 | 2 | 3 | 4 | 5 | 6 | 7 | jx+8=>exact hp
     case heads =>
      simp only [tT];and_intros;rotate_right;trivial
      all_goals try(rw [if_neg (by decide)];intro s a W hj hkp hd)
      ·have e0:(_:zC)=.pointer (some ⟨g,0,none⟩):=sK hkp 18;exact sV
      ·have e0:(_:zC)=.int .i64 (i:Int):=sK hkp 19;exact sV
      ·have e0:(_:zC)=.slice (some ad) n c2:=sK hkp 20;exact sV
      ·have e0:=sJ (hd 2) 91;exact sV
      ·have e0:=sJ (hd 3) 92;have cc:W.cell? ad=some (.int .i64 ov):=hj.c0;exact sV
      ·have e0:(_:zC)=.slice (some ad) n c2:=sK hkp 20;exact sV
      ·have e0:=sJ (hd 5) 94;exact sV
      ·have e0:=sJ (hd 6) 95;have cc:W.cell? { block:=ad.block,off:=ad.off+1 }=some (.int .i64 z):=hj.c1;exact sV
      rw [if_pos (by decide)];intro s a W hs hj hkp hd;have e0:=sJ (hd 0) 89;have e1:=sJ (hd 1) 90;have e2:=sJ (hd 4) 93;have e3:=sJ (hd 7) 96;have h0:s=0:=by
       match s,hs with
       | 0,_=>rfl
       | s+1,hs=>simp at hs
      subst h0;refine Q3a rfl 70 #[.pointer (some ⟨g,0,none⟩),.int .i64 (i:Int),.int .i64 ov,.int .i64 z] (by go_simp) ((HMVE.out W (hj.zero rfl)).mono ?_);rintro e w' ⟨rfl,q1,q2,q3⟩;exact⟨_,rfl,trivial,⟨(World.cell?_of_block (q2 _ hb0)).trans hj.c0,(World.cell?_of_block (q2 _ hb1)).trans hj.c1,⟨by have:=hj.lt.1; omega,by have:=hj.lt.2; omega⟩,fun e=>by omega,fun _=>HKI.out _ q1⟩,rfl⟩
     intro fv W hj hd;have h97:fv 97=.bool bq:=hd 8 (by omega) _ 97 rfl rfl;obtain⟨hlW,hsW⟩:=HKO.out W (hj.one rfl);have HLW:=sH hlW;have HSW2:=sH hsW;simp only [Q19,tU,h97];clear hd hj h97 hlW hsW HJ0 HMVE HKS HKO HKI;try simp only [Act.put,sA]
     cases bq with
     | true =>
      have HNX:=sH (HSW2.out rfl);obtain⟨A',hA'⟩:∃ A',A'=(if c2=2 then(some ad) else(some ad).map (·.add 2)):=⟨_,rfl⟩;have hrd2:∀ W,zE w3.heap.size w3 W->Q04 W W.heap.size 1 A' (n - 2) (t.map vn):=fun W hb=>by
       have:=(HRD.out W hb).sub (l:=2) (k:=n) (cap:=c2) hn1 (zI _) hnc;simp only [Nat.mul_one] at this;rw [<- hA'] at this;have e:(((ov :: z :: t).map vn).drop 2).take (n - 2)=t.map vn:=by show (t.map vn).take (n - 2)=_;exact List.take_of_length_le (by have:=HRL.out; simp at this ⊢; omega)
       rw [e] at this;exact this
      have HRD2:=sH hrd2;rw [<- hA'] at HSL;clear hrd2 hA';go_wp2_with (refine Q1l (o:=⟨some 88,_,_,_,_,_⟩) rfl (.slice A' (n - 2) (c2 - 2)) (by have h:=HSL.out W; go_simp) ?_)
      go_roundw
      case rel=>exact⟨_,_,_,_,_,rfl,by have:=HRL.out; simp at this; omega,by omega,HRD2.out,HNX.out⟩
      case measure=>simp; omega
     | false =>
      have hon:o=none:=by rw [HO.out,HOC.out,HM.out.fail HSS.out (of_decide_eq_false HBQ.out.symm)];rfl
      subst hon;have HLR:=sH (show zE w.heap.size w W from(HC3.out.sa.low.trans (HLW.out.mono hlow3)));go_wp2_with fail
      go_ret2
      exact⟨fun _=>⟨rfl,HLR.out⟩,fun m hm=>by cases hm⟩
    have hn1I:¬ (1:Int)<(n:Int):=by omega
    have HE:=sH (HM.out.leave hin (by have:=HRL.out; omega));go_wp2_with fail
    go_roundw
    case rel=>exact⟨i+1,by omega,by go_num,_,HE.out⟩
    case measure=>simp [intOf]; omega
   obtain rfl:i=2:=by omega
   have hkh:∀ b,k.has b->b<w.heap.size:=fun b hb=>by rcases hb with e | e | e <;> omega
   obtain⟨hTs,hoa⟩:=HH.out.answers (w:=w) (k:=k) (f:=numF xss) (by omega) hkh;have HTS:=sH hTs;have HOA:=sH hoa;have HKH:=sH hkh;clear hTs hoa HH hkh;go_wp2_with fail
   go_loopw [100] (fun jv wr=>∃ j:Nat,j<=4/\jv=.int .i64 j/\OaSt w w3 g gc k cs (numF xss) j wr) (fun jv _=>4 - (intOf jv).toNat)
   case atStart=>exact⟨0,by omega,rfl,HOA.out⟩
   obtain⟨j,hj,rfl,hoa⟩:=hrel;obtain⟨w6,rfl⟩:∃ x,x=wr:=⟨_,rfl⟩;clear HOA;have HA:=sH hoa;have hlow6:=hoa.low.size;have hsa:=HSW.out w6 hoa.low;have HLA:=sH (HC3.out.sa.low.trans (hoa.low.mono hlow3));clear hoa;by_cases hj4:j<4
   ·have hjI:(j:Int)<4:=by omega
    have h0j:(0:Int)<=(j:Int):=by omega
    have hj6:(2:Int)+(j:Int)<6:=by omega
    have hj06:(0:Int)<=(2:Int)+(j:Int):=by omega
    have hjn:((2:Int)+(j:Int)).toNat=2+j:=by omega
    have hown:=hsa.own (2+j) (by omega);obtain⟨Ai,ci,hvi,_⟩:=Q0e hown;obtain⟨ni,hni⟩:∃ q,q=(nI (numF xss (2+j))).length:=⟨_,rfl⟩;rw [<- hni] at hvi;have hnl:=Q4U xss (2+j);have hnx:(xss.getD (2+j) []).length<=1000000000000:=by rw [zL,zD (by have:=HXL.out; omega)];exact HLX.out _ (zM _)
    have HTD:=sH (Q7K (vs (2+j)) (numF xss (2+j)) w6 w.heap.size hown (by omega) (HMX.out (2+j) (by omega)));have cc6:w6.cell? ⟨g6,2+j,none⟩=some (vs (2+j)):=(hsa.blk.cell (2+j)).trans (by rw [Q3i _ _ _ (by omega),if_pos (by omega)]);obtain⟨u,hu⟩:∃ u,u=vs (2+j):=⟨_,rfl⟩;rw [<- hu] at HTD cc6 hvi hown;have HOWN:=sH hown;subst hvi;clear hsa hown hni hnl hnx hu;go_wp2_with fail
    refine HTD.out.mono ?_;rintro e7 w7 ⟨hb7,hno,hso⟩;have hs7:=hb7.size;cases hq:Q34 (numF xss (2+j)) with
    | none =>
     obtain⟨D,he,hds,hd1⟩:=hno hq;subst he;have hon:o=none:=by rw [HO.out,HOC.out,HTS.out]; exact Q7T hj4 hq
     subst hon;have HLW:=sH (HLA.out.trans (hb7.mono HLA.out.size));have hlw7:=HLW.out.size;clear hb7 hno hso hq HTD cc6;go_wp2_with (refine Q00 (o:=⟨none,_,_,_,_,_⟩) rfl 81 (.tmp 22) (.tmp 109) rfl w7.heap.size 0 D rfl rfl 81 #[.int .i64 0,.int .i64 0,.slice none 0 0,.int .i64 0,.slice none 0 0] (Blk.newAt rfl) (by rw [hds]; kernel_rfl) (by rw [hds]; simp) hd1 ?_; intro w8 hT8 hD8)
     go_ret2
     exact⟨fun _=>⟨rfl,hT8.below (HLW.out.alloc (by omega) _) (by omega)⟩,fun m hm=>by cases hm⟩
    | some x =>
     obtain⟨A,c3,he,hrd,hc,hcm,hob⟩:=hso x hq;subst he;obtain⟨D,hD⟩:∃ D,D=lsC x.1 x.2 A c3:=⟨_,rfl⟩;have hds:D.size=5:=by rw [hD]; rfl
     have hd1:D.all (·.oneCell')=true:=by rw [hD]; simp [lsC,Value.oneCell']
     rw [<- hD];have HB7:=sH hb7;have HPT:=sH (fun(W:zB) (hb:zE w6.heap.size w6 W)=>HA.out.put (A:=A) (c:=c3) (u:=.slice Ai ni ci) hj4 hgg ⟨hgB,hgcB⟩ HKH.out hb hq (HMX.out (2+j) (by omega)) (HOWN.out.below_ hb) hrd ⟨hc,hcm⟩ hob);rw [<- hD] at HPT;clear hb7 hno hso hq hrd hc hcm hob hD HTD cc6;go_upto_region 40 with(refine Q00 (o:=⟨none,_,_,_,_,_⟩) rfl 81 (.tmp 22) (.tmp 109) rfl w7.heap.size 0 D rfl rfl 81 #[.int .i64 0,.int .i64 0,.slice none 0 0,.int .i64 0,.slice none 0 0] (Blk.newAt rfl) (by rw [hds]; kernel_rfl) (by rw [hds]; simp) hd1 ?_; intro w8 hT8 hD8)
     rw [Q0a _ _ (by rw [hds]; rfl)] at hD8;have hb8:zE w7.heap.size w7 w8:=hT8.below ((zK _ _).alloc (zI _) _) (zI _);obtain⟨g22,hg22⟩:∃ b,b=w7.heap.size:=⟨_,rfl⟩;rw [<- hg22] at hD8 ⊢;have K22:=sH hD8;have HB8:=sH (HB7.out.trans (hb8.mono hs7));have hs8:=HB8.out.size;clear hT8 hD8 hb8 hg22 HB7;go_upto_region 42 with fail
     refine Q0J 6 125 (by kernel_rfl) (by kernel_rfl) (by kernel_rfl) (by first | rfl | simp) ?_;simp only [tT,tU];refine tD (.pointer (some ⟨g,0,none⟩)) ?_;try simp only [Act.put,sA]
     refine tD (.int .i64 (j:Int)) ?_;try simp only [Act.put,sA]
     refine Q0M rfl 81 (.tmp 22) rfl g22 0 5 rfl 81 _ D _ K22.out Tryz.underlying81 rfl rfl hds (fun _ _=>by rw [Nat.zero_add]) ?_;try simp only [Act.put,sA]
     refine tC (.pointer (some ⟨g,0,none⟩)) ?_;try simp only [Act.put,sA]
     refine tC (.pointer (some ⟨g,2,none⟩)) ?_;try simp only [Act.put,sA]
     refine tC (.pointer (some ⟨g,2+j*5,none⟩)) ?_;try simp only [Act.put,sA]
     refine Q1K ?_;intro w9 hb9;obtain⟨c0,hB0,hz0,hput⟩:=HPT.out w9 (HB8.out.trans (hb9.mono hs8));have HB0:=sH hB0;have HPU:=sH hput;clear hb9 hB0 hput HPT;go_wp2_with (refine Q00 (o:=⟨none,_,_,_,_,_⟩) rfl 81 (.tmp 118) (.tmp 115) rfl g (2+j*5) D rfl rfl 84 c0 HB0.out (by rw [hds]; kernel_rfl) (by rw [hds,hz0]; omega) hd1 ?_; intro w10 hT10 hD10)
     have HNX:=sH (HPU.out w10 hT10 hD10);clear hT10 hD10 HPU HB0;go_wp2_with fail
     go_roundw
     case rel=>((repeat apply Exists.intro); exact⟨⟨j+1,by omega,by go_num,HNX.out⟩,rfl⟩)
     case measure=>simp [intOf]; omega
   obtain rfl:j=4:=by omega
   have hom:o=some (midA cs (numF xss) 4):=by rw [HO.out,HOC.out,HTS.out]; exact Q7Q HA.out.told
   obtain⟨S,hd⟩:=HA.out.dat;have hgl:=hd.lt;have HPL:=sH (Q5g (fun b=>b<w.heap.size) k L asked g gc (midA cs (numF xss) 4) S w6 (HBK.out.below HLA.out) has hd (fun e=>by have:=HKH.out _ e; omega) (fun e=>by have:=HKH.out _ e; omega) hgg);have HOM:=sH hom;have hkl':=hkl;clear hsa hom hd;go_wp2_with fail
   refine HPL.out.mono ?_;rintro _ w7 ⟨TL,rfl,hpl⟩;have HFIN:=sH (ANew.of_planted hpl HLA.out hkl' (by omega) (by omega) hgl.1 hgl.2 hgg);clear hpl HPL;go_wp2_with fail
   go_ret2
   refine⟨fun h=>?_,fun m hm=>?_⟩
   ·rw [HOM.out] at h; cases h
   rw [HOM.out] at hm;obtain rfl:=zO hm;exact⟨_,rfl,HFIN.out⟩
 have h6b:((n:Int) != 6)=true:=by simp; omega
 have hon:o=none:=by rw [HO.out]; exact Q3N fun hh=>h6 (by omega)
 subst hon;clear hr hbk hlx hxl;go_enter Tryz.func35,Tryz.ntmps35
 go_wp2_with fail
 go_ret2
 exact⟨fun _=>⟨rfl,zK _ _⟩,fun m hm=>by cases hm⟩
end
section
open Go.RowKit Go.Maps
theorem Q5s (f:Nat) (b:List UInt8) (acc:LL):Q3A (f+1) b acc=if (ts b 128).2.2≠0 then(acc,b,(ts b 128).2.2) else Q3A f (ts b 128).2.1 (acc++[(ts b 128).1]):=rfl
theorem OwnL.push_keep {w w3 w6:zB} {B0:Nat} {v u y:zC} {xss:LL} {vs:List zC} {z:List UInt8} (h:OwnL w B0 v xss vs) (hb:zE w.heap.size w w3) (hg:(w3.alloc (.cells #[u] 28)).grownBy w6 v.ownBlock) (hy:OwnB w3 B0 y z):OwnB w6 B0 y z:=by
 have hal:zE w3.heap.size w3 (w3.alloc (.cells #[u] 28)):=Q02 _ _;exact(hy.below hal).keep fun b hb'=>by
  obtain⟨cur,hcur⟩:=Q4Z hy hb';refine hg.block b (by have:=hy.lt hb'; have:=hal.size; omega) fun e=>?_
  have hr3:w3.ownsRow B0 28 1 v xss.length vs:=Q0k h.row fun b hb''=>hb.block b (Q0f h.row hb'').2
  exact Q09 hr3 hcur (by decide) e.symm
theorem Q9h (b:List UInt8) (most:Nat):(ts b most).1.length<=b.length:=by
 rw [ts_eq];have:=QaA b;split
 ·simp
 split
 ·simp
 split
 ·simp
 show ((tn b).2.1.take (tn b).1).length<=_;rw [List.length_take]; omega
end
section
open Go.RowKit Go.Maps
attribute [local irreducible] wpList Q0c
theorem ANew.before {w W w':zB} {k:Book} {V:ALoc} {L:LL} {asked:Nat} {m:AM} (hb:zE w.heap.size w W) (h:ANew W w' k V L asked m):ANew w w' k V L asked m:=by have hs:=hb.size;refine⟨h.kk,h.vat.mono (fun b _ hn=>hn.imp id (fun e=>by omega)) (fun b hv=>.inl hv),⟨by have:=h.new.1; omega,by have:=h.new.2.1; omega,fun b hb'=>by have:=h.new.2.2 b hb'; omega⟩,h.book,(Only.of_below hb).trans h.only⟩
def Qak (w:zB) (k:Book) (L:LL) (asked:Nat) (o:Option AM) (n:Nat) (e:Ending) (w':zB):Prop :=(o=none->e=.returned (.tuple #[.pointer none,.int .i64 (n:Int)])/\zE w.heap.size w w')/\(∀ m,o=some m->∃ V:ALoc,e=.returned (.tuple #[.pointer (some ⟨V.g,0,none⟩),.int .i64 0])/\ANew w w' k V L asked m)
structure Q9J (w:zB) (xs:List UInt8) (A:Option zA) (n c:Nat) (lv:zC) (rest:List UInt8) (acc:LL) (vs:List zC) (i:Nat) (wr:zB):Prop where
 rd:Q04 wr wr.heap.size 1 A n (rest.map vb)
 cap:n<=c
 own:OwnL wr w.heap.size lv acc vs
 al:acc.length=i
 ax:∀ x,x∈acc->x.length<=1000000000000
 go:Q3A 6 xs []=Q3A (6 - i) rest acc
 low:zE w.heap.size w wr
theorem QaD (k:Book) (L:LL) (asked:Nat) (A:Option zA) (n c:Nat) (xs:List UInt8) (w:zB) (hbk:Q0h w k L asked) (has:asked<=600000) (hr:Q04 w w.heap.size 1 A n (xs.map vb)) (hc:n<=c) (hn:n<=1000000000000) :
 Calls zH 37 #[.pointer (some ⟨k.g,0,none⟩),.slice A n c] w (Qak w k L asked (Q1V xs).1 (Q1V xs).2):=by
 obtain⟨o,ho⟩:∃ o,o=(Q1V xs).1:=⟨_,rfl⟩;obtain⟨en,hen⟩:∃ o,o=(Q1V xs).2:=⟨_,rfl⟩;rw [<- ho,<- hen];have HO:=sH ho;have HEN:=sH hen;have HBK:=sH hbk;have HST:=sH (show Q9J w xs A n c (.slice none 0 0) xs [] [] 0 w from⟨hr,hc,OwnL.nil _ _,rfl,(fun x hx=>by simp at hx),rfl,zK _ _⟩);obtain⟨i0,hi0,hz0,hz1,hz2⟩:=info_parts Q7f;clear hr hbk ho hen hc;go_enter Tryz.func37,Tryz.ntmps37
 go_wp2_with fail
 go_loopw [1,6,10] (fun bv lv iv wr=>∃ (A:Option zA) (n c:Nat) (rest:List UInt8) (acc:LL) (vs:List zC) (i:Nat),i<=6/\n<=1000000000000/\bv=.slice A n c/\iv=.int .i64 i/\Q9J w xs A n c lv rest acc vs i wr) (fun _ _ iv _=>6 - (intOf iv).toNat)
 case atStart=>exact⟨_,_,_,_,_,_,0,by omega,hn,rfl,rfl,HST.out⟩
 obtain⟨A,n,c,rest,acc,vs,i,hi,hn,rfl,rfl,hst⟩:=hrel;have HS:=sH hst;have hsz:=hst.low.size;have hrl:rest.length=n:=by have:=hst.rd.1; simpa using this
 have HRL:=sH hrl;clear hrl;by_cases hin:i<6
 ·have hinI:(i:Int)<6:=by omega
  have HT:=sH (Q50 A n c 128 rest wr wr.heap.size hst.rd (zI _) hst.cap (by omega) (by omega));have hgo:=HS.out.go.trans ((congrArg (fun q=>Q3A q rest acc) (show 6 - i=(6 - (i+1))+1 by omega)).trans (Q5s _ rest acc));have hl1:=ts_len rest 128;have hl2:=Q9h rest 128;obtain⟨q,hq⟩:∃ q,q=ts rest 128:=⟨_,rfl⟩;rw [<- hq] at HT hgo hl1 hl2;obtain⟨d,r2,e2⟩:=q;simp only at hgo hl1 hl2;have HT2:=sH (show Calls zH 56 #[.slice A n c,.int .i64 128] wr _ from HT.out);have HGO:=sH hgo;have HL1:=sH hl1;have HL2:=sH hl2;clear hst HT hq hgo hl1 hl2;go_wp2_with fail
  refine HT2.out.mono ?_;rintro _ w3 ⟨v,v',rfl,hod,hor,hb3⟩;obtain⟨Au,cu,hv,q1,q2,q3,q4⟩:=Q0m hod;obtain⟨A4,c4,hv',p1,p2,p3,p4⟩:=Q0m hor;subst hv hv';have HP3:=sH p3;have hs3:=hb3.size;have hrn:r2.length<=1000000000000:=by have:=HL1.out; have:=HRL.out; omega
  have hdn:d.length<=1000000000000:=by have:=HL2.out; have:=HRL.out; omega
  obtain⟨u,hu⟩:∃ u,u=Value.slice Au d.length cu:=⟨_,rfl⟩;have HOR:=sH (show OwnB w3 w.heap.size (.slice A4 r2.length c4) r2 from hor.more hsz);have HOD:=sH (show OwnB w3 w.heap.size u d from by rw [hu]; exact hod.more hsz);have HB3:=sH hb3;clear hod hor q1 q2 q3 q4 p2 p3 p4 HT2;obtain⟨nd,hnd⟩:∃ k,k=d.length:=⟨_,rfl⟩;obtain⟨nr,hnr⟩:∃ k,k=r2.length:=⟨_,rfl⟩;rw [<- hnd] at hu hdn ⊢;rw [<- hnr] at hrn p1 HP3 HOR ⊢;have HND:=sH hnd;clear hnd hnr;by_cases he:e2=0
  ·subst he;have HW:=sH (show (w3.alloc (.cells #[u] 28)).ownsRow w.heap.size 28 1 _ i vs from by
    have:=(Q0k HS.out.own.row (w':=w3) fun b hb''=>hb3.block b (Q0f HS.out.own.row hb'').2).alloc (.cells #[u] 28);rw [HS.out.al] at this;exact this)
   have HR3:=sH (Q0l w3 #[u] 28);rw [hu] at HW HR3;have HU:=sH hu;clear hb3 hu;go_wp2_with (at_builtin; go_must (refine Q05 _ rfl (.tmp 21) (.tmp 23) 43 rfl w.heap.size 28 i0 _ 1 24 Tryz.underlying43 hi0 hz0 hz1 hz2 rfl (by omega) _ i vs rfl HW.out (w3.heap.size+1) (some ⟨w3.heap.size,0,none⟩) 1 1 [.slice Au nd cu] rfl HR3.out ?c1 ?c2 ?c3 ?c4 ?_))
   case c1=>intro z hz; rw [List.mem_singleton] at hz; subst hz; rfl
   case c2=>unfold maxLen; omega
   case c3=>omega
   case c4=>simp; omega
   intro v6 w6 hown6 hg6 hor6;rw [<- HU.out] at hown6 hg6;have ho6:OwnL w6 w.heap.size v6 (acc++[d]) (vs++[u]):=HS.out.own.push HB3.out HOD.out (by rw [HS.out.al]; exact hown6) hg6;have hb6:zE w.heap.size w w6:=Q0i ((HS.out.low.trans (HB3.out.mono hsz)).trans ((Q02 w3 (.cells #[u] 28)).mono (by omega))) (by simp; omega) hg6 (fun b hb=>(Q0f HS.out.own.row hb).1);have hrd6:Q04 w6 w6.heap.size 1 A4 nr (r2.map vb):=(HS.out.own.push_keep HB3.out hg6 HOR.out).reads.2.2.2.1;have hst6:Q9J w xs A4 nr c4 v6 r2 (acc++[d]) (vs++[u]) (i+1) w6:=⟨hrd6,p1,ho6,by rw [zJ,HS.out.al]; rfl,(by
    intro x hx;rcases List.mem_append.1 hx with hx | hx
    ·exact HS.out.ax x hx
    rw [List.mem_singleton] at hx; rw [hx,<- HND.out]; exact hdn),by rw [HGO.out,if_neg (by simp)],hb6⟩
   have HST6:=sH hst6;clear hown6 hg6 hor6 ho6 hb6 hrd6 hst6;go_wp2_with fail
   go_roundw
   case rel=>exact⟨_,_,_,_,_,_,i+1,by omega,hrn,rfl,by go_num,HST6.out⟩
   case measure=>simp [intOf]; omega
  have heb:((e2:Int) != 0)=true:=by simp; omega
  have hlo:Q1V xs=(none,e2):=by unfold Q1V;rw [HGO.out,if_pos he];simp only;rw [if_pos he]
  have ho:o=none:=by rw [HO.out,hlo]
  have he2:en=e2:=by rw [HEN.out,hlo]
  have HLOW:=sH (HS.out.low.trans (hb3.mono hsz));subst ho he2;clear hb3 hu hlo HO HEN HS;go_wp2_with fail
  go_ret2
  exact⟨fun _=>⟨rfl,HLOW.out⟩,fun m hm=>by cases hm⟩
 obtain rfl:i=6:=by omega
 have hinI:¬ (6:Int)<6:=by omega
 have hlg:Q3A 6 xs []=(acc,rest,0):=by rw [HS.out.go]; rfl
 have HLG:=sH hlg;obtain⟨Al,cl,hlv,hcl,hrows⟩:=HS.out.own.rowsC;rw [HS.out.al] at hlv hrows;subst hlv;have HROWS:=sH hrows;clear hst hlg hrows hcl;by_cases h0:n=0
 ·have h0I:¬ (0:Int)<(n:Int):=by omega
  subst h0;have hlo:Q1V xs=match Q2h acc with | none=>(none,2) | some m=>(some m,0):=by unfold Q1V;rw [HLG.out];simp only;rw [if_neg (by simp),if_neg (by rw [HRL.out]; omega)];cases Q2h acc <;> rfl
  have HBW:=sH (HBK.out.below HS.out.low);have HOP:=sH (Q7H k L asked Al 6 cl acc wr HBW.out has HROWS.out (by omega) (fun x hx=>by have:=HS.out.ax x hx; omega));have hoo:o=Q2h acc:=by rw [HO.out,hlo]; cases Q2h acc <;> rfl
  have hee:o=none->en=2:=fun h=>by rw [HEN.out,hlo,<- hoo,h]
  rw [<- hoo] at HOP;have HEE:=sH hee;have HLOW:=sH HS.out.low;clear hlo hoo hee HO HEN HS HLG;go_wp2_with fail
  refine HOP.out.mono ?_;rintro _ w9 ⟨hno,hso⟩;rcases Option.eq_none_or_eq_some o with hoc | ⟨m,hoc⟩
  ·obtain⟨rfl,hb9⟩:=hno hoc;have HB9:=sH (HLOW.out.trans (hb9.mono hsz));have he2:en=2:=HEE.out hoc;subst he2;subst hoc;clear hno hso hb9 HOP;go_wp2_with fail
   go_ret2
   exact⟨fun _=>⟨rfl,HB9.out⟩,fun m hm=>by cases hm⟩
  obtain⟨V,rfl,hnew⟩:=hso m hoc;have HNEW:=sH (ANew.before HLOW.out hnew);subst hoc;clear hno hso hnew HOP;go_wp2_with fail
  go_ret2
  refine⟨(fun hm=>by cases hm),fun m' hm=>⟨V,rfl,?_⟩⟩;rw [<- zO hm];exact HNEW.out
 have h0I:(0:Int)<(n:Int):=by omega
 have hlo:Q1V xs=(none,4):=by unfold Q1V;rw [HLG.out];simp only;rw [if_neg (by simp),if_pos (by rw [HRL.out]; omega)]
 have ho:o=none:=by rw [HO.out,hlo]
 have he2:en=4:=by rw [HEN.out,hlo]
 have HLOW:=sH HS.out.low;subst ho he2;clear hlo HO HEN HS;go_wp2_with fail
 go_ret2
 exact⟨fun _=>⟨rfl,HLOW.out⟩,fun m hm=>by cases hm⟩
end
section
open Go.RowKit Go.Maps
def Q21 (n:Nat):List (Int×List Int) :=
 if n=0 then [] else if n=1 then [(1,[5,6,7,8]),(1,[9,10,11,12]),(1,[13,14,15,16])] else if n=2 then [(1,[4,6,7,8]),(1,[9,10,11,12])]
 else if n=3 then [(1,[5,6,7,8]),(1,[8,10,11,12])] else if n=4 then [(1,[5,6,7,8]),(0,[13])] else if n=5 then [(1,[5,6,7]),(1,[9,10,11,12])]
 else [(1,[9,10,11,12]),(1,[9,10,11,12])]
theorem Q3I:∀ n,n<7->newQ (Q21 n)=none:=by decide +kernel
def ok0:AM:=Q1k [⟨1,[5,6,7,8],[]⟩]
theorem newQ_one:newQ [(1,[5,6,7,8])]=some ok0:=by kernel_rfl
def Q9q:Wish:=⟨31,1,1,0,1,0,[],0,0,[]⟩
theorem Qbl:(doQ ok0 Q9q).1=ok0/\(doQ ok0 Q9q).2.2=2:=⟨by kernel_rfl,by kernel_rfl⟩
theorem Qbb:(doQ ok0 (Q1e 31 0 1)).1=ok0/\(doQ ok0 (Q1e 31 0 1)).2.2=2:=⟨by kernel_rfl,by kernel_rfl⟩
def ok1:AM:=(doQ ok0 (Q1e 31 1 2)).1
def ok2:AM:=(doQ ok1 (Q0N 34 1 2 9 20)).1
def ok3:AM:=(doQ ok2 (Q0N 34 2 1 9 20)).1
def ok4:AM:=(doQ ok3 (Q0N 34 3 1 5 6)).1
def ok5:AM:=(doQ ok4 (Q0N 34 4 1 5 4)).1
def ok6:AM:=(doQ ok5 (Q0N 33 5 1 5 20)).1
theorem ok_a0:Q1p ok0 (Q1e 31 1 2) 180 0 []:=by decide +kernel
theorem ok_a1:Q1p ok1 (Q0N 34 1 2 9 20) 180 0 []:=by decide +kernel
theorem ok_a2:Q1p ok2 (Q0N 34 2 1 9 20) 180 0 []:=by decide +kernel
theorem ok_a3:Q1p ok3 (Q0N 34 3 1 5 6) 180 0 []:=by decide +kernel
theorem ok_a4:Q1p ok4 (Q0N 34 4 1 5 4) 180 0 []:=by decide +kernel
theorem ok_a5:Q1p ok5 (Q0N 33 5 1 5 20) 180 0 []:=by decide +kernel
theorem ok_c6:ok6.chunks.length=1/\(ok6.chunks[0]?.map fun s=>Q0U s.first s.moves)=some [[5,6,7,8]]:=by decide +kernel
def okN:Nat->AM
 | 0=>ok6
 | n+1=>(doQ (okN n) (Q0N 34 (10+(n:Int)) 1 (5+(n:Int)) (9+(n:Int)))).1
theorem okN_ans:∀ n,n<20->Q1p (okN n) (Q0N 34 (10+(n:Int)) 1 (5+(n:Int)) (9+(n:Int))) 0 (n+1) []:=by decide +kernel
theorem okN_len:∀ n,n<20->(okN n).chunks.length=1/\((okN n).chunks[0]?.map fun s=>(Q0U s.first s.moves).length)=some (n+1):=by decide +kernel
theorem okN_head:∀ n,n<20->((okN n).chunks[0]?.map fun s=>((Q0U s.first s.moves).getD n []))=some [5+(n:Int),6+(n:Int),7+(n:Int),8+(n:Int)]:=by decide +kernel
def le0:AM:=Q1k [⟨0,[2],[]⟩]
theorem Q9y:newQ [(0,[2])]=some le0:=by kernel_rfl
def leN:Nat->AM
 | 0=>le0
 | n+1=>(doQ (leN n) (Q0N 34 (1+(n:Int)) 1 (2+(n:Int)) (3+(n:Int)))).1
theorem leN_ans:∀ n,n<21->Q1p (leN n) (Q0N 34 (1+(n:Int)) 1 (2+(n:Int)) (3+(n:Int))) 0 (n+1) []:=by decide +kernel
def le22:AM:=(doQ (leN 21) (Q0N 34 99 1 23 24)).1
def le23:AM:=(doQ le22 (Q1e 31 1 1)).1
theorem le_a0:Q1p (leN 21) (Q0N 34 99 1 23 24) 5 0 []:=by decide +kernel
theorem le_a1:Q1p le22 (Q1e 31 1 1) 0 21 [23]:=by decide +kernel
def Q26 (n:Nat):LL :=
 if n=0 then(Q07 ak0).take 5 else if n=1 then(Q07 ak0).set 0 [0] else if n=2 then(Q07 ak0).set 1 [0,0]
 else if n=3 then(Q07 ak0).set 0 [1,2,1,1,1,5,1,6,1,7,1,8] else if n=4 then(Q07 ak0).set 0 [1,2,1,1,1,5,1,6,1,7,1,8,1,9,1,13]
 else if n=5 then(Q07 ak0).set 0 [1,2,1,1,1,5,1,6,1,7,1,8,1,5,1,12] else if n=6 then(Q07 ak0).set 2 [0,0,0,1,1,1,5]
 else if n=7 then(Q07 ak0).set 2 [1,1,1,2,0,0] else if n=8 then(Q07 ak0).set 2 [1,1,0,1,22,0] else if n=9 then(Q07 ak0).set 2 [1,1,0,0,1,2,1,5,1,6]
 else(Q07 ak0).set 5 [8]
theorem Q3f:∀ n,n<11->Q2h (Q26 n)=none:=by decide +kernel
theorem Q1d:∀ n,n<11->∀ x,x∈Q26 n->x.length<=1000:=by decide +kernel
theorem Q2H:(Q07 ak0).length=6:=Q0r ak0
theorem Q9o:(Q2K ak0).length=52:=by kernel_rfl
theorem ak_trunc:Q1V ((Q2K ak0).take 51)=(none,3):=by kernel_rfl
theorem Qbk:Q1V (Q2K ak0++[0])=(none,4):=by kernel_rfl
theorem ak_some:(Q1V (Q2K ak0)).1.isSome=true:=by decide +kernel
end
section
open Go.RowKit
theorem Q0I {o:Oper} {ops:Array Oper} {tm:Array zC} {j d:Nat} {b:Bool} (hg:o.guard=some (j,b)) (hd:(ops[j]?).bind (·.dst)=some d) (he:tm[d]?.getD undef=.bool b):Region.wanted o (yielded ops tm)=true:=by
 unfold Region.wanted yielded;rw [hg];simp only [hd,Option.bind_some];cases ht:tm[d]? with
 | none=>rw [ht] at he; simp [undef] at he
 | some v =>
  rw [ht] at he;simp only [Option.getD_some] at he;subst he
  simp
end
section
open Go.RowKit Go.Maps
attribute [local irreducible] wpList
theorem Qb2 (A:Option zA) (n c:Nat) (xs:List UInt8) (w:zB) (B:Nat) (h:Q04 w B 1 A n (xs.map vb)) (hB:B<=w.heap.size) (hn:n<65536) :
 Calls zH 93 #[.pointer none,.slice A n c] w fun e w'=>e=.returned (.tuple #[.agg inkZ,.int .i64 1])/\zE w.heap.size w w':=by
 have hxn:xs.length=n:=by have:=h.1; simpa using this
 have HXN:=sH hxn;have hX:zE w.heap.size w (w.alloc (.cells inkZ 51)):=(zK _ _).alloc (zI _) _;have hk0:Blk (w.alloc (.cells inkZ 51)) w.heap.size 51 inkZ:=Blk.newAt (by simp);have HRD:=sH h;obtain⟨i0,hi0,hz0,hz1,hz2⟩:=info_parts Q2p;have HZ:=sH Q23;have HZS:=sH (show inkZ.size=32 by simp [inkZ,bRow]);have hs0:(w.alloc (.cells inkZ 51)).heap.size=w.heap.size+1:=by simp
 have HX:=sH hX;have HK0:=sH hk0;have HS0:=sH hs0;clear h hX hk0 hs0 hxn;obtain⟨g,hg⟩:∃ g,g=w.heap.size:=⟨_,rfl⟩;have hnn:¬ (65536:Int)<=(n:Int):=by omega
 go_enter Tryz.func93,Tryz.ntmps93
 go_upto_region 1 with fail
 rw [<- HZ.out];generalize World.alloc w _=w1 at HX HK0 HS0 ⊢;rw [<- hg] at HK0 HS0 ⊢;have hs1:=HX.out.size;have hg1:g<w1.heap.size:=by have:=HS0.out; omega
 have hgw:w.heap.size<=g:=by omega
 have HRD1:=sH (HRD.out.below (HX.out.mono hB));have HW0:=sH (World.ownsRow_lit (base:=w1.heap.size) (e:=5) (size:=1) w1 #[.int .u8 0] 1 (zI _) (by unfold maxLen; omega) rfl);have HRD2:=sH (HRD1.out.alloc (by omega) (.cells #[.int .u8 0] 5));clear HS0 hg;go_wp2_with (at_builtin; go_must (refine Q05 _ rfl (.tmp 11) (.tmp 12) 28 rfl w1.heap.size 5 i0 _ 1 1 Tryz.underlying28 hi0 hz0 hz1 hz2 rfl (by omega) _ 1 _ rfl HW0.out B A n c (xs.map vb) rfl HRD2.out ?c1 ?c2 ?c3 (by simp) ?_))
 case c1=>intro u hu; rfl
 case c2=>unfold maxLen; omega
 case c3=>omega
 intro v2 w2 hown2 hg2 hor2;have hb2:zE w1.heap.size w1 w2:=Q0i ((zK _ _).alloc (zI _) _) (by simp) hg2 (fun b hb=>by
  have:b=w1.heap.size:=by simpa [Value.ownBlock] using hb.symm
  omega)
 have hob:OwnB w2 w1.heap.size v2 (Q1Z xs):=by unfold OwnB Q1Z;rw [zN,HXN.out,List.map_cons,Nat.add_comm];exact hown2
 obtain⟨Ab,cb,rfl,hbc,hbm,hbr,hbB⟩:=Q0m hob;have hll:(Q1Z xs).length=n+1:=by unfold Q1Z; rw [zN,HXN.out]
 rw [hll] at hbc hbr ⊢;have HB2:=sH (HX.out.trans (hb2.mono hs1));have HK2:=sH (HK0.out.under hb2);have hs2:=hb2.size;have hof:=Q9w none (.slice Ab (n+1) cb) w2 (.inl rfl);have hsz:inkZ.size=32:=by simp [inkZ,bRow]
 have hon:inkZ.all (·.oneCell')=true:=Q0Q _;have HOF:=sH hof;obtain⟨D,hD⟩:∃ D,D=inkZ:=⟨_,rfl⟩;rw [<- hD] at HOF hsz hon;have HD:=sH hD;have HSZ:=sH hsz;have HON:=sH hon;clear hob hb2 hown2 hg2 hor2 hbr hbB hof hsz hon hD HRD1 HRD2 HW0 hll;go_wp2_with fail
 refine HOF.out.mono ?_;rintro _ w3 ⟨rfl,ho3⟩;have HO3:=sH (HB2.out.trans (ho3.mono HB2.out.size));have HK3:=sH (HK2.out.below' ho3);have hs3:=ho3.size;clear ho3;go_wp2_with (refine Q00 (o:=⟨none,_,_,_,_,_⟩) rfl 51 (.tmp 4) (.tmp 15) rfl g 0 D rfl rfl 51 inkZ HK3.out (by rw [HSZ.out]; rfl) (by rw [HSZ.out,HZS.out]; omega) HON.out ?_; intro w5 hT5 hD5; rw [Q0a _ _ (by rw [HSZ.out,HZS.out])] at hD5)
 refine bodyPost_ret (Q03 rfl _ _ g 32 51 _ _ rfl hD5 Tryz.underlying51 rfl rfl HSZ.out) rfl ⟨by rw [HD.out]; rfl,?_⟩;exact hT5.below HO3.out hgw
theorem Q9W (n:Nat) (w:zB) (hn:n=13\/n=6) :
 Calls zH 73 #[.pointer none,.int .i64 (n:Int)] w fun e w'=>e=.returned (.tuple #[.pointer none,.int .i64 1])/\zE w.heap.size w w':=by
 have hmf:∀ (fn:Fn) (first cap:Array zC) (w:zB),(Instr.makeFunc fn first cap).run zH w=.ok (.func fn first cap) w:=fun _ _ _ _=>rfl
 have hn2:6<=n/\n<=13:=by omega
 have hn1:¬ (n:Int)<1:=by omega
 have hn1024:¬ (1024:Int)<(n:Int):=by omega
 obtain⟨b2,hb2⟩:∃ b2,b2=w.heap.size:=⟨_,rfl⟩;obtain⟨b3,hb3⟩:∃ b3,b3=w.heap.size+1:=⟨_,rfl⟩;go_enter Tryz.func73,Tryz.ntmps73
 go_upto_region 1 with fail
 have hX:zE w.heap.size w ((w.alloc (.cells #[.pointer none] 22)).alloc (.cells #[.int .i64 (n:Int)] 3)):=((zK _ _).alloc (zI _) _).alloc (by simp) _;have k2:Blk ((w.alloc (.cells #[.pointer none] 22)).alloc (.cells #[.int .i64 (n:Int)] 3)) w.heap.size 22 #[.pointer none]:=(Blk.newAt rfl).alloc _;have k3:Blk ((w.alloc (.cells #[.pointer none] 22)).alloc (.cells #[.int .i64 (n:Int)] 3)) (w.heap.size+1) 3 #[.int .i64 (n:Int)]:=Blk.newAt (by simp);have hz1:((w.alloc (.cells #[.pointer none] 22)).alloc (.cells #[.int .i64 (n:Int)] 3)).heap.size=w.heap.size+2:=by simp
 generalize (w.alloc (.cells #[.pointer none] 22)).alloc (.cells #[.int .i64 (n:Int)] 3)=w1 at hX k2 k3 hz1 ⊢;rw [<- hb3] at k3 ⊢;rw [<- hb2] at k2 hz1 ⊢;have hb2w:w.heap.size<=b2:=by omega
 have hb3w:w.heap.size<=b3:=by omega
 have hb23:b2≠b3:=by omega
 have hw1:w.heap.size<=w1.heap.size:=by omega
 have HX:=sH hX;have K2:=sH k2;have K3:=sH k3;have hl2:=k2.lt;have hl3:=k3.lt;clear hb2 hb3 hX k2 k3 hz1;have c3:w1.cell? ⟨b3,0,none⟩=some (.int .i64 (n:Int)):=(K3.out.cell 0).trans rfl;have c2:w1.cell? ⟨b2,0,none⟩=some (.pointer none):=(K2.out.cell 0).trans rfl;have HLF:=sH (Qb2 none 0 0 [] w1 w1.heap.size Q04.none_ (zI _) (by omega));have HZS:=sH (show inkZ.size=32 by simp [inkZ,bRow]);have HZ:=sH Q23;have hds:inkZ.size=32:=by simp [inkZ,bRow]
 have hdo:inkZ.all (·.oneCell')=true:=Q0Q _;obtain⟨D,hD⟩:∃ D,D=inkZ:=⟨_,rfl⟩;rw [<- hD] at HLF hds hdo;have HD:=sH hD;have HDS:=sH hds;have HDO:=sH hdo;clear hD hds hdo;go_wp2_with fail
 refine HLF.out.mono ?_;rintro _ w3 ⟨rfl,ho3⟩;have HO3:=sH (HX.out.trans (ho3.mono HX.out.size));have hs3:=ho3.size;clear ho3 c2 c3 K2 K3 HLF;go_upto_region 4 with(refine Q00 (o:=⟨none,_,_,_,_,_⟩) rfl 51 (.tmp 6) (.tmp 18) rfl w3.heap.size 0 D rfl rfl 51 inkZ (by rw [HZ.out]; exact Blk.newAt rfl) (by rw [HDS.out]; rfl) (by rw [HDS.out,HZS.out]; omega) HDO.out ?_; intro w4 hT4 hD4; rw [Q0a _ _ (by rw [HDS.out,HZS.out])] at hD4)
 have hb4:zE w3.heap.size w3 w4:=hT4.below ((zK _ _).alloc (zI _) _) (zI _);clear hT4 hD4;go_wp2_with fail
 go_ret2
 exact⟨rfl,HO3.out.trans (hb4.mono HO3.out.size)⟩
end
section
open Go.RowKit Go.Maps
attribute [local irreducible] wpList Q0c
theorem Q6M (w:zB) (g:Nat) :
 Calls zH 60 #[.pointer (some ⟨g,0,none⟩),.pointer none] w fun e w'=>e=.returned (.tuple #[.pointer none,.int .i64 1])/\zE w.heap.size w w':=by
 have HT:=sH (Q9W 6 w (.inr rfl));go_enter Tryz.func60,Tryz.ntmps60
 go_wp2_with fail
 refine HT.out.mono ?_;rintro _ w1 ⟨rfl,hb⟩;go_wp2_with fail
 go_ret2
 exact⟨rfl,hb⟩
def Q3v (w:zB) (o:Option AM) (e:Ending) (w':zB):Prop :=(o=none->e=.returned (.tuple #[.pointer none,.int .i64 2])/\zE w.heap.size w w')/\(∀ m,o=some m->e=.returned (.tuple #[.pointer none,.int .i64 1])/\zE w.heap.size w w')
theorem Qbr (A:Option zA) (n c:Nat) (cs:List (Int×List Int)) (w:zB) (h:Q1g w A n cs) (hn:n<=17592186044416) :
 Calls zH 27 #[.pointer none,.slice A n c] w (Q3v w (newQ cs)):=by
 have HBG:=sH (Q4d A n c cs w h hn);obtain⟨o,ho⟩:∃ o,o=newQ cs:=⟨_,rfl⟩;rw [<- ho];have HO:=sH ho;clear h ho;go_enter Tryz.func27,Tryz.ntmps27
 go_wp2_with fail
 refine HBG.out.mono ?_;rintro _ w1 ⟨hb1,hno,hso⟩;have hs1:=hb1.size;cases hb:Q1S cs with
 | none =>
  have ho:o=none:=by rw [HO.out]; unfold newQ; rw [hb]; rfl
  obtain rfl:=hno hb;have HP:=sH (show Q3v w o (.returned (.tuple #[.pointer none,.int .i64 2])) w1 from⟨fun _=>⟨rfl,hb1⟩,fun m hm=>(by rw [ho] at hm; cases hm)⟩);clear hno hso hb1 ho HBG;go_wp2_with fail
  go_ret2
  exact HP.out
 | some acc =>
  have ho:o=some (Q1k acc):=by rw [HO.out]; unfold newQ; rw [hb]; rfl
  obtain⟨g,v,nA,nC,rfl,hraw⟩:=hso acc hb;have HPL:=sH (Q6M w1 g);have HB1:=sH hb1;have HOM:=sH ho;clear hno hso hb1 ho HBG hraw;go_wp2_with fail
  refine HPL.out.mono ?_;rintro _ w2 ⟨rfl,hb2⟩;have HP:=sH (show Q3v w o (.returned (.tuple #[.pointer none,.int .i64 1])) w2 from⟨fun e=>(by rw [HOM.out] at e; cases e),fun m hm=>⟨rfl,HB1.out.trans (hb2.mono HB1.out.size)⟩⟩);clear hb2 HPL;go_wp2_with fail
  go_ret2
  exact HP.out
end
end Go.Proofs.YtckjnbjiafgibaaGreat
