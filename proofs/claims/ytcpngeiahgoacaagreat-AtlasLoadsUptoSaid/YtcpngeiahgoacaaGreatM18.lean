/- Parts of the proof, in one text. -/
import Derived.Test.YtcpngeiahgoacaaGreatM17
import Derived.Test.YtcpngeiahgoacaaGreatM15
import Derived.Test.YtcpngeiahgoacaaGreatM6
import Derived.Test.YtcpngeiahgoacaaGreatM10
import Derived.Test.YtcpngeiahgoacaaGreatM11
import Derived.Test.YtcpngeiahgoacaaGreatM16
import Derived.Test.YtcpngeiahgoacaaGreatM13
import Derived.Test.YtcpngeiahgoacaaGreatM9
namespace Go.Proofs.YtcpngeiahgoacaaGreat
set_option linter.unusedVariables false
set_option linter.unusedSimpArgs false
set_option maxRecDepth 100000
set_option maxHeartbeats 16000000
open _root_.Array renaming getElem?_toList->zM
open _root_.Go renaming Addr->zA,World->zB,Value->zC
open _root_.Go.RowKit renaming Below->zE
open _root_.Go.Value renaming slice->zQ
open _root_.List renaming getElem?_eq_getElem->zD,getElem?_map->zG,range->zH,length_append->zJ,getElem?_take->zK,length_cons->zL,getElem?_set->zN,length_set->zO
open _root_.Nat renaming lt_or_ge->zF,le_refl->zI
open _root_.Option.some renaming inj->zP
section
open Go.RowKit Go.Maps
attribute [local irreducible] wpList Q0h
def numF (xss:LL) (j:Nat):List Nat:=(Q2u (xss.getD j [])).getD []
def sixV (vs:Nat->zC) (i:Nat):Array zC:=rng 6 (fun j=>if j<i then vs j else .slice none 0 0)
theorem Qax (vs:Nat->zC):sixV vs 0=#[.slice none 0 0,.slice none 0 0,.slice none 0 0,.slice none 0 0,.slice none 0 0,.slice none 0 0]:=rfl
theorem Q3Y (vs:Nat->zC) (i j:Nat) (h:j<6):(sixV vs i)[j]?=some (if j<i then vs j else .slice none 0 0):=Q1e _ _ _ h
theorem sixV_set (vs:Nat->zC) (i:Nat) (v:zC):(sixV vs i).setIfInBounds i v=sixV (upd vs i v) (i+1):=by
 unfold sixV;rw [Q1P];refine Q1b fun j hj=>?_
 by_cases h:j=i
 ·subst h; rw [if_pos rfl,if_pos (by omega),Q0W]
 rw [if_neg h];by_cases h2:j<i
 ·rw [if_pos h2,if_pos (by omega),Q0X _ _ _ h]
 rw [if_neg h2,if_neg (by omega)]
structure NmSt (w:zB) (g6:Nat) (xss:LL) (i:Nat) (wr:zB):Prop where
 blk:∃ vs:Nat->zC,Blk wr g6 154 (sixV vs i)/\∀ j,j<i->OwnN wr w.heap.size (vs j) (nI (numF xss j))
 max:∀ j,j<i->∀ x,x∈numF xss j->x<=maxN
 is_:∀ j,j<i->(Q2u (xss.getD j [])).isSome=true
 low:zE w.heap.size w wr
 g6:w.heap.size<=g6
theorem NmSt.below {w wr W:zB} {g6:Nat} {xss:LL} {i:Nat} (h:NmSt w g6 xss i wr) (hb:zE wr.heap.size wr W):NmSt w g6 xss i W:=by obtain⟨vs,h1,h2⟩:=h.blk;exact⟨⟨vs,h1.below' hb,fun j hj=>(h2 j hj).below_ hb⟩,h.max,h.is_,h.low.trans (hb.mono h.low.size),h.g6⟩
theorem NmSt.push {w wr w2:zB} {g6:Nat} {xss:LL} {i:Nat} {v:zC} (h:NmSt w g6 xss i wr) (hb:zE wr.heap.size wr w2) (ho:OwnN w2 wr.heap.size v (nI (numF xss i))) (hm:∀ x,x∈numF xss i->x<=maxN) (hs:(Q2u (xss.getD i [])).isSome=true):NmSt w g6 xss (i+1) (w2.setCell ⟨g6,i,none⟩ v):=by
 obtain⟨vs,h1,h2⟩:=(h.below hb).blk;have hT:=Q0b.setCell w2 ⟨g6,i,none⟩ v;have hl:=h.low.size;refine⟨⟨upd vs i v,?_,fun j hj=>?_⟩,fun j hj=>?_,fun j hj=>?_,hT.below (h.below hb).low h.g6,h.g6⟩
 ·rw [<- sixV_set]; exact h1.set_ i v
 ·by_cases e:j=i
  ·subst e;rw [Q0W];exact(OwnN.more ho hl).keep_ fun b hb'=>hT.block b (fun e=>Q05 ho h1 (by decide) (by rw [hb',e]))
  rw [Q0X _ _ _ e];have:=h2 j (by omega);exact this.keep_ fun b hb'=>hT.block b (fun e=>Q05 this h1 (by decide) (by rw [hb',e]))
 ·rcases zF j i with e | e
  ·exact h.max j e
  obtain rfl:j=i:=by omega
  exact hm
 rcases zF j i with e | e
 ·exact h.is_ j e
 obtain rfl:j=i:=by omega
 exact hs
theorem Q5U {xss:LL} (h:¬ (xss.length=6/\(∀ i,i<6->(Q2u (xss.getD i [])).isSome=true))):Q3h xss=none:=if_neg h
theorem Q8M {xss:LL} (h1:xss.length=6) (h2:∀ i,i<6->(Q2u (xss.getD i [])).isSome=true):Q3h xss=Q9V (numF xss):=if_pos ⟨h1,h2⟩
def fstF (xss:LL) (j:Nat):(Int×List Int)×List Int:=(Q26 (numF xss j)).getD ((0,[]),[])
structure SaSt (w:zB) (g6:Nat) (xss:LL) (vs:Nat->zC) (wr:zB):Prop where
 blk:Blk wr g6 154 (sixV vs 6)
 own:∀ j,j<6->OwnN wr w.heap.size (vs j) (nI (numF xss j))
 low:zE w.heap.size w wr
theorem SaSt.below {w wr W:zB} {g6:Nat} {xss:LL} {vs:Nat->zC} (h:SaSt w g6 xss vs wr) (hb:zE wr.heap.size wr W):SaSt w g6 xss vs W :=⟨h.blk.below' hb,fun j hj=>(h.own j hj).below_ hb,h.low.trans (hb.mono h.low.size)⟩
theorem NmSt.sa {w wr:zB} {g6:Nat} {xss:LL} (h:NmSt w g6 xss 6 wr):∃ vs,SaSt w g6 xss vs wr:=by obtain⟨vs,h1,h2⟩:=h.blk;exact⟨vs,h1,h2,h.low⟩
def Q5G (q:(Int×List Int)×List Int) (A:Option zA) (c:Nat):List zC:=[.int .i64 q.1.1,.slice A q.1.2.length c]
def Q1S (xss:LL) (fA:Nat->Option zA) (fC:Nat->Nat):Nat->List zC
 | 0=>[]
 | i+1=>Q1S xss fA fC i++Q5G (fstF xss i) (fA i) (fC i)
theorem Q8n (xss:LL) (fA:Nat->Option zA) (fC:Nat->Nat):∀ i,(Q1S xss fA fC i).length=i*2
 | 0=>rfl
 | i+1=>by show (Q1S xss fA fC i++Q5G _ _ _).length=_;rw [zJ,Q8n xss fA fC i];show i*2+2=_;omega
theorem Q6a (xss:LL) (fA:Nat->Option zA) (fC:Nat->Nat) (k:Nat) (A:Option zA) (c:Nat):∀ i,i<=k->Q1S xss (upd fA k A) (upd fC k c) i=Q1S xss fA fC i
 | 0,_=>rfl
 | i+1,h=>by show Q1S xss (upd fA k A) (upd fC k c) i++Q5G _ _ _=Q1S xss fA fC i++Q5G _ _ _;rw [Q6a xss fA fC k A c i (by omega),Q0X _ _ _ (by omega),Q0X _ _ _ (by omega)]
theorem Q6e (xss:LL) (fA:Nat->Option zA) (fC:Nat->Nat):∀ (i j:Nat),j<i->(Q1S xss fA fC i)[j*2]?=some (.int .i64 (fstF xss j).1.1)/\(Q1S xss fA fC i)[j*2+1]?=some (.slice (fA j) (fstF xss j).1.2.length (fC j))
 | i+1,j,h=>by
  show (Q1S xss fA fC i++Q5G _ _ _)[j*2]?=_/\(Q1S xss fA fC i++Q5G _ _ _)[j*2+1]?=_;have hl:=Q8n xss fA fC i;by_cases e:j=i
  ·subst e;rw [List.getElem?_append_right (by omega),List.getElem?_append_right (by omega),hl,Nat.sub_self,show j*2+1 - j*2=1 by omega];exact⟨rfl,rfl⟩
  rw [List.getElem?_append_left (by omega),List.getElem?_append_left (by omega)];exact Q6e xss fA fC i j (by omega)
def twoV (ms:Nat->zC) (i:Nat):Array zC:=rng 2 (fun j=>if j<i then ms j else .slice none 0 0)
theorem QeH (ms:Nat->zC):twoV ms 0=#[.slice none 0 0,.slice none 0 0]:=rfl
theorem Qe2 (ms:Nat->zC) (i j:Nat) (h:j<2):(twoV ms i)[j]?=some (if j<i then ms j else .slice none 0 0):=Q1e _ _ _ h
theorem twoV_set (ms:Nat->zC) (i:Nat) (v:zC):(twoV ms i).setIfInBounds i v=twoV (upd ms i v) (i+1):=by
 unfold twoV;rw [Q1P];refine Q1b fun j hj=>?_
 by_cases h:j=i
 ·subst h; rw [if_pos rfl,if_pos (by omega),Q0W]
 rw [if_neg h];by_cases h2:j<i
 ·rw [if_pos h2,if_pos (by omega),Q0X _ _ _ h]
 rw [if_neg h2,if_neg (by omega)]
structure FsOk (B:Nat) (xss:LL) (u:zC) (j:Nat) (A1:Option zA) (c1:Nat) (m:zC):Prop where
 is_:Q26 (numF xss j)=some (fstF xss j)
 fl:∃ f:Nat,(fstF xss j).1.1=(f:Int)/\f<=2
 rd:∀ W,OwnN W B u (nI (numF xss j))->Q08 W W.heap.size 1 A1 (fstF xss j).1.2.length ((fstF xss j).1.2.map vn)
 mv:∃ A c,m=.slice A (fstF xss j).2.length c/\(∀ W,OwnN W B u (nI (numF xss j))->Q08 W W.heap.size 1 A (fstF xss j).2.length ((fstF xss j).2.map vn))/\(fstF xss j).2.length<=c
structure ChS (w:zB) (g6 g12:Nat) (xss:LL) (vs:Nat->zC) (fA:Nat->Option zA) (fC:Nat->Nat) (ms:Nat->zC) (i:Nat) (cv:zC) (wr:zB):Prop where
 sa:SaSt w g6 xss vs wr
 row:wr.ownsRow w.heap.size 77 2 cv i (Q1S xss fA fC i)
 arr:Blk wr g12 156 (twoV ms i)
 ok:∀ j,j<i->FsOk w.heap.size xss (vs j) j (fA j) (fC j) (ms j)
 gs:w.heap.size<=g12/\g6≠g12
theorem ChS.below {w wr W:zB} {g6 g12 i:Nat} {xss:LL} {vs ms:Nat->zC} {fA:Nat->Option zA} {fC:Nat->Nat} {cv:zC} (h:ChS w g6 g12 xss vs fA fC ms i cv wr) (hb:zE wr.heap.size wr W):ChS w g6 g12 xss vs fA fC ms i cv W :=⟨h.sa.below hb,Q0d h.row fun b hb'=>hb.block b (Q07 h.row hb').2,h.arr.below' hb,h.ok,h.gs⟩
theorem ChS.push {w wr W W':zB} {g6 g12 i:Nat} {xss:LL} {vs ms:Nat->zC} {fA:Nat->Option zA} {fC:Nat->Nat} {cv v':zC} {A1:Option zA} {c1:Nat} {m:zC} (h:ChS w g6 g12 xss vs fA fC ms i cv wr) (hb:zE wr.heap.size wr W)
 (hown:W'.ownsRow w.heap.size 77 2 v' (i+1) (Q1S xss fA fC i++Q5G (fstF xss i) A1 c1)) (hg:W.grownBy W' cv.ownBlock) (hq:FsOk w.heap.size xss (vs i) i A1 c1 m) :
 ChS w g6 g12 xss vs (upd fA i A1) (upd fC i c1) (upd ms i m) (i+1) v' (W'.setCell ⟨g12,i,none⟩ m):=by
 have hW:=h.below hb;have hT:=Q0b.setCell W' ⟨g12,i,none⟩ m;have hlow:=h.sa.low.size;have hbs:=hb.size;have n6:cv.ownBlock≠some g6:=Q05 hW.row hW.sa.blk (by decide);have n12:cv.ownBlock≠some g12:=Q05 hW.row hW.arr (by decide);have a1:Blk W' g6 154 (sixV vs 6):=(hg.block g6 hW.sa.blk.lt (fun e=>n6 e.symm)).trans hW.sa.blk;have a2:Blk W' g12 156 (twoV ms i):=(hg.block g12 hW.arr.lt (fun e=>n12 e.symm)).trans hW.arr;refine⟨⟨(hT.block g6 h.gs.2).trans a1,fun j hj=>?_,?_⟩,?_,?_,fun j hj=>?_,h.gs⟩
 ·have ho:=hW.sa.own j hj;have ho':OwnN W' w.heap.size (vs j) (nI (numF xss j)):=ho.keep_ fun b hb'=>hg.block b (Q07 ho hb').2 fun e=>by
   rcases hW.row.2 with⟨e1,_⟩ | ⟨gc,cap,cur,e1,_,e3,_⟩
   ·rw [e1] at e; cases e
   have hB:Blk W gc 77 cur:=e3;rw [e1] at e;have e':b=gc:=by simpa [Value.ownBlock] using e
   exact Q05 ho hB (by decide) (e'▸hb')
  exact ho'.keep_ fun b hb'=>hT.block b fun e=>Q05 ho' a2 (by decide) (by rw [hb',e])
 ·exact hT.below (Q0e hW.sa.low (by omega) hg fun b e=>(Q07 hW.row e).1) h.gs.1
 ·have hr:W'.ownsRow w.heap.size 77 2 v' (i+1) (Q1S xss (upd fA i A1) (upd fC i c1) (i+1)):=by
   show W'.ownsRow _ _ _ _ _ (Q1S xss (upd fA i A1) (upd fC i c1) i++Q5G (fstF xss i) (upd fA i A1 i) (upd fC i c1 i));rw [Q6a _ _ _ _ _ _ i (zI _),Q0W,Q0W];exact hown
  exact Q0d hr fun b hb'=>hT.block b fun e=>Q05 hr a2 (by decide) (by rw [hb',e])
 ·rw [<- twoV_set]; exact a2.set_ i m
 by_cases e:j=i
 ·subst e; rw [Q0W,Q0W,Q0W]; exact hq
 rw [Q0X _ _ _ e,Q0X _ _ _ e,Q0X _ _ _ e]; exact h.ok j (by omega)
theorem ChS.crews {w wr:zB} {g6 g12 i:Nat} {xss:LL} {vs ms:Nat->zC} {fA:Nat->Option zA} {fC:Nat->Nat} {cv:zC} (h:ChS w g6 g12 xss vs fA fC ms i cv wr) (hi:i<=6) (hl:∀ j,j<i->(fstF xss j).1.2.length<=100):∃ A c,cv=.slice A i c/\Q2p wr A i ((zH i).map fun j=>(fstF xss j).1):=by
 have hrd:∀ j,j<i->Q08 wr wr.heap.size 1 (fA j) (fstF xss j).1.2.length ((fstF xss j).1.2.map vn):=fun j hj=>(h.ok j hj).rd wr (h.sa.own j (by omega))
 rcases h.row.2 with⟨e,h0⟩ | ⟨gl,cap,cur,e,h2,h3,h4,h5,h6,h7⟩
 ·subst h0;exact⟨none,0,e,⟨rfl,fun h1=>by omega⟩⟩
 refine⟨some ⟨gl,0,none⟩,cap,e,⟨by simp,fun h1=>⟨gl,cur,rfl,h3,fun j f l hj=>?_⟩⟩⟩;rw [zG] at hj;have hji:j<i:=by
  rcases zF j i with q | q
  ·exact q
  rw [List.getElem?_eq_none (by simpa using q)] at hj; cases hj
 rw [List.getElem?_range hji] at hj;have e1:(fstF xss j).1=(f,l):=zP hj;have hg:=Q6e xss fA fC i j hji;have ht:∀ q,q<i*2->cur[q]?=(Q1S xss fA fC i)[q]?:=fun q hq'=>by rw [<- h7,zK,if_pos hq',zM]
 have hr:=hrd j hji;have hl':=hl j hji;rw [e1] at hg hr hl';exact⟨fA j,fC j,by rw [ht _ (by omega)]; exact hg.1,by rw [ht _ (by omega)]; exact hg.2,hr,by show l.length<=_; have:l.length<=100:=hl'; omega⟩
theorem Q7u:∀ (f:Nat) (b:List UInt8) (l:List Nat),Q3D f b=some l->l.length<=f
 | 0,b,l,h=>by
  unfold Q3D at h;split at h
  ·rw [<- zP h]; simp
  cases h
 | f+1,b,l,h=>by
  unfold Q3D at h;split at h
  ·rw [<- zP h]; simp
  split at h
  ·cases h
  cases hq:Q3D f (tn b).2.1 with
  | none=>rw [hq] at h; cases h
  | some t =>rw [hq] at h;have:=Q7u f _ t hq;have e:=zP h;rw [<- e,zL]; omega
theorem Q5Y (xss:LL) (j:Nat):(numF xss j).length<=(xss.getD j []).length:=by
 unfold numF;cases hq:Q2u (xss.getD j []) with
 | none=>exact Nat.zero_le _
 | some l=>exact Q7u _ _ l hq
theorem Q9T {f:Nat->List Nat} {nch i:Nat} (hn:nch=if f 1=[0] then 1 else 2) (hi:i<nch) (h:Q26 (f i)=none):Q9V f=none:=by
 unfold Q9V;by_cases h1:f 1=[0]
 ·rw [if_pos h1] at hn ⊢;obtain rfl:i=0:=by omega
  rw [h]
 rw [if_neg h1] at hn ⊢;obtain rfl | rfl:i=0\/i=1:=by omega
 ·rw [h]
 cases Q26 (f 0) with
 | none=>rfl
 | some p=>simp only; rw [h]
theorem Qcq {cs:List (Int×List Int)} {ms ms':Nat->List Int} {f:Nat->List Nat} (h0:ms 0=ms' 0) (h1:ms 1=ms' 1):Q6M cs ms f=Q6M cs ms' f:=by unfold Q6M;rw [h0,h1]
theorem Q92 {f:Nat->List Nat} {nch:Nat} {q:Nat->(Int×List Int)×List Int} (hn:nch=if f 1=[0] then 1 else 2) (h:∀ j,j<nch->Q26 (f j)=some (q j)):Q9V f=Q6M ((zH nch).map fun j=>(q j).1) (fun j=>if j<nch then(q j).2 else []) f:=by
 unfold Q9V;by_cases h1:f 1=[0]
 ·rw [if_pos h1] at hn ⊢;subst hn;rw [h 0 (by omega)];exact Qcq rfl rfl
 rw [if_neg h1] at hn ⊢;subst hn;rw [h 0 (by omega),h 1 (by omega)];exact Qcq rfl rfl
end
section
open Go.RowKit Go.Maps
theorem ADat.lastedF {w w':zB} {g gc j st:Nat} {t:Option zA} {N:Nat->Prop} {m:AM} {S:ASl} {a:Ans} {A:Option zA} {k:Nat} (h:ADat w g gc t N m S) (hj:j<4) (hg:g≠gc) (hT:Q0b g w w')
 (hb:Blk w' g 105 (spl (aCs t gc m S) (2+j*5) (lsC st a A k).toList)) (hf:FarN w' (fun b=>N b\/IsMv S m.chunks.length b) A k a.nodes) (hok:AOk (lsQ m j st a)):ADat w' g gc t N (lsQ m j st a) (lsS S j A k):=by
 have ho:Only (fun b=>b=g) w w':=Only.of_turned hT rfl;rw [aCs_ls _ _ _ _ _ _ _ _ _ h.ok.last hj] at hb;refine h.head ho hg hb rfl hok rfl fun i hi=>?_
 by_cases e:i=j
 ·subst e;rw [Q43 h.ok.last hi];show FarN w' _ (upd S.lA i A i) (upd S.lC i k i) _;rw [Q0W,Q0W];exact hf
 rw [Q2I e];show FarN w' _ (upd S.lA j A i) (upd S.lC j k i) _;rw [Q0X _ _ _ e,Q0X _ _ _ e];exact(h.nodes i hi).only ho (fun b e=>.inl (e▸h.gN.1))
theorem Q4S {l:List Nat} {q:(Int×List Int)×List Int} (h:Q26 l=some q):q.1.2.length<=7/\q.2.length<=42:=by
 unfold Q26 at h;split at h
 ·cases h
 rename_i hb;obtain rfl:=zP h;unfold badF at hb;refine⟨?_,?_⟩
 ·show (nI ((l.drop 2).take _)).length<=7;rw [Q1U,List.length_take,List.length_drop]; omega
 show (nI (l.drop _)).length<=42;rw [Q1U,List.length_drop]; omega
theorem Qcc {l:List Nat} {x:Nat×Ans} (hm:∀ z,z∈l->z<=maxN) (h:Q3l l=some x):x.1<=maxN/\Q9p x.2/\(x.1=0->x.2=okA):=by
 unfold Q3l at h;split at h
 ·cases h
 rename_i hb;obtain rfl:=zP h;unfold badT at hb;obtain⟨l0,hl0⟩:∃ k,k=l.getD 0 0:=⟨_,rfl⟩;obtain⟨l1,hl1⟩:∃ k,k=l.getD 1 0:=⟨_,rfl⟩;obtain⟨l2,hl2⟩:∃ k,k=l.getD 2 0:=⟨_,rfl⟩;have hlen:4<=l.length:=by
  rcases zF l.length 4 with q | q
  ·exact absurd (.inl q) hb
  exact q
 have h0:l.getD 0 0<=maxN:=by rw [List.getD_eq_getElem?_getD,zD (by omega)]; exact hm _ (List.getElem_mem _)
 rw [<- hl0,<- hl1,<- hl2] at hb ⊢;rw [<- hl0] at h0;have hdr:l.length=4->nI (l.drop 4)=[]:=fun e=>by rw [List.drop_eq_nil_of_le (by omega)]; rfl
 have e1:l1=0\/l1=5\/l1=180:=Classical.byContradiction fun q=>hb (.inr (.inr (.inr (.inl q))))
 have e2:l2<=21:=by
  rcases zF l2 22 with q | q
  ·omega
  exact absurd (.inr (.inr (.inl q))) hb
 have e3:nI (l.drop 4)=[]\/Q1C (nI (l.drop 4))=true:=by
  rcases zF 4 l.length with q | q
  ·right
   cases hc:Q1C (nI (l.drop 4)) with
   | true=>rfl
   | false=>exact absurd (.inr (.inr (.inr (.inr (.inl ⟨q,hc⟩))))) hb
  exact .inl (hdr (by omega))
 have e4:0<l0\/(l1=0/\l2=0/\l.length=4):=Classical.byContradiction fun q=>hb (.inr (.inr (.inr (.inr (.inr q)))))
 refine⟨h0,⟨e1,rfl,e2,e3⟩,fun hz=>?_⟩;have hz':l0=0:=hz;rcases e4 with q | ⟨q1,q2,q3⟩
 ·omega
 show (⟨l1,[],l2,nI (l.drop 4)⟩:Ans)=okA;rw [q1,q2,hdr q3]; rfl
def remQ (mv:Nat->List Int) (i:Nat) (cs:List Srv) (rest:List Int):Option (List Srv):=(Q2a cs i rest).bind fun c1=>if i=0 then Q2a c1 1 (mv 1) else some c1
def Q9I (mv:Nat->List Int) (i:Nat) (cs:List Srv):Option (List Srv):=if i<2 then remQ mv i cs (mv i) else some cs
theorem Q96 {cs:List Srv} {i:Nat} {rest:List Int} (h:rest.length<=1):Q2a cs i rest=some cs:=by
 match rest,h with
 | [],_=>rfl
 | [x],_=>rfl
theorem Qcn {mv:Nat->List Int} {i:Nat} {cs:List Srv} {rest:List Int} (hi:i<2) (h:rest.length<=1):remQ mv i cs rest=Q9I mv (i+1) cs:=by
 unfold remQ Q9I;rw [Q96 h];obtain rfl | rfl:i=0\/i=1:=by omega
 ·show Q2a cs 1 (mv 1)=remQ mv 1 cs (mv 1);unfold remQ;cases Q2a cs 1 (mv 1) <;> rfl
 rfl
theorem QbT {mv:Nat->List Int} {i:Nat} {cs:List Srv} {s:Srv} {o z:Int} {t:List Int} (hs:cs[i]?=some s) (h:¬ (Q0S cs s.f z=false/\Q22 s.now o z)):remQ mv i cs (o :: z :: t)=none:=by unfold remQ Q2a;rw [hs];simp only;rw [if_neg h]; rfl
theorem Qaj {mv:Nat->List Int} {i:Nat} {cs:List Srv} {s:Srv} {o z:Int} {t:List Int} (hs:cs[i]?=some s) (h:Q0S cs s.f z=false/\Q22 s.now o z):remQ mv i cs (o :: z :: t)=remQ mv i (cs.set i (Q1Z s o z)) t:=by unfold remQ;rw [show Q2a cs i (o :: z :: t)=Q2a (cs.set i (Q1Z s o z)) i t from by rw [Q2a];rw [hs];simp only;rw [if_pos h]]
structure OmSt (w3:zB) (g gc nch:Nat) (T:Option (List Srv)) (mv:Nat->List Int) (i:Nat) (cs:List Srv) (rest:List Int) (wr:zB):Prop where
 dat:∃ S,ADat wr g gc none (fun b=>b=g\/b=gc\/b<w3.heap.size) (Q0G cs) S
 low:zE w3.heap.size w3 wr
 len:cs.length=nch
 tot:T=remQ mv i cs rest
 bare:∀ j s,i<j->cs[j]?=some s->s.moves=[]
 bnd:∀ s,cs[i]?=some s->s.moves.length*2+rest.length<=42
 has:0<rest.length->i<nch
structure OhSt (w3:zB) (g gc nch:Nat) (T:Option (List Srv)) (mv:Nat->List Int) (i:Nat) (cs:List Srv) (wr:zB):Prop where
 dat:∃ S,ADat wr g gc none (fun b=>b=g\/b=gc\/b<w3.heap.size) (Q0G cs) S
 low:zE w3.heap.size w3 wr
 len:cs.length=nch
 tot:T=Q9I mv i cs
 bare:∀ j s,i<=j->cs[j]?=some s->s.moves=[]
theorem OhSt.enter {w3 wr:zB} {g gc nch i:Nat} {T:Option (List Srv)} {mv:Nat->List Int} {cs:List Srv} (h:OhSt w3 g gc nch T mv i cs wr) (hi:i<2) (hl:(mv i).length<=42) (hn:0<(mv i).length->i<nch):OmSt w3 g gc nch T mv i cs (mv i) wr :=⟨h.dat,h.low,h.len,by rw [h.tot]; unfold Q9I; rw [if_pos hi],fun j s hj hs=>h.bare j s (by omega) hs,fun s hs=>by rw [h.bare i s (zI _) hs]; simpa using hl,hn⟩
theorem OmSt.leave {w3 wr:zB} {g gc nch i:Nat} {T:Option (List Srv)} {mv:Nat->List Int} {cs:List Srv} {rest:List Int} (h:OmSt w3 g gc nch T mv i cs rest wr) (hi:i<2) (hr:rest.length<=1):OhSt w3 g gc nch T mv (i+1) cs wr :=⟨h.dat,h.low,h.len,by rw [h.tot,Qcn hi hr],fun j s hj hs=>h.bare j s (by omega) hs⟩
theorem OmSt.below {w3 wr W:zB} {g gc nch i:Nat} {T:Option (List Srv)} {mv:Nat->List Int} {cs:List Srv} {rest:List Int} (h:OmSt w3 g gc nch T mv i cs rest wr) (hb:zE wr.heap.size wr W):OmSt w3 g gc nch T mv i cs rest W:=by obtain⟨S,hd⟩:=h.dat;exact⟨⟨S,hd.below hb⟩,h.low.trans (hb.mono h.low.size),h.len,h.tot,h.bare,h.bnd,h.has⟩
theorem OmSt.step {w3 wr W:zB} {g gc nch i:Nat} {T:Option (List Srv)} {mv:Nat->List Int} {cs:List Srv} {s:Srv} {o z:Int} {t:List Int} (h:OmSt w3 g gc nch T mv i cs (o :: z :: t) wr) (hs:cs[i]?=some s) (hg:Q0S cs s.f z=false/\Q22 s.now o z) (hb:zE w3.heap.size w3 W) (hd:∃ S,ADat W g gc none (fun b=>b=g\/b=gc\/b<w3.heap.size) (mvQ (Q0G cs) i s o z) S) :
 OmSt w3 g gc nch T mv i (cs.set i (Q1Z s o z)) t W:=by
 have hil:=(List.getElem?_eq_some_iff.1 hs).1;refine⟨hd,hb,by rw [zO]; exact h.len,by rw [h.tot,Qaj hs hg],fun j q hj hq=>?_,fun q hq=>?_,fun _=>by have:=h.len; omega⟩
 ·rw [zN,if_neg (by omega)] at hq;exact h.bare j q hj hq
 rw [zN,if_pos rfl,if_pos hil] at hq;obtain rfl:=zP hq;have:=h.bnd s hs;show (s.moves++[(o,z)]).length*2+t.length<=42;simp only [zJ,zL,List.length_nil] at this ⊢;omega
theorem OmSt.fail {w3 wr:zB} {g gc nch i:Nat} {T:Option (List Srv)} {mv:Nat->List Int} {cs:List Srv} {s:Srv} {o z:Int} {t:List Int} (h:OmSt w3 g gc nch T mv i cs (o :: z :: t) wr) (hs:cs[i]?=some s) (hg:¬ (Q0S cs s.f z=false/\Q22 s.now o z)):T=none:=by rw [h.tot,QbT hs hg]
def totQ (acc:List Srv) (mv:Nat->List Int):Option (List Srv):=(Q2a acc 0 (mv 0)).bind fun s1=>Q2a s1 1 (mv 1)
theorem QaH (acc:List Srv) (mv:Nat->List Int):totQ acc mv=Q9I mv 0 acc:=rfl
def endQ (T:Option (List Srv)) (f:Nat->List Nat):Option AM:=match T with
 | none=>none
 | some s2=>if ∀ i,i<4->(Q3l (f (2+i))).isSome=true then some ⟨s2,(zH 4).map (fun i=>(Q3l (f (2+i))).getD (0,okA))⟩ else none
theorem QbY {cs:List (Int×List Int)} {ms:Nat->List Int} {f:Nat->List Nat} {acc:List Srv} (h:Q24 cs=some acc):Q6M cs ms f=endQ (totQ acc ms) f:=by
 unfold Q6M totQ endQ;rw [h];simp only;cases Q2a acc 0 (ms 0) with
 | none=>rfl
 | some s1 =>simp only [Option.bind_some];rfl
def midA (cs:List Srv) (f:Nat->List Nat) (j:Nat):AM:=⟨cs,(zH j).map (fun q=>(Q3l (f (2+q))).getD (0,okA))++List.replicate (4 - j) (0,okA)⟩
theorem QeE (cs:List Srv) (f:Nat->List Nat):midA cs f 0=Q0G cs:=rfl
theorem Q9U (cs:List Srv) (f:Nat->List Nat) (j:Nat) (x:Nat×Ans) (hj:j<4) (h:Q3l (f (2+j))=some x):lsQ (midA cs f j) j x.1 x.2=midA cs f (j+1):=by
 unfold lsQ midA;congr 1
 rw [List.range_succ,List.map_append,List.set_append_right _ _ (by simp)];simp only [List.length_map,List.length_range,Nat.sub_self,List.map_cons,List.map_nil];rw [show 4 - j=(4 - (j+1))+1 by omega,List.replicate_succ,List.set_cons_zero,h,List.append_assoc];rfl
theorem midA_end (cs:List Srv) (f:Nat->List Nat):midA cs f 4=⟨cs,(zH 4).map (fun i=>(Q3l (f (2+i))).getD (0,okA))⟩:=by unfold midA; simp
theorem AOk.lsQ {m:AM} (h:AOk m) {j st:Nat} {a:Ans} (hx:st<=maxN/\Q9p a/\(st=0->a=okA)):AOk (lsQ m j st a):=by
 refine⟨h.one,h.srv,h.same,h.apart,h.high,by show (m.last.set _ _).length=4; rw [zO]; exact h.last,fun x hx'=>?_⟩;rcases List.mem_or_eq_of_mem_set hx' with e | e
 ·exact h.ans x e
 rw [e]; exact hx
structure MvJ (wr:zB) (a0 a1:zA) (o z:Int) (K:zB->Prop) (s:Nat) (W:zB):Prop where
 c0:W.cell? a0=some (.int .i64 o)
 c1:W.cell? a1=some (.int .i64 z)
 lt:a0.block<W.heap.size/\a1.block<W.heap.size
 zero:s=0->zE wr.heap.size wr W
 one:s=1->K W
theorem MvJ.later_ {wr W W':zB} {a0 a1:zA} {o z:Int} {K:zB->Prop} {s:Nat} (h:MvJ wr a0 a1 o z K s W) (hK:∀ W W',K W->zE W.heap.size W W'->K W') (hb:zE W.heap.size W W'):MvJ wr a0 a1 o z K s W' :=⟨(hb.cell h.lt.1).trans h.c0,(hb.cell h.lt.2).trans h.c1,⟨by have:=h.lt.1; have:=hb.size; omega,by have:=h.lt.2; have:=hb.size; omega⟩,fun e=>by have h0:=h.zero e;exact h0.trans (hb.mono h0.size),fun e=>hK _ _ (h.one e) hb⟩
structure OaSt (w w3:zB) (g gc:Nat) (k:Book) (cs:List Srv) (f:Nat->List Nat) (j:Nat) (wr:zB):Prop where
 dat:∃ S,ADat wr g gc none (fun b=>b=g\/b=gc\/k.has b\/b<w.heap.size) (midA cs f j) S
 low:zE w3.heap.size w3 wr
 told:∀ q,q<j->(Q3l (f (2+q))).isSome=true
theorem OhSt.answers {w w3 wr:zB} {g gc nch:Nat} {T:Option (List Srv)} {mv:Nat->List Int} {cs:List Srv} {k:Book} {f:Nat->List Nat} (h:OhSt w3 g gc nch T mv 2 cs wr) (hw:w.heap.size<=w3.heap.size) (hk:∀ b,k.has b->b<w.heap.size):T=some cs/\OaSt w w3 g gc k cs f 0 wr:=by
 obtain⟨S,hd⟩:=h.dat;exact⟨h.tot,⟨⟨S,hd.mono (fun b _ hn=>by
  rcases hn with e | e | e | e
  ·exact .inl e
  ·exact .inr (.inl e)
  ·have:=hk b e; exact .inr (.inr (by omega))
  exact .inr (.inr (by omega))) ⟨.inl rfl,.inr (.inl rfl)⟩⟩,h.low,fun q hq=>by omega⟩⟩
theorem OmSt.move_ {w3 wr W:zB} {g gc nch i:Nat} {T:Option (List Srv)} {mv:Nat->List Int} {cs:List Srv} {s:Srv} {o z:Int} {t:List Int} (h:OmSt w3 g gc nch T mv i cs (o :: z :: t) wr) (hs:cs[i]?=some s) (hgg:g≠gc) (hg:w3.heap.size<=g/\w3.heap.size<=gc) (hb:zE wr.heap.size wr W) (bq:Bool) (hbq:bq=decide (Q0S cs s.f z=false/\Q22 s.now o z)) :
 Calls Tryz.prog 104 #[.pointer (some ⟨g,0,none⟩),.int .i64 (i:Int),.int .i64 o,.int .i64 z] W fun e w'=>e=.returned (.bool bq)/\(zE w3.heap.size w3 w'/\(bq=true->OmSt w3 g gc nch T mv i (cs.set i (Q1Z s o z)) t w'))/\(∀ b,b<w3.heap.size->w'.heap[b]?=W.heap[b]?)/\W.heap.size<=w'.heap.size:=by
 obtain⟨S,hd0⟩:=h.dat;have hd:=hd0.below hb;have hlow:=h.low.trans (hb.mono h.low.size);have hbnd:=h.bnd s hs;have hl20:s.moves.length<=20:=by simp only [zL] at hbnd; omega
 refine(QaL W g gc i none _ (Q0G cs) S s o z hd hs (fun b hN=>by have:=hd.lt;have:=hlow.size;rcases hN with e | e | e <;> omega) hgg hl20).mono ?_
 rintro e w' ⟨h1,h2⟩;by_cases hc:Q0S cs s.f z=false/\Q22 s.now o z
 ·obtain⟨rfl,S',hd',ho⟩:=h1 hc;have hno:∀ b,b<w3.heap.size->¬ (b=gc\/MvC S i b):=fun b hb' e=>by
   rcases e with e | ⟨a,ha,rfl⟩
   ·omega
   exact hd.mvN a.block ⟨i,a,(List.getElem?_eq_some_iff.1 hs).1,ha,rfl⟩ (.inr (.inr hb'))
  have hbl:=hlow.trans (ho.below hlow.size fun b hb' hv=>hno b hb' hv);rw [decide_eq_true hc] at hbq;subst hbq;exact⟨rfl,⟨hbl,fun _=>h.step hs hc hbl ⟨S',hd'⟩⟩,fun b hb'=>ho.block b (by have:=hlow.size; omega) (hno b hb'),ho.size⟩
 obtain⟨rfl,hbw⟩:=h2 hc;rw [decide_eq_false hc] at hbq;subst hbq;exact⟨rfl,⟨hlow.trans (hbw.mono hlow.size),fun e=>by cases e⟩,fun b hb'=>hbw.block b (by have:=hlow.size; omega),hbw.size⟩
theorem OaSt.put {w w3 wr W:zB} {g gc j:Nat} {k:Book} {cs:List Srv} {f:Nat->List Nat} {x:Nat×Ans} {A:Option zA} {c:Nat} {u:zC} (h:OaSt w w3 g gc k cs f j wr) (hj:j<4) (hgg:g≠gc) (hg3:w3.heap.size<=g/\w3.heap.size<=gc) (hk:∀ b,k.has b->b<w.heap.size) (hb:zE wr.heap.size wr W) (hq:Q3l (f (2+j))=some x) (hm:∀ z,z∈f (2+j)->z<=maxN) (ho:OwnN W w.heap.size u (nI (f (2+j))))
 (hrd:∀ W,OwnN W w.heap.size u (nI (f (2+j)))->Q08 W W.heap.size 1 A x.2.nodes.length (x.2.nodes.map vn)) (hc:x.2.nodes.length<=c/\c<=maxLen) (hob:∀ a,0<x.2.nodes.length->A=some a->u.ownBlock=some a.block) :
 ∃ c0,Blk W g 105 c0/\c0.size=22/\∀ W',Q0b g W W'->Blk W' g 105 (spl c0 (2+j*5) (lsC x.1 x.2 A c).toList)->OaSt w w3 g gc k cs f (j+1) W':=by
 obtain⟨S,hd0⟩:=h.dat;have hd:=hd0.below hb;refine⟨_,hd.blk,Q2Y _ _ _ _,fun W' hT hB=>?_⟩;have ho':OwnN W' w.heap.size u (nI (f (2+j))):=ho.keep_ fun b hb'=>hT.block b fun e=>Q05 ho hd.blk (by decide) (by rw [hb',e])
 have hlow:=h.low.trans (hb.mono h.low.size);have hok:=hd.ok.lsQ (j:=j) (Qcc hm hq);have hdl:=hd.lastedF hj hgg hT hB ⟨hrd W' ho',hc,fun a h0 ha hN=>by
  have hub:=hob a h0 ha;have hge:=(Q07 ho hub).1;rcases hN with(e | e | e | e) | ⟨i,a',hi,ha',e⟩
  ·exact Q05 ho hd.blk (by decide) (by rw [hub,e])
  ·exact Q05 ho hd.row (by decide) (by rw [hub,e])
  ·have:=hk _ e; omega
  ·omega
  rcases(hd.mv i _ (zD hi)).2 with⟨e1,_⟩ | ⟨g',cap',cur',e1,_,e3,_⟩
  ·injection e1 with e1; rw [ha'] at e1; cases e1
  injection e1 with e1
  rw [ha'] at e1;injection e1 with e1
  subst e1;have hB':Blk W g' 175 cur':=e3;exact Q05 ho hB' (by decide) (by rw [hub,<- e])⟩ hok
 rw [Q9U cs f j x hj hq] at hdl;refine⟨⟨_,hdl⟩,hT.below hlow hg3.1,fun q hq'=>?_⟩;rcases zF q j with e | e
 ·exact h.told q e
 obtain rfl:q=j:=by omega
 rw [hq]; rfl
theorem Qag {cs:List Srv} {f:Nat->List Nat} {j:Nat} (hj:j<4) (h:Q3l (f (2+j))=none):endQ (some cs) f=none:=by unfold endQ;simp only;rw [if_neg (fun hh=>by have:=hh j hj; rw [h] at this; cases this)]
theorem Qaa {cs:List Srv} {f:Nat->List Nat} (h:∀ q,q<4->(Q3l (f (2+q))).isSome=true):endQ (some cs) f=some (midA cs f 4):=by unfold endQ;simp only;rw [if_pos h,midA_end]
def rmS (S:RASl) (i:Nat) (A:Option zA) (c:Nat):RASl:={ S with mA:=upd S.mA i A,mC:=upd S.mC i c }
def rlS (S:RASl) (j:Nat) (A:Option zA) (c:Nat):RASl:={ S with lA:=upd S.lA j A,lC:=upd S.lC j c }
theorem Q4I {m:AM} {i:Nat} {s:Srv} {o z:Int} (hs:m.chunks[i]?=some s) (q:Nat):Q1s (mvQ m i s o z) q=if q=i then s.moves++[(o,z)] else Q1s m q:=by
 have hil:=(List.getElem?_eq_some_iff.1 hs).1;unfold Q1s mvQ;simp only [zN];by_cases e:q=i
 ·subst e;rw [if_pos rfl,if_pos hil,if_pos rfl];rfl
 rw [if_neg (fun h=>e h.symm),if_neg e]
theorem Qdo {m:AM} {S:RASl} {i:Nat} {s:Srv} {o z:Int} {A:Option zA} {c:Nat} (hi:i<2) (hs:m.chunks[i]?=some s):Q1Q (mvQ m i s o z) (rmS S i A c)=(Q1Q m S).setIfInBounds (1+i) (.slice A (s.moves.length+1) c):=by
 unfold Q1Q;rw [Q1P];refine Q1b fun j hj=>?_
 unfold raF;by_cases e:j=1+i
 ·subst e;rw [if_pos rfl,if_neg (by omega),if_pos (by omega),show 1+i - 1=i by omega,Q4I hs,if_pos rfl];show zQ (upd S.mA i A i) _ (upd S.mC i c i)=_;rw [Q0W,Q0W]
  simp
 rw [if_neg e];by_cases e0:j=0
 ·subst e0;rw [if_pos rfl,if_pos rfl];show zQ S.fA (m.chunks.set i _).length S.fC=_;rw [zO]
 rw [if_neg e0,if_neg e0];by_cases e3:j<3
 ·rw [if_pos e3,if_pos e3,Q4I hs,if_neg (by omega)];show zQ (upd S.mA i A (j - 1)) _ (upd S.mC i c (j - 1))=_;rw [Q0X _ _ _ (by omega),Q0X _ _ _ (by omega)]
 rw [if_neg e3,if_neg e3];rfl
theorem Q1r.moved {w w2:zB} {g i:Nat} {N:Nat->Prop} {m:AM} {S:RASl} {s:Srv} {o z:Int} {A:Option zA} {c:Nat} (h:Q1r w g N m S) (hp:Q7f m S g) (hi:i<2) (hs:m.chunks[i]?=some s) (hsz:w.heap.size<=w2.heap.size)
 (hk:∀ b,b<w.heap.size->b≠g->(zQ (S.mA i) s.moves.length (S.mC i)).ownBlock≠some b->w2.heap[b]?=w.heap[b]?)
 (hB:Blk w2 g 153 ((Q1Q m S).setIfInBounds (1+i) (.slice A (s.moves.length+1) c)))
 (hrow:w2.ownsRow 0 168 2 (.slice A (s.moves.length+1) c) (s.moves.length+1) (Q0H (s.moves++[(o,z)])))
 (hor:∀ b,(zQ A (s.moves.length+1) c).ownBlock=some b->¬ N b/\((zQ (S.mA i) s.moves.length (S.mC i)).ownBlock=some b\/w.heap.size<=b))
 (hok:AOk (mvQ m i s o z)):Q1r w2 g N (mvQ m i s o z) (rmS S i A c)/\Q7f (mvQ m i s o z) (rmS S i A c) g:=by
 have hil:=(List.getElem?_eq_some_iff.1 hs).1;have hlen:(mvQ m i s o z).chunks.length=m.chunks.length:=by unfold mvQ; simp
 have hmi:=h.mv i hi;rw [Q1c hs] at hmi;have hown:∀ q,q<2->(zQ ((rmS S i A c).mA q) (Q1s (mvQ m i s o z) q).length ((rmS S i A c).mC q))=if q=i then .slice A (s.moves.length+1) c else .slice (S.mA q) (Q1s m q).length (S.mC q):=fun q hq=>by
  show zQ (upd S.mA i A q) _ (upd S.mC i c q)=_;rw [Q4I hs];by_cases e:q=i
  ·subst e;rw [if_pos rfl,if_pos rfl,Q0W,Q0W]
   simp
  rw [if_neg e,if_neg e,Q0X _ _ _ e,Q0X _ _ _ e]
 have hrw:∀ b,b<w.heap.size->RW (mvQ m i s o z) (rmS S i A c) g b->RW m S g b:=fun b hb hr=>by
  rcases hr with e | ⟨q,hq,e⟩
  ·exact .inl e
  rw [hown q hq] at e;by_cases eq:q=i
  ·rw [if_pos eq] at e;rcases(hor b e).2 with e2 | e2
   ·exact .inr ⟨i,hi,by rw [Q1c hs]; exact e2⟩
   omega
  rw [if_neg eq] at e;exact .inr ⟨q,hq,e⟩
 have hfar:∀ {A':Option zA} {C:Nat} {xs:List Int},FarN w N A' C xs->(∀ a,0<xs.length->A'=some a->¬ RW m S g a.block)->FarN w2 N A' C xs:=fun {A' C xs} hf hn=>by refine⟨?_,hf.cap,hf.far⟩;refine⟨hf.rd.1,fun h0=>?_⟩;obtain⟨ad,e,hbl,hc⟩:=hf.rd.2 h0;have hnr:=hn ad h0 e;refine⟨ad,e,by omega,fun k v hv=>?_⟩;rw [<- hc k v hv];unfold World.cell?;have:(ad.add k).block=ad.block:=Q0a _ _;rw [this,hk ad.block hbl (fun e=>hnr (.inl e)) (fun e=>hnr (.inr ⟨i,hi,by rw [Q1c hs]; exact e⟩))]
 have hget:∀ {q:Nat} {x:Srv},(mvQ m i s o z).chunks[q]?=some x->∃ y,m.chunks[q]?=some y/\x.first=y.first/\x.f=y.f:=fun {q x} hx=>by
  rcases Q7E hx hil with⟨rfl,rfl⟩ | ⟨_,e⟩
  ·exact⟨s,hs,rfl,rfl⟩
  exact⟨x,e,rfl,rfl⟩
 have hmap:(mvQ m i s o z).chunks.map (·.first)=m.chunks.map (·.first):=by
  apply List.ext_getElem?
  intro q;rw [zG,zG];unfold mvQ;rw [zN];by_cases e:i=q
  ·subst e;rw [if_pos rfl,if_pos hil,hs]; rfl
  rw [if_neg e]
 have hrg:∀ b,(zQ S.fA m.chunks.length S.fC).ownBlock=some b->w2.heap[b]?=w.heap[b]?:=fun b hb=>by
  refine hk b (Q07 h.row hb).2 (fun e=>?_) (fun e=>?_)
  ·exact Q05 h.row h.cells (by decide) (by rw [hb,e])
  rcases h.row.2 with⟨e1,_⟩ | ⟨gf,cap,cur,e1,_,hh,_⟩
  ·rw [e1] at hb; cases hb
  rw [e1] at hb;have hb':gf=b:=by simpa [Value.ownBlock] using hb
  subst hb';have hBk:Blk w gf 77 cur:=hh;exact Q05 hmi hBk (by decide) e
 have hmk:∀ q,q<2->q≠i->∀ b,(zQ (S.mA q) (Q1s m q).length (S.mC q)).ownBlock=some b->w2.heap[b]?=w.heap[b]?/\∀ b',(zQ (S.mA i) s.moves.length (S.mC i)).ownBlock=some b'->b'≠b:=fun q hq hqi b hb=>by
  have hap:∀ b',(zQ (S.mA i) s.moves.length (S.mC i)).ownBlock=some b'->b'≠b:=fun b' hb' e=>by
   subst e;rw [<- Q1c hs] at hb';obtain⟨rfl,rfl⟩ | ⟨rfl,rfl⟩:(q=0/\i=1)\/(q=1/\i=0):=by omega
   ·exact h.apart _ hb hb'
   exact h.apart _ hb' hb
  refine⟨hk b (Q07 (h.mv q hq) hb).2 (fun e=>?_) (fun e=>hap b e rfl),hap⟩;exact Q05 (h.mv q hq) h.cells (by decide) (by rw [hb,e])
 refine⟨⟨?_,?_,fun x hx=>?_,fun q x hx=>?_,fun q hq=>?_,?_,fun q hq=>?_,hok,h.out,?_,fun q hq b hb=>?_⟩,⟨fun q x hx a h0 ha hr=>?_,fun q hq a h0 ha hr=>?_⟩⟩
 ·rw [Qdo hi hs]; exact hB
 ·rw [hmap,hlen]; exact Q0d h.row hrg
 ·rcases Q3I hx with rfl | hx
  ·exact h.same s (List.mem_of_getElem? hs)
  exact h.same x hx
 ·obtain⟨y,hy,e1,_⟩:=hget hx;rw [e1];exact hfar (h.first q y hy) (fun a h0 ha=>hp.first q y hy a h0 ha)
 ·rw [hown q hq,Q4I hs];by_cases e:q=i
  ·rw [if_pos e,if_pos e];simpa using hrow
  rw [if_neg e,if_neg e];exact Q0d (h.mv q hq) fun b hb=>(hmk q hq e b hb).1
 ·intro b hb hb2;rw [hown 0 (by omega)] at hb;rw [hown 1 (by omega)] at hb2;obtain rfl | rfl:i=0\/i=1:=by omega
  ·rw [if_pos rfl] at hb;rw [if_neg (by omega)] at hb2;rcases(hor b hb).2 with e | e
   ·exact(hmk 1 (by omega) (by omega) b hb2).2 b e rfl
   have:=(Q07 (h.mv 1 (by omega)) hb2).2; omega
  rw [if_neg (by omega)] at hb;rw [if_pos rfl] at hb2;rcases(hor b hb2).2 with e | e
  ·exact(hmk 0 (by omega) (by omega) b hb).2 b e rfl
  have:=(Q07 (h.mv 0 (by omega)) hb).2; omega
 ·exact hfar (h.nodes q hq) (fun a h0 ha=>hp.nodes q hq a h0 ha)
 ·intro b hb;rw [hlen] at hb;exact h.rout b hb
 ·rw [hown q hq] at hb;by_cases e:q=i
  ·rw [if_pos e] at hb;exact(hor b hb).1
  rw [if_neg e] at hb;exact h.mout q hq b hb
 ·obtain⟨y,hy,e1,_⟩:=hget hx;rw [e1] at h0;have hlt:a.block<w.heap.size:=by
   obtain⟨ad,e,hbl,_⟩:=(h.first q y hy).rd.2 h0;have ha':S.nA q=some a:=ha;rw [ha'] at e;injection e with e
   rw [e]; exact hbl
  exact hp.first q y hy a h0 ha (hrw _ hlt hr)
 have hlt:a.block<w.heap.size:=by
  obtain⟨ad,e,hbl,_⟩:=(h.nodes q hq).rd.2 h0;have ha':S.lA q=some a:=ha;rw [ha'] at e;injection e with e
  rw [e]; exact hbl
 exact hp.nodes q hq a h0 ha (hrw _ hlt hr)
theorem QcE {m:AM} {S:RASl} {j st:Nat} {a:Ans} {A:Option zA} {c:Nat} (hj:j<4) (hl:m.last.length=4) (q:Nat) (hq:q<23):(Q1Q (lsQ m j st a) (rlS S j A c))[q]?=if q=3+j then some (.int .i64 (st:Int)) else if 7+j*4<=q/\q<11+j*4 then(raN a A c)[q - (7+j*4)]? else(Q1Q m S)[q]?:=by
 rw [Q3J _ _ _ hq,Q3J _ _ _ hq];unfold raF;by_cases e0:q=0
 ·rw [if_pos e0,if_neg (by omega),if_neg (by omega),if_pos e0]; rfl
 rw [if_neg e0,if_neg e0];by_cases e1:q<3
 ·rw [if_pos e1,if_neg (by omega),if_neg (by omega),if_pos e1]; rfl
 rw [if_neg e1,if_neg e1];by_cases e2:q<7
 ·rw [if_pos e2,if_pos e2];by_cases e3:q=3+j
  ·rw [if_pos e3,e3,show 3+j - 3=j by omega,Q43 hl hj]
  rw [if_neg e3,if_neg (by omega),Q2I (by omega)]
 rw [if_neg e2,if_neg e2,if_neg (by omega)];by_cases e3:7+j*4<=q/\q<11+j*4
 ·rw [if_pos e3,show (q - 7) / 4=j by omega,show (q - 7) % 4=q - (7+j*4) by omega,Q43 hl hj];show some (((raN a (upd S.lA j A j) (upd S.lC j c j))[q - (7+j*4)]?).getD undef)=_;rw [Q0W,Q0W];have hs:(raN a A c).size=4:=rfl;rw [Array.getElem?_eq_getElem (by omega)];rfl
 rw [if_neg e3,Q2I (by omega)];show some (((raN _ (upd S.lA j A _) (upd S.lC j c _))[_]?).getD undef)=_;rw [Q0X _ _ _ (by omega),Q0X _ _ _ (by omega)]
theorem Q1r.told {w w2:zB} {g j st:Nat} {N:Nat->Prop} {m:AM} {S:RASl} {a:Ans} {A:Option zA} {c:Nat} {C:Array zC} (h:Q1r w g N m S) (hp:Q7f m S g) (hj:j<4) (hsz:w.heap.size<=w2.heap.size)
 (hk:∀ b,b<w.heap.size->b≠g->w2.heap[b]?=w.heap[b]?)
 (hB:Blk w2 g 153 C) (hC:C.size=23) (hCq:∀ q,q<23->C[q]?=if q=3+j then some (.int .i64 (st:Int)) else if 7+j*4<=q/\q<11+j*4 then(raN a A c)[q - (7+j*4)]? else(Q1Q m S)[q]?)
 (hf:FarN w2 N A c a.nodes) (hfw:∀ ad,0<a.nodes.length->A=some ad->¬ RW m S g ad.block)
 (hok:AOk (lsQ m j st a)):Q1r w2 g N (lsQ m j st a) (rlS S j A c)/\Q7f (lsQ m j st a) (rlS S j A c) g:=by
 have hfar:∀ {A':Option zA} {C:Nat} {xs:List Int},FarN w N A' C xs->(∀ a,0<xs.length->A'=some a->¬ RW m S g a.block)->FarN w2 N A' C xs:=fun {A' C xs} hf hn=>by refine⟨?_,hf.cap,hf.far⟩;refine⟨hf.rd.1,fun h0=>?_⟩;obtain⟨ad,e,hbl,hc⟩:=hf.rd.2 h0;have hnr:=hn ad h0 e;refine⟨ad,e,by omega,fun k v hv=>?_⟩;rw [<- hc k v hv];unfold World.cell?;have:(ad.add k).block=ad.block:=Q0a _ _;rw [this,hk ad.block hbl (fun e=>hnr (.inl e))]
 have hce:Q1Q (lsQ m j st a) (rlS S j A c)=C:=by
  apply Array.ext_getElem?
  intro q;rcases zF q 23 with hq | hq
  ·rw [QcE hj h.ok.last q hq,hCq q hq]
  rw [Array.getElem?_eq_none (by rw [Q2J]; exact hq),Array.getElem?_eq_none (by omega)]
 refine⟨⟨by rw [hce]; exact hB,Q0d h.row fun b hb=>hk b (Q07 h.row hb).2 (fun e=>Q05 h.row h.cells (by decide) (e▸hb)),h.same,fun q x hx=>hfar (h.first q x hx) (hp.first q x hx),fun q hq=>Q0d (h.mv q hq) fun b hb=>hk b (Q07 (h.mv q hq) hb).2 (fun e=>Q05 (h.mv q hq) h.cells (by decide) (e▸hb)),h.apart,fun q hq=>?_,hok,h.out,h.rout,h.mout⟩,⟨hp.first,fun q hq ad h0 ha=>?_⟩⟩
 ·show FarN w2 N (upd S.lA j A q) (upd S.lC j c q) _;by_cases e:q=j
  ·subst e;rw [Q0W,Q0W,Q43 h.ok.last hq];exact hf
  rw [Q0X _ _ _ e,Q0X _ _ _ e,Q2I e];exact hfar (h.nodes q hq) (hp.nodes q hq)
 have ha':upd S.lA j A q=some ad:=ha;by_cases e:q=j
 ·subst e;rw [Q0W] at ha';rw [Q43 h.ok.last hq] at h0;exact hfw ad h0 ha'
 rw [Q0X _ _ _ e] at ha';rw [Q2I e] at h0;exact hp.nodes q hq ad h0 ha'
end
section
open Go.RowKit Go.Maps
attribute [local irreducible] wpList Q0h
theorem Q1H.shape {w:zB} {B f:Nat} {v:zC} {ls:List (List Int)} {nA:Nat->Option zA} {nC:Nat->Nat} (h:Q1H w B v f ls nA nC) (h0:0<ls.length) (hl:∀ l,l∈ls->l.length<=1000):∃ g cap,v=.slice (some ⟨g,0,none⟩) ls.length cap/\ls.length<=cap/\∀ k,k<=ls.length->Q2p w (some ⟨g,0,none⟩) k (Q5a f (ls.take k)):=by
 obtain⟨A,c,hv,hc⟩:=h.crewsAt hl;rcases h.row.2 with⟨e,h1⟩ | ⟨gl,cap,cur,e,h2,h3,h4,h5,h6,h7⟩
 ·omega
 rw [hv] at e;injection e with e1 e2 e3
 subst e1 e3;exact⟨gl,c,hv,h4,hc⟩
theorem Q1H.elem {w:zB} {B f g:Nat} {n c:Nat} {ls:List (List Int)} {nA:Nat->Option zA} {nC:Nat->Nat} {i:Nat} {l:List Int} (h:Q1H w B (.slice (some ⟨g,0,none⟩) n c) f ls nA nC) (hi:ls[i]?=some l):∃ Ai ci C cur,C=crC f Ai l.length ci/\C.size=2/\Blk w g 77 cur/\(∀ j,j<2->cur[i*2+j]?=C[j]?)/\w.cell? ⟨g,i*2+1,none⟩=some (.slice Ai l.length ci)/\Q08 w w.heap.size 1 Ai l.length (l.map vn):=by
 have hil:i<ls.length:=(List.getElem?_eq_some_iff.1 hi).1;rcases h.row.2 with⟨e,h1⟩ | ⟨gl,cap,cur,e,h2,h3,h4,h5,h6,h7⟩
 ·omega
 injection e with e1 e2 e3
 injection e1 with e1
 injection e1 with e1 _ _
 subst e1;have hB:Blk w g 77 cur:=h3;have hg:=Q38 f nA nC ls 0 i l hi;rw [Nat.zero_add] at hg;have ht:∀ q,q<ls.length*2->cur[q]?=(Q1B f nA nC 0 ls)[q]?:=fun q hq'=>by rw [<- h7,zK,if_pos hq',zM]
 refine⟨nA i,nC i,_,cur,rfl,rfl,hB,fun j hj=>?_,?_,?_⟩
 ·obtain rfl | rfl:j=0\/j=1:=by omega
  ·rw [Nat.add_zero,ht _ (by omega)]; exact hg.1
  rw [ht _ (by omega)]; exact hg.2
 ·rw [hB.cell,ht _ (by omega)]; exact hg.2
 exact(Q1y (h.nodes i l hi)).2
end
section
open Go.RowKit Go.Maps
def frV (xss:LL) (i:Nat):Array zC:=rng 2 (fun j=>.int .i64 (if j<i then((2+(fstF xss j).1.2.length:Nat):Int) else 0))
theorem frV_zero (xss:LL):frV xss 0=#[.int .i64 0,.int .i64 0]:=rfl
theorem frV_at (xss:LL) (i j:Nat) (h:j<2):(frV xss i)[j]?=some (.int .i64 (if j<i then((2+(fstF xss j).1.2.length:Nat):Int) else 0)):=Q1e _ _ _ h
theorem frV_set (xss:LL) (i:Nat):(frV xss i).setIfInBounds i (.int .i64 ((2+(fstF xss i).1.2.length:Nat):Int))=frV xss (i+1):=by
 unfold frV;rw [Q1P];refine Q1b fun j hj=>?_
 by_cases h:j=i
 ·subst h; rw [if_pos rfl,if_pos (by omega)]
 rw [if_neg h];by_cases h2:j<i
 ·rw [if_pos h2,if_pos (by omega)]
 rw [if_neg h2,if_neg (by omega)]
theorem QcN {l:List Nat} {q:(Int×List Int)×List Int} (h:Q26 l=some q):q.2=nI (l.drop (2+q.1.2.length))/\(l.length - (2+q.1.2.length)) % 2=0/\2+q.1.2.length<=l.length:=by
 unfold Q26 at h;split at h
 ·cases h
 rename_i hb;obtain rfl:=zP h;unfold badF at hb;have e:(nI ((l.drop 2).take (3*l.getD 1 0+1))).length=3*l.getD 1 0+1:=by rw [Q1U,List.length_take,List.length_drop]; omega
 show nI (l.drop (2+(3*l.getD 1 0+1)))=nI (l.drop (2+(nI ((l.drop 2).take (3*l.getD 1 0+1))).length))/\(l.length - (2+(nI ((l.drop 2).take (3*l.getD 1 0+1))).length)) % 2=0/\2+(nI ((l.drop 2).take (3*l.getD 1 0+1))).length<=l.length;rw [e];exact⟨rfl,by omega,by omega⟩
structure RcS (w:zB) (g6 g10:Nat) (xss:LL) (vs:Nat->zC) (fA:Nat->Option zA) (fC:Nat->Nat) (i:Nat) (cv:zC) (wr:zB):Prop where
 sa:SaSt w g6 xss vs wr
 row:wr.ownsRow w.heap.size 77 2 cv i (Q1S xss fA fC i)
 arr:Blk wr g10 162 (frV xss i)
 ok:∀ j,j<i->Q26 (numF xss j)=some (fstF xss j)/\OwnN wr w.heap.size (.slice (fA j) (fstF xss j).1.2.length (fC j)) (fstF xss j).1.2
 gs:w.heap.size<=g10/\g6≠g10
theorem RcS.below {w wr W:zB} {g6 g10 i:Nat} {xss:LL} {vs:Nat->zC} {fA:Nat->Option zA} {fC:Nat->Nat} {cv:zC} (h:RcS w g6 g10 xss vs fA fC i cv wr) (hb:zE wr.heap.size wr W):RcS w g6 g10 xss vs fA fC i cv W :=⟨h.sa.below hb,Q0d h.row fun b hb'=>hb.block b (Q07 h.row hb').2,h.arr.below' hb,fun j hj=>⟨(h.ok j hj).1,(h.ok j hj).2.below_ hb⟩,h.gs⟩
theorem RcS.push {w wr W W':zB} {g6 g10 i:Nat} {xss:LL} {vs:Nat->zC} {fA:Nat->Option zA} {fC:Nat->Nat} {cv v':zC} {A1:Option zA} {c1:Nat} (h:RcS w g6 g10 xss vs fA fC i cv wr) (hb:zE wr.heap.size wr W)
 (hown:W'.ownsRow w.heap.size 77 2 v' (i+1) (Q1S xss fA fC i++Q5G (fstF xss i) A1 c1)) (hg:W.grownBy W' cv.ownBlock) (hq:Q26 (numF xss i)=some (fstF xss i)) (hn:OwnN W w.heap.size (.slice A1 (fstF xss i).1.2.length c1) (fstF xss i).1.2) :
 RcS w g6 g10 xss vs (upd fA i A1) (upd fC i c1) (i+1) v' (W'.setCell ⟨g10,i,none⟩ (.int .i64 ((2+(fstF xss i).1.2.length:Nat):Int))):=by
 have hW:=h.below hb;have hT:=Q0b.setCell W' ⟨g10,i,none⟩ (.int .i64 ((2+(fstF xss i).1.2.length:Nat):Int));have hlow:=h.sa.low.size;have hbs:=hb.size;have n6:cv.ownBlock≠some g6:=Q05 hW.row hW.sa.blk (by decide);have n10:cv.ownBlock≠some g10:=Q05 hW.row hW.arr (by decide);have a1:Blk W' g6 154 (sixV vs 6):=(hg.block g6 hW.sa.blk.lt (fun e=>n6 e.symm)).trans hW.sa.blk;have a2:Blk W' g10 162 (frV xss i):=(hg.block g10 hW.arr.lt (fun e=>n10 e.symm)).trans hW.arr;have hkp:∀ {u:zC} {xs:List Int},OwnN W w.heap.size u xs->OwnN (W'.setCell ⟨g10,i,none⟩ (.int .i64 ((2+(fstF xss i).1.2.length:Nat):Int))) w.heap.size u xs:=fun {u xs} ho=>by
  have ho':OwnN W' w.heap.size u xs:=ho.keep_ fun b hb'=>hg.block b (Q07 ho hb').2 fun e=>by
   rcases hW.row.2 with⟨e1,_⟩ | ⟨gc,cap,cur,e1,_,e3,_⟩
   ·rw [e1] at e; cases e
   have hB:Blk W gc 77 cur:=e3;rw [e1] at e;have e':b=gc:=by simpa [Value.ownBlock] using e
   exact Q05 ho hB (by decide) (e'▸hb')
  exact ho'.keep_ fun b hb'=>hT.block b fun e=>Q05 ho' a2 (by decide) (by rw [hb',e])
 refine⟨⟨(hT.block g6 h.gs.2).trans a1,fun j hj=>hkp (hW.sa.own j hj),?_⟩,?_,?_,fun j hj=>?_,h.gs⟩
 ·exact hT.below (Q0e hW.sa.low (by omega) hg fun b e=>(Q07 hW.row e).1) h.gs.1
 ·have hr:W'.ownsRow w.heap.size 77 2 v' (i+1) (Q1S xss (upd fA i A1) (upd fC i c1) (i+1)):=by
   show W'.ownsRow _ _ _ _ _ (Q1S xss (upd fA i A1) (upd fC i c1) i++Q5G (fstF xss i) (upd fA i A1 i) (upd fC i c1 i));rw [Q6a _ _ _ _ _ _ i (zI _),Q0W,Q0W];exact hown
  exact Q0d hr fun b hb'=>hT.block b fun e=>Q05 hr a2 (by decide) (by rw [hb',e])
 ·rw [<- frV_set]; exact a2.set_ i _
 by_cases e:j=i
 ·subst e; rw [Q0W,Q0W]; exact⟨hq,hkp hn⟩
 rw [Q0X _ _ _ e,Q0X _ _ _ e]; exact⟨(h.ok j (by omega)).1,hkp (hW.ok j (by omega)).2⟩
theorem RcS.crews {w wr:zB} {g6 g10 i:Nat} {xss:LL} {vs:Nat->zC} {fA:Nat->Option zA} {fC:Nat->Nat} {cv:zC} (h:RcS w g6 g10 xss vs fA fC i cv wr):∃ A c,cv=.slice A i c/\Q2p wr A i ((zH i).map fun j=>(fstF xss j).1):=by
 have hrd:∀ j,j<i->Q08 wr wr.heap.size 1 (fA j) (fstF xss j).1.2.length ((fstF xss j).1.2.map vn):=fun j hj=>(Q1y (h.ok j hj).2).2
 rcases h.row.2 with⟨e,h0⟩ | ⟨gl,cap,cur,e,h2,h3,h4,h5,h6,h7⟩
 ·subst h0;exact⟨none,0,e,⟨rfl,fun h1=>by omega⟩⟩
 refine⟨some ⟨gl,0,none⟩,cap,e,⟨by simp,fun h1=>⟨gl,cur,rfl,h3,fun j f l hj=>?_⟩⟩⟩;rw [zG] at hj;have hji:j<i:=by
  rcases zF j i with q | q
  ·exact q
  rw [List.getElem?_eq_none (by simpa using q)] at hj; cases hj
 rw [List.getElem?_range hji] at hj;have e1:(fstF xss j).1=(f,l):=zP hj;have hg:=Q6e xss fA fC i j hji;have ht:∀ q,q<i*2->cur[q]?=(Q1S xss fA fC i)[q]?:=fun q hq'=>by rw [<- h7,zK,if_pos hq',zM]
 have hr:=hrd j hji;have hl':=(Q4S (h.ok j hji).1).1;rw [e1] at hg hr hl';exact⟨fA j,fC j,by rw [ht _ (by omega)]; exact hg.1,by rw [ht _ (by omega)]; exact hg.2,hr,by show l.length<=_; have:l.length<=7:=hl'; omega⟩
theorem head_end {mv:Nat->List Int} {nch:Nat} {cs:List Srv} (h1:1<=nch/\nch<=2) (hm:∀ j,nch<=j->mv j=[]):Q9I mv nch cs=some cs:=by
 obtain rfl | rfl:nch=1\/nch=2:=by omega
 ·unfold Q9I remQ;rw [if_pos (by omega),hm 1 (zI _)];rfl
 rfl
structure RoM (w3:zB) (g nch:Nat) (T:Option (List Srv)) (mv:Nat->List Int) (i:Nat) (cs:List Srv) (rest:List Int) (wr:zB):Prop where
 dat:RAWr wr g (fun b=>b<w3.heap.size) (Q0G cs)
 low:zE w3.heap.size w3 wr
 len:cs.length=nch
 tot:T=remQ mv i cs rest
 bare:∀ j s,i<j->cs[j]?=some s->s.moves=[]
 bnd:∀ s,cs[i]?=some s->s.moves.length*2+rest.length<=42
structure RoH (w3:zB) (g nch:Nat) (T:Option (List Srv)) (mv:Nat->List Int) (i:Nat) (cs:List Srv) (wr:zB):Prop where
 dat:RAWr wr g (fun b=>b<w3.heap.size) (Q0G cs)
 low:zE w3.heap.size w3 wr
 len:cs.length=nch
 tot:T=Q9I mv i cs
 bare:∀ j s,i<=j->cs[j]?=some s->s.moves=[]
theorem RoH.enter {w3 wr:zB} {g nch i:Nat} {T:Option (List Srv)} {mv:Nat->List Int} {cs:List Srv} (h:RoH w3 g nch T mv i cs wr) (hi:i<2) (hl:(mv i).length<=42):RoM w3 g nch T mv i cs (mv i) wr :=⟨h.dat,h.low,h.len,by rw [h.tot]; unfold Q9I; rw [if_pos hi],fun j s hj hs=>h.bare j s (by omega) hs,fun s hs=>by rw [h.bare i s (zI _) hs]; simpa using hl⟩
theorem RoM.leave {w3 wr:zB} {g nch i:Nat} {T:Option (List Srv)} {mv:Nat->List Int} {cs:List Srv} {rest:List Int} (h:RoM w3 g nch T mv i cs rest wr) (hi:i<2) (hr:rest.length<=1):RoH w3 g nch T mv (i+1) cs wr :=⟨h.dat,h.low,h.len,by rw [h.tot,Qcn hi hr],fun j s hj hs=>h.bare j s (by omega) hs⟩
theorem RoM.step {w3 wr W:zB} {g nch i:Nat} {T:Option (List Srv)} {mv:Nat->List Int} {cs:List Srv} {s:Srv} {o z:Int} {t:List Int} (h:RoM w3 g nch T mv i cs (o :: z :: t) wr) (hs:cs[i]?=some s) (hg:Q0S cs s.f z=false/\Q22 s.now o z) (hb:zE w3.heap.size w3 W) (hd:RAWr W g (fun b=>b<w3.heap.size) (mvQ (Q0G cs) i s o z)) :
 RoM w3 g nch T mv i (cs.set i (Q1Z s o z)) t W:=by
 have hil:=(List.getElem?_eq_some_iff.1 hs).1;refine⟨hd,hb,by rw [zO]; exact h.len,by rw [h.tot,Qaj hs hg],fun j q hj hq=>?_,fun q hq=>?_⟩
 ·rw [zN,if_neg (by omega)] at hq;exact h.bare j q hj hq
 rw [zN,if_pos rfl,if_pos hil] at hq;obtain rfl:=zP hq;have:=h.bnd s hs;show (s.moves++[(o,z)]).length*2+t.length<=42;simp only [zJ,zL,List.length_nil] at this ⊢;omega
theorem RoM.fail {w3 wr:zB} {g nch i:Nat} {T:Option (List Srv)} {mv:Nat->List Int} {cs:List Srv} {s:Srv} {o z:Int} {t:List Int} (h:RoM w3 g nch T mv i cs (o :: z :: t) wr) (hs:cs[i]?=some s) (hg:¬ (Q0S cs s.f z=false/\Q22 s.now o z)):T=none:=by rw [h.tot,QbT hs hg]
structure RoA (w3:zB) (g:Nat) (cs:List Srv) (f:Nat->List Nat) (j:Nat) (wr:zB):Prop where
 dat:RAWr wr g (fun b=>b<w3.heap.size) (midA cs f j)
 low:zE w3.heap.size w3 wr
 told:∀ q,q<j->(Q3l (f (2+q))).isSome=true
def Qao (w:zB) (o:Option AM) (e:Ending) (w':zB):Prop:=zE w.heap.size w w'/\(o=none->e=.returned (.tuple #[.pointer none,.int .i64 2]))/\∀ m,o=some m->∃ g,e=.returned (.tuple #[.pointer (some ⟨g,0,none⟩),.int .i64 0])/\w.heap.size<=g/\RAWr w' g (fun b=>b<w.heap.size) m
theorem Qak {P:Program} {ops:Array Oper} {o:Oper} {a:Act} {w:zB} {R:zB->zB->Prop} {J:zB->Prop} {p:zB->zC->Prop} (hgd:o.guard=none) (s x:Operand) (t:TypeId)
 (ho:o.op=.call { callee:=.builtin .append,args:=#[s,x],argTypes:=#[t,t] })
 (base:Nat) (e:TypeId) (i:TypeInfo) (z:zC) (size bytes:Nat) (ht:P.underlying t=some (.slice e)) (hi:P.info? e=some i) (hz:i.zero=some z)
 (hsize:i.size=size) (hby:i.bytes=bytes) (hzs:z.cells.size=size) (hsz:0<size)
 (v:zC) (n:Nat) (xs:List zC) (hs:a.eval s=v) (hown:w.ownsRow base e size v n xs)
 (B:Nat) (A:Option zA) (m c:Nat) (news:List zC) (hx:a.eval x=.slice A m c) (hr:Q08 w B size A m news) (h1:∀ u∈news,u.oneCell'=true)
 (h63:n+m<=maxLen) (hbytes:(n+m)*bytes<=140737488355328) (hbase:base<=w.heap.size)
 (h:∀ v' w',w'.ownsRow base e size v' (n+m) (xs++news)->w.grownBy w' v.ownBlock->(v'.ownBlock=v.ownBlock\/v'.ownBlock=some w.heap.size)->R w w'/\J w'/\p w' v'):Q4m P ops o a w R J p:=fun K Q' hK=>by
 have hw:Region.wanted o (yielded ops a.tmps)=true:=by simp [Region.wanted,hgd]
 rw [if_pos hw];exact Q2W w s x t ho base e i z size bytes ht hi hz hsize hby hzs hsz v n xs hs hown B A m c news hx hr h1 h63 hbytes hbase fun v' w' h2 h3 h4=>by obtain⟨q1,q2,q3⟩:=h v' w' h2 h3 h4;exact hK v' w' q1 q2 q3
structure MvUp (w6:zB) (old:zC) (mn:Nat) (ms:List (Int×Int)) (o z:Int) (A2:Option zA) (c2:Nat) (W:zB):Prop where
 only:Only (fun b=>old.ownBlock=some b) w6 W
 row:W.ownsRow 0 168 2 (.slice A2 (mn+1) c2) (mn+1) (Q0H (ms++[(o,z)]))
 or_:(zQ A2 (mn+1) c2).ownBlock=old.ownBlock\/∃ b,(zQ A2 (mn+1) c2).ownBlock=some b/\w6.heap.size<=b
theorem MvUp.below {w6 W W':zB} {old:zC} {mn:Nat} {ms:List (Int×Int)} {o z:Int} {A2:Option zA} {c2:Nat} (h:MvUp w6 old mn ms o z A2 c2 W) (hb:zE W.heap.size W W'):MvUp w6 old mn ms o z A2 c2 W' :=⟨h.only.trans (Only.of_below hb),Q0d h.row fun b hb'=>hb.block b (Q07 h.row hb').2,h.or_⟩
theorem rmv_info:(Tryz.prog.info? 168).map (fun i=>(i.zero,i.size,i.bytes))=some (some (.agg #[.int .i64 0,.int .i64 0]),2,16):=by kernel_rfl
theorem RoM.moved {w3 wr w7 W9:zB} {g nch i:Nat} {T:Option (List Srv)} {mv:Nat->List Int} {cs:List Srv} {s:Srv} {o z:Int} {t:List Int} {S:RASl} {A2:Option zA} {c2:Nat} (h:RoM w3 g nch T mv i cs (o :: z :: t) wr) (hs:cs[i]?=some s) (hi:i<2) (hg:Q0S cs s.f z=false/\Q22 s.now o z) (hgB:w3.heap.size<=g) (hb:zE wr.heap.size wr w7)
 (hd:Q1r w7 g (fun b=>b<w3.heap.size) (Q0G cs) S) (hp:Q7f (Q0G cs) S g) (hu:MvUp w7 (.slice (S.mA i) s.moves.length (S.mC i)) s.moves.length s.moves o z A2 c2 W9) :
 Blk W9 g 153 (Q1Q (Q0G cs) S)/\RoM w3 g nch T mv i (cs.set i (Q1Z s o z)) t (W9.setCell ⟨g,1+i,none⟩ (.slice A2 (s.moves.length+1) c2)):=by
 have hsi:(Q0G cs).chunks[i]?=some s:=hs;have hmi:=hd.mv i hi;rw [Q1c hsi] at hmi;have hmo:=hd.mout i hi;rw [Q1c hsi] at hmo;have hlow7:=h.low.trans (hb.mono h.low.size);have hng:(zQ (S.mA i) s.moves.length (S.mC i)).ownBlock≠some g:=Q05 hmi hd.cells (by decide);have hblk:Blk W9 g 153 (Q1Q (Q0G cs) S):=hu.only.blk hd.cells hng;have hT:=Q0b.setCell W9 ⟨g,1+i,none⟩ (.slice A2 (s.moves.length+1) c2);have hsz7:=hlow7.size;have hlow9:zE w3.heap.size w3 W9:=hlow7.trans (hu.only.below hsz7 fun b hb' e=>hmo b e hb');have hbnd:=h.bnd s hs;have hl20:s.moves.length<=20:=by simp only [zL] at hbnd; omega
 have hok:AOk (mvQ (Q0G cs) i s o z):=Q7Y (hd.ok.cok.moved hs hg.2.1 hg.1 hg.2.2.2.1 hg.2.2.2.2 hl20);obtain⟨h1,h2⟩:=hd.moved hp hi hsi (w2:=W9.setCell ⟨g,1+i,none⟩ (.slice A2 (s.moves.length+1) c2)) (by have:=hu.only.size; have:=hT.size; omega) (fun b hl hne hno=>(hT.block b hne).trans (hu.only.block b hl hno)) (hblk.set_ (1+i) _) (Q0d hu.row fun b hb'=>hT.block b fun e=>Q05 hu.row hblk (by decide) (by rw [hb',e])) (fun b hb'=>by
  rcases hu.or_ with e | ⟨b',e,hge⟩
  ·rw [hb'] at e;exact⟨hmo b e.symm,.inl e.symm⟩
  rw [hb'] at e;injection e with e
  subst e;exact⟨by show ¬ b<w3.heap.size; omega,.inr hge⟩) hok
 exact⟨hblk,h.step hs hg (hT.below hlow9 hgB) ⟨_,h1,h2⟩⟩
theorem RoH.answers {w3 wr:zB} {g nch:Nat} {T:Option (List Srv)} {mv:Nat->List Int} {cs:List Srv} {f:Nat->List Nat} (h:RoH w3 g nch T mv nch cs wr) (h1:1<=nch/\nch<=2) (hm:∀ j,nch<=j->mv j=[]):T=some cs/\RoA w3 g cs f 0 wr :=⟨h.tot.trans (head_end h1 hm),⟨by rw [QeE]; exact h.dat,h.low,fun q hq=>by omega⟩⟩
def toldC (C:Array zC) (j:Nat) (st:Nat) (D:Array zC):Array zC:=spl (C.setIfInBounds (3+j) (.int .i64 (st:Int))) (7+j*4) D.toList
theorem toldC_at {C D:Array zC} {j st:Nat} (hC:C.size=23) (hD:D.size=4) (hj:j<4) (q:Nat) (hq:q<23):(toldC C j st D)[q]?=if q=3+j then some (.int .i64 (st:Int)) else if 7+j*4<=q/\q<11+j*4 then D[q - (7+j*4)]? else C[q]?:=by
 unfold toldC;have hl:D.toList.length=4:=by simpa using hD
 have hcs:(C.setIfInBounds (3+j) (.int .i64 (st:Int))).size=23:=by rw [Array.size_setIfInBounds]; exact hC
 rw [Q57 (by rw [hl,hcs]; omega),hl];by_cases e:q=3+j
 ·subst e;rw [if_pos rfl,if_neg (by omega),Array.getElem?_setIfInBounds,if_pos rfl,if_pos (by omega)]
 rw [if_neg e];by_cases e2:7+j*4<=q/\q<11+j*4
 ·rw [if_pos e2,if_pos (by omega),zM]
 rw [if_neg e2,if_neg (by omega),Array.getElem?_setIfInBounds,if_neg (by omega)]
theorem RoA.put {w3 wr W W':zB} {g j:Nat} {cs:List Srv} {f:Nat->List Nat} {x:Nat×Ans} {A:Option zA} {c:Nat} {S:RASl} (h:RoA w3 g cs f j wr) (hj:j<4) (hgB:w3.heap.size<=g) (hb:zE wr.heap.size wr W) (hS:Q1r wr g (fun b=>b<w3.heap.size) (midA cs f j) S) (hp:Q7f (midA cs f j) S g)
 (hq:Q3l (f (2+j))=some x) (hm:∀ z,z∈f (2+j)->z<=maxN) (ho:OwnN W wr.heap.size (.slice A x.2.nodes.length c) x.2.nodes) (hT:Only (fun b=>b=g) W W') (hB:Blk W' g 153 (toldC (Q1Q (midA cs f j) S) j x.1 (raN x.2 A c))):RoA w3 g cs f (j+1) W':=by
 have hd:=hS.below hb;have hlow:=h.low.trans (hb.mono h.low.size);have hok:=hd.ok.lsQ (j:=j) (Qcc hm hq);have hwl:=h.low.size;have ho':OwnN W' wr.heap.size (.slice A x.2.nodes.length c) x.2.nodes:=ho.keep_ fun b hb'=>hT.block b (Q07 ho hb').2 fun e=>Q05 ho hd.cells (by decide) (by rw [hb',e])
 obtain⟨A',c',e1,hf⟩:=FarN.of_own (w0:=w3) (N:=fun b=>b<w3.heap.size) ho' (fun b hb'=>by have:b<w3.heap.size:=hb'; omega);injection e1 with e1 _ e2
 subst e1 e2;obtain⟨h1,h2⟩:=hd.told hp hj (st:=x.1) (a:=x.2) (A:=A) (c:=c) hT.size (fun b hl hne=>hT.block b hl hne) hB (by unfold toldC; rw [Q4F (by rw [Array.size_setIfInBounds,Q2J]; have:(raN x.2 A c).toList.length=4:=rfl; omega),Array.size_setIfInBounds,Q2J]) (fun q hq'=>toldC_at (Q2J _ _) rfl hj q hq') hf (fun ad h0 ha hr=>by
  have hge:=(Q07 ho (b:=ad.block) (by rw [ha]; rfl)).1;rcases hr with e | ⟨q,hq',e⟩
  ·have:=hS.cells.lt; omega
  have:=(Q07 (hS.mv q hq') e).2; omega) hok
 rw [Q9U cs f j x hj hq] at h1 h2;refine⟨⟨_,h1,h2⟩,hlow.trans (hT.below hlow.size fun b hb' e=>by omega),fun q hq'=>?_⟩;rcases zF q j with e | e
 ·exact h.told q e
 obtain rfl:q=j:=by omega
 rw [hq]; rfl
theorem RAWr.crewsAt_ {w:zB} {B g:Nat} {v:zC} {m:AM} {s:Srv} {nA:Nat->Option zA} {nC:Nat->Nat} (hok:SOk s) (hown:Q1H w B v s.f (Q12 s.first s.moves) nA nC):∃ gl cl Ai cai C cur,v=.slice (some ⟨gl,0,none⟩) (s.moves.length+1) cl/\C=crC s.f Ai s.now.length cai/\C.size=2/\Blk w gl 77 cur/\(∀ j,j<2->cur[s.moves.length*2+j]?=C[j]?)/\Q08 w w.heap.size 1 Ai s.now.length (s.now.map vn):=by
 have hshort:∀ x,x∈Q12 s.first s.moves->x.length<=1000:=fun x hx=>by obtain⟨q,hq,rfl⟩:=List.getElem_of_mem hx;rw [Q1J] at hq;have:=Q5o s.first s.moves q (by omega);rw [zD (by rw [Q1J]; omega)] at this;rw [zP this];have:=((hok.mv.take q).now hok.crew).short.2;omega
 obtain⟨gl,cl,hv,hccl,_⟩:=hown.shape (by rw [Q1J]; omega) hshort;subst hv;have hat:(Q12 s.first s.moves)[s.moves.length]?=some s.now:=by have:=Q5o s.first s.moves s.moves.length (zI _);rw [List.take_length] at this;exact this
 obtain⟨Ai,cai,C,cur,hC,hCs,hBL,hCV,_,hrdn⟩:=hown.elem hat;exact⟨gl,cl,Ai,cai,C,cur,by rw [Q1J],hC,hCs,hBL,hCV,hrdn⟩
end
end Go.Proofs.YtcpngeiahgoacaaGreat
