/- Parts of the proof, in one text: Calm, Ink, InkOf, InkEvery, InkFill, Open, Bring, InkCl, BookReads, Noted, InkTell, Works, InkAll, ClashMath. -/
import Derived.Test.YtcpngeiahgoacaaGreatD3
import Derived.Laws.IdiomStrings
import Derived.Laws.BytesArg
import Derived.Deep.DeepCutAuto
import Derived.Test.YtcpngeiahgoacaaGreatD1
import Derived.ProofKit
import Derived.OpenShut
import Derived.ChangeOld
import Derived.ChangeSlices
import Derived.Deep.Slices
import Derived.SizedLaws
import Derived.Test.YtcpngeiahgoacaaGreatRows
import Derived.Lib.SlBytesConst
namespace Go.Proofs.YtcpngeiahgoacaaGreat
set_option linter.unusedVariables false
set_option linter.unusedSimpArgs false
set_option maxRecDepth 100000
set_option maxHeartbeats 16000000
section
open Go.RowKit
def ptr0 (g:Nat):Value:=.pointer (some ⟨g,0,none⟩)
def Q88 (P:Program) (w:World) (v:Value):Result Next->Prop
 | .ok (.value u) w'=>w'=w/\u=v
 | .ok .skip w'=>w'=w/\v=undef
 | .ok (.enter f args) w'=>w'=w/\Calls P f args w (fun e w''=>e=.returned v/\Below w.heap.size w w'')
 | _=>False
def Q5S (P:Program) (o:Oper) (a:Act) (w:World) (v:Value):Prop:=Q88 P w v ((execOp a.eval o).run P w)
def Q5U (P:Program) (o:Oper) (a:Act) (C:World->Prop) (next:Act->Prop):Prop:=∃ v,(∀ w,C w->Q5S P o a w v)/\next (a.put o.dst v)
def Q0J (o:Oper):Option (Tmp×TypeId) :=
 match o.op,o.guard,o.dst with
 | .alloc t,none,some d=>some (d,t)
 | _,_,_=>none
theorem Q2a {o:Oper} {d:Tmp} {t:TypeId} (h:Q0J o=some (d,t)):o.op=.alloc t/\o.guard=none/\o.dst=some d:=by
 unfold Q0J at h;split at h
 ·rename_i h1 h2 h3;simp only [Option.some.injEq,Prod.mk.injEq] at h;obtain⟨rfl,rfl⟩:=h;exact⟨h1,h2,h3⟩
 ·cases h
section
variable {P:Program} {ops:Array Oper} {md:Region.Mode} {C:World->Prop}
def cOp (P:Program) (ops:Array Oper) (C:World->Prop) (i:Nat) (K:Act->Prop) (a:Act):Prop :=
 match ops[i]? with
 | none=>K a
 | some o =>
  match Q0J o with
  | some (d,_)=>∀ g:Nat,K (a.put (some d) (ptr0 g))
  | none=>if Region.wanted o (yielded ops a.tmps) then Q5U P o a C K else K (a.put o.dst undef)
def Q0i (P:Program) (ops:Array Oper) (C:World->Prop) (Q:Act->Prop):List Oper->Act->Prop
 | [],a=>Q a
 | o :: rest,a =>
  match Q0J o with
  | some (d,_)=>∀ g:Nat,Q0i P ops C Q rest (a.put (some d) (ptr0 g))
  | none=>if Region.wanted o (yielded ops a.tmps) then Q5U P o a C (Q0i P ops C Q rest) else Q0i P ops C Q rest (a.put o.dst undef)
theorem Q0S {Q:Act->Prop} {a:Act} (h:Q a):Q0i P ops C Q [] a:=h
theorem Q3K {Q:Act->Prop} {a:Act} {o:Oper} {rest:List Oper} (ha:Q0J o=none)
 (h:∀ K:Act->Prop,(∀ a,Q0i P ops C Q rest a->K a)->if Region.wanted o (yielded ops a.tmps) then Q5U P o a C K else K (a.put o.dst undef)):Q0i P ops C Q (o :: rest) a:=by
 unfold Q0i;rw [ha];exact h _ (fun _ h=>h)
theorem Q64 {Q:Act->Prop} {a:Act} {o:Oper} {rest:List Oper} {d:Tmp} {t:TypeId} (ha:Q0J o=some (d,t))
 (h:∀ g:Nat,Q0i P ops C Q rest (a.put (some d) (ptr0 g))):Q0i P ops C Q (o :: rest) a:=by
 unfold Q0i;rw [ha];exact h
theorem Q9k {o:Oper} {a:Act} {K K':Act->Prop} (h:∀ a,K a->K' a) (hh:Q5U P o a C K):Q5U P o a C K' :=
 let ⟨v,h1,h2⟩:=hh
 ⟨v,h1,h _ h2⟩
theorem Q3H {Q Q':Act->Prop} (h:∀ a,Q a->Q' a):∀ {l:List Oper} {a:Act},Q0i P ops C Q l a->Q0i P ops C Q' l a
 | [],a,hh=>h a hh
 | o :: rest,a,hh=>by
  unfold Q0i at hh ⊢;split
  ·rename_i d t hd;simp only [hd] at hh;exact fun g=>Q3H h (hh g)
  ·rename_i hd;simp only [hd] at hh;split
   ·rename_i hw;simp only [hw,if_true] at hh;exact Q9k (fun a' h'=>Q3H h h') hh
   ·rename_i hw;simp only [hw] at hh;exact Q3H h hh
theorem Qa8 {o:Oper} {a:Act} {K K':Act->Prop} (h:∀ a,K a->K' a) (hh:Q5U P o a C K):Q5U P o a C K' :=
 let ⟨v,h1,h2⟩:=hh
 ⟨v,h1,h _ h2⟩
theorem cOp_mono {i:Nat} {a:Act} {K K':Act->Prop} (h:∀ a,K a->K' a) (hh:cOp P ops C i K a):cOp P ops C i K' a:=by
 unfold cOp at *;split
 ·exact h _ (by simpa [*] using hh)
 ·rename_i o ho;simp only [ho] at hh;split
  ·rename_i d t hd;simp only [hd] at hh;exact fun g=>h _ (hh g)
  ·rename_i hd;simp only [hd] at hh;split
   ·rename_i hw; simp only [hw,if_true] at hh; exact Qa8 h hh
   ·rename_i hw; simp only [hw] at hh; exact h _ hh
def Q2E (P:Program) (ops:Array Oper) (C:World->Prop) (o:Oper) (v:Value) (a:Act):Prop :=
 (Region.wanted o (yielded ops a.tmps)=true/\∀ w,C w->Q5S P o a w v)\/(Region.wanted o (yielded ops a.tmps)=false/\v=undef)
theorem Q2E.cOp {i:Nat} {o:Oper} {v:Value} {a:Act} (hi:ops[i]?=some o) (hal:Q0J o=none) (hy:Q2E P ops C o v a) {K:Act->Prop} (h:K (a.put o.dst v)):cOp P ops C i K a:=by
 unfold Go.Proofs.YtcpngeiahgoacaaGreat.cOp;simp only [hi,hal];rcases hy with⟨hw,hv⟩ | ⟨hw,rfl⟩
 ·simp only [hw,if_true]; exact⟨v,hv,h⟩
 ·simp only [hw,Bool.false_eq_true,if_false]; exact h
theorem Q2E.of_same {o:Oper} {v:Value} {a a':Act} (hy:Q2E P ops C o v a) (he:execOp a'.eval o=execOp a.eval o)
 (hw:Region.wanted o (yielded ops a'.tmps)=Region.wanted o (yielded ops a.tmps)):Q2E P ops C o v a':=by
 unfold Q2E Q5S at *;rw [he,hw];exact hy
theorem cOp_put {j:Nat} {oi oj:Oper} {v:Value} (hj:ops[j]?=some oj) (hap:oi.apart ops oj=true)
 (hsi:∀ cs b,oi.op≠.select cs b) (hsj:∀ cs b,oj.op≠.select cs b) {K:Act->Prop} {a:Act}
 (hy:Q2E P ops C oi v a) (h:cOp P ops C j K (a.put oi.dst v)) :
 cOp P ops C j (fun a'=>Q2E P ops C oi v a'/\K (a'.put oi.dst v)) a:=by
 obtain⟨h1,h2,h3⟩:=Oper.apart_spec hap;have keep:∀ (a:Act),Q2E P ops C oi v a->∀ u,Q2E P ops C oi v (a.put oj.dst u):=fun a hy u =>
  hy.of_same (execOp_put oi hsi a oj.dst u h3) (wanted_put oi a oj.dst u h3)
 unfold cOp at *;simp only [hj] at *;cases hal:Q0J oj with
 | some p =>
  obtain⟨d,t⟩:=p;obtain⟨_,_,hd⟩:=Q2a hal;simp only [hal] at h ⊢;intro g;have hk:=keep a hy (ptr0 g);rw [hd] at hk;refine⟨hk,?_⟩;have:=h g;rw [<- hd] at this ⊢;rw [<- Act.put_comm a v (ptr0 g) h2]; exact this
 | none =>
  simp only [hal] at h ⊢;rw [wanted_put oj a oi.dst v h1] at h;split
  ·rename_i hw;simp only [hw,if_true] at h;obtain⟨u,hu,hn⟩:=h;refine⟨u,fun w hw'=>?_,keep a hy u,by rw [<- Act.put_comm a v u h2]; exact hn⟩;have:=hu w hw';unfold Q5S at *
   rwa [execOp_put oj hsj a oi.dst v h1] at this
  ·rename_i hw;simp only [hw] at h;exact⟨keep a hy _,by rw [<- Act.put_comm a v undef h2]; exact h⟩
def Q5T (P:Program) (md:Region.Mode) (ops:Array Oper) (C:World->Prop) (n:Nat) (L:Array Bool->Act->Prop):Nat->Array Bool->Act->Prop
 | 0,listed,a=>L listed a
 | f+1,listed,a =>
  Region.ready md ops listed≠[]/\∀ i∈Region.ready md ops listed,i<n/\cOp P ops C i (Q5T P md ops C n L f (listed.setIfInBounds i true)) a
theorem Q92 {n i:Nat} {oi:Oper} {v:Value} {L:Array Bool->Act->Prop} (hi:ops[i]?=some oi) (hal:Q0J oi=none) (hsel:∀ (j:Nat) (o:Oper) cs b,ops[j]?=some o->o.op≠.select cs b)
 (hs:Region.sinkB md ops n=true) (hc:Region.chainB md ops n=true) (hn:n<ops.size) (hin:i<n)
 (hdone:∀ listed a,L listed a->∀ j∈Region.ready md ops listed,n<=j) :
 ∀ (f:Nat) (listed:Array Bool) (a:Act),HeadInv md ops n listed ->
  (∀ j oj,ops[j]?=some oj->j≠i->listed.getD j true=false->(∀ e∈oj.after,Region.binds md e=true->e.on≠i)->oi.apart ops oj=true) ->
  i∈Region.ready md ops listed->Q2E P ops C oi v a ->
  Q5T P md ops C n L f (listed.setIfInBounds i true) (a.put oi.dst v)->Q5T P md ops C n L (f+1) listed a:=by
 intro f
 induction f with
 | zero =>
  intro listed a inv _ hr hy H;have hun:=(mem_ready.1 hr).1;refine⟨fun h=>(by rw [h] at hr; cases hr),fun j hj=>?_⟩;have hjn:j<n:=by
   rcases Nat.lt_or_ge j n with h | h
   ·exact h
   ·exact absurd hj (tail_waits hs hc hn inv _ i rfl hin hun j h)
  refine⟨hjn,?_⟩;by_cases hji:j=i
  ·subst hji; exact hy.cOp hi hal H
  ·have:=hdone _ _ H j (ready_mono hj hji);omega
 | succ f ih =>
  intro listed a inv hfree hr hy H;have hun:=(mem_ready.1 hr).1;refine⟨fun h=>(by rw [h] at hr; cases hr),fun j hj=>?_⟩;have hjn:j<n:=by
   rcases Nat.lt_or_ge j n with h | h
   ·exact h
   ·exact absurd hj (tail_waits hs hc hn inv _ i rfl hin hun j h)
  refine⟨hjn,?_⟩;by_cases hji:j=i
  ·subst hji; exact hy.cOp hi hal H
  ·have h1:=(H.2 j (ready_mono hj hji)).2;obtain⟨hjun,oj,hoj,hall⟩:=mem_ready.1 hj;have hnot:∀ e∈oj.after,Region.binds md e=true->e.on≠i:=fun e he hb heq=>by
    have h1:=hall e he hb;rw [heq,getD_both hun] at h1;cases h1
   have h2:=cOp_put hoj (hfree j oj hoj hji hjun hnot) (fun cs b=>hsel i oi cs b hi) (fun cs b=>hsel j oj cs b hoj) hy h1;have hfree':∀ k ok,ops[k]?=some ok->k≠i->(listed.setIfInBounds j true).getD k true=false ->
    (∀ e∈ok.after,Region.binds md e=true->e.on≠i)->oi.apart ops ok=true:=fun k ok hk hki hun hno=>by
    refine hfree k ok hk hki ?_ hno;by_cases hjk:j=k
    ·subst hjk; exact hjun
    ·rw [getD_set_ne true hjk] at hun; exact hun
   refine cOp_mono (fun a' h3=>ih (listed.setIfInBounds j true) a' (inv.set hj hjn) hfree' (ready_mono hr (Ne.symm hji)) h3.1 ?_) h2;rw [Array.setIfInBounds_comm _ _ hji];exact h3.2
theorem Q4U {n i:Nat} {oi:Oper} {d:Tmp} {t:TypeId} {L:Array Bool->Act->Prop} (hi:ops[i]?=some oi) (hal:Q0J oi=some (d,t))
 (hs:Region.sinkB md ops n=true) (hc:Region.chainB md ops n=true) (hn:n<ops.size) (hin:i<n)
 (hdone:∀ listed a,L listed a->∀ j∈Region.ready md ops listed,n<=j) :
 ∀ (f:Nat) (listed:Array Bool) (a:Act),HeadInv md ops n listed ->
  (∀ j oj,ops[j]?=some oj->j<n->j≠i->listed.getD j true=false->∃ d' t',Q0J oj=some (d',t')/\d'≠d) ->
  i∈Region.ready md ops listed ->
  (∀ g,Q5T P md ops C n L f (listed.setIfInBounds i true) (a.put (some d) (ptr0 g)))->Q5T P md ops C n L (f+1) listed a:=by
 intro f
 induction f with
 | zero =>
  intro listed a inv _ hr H;have hun:=(mem_ready.1 hr).1;refine⟨fun h=>(by rw [h] at hr; cases hr),fun j hj=>?_⟩;have hjn:j<n:=by
   rcases Nat.lt_or_ge j n with h | h
   ·exact h
   ·exact absurd hj (tail_waits hs hc hn inv _ i rfl hin hun j h)
  refine⟨hjn,?_⟩;by_cases hji:j=i
  ·subst hji; unfold cOp; simp only [hi,hal]; exact H
  ·have:=hdone _ _ (H 0) j (ready_mono hj hji);omega
 | succ f ih =>
  intro listed a inv hrest hr H;have hun:=(mem_ready.1 hr).1;refine⟨fun h=>(by rw [h] at hr; cases hr),fun j hj=>?_⟩;have hjn:j<n:=by
   rcases Nat.lt_or_ge j n with h | h
   ·exact h
   ·exact absurd hj (tail_waits hs hc hn inv _ i rfl hin hun j h)
  refine⟨hjn,?_⟩;by_cases hji:j=i
  ·subst hji; unfold cOp; simp only [hi,hal]; exact H
  ·obtain⟨hjun,oj,hoj,hall⟩:=mem_ready.1 hj;obtain⟨d',t',hal',hne⟩:=hrest j oj hoj hjn hji hjun;unfold cOp;simp only [hoj,hal'];intro g';refine ih (listed.setIfInBounds j true) _ (inv.set hj hjn) (fun k ok hk hkn hki hu=>hrest k ok hk hkn hki ?_) (ready_mono hr (Ne.symm hji)) (fun g=>?_)
   ·by_cases hjk:j=k
    ·subst hjk; exact hjun
    ·rw [getD_set_ne true hjk] at hu; exact hu
   ·have h1:=((H g).2 j (ready_mono hj hji)).2;unfold cOp at h1;simp only [hoj,hal'] at h1;have h2:=h1 g';rw [Array.setIfInBounds_comm _ _ (Ne.symm hji),Act.put_comm a (ptr0 g) (ptr0 g') (fun e he=>by injection he with he; subst he; intro h; injection h with h; exact hne h)] at h2;exact h2
def endB (md:Region.Mode) (ops:Array Oper) (g k:Nat) (listed:Array Bool):Bool:=Region.seqB md ops g k listed && (List.range k).all fun i=>listed.getD i false
theorem Q87 {g k:Nat} {listed:Array Bool} (h:endB md ops g k listed=true):Region.seqB md ops g k listed=true:=by
 unfold endB at h;rw [Bool.and_eq_true] at h;exact h.1
theorem endB_all {g k:Nat} {listed:Array Bool} (h:endB md ops g k listed=true) (i:Nat) (hi:i<k):listed.getD i false=true:=by
 unfold endB at h;rw [Bool.and_eq_true] at h;exact List.all_eq_true.1 h.2 i (List.mem_range.2 hi)
def Q6K (md:Region.Mode) (ops:Array Oper) (g n:Nat):Nat->Nat->Array Bool->Bool
 | 0,k,listed=>endB md ops g k listed
 | f+1,k,listed=>(Region.ready md ops listed).contains k && (match ops[k]? with
  | none=>false
  | some o=>match Q0J o with
   | none=>Region.free md ops listed k
   | some (d,_)=>(List.range n).all fun j=>j == k || listed.getD j true || (match ops[j]? with
    | none=>true
    | some oj=>match Q0J oj with
     | none=>false
     | some (d',_)=>d' != d)) && Q6K md ops g n f (k+1) (listed.setIfInBounds k true)
theorem Q7C {n g:Nat} {Lq:Act->Prop} (hsel:Region.noSelect ops=true) (hs:Region.sinkB md ops n=true) (hc:Region.chainB md ops n=true) (hn:n<ops.size) :
 ∀ (l:List Oper) (k:Nat) (listed:Array Bool) (a:Act),(∀ j,j<l.length->l[j]?=ops[k+j]?)->k+l.length=n->HeadInv md ops n listed ->
 Q6K md ops g n l.length k listed=true->Q0i P ops C Lq l a ->
 Q5T P md ops C n (fun listed' a'=>endB md ops g n listed'=true/\Lq a') l.length listed a
 | [],k,listed,a,_,hk,_,hB,h=>by
  have:k=n:=by simpa using hk
  subst this;exact⟨by simpa [Q6K] using hB,h⟩
 | o :: l,k,listed,a,hl,hk,inv,hB,h=>by
  have h0:ops[k]?=some o:=by simpa using (hl 0 (by simp)).symm
  simp only [List.length_cons,Q6K,h0,Bool.and_eq_true] at hB;obtain⟨⟨hr,hf⟩,hB'⟩:=hB;have hkn:k<n:=by simp only [List.length_cons] at hk; omega
  have hr':k∈Region.ready md ops listed:=by simpa using hr
  have hnext:∀ a',Q0i P ops C Lq l a'->Q5T P md ops C n (fun listed' a'=>endB md ops g n listed'=true/\Lq a') l.length (listed.setIfInBounds k true) a':=fun a' h' =>
   Q7C hsel hs hc hn l (k+1) _ a' (fun j hj=>by have:=hl (j+1) (by simp; omega); simpa [Nat.add_assoc,Nat.add_comm 1 j] using this) (by simp only [List.length_cons] at hk; omega) (inv.set hr' hkn) hB' h'
  unfold Q0i at h;cases hal:Q0J o with
  | none =>
   simp only [hal] at h hf;have hy:∃ v,Q2E P ops C o v a/\Q0i P ops C Lq l (a.put o.dst v):=by
    by_cases hw:Region.wanted o (yielded ops a.tmps)=true
    ·simp only [hw,if_true] at h;obtain⟨v,h1,h2⟩:=h;exact⟨v,.inl ⟨hw,h1⟩,h2⟩
    ·simp only [hw] at h;exact⟨undef,.inr ⟨by simpa using hw,rfl⟩,h⟩
   obtain⟨v,hy,hK⟩:=hy;exact Q92 h0 hal (Region.noSelect_spec hsel) hs hc hn hkn (fun listed' a' hL=>seqB_ready (Q87 hL.1)) l.length listed a inv (Region.free_spec h0 hf) hr' hy (hnext _ hK)
  | some p =>
   obtain⟨d,t⟩:=p;simp only [hal] at h hf;refine Q4U h0 hal hs hc hn hkn (fun listed' a' hL=>seqB_ready (Q87 hL.1)) l.length listed a inv (fun j oj hj hjn hjk hu=>?_) hr' (fun g'=>hnext _ (h g'));have h1:=List.all_eq_true.1 hf j (List.mem_range.2 hjn);simp only [hj,hu,Bool.or_eq_true,beq_iff_eq,hjk,false_or,Bool.false_eq_true] at h1;cases hal':Q0J oj with
   | none=>simp only [hal'] at h1; cases h1
   | some q =>
    obtain⟨d',t'⟩:=q;simp only [hal',bne_iff_ne] at h1;exact⟨d',t',rfl,h1⟩
structure Made (ops:Array Oper) (n:Nat) (zf:TypeId->Array Value) (base w:World) (on:Nat->Prop) (a:Act):Prop where
 fact:∀ i o d t,i<n->on i->ops[i]?=some o->Q0J o=some (d,t)->∃ g,a.tmps[d]?=some (ptr0 g)/\base.heap.size<=g/\Blk w g t (zf t)
 apart:∀ i j oi oj di ti dj tj gi gj,i<n->j<n->on i->on j->i≠j->ops[i]?=some oi->ops[j]?=some oj->Q0J oi=some (di,ti)->Q0J oj=some (dj,tj) ->
  a.tmps[di]?=some (ptr0 gi)->a.tmps[dj]?=some (ptr0 gj)->gi≠gj
theorem Q1x {a:Act} {dst:Option Tmp} {v:Value} {d:Tmp} (h:dst≠some d):(a.put dst v).tmps[d]?=a.tmps[d]?:=by
 cases dst with
 | none=>rfl
 | some e =>
  show (a.tmps.setIfInBounds e v)[d]?=_;rw [Array.getElem?_setIfInBounds,if_neg (fun he=>h (by rw [he]))]
theorem Q2G {a:Act} {dst:Option Tmp} {v:Value}:(a.put dst v).tmps.size=a.tmps.size:=by
 cases dst with
 | none=>rfl
 | some e=>show (a.tmps.setIfInBounds e v).size=_; simp
def Q8i (ops:Array Oper) (n:Nat):Bool :=
 (List.range n).all fun i=>(List.range n).all fun j=>i == j || (match ops[i]?,ops[j]? with
  | some oi,some oj=>oi.dst.isNone || oi.dst != oj.dst
  | _,_=>true)
theorem Q2c {n:Nat} (h:Q8i ops n=true) {i j:Nat} {oi oj:Oper} {d:Tmp} (hi:i<n) (hj:j<n) (hij:i≠j) (ei:ops[i]?=some oi) (ej:ops[j]?=some oj) (hd:oi.dst=some d):oj.dst≠some d:=by
 have h1:=List.all_eq_true.1 (List.all_eq_true.1 h i (List.mem_range.2 hi)) j (List.mem_range.2 hj);simp only [ei,ej,hd,Bool.or_eq_true,beq_iff_eq,hij,Option.isNone_some,Bool.false_eq_true,false_or,bne_iff_ne] at h1;exact fun e=>h1 e.symm
def Q9X (ops:Array Oper) (n m:Nat):Bool :=
 (List.range n).all fun i=>match ops[i]? with
  | none=>true
  | some o=>match Q0J o with
   | none=>true
   | some (d,_)=>decide (d<m)
theorem Q9F {n m:Nat} (h:Q9X ops n m=true) {i:Nat} {o:Oper} {d:Tmp} {t:TypeId} (hi:i<n) (ei:ops[i]?=some o) (ha:Q0J o=some (d,t)):d<m:=by
 have h1:=List.all_eq_true.1 h i (List.mem_range.2 hi);simpa only [ei,ha,decide_eq_true_eq] using h1
def QcJ (P:Program) (ops:Array Oper) (n:Nat) (zf:TypeId->Array Value):Prop :=
 ∀ i o d t,i<n->ops[i]?=some o->Q0J o=some (d,t)->∀ (a:Act) (w:World),(execOp a.eval o).run P w=.ok (.value (ptr0 w.heap.size)) (w.alloc (.cells (zf t) t))
theorem calm_wp {o:Oper} {a:Act} {K:Act->Prop} {K':Act->World->Prop} {Q':Exit->Act->World->Prop} {w:World} (hw:C w) (h:∀ v w',Below w.heap.size w w'->K (a.put o.dst v)->K' (a.put o.dst v) w') (hh:Q5U P o a C K):o.wp P a w K' Q':=by
 obtain⟨v,h1,h2⟩:=hh;have h3:=h1 w hw;unfold Q5S at h3;unfold Oper.wp;generalize (execOp a.eval o).run P w=r at *;cases r with
 | ok n w' =>
  cases n <;> simp only [Q88] at h3 <;> simp only [Oper.upon]
  case value u =>
   obtain⟨e1,e2⟩:=h3;rw [e1,e2];exact h _ _ (Below.refl _ _) h2
  case skip =>
   obtain⟨e1,e2⟩:=h3;rw [e1,<- e2];exact h _ _ (Below.refl _ _) h2
  case enter f args =>
   obtain⟨e1,hc⟩:=h3;rw [e1];exact hc.mono fun e w'' ⟨he,hw''⟩=>by subst he; exact h _ _ hw'' h2
 | halt x w'=>simp only [Q88] at h3
theorem Q2s {n g m:Nat} {zf:TypeId->Array Value} {base:World} {L:Array Bool->Act->Prop} {Q':Exit->Act->World->Prop} (hC:∀ w w',C w->Below w.heap.size w w'->C w') (hbase:∀ w,C w->base.heap.size<=w.heap.size)
 (hd:Q8i ops n=true) (hb:Q9X ops n m=true) (hz:QcJ P ops n zf)
 (hL:∀ listed a w,C w->a.tmps.size=m->Made ops n zf base w (fun i=>listed.getD i false=true) a->L listed a->wpAny P md ops Q' g listed a w) :
 ∀ (f:Nat) (listed:Array Bool) (a:Act) (w:World),C w->a.tmps.size=m->listed.size=ops.size->Made ops n zf base w (fun i=>listed.getD i false=true) a->Q5T P md ops C n L f listed a->wpAny P md ops Q' (f+g) listed a w
 | 0,listed,a,w,hw,hm,hls,hM,h=>by rw [Nat.zero_add]; exact hL _ _ _ hw hm hM h
 | f+1,listed,a,w,hw,hm,hls,hM,h=>by
  rw [show f+1+g=(f+g)+1 by omega];refine⟨fun h0=>absurd h0 h.1,fun i hi=>?_⟩;obtain⟨hin,hop⟩:=h.2 i hi;obtain⟨hun,o,ho,_⟩:=mem_ready.1 hi;have hilt:i<listed.size:=by rw [hls]; exact(Array.getElem?_eq_some_iff.1 ho).1
  have hset:∀ k,(listed.setIfInBounds i true).getD k false=true->k=i\/listed.getD k false=true:=fun k hk=>by
   by_cases e:i=k
   ·exact .inl e.symm
   ·rw [getD_set_ne false e] at hk; exact .inr hk
  have hunf:=getD_both hun;have hkeep:∀ w',Below w.heap.size w w'->Q0J o=none->∀ v,Made ops n zf base w' (fun k=>(listed.setIfInBounds i true).getD k false=true) (a.put o.dst v):=fun w' hbw hal v=>by
   refine⟨fun k ok d t hk hon ek ak=>?_,fun k j ok oj dk tk dj tj gk gj hk hj onk onj hkj ek ej ak aj e1 e2=>?_⟩
   ·have hki:k≠i:=by rintro rfl; rw [ho] at ek; injection ek with ek; subst ek; rw [hal] at ak; cases ak
    rcases hset k hon with e | h2
    ·exact absurd e hki
    ·obtain⟨g',h3,h4,h5⟩:=hM.fact k ok d t hk h2 ek ak;exact⟨g',by rw [Q1x (Q2c hd hk hin hki ek ho (Q2a ak).2.2)]; exact h3,h4,h5.below hbw h5.lt⟩
   ·have hki:k≠i:=by rintro rfl; rw [ho] at ek; injection ek with ek; subst ek; rw [hal] at ak; cases ak
    have hji:j≠i:=by rintro rfl; rw [ho] at ej; injection ej with ej; subst ej; rw [hal] at aj; cases aj
    rw [Q1x (Q2c hd hk hin hki ek ho (Q2a ak).2.2)] at e1;rw [Q1x (Q2c hd hj hin hji ej ho (Q2a aj).2.2)] at e2;rcases hset k onk with e | hk2
    ·exact absurd e hki
    ·rcases hset j onj with e | hj2
     ·exact absurd e hji
     ·exact hM.apart k j ok oj dk tk dj tj gk gj hk hj hk2 hj2 hkj ek ej ak aj e1 e2
  unfold wpOp;unfold cOp at hop;simp only [ho] at hop ⊢;cases hal:Q0J o with
  | none =>
   simp only [hal] at hop;split
   ·rename_i hwt;simp only [hwt,if_true] at hop;refine .inl (calm_wp hw (fun v w' hbw hK=>?_) hop);exact Q2s hC hbase hd hb hz hL f _ _ w' (hC _ _ hw hbw) (by rw [Q2G]; exact hm) (by simp [hls]) (hkeep w' hbw hal v) hK
   ·rename_i hwt;simp only [hwt] at hop;exact Q2s hC hbase hd hb hz hL f _ _ w hw (by rw [Q2G]; exact hm) (by simp [hls]) (hkeep w (Below.refl _ _) hal _) hop
  | some p =>
   obtain⟨d,t⟩:=p;simp only [hal] at hop;obtain⟨eop,eg,ed⟩:=Q2a hal;have hwt:Region.wanted o (yielded ops a.tmps)=true:=by simp [Region.wanted,eg]
   rw [if_pos hwt];refine .inl ?_;unfold Oper.wp;rw [hz i o d t hin ho hal a w];simp only [Oper.upon,ed];have hbw:Below w.heap.size w (w.alloc (.cells (zf t) t)):=(Below.refl _ _).alloc (Nat.le_refl _) _;have hdm:d<a.tmps.size:=by rw [hm]; exact Q9F hb hin ho hal
   have hat:(a.put (some d) (ptr0 w.heap.size)).tmps[d]?=some (ptr0 w.heap.size):=by
    show (a.tmps.setIfInBounds d _)[d]?=_;rw [Array.getElem?_setIfInBounds,if_pos rfl,if_pos hdm]
   have hold:∀ k ok dk tk,k<n->k≠i->ops[k]?=some ok->Q0J ok=some (dk,tk)->(a.put (some d) (ptr0 w.heap.size)).tmps[dk]?=a.tmps[dk]?:=fun k ok dk tk hk hki ek ak=>by
    have:=Q2c hd hk hin hki ek ho (Q2a ak).2.2;rw [ed] at this;exact Q1x this
   refine Q2s hC hbase hd hb hz hL f _ _ _ (hC _ _ hw hbw) (by rw [Q2G]; exact hm) (by simp [hls]) ⟨fun k ok dk tk hk hon ek ak=>?_,fun k j ok oj dk tk dj tj gk gj hk hj onk onj hkj ek ej ak aj e1 e2=>?_⟩ (hop _)
   ·by_cases hki:k=i
    ·subst hki;rw [ho] at ek;injection ek with ek
     subst ek;rw [hal] at ak;injection ak with ak
     obtain⟨rfl,rfl⟩:=Prod.mk.inj ak;exact⟨_,hat,hbase w hw,Blk.new w _ _⟩
    ·rcases hset k hon with e | h2
     ·exact absurd e hki
     ·obtain⟨g',h3,h4,h5⟩:=hM.fact k ok dk tk hk h2 ek ak;exact⟨g',by rw [hold k ok dk tk hk hki ek ak]; exact h3,h4,h5.alloc _⟩
   ·have case1:∀ j oj dj tj gj,j<n->j≠i->listed.getD j false=true->ops[j]?=some oj->Q0J oj=some (dj,tj)->(a.put (some d) (ptr0 w.heap.size)).tmps[dj]?=some (ptr0 gj)->gj<w.heap.size:=fun j oj dj tj gj hj hji onj ej aj e2=>by
     rw [hold j oj dj tj hj hji ej aj] at e2;obtain⟨g',h3,h4,h5⟩:=hM.fact j oj dj tj hj onj ej aj;rw [h3] at e2;injection e2 with e2
     injection e2 with e2
     injection e2 with e2
     injection e2 with e2
     subst e2;exact h5.lt
    have same:∀ k ok dk tk gk,k=i->ops[k]?=some ok->Q0J ok=some (dk,tk)->(a.put (some d) (ptr0 w.heap.size)).tmps[dk]?=some (ptr0 gk)->gk=w.heap.size:=fun k ok dk tk gk hki ek ak e1=>by
     subst hki;rw [ho] at ek;injection ek with ek
     subst ek;rw [hal] at ak;injection ak with ak
     obtain⟨rfl,rfl⟩:=Prod.mk.inj ak;rw [hat] at e1;injection e1 with e1
     injection e1 with e1
     injection e1 with e1
     injection e1 with e1
     exact e1.symm
    rcases hset k onk with hki | hk2
    ·have hji:j≠i:=fun e=>hkj (by rw [hki,e])
     rcases hset j onj with e | hj2
     ·exact absurd e hji
     ·have a1:=same k ok dk tk gk hki ek ak e1;have a2:=case1 j oj dj tj gj hj hji hj2 ej aj e2;omega
    ·have hki:k≠i:=by rintro rfl; rw [hunf] at hk2; cases hk2
     rcases hset j onj with hji | hj2
     ·have a1:=same j oj dj tj gj hji ej aj e2;have a2:=case1 k ok dk tk gk hk hki hk2 ek ak e1;omega
     ·have hji:j≠i:=by rintro rfl; rw [hunf] at hj2; cases hj2
      rw [hold k ok dk tk hk hki ek ak] at e1;rw [hold j oj dj tj hj hji ej aj] at e2;exact hM.apart k j ok oj dk tk dj tj gk gj hk hj hk2 hj2 hkj ek ej ak aj e1 e2
def Q8z (md:Region.Mode) (ops:Array Oper) (n m:Nat):Bool :=
 Region.noSelect ops && decide (n<ops.size) && Region.sinkB md ops n && Region.chainB md ops n && Q6K md ops (ops.size - n) n n 0 (Array.replicate ops.size false) && Q8i ops n && Q9X ops n m
def ClassB (w w':World):Prop:=∃ p:Regrown,w'=Sort.grow (redrawn w p.d) p.os
theorem Q3w {w w':World}:ClassB w w' <-> Below w.heap.size w w' :=
 ⟨fun⟨p,h⟩=>h▸below_regrown w p.d p.os,regrown_of_below⟩
theorem Q4y {id:Nat} {Q:Exit->Act->World->Prop} {a:Act} {w:World} {l:List Oper} (n m:Nat) (zf:TypeId->Array Value) (hm:P.follows .mixedOrders=true) (hB:Q8z .any l.toArray n m=true) (ha:a.tmps.size=m) (hz:QcJ P l.toArray n zf)
 (h:Q0i P l.toArray (fun w'=>∃ p:Regrown,w'=Sort.grow (redrawn w p.d) p.os) (fun a'=>∀ w',Below w.heap.size w w'->Made l.toArray n zf w w' (fun _=>True) a'->wpList P l.toArray Q (l.drop n) a' w') (l.take n) a):(Code.region id l.toArray true).wp P Q a w:=by
 simp only [Q8z,Bool.and_eq_true,decide_eq_true_eq] at hB;obtain⟨⟨⟨⟨⟨⟨hsel,hn⟩,hs⟩,hc⟩,hlex⟩,hd⟩,hb⟩:=hB;have hn':n<l.length:=by simpa using hn
 have htl:(l.take n).length=n:=by simp; omega
 have hdl:(l.drop n).length=l.toArray.size - n:=by simp
 have inv0:HeadInv .any l.toArray n (Array.replicate l.toArray.size false) :=
  ⟨by simp,fun j oj _ hl=>(by rw [getD_replicate_false] at hl; cases hl),fun t _ ht=>getD_in (by simpa using ht) (getD_replicate_false _ _)⟩
 have H:=Q7C (md:=.any) (C:=fun w'=>∃ p:Regrown,w'=Sort.grow (redrawn w p.d) p.os) (g:=l.toArray.size - n) hsel hs hc hn (l.take n) 0 _ a (fun j hj=>by
  have hj':j<n:=by rw [htl] at hj; exact hj
  simp [hj']) (by simpa using htl) inv0 (by rw [htl]; exact hlex) h
 refine wp_region_any hm ?_;have hCc:∀ w1 w2:World,(∃ p:Regrown,w1=Sort.grow (redrawn w p.d) p.os)->Below w1.heap.size w1 w2->∃ p:Regrown,w2=Sort.grow (redrawn w p.d) p.os:=fun w1 w2 h1 h2=>by
  have h3:=Q3w.1 h1;exact Q3w.2 (h3.trans (h2.mono h3.size))
 have:=Q2s (Q':=Q) (md:=.any) (n:=n) (g:=l.toArray.size - n) (m:=m) (zf:=zf) (base:=w) hCc (fun w1 h1=>(Q3w.1 h1).size) hd hb hz (fun listed a' w' hw' hm' hM hL=>by
  have hall:∀ i,i<n->listed.getD i false=true:=fun i hi=>endB_all hL.1 i hi
  have:=wpAny_of_seq (md:=.any) (Q':=Q) (l.drop n) n listed a' w' (fun j=>by simp [List.getElem?_drop]) (by rw [hdl]; exact Q87 hL.1) (hL.2 w' (Q3w.1 hw') ⟨fun i o d t hi _=>hM.fact i o d t hi (hall i hi),fun i j oi oj di ti dj tj gi gj hi hj _ _=>hM.apart i j oi oj di ti dj tj gi gj hi hj (hall i hi) (hall j hj)⟩);rw [hdl] at this;exact this) _ _ _ w.drew (Q3w.2 (Below.refl _ w).drew) ha (by simp) ⟨fun i o d t _ hon=>(by rw [getD_replicate_false] at hon; cases hon),fun i j oi oj di ti dj tj gi gj _ _ hon=>(by rw [getD_replicate_false] at hon; cases hon)⟩ H
 rw [htl,show n+(l.toArray.size - n)=l.toArray.size by omega] at this;exact this
end
def QaL (ops:Array Oper) (n:Nat):Bool :=
 (List.range n).all fun i=>match ops[i]? with
  | none=>true
  | some o=>(Q0J o).isNone
theorem QbT {P:Program} {ops:Array Oper} {n:Nat} {zf:TypeId->Array Value} (h:QaL ops n=true):QcJ P ops n zf:=fun i o d t hi ho ha=>by
 have h1:=List.all_eq_true.1 h i (List.mem_range.2 hi);simp only [ho,ha,Option.isNone_some,Bool.false_eq_true] at h1
theorem Q0y {P:Program} {id:Nat} {Q:Exit->Act->World->Prop} {a:Act} {w:World} {l:List Oper} (n m:Nat) (hm:P.follows .mixedOrders=true) (hB:Q8z .any l.toArray n m=true) (hno:QaL l.toArray n=true) (ha:a.tmps.size=m)
 (h:Q0i P l.toArray (fun w'=>∃ p:Regrown,w'=Sort.grow (redrawn w p.d) p.os) (fun a'=>∀ w',Below w.heap.size w w'->wpList P l.toArray Q (l.drop n) a' w') (l.take n) a):(Code.region id l.toArray true).wp P Q a w:=by
 refine Q4y n m (fun _=>#[]) hm hB ha (QbT hno) ?_;exact Q3H (fun a' h' w' hb _=>h' w' hb) h
theorem Q0V {P:Program} {ops:Array Oper} {rest:List Oper} {o:Oper} {a:Act} {w:World} {Q:Act->Prop} (hw:Region.wanted o (yielded ops a.tmps)=true) (ty:TypeId) (x:Operand) (ho:o.op=.load ty x)
 (g off n:Nat) (hx:a.eval x=.pointer (some ⟨g,off,none⟩)) (t:TypeId) (cs vs:Array Value) (d:TypeDesc) (hB:Blk w g t cs)
 (hu:P.underlying ty=some d) (hd:(match d with | .struct _ | .array _ _=>true | _=>false)=true) (hi:(P.info? ty).map (·.size)=some n)
 (hn:vs.size=n) (hv:∀ j,j<n->cs[off+j]?=vs[j]?)
 (h:Q0i P ops (fun w'=>∃ p:Regrown,w'=Sort.grow (redrawn w p.d) p.os) Q rest (a.put o.dst (.agg vs))):Q0i P ops (fun w'=>∃ p:Regrown,w'=Sort.grow (redrawn w p.d) p.os) Q (o :: rest) a:=by
 refine Q3K (by unfold Q0J; rw [ho]) fun K hK=>?_
 rw [if_pos hw];refine⟨.agg vs,fun w' hw'=>?_,hK _ h⟩;obtain⟨p,rfl⟩:=hw';have hB':=hB.below (below_regrown w p.d p.os) hB.lt;unfold Q5S;rw [Q0m ty x ho g off n hx t cs vs d hB' hu hd hi hn hv];exact⟨rfl,rfl⟩
theorem Q0Q {P:Program} {ops:Array Oper} {rest:List Oper} {o:Oper} {a:Act} {w:World} {Q:Act->Prop} (hw:Region.wanted o (yielded ops a.tmps)=true) (hna:Q0J o=none) (f:FuncId) (args:Array Value)
 (hrun:∀ W,(execOp a.eval o).run P W=.ok (.enter f args) W) (v:Value)
 (hc:∀ W,Below w.heap.size w W->Calls P f args W fun e w'=>e=.returned v/\Below W.heap.size W w')
 (h:Q0i P ops (fun w'=>∃ p:Regrown,w'=Sort.grow (redrawn w p.d) p.os) Q rest (a.put o.dst v)):Q0i P ops (fun w'=>∃ p:Regrown,w'=Sort.grow (redrawn w p.d) p.os) Q (o :: rest) a:=by
 refine Q3K hna fun K hK=>?_
 rw [if_pos hw];refine⟨v,fun w' hw'=>?_,hK _ h⟩;obtain⟨p,rfl⟩:=hw';unfold Q5S;rw [hrun];exact⟨rfl,hc _ (below_regrown w p.d p.os)⟩
theorem Q02 {P:Program} {ops:Array Oper} {rest:List Oper} {o:Oper} {a:Act} {C:World->Prop} {Q:Act->Prop} (hw:Region.wanted o (yielded ops a.tmps)=true) (hna:Q0J o=none) (v:Value)
 (hrun:∀ W,C W->(execOp a.eval o).run P W=.ok (.value v) W) (h:Q0i P ops C Q rest (a.put o.dst v)):Q0i P ops C Q (o :: rest) a:=by
 refine Q3K hna fun K hK=>?_
 rw [if_pos hw];refine⟨v,fun w' hw'=>?_,hK _ h⟩;unfold Q5S;rw [hrun _ hw'];exact⟨rfl,rfl⟩
theorem Q0j {P:Program} {ops:Array Oper} {rest:List Oper} {o:Oper} {a:Act} {C:World->Prop} {Q:Act->Prop} (hw:Region.wanted o (yielded ops a.tmps)=false) (hna:Q0J o=none)
 (h:Q0i P ops C Q rest (a.put o.dst undef)):Q0i P ops C Q (o :: rest) a:=by
 refine Q3K hna fun K hK=>?_
 rw [if_neg (by rw [hw]; exact Bool.false_ne_true)];exact hK _ h
theorem Q9C {P:Program} {o:Oper} {a:Act} {W:World} (t:TypeId) (x y:Operand) (u:TypeId) (ho:o.op=.binOp .neq t x y u) (xs ys:Array Value) (hx:a.eval x=.agg xs) (hy:a.eval y=.agg ys) (hg:P.eqGuardType P.depth t=false)
 (v:Value) (h:(binOp .neq t (.agg xs) (.agg ys)).run P W=.ok v W):(execOp a.eval o).run P W=.ok (.value v) W:=by
 unfold execOp;simp only [ho,hx,hy,eqGuard];simp [Sem.run_bind,hg,h]
theorem Q4c {P:Program} {ops:Array Oper} {C:World->Prop} {Q Q':Act->Prop} (h:∀ a,Q a->Q' a):∀ {l:List Oper} {a:Act},wpQuiet P ops C Q l a->wpQuiet P ops C Q' l a
 | [],a,hh=>h a hh
 | o :: rest,a,hh=>by
  unfold wpQuiet at hh ⊢;split
  ·rename_i hw;simp only [hw,if_true] at hh;exact Oper.quiet_mono (fun a' h'=>Q4c h h') hh
  ·rename_i hw;simp only [hw] at hh;exact Q4c h hh
theorem Q5v {P:Program} {id:Nat} {Q:Exit->Act->World->Prop} {a:Act} {w:World} {l:List Oper} (hm:P.follows .mixedOrders=true) (hB:Region.lexB .any l.toArray=true)
 (h:wpQuiet P l.toArray (fun w'=>∃ p:Regrown,w'=Sort.grow (redrawn w p.d) p.os) (fun a'=>∀ w',Below w.heap.size w w'->Q .normal a' w') l a):(Code.region id l.toArray true).wp P Q a w:=by
 refine wp_region_quiet_below hm hB ?_;refine Q4c (fun a' h' w' hw'=>h' w' ?_) h;obtain⟨p,rfl⟩:=hw';exact below_regrown w p.d p.os
theorem Q12 {P:Program} {ops:Array Oper} {rest:List Oper} {o:Oper} {a:Act} {C:World->Prop} {Q:Act->Prop} (hw:Region.wanted o (yielded ops a.tmps)=true) (v:Value)
 (hrun:∀ W,C W->(execOp a.eval o).run P W=.ok (.value v) W) (h:wpQuiet P ops C Q rest (a.put o.dst v)):wpQuiet P ops C Q (o :: rest) a:=by
 refine wpQuiet_step fun K hK=>?_
 rw [if_pos hw];refine⟨v,fun w' hw'=>?_,hK _ h⟩;unfold Oper.quietAt;rw [hrun _ hw'];exact⟨rfl,rfl⟩
theorem Q5r {P:Program} {ops:Array Oper} {rest:List Oper} {o:Oper} {a:Act} {w:World} {Q:Act->Prop} (hw:Region.wanted o (yielded ops a.tmps)=true) (ty:TypeId) (x:Operand) (ho:o.op=.load ty x)
 (g off n:Nat) (hx:a.eval x=.pointer (some ⟨g,off,none⟩)) (t:TypeId) (cs vs:Array Value) (d:TypeDesc) (hB:Blk w g t cs)
 (hu:P.underlying ty=some d) (hd:(match d with | .struct _ | .array _ _=>true | _=>false)=true) (hi:(P.info? ty).map (·.size)=some n)
 (hn:vs.size=n) (hv:∀ j,j<n->cs[off+j]?=vs[j]?)
 (h:wpQuiet P ops (fun w'=>∃ p:Regrown,w'=Sort.grow (redrawn w p.d) p.os) Q rest (a.put o.dst (.agg vs))):wpQuiet P ops (fun w'=>∃ p:Regrown,w'=Sort.grow (redrawn w p.d) p.os) Q (o :: rest) a:=by
 refine Q12 hw _ (fun W hW=>?_) h;obtain⟨p,rfl⟩:=hW;exact Q0m ty x ho g off n hx t cs vs d (hB.below (below_regrown w p.d p.os) hB.lt) hu hd hi hn hv
theorem Q3k {P:Program} {ops:Array Oper} {rest:List Oper} {o:Oper} {a:Act} {w:World} {Q:Act->Prop} (hw:Region.wanted o (yielded ops a.tmps)=true) (v:Value)
 (hrun:∀ W,Below w.heap.size w W->(execOp a.eval o).run P W=.ok (.value v) W)
 (h:wpQuiet P ops (fun w'=>∃ p:Regrown,w'=Sort.grow (redrawn w p.d) p.os) Q rest (a.put o.dst v)):wpQuiet P ops (fun w'=>∃ p:Regrown,w'=Sort.grow (redrawn w p.d) p.os) Q (o :: rest) a :=
 Q12 hw v (fun W hW=>hrun W (by obtain⟨p,rfl⟩:=hW; exact below_regrown w p.d p.os)) h
theorem Q0o {P:Program} {ops:Array Oper} {rest:List Oper} {o:Oper} {a:Act} {w:World} {Q:Act->Prop} (hw:Region.wanted o (yielded ops a.tmps)=true) (hna:Q0J o=none) (v:Value)
 (hrun:∀ W,Below w.heap.size w W->(execOp a.eval o).run P W=.ok (.value v) W)
 (h:Q0i P ops (fun w'=>∃ p:Regrown,w'=Sort.grow (redrawn w p.d) p.os) Q rest (a.put o.dst v)):Q0i P ops (fun w'=>∃ p:Regrown,w'=Sort.grow (redrawn w p.d) p.os) Q (o :: rest) a :=
 Q02 hw hna v (fun W hW=>hrun W (by obtain⟨p,rfl⟩:=hW; exact below_regrown w p.d p.os)) h
theorem Q0I {P:Program} {o:Oper} {a:Act} {W:World} (ty:TypeId) (x:Operand) (ho:o.op=.load ty x) (ad:Addr) (hx:a.eval x=.pointer (some ad)) (hagg:(isAgg ty).run P W=.ok false W) (v:Value) (hc:W.cell? ad=some v):(execOp a.eval o).run P W=.ok (.value v) W:=by
 unfold execOp;simp only [ho,hx,Instr.loadAt,Instr.sureAddr,Sem.run_bind,Sem.run_pure,Result.andThen_ok,loadVar,hagg];simp [go_sem,hc]
end
section
open Go.RowKit Go.Maps
structure Book where
 g:Nat
 b1:Nat
 b2:Nat
def Book.has (k:Book) (b:Nat):Prop:=b=k.g\/b=k.b1\/b=k.b2
def Q3p (k:Book) (asked:Int):Array Value:=#[.map (some k.b1),.map (some k.b2),.int .i64 asked]
structure Q0A (w:World) (k:Book) (l:List (List UInt8)) (asked:Nat):Prop where
 cells:Blk w k.g 117 (Q3p k asked)
 maps:∃ (D1 D2:DataW Unit) (n1 n2:Nat),w.ownsMap Tryz.prog 60 (plainElem Tryz.prog 9) k.b1 n1 D1/\w.ownsMap Tryz.prog 9 (plainElem Tryz.prog 4) k.b2 n2 D2/\Q38 l D1 D2
 len:l.length<=asked
 apart:k.g≠k.b1/\k.g≠k.b2/\k.b1≠k.b2
theorem Q4X {P:Program} {T:TypeId} {R:Value->Option (DataW Unit×List MemPlace)} {w:World} {b n:Nat} {D:DataW Unit} (h:w.ownsMap P T R b n D):w.ownsMap P T R b (Maps.size D) D:=by
 obtain⟨es,c,hb,F,hs,rfl⟩:=h;exact⟨es,c,hb,F,by simp [Maps.size,length_sorted],rfl⟩
structure Q0t (k:Book) (w w':World):Prop where
 os:w'.os=w.os
 tape:w'.tape=w.tape
 output:w'.output=w.output
 size:w.heap.size<=w'.heap.size
 block:∀ i,i<w.heap.size->¬ k.has i->w'.heap[i]?=w.heap[i]?
theorem Q0t.refl (k:Book) (w:World):Q0t k w w:=⟨rfl,rfl,rfl,Nat.le_refl _,fun _ _ _=>rfl⟩
theorem Q0t.trans {k:Book} {a b c:World} (h:Q0t k a b) (h':Q0t k b c):Q0t k a c :=
 ⟨h'.os.trans h.os,h'.tape.trans h.tape,h'.output.trans h.output,Nat.le_trans h.size h'.size,fun i hi hn=>(h'.block i (Nat.lt_of_lt_of_le hi h.size) hn).trans (h.block i hi hn)⟩
theorem Q0t.of_below {k:Book} {w w':World} (h:Below w.heap.size w w'):Q0t k w w':=⟨h.os,h.tape,h.output,h.size,fun i hi _=>h.block i hi⟩
theorem Q0t.of_grown {k:Book} {w w':World} {b:Nat} (h:w.grownBy w' (some b)) (hb:k.has b):Q0t k w w' :=
 ⟨h.os,h.tape,h.output,h.size,fun i hi hn=>h.block i hi (fun e=>hn (by injection e with e; exact e▸hb))⟩
theorem Q0A.below {w w':World} {k:Book} {l:List (List UInt8)} {n:Nat} (h:Q0A w k l n) (hb:Below w.heap.size w w'):Q0A w' k l n:=by
 obtain⟨D1,D2,n1,n2,h1,h2,h3⟩:=h.maps;have hg:=Q0O hb none;exact⟨h.cells.below' hb,⟨D1,D2,n1,n2,h1.kept hg (by simp),h2.kept hg (by simp),h3⟩,h.len,h.apart⟩
theorem Q0A.lt {w:World} {k:Book} {l:List (List UInt8)} {n:Nat} (h:Q0A w k l n):k.g<w.heap.size/\k.b1<w.heap.size/\k.b2<w.heap.size:=by
 obtain⟨D1,D2,n1,n2,h1,h2,h3⟩:=h.maps;exact⟨h.cells.lt,h1.lt,h2.lt⟩
theorem Q7N (w:World):Calls Tryz.prog 10 #[] w fun e w'=>∃ k:Book,e=.returned (.pointer (some ⟨k.g,0,none⟩))/\Q0A w' k [] 0/\(w.heap.size<=k.g/\w.heap.size<=k.b1/\w.heap.size<=k.b2)/\Below w.heap.size w w':=by
 have hmm:=@run_makeMap Tryz.prog;go_enter Tryz.func10,Tryz.ntmps10
 go_wp2
 go_ret
 refine⟨⟨w.heap.size+1+1,w.heap.size,w.heap.size+1⟩,rfl,⟨Blk.newAt (by simp),⟨.map [],.map [],0,0,?_,?_,Q38.start⟩,Nat.le_refl _,by simp; omega⟩,by simp; omega,?_⟩
 ·exact((World.ownsMap_made w _ _ _).alloc _).alloc _
 ·have:=(World.ownsMap_made (H:=Unit) (w.alloc (.map #[] 0)) Tryz.prog 9 (plainElem Tryz.prog 4)).alloc (.cells (Q3p ⟨w.heap.size+1+1,w.heap.size,w.heap.size+1⟩ 0) 117);rw [show (w.alloc (.map #[] 0)).heap.size=w.heap.size+1 by simp] at this;exact this
 ·exact(((Below.refl _ _).alloc (Nat.le_refl _) _).alloc (by simp) _).alloc (by simp; omega) _
theorem Q7o (k:Book) (l:List (List UInt8)) (n:Nat) (w:World) (h:Q0A w k l n) :
 Calls Tryz.prog 185 #[.pointer (some ⟨k.g,0,none⟩)] w fun e w'=>e=.returned (.bool false)/\w=w':=by
 have c0:w.cell? ⟨k.g,0,none⟩=some (.map (some k.b1)):=(h.cells.cell 0).trans rfl;have hmn:=run_eql_map_nil (P:=Tryz.prog) w 109 60 9 (some k.b1) Tryz.underlying109;clear h;go_enter Tryz.func185,Tryz.ntmps185
 go_wp2
 go_ret
 exact⟨rfl,rfl⟩
theorem Qbn (a:Addr) (s:Nat) (w:World) (hc:w.cell? a=some (.int .i64 (s:Int))) (hz:w.frozen? a=false) (hs:s+1<9223372036854775808) :
 Calls Tryz.prog 186 #[.pointer (some a),.int .i64 1] w fun e w'=>e=.returned (.int .i64 ((s+1:Nat):Int))/\w'=w.setCell a (.int .i64 ((s+1:Nat):Int)):=by
 have hadd:=run_call_add (P:=Tryz.prog) Tryz.func204 (by kernel_rfl) (by kernel_rfl) (by kernel_rfl) .i64 (by kernel_rfl) (y:=1) (s:=((s+1:Nat):Int)) hc hz (by simp [go_sem]; exact IntWalk.i64_in _ (by omega));go_enter Tryz.func186,Tryz.ntmps186
 go_wp2
 go_ret
 exact⟨rfl,rfl⟩
theorem look_dig {w:World} {b n:Nat} {l:List (List UInt8)} {D1 D2:DataW Unit} (h:w.ownsMap Tryz.prog 60 (plainElem Tryz.prog 9) b n D1) (hi:Q38 l D1 D2) (d:List UInt8) (hd:d.length=32) :
 (Instr.lookup 109 (.map (some b)) (.agg (bRow d)) true).run Tryz.prog w=.ok (.tuple #[.string ⟨((Q17 l d).getD []).toArray⟩,.bool (Q17 l d).isSome]) w:=by
 obtain⟨v,ps,hrun,hv⟩:=h.look_ok Q6c Tryz.underlying109 (Tryz.zeroValue9 w) (plainElem_string Tryz.underlying9 (s:=⟨#[]⟩) (by unfold maxLen; show (0:Nat)<=_; omega)) (Q5a d hd);rw [hi.has1 d hd] at hrun;obtain⟨s,rfl,hs,_⟩:=plainElem_string_inv Tryz.underlying9 hv;have he:D1.atKey (klit d) (.lit (.string []))=.lit (.string ((Q17 l d).getD [])):=by
  cases hf:Q17 l d with
  | some y=>exact hi.at1 d y _ hd hf
  | none=>exact atKey_of_not_has (by rw [hi.has1 d hd,hf]; rfl) _
 have hs1:D1.atKey (klit d) (.lit (.string []))=.lit (.string s.data.toList):=congrArg Prod.fst hs;rw [he] at hs1;have hs2:(Q17 l d).getD []=s.data.toList:=Lit.string.inj (DataW.lit.inj hs1);rw [hrun,hs2]
end
section
open Go.RowKit Go.Maps
theorem Q54 {W:World} {B n c:Nat} {A:Option Addr} {xs:List UInt8} (h:Q0d W B 1 A n (xs.map vb)):(convert 22 9 (.slice A n c)).run Tryz.prog W=.ok (.string ⟨xs.toArray⟩) W:=by
 have hn:xs.length=n:=by have:=h.1; simpa using this
 rcases Nat.eq_zero_or_pos n with h0 | h0
 ·subst h0;have hx:xs=[]:=List.eq_nil_of_length_eq_zero hn;subst hx;cases A with
  | none=>exact run_convert_bytes_nil W 22 5 Tryz.underlying22 Tryz.underlying5 0 c 9 Tryz.underlying9
  | some ad=>exact run_convert_bytes_back W 22 9 5 ad c [] Tryz.underlying22 Tryz.underlying5 Tryz.underlying9 (fun j hj=>by simp at hj)
 ·obtain⟨ad,rfl,_,hc⟩:=h.2 h0;rw [<- hn];exact run_convert_bytes_back W 22 9 5 ad c xs Tryz.underlying22 Tryz.underlying5 Tryz.underlying9 (fun j hj=>hc j _ (by rw [List.getElem?_map,List.getElem?_eq_getElem hj]; rfl))
theorem QaN:Array.replicate 32 (Value.int .u8 0)=#[.int .u8 0,.int .u8 0,.int .u8 0,.int .u8 0,.int .u8 0,.int .u8 0,.int .u8 0,.int .u8 0,.int .u8 0,.int .u8 0,.int .u8 0,.int .u8 0,.int .u8 0,.int .u8 0,.int .u8 0,.int .u8 0,.int .u8 0,.int .u8 0,.int .u8 0,.int .u8 0,.int .u8 0,.int .u8 0,.int .u8 0,.int .u8 0,.int .u8 0,.int .u8 0,.int .u8 0,.int .u8 0,.int .u8 0,.int .u8 0,.int .u8 0,.int .u8 0]:=by kernel_rfl
theorem Q0d.keepAt {w w':World} {B n:Nat} {A:Option Addr} {xs:List Value} (h:Q0d w B 1 A n xs) (hk:∀ a,0<n->A=some a->∀ p:Addr,p.block=a.block->w'.cell? p=w.cell? p):Q0d w' B 1 A n xs :=
 ⟨h.1,fun h0=>by obtain⟨ad,rfl,hB,hc⟩:=h.2 h0; exact⟨ad,rfl,hB,fun k u hu=>(hk ad h0 rfl (ad.add k) (by simp [Addr.add]; split <;> rfl)).trans (hc k u hu)⟩⟩
theorem Q0A.asked {w:World} {k:Book} {l:List (List UInt8)} {n:Nat} (h:Q0A w k l n):Q0A (w.setCell ⟨k.g,2,none⟩ (.int .i64 ((n+1:Nat):Int))) k l (n+1):=by
 obtain⟨D1,D2,n1,n2,h1,h2,h3⟩:=h.maps;exact⟨h.cells.set_ 2 _,⟨D1,D2,n1,n2,h1.setCell (a:=⟨k.g,2,none⟩) (Ne.symm h.apart.1) _,h2.setCell (a:=⟨k.g,2,none⟩) (Ne.symm h.apart.2.1) _,h3⟩,Nat.le_succ_of_le h.len,h.apart⟩
theorem Q0A.grown {w w':World} {k:Book} {l:List (List UInt8)} {n b:Nat} (h:Q0A w k l n) (hg:w.grownBy w' (some b)) (hb:b≠k.g/\b≠k.b1/\b≠k.b2):Q0A w' k l n:=by
 obtain⟨D1,D2,n1,n2,h1,h2,h3⟩:=h.maps;exact⟨h.cells.beside hg (Ne.symm hb.1),⟨D1,D2,n1,n2,h1.kept hg (fun e=>hb.2.1 (by injection e with e; exact e.symm)),h2.kept hg (fun e=>hb.2.2 (by injection e with e; exact e.symm)),h3⟩,h.len,h.apart⟩
theorem Q0t.grown {k:Book} {w w' w'':World} {b:Nat} (h:Q0t k w w') (hg:w'.grownBy w'' (some b)) (hb:w.heap.size<=b):Q0t k w w'' :=
 ⟨hg.os.trans h.os,hg.tape.trans h.tape,hg.output.trans h.output,Nat.le_trans h.size hg.size,fun i hi hn=>(hg.block i (Nat.lt_of_lt_of_le hi h.size) (fun e=>by injection e with e; omega)).trans (h.block i hi hn)⟩
theorem Q9h (k:Book) (l:List (List UInt8)) (asked:Nat) (A:Option Addr) (n c:Nat) (xs:List UInt8) (w:World) (B:Nat) (hbk:Q0A w k l asked) (h:Q0d w B 1 A n (xs.map vb)) (hB:B<=w.heap.size)
 (hk:∀ a,0<n->A=some a->a.block≠k.g) (hc:n<=c) (hcm:c<=maxLen) (hn:n<=65536) (has:asked<=1000000) :
 Calls Tryz.prog 170 #[.pointer (some ⟨k.g,0,none⟩),.slice A n c] w fun e w'=>e=.returned (.tuple #[.agg (bRow (Q14 xs)),.int .i64 0])/\Q0A w' k (Q10 l xs) (asked+1)/\Q0t k w w':=by
 have HK:=Lib.hid hk;clear hk;have hxn:xs.length=n:=by have:=h.1; simpa using this
 have HXN:=Lib.hid hxn;have HKB:=Lib.hid hbk;have HRD:=Lib.hid h;unfold maxLen at hcm;clear hbk h hxn;go_enter Tryz.func170,Tryz.ntmps170
 go_wp2_with fail
 have hW:=Blk.new w 60 (Array.replicate 32 (.int .u8 0));have hX1:Below w.heap.size w (w.alloc (.cells (Array.replicate 32 (.int .u8 0)) 60)):=(Below.refl _ _).alloc (Nat.le_refl _) _;have hS1:(w.alloc (.cells (Array.replicate 32 (.int .u8 0)) 60)).heap.size=w.heap.size+1:=by simp
 have HKB1:=Lib.hid (HKB.out.below hX1);have HRD1:=Lib.hid (HRD.out.below (hX1.mono hB));rw [QaN] at hW hX1 hS1 HKB1 HRD1;obtain⟨gd,hgd⟩:∃ g,g=w.heap.size:=⟨_,rfl⟩;rw [<- hgd] at hW hS1 ⊢;generalize w.alloc _=W1 at hW hX1 hS1 HKB1 HRD1 ⊢;have hkl:=HKB.out.lt;rw [<- hgd] at hkl;have hgB:B<=gd:=by rw [hgd]; exact hB
 have HGD:=Lib.hid hgd;clear hgd;have HD1:=Lib.hid hW;have HX1:=Lib.hid hX1;clear hW hX1;have c2:W1.cell? ⟨k.g,2,none⟩=some (.int .i64 (asked:Int)):=(HKB1.out.cells.cell 2).trans rfl;have f2:=HKB1.out.cells.frozen 2;refine(Q7o k l asked W1 HKB1.out).mono ?_;rintro _ _ ⟨rfl,rfl⟩;go_wp2_with fail
 refine(Qbn ⟨k.g,2,none⟩ asked W1 c2 f2 (by omega)).mono ?_;rintro _ W2 ⟨rfl,hW2⟩;have HT2:=Lib.hid (Q0c.setCell W1 ⟨k.g,2,none⟩ (.int .i64 ((asked+1:Nat):Int)));have HKB2:=Lib.hid HKB1.out.asked;rw [<- hW2] at HT2 HKB2;have HO2:=Lib.hid ((Q0t.of_below HX1.out).trans (Q0t.of_grown (k:=k) HT2.out.grown (.inl rfl)));have hs2:=HT2.out.size;clear c2 f2 hW2;go_wp2_with fail
 have hrd2:Q0d W2 B 1 A n (xs.map vb):=HRD1.out.keepAt (fun a h0 ha p hp=>HT2.out.cell (by have:=HK.out a h0 ha; show p.block≠k.g; omega));refine(Qcv A n c xs W2 B hrd2 (by omega) hc (by unfold maxLen; omega)).mono ?_;rintro _ W3 ⟨rfl,hb3⟩;have HKB3:=Lib.hid (HKB2.out.below hb3);have HRD3:=Lib.hid (hrd2.below (hb3.mono (by omega)));have HD3:=Lib.hid ((HT2.out.blk HD1.out (by show gd≠k.g; omega)).below hb3 (by omega));have HO3:=Lib.hid (HO2.out.trans (Q0t.of_below hb3));have hs3:=hb3.size;clear hb3 hrd2;have hdl:=Q2A xs;have HDL:=Lib.hid hdl;have hds:(bRow (Q14 xs)).size=32:=by rw [Q1j,hdl]
 have HDS:=Lib.hid hds;have HDO:=Lib.hid (Q0K (Q14 xs));clear hdl hds;generalize hd:bRow (Q14 xs)=D at HDS HDO ⊢;have HDD:=Lib.hid hd;clear hd;go_upto_region 7 with(refine Q01 rfl 60 (.tmp 6) (.tmp 23) rfl W3.heap.size 0 D rfl rfl 60 _ (Blk.newAt rfl) (by rw [HDS.out]; rfl) (by rw [HDS.out]; simp) HDO.out ?_; intro W4 hT4 hB4; rw [Q08 _ _ (by rw [HDS.out]; simp)] at hB4)
 have hX4:Below W3.heap.size W3 W4:=hT4.below ((Below.refl _ _).alloc (Nat.le_refl _) _) (Nat.le_refl _);have HKB4:=Lib.hid (HKB3.out.below hX4);have HRD4:=Lib.hid (HRD3.out.below (hX4.mono (by omega)));have HD4:=Lib.hid (HD3.out.below' hX4);have HO4:=Lib.hid (HO3.out.trans (Q0t.of_below hX4));have hs4:=hX4.size;obtain⟨ge,hge⟩:∃ g,g=W3.heap.size:=⟨_,rfl⟩;rw [<- hge] at hB4 ⊢;have hgel:gd<ge:=by omega
 have hkl2:=HKB3.out.lt;rw [<- hge] at hkl2;have HB4:=Lib.hid hB4;clear hT4 hX4 hB4 hge;obtain⟨D1,D2,n1,n2,h1,h2,h3⟩:=HKB4.out.maps;have hlk:=fun(W:World) (hb:Below W4.heap.size W4 W)=>look_dig (w:=W) (h1.kept (Q0O hb none) (by simp)) h3 (Q14 xs) HDL.out
 rw [HDD.out] at hlk;have hm1:=fun(W:World) (hb:Below W4.heap.size W4 W)=>((HKB4.out.cells.below' hb).cell 0).trans (rfl:(Q3p k ((asked+1:Nat):Int))[0]?=some (.map (some k.b1)))
 have hm2:=fun(W:World) (hb:Below W4.heap.size W4 W)=>((HKB4.out.cells.below' hb).cell 1).trans (rfl:(Q3p k ((asked+1:Nat):Int))[1]?=some (.map (some k.b2)))
 have hcv:=fun(W:World) (hb:Below W4.heap.size W4 W)=>Q54 (c:=c) (HRD4.out.below (hb.mono (show B<=W4.heap.size by omega)))
 have HLK:=Lib.hid hlk;have HM1:=Lib.hid hm1;have HM2:=Lib.hid hm2;have HCV:=Lib.hid hcv;have H1:=Lib.hid h1;have H2:=Lib.hid h2;have H3:=Lib.hid h3;clear hlk hm1 hm2 hcv h1 h2 h3;obtain⟨fo,hfo⟩:∃ fo,fo=Q17 l (Q14 xs):=⟨_,rfl⟩;rw [<- hfo] at HLK;have HFO:=Lib.hid hfo;clear hfo;refine Q5v (by kernel_rfl) (by kernel_rfl) ?_;refine Q12 rfl (.pointer (some ⟨k.g,0,none⟩)) (fun W _=>rfl) ?_;refine Q12 rfl (.pointer (some ⟨k.g,0,none⟩)) (fun W _=>by go_simp) ?_;try simp only [Act.put,sA1,sA2,sA3]
 refine Q12 rfl (.pointer (some ⟨k.g,0,none⟩)) (fun W _=>by go_simp) ?_;try simp only [Act.put,sA1,sA2,sA3]
 refine Q3k rfl (.map (some k.b1)) (fun W hb=>Q0I 109 (.tmp 27) rfl ⟨k.g,0,none⟩ rfl (by kernel_rfl) _ (HM1.out W hb)) ?_;try simp only [Act.put,sA1,sA2,sA3]
 refine Q5r rfl 60 (.tmp 6) rfl ge 0 32 rfl 60 _ D _ HB4.out Tryz.underlying60 rfl rfl HDS.out (fun _ _=>by rw [Nat.zero_add]) ?_;try simp only [Act.put,sA1,sA2,sA3]
 refine Q3k rfl (.tuple #[.string ⟨(fo.getD []).toArray⟩,.bool fo.isSome]) (fun W hb=>by have hc:=HLK.out W hb; go_simp) ?_;try simp only [Act.put,sA1,sA2,sA3]
 refine Q12 rfl (.tuple #[.string ⟨(fo.getD []).toArray⟩,.bool fo.isSome]) (fun W _=>rfl) ?_;try simp only [Act.put,sA1,sA2,sA3]
 refine Q12 rfl (.string ⟨(fo.getD []).toArray⟩) (fun W _=>by go_simp) ?_;try simp only [Act.put,sA1,sA2,sA3]
 refine Q12 rfl (.bool fo.isSome) (fun W _=>by go_simp) ?_;try simp only [Act.put,sA1,sA2,sA3]
 refine Q12 rfl (.string ⟨(fo.getD []).toArray⟩) (fun W _=>rfl) ?_;try simp only [Act.put,sA1,sA2,sA3]
 refine Q12 rfl (.bool fo.isSome) (fun W _=>rfl) ?_;try simp only [Act.put,sA1,sA2,sA3]
 refine wpQuiet_nil ?_;intro W5 hb5;have HKB5:=Lib.hid (HKB4.out.below hb5);have HRD5:=Lib.hid (HRD4.out.below (hb5.mono (by omega)));have HD5:=Lib.hid (HD4.out.below' hb5);have HB5:=Lib.hid (HB4.out.below' hb5);have HO5:=Lib.hid (HO4.out.trans (Q0t.of_below hb5));have hs5:=hb5.size;have H15:=Lib.hid (Q4X (H1.out.kept (Q0O hb5 none) (by simp)));have H25:=Lib.hid (Q4X (H2.out.kept (Q0O hb5 none) (by simp)));have hsz:=H3.out.size;have hlen:=HKB.out.len;have hap:=HKB.out.apart;clear hb5
 go_upto_if 34 with(fail)
 go_cut [4,5,6] (fun s4 s5 s6 wx=>s4=.pointer (some ⟨gd,0,none⟩)/\s5=.int .i64 0/\s6=.pointer (some ⟨ge,0,none⟩)/\Q0A wx k (Q10 l xs) (asked+1)/\Q0t k w wx/\Blk wx gd 60 #[.int .u8 0,.int .u8 0,.int .u8 0,.int .u8 0,.int .u8 0,.int .u8 0,.int .u8 0,.int .u8 0,.int .u8 0,.int .u8 0,.int .u8 0,.int .u8 0,.int .u8 0,.int .u8 0,.int .u8 0,.int .u8 0,.int .u8 0,.int .u8 0,.int .u8 0,.int .u8 0,.int .u8 0,.int .u8 0,.int .u8 0,.int .u8 0,.int .u8 0,.int .u8 0,.int .u8 0,.int .u8 0,.int .u8 0,.int .u8 0,.int .u8 0,.int .u8 0]/\Blk wx ge 60 D)
 case first =>
  cases fo with
  | none =>
   go_upto_region 9 with fail
   have hm5:=fun(W:World) (hb:Below W5.heap.size W5 W)=>((HKB5.out.cells.below' hb).cell 0).trans (rfl:(Q3p k ((asked+1:Nat):Int))[0]?=some (.map (some k.b1)))
   have hc5:=fun(W:World) (hb:Below W5.heap.size W5 W)=>Q54 (c:=c) (HRD5.out.below (hb.mono (show B<=W5.heap.size by omega)))
   refine Q0y 7 53 (by kernel_rfl) (by kernel_rfl) (by kernel_rfl) (by simp) ?_;simp only [List.take_succ_cons,List.take_zero,List.drop_succ_cons,List.drop_zero];refine Q02 rfl rfl (.pointer (some ⟨k.g,0,none⟩)) (fun W _=>rfl) ?_;try simp only [Act.put,sA1,sA2,sA3]
   refine Q02 rfl rfl (.pointer (some ⟨k.g,0,none⟩)) (fun W _=>by go_simp) ?_;try simp only [Act.put,sA1,sA2,sA3]
   refine Q02 rfl rfl (.pointer (some ⟨k.g,0,none⟩)) (fun W _=>by go_simp) ?_;try simp only [Act.put,sA1,sA2,sA3]
   refine Q0o rfl rfl (.map (some k.b1)) (fun W hb=>Q0I 109 (.tmp 37) rfl ⟨k.g,0,none⟩ rfl (by kernel_rfl) _ (hm5 W hb)) ?_;try simp only [Act.put,sA1,sA2,sA3]
   refine Q0V rfl 60 (.tmp 6) rfl ge 0 32 rfl 60 _ D _ HB5.out Tryz.underlying60 rfl rfl HDS.out (fun _ _=>by rw [Nat.zero_add]) ?_;try simp only [Act.put,sA1,sA2,sA3]
   refine Q02 rfl rfl (.slice A n c) (fun W _=>rfl) ?_;try simp only [Act.put,sA1,sA2,sA3]
   refine Q0o rfl rfl (.string ⟨xs.toArray⟩) (fun W hb=>by have hx:=hc5 W hb; go_simp) ?_;try simp only [Act.put,sA1,sA2,sA3]
   refine Q0S ?_;intro W6 hb6;have HKB6:=Lib.hid (HKB5.out.below hb6);have HD6:=Lib.hid (HD5.out.below' hb6);have HB6:=Lib.hid (HB5.out.below' hb6);have HO6:=Lib.hid (HO5.out.trans (Q0t.of_below hb6));have H16:=Lib.hid (H15.out.kept (Q0O hb6 none) (by simp));have H26:=Lib.hid (H25.out.kept (Q0O hb6 none) (by simp));have hs6:=hb6.size;clear hb6 hm5 hc5;have hkey:=Q5a (Q14 xs) HDL.out;rw [HDD.out] at hkey;have hval:plainElem (H:=Unit) Tryz.prog 9 (.string ⟨xs.toArray⟩)=some (.lit (.string xs),[]):=plainElem_string Tryz.underlying9 (s:=⟨xs.toArray⟩) (by show xs.toArray.size<=maxLen; have:=HXN.out; unfold maxLen; simp; omega);have HKEY:=Lib.hid hkey;have HVAL:=Lib.hid hval;clear hkey hval;go_wp2_with (at_mapUpdate; go_must (refine wpList_mapUpdate_own _ rfl (.tmp 38) (.tmp 39) (.tmp 41) 109 rfl 60 9 Q6c Tryz.underlying109 _ k.b1 (Maps.size D1) D1 rfl H16.out (by unfold maxLen; omega) (.agg D) (.string ⟨xs.toArray⟩) _ rfl rfl HKEY.out (.lit (.string xs)) [] HVAL.out ?_))
   intro W7 hown7 hg7;go_wp2_with fail
   go_meet
   have hap:=HKB6.out.apart;have hfr:=H3.out.fresh (H1.out.tidy Q6c) xs HFO.out.symm;have hal:=Q4v l xs;exact⟨rfl,rfl,rfl,⟨HKB6.out.cells.beside hg7 hap.1,⟨_,D2,_,_,hown7,H26.out.kept hg7 (fun e=>hap.2.2 (by injection e with e; exact e.symm)),hfr⟩,by omega,hap⟩,
    HO6.out.trans (Q0t.of_grown hg7 (.inr (.inl rfl))),HD6.out.beside hg7 (by omega),HB6.out.beside hg7 (by omega)⟩
  | some y =>
   simp only [Option.getD_some,Option.isSome_some];by_cases hyx:y=xs
   ·have hne:(y == xs)=true:=by rw [hyx]; simp
    have hcx:=Q54 (c:=c) HRD5.out;have HYX:=Lib.hid hyx;clear hyx;go_wp2_with fail
    go_meet
    have hfo:=HFO.out;rw [HYX.out] at hfo;exact⟨rfl,rfl,rfl,⟨HKB5.out.cells,⟨D1,D2,_,_,H15.out,H25.out,H3.out.same xs hfo.symm⟩,by have:=Q4v l xs; omega,hap⟩,HO5.out,HD5.out,HB5.out⟩
   ·have hne:(y == xs)=false:=by simpa using hyx
    have hcx:=Q54 (c:=c) HRD5.out;have HYX:=Lib.hid hyx;clear hyx;go_upto_region 11 with fail
    have hm5:=fun(W:World) (hb:Below W5.heap.size W5 W)=>((HKB5.out.cells.below' hb).cell 1).trans (rfl:(Q3p k ((asked+1:Nat):Int))[1]?=some (.map (some k.b2)))
    have hc5:=fun(W:World) (hb:Below W5.heap.size W5 W)=>Q54 (c:=c) (HRD5.out.below (hb.mono (show B<=W5.heap.size by omega)))
    refine Q0y 6 53 (by kernel_rfl) (by kernel_rfl) (by kernel_rfl) (by simp) ?_;simp only [List.take_succ_cons,List.take_zero,List.drop_succ_cons,List.drop_zero];refine Q02 rfl rfl (.pointer (some ⟨k.g,0,none⟩)) (fun W _=>rfl) ?_;try simp only [Act.put,sA1,sA2,sA3]
    refine Q02 rfl rfl (.pointer (some ⟨k.g,0,none⟩)) (fun W _=>by go_simp) ?_;try simp only [Act.put,sA1,sA2,sA3]
    refine Q02 rfl rfl (.pointer (some ⟨k.g,1,none⟩)) (fun W _=>by go_simp) ?_;try simp only [Act.put,sA1,sA2,sA3]
    refine Q0o rfl rfl (.map (some k.b2)) (fun W hb=>Q0I 110 (.tmp 48) rfl ⟨k.g,1,none⟩ rfl (by kernel_rfl) _ (hm5 W hb)) ?_;try simp only [Act.put,sA1,sA2,sA3]
    refine Q02 rfl rfl (.slice A n c) (fun W _=>rfl) ?_;try simp only [Act.put,sA1,sA2,sA3]
    refine Q0o rfl rfl (.string ⟨xs.toArray⟩) (fun W hb=>by have hx:=hc5 W hb; go_simp) ?_;try simp only [Act.put,sA1,sA2,sA3]
    refine Q0S ?_;intro W6 hb6;have HKB6:=Lib.hid (HKB5.out.below hb6);have HD6:=Lib.hid (HD5.out.below' hb6);have HB6:=Lib.hid (HB5.out.below' hb6);have HO6:=Lib.hid (HO5.out.trans (Q0t.of_below hb6));have H16:=Lib.hid (H15.out.kept (Q0O hb6 none) (by simp));have H26:=Lib.hid (H25.out.kept (Q0O hb6 none) (by simp));have hs6:=hb6.size;clear hb6 hm5 hc5;have hkey:=QcE xs (by have:=HXN.out; unfold maxLen; omega);have hval:plainElem (H:=Unit) Tryz.prog 4 (.bool true)=some (.lit (.bool true),[]):=plainElem_bool Tryz.underlying4 true;have HKEY:=Lib.hid hkey;have HVAL:=Lib.hid hval;clear hkey hval;go_wp2_with (at_mapUpdate; go_must (refine wpList_mapUpdate_own _ rfl (.tmp 49) (.tmp 51) (.const (.bool true)) 110 rfl 9 4 Qb9 Tryz.underlying110 _ k.b2 (Maps.size D2) D2 rfl H26.out (by unfold maxLen; omega) (.string ⟨xs.toArray⟩) (.bool true) _ rfl rfl HKEY.out (.lit (.bool true)) [] HVAL.out ?_))
    intro W7 hown7 hg7;go_wp2_with fail
    go_meet
    have hap:=HKB6.out.apart;have hfr:=H3.out.other (H2.out.tidy Qb9) xs y HFO.out.symm HYX.out;have hal:=Q4v l xs;exact⟨rfl,rfl,rfl,⟨HKB6.out.cells.beside hg7 hap.2.1,⟨D1,_,_,_,H16.out.kept hg7 (fun e=>hap.2.2 (by injection e with e)),hown7,hfr⟩,by omega,hap⟩,
     HO6.out.trans (Q0t.of_grown hg7 (.inr (.inr rfl))),HD6.out.beside hg7 (by omega),HB6.out.beside hg7 (by omega)⟩
 case rest =>
  obtain⟨rfl,rfl,rfl,hbk,hob,hd,he⟩:=hcut;have HBK:=Lib.hid hbk;have HOB:=Lib.hid hob;clear hbk hob;go_upto_region 12 with fail
  have HDW:=Lib.hid hd;have HEW:=Lib.hid he;have hgw:=hd.lt;clear hd he;go_wp2_with (first
   | (refine Q03 rfl 60 (.tmp 6) rfl ge 0 32 rfl 60 _ D _ HEW.out Tryz.underlying60 rfl rfl HDS.out (fun _ _=>by rw [Nat.zero_add]) ?_)
   | (refine Q01 rfl 60 (.tmp 4) (.tmp 52) rfl gd 0 D rfl rfl 60 _ HDW.out (by rw [HDS.out]; rfl) (by rw [HDS.out]; simp) HDO.out ?_; intro W8 hT8 hB8; rw [Q08 _ _ (by rw [HDS.out]; rfl)] at hB8))
  refine bodyPost_ret (Q0b rfl _ _ gd 32 60 _ _ rfl hB8 Tryz.underlying60 rfl rfl HDS.out) rfl ⟨by rw [HDD.out]; rfl,?_,?_⟩
  ·exact HBK.out.grown hT8.grown (by omega)
  ·exact HOB.out.grown hT8.grown (by have:=HGD.out; omega)
def inkZ:Array Value:=bRow (List.replicate 32 0)
end
section
open Go.RowKit Go.Maps
def Q8A (l:List (List UInt8)) (x:List UInt8):List (List UInt8):=if x.length<=65536 then Q10 l x else l
def Qci (asked:Nat) (x:List UInt8):Nat:=if x.length<=65536 then asked+1 else asked
structure OfAns (D:Array Value) (code:Int) (x:List UInt8):Prop where
 size:D.size=32
 one:D.all (·.oneCell')=true
 small:x.length<=65536->code=0/\D=bRow (Q14 x)
 big:65536<x.length->code=5/\D=inkZ
theorem noteN_le (asked:Nat) (x:List UInt8):Qci asked x<=asked+1:=by unfold Qci; split <;> omega
end
section
open Go.RowKit Go.WideShapes Go.ChangeShapes
def Light {H:Type} (P:Program) (t:TypeId) (d:DataW H):Prop:=∀ n∈d.weights P t,n<=reachBytes
theorem light_of {H:Type} {P:Program} {ts:List TypeId} {ds:List (DataW H)} (h:(DataW.weightsEach P ts ds).all (·<=reachBytes)=true) (j:Nat) {t:TypeId} {d:DataW H} (ht:ts[j]?=some t) (hd:ds[j]?=some d):Light P t d:=fun n hn=>by
 have:=List.all_eq_true.1 h n (DataW.weights_mem_each ht hd n hn);simpa using this
theorem Q3i {H:Type} {P:Program} {e:TypeId}:∀ {l:List (DataW H)} {d:DataW H},d∈l->∀ n∈d.weights P e,n∈DataW.weightsAll P e l
 | d0 :: l,d,hd,n,hn=>by
  simp only [DataW.weightsAll,List.mem_append];rcases List.mem_cons.1 hd with rfl | hd
  ·exact .inl hn
  ·exact .inr (Q3i hd n hn)
 | [],_,hd,_,_=>by simp at hd
theorem Q3G {H:Type} {P:Program} {t e:TypeId} {l s:List (DataW H)} (ht:P.underlying t=some (.slice e)) (h:Light P t (.slice l s)):(l.length+s.length)*P.bytesOf e<=reachBytes/\∀ d,d∈l\/d∈s->Light P e d:=by
 unfold Light at h;rw [DataW.weights] at h;simp only [ht] at h;refine⟨h _ (List.mem_cons_self ..),fun d hd n hn=>h n ?_⟩;refine List.mem_cons_of_mem _ (List.mem_append.2 ?_);rcases hd with hd | hd
 ·exact .inl (Q3i hd n hn)
 ·exact .inr (Q3i hd n hn)
section
variable {H:Type} {enc:TypeId×Value->H} {P:Program} {w:World} {held:Bool}
theorem u8_of_wf {z:Int} (h:(Lit.int .u8 z).wf=true):Value.int .u8 z=vb (UInt8.ofNat z.toNat):=by
 have hb:=bounds_u8 h;unfold vb bi;congr 1
 rw [UInt8.toNat_ofNat'];omega
theorem Qbl {t e:TypeId} (ht:P.underlying t=some (.slice e)) (he:P.underlying e=some (.int .u8)) (hc:P.cellsOf e=1) (hby:P.bytesOf e=1) {fuel:Nat} {cs:List Value} {x:DataW H×List MemPlace}
 (h:DataW.trod enc P w 0 (fun _=>true) held fuel t cs=some x) (hw:Light P t x.1) :
 ∃ (A:Option Addr) (n c:Nat) (xs:List UInt8),cs=[.slice A n c]/\Q0d w w.heap.size 1 A n (xs.map vb)/\n<=c/\c<=reachBytes:=by
 rcases open_ints ht he hc h with⟨rfl,rfl⟩ | ⟨a,len,cap,zs,rfl,_,hl,hm,hz,rfl,hcell,hwf⟩
 ·exact⟨none,0,0,[],rfl,Q0d.none_,Nat.le_refl _,Nat.zero_le _⟩
 ·have hz':zs.length=cap:=by simpa using hz
  have hlight:=(Q3G ht hw).1;rw [hby] at hlight;simp only [lits,List.length_map,List.length_take,List.length_drop] at hlight;refine⟨some a,len,cap,(zs.take len).map (fun z=>UInt8.ofNat z.toNat),rfl,⟨by simp; omega,fun hn=>⟨a,rfl,?_,?_⟩⟩,hl,by omega⟩
  ·have:=hcell 0 (by omega);have hb:=World.block_lt_of_cell? _ _ this
   rwa [Q0e] at hb
  ·intro j u hu;obtain⟨hj,rfl⟩:=Q3B hu;have hjl:j<zs.length:=by simp at hj; omega
   rw [hcell j hjl];have hz:zs.getD j 0=zs[j]:=by rw [List.getD_eq_getElem?_getD,List.getElem?_eq_getElem hjl]; rfl
   rw [hz,u8_of_wf (hwf zs[j] (List.getElem_mem hjl)),List.getElem_map,List.getElem_take];rfl
def vn (z:Int):Value:=.int .i64 z
theorem Q9i {t e:TypeId} (ht:P.underlying t=some (.slice e)) (he:P.underlying e=some (.int .i64)) (hc:P.cellsOf e=1) (hby:P.bytesOf e=8) {fuel:Nat} {cs:List Value} {x:DataW H×List MemPlace}
 (h:DataW.trod enc P w 0 (fun _=>true) held fuel t cs=some x) (hw:Light P t x.1) :
 ∃ (A:Option Addr) (n c:Nat) (xs:List Int),cs=[.slice A n c]/\Q0d w w.heap.size 1 A n (xs.map vn)/\n<=c/\8*c<=reachBytes/\∀ z∈xs,-9223372036854775808<=z/\z<=9223372036854775807:=by
 rcases open_ints ht he hc h with⟨rfl,rfl⟩ | ⟨a,len,cap,zs,rfl,_,hl,hm,hz,rfl,hcell,hwf⟩
 ·exact⟨none,0,0,[],rfl,Q0d.none_,Nat.le_refl _,Nat.zero_le _,by simp⟩
 ·have hz':zs.length=cap:=by simpa using hz
  have hlight:=(Q3G ht hw).1;rw [hby] at hlight;simp only [lits,List.length_map,List.length_take,List.length_drop] at hlight;refine⟨some a,len,cap,zs.take len,rfl,⟨by simp; omega,fun hn=>⟨a,rfl,?_,?_⟩⟩,hl,by omega,fun z hz'=>bounds_i64 (hwf z (List.mem_of_mem_take hz'))⟩
  ·have:=hcell 0 (by omega);have hb:=World.block_lt_of_cell? _ _ this
   rwa [Q0e] at hb
  ·intro j u hu;rw [List.getElem?_map,List.getElem?_take] at hu;split at hu
   ·rename_i hj;have hjl:j<zs.length:=by omega
    rw [List.getElem?_eq_getElem hjl] at hu;rw [hcell j hjl,List.getD_eq_getElem?_getD,List.getElem?_eq_getElem hjl];exact hu
   ·cases hu
end
end
section
open Go.RowKit Go.Maps
theorem Q07 (W:World) (o:Obj):Below W.heap.size W (W.alloc o):=(Below.refl _ _).alloc (Nat.le_refl _) _
end
end Go.Proofs.YtcpngeiahgoacaaGreat
