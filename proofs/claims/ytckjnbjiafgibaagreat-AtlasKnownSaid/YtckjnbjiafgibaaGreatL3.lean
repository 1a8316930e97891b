/- Parts of the proof, in one text. -/
import Derived.Test.YtckjnbjiafgibaaGreatL2
import Derived.Laws.IdiomStrings
import Derived.Laws.BytesArg
import Derived.Deep.DeepCutAuto
import Derived.Test.YtckjnbjiafgibaaGreatL1
import Derived.ProofKit
import Derived.OpenShut
import Derived.ChangeOld
import Derived.ChangeSlices
import Derived.Deep.Slices
import Derived.SizedLaws
import Derived.Test.YtckjnbjiafgibaaGreatRows
import Derived.Lib.SlBytesConst
import Derived.Lib.SliceRun
namespace Go.Proofs.YtckjnbjiafgibaaGreat
set_option linter.unusedVariables false
set_option linter.unusedSimpArgs false
set_option maxRecDepth 100000
set_option maxHeartbeats 16000000
open _root_.Array renaming replicate->zU
open _root_.Bool renaming false_eq_true->zW,and_eq_true->zZ
open _root_.Go renaming Addr->zA,World->zB,Value->zC,TypeId->zE,Program->zG,Oper->zI,Act->zJ
open _root_.Go.Act renaming put->zV
open _root_.Go.Proofs.Tryz renaming prog->zO
open _root_.Go.Region renaming wanted->zK,Mode->zX,ready->zY
open _root_.Go.RowKit renaming Below->zD
open _root_.Go.RowKit.Below renaming refl->zR
open _root_.List renaming eq_nil_of_length_eq_zero->zH,range->zN,length_append->zQ,length_cons->zT,take_succ_eq_append_getElem->za
open _root_.Nat renaming lt_or_ge->zF,lt_of_lt_of_le->zL,le_refl->zP,zero_add->zS
open _root_.UInt8 renaming ofNat->zM
section
open Go.RowKit
def ptr0 (g:Nat):zC:=.pointer (some ⟨g,0,none⟩)
def Q6Z (P:zG) (w:zB) (v:zC):Result Next->Prop
 | .ok (.value u) w'=>w'=w/\u=v
 | .ok .skip w'=>w'=w/\v=undef
 | .ok (.enter f args) w'=>w'=w/\Calls P f args w (fun e w''=>e=.returned v/\zD w.heap.size w w'')
 | _=>False
def Q4A (P:zG) (o:zI) (a:zJ) (w:zB) (v:zC):Prop:=Q6Z P w v ((execOp a.eval o).run P w)
def Q4J (P:zG) (o:zI) (a:zJ) (C:zB->Prop) (next:zJ->Prop):Prop:=∃ v,(∀ w,C w->Q4A P o a w v)/\next (a.put o.dst v)
def Q0p (o:zI):Option (Tmp×zE) :=
 match o.op,o.guard,o.dst with
 | .alloc t,none,some d=>some (d,t)
 | _,_,_=>none
theorem Q1s {o:zI} {d:Tmp} {t:zE} (h:Q0p o=some (d,t)):o.op=.alloc t/\o.guard=none/\o.dst=some d:=by
 unfold Q0p at h;split at h
 ·rename_i h1 h2 h3;simp only [Option.some.injEq,Prod.mk.injEq] at h;obtain⟨rfl,rfl⟩:=h;exact⟨h1,h2,h3⟩
 cases h
section
variable {P:zG} {ops:Array zI} {md:zX} {C:zB->Prop}
def cOp (P:zG) (ops:Array zI) (C:zB->Prop) (i:Nat) (K:zJ->Prop) (a:zJ):Prop :=
 match ops[i]? with
 | none=>K a
 | some o =>
  match Q0p o with
  | some (d,_)=>∀ g:Nat,K (a.put (some d) (ptr0 g))
  | none=>if zK o (yielded ops a.tmps) then Q4J P o a C K else K (a.put o.dst undef)
def Q0c (P:zG) (ops:Array zI) (C:zB->Prop) (Q:zJ->Prop):List zI->zJ->Prop
 | [],a=>Q a
 | o :: rest,a =>
  match Q0p o with
  | some (d,_)=>∀ g:Nat,Q0c P ops C Q rest (a.put (some d) (ptr0 g))
  | none=>if zK o (yielded ops a.tmps) then Q4J P o a C (Q0c P ops C Q rest) else Q0c P ops C Q rest (a.put o.dst undef)
theorem Q1K {Q:zJ->Prop} {a:zJ} (h:Q a):Q0c P ops C Q [] a:=h
theorem Q31 {Q:zJ->Prop} {a:zJ} {o:zI} {rest:List zI} (ha:Q0p o=none)
 (h:∀ K:zJ->Prop,(∀ a,Q0c P ops C Q rest a->K a)->if zK o (yielded ops a.tmps) then Q4J P o a C K else K (a.put o.dst undef)):Q0c P ops C Q (o :: rest) a:=by
 unfold Q0c;rw [ha];exact h _ (fun _ h=>h)
theorem Q87 {o:zI} {a:zJ} {K K':zJ->Prop} (h:∀ a,K a->K' a) (hh:Q4J P o a C K):Q4J P o a C K' :=
 let ⟨v,h1,h2⟩:=hh
 ⟨v,h1,h _ h2⟩
theorem Q2U {Q Q':zJ->Prop} (h:∀ a,Q a->Q' a):∀ {l:List zI} {a:zJ},Q0c P ops C Q l a->Q0c P ops C Q' l a
 | [],a,hh=>h a hh
 | o :: rest,a,hh=>by
  unfold Q0c at hh ⊢;split
  ·rename_i d t hd;simp only [hd] at hh;exact fun g=>Q2U h (hh g)
  rename_i hd;simp only [hd] at hh;split
  ·rename_i hw;simp only [hw,if_true] at hh;exact Q87 (fun a' h'=>Q2U h h') hh
  rename_i hw;simp only [hw] at hh;exact Q2U h hh
theorem Q8y {o:zI} {a:zJ} {K K':zJ->Prop} (h:∀ a,K a->K' a) (hh:Q4J P o a C K):Q4J P o a C K' :=
 let ⟨v,h1,h2⟩:=hh
 ⟨v,h1,h _ h2⟩
theorem cOp_mono {i:Nat} {a:zJ} {K K':zJ->Prop} (h:∀ a,K a->K' a) (hh:cOp P ops C i K a):cOp P ops C i K' a:=by
 unfold cOp at *;split
 ·exact h _ (by simpa [*] using hh)
 rename_i o ho;simp only [ho] at hh;split
 ·rename_i d t hd;simp only [hd] at hh;exact fun g=>h _ (hh g)
 rename_i hd;simp only [hd] at hh;split
 ·rename_i hw; simp only [hw,if_true] at hh; exact Q8y h hh
 rename_i hw; simp only [hw] at hh; exact h _ hh
def Q1W (P:zG) (ops:Array zI) (C:zB->Prop) (o:zI) (v:zC) (a:zJ):Prop :=(zK o (yielded ops a.tmps)=true/\∀ w,C w->Q4A P o a w v)\/(zK o (yielded ops a.tmps)=false/\v=undef)
theorem Q1W.cOp {i:Nat} {o:zI} {v:zC} {a:zJ} (hi:ops[i]?=some o) (hal:Q0p o=none) (hy:Q1W P ops C o v a) {K:zJ->Prop} (h:K (a.put o.dst v)):cOp P ops C i K a:=by
 unfold Go.Proofs.YtckjnbjiafgibaaGreat.cOp;simp only [hi,hal];rcases hy with⟨hw,hv⟩ | ⟨hw,rfl⟩
 ·simp only [hw,if_true]; exact⟨v,hv,h⟩
 simp only [hw,zW,if_false]; exact h
theorem Q1W.of_same {o:zI} {v:zC} {a a':zJ} (hy:Q1W P ops C o v a) (he:execOp a'.eval o=execOp a.eval o)
 (hw:zK o (yielded ops a'.tmps)=zK o (yielded ops a.tmps)):Q1W P ops C o v a':=by
 unfold Q1W Q4A at *;rw [he,hw];exact hy
theorem cOp_put {j:Nat} {oi oj:zI} {v:zC} (hj:ops[j]?=some oj) (hap:oi.apart ops oj=true)
 (hsi:∀ cs b,oi.op≠.select cs b) (hsj:∀ cs b,oj.op≠.select cs b) {K:zJ->Prop} {a:zJ}
 (hy:Q1W P ops C oi v a) (h:cOp P ops C j K (a.put oi.dst v)) :
 cOp P ops C j (fun a'=>Q1W P ops C oi v a'/\K (a'.put oi.dst v)) a:=by
 obtain⟨h1,h2,h3⟩:=Oper.apart_spec hap;have keep:∀ (a:zJ),Q1W P ops C oi v a->∀ u,Q1W P ops C oi v (a.put oj.dst u):=fun a hy u =>hy.of_same (execOp_put oi hsi a oj.dst u h3) (wanted_put oi a oj.dst u h3)
 unfold cOp at *;simp only [hj] at *;cases hal:Q0p oj with
 | some p =>obtain⟨d,t⟩:=p;obtain⟨_,_,hd⟩:=Q1s hal;simp only [hal] at h ⊢;intro g;have hk:=keep a hy (ptr0 g);rw [hd] at hk;refine⟨hk,?_⟩;have:=h g;rw [<- hd] at this ⊢;rw [<- Act.put_comm a v (ptr0 g) h2]; exact this
 | none =>
  simp only [hal] at h ⊢;rw [wanted_put oj a oi.dst v h1] at h;split
  ·rename_i hw;simp only [hw,if_true] at h;obtain⟨u,hu,hn⟩:=h;refine⟨u,fun w hw'=>?_,keep a hy u,by rw [<- Act.put_comm a v u h2]; exact hn⟩;have:=hu w hw';unfold Q4A at *
   rwa [execOp_put oj hsj a oi.dst v h1] at this
  rename_i hw;simp only [hw] at h;exact⟨keep a hy _,by rw [<- Act.put_comm a v undef h2]; exact h⟩
def Q4z (P:zG) (md:zX) (ops:Array zI) (C:zB->Prop) (n:Nat) (L:Array Bool->zJ->Prop):Nat->Array Bool->zJ->Prop
 | 0,listed,a=>L listed a
 | f+1,listed,a =>zY md ops listed≠[]/\∀ i∈zY md ops listed,i<n/\cOp P ops C i (Q4z P md ops C n L f (listed.setIfInBounds i true)) a
theorem Q7Y {n i:Nat} {oi:zI} {v:zC} {L:Array Bool->zJ->Prop} (hi:ops[i]?=some oi) (hal:Q0p oi=none) (hsel:∀ (j:Nat) (o:zI) cs b,ops[j]?=some o->o.op≠.select cs b)
 (hs:Region.sinkB md ops n=true) (hc:Region.chainB md ops n=true) (hn:n<ops.size) (hin:i<n)
 (hdone:∀ listed a,L listed a->∀ j∈zY md ops listed,n<=j) :
 ∀ (f:Nat) (listed:Array Bool) (a:zJ),HeadInv md ops n listed ->
  (∀ j oj,ops[j]?=some oj->j≠i->listed.getD j true=false->(∀ e∈oj.after,Region.binds md e=true->e.on≠i)->oi.apart ops oj=true) ->
  i∈zY md ops listed->Q1W P ops C oi v a ->
  Q4z P md ops C n L f (listed.setIfInBounds i true) (a.put oi.dst v)->Q4z P md ops C n L (f+1) listed a:=by
 intro f
 induction f with
 | zero =>
  intro listed a inv _ hr hy H;have hun:=(mem_ready.1 hr).1;refine⟨fun h=>(by rw [h] at hr; cases hr),fun j hj=>?_⟩;have hjn:j<n:=by
   rcases zF j n with h | h
   ·exact h
   exact absurd hj (tail_waits hs hc hn inv _ i rfl hin hun j h)
  refine⟨hjn,?_⟩;by_cases hji:j=i
  ·subst hji; exact hy.cOp hi hal H
  have:=hdone _ _ H j (ready_mono hj hji);omega
 | succ f ih =>
  intro listed a inv hfree hr hy H;have hun:=(mem_ready.1 hr).1;refine⟨fun h=>(by rw [h] at hr; cases hr),fun j hj=>?_⟩;have hjn:j<n:=by
   rcases zF j n with h | h
   ·exact h
   exact absurd hj (tail_waits hs hc hn inv _ i rfl hin hun j h)
  refine⟨hjn,?_⟩;by_cases hji:j=i
  ·subst hji; exact hy.cOp hi hal H
  have h1:=(H.2 j (ready_mono hj hji)).2;obtain⟨hjun,oj,hoj,hall⟩:=mem_ready.1 hj;have hnot:∀ e∈oj.after,Region.binds md e=true->e.on≠i:=fun e he hb heq=>by have h1:=hall e he hb;rw [heq,getD_both hun] at h1;cases h1
  have h2:=cOp_put hoj (hfree j oj hoj hji hjun hnot) (fun cs b=>hsel i oi cs b hi) (fun cs b=>hsel j oj cs b hoj) hy h1;have hfree':∀ k ok,ops[k]?=some ok->k≠i->(listed.setIfInBounds j true).getD k true=false ->
   (∀ e∈ok.after,Region.binds md e=true->e.on≠i)->oi.apart ops ok=true:=fun k ok hk hki hun hno=>by
   refine hfree k ok hk hki ?_ hno;by_cases hjk:j=k
   ·subst hjk; exact hjun
   rw [getD_set_ne true hjk] at hun; exact hun
  refine cOp_mono (fun a' h3=>ih (listed.setIfInBounds j true) a' (inv.set hj hjn) hfree' (ready_mono hr (Ne.symm hji)) h3.1 ?_) h2;rw [Array.setIfInBounds_comm _ _ hji];exact h3.2
theorem Q46 {n i:Nat} {oi:zI} {d:Tmp} {t:zE} {L:Array Bool->zJ->Prop} (hi:ops[i]?=some oi) (hal:Q0p oi=some (d,t))
 (hs:Region.sinkB md ops n=true) (hc:Region.chainB md ops n=true) (hn:n<ops.size) (hin:i<n)
 (hdone:∀ listed a,L listed a->∀ j∈zY md ops listed,n<=j) :
 ∀ (f:Nat) (listed:Array Bool) (a:zJ),HeadInv md ops n listed ->
  (∀ j oj,ops[j]?=some oj->j<n->j≠i->listed.getD j true=false->∃ d' t',Q0p oj=some (d',t')/\d'≠d) ->
  i∈zY md ops listed ->
  (∀ g,Q4z P md ops C n L f (listed.setIfInBounds i true) (a.put (some d) (ptr0 g)))->Q4z P md ops C n L (f+1) listed a:=by
 intro f
 induction f with
 | zero =>
  intro listed a inv _ hr H;have hun:=(mem_ready.1 hr).1;refine⟨fun h=>(by rw [h] at hr; cases hr),fun j hj=>?_⟩;have hjn:j<n:=by
   rcases zF j n with h | h
   ·exact h
   exact absurd hj (tail_waits hs hc hn inv _ i rfl hin hun j h)
  refine⟨hjn,?_⟩;by_cases hji:j=i
  ·subst hji; unfold cOp; simp only [hi,hal]; exact H
  have:=hdone _ _ (H 0) j (ready_mono hj hji);omega
 | succ f ih =>
  intro listed a inv hrest hr H;have hun:=(mem_ready.1 hr).1;refine⟨fun h=>(by rw [h] at hr; cases hr),fun j hj=>?_⟩;have hjn:j<n:=by
   rcases zF j n with h | h
   ·exact h
   exact absurd hj (tail_waits hs hc hn inv _ i rfl hin hun j h)
  refine⟨hjn,?_⟩;by_cases hji:j=i
  ·subst hji; unfold cOp; simp only [hi,hal]; exact H
  obtain⟨hjun,oj,hoj,hall⟩:=mem_ready.1 hj;obtain⟨d',t',hal',hne⟩:=hrest j oj hoj hjn hji hjun;unfold cOp;simp only [hoj,hal'];intro g';refine ih (listed.setIfInBounds j true) _ (inv.set hj hjn) (fun k ok hk hkn hki hu=>hrest k ok hk hkn hki ?_) (ready_mono hr (Ne.symm hji)) (fun g=>?_)
  ·by_cases hjk:j=k
   ·subst hjk; exact hjun
   rw [getD_set_ne true hjk] at hu; exact hu
  have h1:=((H g).2 j (ready_mono hj hji)).2;unfold cOp at h1;simp only [hoj,hal'] at h1;have h2:=h1 g';rw [Array.setIfInBounds_comm _ _ (Ne.symm hji),Act.put_comm a (ptr0 g) (ptr0 g') (fun e he=>by injection he with he; subst he; intro h; injection h with h; exact hne h)] at h2;exact h2
def endB (md:zX) (ops:Array zI) (g k:Nat) (listed:Array Bool):Bool:=Region.seqB md ops g k listed && (zN k).all fun i=>listed.getD i false
theorem Q7e {g k:Nat} {listed:Array Bool} (h:endB md ops g k listed=true):Region.seqB md ops g k listed=true:=by unfold endB at h;rw [zZ] at h;exact h.1
theorem endB_all {g k:Nat} {listed:Array Bool} (h:endB md ops g k listed=true) (i:Nat) (hi:i<k):listed.getD i false=true:=by unfold endB at h;rw [zZ] at h;exact List.all_eq_true.1 h.2 i (List.mem_range.2 hi)
def Q5w (md:zX) (ops:Array zI) (g n:Nat):Nat->Nat->Array Bool->Bool
 | 0,k,listed=>endB md ops g k listed
 | f+1,k,listed=>(zY md ops listed).contains k && (match ops[k]? with
  | none=>false
  | some o=>match Q0p o with
   | none=>Region.free md ops listed k
   | some (d,_)=>(zN n).all fun j=>j == k || listed.getD j true || (match ops[j]? with
    | none=>true
    | some oj=>match Q0p oj with
     | none=>false
     | some (d',_)=>d' != d)) && Q5w md ops g n f (k+1) (listed.setIfInBounds k true)
theorem Q6p {n g:Nat} {Lq:zJ->Prop} (hsel:Region.noSelect ops=true) (hs:Region.sinkB md ops n=true) (hc:Region.chainB md ops n=true) (hn:n<ops.size) :
 ∀ (l:List zI) (k:Nat) (listed:Array Bool) (a:zJ),(∀ j,j<l.length->l[j]?=ops[k+j]?)->k+l.length=n->HeadInv md ops n listed ->
 Q5w md ops g n l.length k listed=true->Q0c P ops C Lq l a ->
 Q4z P md ops C n (fun listed' a'=>endB md ops g n listed'=true/\Lq a') l.length listed a
 | [],k,listed,a,_,hk,_,hB,h=>by
  have:k=n:=by simpa using hk
  subst this;exact⟨by simpa [Q5w] using hB,h⟩
 | o :: l,k,listed,a,hl,hk,inv,hB,h=>by
  have h0:ops[k]?=some o:=by simpa using (hl 0 (by simp)).symm
  simp only [zT,Q5w,h0,zZ] at hB;obtain⟨⟨hr,hf⟩,hB'⟩:=hB;have hkn:k<n:=by simp only [zT] at hk; omega
  have hr':k∈zY md ops listed:=by simpa using hr
  have hnext:∀ a',Q0c P ops C Lq l a'->Q4z P md ops C n (fun listed' a'=>endB md ops g n listed'=true/\Lq a') l.length (listed.setIfInBounds k true) a':=fun a' h' =>Q6p hsel hs hc hn l (k+1) _ a' (fun j hj=>by have:=hl (j+1) (by simp; omega); simpa [Nat.add_assoc,Nat.add_comm 1 j] using this) (by simp only [zT] at hk; omega) (inv.set hr' hkn) hB' h'
  unfold Q0c at h;cases hal:Q0p o with
  | none =>
   simp only [hal] at h hf;have hy:∃ v,Q1W P ops C o v a/\Q0c P ops C Lq l (a.put o.dst v):=by
    by_cases hw:zK o (yielded ops a.tmps)=true
    ·simp only [hw,if_true] at h;obtain⟨v,h1,h2⟩:=h;exact⟨v,.inl ⟨hw,h1⟩,h2⟩
    simp only [hw] at h;exact⟨undef,.inr ⟨by simpa using hw,rfl⟩,h⟩
   obtain⟨v,hy,hK⟩:=hy;exact Q7Y h0 hal (Region.noSelect_spec hsel) hs hc hn hkn (fun listed' a' hL=>seqB_ready (Q7e hL.1)) l.length listed a inv (Region.free_spec h0 hf) hr' hy (hnext _ hK)
  | some p =>
   obtain⟨d,t⟩:=p;simp only [hal] at h hf;refine Q46 h0 hal hs hc hn hkn (fun listed' a' hL=>seqB_ready (Q7e hL.1)) l.length listed a inv (fun j oj hj hjn hjk hu=>?_) hr' (fun g'=>hnext _ (h g'));have h1:=List.all_eq_true.1 hf j (List.mem_range.2 hjn);simp only [hj,hu,Bool.or_eq_true,beq_iff_eq,hjk,false_or,zW] at h1;cases hal':Q0p oj with
   | none=>simp only [hal'] at h1; cases h1
   | some q =>obtain⟨d',t'⟩:=q;simp only [hal',bne_iff_ne] at h1;exact⟨d',t',rfl,h1⟩
structure Made (ops:Array zI) (n:Nat) (zf:zE->Array zC) (base w:zB) (on:Nat->Prop) (a:zJ):Prop where
 fact:∀ i o d t,i<n->on i->ops[i]?=some o->Q0p o=some (d,t)->∃ g,a.tmps[d]?=some (ptr0 g)/\base.heap.size<=g/\Blk w g t (zf t)
 apart:∀ i j oi oj di ti dj tj gi gj,i<n->j<n->on i->on j->i≠j->ops[i]?=some oi->ops[j]?=some oj->Q0p oi=some (di,ti)->Q0p oj=some (dj,tj) ->a.tmps[di]?=some (ptr0 gi)->a.tmps[dj]?=some (ptr0 gj)->gi≠gj
theorem Q1u {a:zJ} {dst:Option Tmp} {v:zC} {d:Tmp} (h:dst≠some d):(a.put dst v).tmps[d]?=a.tmps[d]?:=by
 cases dst with
 | none=>rfl
 | some e =>show (a.tmps.setIfInBounds e v)[d]?=_;rw [Array.getElem?_setIfInBounds,if_neg (fun he=>h (by rw [he]))]
theorem Q32 {a:zJ} {dst:Option Tmp} {v:zC}:(a.put dst v).tmps.size=a.tmps.size:=by
 cases dst with
 | none=>rfl
 | some e=>show (a.tmps.setIfInBounds e v).size=_; simp
def Q8s (ops:Array zI) (n:Nat):Bool :=
 (zN n).all fun i=>(zN n).all fun j=>i == j || (match ops[i]?,ops[j]? with
  | some oi,some oj=>oi.dst.isNone || oi.dst != oj.dst
  | _,_=>true)
theorem Q2a {n:Nat} (h:Q8s ops n=true) {i j:Nat} {oi oj:zI} {d:Tmp} (hi:i<n) (hj:j<n) (hij:i≠j) (ei:ops[i]?=some oi) (ej:ops[j]?=some oj) (hd:oi.dst=some d):oj.dst≠some d:=by have h1:=List.all_eq_true.1 (List.all_eq_true.1 h i (List.mem_range.2 hi)) j (List.mem_range.2 hj);simp only [ei,ej,hd,Bool.or_eq_true,beq_iff_eq,hij,Option.isNone_some,zW,false_or,bne_iff_ne] at h1;exact fun e=>h1 e.symm
def Q8Y (ops:Array zI) (n m:Nat):Bool :=
 (zN n).all fun i=>match ops[i]? with
  | none=>true
  | some o=>match Q0p o with
   | none=>true
   | some (d,_)=>decide (d<m)
theorem Q85 {n m:Nat} (h:Q8Y ops n m=true) {i:Nat} {o:zI} {d:Tmp} {t:zE} (hi:i<n) (ei:ops[i]?=some o) (ha:Q0p o=some (d,t)):d<m:=by have h1:=List.all_eq_true.1 h i (List.mem_range.2 hi);simpa only [ei,ha,decide_eq_true_eq] using h1
def QaB (P:zG) (ops:Array zI) (n:Nat) (zf:zE->Array zC):Prop :=∀ i o d t,i<n->ops[i]?=some o->Q0p o=some (d,t)->∀ (a:zJ) (w:zB),(execOp a.eval o).run P w=.ok (.value (ptr0 w.heap.size)) (w.alloc (.cells (zf t) t))
theorem calm_wp {o:zI} {a:zJ} {K:zJ->Prop} {K':zJ->zB->Prop} {Q':Exit->zJ->zB->Prop} {w:zB} (hw:C w) (h:∀ v w',zD w.heap.size w w'->K (a.put o.dst v)->K' (a.put o.dst v) w') (hh:Q4J P o a C K):o.wp P a w K' Q':=by
 obtain⟨v,h1,h2⟩:=hh;have h3:=h1 w hw;unfold Q4A at h3;unfold Oper.wp;generalize (execOp a.eval o).run P w=r at *;cases r with
 | ok n w' =>
  cases n <;> simp only [Q6Z] at h3 <;> simp only [Oper.upon]
  case value u =>obtain⟨e1,e2⟩:=h3;rw [e1,e2];exact h _ _ (zR _ _) h2
  case skip =>obtain⟨e1,e2⟩:=h3;rw [e1,<- e2];exact h _ _ (zR _ _) h2
  case enter f args =>obtain⟨e1,hc⟩:=h3;rw [e1];exact hc.mono fun e w'' ⟨he,hw''⟩=>by subst he; exact h _ _ hw'' h2
 | halt x w'=>simp only [Q6Z] at h3
theorem Q1P {n g m:Nat} {zf:zE->Array zC} {base:zB} {L:Array Bool->zJ->Prop} {Q':Exit->zJ->zB->Prop} (hC:∀ w w',C w->zD w.heap.size w w'->C w') (hbase:∀ w,C w->base.heap.size<=w.heap.size)
 (hd:Q8s ops n=true) (hb:Q8Y ops n m=true) (hz:QaB P ops n zf)
 (hL:∀ listed a w,C w->a.tmps.size=m->Made ops n zf base w (fun i=>listed.getD i false=true) a->L listed a->wpAny P md ops Q' g listed a w) :
 ∀ (f:Nat) (listed:Array Bool) (a:zJ) (w:zB),C w->a.tmps.size=m->listed.size=ops.size->Made ops n zf base w (fun i=>listed.getD i false=true) a->Q4z P md ops C n L f listed a->wpAny P md ops Q' (f+g) listed a w
 | 0,listed,a,w,hw,hm,hls,hM,h=>by rw [zS]; exact hL _ _ _ hw hm hM h
 | f+1,listed,a,w,hw,hm,hls,hM,h=>by
  rw [show f+1+g=(f+g)+1 by omega];refine⟨fun h0=>absurd h0 h.1,fun i hi=>?_⟩;obtain⟨hin,hop⟩:=h.2 i hi;obtain⟨hun,o,ho,_⟩:=mem_ready.1 hi;have hilt:i<listed.size:=by rw [hls]; exact(Array.getElem?_eq_some_iff.1 ho).1
  have hset:∀ k,(listed.setIfInBounds i true).getD k false=true->k=i\/listed.getD k false=true:=fun k hk=>by
   by_cases e:i=k
   ·exact .inl e.symm
   rw [getD_set_ne false e] at hk; exact .inr hk
  have hunf:=getD_both hun;have hkeep:∀ w',zD w.heap.size w w'->Q0p o=none->∀ v,Made ops n zf base w' (fun k=>(listed.setIfInBounds i true).getD k false=true) (a.put o.dst v):=fun w' hbw hal v=>by
   refine⟨fun k ok d t hk hon ek ak=>?_,fun k j ok oj dk tk dj tj gk gj hk hj onk onj hkj ek ej ak aj e1 e2=>?_⟩
   ·have hki:k≠i:=by rintro rfl; rw [ho] at ek; injection ek with ek; subst ek; rw [hal] at ak; cases ak
    rcases hset k hon with e | h2
    ·exact absurd e hki
    obtain⟨g',h3,h4,h5⟩:=hM.fact k ok d t hk h2 ek ak;exact⟨g',by rw [Q1u (Q2a hd hk hin hki ek ho (Q1s ak).2.2)]; exact h3,h4,h5.below hbw h5.lt⟩
   have hki:k≠i:=by rintro rfl; rw [ho] at ek; injection ek with ek; subst ek; rw [hal] at ak; cases ak
   have hji:j≠i:=by rintro rfl; rw [ho] at ej; injection ej with ej; subst ej; rw [hal] at aj; cases aj
   rw [Q1u (Q2a hd hk hin hki ek ho (Q1s ak).2.2)] at e1;rw [Q1u (Q2a hd hj hin hji ej ho (Q1s aj).2.2)] at e2;rcases hset k onk with e | hk2
   ·exact absurd e hki
   rcases hset j onj with e | hj2
   ·exact absurd e hji
   exact hM.apart k j ok oj dk tk dj tj gk gj hk hj hk2 hj2 hkj ek ej ak aj e1 e2
  unfold wpOp;unfold cOp at hop;simp only [ho] at hop ⊢;cases hal:Q0p o with
  | none =>
   simp only [hal] at hop;split
   ·rename_i hwt;simp only [hwt,if_true] at hop;refine .inl (calm_wp hw (fun v w' hbw hK=>?_) hop);exact Q1P hC hbase hd hb hz hL f _ _ w' (hC _ _ hw hbw) (by rw [Q32]; exact hm) (by simp [hls]) (hkeep w' hbw hal v) hK
   rename_i hwt;simp only [hwt] at hop;exact Q1P hC hbase hd hb hz hL f _ _ w hw (by rw [Q32]; exact hm) (by simp [hls]) (hkeep w (zR _ _) hal _) hop
  | some p =>
   obtain⟨d,t⟩:=p;simp only [hal] at hop;obtain⟨eop,eg,ed⟩:=Q1s hal;have hwt:zK o (yielded ops a.tmps)=true:=by simp [zK,eg]
   rw [if_pos hwt];refine .inl ?_;unfold Oper.wp;rw [hz i o d t hin ho hal a w];simp only [Oper.upon,ed];have hbw:zD w.heap.size w (w.alloc (.cells (zf t) t)):=(zR _ _).alloc (zP _) _;have hdm:d<a.tmps.size:=by rw [hm]; exact Q85 hb hin ho hal
   have hat:(a.put (some d) (ptr0 w.heap.size)).tmps[d]?=some (ptr0 w.heap.size):=by show (a.tmps.setIfInBounds d _)[d]?=_;rw [Array.getElem?_setIfInBounds,if_pos rfl,if_pos hdm]
   have hold:∀ k ok dk tk,k<n->k≠i->ops[k]?=some ok->Q0p ok=some (dk,tk)->(a.put (some d) (ptr0 w.heap.size)).tmps[dk]?=a.tmps[dk]?:=fun k ok dk tk hk hki ek ak=>by have:=Q2a hd hk hin hki ek ho (Q1s ak).2.2;rw [ed] at this;exact Q1u this
   refine Q1P hC hbase hd hb hz hL f _ _ _ (hC _ _ hw hbw) (by rw [Q32]; exact hm) (by simp [hls]) ⟨fun k ok dk tk hk hon ek ak=>?_,fun k j ok oj dk tk dj tj gk gj hk hj onk onj hkj ek ej ak aj e1 e2=>?_⟩ (hop _)
   ·by_cases hki:k=i
    ·subst hki;rw [ho] at ek;injection ek with ek
     subst ek;rw [hal] at ak;injection ak with ak
     obtain⟨rfl,rfl⟩:=Prod.mk.inj ak;exact⟨_,hat,hbase w hw,Blk.new w _ _⟩
    rcases hset k hon with e | h2
    ·exact absurd e hki
    obtain⟨g',h3,h4,h5⟩:=hM.fact k ok dk tk hk h2 ek ak;exact⟨g',by rw [hold k ok dk tk hk hki ek ak]; exact h3,h4,h5.alloc _⟩
   have case1:∀ j oj dj tj gj,j<n->j≠i->listed.getD j false=true->ops[j]?=some oj->Q0p oj=some (dj,tj)->(a.put (some d) (ptr0 w.heap.size)).tmps[dj]?=some (ptr0 gj)->gj<w.heap.size:=fun j oj dj tj gj hj hji onj ej aj e2=>by
    rw [hold j oj dj tj hj hji ej aj] at e2;obtain⟨g',h3,h4,h5⟩:=hM.fact j oj dj tj hj onj ej aj;rw [h3] at e2;injection e2 with e2
    injection e2 with e2
    injection e2 with e2
    injection e2 with e2
    subst e2;exact h5.lt
   have same:∀ k ok dk tk gk,k=i->ops[k]?=some ok->Q0p ok=some (dk,tk)->(a.put (some d) (ptr0 w.heap.size)).tmps[dk]?=some (ptr0 gk)->gk=w.heap.size:=fun k ok dk tk gk hki ek ak e1=>by
    subst hki;rw [ho] at ek;injection ek with ek
    subst ek;rw [hal] at ak;injection ak with ak
    obtain⟨rfl,rfl⟩:=Prod.mk.inj ak;rw [hat] at e1;injection e1 with e1
    injection e1 with e1
    injection e1 with e1
    injection e1 with e1
    exact e1.symm
   rcases hset k onk with hki | hk2
   ·have hji:j≠i:=fun e=>hkj (by rw [hki,e])
    rcases hset j onj with e | hj2
    ·exact absurd e hji
    have a1:=same k ok dk tk gk hki ek ak e1;have a2:=case1 j oj dj tj gj hj hji hj2 ej aj e2;omega
   have hki:k≠i:=by rintro rfl; rw [hunf] at hk2; cases hk2
   rcases hset j onj with hji | hj2
   ·have a1:=same j oj dj tj gj hji ej aj e2;have a2:=case1 k ok dk tk gk hk hki hk2 ek ak e1;omega
   have hji:j≠i:=by rintro rfl; rw [hunf] at hj2; cases hj2
   rw [hold k ok dk tk hk hki ek ak] at e1;rw [hold j oj dj tj hj hji ej aj] at e2;exact hM.apart k j ok oj dk tk dj tj gk gj hk hj hk2 hj2 hkj ek ej ak aj e1 e2
def Q6X (md:zX) (ops:Array zI) (n m:Nat):Bool :=Region.noSelect ops && decide (n<ops.size) && Region.sinkB md ops n && Region.chainB md ops n && Q5w md ops (ops.size - n) n n 0 (zU ops.size false) && Q8s ops n && Q8Y ops n m
def ClassB (w w':zB):Prop:=∃ p:Regrown,w'=Sort.grow (redrawn w p.d) p.os
theorem Q2A {w w':zB}:ClassB w w' <-> zD w.heap.size w w' :=⟨fun⟨p,h⟩=>h▸below_regrown w p.d p.os,regrown_of_below⟩
theorem Q5W {id:Nat} {Q:Exit->zJ->zB->Prop} {a:zJ} {w:zB} {l:List zI} (n m:Nat) (zf:zE->Array zC) (hm:P.follows .mixedOrders=true) (hB:Q6X .any l.toArray n m=true) (ha:a.tmps.size=m) (hz:QaB P l.toArray n zf)
 (h:Q0c P l.toArray (fun w'=>∃ p:Regrown,w'=Sort.grow (redrawn w p.d) p.os) (fun a'=>∀ w',zD w.heap.size w w'->Made l.toArray n zf w w' (fun _=>True) a'->wpList P l.toArray Q (l.drop n) a' w') (l.take n) a):(Code.region id l.toArray true).wp P Q a w:=by
 simp only [Q6X,zZ,decide_eq_true_eq] at hB;obtain⟨⟨⟨⟨⟨⟨hsel,hn⟩,hs⟩,hc⟩,hlex⟩,hd⟩,hb⟩:=hB;have hn':n<l.length:=by simpa using hn
 have htl:(l.take n).length=n:=by simp; omega
 have hdl:(l.drop n).length=l.toArray.size - n:=by simp
 have inv0:HeadInv .any l.toArray n (zU l.toArray.size false) :=⟨by simp,fun j oj _ hl=>(by rw [getD_replicate_false] at hl; cases hl),fun t _ ht=>getD_in (by simpa using ht) (getD_replicate_false _ _)⟩
 have H:=Q6p (md:=.any) (C:=fun w'=>∃ p:Regrown,w'=Sort.grow (redrawn w p.d) p.os) (g:=l.toArray.size - n) hsel hs hc hn (l.take n) 0 _ a (fun j hj=>by
  have hj':j<n:=by rw [htl] at hj; exact hj
  simp [hj']) (by simpa using htl) inv0 (by rw [htl]; exact hlex) h
 refine wp_region_any hm ?_;have hCc:∀ w1 w2:zB,(∃ p:Regrown,w1=Sort.grow (redrawn w p.d) p.os)->zD w1.heap.size w1 w2->∃ p:Regrown,w2=Sort.grow (redrawn w p.d) p.os:=fun w1 w2 h1 h2=>by have h3:=Q2A.1 h1;exact Q2A.2 (h3.trans (h2.mono h3.size))
 have:=Q1P (Q':=Q) (md:=.any) (n:=n) (g:=l.toArray.size - n) (m:=m) (zf:=zf) (base:=w) hCc (fun w1 h1=>(Q2A.1 h1).size) hd hb hz (fun listed a' w' hw' hm' hM hL=>by
  have hall:∀ i,i<n->listed.getD i false=true:=fun i hi=>endB_all hL.1 i hi
  have:=wpAny_of_seq (md:=.any) (Q':=Q) (l.drop n) n listed a' w' (fun j=>by simp [List.getElem?_drop]) (by rw [hdl]; exact Q7e hL.1) (hL.2 w' (Q2A.1 hw') ⟨fun i o d t hi _=>hM.fact i o d t hi (hall i hi),fun i j oi oj di ti dj tj gi gj hi hj _ _=>hM.apart i j oi oj di ti dj tj gi gj hi hj (hall i hi) (hall j hj)⟩);rw [hdl] at this;exact this) _ _ _ w.drew (Q2A.2 (zR _ w).drew) ha (by simp) ⟨fun i o d t _ hon=>(by rw [getD_replicate_false] at hon; cases hon),fun i j oi oj di ti dj tj gi gj _ _ hon=>(by rw [getD_replicate_false] at hon; cases hon)⟩ H
 rw [htl,show n+(l.toArray.size - n)=l.toArray.size by omega] at this;exact this
end
def Q9s (ops:Array zI) (n:Nat):Bool :=
 (zN n).all fun i=>match ops[i]? with
  | none=>true
  | some o=>(Q0p o).isNone
theorem Qa9 {P:zG} {ops:Array zI} {n:Nat} {zf:zE->Array zC} (h:Q9s ops n=true):QaB P ops n zf:=fun i o d t hi ho ha=>by have h1:=List.all_eq_true.1 h i (List.mem_range.2 hi);simp only [ho,ha,Option.isNone_some,zW] at h1
theorem Q0J {P:zG} {id:Nat} {Q:Exit->zJ->zB->Prop} {a:zJ} {w:zB} {l:List zI} (n m:Nat) (hm:P.follows .mixedOrders=true) (hB:Q6X .any l.toArray n m=true) (hno:Q9s l.toArray n=true) (ha:a.tmps.size=m)
 (h:Q0c P l.toArray (fun w'=>∃ p:Regrown,w'=Sort.grow (redrawn w p.d) p.os) (fun a'=>∀ w',zD w.heap.size w w'->wpList P l.toArray Q (l.drop n) a' w') (l.take n) a):(Code.region id l.toArray true).wp P Q a w:=by
 refine Q5W n m (fun _=>#[]) hm hB ha (Qa9 hno) ?_;exact Q2U (fun a' h' w' hb _=>h' w' hb) h
theorem Q0M {P:zG} {ops:Array zI} {rest:List zI} {o:zI} {a:zJ} {w:zB} {Q:zJ->Prop} (hw:zK o (yielded ops a.tmps)=true) (ty:zE) (x:Operand) (ho:o.op=.load ty x)
 (g off n:Nat) (hx:a.eval x=.pointer (some ⟨g,off,none⟩)) (t:zE) (cs vs:Array zC) (d:TypeDesc) (hB:Blk w g t cs)
 (hu:P.underlying ty=some d) (hd:(match d with | .struct _ | .array _ _=>true | _=>false)=true) (hi:(P.info? ty).map (·.size)=some n)
 (hn:vs.size=n) (hv:∀ j,j<n->cs[off+j]?=vs[j]?)
 (h:Q0c P ops (fun w'=>∃ p:Regrown,w'=Sort.grow (redrawn w p.d) p.os) Q rest (a.put o.dst (.agg vs))):Q0c P ops (fun w'=>∃ p:Regrown,w'=Sort.grow (redrawn w p.d) p.os) Q (o :: rest) a:=by
 refine Q31 (by unfold Q0p; rw [ho]) fun K hK=>?_
 rw [if_pos hw];refine⟨.agg vs,fun w' hw'=>?_,hK _ h⟩;obtain⟨p,rfl⟩:=hw';have hB':=hB.below (below_regrown w p.d p.os) hB.lt;unfold Q4A;rw [Q0n ty x ho g off n hx t cs vs d hB' hu hd hi hn hv];exact⟨rfl,rfl⟩
theorem Q5B {P:zG} {ops:Array zI} {rest:List zI} {o:zI} {a:zJ} {w:zB} {Q:zJ->Prop} (hw:zK o (yielded ops a.tmps)=true) (hna:Q0p o=none) (f:FuncId) (args:Array zC)
 (hrun:∀ W,(execOp a.eval o).run P W=.ok (.enter f args) W) (v:zC)
 (hc:∀ W,zD w.heap.size w W->Calls P f args W fun e w'=>e=.returned v/\zD W.heap.size W w')
 (h:Q0c P ops (fun w'=>∃ p:Regrown,w'=Sort.grow (redrawn w p.d) p.os) Q rest (a.put o.dst v)):Q0c P ops (fun w'=>∃ p:Regrown,w'=Sort.grow (redrawn w p.d) p.os) Q (o :: rest) a:=by
 refine Q31 hna fun K hK=>?_
 rw [if_pos hw];refine⟨v,fun w' hw'=>?_,hK _ h⟩;obtain⟨p,rfl⟩:=hw';unfold Q4A;rw [hrun];exact⟨rfl,hc _ (below_regrown w p.d p.os)⟩
theorem Q3h {P:zG} {ops:Array zI} {rest:List zI} {o:zI} {a:zJ} {C:zB->Prop} {Q:zJ->Prop} (hw:zK o (yielded ops a.tmps)=true) (hna:Q0p o=none) (v:zC)
 (hrun:∀ W,C W->(execOp a.eval o).run P W=.ok (.value v) W) (h:Q0c P ops C Q rest (a.put o.dst v)):Q0c P ops C Q (o :: rest) a:=by
 refine Q31 hna fun K hK=>?_
 rw [if_pos hw];refine⟨v,fun w' hw'=>?_,hK _ h⟩;unfold Q4A;rw [hrun _ hw'];exact⟨rfl,rfl⟩
theorem Q1o {P:zG} {ops:Array zI} {rest:List zI} {o:zI} {a:zJ} {C:zB->Prop} {Q:zJ->Prop} (hw:zK o (yielded ops a.tmps)=false) (hna:Q0p o=none)
 (h:Q0c P ops C Q rest (a.put o.dst undef)):Q0c P ops C Q (o :: rest) a:=by
 refine Q31 hna fun K hK=>?_
 rw [if_neg (by rw [hw]; exact Bool.false_ne_true)];exact hK _ h
theorem Q3g {P:zG} {ops:Array zI} {C:zB->Prop} {Q Q':zJ->Prop} (h:∀ a,Q a->Q' a):∀ {l:List zI} {a:zJ},wpQuiet P ops C Q l a->wpQuiet P ops C Q' l a
 | [],a,hh=>h a hh
 | o :: rest,a,hh=>by
  unfold wpQuiet at hh ⊢;split
  ·rename_i hw;simp only [hw,if_true] at hh;exact Oper.quiet_mono (fun a' h'=>Q3g h h') hh
  rename_i hw;simp only [hw] at hh;exact Q3g h hh
theorem Q4n {P:zG} {id:Nat} {Q:Exit->zJ->zB->Prop} {a:zJ} {w:zB} {l:List zI} (hm:P.follows .mixedOrders=true) (hB:Region.lexB .any l.toArray=true)
 (h:wpQuiet P l.toArray (fun w'=>∃ p:Regrown,w'=Sort.grow (redrawn w p.d) p.os) (fun a'=>∀ w',zD w.heap.size w w'->Q .normal a' w') l a):(Code.region id l.toArray true).wp P Q a w:=by
 refine wp_region_quiet_below hm hB ?_;refine Q3g (fun a' h' w' hw'=>h' w' ?_) h;obtain⟨p,rfl⟩:=hw';exact below_regrown w p.d p.os
theorem Q0D {P:zG} {ops:Array zI} {rest:List zI} {o:zI} {a:zJ} {C:zB->Prop} {Q:zJ->Prop} (hw:zK o (yielded ops a.tmps)=true) (v:zC)
 (hrun:∀ W,C W->(execOp a.eval o).run P W=.ok (.value v) W) (h:wpQuiet P ops C Q rest (a.put o.dst v)):wpQuiet P ops C Q (o :: rest) a:=by
 refine wpQuiet_step fun K hK=>?_
 rw [if_pos hw];refine⟨v,fun w' hw'=>?_,hK _ h⟩;unfold Oper.quietAt;rw [hrun _ hw'];exact⟨rfl,rfl⟩
theorem Q4x {P:zG} {ops:Array zI} {rest:List zI} {o:zI} {a:zJ} {w:zB} {Q:zJ->Prop} (hw:zK o (yielded ops a.tmps)=true) (ty:zE) (x:Operand) (ho:o.op=.load ty x)
 (g off n:Nat) (hx:a.eval x=.pointer (some ⟨g,off,none⟩)) (t:zE) (cs vs:Array zC) (d:TypeDesc) (hB:Blk w g t cs)
 (hu:P.underlying ty=some d) (hd:(match d with | .struct _ | .array _ _=>true | _=>false)=true) (hi:(P.info? ty).map (·.size)=some n)
 (hn:vs.size=n) (hv:∀ j,j<n->cs[off+j]?=vs[j]?)
 (h:wpQuiet P ops (fun w'=>∃ p:Regrown,w'=Sort.grow (redrawn w p.d) p.os) Q rest (a.put o.dst (.agg vs))):wpQuiet P ops (fun w'=>∃ p:Regrown,w'=Sort.grow (redrawn w p.d) p.os) Q (o :: rest) a:=by
 refine Q0D hw _ (fun W hW=>?_) h;obtain⟨p,rfl⟩:=hW;exact Q0n ty x ho g off n hx t cs vs d (hB.below (below_regrown w p.d p.os) hB.lt) hu hd hi hn hv
theorem Q2D {P:zG} {ops:Array zI} {rest:List zI} {o:zI} {a:zJ} {w:zB} {Q:zJ->Prop} (hw:zK o (yielded ops a.tmps)=true) (v:zC)
 (hrun:∀ W,zD w.heap.size w W->(execOp a.eval o).run P W=.ok (.value v) W)
 (h:wpQuiet P ops (fun w'=>∃ p:Regrown,w'=Sort.grow (redrawn w p.d) p.os) Q rest (a.put o.dst v)):wpQuiet P ops (fun w'=>∃ p:Regrown,w'=Sort.grow (redrawn w p.d) p.os) Q (o :: rest) a :=
 Q0D hw v (fun W hW=>hrun W (by obtain⟨p,rfl⟩:=hW; exact below_regrown w p.d p.os)) h
theorem Q12 {P:zG} {ops:Array zI} {rest:List zI} {o:zI} {a:zJ} {w:zB} {Q:zJ->Prop} (hw:zK o (yielded ops a.tmps)=true) (hna:Q0p o=none) (v:zC)
 (hrun:∀ W,zD w.heap.size w W->(execOp a.eval o).run P W=.ok (.value v) W)
 (h:Q0c P ops (fun w'=>∃ p:Regrown,w'=Sort.grow (redrawn w p.d) p.os) Q rest (a.put o.dst v)):Q0c P ops (fun w'=>∃ p:Regrown,w'=Sort.grow (redrawn w p.d) p.os) Q (o :: rest) a :=
 Q3h hw hna v (fun W hW=>hrun W (by obtain⟨p,rfl⟩:=hW; exact below_regrown w p.d p.os)) h
theorem Q2Y {P:zG} {o:zI} {a:zJ} {W:zB} (ty:zE) (x:Operand) (ho:o.op=.load ty x) (ad:zA) (hx:a.eval x=.pointer (some ad)) (hagg:(isAgg ty).run P W=.ok false W) (v:zC) (hc:W.cell? ad=some v):(execOp a.eval o).run P W=.ok (.value v) W:=by unfold execOp;simp only [ho,hx,Instr.loadAt,Instr.sureAddr,Sem.run_bind,Sem.run_pure,Result.andThen_ok,loadVar,hagg];simp [go_sem,hc]
theorem tC {P:zG} {ops:Array zI} {rest:List zI} {o:zI} {a:zJ} {C:zB->Prop} {Q:zJ->Prop} (v:zC) (h:Q0c P ops C Q rest (a.put o.dst v)) (hw:zK o (yielded ops a.tmps)=true:=by exact rfl) (hna:Q0p o=none:=by exact rfl) (hr:∀ W,C W->(execOp a.eval o).run P W=.ok (.value v) W:=by intro W _;go_simp):Q0c P ops C Q (o::rest) a:=Q3h hw hna v hr h
theorem tD {P:zG} {ops:Array zI} {rest:List zI} {o:zI} {a:zJ} {C:zB->Prop} {Q:zJ->Prop} (v:zC) (h:Q0c P ops C Q rest (a.put o.dst v)) (hw:zK o (yielded ops a.tmps)=true:=by exact rfl) (hna:Q0p o=none:=by exact rfl) (hr:∀ W,C W->(execOp a.eval o).run P W=.ok (.value v) W:=by exact fun W _=>rfl):Q0c P ops C Q (o::rest) a:=Q3h hw hna v hr h

end
section
open Go.RowKit Go.Maps
structure Book where
 g:Nat
 b1:Nat
 b2:Nat
def Book.has (k:Book) (b:Nat):Prop:=b=k.g\/b=k.b1\/b=k.b2
def Q2P (k:Book) (asked:Int):Array zC:=#[.map (some k.b1),.map (some k.b2),.int .i64 asked]
structure Q0h (w:zB) (k:Book) (l:LL) (asked:Nat):Prop where
 cells:Blk w k.g 94 (Q2P k asked)
 maps:∃ (D1 D2:DataW Unit) (n1 n2:Nat),w.ownsMap zO 51 (plainElem zO 9) k.b1 n1 D1/\w.ownsMap zO 9 (plainElem zO 4) k.b2 n2 D2/\Q2s l D1 D2
 len:l.length<=asked
 apart:k.g≠k.b1/\k.g≠k.b2/\k.b1≠k.b2
theorem Q3W {P:zG} {T:zE} {R:zC->Option (DataW Unit×List MemPlace)} {w:zB} {b n:Nat} {D:DataW Unit} (h:w.ownsMap P T R b n D):w.ownsMap P T R b (Maps.size D) D:=by obtain⟨es,c,hb,F,hs,rfl⟩:=h;exact⟨es,c,hb,F,by simp [Maps.size,length_sorted],rfl⟩
structure Q0b (k:Book) (w w':zB):Prop where
 os:w'.os=w.os
 tape:w'.tape=w.tape
 output:w'.output=w.output
 size:w.heap.size<=w'.heap.size
 block:∀ i,i<w.heap.size->¬ k.has i->w'.heap[i]?=w.heap[i]?
theorem Q0b.refl (k:Book) (w:zB):Q0b k w w:=⟨rfl,rfl,rfl,zP _,fun _ _ _=>rfl⟩
theorem Q0b.trans {k:Book} {a b c:zB} (h:Q0b k a b) (h':Q0b k b c):Q0b k a c :=⟨h'.os.trans h.os,h'.tape.trans h.tape,h'.output.trans h.output,Nat.le_trans h.size h'.size,fun i hi hn=>(h'.block i (zL hi h.size) hn).trans (h.block i hi hn)⟩
theorem Q0b.of_below {k:Book} {w w':zB} (h:zD w.heap.size w w'):Q0b k w w':=⟨h.os,h.tape,h.output,h.size,fun i hi _=>h.block i hi⟩
theorem Q0b.of_grown {k:Book} {w w':zB} {b:Nat} (h:w.grownBy w' (some b)) (hb:k.has b):Q0b k w w' :=⟨h.os,h.tape,h.output,h.size,fun i hi hn=>h.block i hi (fun e=>hn (by injection e with e; exact e▸hb))⟩
theorem Q0h.below {w w':zB} {k:Book} {l:LL} {n:Nat} (h:Q0h w k l n) (hb:zD w.heap.size w w'):Q0h w' k l n:=by obtain⟨D1,D2,n1,n2,h1,h2,h3⟩:=h.maps;have hg:=Q0v hb none;exact⟨h.cells.below' hb,⟨D1,D2,n1,n2,h1.kept hg (by simp),h2.kept hg (by simp),h3⟩,h.len,h.apart⟩
theorem Q0h.lt {w:zB} {k:Book} {l:LL} {n:Nat} (h:Q0h w k l n):k.g<w.heap.size/\k.b1<w.heap.size/\k.b2<w.heap.size:=by obtain⟨D1,D2,n1,n2,h1,h2,h3⟩:=h.maps;exact⟨h.cells.lt,h1.lt,h2.lt⟩
theorem Q6i (w:zB):Calls zO 5 #[] w fun e w'=>∃ k:Book,e=.returned (.pointer (some ⟨k.g,0,none⟩))/\Q0h w' k [] 0/\(w.heap.size<=k.g/\w.heap.size<=k.b1/\w.heap.size<=k.b2)/\zD w.heap.size w w':=by
 have hmm:=@run_makeMap zO;go_enter Tryz.func5,Tryz.ntmps5
 go_wp2
 go_ret
 refine⟨⟨w.heap.size+1+1,w.heap.size,w.heap.size+1⟩,rfl,⟨Blk.newAt (by simp),⟨.map [],.map [],0,0,?_,?_,Q2s.start⟩,zP _,by simp; omega⟩,by simp; omega,?_⟩
 ·exact((World.ownsMap_made w _ _ _).alloc _).alloc _
 ·have:=(World.ownsMap_made (H:=Unit) (w.alloc (.map #[] 0)) zO 9 (plainElem zO 4)).alloc (.cells (Q2P ⟨w.heap.size+1+1,w.heap.size,w.heap.size+1⟩ 0) 94);rw [show (w.alloc (.map #[] 0)).heap.size=w.heap.size+1 by simp] at this;exact this
 exact(((zR _ _).alloc (zP _) _).alloc (by simp) _).alloc (by simp; omega) _
theorem Q5V (k:Book) (l:LL) (n:Nat) (w:zB) (h:Q0h w k l n) :
 Calls zO 122 #[.pointer (some ⟨k.g,0,none⟩)] w fun e w'=>e=.returned (.bool false)/\w=w':=by
 have c0:w.cell? ⟨k.g,0,none⟩=some (.map (some k.b1)):=(h.cells.cell 0).trans rfl;have hmn:=run_eql_map_nil (P:=zO) w 86 51 9 (some k.b1) Tryz.underlying86;clear h;go_enter Tryz.func122,Tryz.ntmps122
 go_wp2
 go_ret
 exact⟨rfl,rfl⟩
theorem Q9R (a:zA) (s:Nat) (w:zB) (hc:w.cell? a=some (.int .i64 (s:Int))) (hz:w.frozen? a=false) (hs:s+1<9223372036854775808) :
 Calls zO 123 #[.pointer (some a),.int .i64 1] w fun e w'=>e=.returned (.int .i64 ((s+1:Nat):Int))/\w'=w.setCell a (.int .i64 ((s+1:Nat):Int)):=by
 have hadd:=run_call_add (P:=zO) Tryz.func140 (by kernel_rfl) (by kernel_rfl) (by kernel_rfl) .i64 (by kernel_rfl) (y:=1) (s:=((s+1:Nat):Int)) hc hz (by simp [go_sem]; exact IntWalk.i64_in _ (by omega));go_enter Tryz.func123,Tryz.ntmps123
 go_wp2
 go_ret
 exact⟨rfl,rfl⟩
theorem look_dig {w:zB} {b n:Nat} {l:LL} {D1 D2:DataW Unit} (h:w.ownsMap zO 51 (plainElem zO 9) b n D1) (hi:Q2s l D1 D2) (d:List UInt8) (hd:d.length=32) :
 (Instr.lookup 86 (.map (some b)) (.agg (bRow d)) true).run zO w=.ok (.tuple #[.string ⟨((Q0F l d).getD []).toArray⟩,.bool (Q0F l d).isSome]) w:=by
 obtain⟨v,ps,hrun,hv⟩:=h.look_ok Q4V Tryz.underlying86 (Tryz.zeroValue9 w) (plainElem_string Tryz.underlying9 (s:=⟨#[]⟩) (by unfold maxLen; show (0:Nat)<=_; omega)) (Q3T d hd);rw [hi.has1 d hd] at hrun;obtain⟨s,rfl,hs,_⟩:=plainElem_string_inv Tryz.underlying9 hv;have he:D1.atKey (klit d) (.lit (.string []))=.lit (.string ((Q0F l d).getD [])):=by
  cases hf:Q0F l d with
  | some y=>exact hi.at1 d y _ hd hf
  | none=>exact atKey_of_not_has (by rw [hi.has1 d hd,hf]; rfl) _
 have hs1:D1.atKey (klit d) (.lit (.string []))=.lit (.string s.data.toList):=congrArg Prod.fst hs;rw [he] at hs1;have hs2:(Q0F l d).getD []=s.data.toList:=Lit.string.inj (DataW.lit.inj hs1);rw [hrun,hs2]
theorem Q3O {W:zB} {B n c:Nat} {A:Option zA} {xs:List UInt8} (h:Q04 W B 1 A n (xs.map vb)):(convert 28 9 (.slice A n c)).run zO W=.ok (.string ⟨xs.toArray⟩) W:=by
 have hn:xs.length=n:=by have:=h.1; simpa using this
 rcases Nat.eq_zero_or_pos n with h0 | h0
 ·subst h0;have hx:xs=[]:=zH hn;subst hx;cases A with
  | none=>exact run_convert_bytes_nil W 28 5 Tryz.underlying28 Tryz.underlying5 0 c 9 Tryz.underlying9
  | some ad=>exact run_convert_bytes_back W 28 9 5 ad c [] Tryz.underlying28 Tryz.underlying5 Tryz.underlying9 (fun j hj=>by simp at hj)
 obtain⟨ad,rfl,_,hc⟩:=h.2 h0;rw [<- hn];exact run_convert_bytes_back W 28 9 5 ad c xs Tryz.underlying28 Tryz.underlying5 Tryz.underlying9 (fun j hj=>hc j _ (by rw [List.getElem?_map,List.getElem?_eq_getElem hj]; rfl))
theorem zeros32a:zU 32 (Value.int .u8 0)=#[.int .u8 0,.int .u8 0,.int .u8 0,.int .u8 0,.int .u8 0,.int .u8 0,.int .u8 0,.int .u8 0,.int .u8 0,.int .u8 0,.int .u8 0,.int .u8 0,.int .u8 0,.int .u8 0,.int .u8 0,.int .u8 0,.int .u8 0,.int .u8 0,.int .u8 0,.int .u8 0,.int .u8 0,.int .u8 0,.int .u8 0,.int .u8 0,.int .u8 0,.int .u8 0,.int .u8 0,.int .u8 0,.int .u8 0,.int .u8 0,.int .u8 0,.int .u8 0]:=by kernel_rfl
theorem Q04.keepAt {w w':zB} {B n:Nat} {A:Option zA} {xs:List zC} (h:Q04 w B 1 A n xs) (hk:∀ a,0<n->A=some a->∀ p:zA,p.block=a.block->w'.cell? p=w.cell? p):Q04 w' B 1 A n xs :=⟨h.1,fun h0=>by obtain⟨ad,rfl,hB,hc⟩:=h.2 h0; exact⟨ad,rfl,hB,fun k u hu=>(hk ad h0 rfl (ad.add k) (by simp [Addr.add]; split <;> rfl)).trans (hc k u hu)⟩⟩
theorem Q0h.asked {w:zB} {k:Book} {l:LL} {n:Nat} (h:Q0h w k l n):Q0h (w.setCell ⟨k.g,2,none⟩ (.int .i64 ((n+1:Nat):Int))) k l (n+1):=by obtain⟨D1,D2,n1,n2,h1,h2,h3⟩:=h.maps;exact⟨h.cells.set_ 2 _,⟨D1,D2,n1,n2,h1.setCell (a:=⟨k.g,2,none⟩) (Ne.symm h.apart.1) _,h2.setCell (a:=⟨k.g,2,none⟩) (Ne.symm h.apart.2.1) _,h3⟩,Nat.le_succ_of_le h.len,h.apart⟩
theorem Q0h.grown {w w':zB} {k:Book} {l:LL} {n b:Nat} (h:Q0h w k l n) (hg:w.grownBy w' (some b)) (hb:b≠k.g/\b≠k.b1/\b≠k.b2):Q0h w' k l n:=by obtain⟨D1,D2,n1,n2,h1,h2,h3⟩:=h.maps;exact⟨h.cells.beside hg (Ne.symm hb.1),⟨D1,D2,n1,n2,h1.kept hg (fun e=>hb.2.1 (by injection e with e; exact e.symm)),h2.kept hg (fun e=>hb.2.2 (by injection e with e; exact e.symm)),h3⟩,h.len,h.apart⟩
theorem Q0b.grown {k:Book} {w w' w'':zB} {b:Nat} (h:Q0b k w w') (hg:w'.grownBy w'' (some b)) (hb:w.heap.size<=b):Q0b k w w'' :=⟨hg.os.trans h.os,hg.tape.trans h.tape,hg.output.trans h.output,Nat.le_trans h.size hg.size,fun i hi hn=>(hg.block i (zL hi h.size) (fun e=>by injection e with e; omega)).trans (h.block i hi hn)⟩
theorem Q7X (k:Book) (l:LL) (asked:Nat) (A:Option zA) (n c:Nat) (xs:List UInt8) (w:zB) (B:Nat) (hbk:Q0h w k l asked) (h:Q04 w B 1 A n (xs.map vb)) (hB:B<=w.heap.size)
 (hk:∀ a,0<n->A=some a->a.block≠k.g) (hc:n<=c) (hcm:c<=maxLen) (hn:n<=65536) (has:asked<=1000000) :
 Calls zO 110 #[.pointer (some ⟨k.g,0,none⟩),.slice A n c] w fun e w'=>e=.returned (.tuple #[.agg (bRow (Q14 xs)),.int .i64 0])/\Q0h w' k (Q0V l xs) (asked+1)/\Q0b k w w':=by
 have HK:=sH hk;clear hk;have hxn:xs.length=n:=by have:=h.1; simpa using this
 have HXN:=sH hxn;have HKB:=sH hbk;have HRD:=sH h;unfold maxLen at hcm;clear hbk h hxn;go_enter Tryz.func110,Tryz.ntmps110
 go_wp2_with fail
 have hW:=Blk.new w 51 (zU 32 (.int .u8 0));have hX1:zD w.heap.size w (w.alloc (.cells (zU 32 (.int .u8 0)) 51)):=(zR _ _).alloc (zP _) _;have hS1:(w.alloc (.cells (zU 32 (.int .u8 0)) 51)).heap.size=w.heap.size+1:=by simp
 have HKB1:=sH (HKB.out.below hX1);have HRD1:=sH (HRD.out.below (hX1.mono hB));rw [zeros32a] at hW hX1 hS1 HKB1 HRD1;obtain⟨gd,hgd⟩:∃ g,g=w.heap.size:=⟨_,rfl⟩;rw [<- hgd] at hW hS1 ⊢;generalize w.alloc _=W1 at hW hX1 hS1 HKB1 HRD1 ⊢;have hkl:=HKB.out.lt;rw [<- hgd] at hkl;have hgB:B<=gd:=by rw [hgd]; exact hB
 have HGD:=sH hgd;clear hgd;have HD1:=sH hW;have HX1:=sH hX1;clear hW hX1;have c2:W1.cell? ⟨k.g,2,none⟩=some (.int .i64 (asked:Int)):=(HKB1.out.cells.cell 2).trans rfl;have f2:=HKB1.out.cells.frozen 2;refine(Q5V k l asked W1 HKB1.out).mono ?_;rintro _ _ ⟨rfl,rfl⟩;go_wp2_with fail
 refine(Q9R ⟨k.g,2,none⟩ asked W1 c2 f2 (by omega)).mono ?_;rintro _ W2 ⟨rfl,hW2⟩;have HT2:=sH (Q06.setCell W1 ⟨k.g,2,none⟩ (.int .i64 ((asked+1:Nat):Int)));have HKB2:=sH HKB1.out.asked;rw [<- hW2] at HT2 HKB2;have HO2:=sH ((Q0b.of_below HX1.out).trans (Q0b.of_grown (k:=k) HT2.out.grown (.inl rfl)));have hs2:=HT2.out.size;clear c2 f2 hW2;go_wp2_with fail
 have hrd2:Q04 W2 B 1 A n (xs.map vb):=HRD1.out.keepAt (fun a h0 ha p hp=>HT2.out.cell (by have:=HK.out a h0 ha; show p.block≠k.g; omega));refine(QaU A n c xs W2 B hrd2 (by omega) hc (by unfold maxLen; omega)).mono ?_;rintro _ W3 ⟨rfl,hb3⟩;have HKB3:=sH (HKB2.out.below hb3);have HRD3:=sH (hrd2.below (hb3.mono (by omega)));have HD3:=sH ((HT2.out.blk HD1.out (by show gd≠k.g; omega)).below hb3 (by omega));have HO3:=sH (HO2.out.trans (Q0b.of_below hb3));have hs3:=hb3.size;clear hb3 hrd2;have hdl:=Q3e xs;have HDL:=sH hdl;have hds:(bRow (Q14 xs)).size=32:=by rw [Q2l,hdl]
 have HDS:=sH hds;have HDO:=sH (Q0Q (Q14 xs));clear hdl hds;generalize hd:bRow (Q14 xs)=D at HDS HDO ⊢;have HDD:=sH hd;clear hd;go_upto_region 7 with(refine Q00 rfl 51 (.tmp 6) (.tmp 23) rfl W3.heap.size 0 D rfl rfl 51 _ (Blk.newAt rfl) (by rw [HDS.out]; rfl) (by rw [HDS.out]; simp) HDO.out ?_; intro W4 hT4 hB4; rw [Q0a _ _ (by rw [HDS.out]; simp)] at hB4)
 have hX4:zD W3.heap.size W3 W4:=hT4.below ((zR _ _).alloc (zP _) _) (zP _);have HKB4:=sH (HKB3.out.below hX4);have HRD4:=sH (HRD3.out.below (hX4.mono (by omega)));have HD4:=sH (HD3.out.below' hX4);have HO4:=sH (HO3.out.trans (Q0b.of_below hX4));have hs4:=hX4.size;obtain⟨ge,hge⟩:∃ g,g=W3.heap.size:=⟨_,rfl⟩;rw [<- hge] at hB4 ⊢;have hgel:gd<ge:=by omega
 have hkl2:=HKB3.out.lt;rw [<- hge] at hkl2;have HB4:=sH hB4;clear hT4 hX4 hB4 hge;obtain⟨D1,D2,n1,n2,h1,h2,h3⟩:=HKB4.out.maps;have hlk:=fun(W:zB) (hb:zD W4.heap.size W4 W)=>look_dig (w:=W) (h1.kept (Q0v hb none) (by simp)) h3 (Q14 xs) HDL.out
 rw [HDD.out] at hlk;have hm1:=fun(W:zB) (hb:zD W4.heap.size W4 W)=>((HKB4.out.cells.below' hb).cell 0).trans (rfl:(Q2P k ((asked+1:Nat):Int))[0]?=some (.map (some k.b1)))
 have hm2:=fun(W:zB) (hb:zD W4.heap.size W4 W)=>((HKB4.out.cells.below' hb).cell 1).trans (rfl:(Q2P k ((asked+1:Nat):Int))[1]?=some (.map (some k.b2)))
 have hcv:=fun(W:zB) (hb:zD W4.heap.size W4 W)=>Q3O (c:=c) (HRD4.out.below (hb.mono (show B<=W4.heap.size by omega)))
 have HLK:=sH hlk;have HM1:=sH hm1;have HM2:=sH hm2;have HCV:=sH hcv;have H1:=sH h1;have H2:=sH h2;have H3:=sH h3;clear hlk hm1 hm2 hcv h1 h2 h3;obtain⟨fo,hfo⟩:∃ fo,fo=Q0F l (Q14 xs):=⟨_,rfl⟩;rw [<- hfo] at HLK;have HFO:=sH hfo;clear hfo;refine Q4n (by kernel_rfl) (by kernel_rfl) ?_;refine Q0D rfl (.pointer (some ⟨k.g,0,none⟩)) (fun W _=>rfl) ?_;refine Q0D rfl (.pointer (some ⟨k.g,0,none⟩)) (fun W _=>by go_simp) ?_;try simp only [zV,sA]
 refine Q0D rfl (.pointer (some ⟨k.g,0,none⟩)) (fun W _=>by go_simp) ?_;try simp only [zV,sA]
 refine Q2D rfl (.map (some k.b1)) (fun W hb=>Q2Y 86 (.tmp 27) rfl ⟨k.g,0,none⟩ rfl (by kernel_rfl) _ (HM1.out W hb)) ?_;try simp only [zV,sA]
 refine Q4x rfl 51 (.tmp 6) rfl ge 0 32 rfl 51 _ D _ HB4.out Tryz.underlying51 rfl rfl HDS.out (fun _ _=>by rw [zS]) ?_;try simp only [zV,sA]
 refine Q2D rfl (.tuple #[.string ⟨(fo.getD []).toArray⟩,.bool fo.isSome]) (fun W hb=>by have hc:=HLK.out W hb; go_simp) ?_;try simp only [zV,sA]
 refine Q0D rfl (.tuple #[.string ⟨(fo.getD []).toArray⟩,.bool fo.isSome]) (fun W _=>rfl) ?_;try simp only [zV,sA]
 refine Q0D rfl (.string ⟨(fo.getD []).toArray⟩) (fun W _=>by go_simp) ?_;try simp only [zV,sA]
 refine Q0D rfl (.bool fo.isSome) (fun W _=>by go_simp) ?_;try simp only [zV,sA]
 refine Q0D rfl (.string ⟨(fo.getD []).toArray⟩) (fun W _=>rfl) ?_;try simp only [zV,sA]
 refine Q0D rfl (.bool fo.isSome) (fun W _=>rfl) ?_;try simp only [zV,sA]
 refine wpQuiet_nil ?_;intro W5 hb5;have HKB5:=sH (HKB4.out.below hb5);have HRD5:=sH (HRD4.out.below (hb5.mono (by omega)));have HD5:=sH (HD4.out.below' hb5);have HB5:=sH (HB4.out.below' hb5);have HO5:=sH (HO4.out.trans (Q0b.of_below hb5));have hs5:=hb5.size;have H15:=sH (Q3W (H1.out.kept (Q0v hb5 none) (by simp)));have H25:=sH (Q3W (H2.out.kept (Q0v hb5 none) (by simp)));have hsz:=H3.out.size;have hlen:=HKB.out.len;have hap:=HKB.out.apart;clear hb5
 go_upto_if 34 with(fail)
 go_cut [4,5,6] (fun s4 s5 s6 wx=>s4=.pointer (some ⟨gd,0,none⟩)/\s5=.int .i64 0/\s6=.pointer (some ⟨ge,0,none⟩)/\Q0h wx k (Q0V l xs) (asked+1)/\Q0b k w wx/\Blk wx gd 51 #[.int .u8 0,.int .u8 0,.int .u8 0,.int .u8 0,.int .u8 0,.int .u8 0,.int .u8 0,.int .u8 0,.int .u8 0,.int .u8 0,.int .u8 0,.int .u8 0,.int .u8 0,.int .u8 0,.int .u8 0,.int .u8 0,.int .u8 0,.int .u8 0,.int .u8 0,.int .u8 0,.int .u8 0,.int .u8 0,.int .u8 0,.int .u8 0,.int .u8 0,.int .u8 0,.int .u8 0,.int .u8 0,.int .u8 0,.int .u8 0,.int .u8 0,.int .u8 0]/\Blk wx ge 51 D)
 case first =>
  cases fo with
  | none =>
   go_upto_region 9 with fail
   have hm5:=fun(W:zB) (hb:zD W5.heap.size W5 W)=>((HKB5.out.cells.below' hb).cell 0).trans (rfl:(Q2P k ((asked+1:Nat):Int))[0]?=some (.map (some k.b1)))
   have hc5:=fun(W:zB) (hb:zD W5.heap.size W5 W)=>Q3O (c:=c) (HRD5.out.below (hb.mono (show B<=W5.heap.size by omega)))
   refine Q0J 7 53 (by kernel_rfl) (by kernel_rfl) (by kernel_rfl) (by simp) ?_;simp only [tT,tU];refine tD (.pointer (some ⟨k.g,0,none⟩)) ?_;try simp only [zV,sA]
   refine tC (.pointer (some ⟨k.g,0,none⟩)) ?_;try simp only [zV,sA]
   refine tC (.pointer (some ⟨k.g,0,none⟩)) ?_;try simp only [zV,sA]
   refine Q12 rfl rfl (.map (some k.b1)) (fun W hb=>Q2Y 86 (.tmp 37) rfl ⟨k.g,0,none⟩ rfl (by kernel_rfl) _ (hm5 W hb)) ?_;try simp only [zV,sA]
   refine Q0M rfl 51 (.tmp 6) rfl ge 0 32 rfl 51 _ D _ HB5.out Tryz.underlying51 rfl rfl HDS.out (fun _ _=>by rw [zS]) ?_;try simp only [zV,sA]
   refine tD (.slice A n c) ?_;try simp only [zV,sA]
   refine Q12 rfl rfl (.string ⟨xs.toArray⟩) (fun W hb=>by have hx:=hc5 W hb; go_simp) ?_;try simp only [zV,sA]
   refine Q1K ?_;intro W6 hb6;have HKB6:=sH (HKB5.out.below hb6);have HD6:=sH (HD5.out.below' hb6);have HB6:=sH (HB5.out.below' hb6);have HO6:=sH (HO5.out.trans (Q0b.of_below hb6));have H16:=sH (H15.out.kept (Q0v hb6 none) (by simp));have H26:=sH (H25.out.kept (Q0v hb6 none) (by simp));have hs6:=hb6.size;clear hb6 hm5 hc5;have hkey:=Q3T (Q14 xs) HDL.out;rw [HDD.out] at hkey;have hval:plainElem (H:=Unit) zO 9 (.string ⟨xs.toArray⟩)=some (.lit (.string xs),[]):=plainElem_string Tryz.underlying9 (s:=⟨xs.toArray⟩) (by show xs.toArray.size<=maxLen; have:=HXN.out; unfold maxLen; simp; omega);have HKEY:=sH hkey;have HVAL:=sH hval;clear hkey hval;go_wp2_with (at_mapUpdate; go_must (refine wpList_mapUpdate_own _ rfl (.tmp 38) (.tmp 39) (.tmp 41) 86 rfl 51 9 Q4V Tryz.underlying86 _ k.b1 (Maps.size D1) D1 rfl H16.out (by unfold maxLen; omega) (.agg D) (.string ⟨xs.toArray⟩) _ rfl rfl HKEY.out (.lit (.string xs)) [] HVAL.out ?_))
   intro W7 hown7 hg7;go_wp2_with fail
   go_meet
   have hap:=HKB6.out.apart;have hfr:=H3.out.fresh (H1.out.tidy Q4V) xs HFO.out.symm;have hal:=Q4j l xs;exact⟨rfl,rfl,rfl,⟨HKB6.out.cells.beside hg7 hap.1,⟨_,D2,_,_,hown7,H26.out.kept hg7 (fun e=>hap.2.2 (by injection e with e; exact e.symm)),hfr⟩,by omega,hap⟩,
    HO6.out.trans (Q0b.of_grown hg7 (.inr (.inl rfl))),HD6.out.beside hg7 (by omega),HB6.out.beside hg7 (by omega)⟩
  | some y =>
   simp only [Option.getD_some,Option.isSome_some];by_cases hyx:y=xs
   ·have hne:(y == xs)=true:=by rw [hyx]; simp
    have hcx:=Q3O (c:=c) HRD5.out;have HYX:=sH hyx;clear hyx;go_wp2_with fail
    go_meet
    have hfo:=HFO.out;rw [HYX.out] at hfo;exact⟨rfl,rfl,rfl,⟨HKB5.out.cells,⟨D1,D2,_,_,H15.out,H25.out,H3.out.same xs hfo.symm⟩,by have:=Q4j l xs; omega,hap⟩,HO5.out,HD5.out,HB5.out⟩
   have hne:(y == xs)=false:=by simpa using hyx
   have hcx:=Q3O (c:=c) HRD5.out;have HYX:=sH hyx;clear hyx;go_upto_region 11 with fail
   have hm5:=fun(W:zB) (hb:zD W5.heap.size W5 W)=>((HKB5.out.cells.below' hb).cell 1).trans (rfl:(Q2P k ((asked+1:Nat):Int))[1]?=some (.map (some k.b2)))
   have hc5:=fun(W:zB) (hb:zD W5.heap.size W5 W)=>Q3O (c:=c) (HRD5.out.below (hb.mono (show B<=W5.heap.size by omega)))
   refine Q0J 6 53 (by kernel_rfl) (by kernel_rfl) (by kernel_rfl) (by simp) ?_;simp only [tT,tU];refine tD (.pointer (some ⟨k.g,0,none⟩)) ?_;try simp only [zV,sA]
   refine tC (.pointer (some ⟨k.g,0,none⟩)) ?_;try simp only [zV,sA]
   refine tC (.pointer (some ⟨k.g,1,none⟩)) ?_;try simp only [zV,sA]
   refine Q12 rfl rfl (.map (some k.b2)) (fun W hb=>Q2Y 87 (.tmp 48) rfl ⟨k.g,1,none⟩ rfl (by kernel_rfl) _ (hm5 W hb)) ?_;try simp only [zV,sA]
   refine tD (.slice A n c) ?_;try simp only [zV,sA]
   refine Q12 rfl rfl (.string ⟨xs.toArray⟩) (fun W hb=>by have hx:=hc5 W hb; go_simp) ?_;try simp only [zV,sA]
   refine Q1K ?_;intro W6 hb6;have HKB6:=sH (HKB5.out.below hb6);have HD6:=sH (HD5.out.below' hb6);have HB6:=sH (HB5.out.below' hb6);have HO6:=sH (HO5.out.trans (Q0b.of_below hb6));have H16:=sH (H15.out.kept (Q0v hb6 none) (by simp));have H26:=sH (H25.out.kept (Q0v hb6 none) (by simp));have hs6:=hb6.size;clear hb6 hm5 hc5;have hkey:=Qb0 xs (by have:=HXN.out; unfold maxLen; omega);have hval:plainElem (H:=Unit) zO 4 (.bool true)=some (.lit (.bool true),[]):=plainElem_bool Tryz.underlying4 true;have HKEY:=sH hkey;have HVAL:=sH hval;clear hkey hval;go_wp2_with (at_mapUpdate; go_must (refine wpList_mapUpdate_own _ rfl (.tmp 49) (.tmp 51) (.const (.bool true)) 87 rfl 9 4 Q9v Tryz.underlying87 _ k.b2 (Maps.size D2) D2 rfl H26.out (by unfold maxLen; omega) (.string ⟨xs.toArray⟩) (.bool true) _ rfl rfl HKEY.out (.lit (.bool true)) [] HVAL.out ?_))
   intro W7 hown7 hg7;go_wp2_with fail
   go_meet
   have hap:=HKB6.out.apart;have hfr:=H3.out.other (H2.out.tidy Q9v) xs y HFO.out.symm HYX.out;have hal:=Q4j l xs;exact⟨rfl,rfl,rfl,⟨HKB6.out.cells.beside hg7 hap.2.1,⟨D1,_,_,_,H16.out.kept hg7 (fun e=>hap.2.2 (by injection e with e)),hown7,hfr⟩,by omega,hap⟩,
    HO6.out.trans (Q0b.of_grown hg7 (.inr (.inr rfl))),HD6.out.beside hg7 (by omega),HB6.out.beside hg7 (by omega)⟩
 obtain⟨rfl,rfl,rfl,hbk,hob,hd,he⟩:=hcut;have HBK:=sH hbk;have HOB:=sH hob;clear hbk hob;go_upto_region 12 with fail
 have HDW:=sH hd;have HEW:=sH he;have hgw:=hd.lt;clear hd he;go_wp2_with (first
  | (refine Q01 rfl 51 (.tmp 6) rfl ge 0 32 rfl 51 _ D _ HEW.out Tryz.underlying51 rfl rfl HDS.out (fun _ _=>by rw [zS]) ?_)
  | (refine Q00 rfl 51 (.tmp 4) (.tmp 52) rfl gd 0 D rfl rfl 51 _ HDW.out (by rw [HDS.out]; rfl) (by rw [HDS.out]; simp) HDO.out ?_; intro W8 hT8 hB8; rw [Q0a _ _ (by rw [HDS.out]; rfl)] at hB8))
 refine bodyPost_ret (Q03 rfl _ _ gd 32 51 _ _ rfl hB8 Tryz.underlying51 rfl rfl HDS.out) rfl ⟨by rw [HDD.out]; rfl,?_,?_⟩
 ·exact HBK.out.grown hT8.grown (by omega)
 exact HOB.out.grown hT8.grown (by have:=HGD.out; omega)
def inkZ:Array zC:=bRow (List.replicate 32 0)
def Q7x (w:zB) (p:Option zA):Prop:=p=none\/∃ g,p=some ⟨g,0,none⟩/\g<w.heap.size/\w.cell? ⟨g,0,none⟩=some (.map none)
theorem Q7x.below {w w':zB} {p:Option zA} (h:Q7x w p) (hb:zD w.heap.size w w'):Q7x w' p:=by
 rcases h with rfl | ⟨g,rfl,hg,hc⟩
 ·exact .inl rfl
 exact .inr ⟨g,rfl,zL hg hb.size,(hb.cell (by show g<_; exact hg)).trans hc⟩
theorem Q76 (w:zB) (p:Option zA) (h:Q7x w p):Calls zO 122 #[.pointer p] w fun e w'=>e=.returned (.bool true)/\w=w':=by
 have hmn:=run_eql_map_nil (P:=zO) w 86 51 9 none Tryz.underlying86;rcases h with rfl | ⟨g,rfl,_,c0⟩
 all_goals
  go_enter Tryz.func122,Tryz.ntmps122
  go_wp2
  go_ret
  exact⟨rfl,rfl⟩
theorem Q9w (p:Option zA) (v:zC) (w:zB) (h:Q7x w p) :
 Calls zO 110 #[.pointer p,v] w fun e w'=>e=.returned (.tuple #[.agg inkZ,.int .i64 1])/\zD w.heap.size w w':=by
 have hz:inkZ.size=32:=by simp [inkZ,bRow]
 have ho:inkZ.all (·.oneCell')=true:=Q0Q _;have he:inkZ=#[.int .u8 0,.int .u8 0,.int .u8 0,.int .u8 0,.int .u8 0,.int .u8 0,.int .u8 0,.int .u8 0,.int .u8 0,.int .u8 0,.int .u8 0,.int .u8 0,.int .u8 0,.int .u8 0,.int .u8 0,.int .u8 0,.int .u8 0,.int .u8 0,.int .u8 0,.int .u8 0,.int .u8 0,.int .u8 0,.int .u8 0,.int .u8 0,.int .u8 0,.int .u8 0,.int .u8 0,.int .u8 0,.int .u8 0,.int .u8 0,.int .u8 0,.int .u8 0]:=by kernel_rfl
 have HZ:=sH hz;have HO:=sH ho;have HE:=sH he;clear hz ho he;generalize inkZ=zd at HZ HO HE ⊢;have hX:zD w.heap.size w (w.alloc (.cells zd 51)):=(zR _ _).alloc (zP _) _;have HN:=sH (fun W hb=>Q76 W p (h.below hb));have HX:=sH hX;clear h hX;go_enter Tryz.func110,Tryz.ntmps110
 go_wp2_with fail
 refine(HN.out _ ((zR _ _).alloc (zP _) _)).mono ?_;rintro _ _ ⟨rfl,rfl⟩;go_wp2_with (refine Q00 rfl 51 (.tmp 4) _ rfl w.heap.size 0 zd rfl (by rw [HE.out]; rfl) 51 zd (by rw [HE.out]; exact Blk.newAt rfl) (by rw [HZ.out]; rfl) (by rw [HZ.out]; simp) HO.out ?_; intro W5 hT5 hB5; rw [Q0a _ _ rfl] at hB5)
 refine bodyPost_ret (Q03 rfl _ _ w.heap.size 32 51 _ _ rfl hB5 Tryz.underlying51 rfl rfl HZ.out) rfl ⟨rfl,?_⟩;have:=HX.out;rw [HE.out] at this;exact hT5.below this (zP _)
end
section
open Go.RowKit Go.WideShapes Go.ChangeShapes
section
variable {H:Type} {enc:zE×zC->H} {P:zG} {w:zB} {held:Bool}
def vn (z:Int):zC:=.int .i64 z
end
end
section
open Go.RowKit Go.Maps
theorem Q02 (W:zB) (o:Obj):zD W.heap.size W (W.alloc o):=(zR _ _).alloc (zP _) _
end
section
def Q1Z (x:List UInt8):List UInt8:=0 :: x
def Q2y (x:List UInt8):List UInt8:=Q14 (Q1Z x)
def upIn (ds:LL):List UInt8:=1 :: ds.flatten
def upD (ds:LL):List UInt8:=Q14 (upIn ds)
def grp (ds:LL) (p:Nat):LL:=(ds.drop (4*p)).take 4
def grps (n:Nat):Nat:=(n+3) / 4
def Q1H (ds:LL):LL:=(zN (grps ds.length)).map fun p=>upD (grp ds p)
def Digs (ds:LL):Prop:=∀ d,d∈ds->d.length=32
theorem Q2n (x:List UInt8):(Q2y x).length=32:=Q3e _
theorem Q58 (ds:LL):(upD ds).length=32:=Q3e _
theorem Q2d (ds:LL):(Q1H ds).length=grps ds.length:=by simp [Q1H]
theorem Q5R (ds:LL):Digs (Q1H ds):=fun d hd=>by obtain⟨p,_,rfl⟩:=List.mem_map.1 hd;exact Q58 _
theorem Q8x (ls:LL):Digs (ls.map Q2y):=fun d hd=>by obtain⟨p,_,rfl⟩:=List.mem_map.1 hd;exact Q2n _
theorem Q9b {ds:LL} (h:Digs ds) (p:Nat):Digs (grp ds p):=fun d hd=>h d (List.mem_of_mem_drop (List.mem_of_mem_take hd))
theorem Q3Y:∀ {ds:LL},Digs ds->ds.flatten.length=32*ds.length
 | [],_=>rfl
 | d :: t,h=>by
  have h1:=h d (List.mem_cons_self ..);have h2:=Q3Y (ds:=t) fun e he=>h e (List.mem_cons_of_mem _ he)
  simp only [List.flatten_cons,zQ,zT];omega
theorem upIn_len {ds:LL} (h:Digs ds):(upIn ds).length=1+32*ds.length:=by unfold upIn;rw [zT,Q3Y h];omega
theorem Digs.set {ds:LL} (h:Digs ds) (i:Nat) {d:List UInt8} (hd:d.length=32):Digs (ds.set i d):=fun e he=>by
 rcases List.mem_or_eq_of_mem_set he with h1 | rfl
 ·exact h e h1
 exact hd
theorem QaC (ds:LL) (p j:Nat):(grp ds p)[j]?=if j<4 then ds[4*p+j]? else none:=by unfold grp;rw [List.getElem?_take];split <;> simp
theorem Q5P (ds:LL) (i p:Nat) (d:List UInt8) (h:p≠i / 4):grp (ds.set i d) p=grp ds p:=by
 apply List.ext_getElem?
 intro j;rw [QaC,QaC];split
 ·rename_i hj;rw [List.getElem?_set];rw [if_neg (by omega)]
 rfl
theorem Q6b (ds:LL) (p:Nat):(Q1H ds)[p]?=if p<grps ds.length then some (upD (grp ds p)) else none:=by
 unfold Q1H;rw [List.getElem?_map];split
 ·rename_i h; rw [List.getElem?_range h]; rfl
 rename_i h; rw [List.getElem?_eq_none (by simpa using h)]; rfl
theorem Qa3 (ds:LL) (i:Nat) (d:List UInt8) (h:i<ds.length):Q1H (ds.set i d)=(Q1H ds).set (i / 4) (upD (grp (ds.set i d) (i / 4))):=by
 apply List.ext_getElem?
 intro p;rw [List.getElem?_set,Q6b,Q6b,List.length_set];by_cases hp:i / 4=p
 ·subst hp;rw [if_pos rfl,if_pos (by unfold grps; omega),Q2d,if_pos (by unfold grps; omega)]
 rw [if_neg hp,Q5P _ _ _ _ (fun e=>hp e.symm)]
def lv (ls:LL):Nat->LL
 | 0=>ls.map Q2y
 | n+1=>Q1H (lv ls n)
theorem Q4i (ls:LL):∀ n,Digs (lv ls n)
 | 0=>Q8x ls
 | n+1=>Q5R _
theorem Q5c (ls:LL):(lv ls 0).length=ls.length:=by simp [lv]
theorem Q55 (ls:LL):(lv ls 1).length=grps ls.length:=by show (Q1H (lv ls 0)).length=_;rw [Q2d,Q5c]
theorem lv_len2 (ls:LL):(lv ls 2).length=grps (grps ls.length):=by show (Q1H (lv ls 1)).length=_;rw [Q2d,Q55]
theorem Qas (ls:LL) (i:Nat) (x:List UInt8):lv (ls.set i x) 0=(lv ls 0).set i (Q2y x):=by simp [lv,List.map_set]
structure Q1f (L:LL) (ls:LL):Prop where
 leaf:∀ x,x∈ls->Q1Z x∈L
 one:∀ p,p<grps ls.length->upIn (grp (lv ls 0) p)∈L
 two:upIn (lv ls 1)∈L
theorem Q1f.more {L L' ls:LL} (h:Q1f L ls) (hs:∀ x,x∈L->x∈L'):Q1f L' ls:=⟨fun x hx=>hs _ (h.leaf x hx),fun p hp=>hs _ (h.one p hp),hs _ h.two⟩
theorem Q1f.set {L L' ls:LL} {i:Nat} {x:List UInt8} (h:Q1f L ls) (hi:i<ls.length) (hs:∀ y,y∈L->y∈L') (h0:Q1Z x∈L') (h1:upIn (grp (lv (ls.set i x) 0) (i / 4))∈L') (h2:upIn (lv (ls.set i x) 1)∈L'):Q1f L' (ls.set i x):=by
 refine⟨fun y hy=>?_,fun p hp=>?_,h2⟩
 ·rcases List.mem_or_eq_of_mem_set hy with hm | rfl
  ·exact hs _ (h.leaf y hm)
  exact h0
 by_cases he:p=i / 4
 ·subst he; exact h1
 rw [Qas,Q5P _ _ _ _ he];rw [List.length_set] at hp;exact hs _ (h.one p hp)
def nd (n:Nat):Nat:=if h:n=0 then 0 else nd (n / 256)+1
theorem nd_zero:nd 0=0:=by unfold nd; simp
theorem nd_pos {n:Nat} (h:n≠0):nd n=nd (n / 256)+1:=by rw [nd]; simp [h]
theorem nd_gt (n:Nat):∀ j,(0<n / 256 ^ j <-> j<nd n):=by
 induction n using Nat.strongRecOn with
 | _ n ih =>
  intro j;by_cases h:n=0
  ·subst h; simp [nd_zero]
  rw [nd_pos h];cases j with
  | zero=>simp; omega
  | succ j =>rw [Nat.pow_succ,Nat.mul_comm,<- Nat.div_div_eq_div_mul,ih (n / 256) (by omega) j];omega
theorem nd_le {n k:Nat} (h:n<256 ^ k):nd n<=k:=by
 rcases zF k (nd n) with h1 | h1
 ·have:=(nd_gt n k).2 h1;rw [Nat.div_eq_of_lt h] at this;omega
 exact h1
def dig (n k i:Nat):UInt8:=zM (n / 256 ^ (k - 1 - i) % 256)
def digs (n k:Nat):List UInt8:=(zN k).map (dig n k)
theorem Q9i (n k:Nat):(digs n k).length=k:=by simp [digs]
theorem QaF (n k:Nat):digs n (k+1)=digs (n / 256) k++[zM (n % 256)]:=by
 unfold digs;rw [List.range_succ,List.map_append];congr 1
 ·apply List.map_congr_left
  intro i hi;have hi:=List.mem_range.1 hi;unfold dig;rw [show k+1 - 1 - i=(k - 1 - i)+1 by omega,Nat.pow_succ,Nat.mul_comm,<- Nat.div_div_eq_div_mul]
 simp [dig]
def numB (n:Nat):List UInt8:=zM (nd n) :: digs n (nd n)
def valB (l:List UInt8):Nat:=l.foldl (fun a b=>a*256+b.toNat) 0
theorem Q49 (l:List UInt8) (b:UInt8):valB (l++[b])=valB l*256+b.toNat:=by simp [valB,List.foldl_append]
theorem Q4h (l:List UInt8) (k:Nat) (h:l.length=k+1):l=l.take k++[l[k]'(by omega)]:=by rw [List.take_append_getElem (by omega),<- h,List.take_length]
theorem Q8w (k:Nat):∀ l:List UInt8,l.length=k->valB l<256 ^ k:=by
 induction k with
 | zero=>intro l h; rw [zH h]; decide
 | succ k ih =>intro l h;rw [Q4h l k h,Q49,Nat.pow_succ];have h1:=ih (l.take k) (by simp; omega);have h2:=(l[k]'(by omega)).toNat_lt;omega
theorem Qbh (k:Nat):∀ l:List UInt8,l.length=k->digs (valB l) k=l:=by
 induction k with
 | zero=>intro l h; rw [zH h]; rfl
 | succ k ih =>
  intro l h;have hl:=Q4h l k h;have hb:=(l[k]'(by omega)).toNat_lt;have hv:valB l=valB (l.take k)*256+(l[k]'(by omega)).toNat:=by rw [<- Q49,<- hl]
  rw [QaF,hv,show (valB (l.take k)*256+(l[k]'(by omega)).toNat) / 256=valB (l.take k) by omega,show (valB (l.take k)*256+(l[k]'(by omega)).toNat) % 256=(l[k]'(by omega)).toNat by omega,ih _ (by simp; omega)];rw [UInt8.ofNat_toNat];exact hl.symm
theorem valB_ge (l:List UInt8) (k:Nat) (h:l.length=k+1) (h0:l.head?≠some 0):256 ^ k<=valB l:=by
 induction k generalizing l with
 | zero =>
  match l,h with
  | [b],_ =>
   have:b.toNat≠0:=fun e=>h0 (by simp; exact UInt8.toNat_inj.1 e)
   simp [valB]; omega
 | succ k ih =>
  have hl:=Q4h l (k+1) h;have hv:valB l=valB (l.take (k+1))*256+(l[k+1]'(by omega)).toNat:=by rw [<- Q49,<- hl]
  have h1:=ih (l.take (k+1)) (by simp; omega) (by rw [List.head?_take]; simpa using h0);rw [hv,Nat.pow_succ];omega
theorem nd_back (l:List UInt8) (h0:0<l.length->l.head?≠some 0):nd (valB l)=l.length:=by
 have h1:nd (valB l)<=l.length:=nd_le (Q8w _ l rfl);cases hk:l.length with
 | zero=>omega
 | succ k =>have h2:=valB_ge l k hk (h0 (by omega));have h3:0<valB l / 256 ^ k:=Nat.div_pos h2 (Nat.pow_pos (by omega));have:=(nd_gt (valB l) k).1 h3;omega
theorem Qan (m:UInt8) (l:List UInt8) (hm:m.toNat=l.length) (h0:0<l.length->l.head?≠some 0):numB (valB l)=m :: l:=by unfold numB;rw [nd_back l h0,Qbh _ l rfl,<- hm,UInt8.ofNat_toNat]
def maxN:Nat:=9007199254740991
theorem QaW {n:Nat} (h:n<=maxN):nd n<=7:=nd_le (by unfold maxN at h; omega)
def Q3M (b:List UInt8):Except Nat (Nat×List UInt8) :=
 match b with
 | []=>.error 3
 | m :: r =>
  if 7<m.toNat then .error 4
  else if r.length<m.toNat then .error 3
  else if 0<m.toNat/\r.head?=some 0 then .error 4
  else if maxN<valB (r.take m.toNat) then .error 9
  else .ok (valB (r.take m.toNat),r.drop m.toNat)
theorem nd_byte {n:Nat} (h:n<=maxN):(zM (nd n)).toNat=nd n:=by have:=QaW h;rw [UInt8.toNat_ofNat',Nat.mod_eq_of_lt (by omega)]
theorem Q4k {b r:List UInt8} {n:Nat} (h:Q3M b=.ok (n,r)):b=numB n++r/\n<=maxN:=by
 unfold Q3M at h;match b,h with
 | m :: t,h =>
  simp only at h;split at h
  ·cases h
  split at h
  ·cases h
  split at h
  ·cases h
  rename_i h1 h2 h3;split at h
  ·cases h
  rename_i h4;injection h with h
  injection h with h5 h6
  subst h5 h6;refine⟨?_,by omega⟩;have hl:(t.take m.toNat).length=m.toNat:=by simp; omega
  rw [Qan m (t.take m.toNat) hl.symm (fun hp=>by rw [List.head?_take,if_neg (by omega)];exact fun e=>h3 ⟨by omega,e⟩),List.cons_append,List.take_append_drop]
theorem Q3s {n:Nat} (h:n<=maxN):1<=(numB n).length/\(numB n).length<=8:=by have:=QaW h;unfold numB;simp [Q9i];omega
def takeF (b:List UInt8) (n:Nat):Except Nat (List UInt8×List UInt8):=if b.length<n then .error 3 else .ok (b.take n,b.drop n)
def takeS (b:List UInt8) (most:Nat):Except Nat (List UInt8×List UInt8) :=
 match Q3M b with
 | .error e=>.error e
 | .ok (n,r)=>if min most 65536<n then .error 5 else takeF r n
def strB (s:List UInt8):List UInt8:=numB s.length++s
end
section
open Go.RowKit
theorem Q8t (w:zB) (x:zC) (t:zE):Q04 (w.alloc (.cells #[x] t)) (w.heap.size+1) 1 (some ⟨w.heap.size,0,none⟩) 1 [x] :=⟨rfl,fun _=>⟨_,rfl,Nat.lt_succ_self _,cell_one_new w x t⟩⟩
theorem Q8z (n j:Nat):(n:Int) / 2 ^ (8*j)=((n / 256 ^ j:Nat):Int):=by
 rw [Nat.pow_mul 2 8 j |> fun h=>(show (2:Int) ^ (8*j)=((2 ^ (8*j):Nat):Int) by simp)];rw [Nat.pow_mul]
 simp
theorem Q6h (n:Nat) (hn:n<=maxN) (w:zB) :
 Calls zO 83 #[.int .i64 (n:Int)] w fun e w'=>∃ v,e=.returned (.tuple #[v,.int .i64 0])/\OwnB w' w.heap.size v (numB n)/\zD w.heap.size w w':=by
 have h7:=QaW hn;unfold maxN at hn;obtain⟨i0,hi0,hz0,hz1,hz2⟩:=info_parts Q2p;go_enter Tryz.func83,Tryz.ntmps83
 go_wp2_with fail
 go_loopw [4] (fun mv wr=>∃ j:Nat,j<=nd n/\mv=.int .i64 j/\w=wr) (fun mv _=>8 - (intOf mv).toNat)
 case atStart=>exact⟨0,by omega,rfl,rfl⟩
 obtain⟨j,hj,rfl,rfl⟩:=hrel;by_cases hjn:j<nd n
 ·have hsh:(0:Int)<(n:Int) / 2 ^ (8*j):=by rw [Q8z]; have:=(nd_gt n j).2 hjn; omega
  go_wp2_with fail
  go_roundw
  case rel=>exact⟨j+1,by omega,by go_num,trivial⟩
  case measure=>simp [intOf]; omega
 obtain rfl:j=nd n:=by omega
 have hsh:¬ (0:Int)<(n:Int) / 2 ^ (8*nd n):=by rw [Q8z]; have:=(nd_gt n (nd n)); omega
 go_wp2_with fail
 clear hsh;have hX:zD w.heap.size w (w.alloc (.cells #[.int .u8 (nd n:Int)] 5)):=(zR _ _).alloc (zP _) _;have hb0:vb (zM (nd n))=.int .u8 (nd n:Int):=by unfold vb bi; rw [nd_byte hn]
 have ho:OwnB (w.alloc (.cells #[.int .u8 (nd n:Int)] 5)) w.heap.size (.slice (some ⟨w.heap.size,0,none⟩) 1 1) ((numB n).take 1):=by rw [<- hb0];exact⟨rfl,.inr ⟨w.heap.size,1,_,rfl,zP _,heap_alloc_new w _,zP _,by unfold maxLen; omega,rfl,rfl⟩⟩
 have HO:=sH ho;have HX:=sH hX;clear ho hX hb0;go_loopw [5,24] (fun ov iv w2=>∃ (i:Nat),i<=nd n/\iv=.int .i64 i/\OwnB w2 w.heap.size ov ((numB n).take (i+1))/\zD w.heap.size w w2) (fun _ iv _=>nd n - (intOf iv).toNat)
 case atStart=>exact⟨0,by omega,rfl,HO.out,HX.out⟩
 obtain⟨i,hi,rfl,hov,hbel⟩:=hrel;have hown:=hov;unfold OwnB at hown;have HOV:=sH hov;have HWN:=sH hown;have HB:=sH hbel;have hsz:=hbel.size;clear hov hown hbel;have hlen:(numB n).length=nd n+1:=by simp [numB,Q9i]
 by_cases hin:i<nd n
 ·have hd:vb (dig n (nd n) i)=.int .u8 ((n:Int) / 2 ^ (8*(nd n - 1 - i)) % 256):=by
   rw [Q8z]; unfold vb bi dig; rw [UInt8.toNat_ofNat']; congr 1; omega
  have hnext:(numB n).take (i+1+1)=(numB n).take (i+1)++[dig n (nd n) i]:=by rw [za (by omega)];simp [numB,digs]
  have HD:=sH hd;have HNX:=sH hnext;have hti:((numB n).take (i+1)).length=i+1:=by rw [List.length_take]; omega
  have HTI:=sH hti;clear hd hnext hlen hti;go_wp2_with (at_builtin; go_must (refine Q05 _ rfl (.tmp 27) (.tmp 36) 28 rfl w.heap.size 5 i0 _ 1 1 Tryz.underlying28 hi0 hz0 hz1 hz2 rfl (by omega) _ _ _ rfl (HWN.out.alloc _) (wr.heap.size+1) (some ⟨wr.heap.size,0,none⟩) 1 1 [.int .u8 ((n:Int) / 2 ^ (8*(nd n - 1 - i)) % 256)] rfl (Q8t _ _ _) (by simp [Value.oneCell']) ?c1 ?c2 ?c3 ?_))
  case c1=>have:=HTI.out; unfold maxLen; omega
  case c2=>have:=HTI.out; omega
  case c3=>simp; omega
  intro v3 w3 hown3 hg3 hor3;have hb3:=Q0i (HB.out.trans ((zR _ _).alloc (zP _) (.cells #[.int .u8 ((n:Int) / 2 ^ (8*(nd n - 1 - i)) % 256)] 5) |>.mono hsz)) (by simp; omega) hg3 (fun b hb=>HOV.out.ge hb);have HB3:=sH hb3;have HO3:=sH (show OwnB w3 w.heap.size v3 ((numB n).take (i+1+1)) by unfold OwnB;rw [HNX.out,zQ,List.map_append,List.length_singleton,List.map_singleton,HD.out];simpa [List.map_take] using hown3)
  clear hb3 hown3 hg3 hor3;go_wp2_with fail
  go_roundw
  case rel=>exact⟨i+1,by omega,by go_num,HO3.out,HB3.out⟩
  case measure=>simp [intOf]; omega
 obtain rfl:i=nd n:=by omega
 go_wp2_with fail
 go_ret2
 refine⟨_,rfl,?_,HB.out⟩;have:=HOV.out;rw [List.take_of_length_le (by omega)] at this;exact this
theorem Q54 (A:Option zA) (n c:Nat) (xs:List UInt8) (w:zB) (B:Nat) (h:Q04 w B 1 A n (xs.map vb)) (hB:B<=w.heap.size) (hn:n<=140737488355328) :
 Calls zO 48 #[.slice A n c] w fun e w'=>∃ v,e=.returned v/\OwnB w' w.heap.size v xs/\zD w.heap.size w w':=by
 have hxn:xs.length=n:=by have:=h.1; simpa using this
 have HXN:=sH hxn;clear hxn;obtain⟨i0,hi0,hz0,hz1,hz2⟩:=info_parts Q2p;have hnil:∀ (w:zB) (a:Option zA) (n c n' c':Nat),(binOp .eql 28 (.slice a n c) (.slice none n' c')).run zO w=.ok (.bool a.isNone) w:=fun w a n c n' c'=>Lib.run_eql_slice_nil w _ _ a n c n' c' Tryz.underlying28
 cases A with
 | none =>
  have h0:n=0:=by
   rcases Nat.eq_zero_or_pos n with h0 | h0
   ·exact h0
   obtain⟨ad,e,_⟩:=h.2 h0; cases e
  subst h0;have hx0:xs=[]:=zH HXN.out;subst hx0;go_enter Tryz.func48,Tryz.ntmps48
  go_wp2_with fail
  go_ret
  exact⟨_,rfl,OwnB.nil _ _,zR _ _⟩
 | some ad =>
  go_enter Tryz.func48,Tryz.ntmps48
  go_wp2_with (at_builtin; go_must (refine Q05 _ rfl (.tmp 5) (.tmp 6) 28 rfl w.heap.size 5 i0 _ 1 1 Tryz.underlying28 hi0 hz0 hz1 hz2 rfl (by omega) (.slice (some ⟨w.heap.size,0,none⟩) 0 0) 0 [] rfl ⟨rfl,.inr ⟨w.heap.size,0,#[],rfl,zP _,heap_alloc_new w _,zP _,Nat.zero_le _,rfl,rfl⟩⟩ B (some ad) n c (xs.map vb) rfl (h.alloc hB _) ?c1 ?c2 ?c3 ?c4 ?_))
  case c1=>intro u hu; obtain⟨x,_,rfl⟩:=List.mem_map.1 hu; rfl
  case c2=>unfold maxLen; omega
  case c3=>omega
  case c4=>simp
  intro v1 w1 hown1 hg1 hor
  go_wp2
  go_ret
  refine⟨v1,rfl,?_,Q0i ((zR _ _).alloc (zP _) _) (by simp) hg1 (fun b hb=>by simp [Value.ownBlock] at hb; omega)⟩;unfold OwnB;rw [HXN.out];simpa using hown1
theorem OwnB.row {w:zB} {B:Nat} {v:zC} {xs:List UInt8} (h:OwnB w B v xs):w.ownsRow B 5 1 v xs.length (xs.map vb):=h
def RowsB (w:zB) (B:Nat) (A:Option zA) (n:Nat) (xss:LL):Prop :=xss.length=n/\(0<n->∃ ad,A=some ad/\ad.block<B/\∀ (k:Nat) (x:List UInt8),xss[k]?=some x->∃ Ak mk ck,w.cell? (ad.add k)=some (.slice Ak mk ck)/\Q04 w B 1 Ak mk (x.map vb))
theorem join_any (A:Option zA) (n c:Nat) (xss:LL) (w:zB) (B:Nat) (h:RowsB w B A n xss) (hB:B<=w.heap.size) (hn:n<=1000000) (hl:xss.flatten.length<=100000000) :
 Calls zO 78 #[.slice A n c] w fun e w'=>∃ v,e=.returned v/\OwnB w' w.heap.size v xss.flatten/\zD w.heap.size w w':=by
 have H:=sH h;have hxn:=h.1;have HXN:=sH hxn;clear h hxn;obtain⟨i0,hi0,hz0,hz1,hz2⟩:=info_parts Q2p;go_enter Tryz.func78,Tryz.ntmps78
 go_wp2_with fail
 go_loopw [3,8] (fun ov iv wr=>∃ i:Nat,i<=n/\iv=.int .i64 i/\OwnB wr w.heap.size ov (xss.take i).flatten/\zD w.heap.size w wr) (fun _ iv _=>n - (intOf iv).toNat)
 case atStart=>exact⟨0,by omega,rfl,OwnB.nil _ _,zR _ _⟩
 obtain⟨i,hi,rfl,hov,hbel⟩:=hrel;have HOV:=sH hov;have HB:=sH hbel;have hsz:=hbel.size;clear hov hbel;by_cases hin:i<n
 ·obtain⟨ad,hA,hadb,hcell⟩:=H.out.2 (by omega);subst hA;have hxi:i<xss.length:=by have:=HXN.out; omega
  obtain⟨Ak,mk,ck,hck,hrk⟩:=hcell i xss[i] (List.getElem?_eq_getElem hxi);have hck':=(HB.out.cell (show (ad.add i).block<w.heap.size by rw [Q0d]; omega)).trans hck;have hrk':=hrk.below (HB.out.mono hB);have hmk:xss[i].length=mk:=by have:=hrk.1; simpa using this
  obtain⟨ys,hys⟩:∃ ys,ys=(xss.take i).flatten:=⟨_,rfl⟩;have htk:(xss.take (i+1)).flatten=(xss.take i).flatten++xss[i]:=by rw [za hxi,List.flatten_append]; simp only [List.flatten_cons,List.flatten_nil,List.append_nil]
  have htl:(xss.take (i+1)).flatten.length<=xss.flatten.length:=by
   conv=>rhs; rw [<- List.take_append_drop (i+1) xss,List.flatten_append,zQ]
   omega
  rw [htk,zQ] at htl;rw [<- hys] at HOV htk htl;have HTK:=sH htk;have HYS:=sH hys;clear hys;have HWN:=sH HOV.out.row;have HRK:=sH hrk';generalize xss[i]=x at HTK HRK hmk htl;have HMK:=sH hmk;clear hcell hck hrk hrk' hmk htk;go_wp2_with (at_builtin; go_must (refine Q05 _ rfl (.tmp 12) (.tmp 13) 28 rfl w.heap.size 5 i0 _ 1 1 Tryz.underlying28 hi0 hz0 hz1 hz2 rfl (by omega) _ _ _ rfl HWN.out B Ak mk ck (x.map vb) rfl HRK.out ?c1 ?c2 ?c3 ?c4 ?_))
  case c1=>intro u hu; obtain⟨y,_,rfl⟩:=List.mem_map.1 hu; rfl
  case c2=>have:=HMK.out; unfold maxLen; omega
  case c3=>have:=HMK.out; omega
  case c4=>omega
  intro v3 w3 hown3 hg3 hor3;have HB3:=sH (Q0i HB.out hsz hg3 (fun b hb=>HOV.out.ge hb));have HO3:=sH (show OwnB w3 w.heap.size v3 (xss.take (i+1)).flatten by unfold OwnB;rw [HTK.out,zQ,List.map_append,HMK.out];exact hown3)
  clear hown3 hg3 hor3;go_wp2_with fail
  go_roundw
  case rel=>exact⟨i+1,by omega,by go_num,HO3.out,HB3.out⟩
  case measure=>simp [intOf]; omega
 obtain rfl:i=n:=by omega
 go_wp2_with fail
 go_ret
 refine⟨_,rfl,?_,HB.out⟩;have:=HOV.out;rw [List.take_of_length_le (by have:=HXN.out; omega)] at this;exact this
theorem Qb5 {w:zB} {t:zE} {A A':Option zA} {n n' c c':Nat} {xs ys:List UInt8} (h:Q04 w w.heap.size 1 A n (xs.map vb)) (h':Q04 w w.heap.size 1 A' n' (ys.map vb)) :
 RowsB (w.alloc (.cells #[.slice A n c,.slice A' n' c'] t)) (w.heap.size+1) (some ⟨w.heap.size,0,none⟩) 2 [xs,ys]:=by
 have hb:zD w.heap.size w (w.alloc (.cells #[.slice A n c,.slice A' n' c'] t)):=(zR _ _).alloc (zP _) _;have hk:Blk (w.alloc (.cells #[.slice A n c,.slice A' n' c'] t)) w.heap.size t #[.slice A n c,.slice A' n' c']:=Blk.newAt rfl;refine⟨rfl,fun _=>⟨_,rfl,Nat.lt_succ_self _,fun k x hx=>?_⟩⟩;match k,hx with
 | 0,hx=>simp at hx; subst hx; exact⟨_,_,_,(hk.cell 0).trans rfl,(h.below hb).more (by omega)⟩
 | 1,hx=>simp at hx; subst hx; exact⟨A',n',c',(by rw [show ((⟨w.heap.size,0,none⟩:zA).add 1)=⟨w.heap.size,1,none⟩ from rfl]; exact(hk.cell 1).trans rfl),(h'.below hb).more (by omega)⟩
theorem str_any (A:Option zA) (n c:Nat) (xs:List UInt8) (w:zB) (B:Nat) (h:Q04 w B 1 A n (xs.map vb)) (hB:B<=w.heap.size) (hn:n<=65536) :
 Calls zO 55 #[.slice A n c] w fun e w'=>∃ v,e=.returned (.tuple #[v,.int .i64 0])/\OwnB w' w.heap.size v (strB xs)/\zD w.heap.size w w':=by
 have hxn:xs.length=n:=by have:=h.1; simpa using this
 have H:=sH h;have HXN:=sH hxn;clear h hxn;go_enter Tryz.func55,Tryz.ntmps55
 go_wp2_with fail
 refine(Q6h n (by unfold maxN; omega) w).mono ?_;rintro _ w2 ⟨v,rfl,hov2,hb2⟩;obtain⟨Av,cv,rfl,hvc,hvm,hvr,hvB⟩:=Q0m hov2;have hx8:=Q3s (show n<=maxN by unfold maxN; omega);have hs2:=hb2.size;have hrow:=Qb5 (t:=28) (c:=cv) (c':=c) hvr ((H.out.below (hb2.mono hB)).more (by omega));have HROW:=sH hrow;have HB2:=sH hb2;obtain⟨xb,hxb⟩:∃ xb,xb=numB n:=⟨_,rfl⟩;rw [<- hxb] at hx8 HROW ⊢;have HXB:=sH hxb;clear hov2 hb2 hvr hxb hrow hvc;go_wp2_with fail
 refine(join_any _ 2 2 _ _ _ HROW.out (by simp) (by omega) (by simp; have:=HXN.out; omega)).mono ?_;rintro _ w3 ⟨v3,rfl,ho3,hb3⟩;have HB3:=sH ((HB2.out.trans (((zR _ w2).alloc (zP _) _).mono hs2)).trans (hb3.mono (by simp; omega)));have HO3:=sH ho3;clear ho3 hb3;go_wp2_with fail
 go_ret2
 refine⟨_,rfl,?_,HB3.out⟩;have:=HO3.out.more (B':=w.heap.size) (by simp; omega);unfold strB;rw [HXN.out,<- HXB.out];simpa using this
theorem Q4C {P:zG} {t e:zE} (ht:P.underlying t=some (.slice e)) (hs:(P.info? e).map (·.size)=some 1) (A:Option zA) (len cap h:Nat) (hi:Int) (eh:hi=h) (hl:h<=cap) (W:zB) :
 (Instr.slice t (.slice A len cap) none (some (.int .i64 hi)) none).run P W=.ok (.slice (if cap=0 then A else A.map (·.add 0)) h cap) W:=by
 subst eh;obtain⟨i,hi,hsz⟩:∃ i,P.info? e=some i/\i.size=1:=by
  cases hh:P.info? e with
  | none=>rw [hh] at hs; cases hs
  | some i=>rw [hh] at hs; exact⟨i,rfl,by simpa using hs⟩
 have he:P.elem t=e:=by simp [Program.elem,ht]
 rw [run_slice_h W t A len cap (by rw [he]; exact ht) .i64 (h:Int) (by omega) (by omega)];simp [he,sizeOf,typeInfo,hi,hsz,sliced]
theorem Q04.to {w:zB} {B n:Nat} {A:Option zA} {xs:List zC} (h:Q04 w B 1 A n xs) {k cap:Nat} (hk:k<=n) (hc:n<=cap) :
 Q04 w B 1 (if cap=0 then A else A.map (·.add 0)) k (xs.take k):=by
 refine⟨by have:=h.1; simp; omega,fun hn=>?_⟩;obtain⟨ad,rfl,hb,hcell⟩:=h.2 (by omega);rw [if_neg (by omega)];refine⟨ad.add 0,rfl,by rw [Q0d]; exact hb,fun j u hu=>?_⟩;rw [Q2b,zS];refine hcell j u ?_;rw [List.getElem?_take] at hu;split at hu
 ·exact hu
 cases hu
theorem Q6W {P:zG} {t e:zE} (ht:P.underlying t=some (.slice e)) (hs:(P.info? e).map (·.size)=some 1) (A:Option zA) (len cap l h:Nat) (li hi:Int) (el:li=l) (eh:hi=h) (hl:l<=h) (hh:h<=cap) (W:zB) :
 (Instr.slice t (.slice A len cap) (some (.int .i64 li)) (some (.int .i64 hi)) none).run P W=.ok (.slice (if cap=l then A else A.map (·.add l)) (h - l) (cap - l)) W:=by
 subst el eh;obtain⟨i,hi,hsz⟩:∃ i,P.info? e=some i/\i.size=1:=by
  cases hh:P.info? e with
  | none=>rw [hh] at hs; cases hs
  | some i=>rw [hh] at hs; exact⟨i,rfl,by simpa using hs⟩
 have he:P.elem t=e:=by simp [Program.elem,ht]
 rw [run_slice_lh W t A len cap (by rw [he]; exact ht) .i64 .i64 (l:Int) (h:Int) (by omega) (by omega) (by omega)];simp [he,sizeOf,typeInfo,hi,hsz,sliced]
end
end Go.Proofs.YtckjnbjiafgibaaGreat
