/- Parts of the proof, in one text: Loud, TreeF, TreeG, TreeH. -/
import Derived.Test.YtcpngeiahgoacaaGreatD5
import Derived.Test.YtcpngeiahgoacaaGreatD6
import Derived.Test.YtcpngeiahgoacaaGreatD2
import Derived.Laws.EntriesVeiled
import Derived.BigRegion
namespace Go.Proofs.YtcpngeiahgoacaaGreat
set_option linter.unusedVariables false
set_option linter.unusedSimpArgs false
set_option maxRecDepth 100000
set_option maxHeartbeats 16000000
section
open Go.RowKit
def Q2u (md:Region.Mode) (ops:Array Oper):Nat->Nat->Nat->Bool
 | 0,_,_=>false
 | f+1,i,j=>match ops[i]? with
  | none=>false
  | some o=>o.after.any fun e=>Region.binds md e && (e.on == j || Q2u md ops f e.on j)
theorem Q1k {md:Region.Mode} {ops:Array Oper} {n:Nat} {listed:Array Bool} (inv:HeadInv md ops n listed) (j:Nat):∀ (f i:Nat) (o:Oper),Q2u md ops f i j=true->ops[i]?=some o->(∀ e∈o.after,Region.binds md e=true->listed.getD e.on false=true)->listed.getD j false=true
 | 0,_,_,h,_,_=>by cases h
 | f+1,i,o,h,ho,hall=>by
  unfold Q2u at h;rw [ho] at h;obtain⟨e,he,hb⟩:=Array.any_eq_true'.1 h;simp only [Bool.and_eq_true,Bool.or_eq_true,beq_iff_eq] at hb;have hl:=hall e he hb.1;rcases hb.2 with h1 | h1
  ·rw [<- h1]; exact hl
  ·cases hq:ops[e.on]? with
   | none =>
    cases f with
    | zero=>cases h1
    | succ f=>unfold Q2u at h1; rw [hq] at h1; cases h1
   | some o'=>exact Q1k inv j f e.on o' h1 hq (inv.closed e.on o' hq hl)
def Q4O (md:Region.Mode) (ops:Array Oper) (n:Nat):List Nat->Bool
 | []=>true
 | [x]=>decide (x<n)
 | x :: y :: t=>decide (x<n) && decide (x<y) && Q2u md ops ops.size y x && Q4O md ops n (y :: t)
theorem Q3X {md:Region.Mode} {ops:Array Oper} {n:Nat}:∀ {l:List Nat},Q4O md ops n l=true->∀ x,x∈l->x<n
 | [],_,x,hx=>by cases hx
 | [y],h,x,hx=>by rw [List.mem_singleton] at hx; subst hx; simpa [Q4O] using h
 | y :: z :: t,h,x,hx=>by
  simp only [Q4O,Bool.and_eq_true,decide_eq_true_eq] at h;rcases List.mem_cons.1 hx with rfl | hx
  ·exact h.1.1.1
  ·exact Q3X h.2 x hx
theorem Q2P {md:Region.Mode} {ops:Array Oper} {n:Nat}:∀ {l:List Nat},Q4O md ops n l=true->∀ k x y,l[k]?=some x->l[k+1]?=some y->x<y/\Q2u md ops ops.size y x=true
 | [],_,k,x,y,hx,_=>by simp at hx
 | [z],_,k,x,y,_,hy=>by simp at hy
 | z :: z' :: t,h,0,x,y,hx,hy=>by
  simp only [Q4O,Bool.and_eq_true,decide_eq_true_eq] at h;simp at hx hy;subst hx hy;exact⟨h.1.1.2,h.1.2⟩
 | z :: z' :: t,h,k+1,x,y,hx,hy=>by
  simp only [Q4O,Bool.and_eq_true,decide_eq_true_eq] at h;exact Q2P h.2 k x y (by simpa using hx) (by simpa using hy)
theorem Q5E {md:Region.Mode} {ops:Array Oper} {n:Nat} {l:List Nat} (h:Q4O md ops n l=true):∀ (d k:Nat) (x y:Nat),l[k]?=some x->l[k+(d+1)]?=some y->x<y
 | 0,k,x,y,hx,hy=>(Q2P h k x y hx hy).1
 | d+1,k,x,y,hx,hy=>by
  have hl:k+(d+1)<l.length:=by
   have:=(List.getElem?_eq_some_iff.1 hy).1;omega
  have h1:=Q5E h d k x _ hx (List.getElem?_eq_getElem hl);have h2:=Q2P h (k+(d+1)) _ y (List.getElem?_eq_getElem hl) hy;omega
theorem Q6H {md:Region.Mode} {ops:Array Oper} {n:Nat} {l:List Nat} (h:Q4O md ops n l=true) {i j x:Nat} (hi:l[i]?=some x) (hj:l[j]?=some x):i=j:=by
 rcases Nat.lt_trichotomy i j with h1 | h1 | h1
 ·have:=Q5E h (j - i - 1) i x x hi (by rw [show i+(j - i - 1+1)=j by omega]; exact hj);omega
 ·exact h1
 ·have:=Q5E h (i - j - 1) j x x hj (by rw [show j+(i - j - 1+1)=i by omega]; exact hi);omega
def Q3Z (P:Program) (ops:Array Oper) (o:Oper) (a:Act) (w:World) (R:World->World->Prop) (J:World->Prop) (p:World->Value->Prop):Prop :=
 ∀ (K:Act->World->Prop) (Q':Exit->Act->World->Prop),(∀ v w',R w w'->J w'->p w' v->K (a.put o.dst v) w')->if Region.wanted o (yielded ops a.tmps)=true then o.wp P a w K Q' else K (a.put o.dst undef) w
theorem Q47 {P:Program} {ops:Array Oper} {o:Oper} {a:Act} {w:World} {R:World->World->Prop} {J:World->Prop} {p:World->Value->Prop} (hw:Region.wanted o (yielded ops a.tmps)=true) (f:FuncId) (args:Array Value) (he:(execOp a.eval o).run P w=.ok (.enter f args) w)
 (hc:Calls P f args w fun e w'=>∃ v,e=.returned v/\R w w'/\J w'/\p w' v):Q3Z P ops o a w R J p:=fun K Q' hK=>by
 rw [if_pos hw];unfold Oper.wp;rw [he];refine hc.mono ?_;rintro e w' ⟨v,rfl,hb,hj,hp⟩;exact hK v w' hb hj hp
theorem Q5G {P:Program} {ops:Array Oper} {o:Oper} {a:Act} {w:World} {R:World->World->Prop} {J:World->Prop} {p:World->Value->Prop} (hgd:o.guard=none) (ty:TypeId) (x y:Operand) (ho:o.op=.store ty x y)
 (g off:Nat) (vs:Array Value) (hx:a.eval x=.pointer (some ⟨g,off,none⟩)) (hy:a.eval y=.agg vs)
 (t:TypeId) (cs:Array Value) (hB:Blk w g t cs) (hi:(P.info? ty).map (·.size)=some vs.size)
 (hold:off+vs.size<=cs.size) (h1:vs.all (·.oneCell')=true)
 (h:∀ W',Q0c g w W'->Blk W' g t (spl cs off vs.toList)->R w W'/\J W'/\p W' undef):Q3Z P ops o a w R J p:=fun K Q' hK=>by
 have hw:Region.wanted o (yielded ops a.tmps)=true:=by simp [Region.wanted,hgd]
 rw [if_pos hw];exact Q3Y ty x y ho g off vs hx hy t cs hB hi hold h1 fun W' h2 h3=>by
  obtain⟨q1,q2,q3⟩:=h W' h2 h3;exact hK undef W' q1 q2 q3
def QbJ (md:Region.Mode) (ops:Array Oper) (n:Nat):Bool :=
 decide (n<=ops.size) && (decide (n=ops.size) || Region.sinkB md ops n && Region.chainB md ops n) && Q8i ops n && QbP md ops n && Region.seqB md ops (ops.size - n) n (Q0W ops.size n)
section
variable {P:Program} {md:Region.Mode} {ops:Array Oper}
theorem Q86 {n:Nat} {ps:Nat->World->Value->Prop} {J:Nat->World->Prop} {R:World->World->Prop} {lo:List Nat} {a0:Act} {Q':Exit->Act->World->Prop} (hn:n<=ops.size) (hsc:n=ops.size\/(Region.sinkB md ops n=true/\Region.chainB md ops n=true)) (hd:Q8i ops n=true) (hbk:QbP md ops n=true)
 (hlo:Q4O md ops n lo=true)
 (hl:∀ j,Q16 (ps j)) (hR:∀ s j w w' v,s<lo.length->(∀ s',s<=s'->lo[s']?≠some j)->J s w->ps j w v->R w w'->ps j w' v) (hJ:∀ s w w',J s w->Below w.heap.size w w'->J s w')
 (hop:∀ i o,i<n->ops[i]?=some o->i∉lo->∀ s a w,J s w->Kept ops n a0 a->(∀ j,Region.waitsFor md ops i j=true->Q26 ops ps j w a)->Q5g P ops o a w (ps i))
 (hop2:∀ i o,i<n->ops[i]?=some o->∀ s a w,lo[s]?=some i->J s w->Kept ops n a0 a->(∀ j,Region.waitsFor md ops i j=true->Q26 ops ps j w a)->Q3Z P ops o a w R (J (s+1)) (ps i))
 (hL:∀ a w,J lo.length w->Kept ops n a0 a->(∀ j,j<n->Q26 ops ps j w a)->wpAny P md ops Q' (ops.size - n) (Q0W ops.size n) a w)
 (hsz:∀ (i:Nat) (o:Oper) (d:Tmp),i<n->ops[i]?=some o->o.dst=some d->d<a0.tmps.size) :
 ∀ (f:Nat) (listed:Array Bool) (s:Nat) (a:Act) (w:World),((List.range n).filter fun i=>!listed.getD i false).length=f->HeadInv md ops n listed->s<=lo.length->(∀ k x,lo[k]?=some x->(listed.getD x false=true <-> k<s))->J s w->Kept ops n a0 a->(∀ j,j<n->listed.getD j false=true->Q26 ops ps j w a)->wpAny P md ops Q' (f+(ops.size - n)) listed a w
 | 0,listed,s,a,w,hf,inv,hsl,hph,hb,hk,hp=>by
  have hall:∀ j,j<n->listed.getD j false=true:=fun j hj=>by
   cases hx:listed.getD j false with
   | true=>rfl
   | false =>
    have:j∈(List.range n).filter fun i=>!listed.getD i false:=List.mem_filter.2 ⟨List.mem_range.2 hj,by rw [hx]; rfl⟩
    rw [List.eq_nil_of_length_eq_zero hf] at this;cases this
  have hls:listed=Q0W ops.size n:=by
   apply Array.ext
   ·rw [inv.size]; simp [Q0W]
   ·intro i h1 h2;have hi:i<ops.size:=by rw [<- inv.size]; exact h1
    have e1:listed[i]=listed.getD i false:=by simp [h1]
    have e2:(Q0W ops.size n)[i]=(Q0W ops.size n).getD i false:=by simp [h2]
    rw [e1,e2,Q3M _ _ _ _ hi];by_cases hin:i<n
    ·rw [hall i hin,decide_eq_true hin]
    ·rw [decide_eq_false hin];exact getD_both (inv.tail i (by omega) hi)
  have hsE:s=lo.length:=by
   rcases Nat.lt_or_ge s lo.length with h1 | h1
   ·have h2:=hph s lo[s] (List.getElem?_eq_getElem h1);have h3:=h2.1 (hall _ (Q3X hlo _ (List.getElem_mem h1)));omega
   ·omega
  subst hsE;rw [Nat.zero_add,hls];exact hL a w hb hk fun j hj=>hp j hj (hall j hj)
 | f+1,listed,s,a,w,hf,inv,hsl,hph,hb,hk,hp=>by
  have hex:∃ i,i<n/\listed.getD i false=false:=by
   cases hx:(List.range n).filter fun i=>!listed.getD i false with
   | nil=>rw [hx] at hf; cases hf
   | cons i t =>
    have:i∈(List.range n).filter fun i=>!listed.getD i false:=by rw [hx]; exact List.mem_cons_self
    obtain⟨h1,h2⟩:=List.mem_filter.1 this;exact⟨i,List.mem_range.1 h1,by simpa using h2⟩
  obtain⟨m,hm,hmf,hmb⟩:=Q3Q (fun i=>listed.getD i false) n hex;have hin:∀ k,k<n->listed.getD k false=false->listed.getD k true=false:=fun k hk h=>getD_in (by rw [inv.size]; omega) h
  rw [show f+1+(ops.size - n)=(f+(ops.size - n))+1 by omega];refine⟨fun h0=>?_,fun i hi=>?_⟩
  ·exfalso
   have:m∈Region.ready md ops listed:=by
    refine mem_ready.2 ⟨hin m hm hmf,ops[m],Array.getElem?_eq_getElem (by omega),fun e he hbd=>?_⟩;have h1:=List.all_eq_true.1 hbk m (List.mem_range.2 hm);rw [Array.getElem?_eq_getElem (show m<ops.size by omega)] at h1;have h2:=Array.all_eq_true_iff_forall_mem.1 h1 e he;rw [hbd] at h2;simp at h2;exact hmb e.on h2
   rw [h0] at this;cases this
  ·have hin':i<n:=by
    rcases Nat.lt_or_ge i n with h | h
    ·exact h
    ·rcases Nat.lt_or_ge n ops.size with hn' | hn'
     ·have hsc':=hsc.resolve_left (by omega);exact absurd hi (tail_waits hsc'.1 hsc'.2 hn' inv _ m rfl hm (hin m hm hmf) i h)
     ·obtain⟨_,o,ho,_⟩:=mem_ready.1 hi;have:=(Array.getElem?_eq_some_iff.1 ho).1;omega
   obtain⟨hun,o,ho,hall⟩:=mem_ready.1 hi;have hdep:∀ j,Region.waitsFor md ops i j=true->Q26 ops ps j w a:=fun j hj=>by
    obtain⟨oj,hoj,e,he,hbd,hon⟩:=Region.waitsFor_spec hj;have:oj=o:=Option.some.inj (hoj.symm.trans ho);subst this;have h1:=hall e he hbd;rw [hon] at h1;have h2:=List.all_eq_true.1 hbk i (List.mem_range.2 hin');rw [ho] at h2;have h3:=Array.all_eq_true_iff_forall_mem.1 h2 e he;rw [hbd] at h3;simp at h3;exact hp j (by omega) h1
   have hcnt:((List.range n).filter fun k=>!(listed.setIfInBounds i true).getD k false).length=f:=by
    have hmem:i∈(List.range n).filter fun i=>!listed.getD i false:=List.mem_filter.2 ⟨List.mem_range.2 hin',by rw [getD_both hun]; rfl⟩
    have hnd:((List.range n).filter fun i=>!listed.getD i false).Nodup:=List.Pairwise.filter _ List.nodup_range;have he:((List.range n).filter fun k=>!(listed.setIfInBounds i true).getD k false)=((List.range n).filter fun i=>!listed.getD i false).erase i:=by
     rw [hnd.erase_eq_filter,List.filter_filter];apply List.filter_congr
     intro k hk;by_cases hki:i=k
     ·subst hki;have hlt:i<listed.size:=by rw [inv.size]; omega
      simp [hlt]
     ·rw [getD_set_ne false hki];simp [Ne.symm hki]
    rw [he,List.length_erase_of_mem hmem,hf];rfl
   have hon:(listed.setIfInBounds i true).getD i false=true:=by
    have hlt:i<listed.size:=by rw [inv.size]; omega
    simp [hlt]
   have hfin:∀ s' v w',s'<=lo.length->(∀ k x,lo[k]?=some x->((listed.setIfInBounds i true).getD x false=true <-> k<s'))->J s' w'->(∀ j,listed.getD j false=true->∀ u,ps j w u->ps j w' u)->ps i w' v->wpAny P md ops Q' (f+(ops.size - n)) (listed.setIfInBounds i true) (a.put o.dst v) w':=fun s' v w' hs' hph' hj' hlast hpv=>by
    refine Q86 hn hsc hd hbk hlo hl hR hJ hop hop2 hL hsz f _ s' _ w' hcnt (inv.set hi hin') hs' hph' hj' ⟨?_,by rw [Q2G]; exact hk.size,fun d hfree=>?_⟩ fun j hj hlj oj d hoj hdj=>?_
    ·rw [<- hk.defers]; unfold Act.put; split <;> rfl
    ·rw [Q1x (hfree i o hin' ho)]; exact hk.tmps d hfree
    ·by_cases hji:j=i
     ·subst hji;have:oj=o:=Option.some.inj (hoj.symm.trans ho);subst this;have hds:d<a.tmps.size:=by rw [hk.size]; exact hsz j oj d hin' hoj hdj
      have he:(a.put oj.dst v).eval (.tmp d)=v:=by
       rw [hdj];simp [Act.put,Act.eval,hds]
      rw [he];exact hpv
     ·have hl2:listed.getD j false=true:=by rw [getD_set_ne false (Ne.symm hji)] at hlj; exact hlj
      have he:(a.put o.dst v).eval (.tmp d)=a.eval (.tmp d):=by
       have:=Q1x (a:=a) (v:=v) (Q2c hd hj hin' hji hoj ho hdj);simp [Act.eval,this]
      rw [he];exact hlast j hl2 _ (hp j hj hl2 oj d hoj hdj)
   unfold wpOp;simp only [ho];by_cases hil:i∈lo
   ·obtain⟨k,hki⟩:=List.mem_iff_getElem?.1 hil;have hnl:listed.getD i false=false:=getD_both hun;have h1:=hph k i hki;have hks:¬ k<s:=fun h2=>by rw [h1.2 h2] at hnl; cases hnl
    have hsk:s=k:=by
     rcases Nat.eq_zero_or_pos k with e | e
     ·omega
     ·have hpl:k - 1<lo.length:=by have:=(List.getElem?_eq_some_iff.1 hki).1; omega
      have h2:=Q2P hlo (k - 1) lo[k - 1] i (List.getElem?_eq_getElem hpl) (by rw [show k - 1+1=k by omega]; exact hki);have h3:=Q1k inv _ _ i o h2.2 ho hall;have h4:=(hph (k - 1) _ (List.getElem?_eq_getElem hpl)).1 h3;omega
    subst hsk;have hrel:=hop2 i o hin' ho s a w hki hb hk hdep (wpAny P md ops Q' (f+(ops.size - n)) (listed.setIfInBounds i true)) Q' (fun v w' hr hj hpv=>hfin (s+1) v w' (by have:=(List.getElem?_eq_some_iff.1 hki).1; omega) (fun k' x hx=>by
     by_cases hxi:x=i
     ·subst hxi;have:=Q6H hlo hx hki;rw [hon]
      simp; omega
     ·rw [getD_set_ne false (Ne.symm hxi),hph k' x hx];have:k'≠s:=fun e=>hxi (by subst e; rw [hx] at hki; exact Option.some.inj hki)
      omega) hj (fun j hlj u hu=>hR s j _ _ _ (by have:=(List.getElem?_eq_some_iff.1 hki).1; omega) (fun s' hs' e=>by have:=(hph s' j e).1 hlj; omega) hb hu hr) hpv)
    split
    ·rename_i hwt;rw [if_pos hwt] at hrel;exact .inl hrel
    ·rename_i hwt;rw [if_neg hwt] at hrel;exact hrel
   ·have hrel:=hop i o hin' ho hil s a w hb hk hdep (wpAny P md ops Q' (f+(ops.size - n)) (listed.setIfInBounds i true)) Q' (fun v w' hbw hpv=>hfin s v w' hsl (fun k' x hx=>by
     have hxi:x≠i:=fun e=>hil (e▸List.mem_of_getElem? hx)
     rw [getD_set_ne false (Ne.symm hxi)];exact hph k' x hx) (hJ s w w' hb hbw) (fun j _ u hu=>hl j _ _ _ hu hbw) hpv)
    split
    ·rename_i hwt;rw [if_pos hwt] at hrel;exact .inl hrel
    ·rename_i hwt;rw [if_neg hwt] at hrel;exact hrel
end
def Q3g (P:Program) (ops:Array Oper) (n:Nat) (ps:Nat->World->Value->Prop) (J:Nat->World->Prop) (R:World->World->Prop) (lo:List Nat) (a0:Act):Nat->List Oper->Prop
 | _,[]=>True
 | k,o :: l=>(if k∈lo then ∀ s a w,lo[s]?=some k->J s w->Kept ops n a0 a->(∀ j,Region.waitsFor .any ops k j=true->Q26 ops ps j w a)->Q3Z P ops o a w R (J (s+1)) (ps k)
  else ∀ s a w,J s w->Kept ops n a0 a->(∀ j,Region.waitsFor .any ops k j=true->Q26 ops ps j w a)->Q5g P ops o a w (ps k))/\Q3g P ops n ps J R lo a0 (k+1) l
theorem Q3g.spec {P:Program} {ops:Array Oper} {n:Nat} {ps:Nat->World->Value->Prop} {J:Nat->World->Prop} {R:World->World->Prop} {lo:List Nat} {a0:Act}:∀ (l:List Oper) (k:Nat),Q3g P ops n ps J R lo a0 k l->∀ i o,l[i]?=some o ->
 (if k+i∈lo then ∀ s a w,lo[s]?=some (k+i)->J s w->Kept ops n a0 a->(∀ j,Region.waitsFor .any ops (k+i) j=true->Q26 ops ps j w a)->Q3Z P ops o a w R (J (s+1)) (ps (k+i))
  else ∀ s a w,J s w->Kept ops n a0 a->(∀ j,Region.waitsFor .any ops (k+i) j=true->Q26 ops ps j w a)->Q5g P ops o a w (ps (k+i)))
 | [],k,_,i,o,ho=>by simp at ho
 | o' :: l,k,h,0,o,ho=>by simp at ho; subst ho; exact h.1
 | o' :: l,k,h,i+1,o,ho=>by
  have:=Q3g.spec l (k+1) h.2 i o (by simpa using ho);rw [show k+1+i=k+(i+1) by omega] at this;exact this
theorem Q1Z {P:Program} {id:Nat} {Q:Exit->Act->World->Prop} {a:Act} {w:World} {l:List Oper} (n m:Nat) (ps:Nat->World->Value->Prop) (J:Nat->World->Prop) (R:World->World->Prop) (lo:List Nat) (ds:List Nat) (hm:P.follows .mixedOrders=true) (hB:QbJ .any l.toArray n=true) (hlo:Q4O .any l.toArray n lo=true) (hsz:QbF l.toArray n m=true) (ha:a.tmps.size=m) (hds:Q5N l.toArray n=ds)
 (hl:∀ j,Q16 (ps j)) (hR:∀ s j w w' v,s<lo.length->(∀ s',s<=s'->lo[s']?≠some j)->J s w->ps j w v->R w w'->ps j w' v) (hJ:∀ s w w',J s w->Below w.heap.size w w'->J s w') (hJ0:J 0 w) (hop:Q3g P l.toArray n ps J R lo a 0 (l.take n))
 (h:∀ (f:Nat->Value) w',J lo.length w'->(∀ j,j<n->∀ o d,l.toArray[j]?=some o->o.dst=some d->ps j w' (f d))->wpList P l.toArray Q (l.drop n) (Q0H a ds f) w'):(Code.region id l.toArray true).wp P Q a w:=by
 simp only [QbJ,Bool.and_eq_true,Bool.or_eq_true,decide_eq_true_eq] at hB;obtain⟨⟨⟨⟨hn,hsc⟩,hd⟩,hbk⟩,hsq⟩:=hB;have inv0:HeadInv .any l.toArray n (Array.replicate l.toArray.size false) :=
  ⟨by simp,fun j oj _ hl=>(by rw [getD_replicate_false] at hl; cases hl),fun t _ ht=>getD_in (by simpa using ht) (getD_replicate_false _ _)⟩
 have hdl:(l.drop n).length=l.toArray.size - n:=by simp
 refine wp_region_any hm ?_;have:=Q86 (Q':=Q) (md:=.any) (P:=P) (ops:=l.toArray) (n:=n) (ps:=ps) (J:=J) (R:=R) (lo:=lo) (a0:=a) hn hsc hd hbk hlo hl hR hJ (fun i o hi ho hni s a' w' h1 h2 h3=>by
  have:=Q3g.spec (l.take n) 0 hop i o (by rw [List.getElem?_take,if_pos hi]; simpa using ho);simp only [Nat.zero_add] at this;rw [if_neg hni] at this;exact this s a' w' h1 h2 h3)
  (fun i o hi ho s a' w' hlos h1 h2 h3=>by
   have:=Q3g.spec (l.take n) 0 hop i o (by rw [List.getElem?_take,if_pos hi]; simpa using ho);simp only [Nat.zero_add] at this;rw [if_pos (List.mem_of_getElem? hlos)] at this;exact this s a' w' hlos h1 h2 h3)
  (fun a' w' h1 h2 h3=>by
   have:=wpAny_of_seq (md:=.any) (ops:=l.toArray) (Q':=Q) (l.drop n) n (Q0W l.toArray.size n) a' w' (fun j=>by simp [List.getElem?_drop]) (by rw [hdl]; exact hsq) (by
    rw [h2.puts (by rw [ha]; exact hsz),hds];exact h _ w' h1 fun j hj o d ho hd=>(h3 j hj).get d ho hd)
   rw [hdl] at this;exact this)
  (fun i o d hi ho hdst=>by
   have:=List.all_eq_true.1 hsz i (List.mem_range.2 hi);simp only [ho,hdst,decide_eq_true_eq] at this;rw [ha]; exact this)
  n (Array.replicate l.toArray.size false) 0 a w.drew (by
   rw [List.filter_eq_self.2 (fun i _=>by rw [getD_replicate_false]; rfl)]
   simp) inv0 (Nat.zero_le _) (fun k x _=>by rw [getD_replicate_false]; simp) (hJ 0 _ _ hJ0 (Below.refl _ w).drew) ⟨rfl,rfl,fun _ _=>rfl⟩ (fun j _ hj=>by rw [getD_replicate_false] at hj; cases hj)
 rw [show n+(l.toArray.size - n)=l.toArray.size by omega] at this;exact this
end
section
open Go.RowKit Go.Maps
structure QbI (w wr:World) (k:Book) (L:List (List UInt8)) (asked:Nat) (ls:List (List UInt8)) (v:Value) (gs cs:Nat->Nat):Prop where
 row:wr.ownsRow w.heap.size 189 1 v 3 ((List.range 3).map fun j=>.slice (some ⟨gs j,0,none⟩) (lv ls j).length (cs j))
 dig:∀ j,j<=2->Q25 wr (gs j) (cs j) (lv ls j)
 new:∀ j,j<=2->w.heap.size<=gs j
 ne:∀ i j,i<j->j<=2->gs i≠gs j
 book:∃ L' a',Q0A wr k L' a'/\a'<=asked+8/\(∀ x,x∈L->x∈L')/\(∀ p,p<grps ls.length->upIn (grp (lv ls 0) p)∈L')/\upIn (lv ls 1)∈L'
 only:Q0t k w wr
theorem QbI.of_st {w w1 wr:World} {k:Book} {L:List (List UInt8)} {asked:Nat} {ls:List (List UInt8)} {v:Value} {gs cs:Nat->Nat} {g0 c:Nat} (hb:Below w.heap.size w w1) (hg:w.heap.size<=g0) (h:LvSt w1 wr k L asked ls g0 c 2 gs cs v):QbI w wr k L asked ls v gs cs:=by
 obtain⟨L',a',h1,h2,h3,h4,h5⟩:=h.book;have hs:=hb.size;refine⟨?_,h.dig,fun j hj=>?_,h.ne,⟨L',a',h1,by omega,h3,h4 (by omega),h5 (by omega)⟩,(Q0t.of_below hb).trans h.only⟩
 ·rcases h.row.2 with hv | ⟨g,cap,cur,hv,q2,q3,q4⟩
  ·exact⟨h.row.1,.inl hv⟩
  ·exact⟨h.row.1,.inr ⟨g,cap,cur,hv,by omega,q3,q4⟩⟩
 ·rcases Nat.eq_zero_or_pos j with e | e
  ·subst e; rw [h.g0]; exact hg
  ·have:=h.new j e hj; omega
theorem lv_rep (n:Nat):lv (List.replicate n []) 0=List.replicate n (Q1A []):=by simp [lv]
theorem QcC (k:Book) (L:List (List UInt8)) (asked b2 g6 b3 n:Nat) (w:World) (hbk:Q0A w k L asked) (hn:n=13\/n=6) (has:asked<=800000)
 (h2:w.cell? ⟨b2,0,none⟩=some (.pointer (some ⟨k.g,0,none⟩))) (h6:Blk w g6 60 (bRow (Q1A []))) (h3:w.cell? ⟨b3,0,none⟩=some (.int .i64 (n:Int))) :
 Calls Tryz.prog 149 #[.pointer (some ⟨b2,0,none⟩),.pointer (some ⟨g6,0,none⟩),.pointer (some ⟨b3,0,none⟩)] w fun e w'=>∃ v gs cs,e=.returned v/\QbI w w' k L asked (List.replicate n []) v gs cs:=by
 have l2:=World.block_lt_of_cell? _ _ h2;have l3:=World.block_lt_of_cell? _ _ h3;have H2:=Lib.hid (fun(W:World) (hb:Below w.heap.size w W)=>(hb.cell l2).trans h2);have H3:=Lib.hid (fun(W:World) (hb:Below w.heap.size w W)=>(hb.cell l3).trans h3);have H6:=Lib.hid (fun(W:World) (hb:Below w.heap.size w W)=>h6.below' hb);have HBK:=Lib.hid hbk;have hds:(bRow (Q1A [])).size=32:=Q0E (Q2j []);have hdl:=Q2j [];have hn2:5<=n/\n<=16:=by omega
 obtain⟨e,he⟩:∃ e,e=Q1A []:=⟨_,rfl⟩;rw [<- he] at H6 hds hdl;have HE:=Lib.hid he;have hdo:=Q0K e;have HDL:=Lib.hid hdl;obtain⟨D,hD⟩:∃ D,D=bRow e:=⟨_,rfl⟩;rw [<- hD] at H6 hds hdo;have HD:=Lib.hid hD;have HDS:=Lib.hid hds;clear h2 h3 h6 hbk he hD hdl;go_enter Tryz.func149,Tryz.ntmps149
 go_upto_region 1 with fail
 refine Q0l 5 10 (fun j W v=>match j with
  | 0=>v=.pointer (some ⟨k.g,0,none⟩)
  | 1=>v=.agg D
  | 2=>∃ g,v=.slice (some ⟨g,0,none⟩) 1 1/\Blk W g 60 D
  | 3=>v=.int .i64 (n:Int)
  | _=>∃ g,v=.slice (some ⟨g,0,none⟩) n n/\Q25 W g n (List.replicate n e)/\w.heap.size<=g) [4,5,6,7,8] (by kernel_rfl) (by kernel_rfl) (by kernel_rfl) (by simp) (by kernel_rfl) (fun j=>?last) ?heads ?_
 case last =>
  match j with
  | 0 | 1 | 3=>exact Q16.pure _
  | 2=>exact fun W W' v ⟨g,h1,h2⟩ hb=>⟨g,h1,h2.below' hb⟩
  | j+4=>exact fun W W' v ⟨g,h1,h2,h3⟩ hb=>⟨g,h1,h2.keep (hb.block g h2.lt),h3⟩
 case heads =>
  simp only [List.take_succ_cons,List.take_zero];refine⟨?_,?_,?_,?_,?_,trivial⟩;all_goals intro a W hb hkp hd
  ·have e0:a.tmps[0]?.getD undef=.pointer (some ⟨b2,0,none⟩):=hkp.get (by kernel_rfl) rfl;have cc:=H2.out W hb;exact Q00 rfl _ (by go_simp) rfl
  ·have e0:a.eval (.tmp 1)=.pointer (some ⟨g6,0,none⟩):=hkp.at_ (by kernel_rfl);exact Q00 rfl (.agg D) (Q0m 60 (.tmp 1) rfl g6 0 32 e0 60 D D _ (H6.out W hb) Tryz.underlying60 rfl rfl HDS.out (fun _ _=>by rw [Nat.zero_add])) rfl
  ·have e1:(_:Value)=.agg D:=(hd 1 (by kernel_rfl)).get 5 rfl rfl;refine Q21 rfl (.slice (some ⟨W.heap.size,0,none⟩) 1 1) (W.alloc (.cells D 60)) (by go_simp; rw [Q4V _ D 32 rfl HDS.out]) ((Below.refl _ _).alloc (Nat.le_refl _) _) ⟨W.heap.size,rfl,Blk.new W _ _⟩
  ·have e0:a.tmps[2]?.getD undef=.pointer (some ⟨b3,0,none⟩):=hkp.get (by kernel_rfl) rfl;have cc:=H3.out W hb;exact Q00 rfl _ (by go_simp) rfl
  ·obtain⟨g',e2,hr⟩:∃ g,a.tmps[6]?.getD undef=.slice (some ⟨g,0,none⟩) 1 1/\Blk W g 60 D:=(hd 2 (by kernel_rfl)).get 6 rfl rfl;have e3:(_:Value)=.int .i64 (n:Int):=(hd 3 (by kernel_rfl)).get 7 rfl rfl;refine Q0w rfl 151 #[.slice (some ⟨g',0,none⟩) 1 1,.int .i64 (n:Int)] (by go_simp) ((Qbp g' n e W hn HDL.out (by rw [<- HD.out]; exact hr)).mono ?_);rintro e' w' ⟨g'',rfl,h1,h2,h3⟩;exact⟨_,rfl,h3,g'',rfl,h1,by have:=hb.size; omega⟩
 intro f W hb hd;have h0:f 4=.pointer (some ⟨k.g,0,none⟩):=hd 0 (by omega) _ 4 rfl rfl;obtain⟨g',h8,hdg,hgw⟩:∃ g,f 8=.slice (some ⟨g,0,none⟩) n n/\Q25 W g n (List.replicate n e)/\w.heap.size<=g:=hd 4 (by omega) _ 8 rfl rfl;have hdg':Q25 W g' n (lv (List.replicate n []) 0):=by rw [lv_rep,<- HE.out]; exact hdg
 have hbw:=HBK.out.below hb;have hlt:=HBK.out.lt;have hlv:=Qca k L asked g' n n (List.replicate n []) W hbw hdg' (by rintro (e | e | e) <;> omega) (by simp; omega) (by simp; omega) (by simp) has;have HLV:=Lib.hid hlv;have HB:=Lib.hid hb;simp only [Q0H,List.drop_succ_cons,List.drop_zero,h0,h8];clear hd hdg hdg' hbw hlv hb;try simp only [Act.put,sA1,sA2,sA3]
 go_wp2_with fail
 refine HLV.out.mono ?_;rintro _ w3 ⟨v,gs,cs,rfl,hst⟩;go_wp2_with fail
 go_ret
 exact⟨_,gs,cs,rfl,QbI.of_st HB.out hgw hst⟩
def Q32 (k:Book) (n:Nat) (d m:Int) (fv all:Value):Array Value:=#[.pointer (some ⟨k.g,0,none⟩),.int .i64 (n:Int),.int .u32 d,.int .i32 m,.int .u32 0,fv,all]
def Q2x (b2 g6 b3:Nat):Value:=.func (.func 149) #[] #[.pointer (some ⟨b2,0,none⟩),.pointer (some ⟨g6,0,none⟩),.pointer (some ⟨b3,0,none⟩)]
structure Q2r (w:World) (k:Book) (b2 g6 b3 n:Nat):Prop where
 h2:w.cell? ⟨b2,0,none⟩=some (.pointer (some ⟨k.g,0,none⟩))
 h6:Blk w g6 60 (bRow (Q1A []))
 h3:w.cell? ⟨b3,0,none⟩=some (.int .i64 (n:Int))
theorem Q2r.keep {w w':World} {k:Book} {b2 g6 b3 n:Nat} (h:Q2r w k b2 g6 b3 n) (h2:w'.heap[b2]?=w.heap[b2]?) (h6:w'.heap[g6]?=w.heap[g6]?) (h3:w'.heap[b3]?=w.heap[b3]?):Q2r w' k b2 g6 b3 n :=
 ⟨(World.cell?_of_block h2).trans h.h2,h6.trans h.h6,(World.cell?_of_block h3).trans h.h3⟩
theorem Q2r.lt {w:World} {k:Book} {b2 g6 b3 n:Nat} (h:Q2r w k b2 g6 b3 n):b2<w.heap.size/\g6<w.heap.size/\b3<w.heap.size:=⟨World.block_lt_of_cell? _ _ h.h2,h.h6.lt,World.block_lt_of_cell? _ _ h.h3⟩
theorem Q2r.below {w w':World} {k:Book} {b2 g6 b3 n:Nat} (h:Q2r w k b2 g6 b3 n) (hb:Below w.heap.size w w'):Q2r w' k b2 g6 b3 n :=
 h.keep (hb.block _ h.lt.1) (hb.block _ h.lt.2.1) (hb.block _ h.lt.2.2)
def Q5Q (w w':World) (k:Book) (L:List (List UInt8)) (asked n:Nat) (v:Value):Prop:=∃ W1 W2 gs cs,Below w.heap.size w W1/\QbI W1 W2 k L asked (List.replicate n []) v gs cs/\Below W2.heap.size W2 w'
theorem Qa5 (k:Book) (L:List (List UInt8)) (asked t b2 g6 b3 n:Nat) (pl:Addr) (w:World) (d m:Int) (all:Value) (hn:n=13\/n=6) (has:asked<=800000)
 (hbk:Q0A w k L asked) (hB:Blk w t 203 (Q32 k n d m (Q2x b2 g6 b3) all)) (hp:w.cell? pl=some (.pointer (some ⟨t,0,none⟩))) (hf:Q2r w k b2 g6 b3 n) (htk:¬ k.has t) (hpk:¬ k.has pl.block) :
 Calls Tryz.prog 174 #[.pointer (some pl)] w fun e w'=>e=.returned (.tuple #[])/\∃ W v,Q5Q w W k L asked n v/\w'=W.setCell ⟨t,6,none⟩ v:=by
 have hpl:=World.block_lt_of_cell? _ _ hp;have htl:=hB.lt;have HP:=Lib.hid (fun(W:World) (h:Only k.has w W)=>(h.cell hpl hpk).trans hp);have HT:=Lib.hid (fun(W:World) (h:Only k.has w W)=>(h.blk hB htk));have HBK:=Lib.hid hbk;have HF:=Lib.hid hf;have HG:=Lib.hid (fun(W:World) (h:Q5Q w W k L asked n all)=>h);have hG2:∀ W v,Q5Q w W k L asked n v->Only k.has w W:=fun W v ⟨W1,W2,gs,cs,h1,h2,h3⟩=>((Only.of_below h1).trans (Only.of_book h2.only)).trans (Only.of_below h3)
 have HO:=Lib.hid hG2;clear hbk hB hp hf hG2;go_enter Tryz.func174,Tryz.ntmps174
 refine Q1Z 8 9 (fun j W v=>match j with
  | 0=>v=.pointer (some ⟨t,0,none⟩)
  | 1=>v=.pointer (some ⟨t,0,none⟩)
  | 2=>v=.pointer (some ⟨t,0,none⟩)
  | 3=>v=.pointer (some ⟨t,5,none⟩)
  | 4=>v=Q2x b2 g6 b3
  | 5=>Q5Q w W k L asked n v
  | 6=>v=.pointer (some ⟨t,0,none⟩)
  | _=>v=.pointer (some ⟨t,6,none⟩)) (fun s W=>if s=0 then Below w.heap.size w W else ∃ v,Q5Q w W k L asked n v) (fun _ _=>True) [5] [1,2,3,4,5,6,7,8] (by kernel_rfl) (by kernel_rfl) (by kernel_rfl) (by kernel_rfl) (by simp) (by kernel_rfl) (fun j=>?last) ?lastR ?jay (Below.refl _ _) ?heads ?_
 case last =>
  match j with
  | 0 | 1 | 2 | 3 | 4 | 6 | j+7=>exact Q16.pure _
  | 5=>exact fun W W' v ⟨W1,W2,gs,cs,h1,h2,h3⟩ hb=>⟨W1,W2,gs,cs,h1,h2,h3.trans (hb.mono h3.size)⟩
 case lastR =>
  intro s j W W' v hsl hs hj hp _;match j with
  | 0 | 1 | 2 | 3 | 4 | 6 | j+7=>exact hp
  | 5 =>
   exfalso
   exact hs 0 (by simp at hsl; omega) rfl
 case jay =>
  intro s W W' hj hb;split at hj
  ·rw [if_pos (by assumption)];exact hj.trans (hb.mono hj.size)
  ·rw [if_neg (by assumption)];obtain⟨v,W1,W2,gs,cs,h1,h2,h3⟩:=hj;exact⟨v,W1,W2,gs,cs,h1,h2,h3.trans (hb.mono h3.size)⟩
 case heads =>
  have HJ:=Lib.hid (show ∀ (s:Nat) (W:World),(if s=0 then Below w.heap.size w W else ∃ v,Q5Q w W k L asked n v)->Only k.has w W from fun s W hj=>by
   split at hj
   ·exact Only.of_below hj
   ·obtain⟨v,hv⟩:=hj; exact HO.out W v hv)
  simp only [List.take_succ_cons,List.take_zero];refine⟨?_,?_,?_,?_,?_,?_,?_,?_,trivial⟩
  iterate 2 ·rw [if_neg (by decide)];intro s a W hj hkp hd;have e0:a.tmps[0]?.getD undef=.pointer (some pl):=hkp.get (by kernel_rfl) rfl;have cc:=HP.out W (HJ.out s W hj);exact Q00 rfl _ (by go_simp) rfl
  ·rw [if_neg (by decide)];intro s a W hj hkp hd;have e0:(_:Value)=.pointer (some ⟨t,0,none⟩):=(hd 1 (by kernel_rfl)).get 2 rfl rfl;exact Q00 rfl _ (by go_simp) rfl
  ·rw [if_neg (by decide)];intro s a W hj hkp hd;have e0:(_:Value)=.pointer (some ⟨t,0,none⟩):=(hd 2 (by kernel_rfl)).get 3 rfl rfl;exact Q00 rfl _ (by go_simp) rfl
  ·rw [if_neg (by decide)];intro s a W hj hkp hd;have e0:(_:Value)=.pointer (some ⟨t,5,none⟩):=(hd 3 (by kernel_rfl)).get 4 rfl rfl;have cc:W.cell? ⟨t,5,none⟩=some (Q2x b2 g6 b3):=((HT.out W (HJ.out s W hj)).cell 5).trans rfl;exact Q00 rfl _ (by go_simp) rfl
  ·rw [if_pos (by decide)];intro s a W hs hj hkp hd;have e0:(_:Value)=Q2x b2 g6 b3:=(hd 4 (by kernel_rfl)).get 5 rfl rfl;obtain rfl:s=0:=by
    have:=(List.getElem?_eq_some_iff.1 hs).1;simp at this; omega
   rw [if_pos rfl] at hj;have hf:=HF.out.below hj;unfold Q2x at e0;refine Q47 rfl 149 #[.pointer (some ⟨b2,0,none⟩),.pointer (some ⟨g6,0,none⟩),.pointer (some ⟨b3,0,none⟩)] (by go_simp) ((QcC k L asked b2 g6 b3 n W (HBK.out.below hj) hn has hf.h2 hf.h6 hf.h3).mono ?_);rintro e w' ⟨v,gs,cs,rfl,hlv⟩;have hg:Q5Q w w' k L asked n v:=⟨W,w',gs,cs,hj,hlv,Below.refl _ _⟩;exact⟨v,rfl,trivial,by simp only [Nat.zero_add,Nat.one_ne_zero,if_false]; exact⟨v,hg⟩,hg⟩
  ·rw [if_neg (by decide)];intro s a W hj hkp hd;have e0:(_:Value)=.pointer (some ⟨t,0,none⟩):=(hd 0 (by kernel_rfl)).get 1 rfl rfl;exact Q00 rfl _ (by go_simp) rfl
  ·rw [if_neg (by decide)];intro s a W hj hkp hd;have e0:(_:Value)=.pointer (some ⟨t,0,none⟩):=(hd 6 (by kernel_rfl)).get 7 rfl rfl;exact Q00 rfl _ (by go_simp) rfl
 intro f W hj hd;have h6:Q5Q w W k L asked n (f 6):=hd 5 (by omega) _ 6 rfl rfl;have h8:f 8=.pointer (some ⟨t,6,none⟩):=hd 7 (by omega) _ 8 rfl rfl;have hB:=HT.out W (HO.out W _ h6);have cc:W.cell? ⟨t,6,none⟩=some all:=(hB.cell 6).trans rfl;have ff:=hB.frozen 6;obtain⟨v,hv⟩:∃ v,v=f 6:=⟨_,rfl⟩;rw [<- hv] at h6;obtain⟨A,c,hsv⟩:∃ A c,v=.slice A 3 c:=by
  obtain⟨W1,W2,gs,cs,h1,h2,h3⟩:=h6;exact Qbo h2.row
 have HG6:=Lib.hid h6;have HV:=Lib.hid hv;simp only [Q0H,List.drop_succ_cons,List.drop_zero,h8,<- hv];subst hsv;clear hd hj hB h6 hv;try simp only [Act.put,sA1,sA2,sA3]
 go_wp2_with fail
 go_end0
 exact⟨rfl,W,_,HG6.out,rfl⟩
end
section
open Go.RowKit Go.Maps
attribute [local irreducible] wpList
theorem Q7Z (k:Book) (n:Nat) (d m m':Int) (fv all:Value):(Q32 k n d m fv all).setIfInBounds 3 (.int .i32 m')=Q32 k n d m' fv all:=by simp [Q32]
theorem QbL (k:Book) (n:Nat) (d d' m:Int) (fv all:Value):(Q32 k n d m fv all).setIfInBounds 2 (.int .u32 d')=Q32 k n d' m fv all:=by simp [Q32]
theorem QbD (k:Book) (n:Nat) (d m:Int) (fv all all':Value):(Q32 k n d m fv all).setIfInBounds 6 all'=Q32 k n d m fv all':=by simp [Q32]
def QaF (w w':World) (k:Book) (L:List (List UInt8)) (asked n t:Nat) (fv v:Value):Prop:=∃ W1 W2 W3 gs cs,Only (fun b=>b=t) w W1/\QbI W1 W2 k L asked (List.replicate n []) v gs cs/\Below W2.heap.size W2 W3/\Q0c t W3 w'/\Blk w' t 203 (Q32 k n 1 0 fv v)
theorem Qdm (k:Book) (L:List (List UInt8)) (asked t b2 g6 b3 n:Nat) (pl:Addr) (w:World) (all:Value) (hn:n=13\/n=6) (has:asked<=800000)
 (hbk:Q0A w k L asked) (hB:Blk w t 203 (Q32 k n 0 0 (Q2x b2 g6 b3) all)) (hp:w.cell? pl=some (.pointer (some ⟨t,0,none⟩))) (hf:Q2r w k b2 g6 b3 n) (htk:¬ k.has t) (hpk:¬ k.has pl.block) (hpt:pl.block≠t) (ht:b2≠t/\g6≠t/\b3≠t) :
 Calls Tryz.prog 191 #[.pointer (some ⟨t,2,none⟩),.func (.func 174) #[] #[.pointer (some pl)]] w fun e w'=>e=.returned (.tuple #[])/\∃ v,QaF w w' k L asked n t (Q2x b2 g6 b3) v:=by
 have c1:w.cell? ⟨t,2,none⟩=some (.int .u32 0):=(hB.cell 2).trans rfl;have c2:w.cell? ⟨t,3,none⟩=some (.int .i32 0):=(hB.cell 3).trans rfl;have f2:=hB.frozen 3;have hB1:=hB.set_ 3 (.int .i32 1);rw [Q7Z] at hB1;have hT1:=Q0c.setCell w ⟨t,3,none⟩ (.int .i32 1);have hp1:(w.setCell ⟨t,3,none⟩ (.int .i32 1)).cell? pl=some (.pointer (some ⟨t,0,none⟩)):=(hT1.cell hpt).trans hp;have c11:(w.setCell ⟨t,3,none⟩ (.int .i32 1)).cell? ⟨t,2,none⟩=some (.int .u32 0):=(hB1.cell 2).trans rfl;have hl:=run_call_load (P:=Tryz.prog) Tryz.func208 (by kernel_rfl) (by kernel_rfl) (by kernel_rfl) .u32 (by kernel_rfl) c11;have hnot:∀ (x:Bool) (w:World),(Op.unary .not (.bool x)).run Tryz.prog w=.ok (.bool (!x)) w:=fun _ _=>rfl
 have ho1:Only (fun b=>b=t) w (w.setCell ⟨t,3,none⟩ (.int .i32 1)):=Only.of_turned hT1 rfl;have hbk1:=hbk.only ho1 (fun e=>htk (.inl e.symm)) (fun e=>htk (.inr (.inl e.symm))) (fun e=>htk (.inr (.inr e.symm)));have hf1:=hf.keep (ho1.block _ hf.lt.1 ht.1) (ho1.block _ hf.lt.2.1 ht.2.1) (ho1.block _ hf.lt.2.2 ht.2.2);have HR:=Lib.hid (Qa5 k L asked t b2 g6 b3 n pl _ 0 1 all hn has hbk1 hB1 hp1 hf1 htk hpk);have HB1:=Lib.hid hB1;have HO1:=Lib.hid ho1;clear hB1 hT1 hp1 hB hbk1 hf1 ho1 hbk hf
 go_enter_defers Tryz.func191,Tryz.ntmps191
 go_wp2_with (first | (go_at_call 209; refine(Q9J ⟨t,3,none⟩ _ c2 f2).mono ?_; rintro e w' ⟨rfl,rfl⟩) | (go_at_call 190; go_in))
 refine HR.out.mono ?_;rintro e w1 ⟨rfl,W,v,hg,rfl⟩
 go_wp2
 obtain⟨W1,W2,gs,cs,h1,h2,h3⟩:=hg;have hon:Only k.has (w.setCell ⟨t,3,none⟩ (.int .i32 1)) W:=((Only.of_below h1).trans (Only.of_book h2.only)).trans (Only.of_below h3);have hBW:=hon.blk HB1.out htk;have hB2:=hBW.set_ 6 v;rw [QbD] at hB2;have hB3:=hB2.drew.set_ 2 (.int .u32 1);rw [QbL] at hB3;have hB4:=hB3.set_ 3 (.int .i32 0);rw [Q7Z] at hB4;have hT:Q0c t W (((W.setCell ⟨t,6,none⟩ v).drew.setCell ⟨t,2,none⟩ (.int .u32 1)).setCell ⟨t,3,none⟩ (.int .i32 0)) :=
  (((Q0c.setCell W ⟨t,6,none⟩ v).drewN 1).trans (Q0c.setCell _ ⟨t,2,none⟩ _)).trans (Q0c.setCell _ ⟨t,3,none⟩ _)
 refine leaves_cons (f:=211) (args:=#[.pointer (some ⟨t,2,none⟩),.bool true]) (by simp) (by simp [go_sem]) ?_;refine(Q4z ⟨t,2,none⟩ (.int .u32 0) .returning _ ((hB2.cell 2).trans rfl) (hB2.frozen 2)).mono ?_;rintro e u' w'' ⟨rfl,rfl,rfl⟩;refine leaves_cons (f:=210) (args:=#[.pointer (some ⟨t,3,none⟩)]) (by simp [settle]) (by simp [go_sem]) ?_;refine(Q46 ⟨t,3,none⟩ _ _ ((hB3.cell 3).trans rfl) (hB3.frozen 3)).mono ?_;rintro e u' w'' ⟨rfl,rfl,rfl⟩;simp only [Leaves,settle];exact⟨_,by simp [results,Tryz.results191],rfl,v,W1,W2,W,gs,cs,HO1.out.trans (Only.of_below h1),h2,h3,hT,hB4⟩
theorem tdo_any (k:Book) (L:List (List UInt8)) (asked t b2 g6 b3 n:Nat) (pl:Addr) (w:World) (all:Value) (hn:n=13\/n=6) (has:asked<=800000)
 (hbk:Q0A w k L asked) (hB:Blk w t 203 (Q32 k n 0 0 (Q2x b2 g6 b3) all)) (hp:w.cell? pl=some (.pointer (some ⟨t,0,none⟩))) (hf:Q2r w k b2 g6 b3 n) (htk:¬ k.has t) (hpk:¬ k.has pl.block) (hpt:pl.block≠t) (ht:b2≠t/\g6≠t/\b3≠t) :
 Calls Tryz.prog 173 #[.pointer (some ⟨t,2,none⟩),.func (.func 174) #[] #[.pointer (some pl)]] w fun e w'=>e=.returned (.tuple #[])/\∃ v,QaF w w' k L asked n t (Q2x b2 g6 b3) v:=by
 have c1:w.cell? ⟨t,2,none⟩=some (.int .u32 0):=(hB.cell 2).trans rfl;have hl:=run_call_load (P:=Tryz.prog) Tryz.func208 (by kernel_rfl) (by kernel_rfl) (by kernel_rfl) .u32 (by kernel_rfl) c1;have hnot:∀ (x:Bool) (w:World),(Op.unary .not (.bool x)).run Tryz.prog w=.ok (.bool (!x)) w:=fun _ _=>rfl
 have HS:=Lib.hid (Qdm k L asked t b2 g6 b3 n pl w all hn has hbk hB hp hf htk hpk hpt ht);clear hB hp hf hbk;go_enter Tryz.func173,Tryz.ntmps173
 go_wp2_with (first | (go_at_call 191; refine HS.out.mono ?_; rintro e w1 ⟨rfl,v,hpl⟩; have HPL:=Lib.hid hpl; clear hpl) | (go_at_call 190; go_in))
 go_end0
 exact⟨rfl,v,HPL.out⟩
theorem QbR (k:Book) (L:List (List UInt8)) (asked t b2 g6 b3 n:Nat) (w:World) (all:Value) (hn:n=13\/n=6) (has:asked<=800000)
 (hbk:Q0A w k L asked) (hB:Blk w t 203 (Q32 k n 0 0 (Q2x b2 g6 b3) all)) (hf:Q2r w k b2 g6 b3 n) (htk:¬ k.has t) (ht:b2≠t/\g6≠t/\b3≠t) :
 Calls Tryz.prog 152 #[.pointer (some ⟨t,0,none⟩)] w fun e w'=>e=.returned (.tuple #[])/\∃ v,QaF w w' k L asked n t (Q2x b2 g6 b3) v:=by
 have hmf:∀ (fn:Fn) (first cap:Array Value) (w:World),(Instr.makeFunc fn first cap).run Tryz.prog w=.ok (.func fn first cap) w:=fun _ _ _ _=>rfl
 have htl:=hB.lt;have hb0:=Q07 w (.cells #[.pointer (some ⟨t,0,none⟩)] 67);have hp:(w.alloc (.cells #[.pointer (some ⟨t,0,none⟩)] 67)).cell? ⟨w.heap.size,0,none⟩=some (.pointer (some ⟨t,0,none⟩)):=by simp
 have hl:=hbk.lt;have HD:=Lib.hid (tdo_any k L asked t b2 g6 b3 n ⟨w.heap.size,0,none⟩ _ all hn has (hbk.below hb0) (hB.below' hb0) hp (hf.below hb0) htk (by rintro (e | e | e) <;> simp at e <;> omega) (by simp; omega) ht);have HB0:=Lib.hid hb0;clear hbk hB hf hp hb0;go_enter Tryz.func152,Tryz.ntmps152
 go_wp2_with (go_at_call 173; refine HD.out.mono ?_; rintro e w1 ⟨rfl,v,hpl⟩; have HPL:=Lib.hid hpl; clear hpl)
 go_end0
 obtain⟨W1,W2,W3,gs,cs,h1,h2,h3,h4,h5⟩:=HPL.out;exact⟨rfl,v,W1,W2,W3,gs,cs,(Only.of_below HB0.out).trans h1,h2,h3,h4,h5⟩
structure Q1E where
 t:Nat
 r:Nat
 rc:Nat
 gs:Nat->Nat
 cs:Nat->Nat
def Q1E.mut (T:Q1E) (b:Nat):Prop:=∃ j,j<=2/\b=T.gs j
def Q1E.has (T:Q1E) (b:Nat):Prop:=b=T.t\/b=T.r\/T.mut b
structure Q2b (w:World) (T:Q1E) (k:Book) (ls:List (List UInt8)):Prop where
 tlt:T.t<w.heap.size
 rlt:T.r<w.heap.size
 c0:w.cell? ⟨T.t,0,none⟩=some (.pointer (some ⟨k.g,0,none⟩))
 c1:w.cell? ⟨T.t,1,none⟩=some (.int .i64 (ls.length:Int))
 c6:w.cell? ⟨T.t,6,none⟩=some (.slice (some ⟨T.r,0,none⟩) 3 T.rc)
 rj:∀ j,j<=2->w.cell? ⟨T.r,j,none⟩=some (.slice (some ⟨T.gs j,0,none⟩) (lv ls j).length (T.cs j))
 dig:∀ j,j<=2->Q25 w (T.gs j) (T.cs j) (lv ls j)
 ne:∀ i j,i<j->j<=2->T.gs i≠T.gs j
 far:¬ T.mut T.t/\¬ T.mut T.r
 book:¬ k.has T.t/\¬ k.has T.r/\∀ j,j<=2->¬ k.has (T.gs j)
 len:5<=ls.length/\ls.length<=16
theorem Q2b.keep {w w':World} {T:Q1E} {k:Book} {ls:List (List UInt8)} (h:Q2b w T k ls) (hs:w.heap.size<=w'.heap.size) (hb:∀ b,T.has b->w'.heap[b]?=w.heap[b]?):Q2b w' T k ls :=
 ⟨by have:=h.tlt; omega,by have:=h.rlt; omega,(World.cell?_of_block (hb _ (.inl rfl))).trans h.c0,(World.cell?_of_block (hb _ (.inl rfl))).trans h.c1,(World.cell?_of_block (hb _ (.inl rfl))).trans h.c6,
  fun j hj=>(World.cell?_of_block (hb _ (.inr (.inl rfl)))).trans (h.rj j hj),fun j hj=>(h.dig j hj).keep (hb _ (.inr (.inr ⟨j,hj,rfl⟩))),h.ne,h.far,h.book,h.len⟩
theorem Q2b.lt {w:World} {T:Q1E} {k:Book} {ls:List (List UInt8)} (h:Q2b w T k ls) {b:Nat} (hb:T.has b):b<w.heap.size:=by
 rcases hb with rfl | rfl | ⟨j,hj,rfl⟩
 ·exact h.tlt
 ·exact h.rlt
 ·exact(h.dig j hj).lt
theorem Q2b.only {w w':World} {T:Q1E} {k:Book} {ls:List (List UInt8)} {N:Nat->Prop} (h:Q2b w T k ls) (ho:Only N w w') (hn:∀ b,T.has b->¬ N b):Q2b w' T k ls :=
 h.keep ho.size fun b hb=>ho.block b (h.lt hb) (hn b hb)
theorem Q2b.below {w w':World} {T:Q1E} {k:Book} {ls:List (List UInt8)} (h:Q2b w T k ls) (hb:Below w.heap.size w w'):Q2b w' T k ls:=h.keep hb.size fun b hx=>hb.block b (h.lt hx)
theorem Qak (k:Book) (L:List (List UInt8)) (asked n:Nat) (w:World) (hbk:Q0A w k L asked) (hn:n=13\/n=6) (has:asked<=700000) :
 Calls Tryz.prog 117 #[.pointer (some ⟨k.g,0,none⟩),.int .i64 (n:Int)] w fun e w'=>∃ T:Q1E,e=.returned (.tuple #[.pointer (some ⟨T.t,0,none⟩),.int .i64 0])/\Q2b w' T k (List.replicate n [])/\(∀ b,T.has b->w.heap.size<=b) /\
  (∃ L' a',Q0A w' k L' a'/\a'<=asked+9/\(∀ x,x∈L->x∈L')/\Q1X L' (List.replicate n []))/\Q0t k w w':=by
 have hmf:∀ (fn:Fn) (first cap:Array Value) (w:World),(Instr.makeFunc fn first cap).run Tryz.prog w=.ok (.func fn first cap) w:=fun _ _ _ _=>rfl
 have hn2:6<=n/\n<=13:=by omega
 have hn1:¬ (n:Int)<1:=by omega
 have hn1024:¬ (1024:Int)<(n:Int):=by omega
 have HBK:=Lib.hid hbk;have hlt:=hbk.lt;obtain⟨b2,hb2⟩:∃ b2,b2=w.heap.size:=⟨_,rfl⟩;obtain⟨b3,hb3⟩:∃ b3,b3=w.heap.size+1:=⟨_,rfl⟩;clear hbk;go_enter Tryz.func117,Tryz.ntmps117
 go_upto_region 1 with fail
 have hX:Below w.heap.size w ((w.alloc (.cells #[.pointer (some ⟨k.g,0,none⟩)] 29)).alloc (.cells #[.int .i64 (n:Int)] 3)):=((Below.refl _ _).alloc (Nat.le_refl _) _).alloc (by simp) _;have k2:Blk ((w.alloc (.cells #[.pointer (some ⟨k.g,0,none⟩)] 29)).alloc (.cells #[.int .i64 (n:Int)] 3)) w.heap.size 29 #[.pointer (some ⟨k.g,0,none⟩)]:=(Blk.newAt rfl).alloc _;have k3:Blk ((w.alloc (.cells #[.pointer (some ⟨k.g,0,none⟩)] 29)).alloc (.cells #[.int .i64 (n:Int)] 3)) (w.heap.size+1) 3 #[.int .i64 (n:Int)]:=Blk.newAt (by simp);have hz1:((w.alloc (.cells #[.pointer (some ⟨k.g,0,none⟩)] 29)).alloc (.cells #[.int .i64 (n:Int)] 3)).heap.size=w.heap.size+2:=by simp
 generalize (w.alloc (.cells #[.pointer (some ⟨k.g,0,none⟩)] 29)).alloc (.cells #[.int .i64 (n:Int)] 3)=w1 at hX k2 k3 hz1 ⊢;rw [<- hb3] at k3 ⊢;rw [<- hb2] at k2 hz1 ⊢;have hb2w:w.heap.size<=b2:=by omega
 have hb3w:w.heap.size<=b3:=by omega
 have hb23:b2≠b3:=by omega
 have hw1:w.heap.size<=w1.heap.size:=by omega
 have HX:=Lib.hid hX;have K2:=Lib.hid k2;have K3:=Lib.hid k3;have hl2:=k2.lt;have hl3:=k3.lt;clear hb2 hb3 hX k2 k3 hz1;have c3:w1.cell? ⟨b3,0,none⟩=some (.int .i64 (n:Int)):=(K3.out.cell 0).trans rfl;have c2:w1.cell? ⟨b2,0,none⟩=some (.pointer (some ⟨k.g,0,none⟩)):=(K2.out.cell 0).trans rfl;have HLF:=Lib.hid (QaO k L asked none 0 0 [] w1 w1.heap.size (HBK.out.below HX.out) Q0d.none_ (Nat.le_refl _) (by omega) (by omega));have HZS:=Lib.hid (show inkZ.size=32 by simp [inkZ,bRow]);have HZ:=Lib.hid Q1T;have hds:(bRow (Q1A [])).size=32:=Q0E (Q2j []);have hdo:=Q0K (Q1A []);obtain⟨D,hD⟩:∃ D,D=bRow (Q1A []):=⟨_,rfl⟩;rw [<- hD] at HLF hds hdo;have HD:=Lib.hid hD;have HDS:=Lib.hid hds;have HDO:=Lib.hid hdo;clear hD hds hdo;go_wp2_with fail
 refine HLF.out.mono ?_;rintro _ w3 ⟨rfl,hbk3,ho3⟩;have HBK3:=Lib.hid hbk3;have HO3:=Lib.hid ((Q0t.of_below HX.out).trans ho3);have K23:=Lib.hid ((Only.of_book ho3).blk K2.out (by rintro (e | e | e) <;> omega));have K33:=Lib.hid ((Only.of_book ho3).blk K3.out (by rintro (e | e | e) <;> omega));have hs3:=ho3.size;clear hbk3 ho3 c2 c3 K2 K3 HLF;go_upto_region 4 with(refine Q01 (o:=⟨none,_,_,_,_,_⟩) rfl 60 (.tmp 6) (.tmp 18) rfl w3.heap.size 0 D rfl rfl 60 inkZ (by rw [HZ.out]; exact Blk.newAt rfl) (by rw [HDS.out]; rfl) (by rw [HDS.out,HZS.out]; omega) HDO.out ?_; intro w4 hT4 hD4; rw [Q08 _ _ (by rw [HDS.out,HZS.out])] at hD4)
 have hb4:Below w3.heap.size w3 w4:=hT4.below ((Below.refl _ _).alloc (Nat.le_refl _) _) (Nat.le_refl _);have hs4:=hb4.size;have hg6:=hD4.lt;obtain⟨g6,hg6e⟩:∃ g,g=w3.heap.size:=⟨_,rfl⟩;rw [<- hg6e] at hD4 hg6 ⊢;have hg6w:w3.heap.size<=g6:=by omega
 have HBK4:=Lib.hid (HBK3.out.below hb4);have HO4:=Lib.hid (HO3.out.trans (Q0t.of_below hb4));have K24:=Lib.hid (K23.out.below' hb4);have K34:=Lib.hid (K33.out.below' hb4);have HD4:=Lib.hid hD4;have hk2:=K24.out.lt;have hk3:=K34.out.lt;clear hT4 hD4 hb4 hg6e HBK3 HO3 K23 K33;have c3:w4.cell? ⟨b3,0,none⟩=some (.int .i64 (n:Int)):=(K34.out.cell 0).trans rfl;have c2:w4.cell? ⟨b2,0,none⟩=some (.pointer (some ⟨k.g,0,none⟩)):=(K24.out.cell 0).trans rfl;go_upto_region 7 with fail
 have hb5:=Q07 w4 (.cells (Q32 k n 0 0 .nilFunc (.slice none 0 0)) 203);have hB5:Blk (w4.alloc (.cells (Q32 k n 0 0 .nilFunc (.slice none 0 0)) 203)) w4.heap.size 203 (Q32 k n 0 0 .nilFunc (.slice none 0 0)):=Blk.newAt rfl;have e5:Q32 k n 0 0 .nilFunc (.slice none 0 0)=#[.pointer (some ⟨k.g,0,none⟩),.int .i64 (n:Int),.int .u32 0,.int .i32 0,.int .u32 0,.nilFunc,.slice none 0 0]:=rfl;rw [<- e5];have hz5:(w4.alloc (.cells (Q32 k n 0 0 .nilFunc (.slice none 0 0)) 203)).heap.size=w4.heap.size+1:=by simp
 generalize w4.alloc (.cells (Q32 k n 0 0 .nilFunc (.slice none 0 0)) 203)=w5 at hb5 hB5 hz5 ⊢;obtain⟨t,ht⟩:∃ t,t=w4.heap.size:=⟨_,rfl⟩;rw [<- ht] at hB5 hz5 ⊢;have ht4:w4.heap.size<=t:=by omega
 have HB5:=Lib.hid hb5;have HBT:=Lib.hid hB5;have htl:=hB5.lt;clear ht hb5 hB5 e5 c2 c3;have c5:w5.cell? ⟨t,5,none⟩=some .nilFunc:=(HBT.out.cell 5).trans rfl;have f5:=HBT.out.frozen 5;go_upto_region 8 with fail
 have hB6:=HBT.out.set_ 5 (Q2x b2 g6 b3);have hT6:=Q0c.setCell w5 ⟨t,5,none⟩ (Q2x b2 g6 b3);have e6:(Q32 k n 0 0 .nilFunc (.slice none 0 0)).setIfInBounds 5 (Q2x b2 g6 b3)=Q32 k n 0 0 (Q2x b2 g6 b3) (.slice none 0 0):=by simp [Q32]
 rw [e6] at hB6;have e7:Q2x b2 g6 b3=.func (.func 149) #[] #[.pointer (some ⟨b2,0,none⟩),.pointer (some ⟨g6,0,none⟩),.pointer (some ⟨b3,0,none⟩)]:=rfl;rw [<- e7];generalize w5.setCell ⟨t,5,none⟩ (Q2x b2 g6 b3)=w6 at hB6 hT6 ⊢;have ho6:Only (fun b=>b=t) w4 w6:=(Only.of_below HB5.out).trans (Only.of_turned hT6 rfl);have hbk6:=HBK4.out.only ho6 (by omega) (by omega) (by omega);have hf6:Q2r w6 k b2 g6 b3 n:=by
  refine⟨((ho6.blk K24.out (by omega)).cell 0).trans rfl,?_,((ho6.blk K34.out (by omega)).cell 0).trans rfl⟩;have:=ho6.blk HD4.out (show ¬ g6=t by omega);rw [HD.out] at this;exact this
 have HRY:=Lib.hid (QbR k (Q10 L (Q2l [])) (asked+1) t b2 g6 b3 n w6 (.slice none 0 0) hn (by omega) hbk6 hB6 hf6 (by rintro (e | e | e) <;> omega) ⟨by omega,by omega,by omega⟩);have hs6:=ho6.size;have htl6:=hB6.lt;have HO6:=Lib.hid (show Q0t k w w6 from⟨ho6.os.trans HO4.out.os,ho6.tape.trans HO4.out.tape,ho6.output.trans HO4.out.output,by omega,fun i hi hn=>(ho6.block i (by omega) (by omega)).trans (HO4.out.block i hi hn)⟩);clear hB6 hT6 e6 e7 ho6 hbk6 hf6 c5 f5 HBT HB5 HBK4 HO4 K24 K34 HD4;go_wp2_with fail
 refine HRY.out.mono ?_;rintro _ w7 ⟨rfl,v,W1,W2,W3,gs,cs,h1,h2,h3,h4,h5⟩;go_wp2_with fail
 go_ret2
 obtain⟨L',a',q1,q2,q3,q4,q5⟩:=h2.book;have hs1:=h1.size;have hs2:=h2.only.size;have hs3:=h3.size;have hs7:=h4.size;obtain⟨r,rc,cur,hv,r2,r3,r4,r5,r6,r7⟩:∃ r rc cur,v=.slice (some ⟨r,0,none⟩) 3 rc/\W1.heap.size<=r/\Blk W2 r 189 cur/\3<=rc/\rc<=maxLen/\cur.size=rc*1/\cur.toList.take (3*1)=(List.range 3).map fun j=>.slice (some ⟨gs j,0,none⟩) (lv (List.replicate n []) j).length (cs j):=by
  rcases h2.row.2 with⟨_,h⟩ | h
  ·omega
  ·exact h
 subst hv;have hblk:∀ b,b<W2.heap.size->b≠t->w7.heap[b]?=W2.heap[b]?:=fun b hb hn=>(h4.block b hn).trans (h3.block b hb)
 have hls:(List.replicate n ([]:List UInt8)).length=n:=by simp
 refine⟨⟨t,r,rc,gs,cs⟩,rfl,⟨h5.lt,?_,(h5.cell 0).trans rfl,?_,(h5.cell 6).trans rfl,fun j hj=>?_,fun j hj=>?_,h2.ne,⟨?_,?_⟩,⟨?_,?_,fun j hj=>?_⟩,by rw [hls]; omega⟩,?_,⟨L',a',?_,by omega,fun x hx=>q3 x (Q2n hx),?_⟩,?_⟩
 ·show r<w7.heap.size;have:=r3.lt;omega
 ·rw [hls]; exact(h5.cell 1).trans rfl
 ·have hc:=(r3.cell j);have e1:w7.cell? ⟨r,j,none⟩=W2.cell? ⟨r,j,none⟩:=World.cell?_of_block (hblk r r3.lt (by omega));show w7.cell? ⟨r,j,none⟩=_;rw [e1,hc,<- Array.getElem?_toList];have e2:(cur.toList.take (3*1))[j]?=some (.slice (some ⟨gs j,0,none⟩) (lv (List.replicate n []) j).length (cs j)):=by
   rw [r7,List.getElem?_map,List.getElem?_range (by omega)]; rfl
  rw [List.getElem?_take,if_pos (by omega)] at e2;exact e2
 ·have hd:=h2.dig j hj;have:=h2.new j hj;exact hd.keep (hblk _ hd.lt (by omega))
 ·rintro ⟨j,hj,e⟩;have:=h2.new j hj;simp only at e;omega
 ·rintro ⟨j,hj,e⟩;simp only at e;obtain⟨cur',hc',_⟩:=(h2.dig j hj).row;rw [<- e] at hc';exact absurd rfl (Blk.ne_ r3 hc' (by decide))
 iterate 2 ·rintro (e | e | e) <;> simp only at e <;> omega
 ·have:=h2.new j hj;rintro (e | e | e) <;> simp only at e <;> omega
 ·rintro b (e | e | ⟨j,hj,e⟩) <;> simp only at e
  iterate 2 ·omega
  ·have:=h2.new j hj;omega
 ·exact(q1.below h3).only (Only.of_turned h4 (rfl:(fun b=>b=t) t)) (by omega) (by omega) (by omega)
 ·refine⟨fun x hx=>?_,?_,q5⟩
  ·obtain⟨_,rfl⟩:=List.mem_replicate.1 hx;exact q3 _ (Q3j _ _)
  ·exact q4
 ·have ho:=HO6.out;refine⟨h4.os.trans (h3.os.trans (h2.only.os.trans (h1.os.trans ho.os))),h4.tape.trans (h3.tape.trans (h2.only.tape.trans (h1.tape.trans ho.tape))),h4.output.trans (h3.output.trans (h2.only.output.trans (h1.output.trans ho.output))),by omega,fun i hi hn=>?_⟩;rw [hblk i (by omega) (by omega),h2.only.block i (by omega) hn,h1.block i (by omega) (by omega),ho.block i hi hn]
end
section
open Go.RowKit Go.Maps
theorem Q62 (w:World) (t:Nat) (p:Nat) (h:w.cell? ⟨t,0,none⟩=some (.pointer (some ⟨p,0,none⟩))) :
 Calls Tryz.prog 133 #[.pointer (some ⟨t,0,none⟩)] w fun e w'=>e=.returned (.bool false)/\w=w':=by
 go_enter Tryz.func133,Tryz.ntmps133
 go_wp2
 go_ret
 exact⟨rfl,rfl⟩
theorem Q9A (w:World) (T:Q1E) (k:Book) (ls:List (List UInt8)) (h:Q2b w T k ls) :
 Calls Tryz.prog 85 #[.pointer (some ⟨T.t,0,none⟩)] w fun e w'=>e=.returned (.tuple #[.agg (bRow (Q2o ls)),.int .i64 0])/\Below w.heap.size w w':=by
 have h1:=Q9H ls h.len.1 h.len.2;have HN:=Lib.hid (fun(W:World) (hb:Below w.heap.size w W)=>Q62 W T.t k.g ((hb.cell h.tlt).trans h.c0));have hX:=Q07 w (.cells inkZ 60);have c6:=(hX.cell (p:=⟨T.t,6,none⟩) h.tlt).trans h.c6;have cr:=(hX.cell (p:=⟨T.r,2,none⟩) h.rlt).trans (h.rj 2 (Nat.le_refl _));rw [h1.1] at cr;have hd:=(h.dig 2 (Nat.le_refl _)).keep (w':=w.alloc (.cells inkZ 60)) (hX.block _ (h.dig 2 (Nat.le_refl _)).lt);rw [h1.1] at hd;obtain⟨cur,hbk,hcs,hct⟩:=hd.row;have hc1:=hd.cap.1;have hdat:∀ j,j<32->cur[0+j]?=(bRow (Q2o ls))[j]?:=fun j hj=>by
  have e:cur.toList[j]?=(Q0q [Q2o ls])[j]?:=by
   rw [<- hct,List.getElem?_take,if_pos (by simp; omega)]
  rw [Nat.zero_add,<- Array.getElem?_toList,e];simp [Q0q,bRow]
 have hds:=Q0E h1.2;have hdo:=Q0K (Q2o ls);obtain⟨D,hD⟩:∃ D,D=bRow (Q2o ls):=⟨_,rfl⟩;rw [<- hD] at hdat hds hdo ⊢;have HZS:=Lib.hid (show inkZ.size=32 by simp [inkZ,bRow]);have HZ:=Lib.hid Q1T;have HDT:=Lib.hid hdat;have HDS:=Lib.hid hds;have HDO:=Lib.hid hdo;have HBK:=Lib.hid hbk;have hk0:Blk (w.alloc (.cells inkZ 60)) w.heap.size 60 inkZ:=Blk.newAt rfl;have HK0:=Lib.hid hk0;have HX:=Lib.hid hX;have C6:=Lib.hid c6;have CR:=Lib.hid cr;have hgl:T.gs 2<w.heap.size:=(h.dig 2 (Nat.le_refl _)).lt;clear h hd hct hdat hds hdo hbk hk0 hX c6 cr h1 hD hcs;obtain⟨t,ht⟩:∃ t,t=T.t:=⟨_,rfl⟩;obtain⟨r,hr⟩:∃ t,t=T.r:=⟨_,rfl⟩;obtain⟨rc,hrc⟩:∃ t,t=T.rc:=⟨_,rfl⟩;obtain⟨g2,hg2⟩:∃ t,t=T.gs 2:=⟨_,rfl⟩;obtain⟨c2,hc2⟩:∃ t,t=T.cs 2:=⟨_,rfl⟩;rw [<- ht] at HN C6 ⊢;rw [<- hr,<- hrc] at C6;rw [<- hr,<- hg2,<- hc2] at CR;rw [<- hg2] at HBK hgl;clear ht hr hrc hg2 hc2 hc1;have hwl:w.heap.size<(w.alloc (.cells inkZ 60)).heap.size:=by simp
 obtain⟨g,hg⟩:∃ g,g=w.heap.size:=⟨_,rfl⟩;go_enter Tryz.func85,Tryz.ntmps85
 go_upto_region 1 with fail
 rw [<- HZ.out];generalize World.alloc w _=w1 at HX C6 CR HBK HK0 hwl ⊢;rw [<- hg] at HK0 hwl ⊢;have hgw:w.heap.size<=g:=by omega
 clear hg;go_wp2_with fail
 refine(HN.out w1 HX.out).mono ?_;rintro _ _ ⟨rfl,rfl⟩;go_upto_region 3 with fail
 have l6:=World.block_lt_of_cell? _ _ C6.out;have lr:=World.block_lt_of_cell? _ _ CR.out;have c6:=fun(W:World) (hb:Below w1.heap.size w1 W)=>(hb.cell l6).trans C6.out
 have cr:=fun(W:World) (hb:Below w1.heap.size w1 W)=>(hb.cell lr).trans CR.out
 refine Q0y 14 21 (by kernel_rfl) (by kernel_rfl) (by kernel_rfl) (by simp) ?_;simp only [List.take_succ_cons,List.take_zero,List.drop_succ_cons,List.drop_zero];refine Q02 rfl rfl (.pointer (some ⟨t,0,none⟩)) (fun W _=>by go_simp) ?_;try simp only [Act.put,sA1,sA2,sA3]
 refine Q02 rfl rfl (.pointer (some ⟨t,0,none⟩)) (fun W _=>by go_simp) ?_;try simp only [Act.put,sA1,sA2,sA3]
 refine Q02 rfl rfl (.pointer (some ⟨t,6,none⟩)) (fun W _=>by go_simp) ?_;try simp only [Act.put,sA1,sA2,sA3]
 refine Q0o rfl rfl (.slice (some ⟨r,0,none⟩) 3 rc) (fun W hb=>by have:=c6 W hb; go_simp) ?_;try simp only [Act.put,sA1,sA2,sA3]
 refine Q02 rfl rfl (.pointer (some ⟨t,0,none⟩)) (fun W _=>by go_simp) ?_;try simp only [Act.put,sA1,sA2,sA3]
 refine Q02 rfl rfl (.pointer (some ⟨t,0,none⟩)) (fun W _=>by go_simp) ?_;try simp only [Act.put,sA1,sA2,sA3]
 refine Q02 rfl rfl (.pointer (some ⟨t,6,none⟩)) (fun W _=>by go_simp) ?_;try simp only [Act.put,sA1,sA2,sA3]
 refine Q0o rfl rfl (.slice (some ⟨r,0,none⟩) 3 rc) (fun W hb=>by have:=c6 W hb; go_simp) ?_;try simp only [Act.put,sA1,sA2,sA3]
 refine Q02 rfl rfl (.int .i64 3) (fun W _=>by go_simp) ?_;try simp only [Act.put,sA1,sA2,sA3]
 refine Q02 rfl rfl (.int .i64 2) (fun W _=>by go_simp <;> rfl) ?_;try simp only [Act.put,sA1,sA2,sA3]
 refine Q02 rfl rfl (.pointer (some ⟨r,2,none⟩)) (fun W _=>by go_simp) ?_;try simp only [Act.put,sA1,sA2,sA3]
 refine Q0o rfl rfl (.slice (some ⟨g2,0,none⟩) 1 c2) (fun W hb=>by have:=cr W hb; go_simp) ?_;try simp only [Act.put,sA1,sA2,sA3]
 refine Q02 rfl rfl (.pointer (some ⟨g2,0,none⟩)) (fun W _=>by go_simp) ?_;try simp only [Act.put,sA1,sA2,sA3]
 refine Q0V rfl 60 (.tmp 19) rfl g2 0 32 rfl 60 _ D _ HBK.out Tryz.underlying60 rfl rfl HDS.out HDT.out ?_;try simp only [Act.put,sA1,sA2,sA3]
 refine Q0S ?_;intro w2 hb2;have HK2:=Lib.hid (HK0.out.below' hb2);have HB2:=Lib.hid (HX.out.trans (hb2.mono HX.out.size));clear hb2 c6 cr;go_wp2_with (refine Q01 (o:=⟨none,_,_,_,_,_⟩) rfl 60 (.tmp 2) (.tmp 20) rfl g 0 D rfl rfl 60 inkZ HK2.out (by rw [HDS.out]; rfl) (by rw [HDS.out,HZS.out]; omega) HDO.out ?_; intro w5 hT5 hD5; rw [Q08 _ _ (by rw [HDS.out,HZS.out])] at hD5)
 refine bodyPost_ret (Q0b rfl _ _ g 32 60 _ _ rfl hD5 Tryz.underlying60 rfl rfl HDS.out) rfl ⟨rfl,?_⟩;exact hT5.below HB2.out (by omega)
end
end Go.Proofs.YtcpngeiahgoacaaGreat
