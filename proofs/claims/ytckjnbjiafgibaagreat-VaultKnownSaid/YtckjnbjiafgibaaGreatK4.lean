/- Parts of the proof, in one text. -/
import Derived.Test.YtckjnbjiafgibaaGreatK3
import Derived.Deep.DeepCutAuto
import Derived.Laws.OwnMore
import Derived.Deep.RegionLaw
namespace Go.Proofs.YtckjnbjiafgibaaGreat
set_option linter.unusedVariables false
set_option linter.unusedSimpArgs false
set_option maxRecDepth 100000
set_option maxHeartbeats 16000000
open _root_.Array renaming getElem?_eq_none->zF
open _root_.Bool renaming and_eq_true->zV
open _root_.Go renaming Addr->zA,World->zB,Value->zC,Program->zG,Oper->zH
open _root_.Go.Proofs.Tryz renaming prog->zM
open _root_.Go.Region renaming wanted->zI
open _root_.Go.RowKit renaming Below->zE
open _root_.Go.RowKit.Below renaming refl->zP
open _root_.List renaming getElem?_eq_getElem->zD,getElem?_map->zK,range->zL,length_append->zO,getElem_mem->zQ,getElem?_take->zR,length_cons->zS,mem_cons_self->zT,mem_cons_of_mem->zU,take_succ_eq_append_getElem->zW,length_take->zX
open _root_.Nat renaming lt_of_lt_of_le->zJ,le_refl->zN
section
open Go.RowKit
theorem Blk.under {w w':zB} {g:Nat} {t:TypeId} {cs:Array zC} (h:Blk w g t cs) (hb:zE w.heap.size w w'):Blk w' g t cs:=h.below hb h.lt
def Q1B (p:zB->zC->Prop):Prop:=∀ w w' v,p w v->zE w.heap.size w w'->p w' v
theorem Q1B.pure (q:zC->Prop):Q1B fun _ v=>q v:=fun _ _ _ h _=>h
def Q2u (ops:Array zH) (ps:Nat->zB->zC->Prop) (j:Nat) (w:zB) (a:Act):Prop:=∀ o d,ops[j]?=some o->o.dst=some d->ps j w (a.eval (.tmp d))
structure Kept (ops:Array zH) (n:Nat) (a0 a:Act):Prop where
 defers:a.defers=a0.defers
 size:a.tmps.size=a0.tmps.size
 tmps:∀ d:Nat,(∀ (i:Nat) (o:zH),i<n->ops[i]?=some o->o.dst≠some d)->a.tmps[d]?=a0.tmps[d]?
def freeB (ops:Array zH) (n d:Nat):Bool:=(zL n).all fun i=>match ops[i]? with
 | none=>true
 | some o=>o.dst != some d
theorem Q8F {ops:Array zH} {n d:Nat} (h:freeB ops n d=true):∀ (i:Nat) (o:zH),i<n->ops[i]?=some o->o.dst≠some d:=fun i o hi ho=>by have:=List.all_eq_true.1 h i (List.mem_range.2 hi);simp only [ho,bne_iff_ne] at this;exact this
theorem Kept.at_ {ops:Array zH} {n:Nat} {a0 a:Act} (h:Kept ops n a0 a) {d:Nat} (hd:freeB ops n d=true):a.eval (.tmp d)=a0.eval (.tmp d):=by have:=h.tmps d (Q8F hd);simp [Act.eval,this]
theorem Kept.get {ops:Array zH} {n:Nat} {a0 a:Act} (h:Kept ops n a0 a) {d:Nat} (hd:freeB ops n d=true) {v:zC} (hv:a0.eval (.tmp d)=v):a.tmps[d]?.getD undef=v:=by have:=h.at_ hd;rw [hv] at this;simpa [Act.eval] using this
theorem Q2u.get {ops:Array zH} {ps:Nat->zB->zC->Prop} {j:Nat} {w:zB} {a:Act} (h:Q2u ops ps j w a) {o:zH} (d:Nat) (ho:ops[j]?=some o) (hd:o.dst=some d):ps j w (a.tmps[d]?.getD undef):=by have:=h o d ho hd;simpa [Act.eval] using this
def Q4Z (P:zG) (ops:Array zH) (o:zH) (a:Act) (w:zB) (p:zB->zC->Prop):Prop :=∀ (K:Act->zB->Prop) (Q':Exit->Act->zB->Prop),(∀ v w',zE w.heap.size w w'->p w' v->K (a.put o.dst v) w')->if zI o (yielded ops a.tmps)=true then o.wp P a w K Q' else K (a.put o.dst undef) w
section
variable {P:zG} {ops:Array zH}
theorem Q2z {o:zH} {a:Act} {w:zB} {p:zB->zC->Prop} (hw:zI o (yielded ops a.tmps)=true) (v:zC) (w':zB) (he:(execOp a.eval o).run P w=.ok (.value v) w') (hb:zE w.heap.size w w') (hp:p w' v):Q4Z P ops o a w p:=fun K Q' hK=>by rw [if_pos hw];unfold Oper.wp;rw [he];exact hK v w' hb hp
theorem Q1b {o:zH} {a:Act} {w:zB} {p:zB->zC->Prop} (hw:zI o (yielded ops a.tmps)=true) (v:zC) (he:(execOp a.eval o).run P w=.ok (.value v) w) (hp:p w v):Q4Z P ops o a w p :=Q2z hw v w he (zP _ _) hp
theorem Q0z {o:zH} {a:Act} {w:zB} {p:zB->zC->Prop} (hw:zI o (yielded ops a.tmps)=true) (f:FuncId) (args:Array zC) (he:(execOp a.eval o).run P w=.ok (.enter f args) w)
 (hc:Calls P f args w fun e w'=>∃ v,e=.returned v/\zE w.heap.size w w'/\p w' v):Q4Z P ops o a w p:=fun K Q' hK=>by
 rw [if_pos hw];unfold Oper.wp;rw [he];refine hc.mono ?_;rintro e w' ⟨v,rfl,hb,hp⟩;exact hK v w' hb hp
end
def backB (md:Region.Mode) (ops:Array zH) (n:Nat):Bool:=(zL n).all fun i=>match ops[i]? with
 | none=>true
 | some o=>o.after.all fun e=>!Region.binds md e || decide (e.on<i)
def Q19 (m n:Nat):Array Bool:=(zL m).map (fun i=>decide (i<n)) |>.toArray
theorem Q4N (m n k:Nat) (d:Bool) (h:k<m):(Q19 m n).getD k d=decide (k<n):=by unfold Q19;simp [h]
def relB (md:Region.Mode) (ops:Array zH) (n:Nat):Bool :=decide (n<ops.size) && Region.sinkB md ops n && Region.chainB md ops n && Q6Y ops n && backB md ops n && Region.seqB md ops (ops.size - n) n (Q19 ops.size n)
section
variable {P:zG} {md:Region.Mode} {ops:Array zH}
theorem Q4V (f:Nat->Bool):∀ n,(∃ i,i<n/\f i=false)->∃ i,i<n/\f i=false/\∀ j,j<i->f j=true:=by
 intro n
 induction n with
 | zero=>rintro ⟨i,hi,_⟩; omega
 | succ n ih =>
  rintro ⟨i,hi,h⟩;by_cases hx:∃ i,i<n/\f i=false
  ·obtain⟨j,h1,h2,h3⟩:=ih hx;exact⟨j,by omega,h2,h3⟩
  have hin:i=n:=by
   rcases Nat.lt_or_ge i n with h4 | h4
   ·exact absurd ⟨i,h4,h⟩ hx
   omega
  subst hin;refine⟨i,by omega,h,fun j hj=>?_⟩;cases hf:f j with
  | true=>rfl
  | false=>exact absurd ⟨j,hj,hf⟩ hx
theorem Q6v {n:Nat} {ps:Nat->zB->zC->Prop} {a0:Act} {w0:zB} {Q':Exit->Act->zB->Prop} (hn:n<ops.size) (hs:Region.sinkB md ops n=true) (hc:Region.chainB md ops n=true) (hd:Q6Y ops n=true) (hbk:backB md ops n=true)
 (hl:∀ j,Q1B (ps j))
 (hop:∀ i o,i<n->ops[i]?=some o->∀ a w,zE w0.heap.size w0 w->Kept ops n a0 a->(∀ j,Region.waitsFor md ops i j=true->Q2u ops ps j w a)->Q4Z P ops o a w (ps i))
 (hL:∀ a w,zE w0.heap.size w0 w->Kept ops n a0 a->(∀ j,j<n->Q2u ops ps j w a)->wpAny P md ops Q' (ops.size - n) (Q19 ops.size n) a w)
 (hsz:∀ (i:Nat) (o:zH) (d:Tmp),i<n->ops[i]?=some o->o.dst=some d->d<a0.tmps.size) :
 ∀ (f:Nat) (listed:Array Bool) (a:Act) (w:zB),((zL n).filter fun i=>!listed.getD i false).length=f->HeadInv md ops n listed->zE w0.heap.size w0 w->Kept ops n a0 a->(∀ j,j<n->listed.getD j false=true->Q2u ops ps j w a)->wpAny P md ops Q' (f+(ops.size - n)) listed a w
 | 0,listed,a,w,hf,inv,hb,hk,hp=>by
  have hall:∀ j,j<n->listed.getD j false=true:=fun j hj=>by
   cases hx:listed.getD j false with
   | true=>rfl
   | false =>
    have:j∈(zL n).filter fun i=>!listed.getD i false:=List.mem_filter.2 ⟨List.mem_range.2 hj,by rw [hx]; rfl⟩
    rw [List.eq_nil_of_length_eq_zero hf] at this;cases this
  have hls:listed=Q19 ops.size n:=by
   apply Array.ext
   ·rw [inv.size]; simp [Q19]
   intro i h1 h2;have hi:i<ops.size:=by rw [<- inv.size]; exact h1
   have e1:listed[i]=listed.getD i false:=by simp [h1]
   have e2:(Q19 ops.size n)[i]=(Q19 ops.size n).getD i false:=by simp [h2]
   rw [e1,e2,Q4N _ _ _ _ hi];by_cases hin:i<n
   ·rw [hall i hin,decide_eq_true hin]
   rw [decide_eq_false hin];exact getD_both (inv.tail i (by omega) hi)
  rw [Nat.zero_add,hls];exact hL a w hb hk fun j hj=>hp j hj (hall j hj)
 | f+1,listed,a,w,hf,inv,hb,hk,hp=>by
  have hex:∃ i,i<n/\listed.getD i false=false:=by
   cases hx:(zL n).filter fun i=>!listed.getD i false with
   | nil=>rw [hx] at hf; cases hf
   | cons i t =>
    have:i∈(zL n).filter fun i=>!listed.getD i false:=by rw [hx]; exact zT
    obtain⟨h1,h2⟩:=List.mem_filter.1 this;exact⟨i,List.mem_range.1 h1,by simpa using h2⟩
  obtain⟨m,hm,hmf,hmb⟩:=Q4V (fun i=>listed.getD i false) n hex;have hin:∀ k,k<n->listed.getD k false=false->listed.getD k true=false:=fun k hk h=>getD_in (by rw [inv.size]; omega) h
  rw [show f+1+(ops.size - n)=(f+(ops.size - n))+1 by omega];refine⟨fun h0=>?_,fun i hi=>?_⟩
  ·exfalso
   have:m∈Region.ready md ops listed:=by refine mem_ready.2 ⟨hin m hm hmf,ops[m],Array.getElem?_eq_getElem (by omega),fun e he hbd=>?_⟩;have h1:=List.all_eq_true.1 hbk m (List.mem_range.2 hm);rw [Array.getElem?_eq_getElem (show m<ops.size by omega)] at h1;have h2:=Array.all_eq_true_iff_forall_mem.1 h1 e he;rw [hbd] at h2;simp at h2;exact hmb e.on h2
   rw [h0] at this;cases this
  have hin':i<n:=by
   rcases Nat.lt_or_ge i n with h | h
   ·exact h
   exact absurd hi (tail_waits hs hc hn inv _ m rfl hm (hin m hm hmf) i h)
  obtain⟨hun,o,ho,hall⟩:=mem_ready.1 hi;have hrel:=hop i o hin' ho a w hb hk (fun j hj=>by obtain⟨oj,hoj,e,he,hbd,hon⟩:=Region.waitsFor_spec hj;have:oj=o:=Option.some.inj (hoj.symm.trans ho);subst this;have h1:=hall e he hbd;rw [hon] at h1;have h2:=List.all_eq_true.1 hbk i (List.mem_range.2 hin');rw [ho] at h2;have h3:=Array.all_eq_true_iff_forall_mem.1 h2 e he;rw [hbd] at h3;simp at h3;exact hp j (by omega) h1)
  unfold wpOp;simp only [ho];have hcnt:((zL n).filter fun k=>!(listed.setIfInBounds i true).getD k false).length=f:=by
   have hmem:i∈(zL n).filter fun i=>!listed.getD i false:=List.mem_filter.2 ⟨List.mem_range.2 hin',by rw [getD_both hun]; rfl⟩
   have hnd:((zL n).filter fun i=>!listed.getD i false).Nodup:=List.Pairwise.filter _ List.nodup_range;have he:((zL n).filter fun k=>!(listed.setIfInBounds i true).getD k false)=((zL n).filter fun i=>!listed.getD i false).erase i:=by
    rw [hnd.erase_eq_filter,List.filter_filter];apply List.filter_congr
    intro k hk;by_cases hki:i=k
    ·subst hki;have hlt:i<listed.size:=by rw [inv.size]; omega
     simp [hlt]
    rw [getD_set_ne false hki];simp [Ne.symm hki]
   rw [he,List.length_erase_of_mem hmem,hf];rfl
  have hfin:∀ v w',zE w.heap.size w w'->ps i w' v->wpAny P md ops Q' (f+(ops.size - n)) (listed.setIfInBounds i true) (a.put o.dst v) w':=fun v w' hbw hpv=>by
   refine Q6v hn hs hc hd hbk hl hop hL hsz f _ _ w' hcnt (inv.set hi hin') (hb.trans (hbw.mono hb.size)) ⟨?_,by rw [Q2x]; exact hk.size,fun d hfree=>?_⟩ fun j hj hlj oj d hoj hdj=>?_
   ·rw [<- hk.defers]; unfold Act.put; split <;> rfl
   ·rw [Q1n (hfree i o hin' ho)]; exact hk.tmps d hfree
   by_cases hji:j=i
   ·subst hji;have:oj=o:=Option.some.inj (hoj.symm.trans ho);subst this;have hds:d<a.tmps.size:=by rw [hk.size]; exact hsz j oj d hin' hoj hdj
    have he:(a.put oj.dst v).eval (.tmp d)=v:=by rw [hdj];simp [Act.put,Act.eval,hds]
    rw [he];exact hpv
   have hl2:listed.getD j false=true:=by rw [getD_set_ne false (Ne.symm hji)] at hlj; exact hlj
   have he:(a.put o.dst v).eval (.tmp d)=a.eval (.tmp d):=by have:=Q1n (a:=a) (v:=v) (Q1U hd hj hin' hji hoj ho hdj);simp [Act.eval,this]
   rw [he];exact hl j _ _ _ (hp j hj hl2 oj d hoj hdj) hbw
  have:=hrel (wpAny P md ops Q' (f+(ops.size - n)) (listed.setIfInBounds i true)) Q' hfin;split
  ·rename_i hwt;rw [if_pos hwt] at this;exact .inl this
  rename_i hwt;rw [if_neg hwt] at this;exact this
end
def Q4j (P:zG) (ops:Array zH) (n:Nat) (ps:Nat->zB->zC->Prop) (a0:Act) (w0:zB):Nat->List zH->Prop
 | _,[]=>True
 | k,o :: l=>(∀ a w,zE w0.heap.size w0 w->Kept ops n a0 a->(∀ j,Region.waitsFor .any ops k j=true->Q2u ops ps j w a)->Q4Z P ops o a w (ps k))/\Q4j P ops n ps a0 w0 (k+1) l
theorem Q4j.spec {P:zG} {ops:Array zH} {n:Nat} {ps:Nat->zB->zC->Prop} {a0:Act} {w0:zB}:∀ (l:List zH) (k:Nat),Q4j P ops n ps a0 w0 k l->∀ i o,l[i]?=some o ->
 ∀ a w,zE w0.heap.size w0 w->Kept ops n a0 a->(∀ j,Region.waitsFor .any ops (k+i) j=true->Q2u ops ps j w a)->Q4Z P ops o a w (ps (k+i))
 | [],k,_,i,o,ho=>by simp at ho
 | o' :: l,k,h,0,o,ho=>by simp at ho; subst ho; exact h.1
 | o' :: l,k,h,i+1,o,ho=>by have:=Q4j.spec l (k+1) h.2 i o (by simpa using ho);rw [show k+1+i=k+(i+1) by omega] at this;exact this
def sizeB (ops:Array zH) (n m:Nat):Bool:=(zL n).all fun i=>match ops[i]? with
 | none=>true
 | some o=>match o.dst with
  | none=>true
  | some d=>decide (d<m)
theorem Q5N {P:zG} {id:Nat} {Q:Exit->Act->zB->Prop} {a:Act} {w:zB} {l:List zH} (n m:Nat) (ps:Nat->zB->zC->Prop) (hm:P.follows .mixedOrders=true) (hB:relB .any l.toArray n=true) (hsz:sizeB l.toArray n m=true) (ha:a.tmps.size=m)
 (hl:∀ j,Q1B (ps j)) (hop:Q4j P l.toArray n ps a w 0 (l.take n))
 (h:∀ a' w',zE w.heap.size w w'->Kept l.toArray n a a'->(∀ j,j<n->Q2u l.toArray ps j w' a')->wpList P l.toArray Q (l.drop n) a' w'):(Code.region id l.toArray true).wp P Q a w:=by
 simp only [relB,zV,decide_eq_true_eq] at hB;obtain⟨⟨⟨⟨⟨hn,hs⟩,hc⟩,hd⟩,hbk⟩,hsq⟩:=hB;have inv0:HeadInv .any l.toArray n (Array.replicate l.toArray.size false) :=⟨by simp,fun j oj _ hl=>(by rw [getD_replicate_false] at hl; cases hl),fun t _ ht=>getD_in (by simpa using ht) (getD_replicate_false _ _)⟩
 have hdl:(l.drop n).length=l.toArray.size - n:=by simp
 refine wp_region_any hm ?_;have:=Q6v (Q':=Q) (md:=.any) (P:=P) (ops:=l.toArray) (n:=n) (ps:=ps) (a0:=a) (w0:=w) hn hs hc hd hbk hl (fun i o hi ho a' w' h1 h2 h3=>by
  have:=Q4j.spec (l.take n) 0 hop i o (by rw [zR,if_pos hi]; simpa using ho) a' w' h1 h2;simp only [Nat.zero_add] at this;exact this h3)
  (fun a' w' h1 h2 h3=>by have:=wpAny_of_seq (md:=.any) (ops:=l.toArray) (Q':=Q) (l.drop n) n (Q19 l.toArray.size n) a' w' (fun j=>by simp [List.getElem?_drop]) (by rw [hdl]; exact hsq) (h a' w' h1 h2 h3);rw [hdl] at this;exact this)
  (fun i o d hi ho hdst=>by have:=List.all_eq_true.1 hsz i (List.mem_range.2 hi);simp only [ho,hdst,decide_eq_true_eq] at this;rw [ha]; exact this)
  n (Array.replicate l.toArray.size false) a w.drew (by
   rw [List.filter_eq_self.2 (fun i _=>by rw [getD_replicate_false]; rfl)]
   simp) inv0 (zP _ w).drew ⟨rfl,rfl,fun _ _=>rfl⟩ (fun j _ hj=>by rw [getD_replicate_false] at hj; cases hj)
 rw [show n+(l.toArray.size - n)=l.toArray.size by omega] at this;exact this
def Q0R:Act->List Nat->(Nat->zC)->Act
 | a,[],_=>a
 | a,d :: ds,f=>Q0R (a.put (some d) (f d)) ds f
theorem Q5w:∀ (ds:List Nat) (a:Act) (f:Nat->zC) (k:Nat),(Q0R a ds f).tmps[k]?=if k∈ds/\k<a.tmps.size then some (f k) else a.tmps[k]?
 | [],a,f,k=>by simp [Q0R]
 | d :: ds,a,f,k=>by
  rw [Q0R,Q5w ds,Q2x];by_cases hk:k∈ds/\k<a.tmps.size
  ·rw [if_pos hk,if_pos ⟨zU _ hk.1,hk.2⟩]
  rw [if_neg hk];by_cases hd:k=d
  ·subst hd;by_cases hs:k<a.tmps.size
   ·rw [if_pos ⟨zT,hs⟩];simp [Act.put,hs]
   rw [if_neg (fun h=>hs h.2),zF (by rw [Q2x]; omega),zF (by omega)]
  rw [if_neg (fun h=>by
   rcases List.mem_cons.1 h.1 with h1 | h1
   ·exact hd h1
   exact hk ⟨h1,h.2⟩)]
  exact Q1n (fun e=>hd (by injection e with e; exact e.symm))
theorem Q3w:∀ (ds:List Nat) (a:Act) (f:Nat->zC),(Q0R a ds f).defers=a.defers
 | [],a,f=>rfl
 | d :: ds,a,f=>by rw [Q0R,Q3w ds]; rfl
def Q56 (ops:Array zH) (n:Nat):List Nat:=(zL n).filterMap fun i=>(ops[i]?).bind (·.dst)
theorem Kept.puts {ops:Array zH} {n:Nat} {a0 a:Act} (h:Kept ops n a0 a) (hs:sizeB ops n a0.tmps.size=true):a=Q0R a0 (Q56 ops n) (fun d=>a.tmps[d]?.getD undef):=by
 have h1:a.tmps=(Q0R a0 (Q56 ops n) (fun d=>a.tmps[d]?.getD undef)).tmps:=by
  apply Array.ext_getElem?
  intro k;rw [Q5w];by_cases hk:k∈Q56 ops n/\k<a0.tmps.size
  ·rw [if_pos hk];have:k<a.tmps.size:=by rw [h.size]; exact hk.2
   simp [this]
  rw [if_neg hk];refine h.tmps k fun i o hi ho hd=>hk ⟨List.mem_filterMap.2 ⟨i,List.mem_range.2 hi,by rw [ho]; exact hd⟩,?_⟩
  have:=List.all_eq_true.1 hs i (List.mem_range.2 hi);simp only [ho,hd,decide_eq_true_eq] at this;exact this
 have h2:a.defers=(Q0R a0 (Q56 ops n) (fun d=>a.tmps[d]?.getD undef)).defers:=by rw [Q3w,h.defers]
 calc a=⟨a.tmps,a.defers⟩:=rfl
  _=_:=by rw [h2]; conv=>lhs; arg 1; rw [h1]
theorem Q0r {P:zG} {id:Nat} {Q:Exit->Act->zB->Prop} {a:Act} {w:zB} {l:List zH} (n m:Nat) (ps:Nat->zB->zC->Prop) (ds:List Nat) (hm:P.follows .mixedOrders=true) (hB:relB .any l.toArray n=true) (hsz:sizeB l.toArray n m=true) (ha:a.tmps.size=m) (hds:Q56 l.toArray n=ds)
 (hl:∀ j,Q1B (ps j)) (hop:Q4j P l.toArray n ps a w 0 (l.take n))
 (h:∀ (f:Nat->zC) w',zE w.heap.size w w'->(∀ j,j<n->∀ o d,l.toArray[j]?=some o->o.dst=some d->ps j w' (f d))->wpList P l.toArray Q (l.drop n) (Q0R a ds f) w'):(Code.region id l.toArray true).wp P Q a w:=by
 refine Q5N n m ps hm hB hsz ha hl hop fun a' w' hb hk hp=>?_
 rw [hk.puts (by rw [ha]; exact hsz),hds];exact h _ w' hb fun j hj o d ho hd=>(hp j hj).get d ho hd
theorem sG {ops:Array zH} {ps:Nat->zB->zC->Prop} {j:Nat} {w:zB} {a:Act} {A:Prop} (hd:A->Q2u ops ps j w a) (d:Nat) {o:zH} (hA:A:=by kernel_rfl) (ho:ops[j]?=some o:=by exact rfl) (hs:o.dst=some d:=by exact rfl) : ps j w (a.tmps[d]?.getD undef):=(hd hA).get d ho hs
theorem sJ {ops:Array zH} {ps:Nat->zB->zC->Prop} {j:Nat} {w:zB} {a:Act} {A:Prop} (hd:A->Q2u ops ps j w a) (d:Nat) {o:zH} {v:zC} (hA:A:=by kernel_rfl) (ho:ops[j]?=some o:=by exact rfl) (hs:o.dst=some d:=by exact rfl) (hp:(fun x=>ps j w x)=(fun x=>x=v):=by exact rfl):a.tmps[d]?.getD undef=v:=(congrFun hp _).mp ((hd hA).get d ho hs)
theorem sK {ops:Array zH} {n:Nat} {a0 a:Act} (h:Kept ops n a0 a) (d:Nat) {v:zC} (hd:freeB ops n d=true:=by kernel_rfl) (hv:a0.eval (.tmp d)=v:=by exact rfl):a.tmps[d]?.getD undef=v:=h.get hd hv
theorem sV {P:zG} {ops:Array zH} {o:zH} {a:Act} {w:zB} {p:zB->zC->Prop} {v:zC} (hw:zI o (yielded ops a.tmps)=true:=by exact rfl) (hp:p w v:=by exact rfl) (he:(execOp a.eval o).run P w=.ok (.value v) w:=by go_simp):Q4Z P ops o a w p:=Q1b hw v he hp

def tn (b:List UInt8):Nat×List UInt8×Nat:=match Q3f b with
 | .error e=>(0,[],e)
 | .ok (n,r)=>(n,r,0)
theorem Q6A (n:Nat) (h:n<18446744073709551616):(BitVec.ofInt 64 (n:Int)).toNat=n:=by
 rw [BitVec.toNat_ofInt]
 simp
 omega
theorem or_byte (x y:Nat) (hx:x<281474976710656) (hy:y<256):bits .or .i64 ((x:Int)*256) (y:Int)=((x*256+y:Nat):Int):=by show IntKind.i64.wrap ((BitVec.ofInt 64 ((x:Int)*256) ||| BitVec.ofInt 64 (y:Int)).toNat:Int)=_;rw [show ((x:Int)*256)=((x*256:Nat):Int) by omega,BitVec.toNat_or,Q6A _ (by omega),Q6A _ (by omega)];have h:=Nat.two_pow_add_eq_or_of_lt (i:=8) (b:=y) (by omega) x;rw [show x*256=2 ^ 8*x by omega,<- h];rw [IntKind.wrap_i64];omega
theorem Q36 (A:Option zA) (n c:Nat) (xs:List UInt8) (w:zB) (B:Nat) (h:Q04 w B 1 A n (xs.map vb)) (hB:B<=w.heap.size) (hc:n<=c) (hcm:n<=140737488355328) :
 Calls zM 82 #[.slice A n c] w fun e w'=>∃ v,e=.returned (.tuple #[.int .i64 ((tn xs).1:Int),v,.int .i64 ((tn xs).2.2:Int)])/\OwnB w' w.heap.size v (tn xs).2.1/\zE w.heap.size w w':=by
 have hxn:xs.length=n:=by have:=h.1; simpa using this
 cases xs with
 | nil =>
  simp at hxn;subst hxn;go_enter Tryz.func82,Tryz.ntmps82
  go_wp2_with fail
  go_ret3
  exact⟨_,rfl,OwnB.nil _ _,zP _ _⟩
 | cons m r =>
  obtain⟨ad,hA,hadb,hcell⟩:=h.2 (by simp at hxn; omega);subst hA;obtain⟨k,hk⟩:∃ k,k=m.toNat:=⟨_,rfl⟩;have hk8:k<256:=by rw [hk]; exact m.toNat_lt
  have hwk:wrap64 (k:Int)=(k:Int):=by unfold wrap64; omega
  have c0:∀ q,(w.drewN q).cell? ad=some (.int .u8 (k:Int)):=fun q=>by
   have h0:w.cell? ad=some (vb m):=by have:=hcell 0 (vb m) rfl; simpa [Addr.add] using this
   rw [hk];exact h0
  have hrn:r.length=n - 1:=by simp at hxn; omega
  have hn1:1<=n:=by simp at hxn; omega
  have hsl:=fun W=>Q0L (P:=zM) (t:=28) (e:=5) rfl rfl (some ad) n c 1 1 rfl (by omega) W
  have hrest:=h.cut (cap:=c) hn1 hc;rw [Nat.one_mul,List.map_cons,List.drop_one,List.tail_cons] at hrest;obtain⟨A1,hA1⟩:∃ A1,A1=(if c=1 then some ad else(some ad).map (·.add 1)):=⟨_,rfl⟩;rw [<- hA1] at hsl hrest;obtain⟨n1,hn1e⟩:∃ n1,n1=n - 1:=⟨_,rfl⟩;obtain⟨c1,hc1e⟩:∃ c1,c1=c - 1:=⟨_,rfl⟩;rw [<- hn1e] at hsl hrest hrn;rw [<- hc1e] at hsl;have hc1:n1<=c1:=by omega
  have hc1m:n1<=140737488355328:=by omega
  have HK:=sH hk;have HR:=sH hrest;have HRN:=sH hrn;have hn0:¬ (n:Int)=0:=by omega
  clear hA1 hn1e hc1e hcell hxn h hk hrest hrn;go_enter Tryz.func82,Tryz.ntmps82
  go_upto_region 3 with fail
  go_quiet (fail)
  have hb1:zE w.heap.size w (w.drewN nq):=Q0M (zP _ _) nq;have HR1:=sH (HR.out.drewN nq);have hs1:(w.drewN nq).heap.size=w.heap.size:=rfl;generalize w.drewN nq=w1 at hb1 HR1 hs1 ⊢;have HB1:=sH hb1;clear hb1 c0 hsl;by_cases h1:7<k
  ·have htn:tn (m :: r)=(0,[],4):=by unfold tn Q3f; simp only [<- HK.out]; rw [if_pos h1]
   have HT:=sH htn;clear htn;go_wp2_with fail
   go_ret3
   exact⟨_,by rw [HT.out]; rfl,by rw [HT.out]; exact OwnB.nil _ _,HB1.out⟩
  by_cases h2:n1<k
  ·have htn:tn (m :: r)=(0,[],3):=by unfold tn Q3f; simp only [<- HK.out]; rw [if_neg h1,if_pos (by have:=HRN.out; omega)]
   have HT:=sH htn;clear htn;go_wp2_with fail
   go_ret3
   exact⟨_,by rw [HT.out]; rfl,by rw [HT.out]; exact OwnB.nil _ _,HB1.out⟩
  by_cases h3:0<k/\r.head?=some 0
  ·have htn:tn (m :: r)=(0,[],4):=by unfold tn Q3f; simp only [<- HK.out]; rw [if_neg h1,if_neg (by have:=HRN.out; omega),if_pos h3]
   have HT:=sH htn;clear htn;obtain⟨h3a,h3b⟩:=h3;obtain⟨ad1,hA1,_,hcell1⟩:=HR1.out.2 (by omega);subst hA1;have c1:w1.cell? ad1=some (.int .u8 0):=by have:=hcell1 0 (vb 0) (by cases r with | nil=>simp at h3b | cons a t=>simp at h3b; subst h3b; rfl);simpa [Addr.add,vb,bi] using this
   clear hcell1;go_wp2_with fail
   go_ret3
   exact⟨_,by rw [HT.out]; rfl,by rw [HT.out]; exact OwnB.nil _ _,HB1.out⟩
  have hnx:(0<k)->∃ ad1 z,A1=some ad1/\w1.cell? ad1=some (.int .u8 z)/\z≠0:=fun h0=>by
   obtain⟨ad1,hA1,_,hcell1⟩:=HR1.out.2 (by omega);cases r with
   | nil=>have:=HRN.out; simp at this; omega
   | cons a t =>
    refine⟨ad1,bi a,hA1,by have h9:w1.cell? ad1=some (vb a):=(by have:=hcell1 0 (vb a) rfl; simpa [Addr.add] using this); exact h9,fun e=>h3 ⟨h0,?_⟩⟩
    simp
    exact Q8H e
  go_upto_region 8 with fail
  go_cut [25] (fun s25 wx=>s25=.bool false/\wx=w1)
  case first =>
   by_cases h0:0<k
   ·obtain⟨ad1,z,hA1,hc1',hz⟩:=hnx h0;subst hA1;have hzz:(z == 0)=false:=by simp [hz]
    go_wp2_with fail
    go_meet
    exact⟨rfl,rfl⟩
   have h0':k=0:=by omega
   subst h0';go_wp2_with fail
   go_meet
   exact⟨rfl,rfl⟩
  obtain⟨rfl,rfl⟩:=hcut;have hsl2:=fun W=>Q3X (P:=zM) (t:=28) (e:=5) rfl rfl A1 n1 c1 k (k:Int) rfl (by omega) W
  have hsl3:=fun W=>Q0L (P:=zM) (t:=28) (e:=5) rfl rfl A1 n1 c1 k (k:Int) rfl (by omega) W
  have hr2:=HR1.out.to (cap:=c1) (show k<=n1 by omega) hc1;have hr3:=HR1.out.cut (cap:=c1) (show k<=n1 by omega) hc1;obtain⟨A2,hA2⟩:∃ A2,A2=(if c1=0 then A1 else A1.map (·.add 0)):=⟨_,rfl⟩;obtain⟨A3,hA3⟩:∃ A3,A3=(if c1=k then A1 else A1.map (·.add k)):=⟨_,rfl⟩;rw [Nat.mul_one,<- hA3] at hr3;rw [<- hA2] at hsl2 hr2;rw [<- hA3] at hsl3;rw [<- List.map_take] at hr2;rw [<- List.map_drop] at hr3;have HR2:=sH hr2;have HR3:=sH hr3;clear hA2 hA3 hr2 hr3;go_wp2_with fail
  go_loopw [2,38] (fun av iv wr=>∃ i:Nat,i<=k/\iv=.int .i64 i/\av=.int .i64 ((valB (r.take i):Nat):Int)/\wc=wr) (fun _ iv _=>k - (intOf iv).toNat)
  case atStart=>exact⟨0,by omega,rfl,rfl,rfl⟩
  obtain⟨i,hi,rfl,rfl,rfl⟩:=hrel;have hil:i<k->i<r.length:=fun h=>by have:=HRN.out; omega
  by_cases hik:i<k
  ·obtain⟨ad2,u,hA2,_,hu,hc2⟩:=HR2.out.at_ hik;subst hA2;have hu':u=vb (r[i]'(hil hik)):=by
    rw [zK,zR,if_pos hik,zD (hil hik)] at hu;injection hu with hu
    exact hu.symm
   subst hu';have hv:valB (r.take (i+1))=valB (r.take i)*256+(r[i]'(hil hik)).toNat:=by rw [zW (hil hik),Q3x]
   have hvl:=Q6V i (r.take i) (by rw [zX]; have:=HRN.out; omega);have hvl6:valB (r.take i)<256 ^ 6:=zJ hvl (Nat.pow_le_pow_right (by omega) (by omega));have h256:=(r[i]'(hil hik)).toNat_lt;have hc2':wc.cell? (ad2.add i)=some (.int .u8 (((r[i]'(hil hik)).toNat:Nat):Int)):=hc2;generalize (r[i]'(hil hik)).toNat=y at hv h256 hc2';obtain⟨x,hx⟩:∃ x,x=valB (r.take i):=⟨_,rfl⟩;rw [<- hx] at hv hvl6 ⊢;have HV:=sH hv;have HX:=sH hx;have hx6:x<281474976710656:=hvl6;clear hvl hvl6 hv hx hc2 hu;have hor:=or_byte x y hx6 h256;rw [<- HV.out] at hor;have hor':=hor;go_wp2_with fail
   go_roundw
   case rel=>exact⟨i+1,by omega,by go_num,hor'▸rfl,trivial⟩
   case measure=>simp [intOf]; omega
  obtain rfl:i=k:=by omega
  clear hsl2;have htk:tn (m :: r)=if maxN<valB (r.take i) then(0,[],9) else(valB (r.take i),r.drop i,0):=by
   unfold tn Q3f;simp only [<- HK.out];rw [if_neg h1,if_neg (by have:=HRN.out; omega),if_neg h3];by_cases hq:maxN<valB (r.take i)
   ·rw [if_pos hq,if_pos hq]
   rw [if_neg hq,if_neg hq]
  have hvl:=Q6V i (r.take i) (by rw [zX]; have:=HRN.out; omega);have hx6:valB (r.take i)<72057594037927936:=zJ hvl (Nat.pow_le_pow_right (show 256 > 0 by omega) (show i<=7 by omega));clear hvl;generalize valB (r.take i)=x at htk hx6;by_cases hx9:maxN<x
  ·rw [if_pos hx9] at htk;have HT:=sH htk;clear htk;unfold maxN at hx9;go_wp2_with fail
   go_ret3
   exact⟨_,by rw [HT.out]; rfl,by rw [HT.out]; exact OwnB.nil _ _,HB1.out⟩
  rw [if_neg hx9] at htk;have HT:=sH htk;clear htk;unfold maxN at hx9;go_wp2_with fail
  refine(Q4G A3 (n1 - i) (c1 - i) (r.drop i) wc B HR3.out (by omega) (by omega)).mono ?_;rintro _ w5 ⟨v,rfl,hov,hb5⟩;have HO5:=sH hov;have HB5:=sH (HB1.out.trans (hb5.mono (by omega)));clear hov hb5;go_wp2_with fail
  go_ret3
  refine⟨v,by rw [HT.out]; rfl,?_,HB5.out⟩;rw [HT.out];exact HO5.out.more (by omega)
theorem Q1F (B:Nat) (xs:List UInt8):Q1B fun w v=>OwnB w B v xs:=fun _ _ _ h hb=>h.below hb
theorem Q79 (A:Option zA) (n c k:Nat) (xs:List UInt8) (w:zB) (B:Nat) (h:Q04 w B 1 A n (xs.map vb)) (hB:B<=w.heap.size) (hc:n<=c) (hcm:n<=140737488355328) (hk:k<=140737488355328) :
 Calls zM 84 #[.slice A n c,.int .i64 (k:Int)] w fun e w'=>∃ v v',e=.returned (.tuple #[v,v',.int .i64 (if n<k then 3 else 0)])/\OwnB w' w.heap.size v (if n<k then [] else xs.take k)/\OwnB w' w.heap.size v' (if n<k then [] else xs.drop k)/\zE w.heap.size w w':=by
 have hxn:xs.length=n:=by have:=h.1; simpa using this
 have HXN:=sH hxn;have H:=sH h;clear hxn h;by_cases hkn:n<k
 ·rw [if_pos hkn,if_pos hkn,if_pos hkn];go_enter Tryz.func84,Tryz.ntmps84
  go_wp2_with fail
  go_ret3
  exact⟨_,_,rfl,OwnB.nil _ _,OwnB.nil _ _,zP _ _⟩
 rw [if_neg hkn,if_neg hkn,if_neg hkn];have hsl2:=fun W=>Q3X (P:=zM) (t:=28) (e:=5) rfl rfl A n c k (k:Int) rfl (by omega) W
 have hsl3:=fun W=>Q0L (P:=zM) (t:=28) (e:=5) rfl rfl A n c k (k:Int) rfl (by omega) W
 have hr2:=H.out.to (cap:=c) (show k<=n by omega) hc;have hr3:=H.out.cut (cap:=c) (show k<=n by omega) hc;obtain⟨A2,hA2⟩:∃ A2,A2=(if c=0 then A else A.map (·.add 0)):=⟨_,rfl⟩;obtain⟨A3,hA3⟩:∃ A3,A3=(if c=k then A else A.map (·.add k)):=⟨_,rfl⟩;rw [Nat.mul_one,<- hA3] at hr3;rw [<- hA2] at hsl2 hr2;rw [<- hA3] at hsl3;rw [<- List.map_take] at hr2;rw [<- List.map_drop] at hr3;have HC2:=sH (fun W (hb:zE w.heap.size w W)=>Q4G A2 k c (xs.take k) W B (hr2.below (hb.mono hB)) (by have:=hb.size; omega) (by omega));have HC3:=sH (fun W (hb:zE w.heap.size w W)=>Q4G A3 (n - k) (c - k) (xs.drop k) W B (hr3.below (hb.mono hB)) (by have:=hb.size; omega) (by omega));clear hA2 hA3 hr2 hr3;go_enter Tryz.func84,Tryz.ntmps84
 go_upto_region 5 with fail
 refine Q0r 8 23 (fun j W v=>match j with
  | 0 | 4=>v=.slice A n c
  | 1 | 5=>v=.int .i64 (k:Int)
  | 2=>v=.slice A2 k c
  | 3=>OwnB W w.heap.size v (xs.take k)
  | 6=>v=.slice A3 (n - k) (c - k)
  | _=>OwnB W w.heap.size v (xs.drop k)) [15,16,17,18,19,20,21,22] (by kernel_rfl) (by kernel_rfl) (by kernel_rfl) (by simp) (by kernel_rfl) (fun j=>?last) ?heads ?_
 case last =>
  match j with
  | 0 | 1 | 2 | 4 | 5 | 6=>exact Q1B.pure _
  | 3=>exact Q1F _ _
  | j+7=>exact Q1F _ _
 case heads =>
  simp only [tT];refine⟨?_,?_,?_,?_,?_,?_,?_,?_,trivial⟩;all_goals intro a W hb hkp hd
  ·have e0:(_:zC)=.slice A n c:=sK hkp 0;exact sV
  ·have e0:(_:zC)=.int .i64 (k:Int):=sK hkp 1;exact sV
  ·have e0:=sJ (hd 0) 15;have e1:=sJ (hd 1) 16;exact sV
  ·have e0:=sJ (hd 2) 17;refine Q0z rfl 48 #[.slice A2 k c] (by go_simp) ((HC2.out W hb).mono ?_);rintro e w' ⟨v,rfl,ho,hb'⟩;exact⟨v,rfl,hb',ho.more hb.size⟩
  ·have e0:(_:zC)=.slice A n c:=sK hkp 0;exact sV
  ·have e0:(_:zC)=.int .i64 (k:Int):=sK hkp 1;exact sV
  ·have e0:=sJ (hd 4) 19;have e1:=sJ (hd 5) 20;exact sV
  have e0:=sJ (hd 6) 21;refine Q0z rfl 48 #[.slice A3 (n - k) (c - k)] (by go_simp) ((HC3.out W hb).mono ?_);rintro e w' ⟨v,rfl,ho,hb'⟩;exact⟨v,rfl,hb',ho.more hb.size⟩
 intro f W hb hd;have h3:OwnB W w.heap.size (f 18) (xs.take k):=hd 3 (by omega) _ 18 rfl rfl;have h7:OwnB W w.heap.size (f 22) (xs.drop k):=hd 7 (by omega) _ 22 rfl rfl;have H3:=sH h3;have H7:=sH h7;have HB:=sH hb;clear h3 h7 hd hb;simp only [Q0R,tU];try simp only [Act.put,sA]
 go_wp2_with fail
 go_ret3
 exact⟨_,_,rfl,H3.out,H7.out,HB.out⟩
def ts (b:List UInt8) (most:Nat):List UInt8×List UInt8×Nat:=match takeS b most with
 | .error e=>([],[],e)
 | .ok (s,r)=>(s,r,0)
theorem ts_eq (b:List UInt8) (most:Nat):ts b most=if (tn b).2.2≠0 then([],[],(tn b).2.2) else if min most 65536<(tn b).1 then([],[],5) else if (tn b).2.1.length<(tn b).1 then([],[],3) else((tn b).2.1.take (tn b).1,(tn b).2.1.drop (tn b).1,0):=by
 unfold ts takeS tn;cases hb:Q3f b with
 | error e =>
  have he:e≠0:=by
   unfold Q3f at hb;match b,hb with
   | [],hb=>injection hb with hb; omega
   | m :: r,hb =>
    simp only at hb;split at hb
    ·injection hb with hb; omega
    split at hb
    ·injection hb with hb; omega
    split at hb
    ·injection hb with hb; omega
    split at hb
    ·injection hb with hb; omega
    cases hb
  simp [he]
 | ok p =>
  obtain⟨n,r⟩:=p;simp only [ne_eq,not_true_eq_false,if_false];unfold takeF;by_cases h1:min most 65536<n
  ·rw [if_pos h1,if_pos h1]
  rw [if_neg h1,if_neg h1];by_cases h2:r.length<n
  ·rw [if_pos h2,if_pos h2]
  rw [if_neg h2,if_neg h2]
theorem Q80 (b:List UInt8):(tn b).2.1.length<=b.length:=by
 unfold tn;cases hb:Q3f b with
 | error e=>simp
 | ok p =>have:=(Q3L hb).1;have h:=congrArg List.length this;rw [zO] at h;show p.2.length<=_;omega
theorem Q7V (b:List UInt8):(tn b).1<=maxN:=by
 unfold tn;cases hb:Q3f b with
 | error e=>simp
 | ok p=>exact(Q3L (r:=p.2) (n:=p.1) hb).2
theorem tn_err (b:List UInt8):(tn b).2.2<10:=by
 unfold tn Q3f;match b with
 | []=>simp
 | m :: r =>
  simp only;by_cases h1:7<m.toNat
  ·rw [if_pos h1]; simp
  rw [if_neg h1];by_cases h2:r.length<m.toNat
  ·rw [if_pos h2]; simp
  rw [if_neg h2];by_cases h3:0<m.toNat/\r.head?=some 0
  ·rw [if_pos h3]; simp
  rw [if_neg h3];by_cases h4:maxN<valB (r.take m.toNat)
  ·rw [if_pos h4]; simp
  rw [if_neg h4]; simp
theorem Q34 (A:Option zA) (n c most:Nat) (xs:List UInt8) (w:zB) (B:Nat) (h:Q04 w B 1 A n (xs.map vb)) (hB:B<=w.heap.size) (hc:n<=c) (hcm:n<=140737488355328) (hm:most<=65536) :
 Calls zM 56 #[.slice A n c,.int .i64 (most:Int)] w fun e w'=>∃ v v',e=.returned (.tuple #[v,v',.int .i64 ((ts xs most).2.2:Int)])/\OwnB w' w.heap.size v (ts xs most).1/\OwnB w' w.heap.size v' (ts xs most).2.1/\zE w.heap.size w w':=by
 have hxn:xs.length=n:=by have:=h.1; simpa using this
 have HTN:=sH (Q36 A n c xs w B h hB hc hcm);have hts:=ts_eq xs most;have htl:=Q80 xs;have htm:=Q7V xs;have hte:=tn_err xs;obtain⟨p,hp⟩:∃ p,p=tn xs:=⟨_,rfl⟩;rw [<- hp] at HTN hts htl htm hte;obtain⟨k,r,e⟩:=p;simp only at HTN hts htl htm hte;have HTS:=sH hts;have HTL:=sH htl;unfold maxN at htm;rw [hxn] at htl;have HXN:=sH hxn;clear h hts hp hxn;go_enter Tryz.func56,Tryz.ntmps56
 go_wp2_with fail
 refine HTN.out.mono ?_;rintro _ w2 ⟨v,rfl,hov,hb2⟩;have HO2:=sH hov;have HB2:=sH hb2;have hs2:=hb2.size;clear hov hb2;by_cases he:e=0
 ·subst he;obtain⟨Av,cv,rfl,hvc,hvm,hvr,hvB⟩:=Q03 HO2.out;by_cases h5:min most 65536<k
  ·have hq:ts xs most=([],[],5):=by rw [HTS.out,if_neg (by omega),if_pos h5]
   have HQ:=sH hq;clear hq hvr;have hmk:most<k:=by omega
   have hmin:min (most:Int) 65536=(most:Int):=by omega
   go_wp2_with fail
   go_ret3
   exact⟨_,_,by rw [HQ.out]; rfl,by rw [HQ.out]; exact OwnB.nil _ _,by rw [HQ.out]; exact OwnB.nil _ _,HB2.out⟩
  have hmk:¬ most<k:=by omega
  have hmin:min (most:Int) 65536=(most:Int):=by omega
  have hq:ts xs most=if r.length<k then([],[],3) else(r.take k,r.drop k,0):=by rw [HTS.out,if_neg (by omega),if_neg h5]
  have HQ:=sH hq;have HVR:=sH hvr;clear hq hvr;obtain⟨rl,hrl⟩:∃ rl,rl=r.length:=⟨_,rfl⟩;rw [<- hrl] at HVR hvc htl HQ ⊢;have HRL:=sH hrl;clear hrl;go_wp2_with fail
  refine(Q79 Av rl cv k r w2 _ HVR.out (zN _) hvc (by omega) (by omega)).mono ?_;rintro _ w3 ⟨v,v',rfl,ho,ho',hb3⟩;have HO3:=sH (ho.more (B':=w.heap.size) hs2);have HO4:=sH (ho'.more (B':=w.heap.size) hs2);have HB3:=sH (HB2.out.trans (hb3.mono hs2));clear ho ho' hb3;by_cases h6:rl<k
  ·rw [if_pos h6] at HQ;rw [if_pos h6] at HO3 HO4 ⊢;go_wp2_with fail
   go_ret3
   exact⟨_,_,by rw [HQ.out]; rfl,by rw [HQ.out]; exact HO3.out,by rw [HQ.out]; exact HO4.out,HB3.out⟩
  rw [if_neg h6] at HQ;rw [if_neg h6] at HO3 HO4 ⊢;go_wp2_with fail
  go_ret3
  exact⟨_,_,by rw [HQ.out]; rfl,by rw [HQ.out]; exact HO3.out,by rw [HQ.out]; exact HO4.out,HB3.out⟩
 have hq:ts xs most=([],[],e):=by rw [HTS.out,if_pos he]
 have HQ:=sH hq;clear hq;have he':¬ (e:Int)=0:=by omega
 go_wp2_with fail
 go_ret3
 exact⟨_,_,by rw [HQ.out]; rfl,by rw [HQ.out]; exact OwnB.nil _ _,by rw [HQ.out]; exact OwnB.nil _ _,HB2.out⟩
end
section
open Go.RowKit
attribute [local irreducible] wpList
structure Wish where
 client:Int
 stamp:Int
 group:Int
 epoch:Int
 kind:Int
 block:Int
 data:List UInt8
 old:Int
 new:Int
 next:List Int
def Q02 (x:Wish) (A:Option zA) (n c:Nat) (A':Option zA) (n' c':Nat):Array zC :=#[.int .i64 x.client,.int .i64 x.stamp,.int .i64 x.group,.int .i64 x.epoch,.int .i64 x.kind,.int .i64 x.block,.slice A n c,.int .i64 x.old,.int .i64 x.new,.slice A' n' c']
def I64 (z:Int):Prop:=-9223372036854775808<=z/\z<=9223372036854775807
structure Q14 (w:zB) (B:Nat) (x:Wish) (A:Option zA) (n c:Nat) (A':Option zA) (n' c':Nat):Prop where
 data:Q04 w B 1 A n (x.data.map vb)
 dc:n<=c
 dm:n<=140737488355328
 next:Q04 w B 1 A' n' (x.next.map vn)
 nc:n'<=c'
 nm:n'<=17592186044416
 rng:I64 x.client/\I64 x.stamp/\I64 x.group/\I64 x.epoch/\I64 x.kind/\I64 x.block/\I64 x.old/\I64 x.new/\∀ z,z∈x.next->I64 z
theorem Q14.below {w w':zB} {B:Nat} {x:Wish} {A:Option zA} {n c:Nat} {A':Option zA} {n' c':Nat} (h:Q14 w B x A n c A' n' c') (hb:zE B w w'):Q14 w' B x A n c A' n' c' :=⟨h.data.below hb,h.dc,h.dm,h.next.below hb,h.nc,h.nm,h.rng⟩
theorem Q14.dlen {w:zB} {B:Nat} {x:Wish} {A:Option zA} {n c:Nat} {A':Option zA} {n' c':Nat} (h:Q14 w B x A n c A' n' c'):x.data.length=n:=by have:=h.data.1; simpa using this
theorem Q14.nlen {w:zB} {B:Nat} {x:Wish} {A:Option zA} {n c:Nat} {A':Option zA} {n' c':Nat} (h:Q14 w B x A n c A' n' c'):x.next.length=n':=by have:=h.next.1; simpa using this
def Q3d:Int->List Int->Bool
 | _,[]=>true
 | last,n :: t=>decide (last<n/\n<=28) && Q3d n t
def Q2g (l:List Int):Bool:=decide (l.length % 3=1/\l.length<=7) && Q3d 0 l
def MayP (x:Wish):Prop:=0<=x.epoch/\x.epoch<=1048576/\(
 (x.kind=5/\x.client=0/\x.stamp=0/\x.block=0/\x.data.length=0/\x.old=0/\x.new=0/\1<=x.group/\x.group<=2/\Q2g x.next=true) \/
 (x.kind≠5/\31<=x.client/\x.client<=34/\1<=x.stamp/\x.stamp<=9007199254740991/\x.next.length=0/\(
  ((x.kind=1/\x.data.length=0\/x.kind=2/\x.data.length=16)/\1<=x.group/\x.group<=2/\0<=x.block/\x.block<=7/\x.old=0/\x.new=0) \/
  ((x.kind=3/\x.old=0/\x.new=0\/x.kind=4/\1<=x.old/\x.old<=28/\1<=x.new/\x.new<=28/\x.old≠x.new)/\x.group=0/\x.epoch=0/\1<=x.block/\x.block<=2/\x.data.length=0))))
instance (x:Wish):Decidable (MayP x):=by unfold MayP; infer_instance
def mayB (x:Wish):Bool:=decide (MayP x)
theorem Q8i (n l m:Int) (w:zB):Calls zM 98 #[.int .i64 n,.int .i64 l,.int .i64 m] w fun e w'=>e=.returned (.bool (decide (l<=n/\n<=m)))/\w=w':=by
 by_cases h:l<=n
 ·go_enter Tryz.func98,Tryz.ntmps98
  go_wp2
  go_ret
  exact⟨Q11 (by simp [h]),rfl⟩
 have h':¬ (l<=n/\n<=m):=fun hh=>h hh.1
 rw [decide_eq_false h'];clear h';go_enter Tryz.func98,Tryz.ntmps98
 go_wp2
 go_ret
 exact⟨rfl,rfl⟩
theorem crew_any (A:Option zA) (n c:Nat) (zs:List Int) (w:zB) (B:Nat) (h:Q04 w B 1 A n (zs.map vn)) (hn:n<=17592186044416) :
 Calls zM 99 #[.slice A n c] w fun e w'=>e=.returned (.bool (Q2g zs))/\w=w':=by
 have hzn:zs.length=n:=by have:=h.1; simpa using this
 have H:=sH h;have HZN:=sH hzn;clear h hzn;by_cases h1:n % 3=1
 ·by_cases h2:n<=7
  ·have HR:=sH (show Q2g zs=Q3d 0 zs by unfold Q2g; rw [decide_eq_true (by rw [HZN.out]; exact⟨h1,h2⟩),Bool.true_and]);go_enter Tryz.func99,Tryz.ntmps99
   go_wp2_with fail
   go_loopw [3,17] (fun lv iv wr=>∃ (i:Nat) (last:Int),i<=n/\lv=.int .i64 last/\iv=.int .i64 i/\w=wr/\Q2g zs=Q3d last (zs.drop i)) (fun _ iv _=>n - (intOf iv).toNat)
   case atStart=>exact⟨0,0,by omega,rfl,rfl,rfl,HR.out⟩
   obtain⟨i,last,hi,rfl,rfl,rfl,hr⟩:=hrel;by_cases hin:i<n
   ·obtain⟨ad,u,hA,hadb,hxi,hcell⟩:=H.out.at_ hin;subst hA;have hil:i<zs.length:=by have:=HZN.out; omega
    have hu:u=.int .i64 zs[i]:=by
     rw [zK,zD hil] at hxi;injection hxi with hxi
     exact hxi.symm
    subst hu;rw [List.drop_eq_getElem_cons hil] at hr;generalize zs[i]=z at hr hcell;simp only [Q3d] at hr;clear hxi;by_cases hz:last<z/\z<=28
    ·rw [decide_eq_true hz,Bool.true_and] at hr;have HRR:=sH hr;clear hr;obtain⟨hz1,hz2⟩:=hz;have hz3:¬ z<=last:=by omega
     go_wp2_with fail
     go_roundw
     case rel=>exact⟨i+1,z,by omega,rfl,by go_num,trivial,HRR.out⟩
     case measure=>simp [intOf]; omega
    rw [decide_eq_false hz,Bool.false_and] at hr;have HRR:=sH hr;clear hr;by_cases hz1:z<=last
    ·go_wp2_with fail
     go_ret
     exact⟨by rw [HRR.out]; rfl,rfl⟩
    have hz2:28<z:=by omega
    go_wp2_with fail
    go_ret
    exact⟨by rw [HRR.out]; rfl,rfl⟩
   obtain rfl:i=n:=by omega
   rw [List.drop_of_length_le (by have:=HZN.out; omega)] at hr;have HRR:=sH hr;clear hr;go_wp2_with fail
   go_ret
   exact⟨by rw [HRR.out]; rfl,rfl⟩
  have HR:=sH (show Q2g zs=false by unfold Q2g; rw [decide_eq_false (by rw [HZN.out]; exact fun h=>h2 h.2),Bool.false_and]);go_enter Tryz.func99,Tryz.ntmps99
  go_wp2_with fail
  go_ret
  exact⟨by rw [HR.out]; rfl,rfl⟩
 have HR:=sH (show Q2g zs=false by unfold Q2g; rw [decide_eq_false (by rw [HZN.out]; exact fun h=>h1 h.1),Bool.false_and]);go_enter Tryz.func99,Tryz.ntmps99
 go_wp2_with fail
 go_ret
 exact⟨by rw [HR.out]; rfl,rfl⟩
theorem may_any (x:Wish) (A:Option zA) (n c:Nat) (A':Option zA) (n' c':Nat) (w:zB) (B:Nat) (h:Q14 w B x A n c A' n' c') (hB:B<=w.heap.size) :
 Calls zM 74 #[.agg (Q02 x A n c A' n' c')] w fun e w'=>e=.returned (.bool (mayB x))/\zE w.heap.size w w':=by
 have hdl:=h.dlen;have hnl:=h.nlen;have HCR:=sH (fun W (hb:zE w.heap.size w W)=>crew_any A' n' c' x.next W B (h.next.below (hb.mono hB)) h.nm);obtain⟨client,stamp,group,epoch,kind,block,data,old,new,next⟩:=x;simp only at hdl hnl HCR;obtain⟨cr,hcr⟩:∃ cr,cr=Q2g next:=⟨_,rfl⟩;have HMB:=sH (show mayB ⟨client,stamp,group,epoch,kind,block,data,old,new,next⟩=decide (0<=epoch/\epoch<=1048576/\(
 (kind=5/\client=0/\stamp=0/\block=0/\n=0/\old=0/\new=0/\1<=group/\group<=2/\cr=true) \/
 (kind≠5/\31<=client/\client<=34/\1<=stamp/\stamp<=9007199254740991/\n'=0/\(
  ((kind=1/\n=0\/kind=2/\n=16)/\1<=group/\group<=2/\0<=block/\block<=7/\old=0/\new=0) \/
  ((kind=3/\old=0/\new=0\/kind=4/\1<=old/\old<=28/\1<=new/\new<=28/\old≠new)/\group=0/\epoch=0/\1<=block/\block<=2/\n=0))))) by
  unfold mayB MayP; simp only [hdl,hnl,<- hcr])
 rw [<- hcr] at HCR;clear hdl hnl hcr h;unfold Q02;simp only;go_enter Tryz.func74,Tryz.ntmps74
 go_wp2_with fail
 have hk:=Blk.new w 31 #[.int .i64 client,.int .i64 stamp,.int .i64 group,.int .i64 epoch,.int .i64 kind,.int .i64 block,.slice A n c,.int .i64 old,.int .i64 new,.slice A' n' c'];have hb:zE w.heap.size w (w.alloc (.cells #[.int .i64 client,.int .i64 stamp,.int .i64 group,.int .i64 epoch,.int .i64 kind,.int .i64 block,.slice A n c,.int .i64 old,.int .i64 new,.slice A' n' c'] 31)):=(zP _ _).alloc (zN _) _;generalize w.alloc _=w1 at hk hb ⊢;have c0:=hk.cell 0;have c1:=hk.cell 1;have c2:=hk.cell 2;have c3:=hk.cell 3;have c4:=hk.cell 4;have c5:=hk.cell 5;have c6:=hk.cell 6;have c7:=hk.cell 7;have c8:=hk.cell 8;have c9:=hk.cell 9;simp only [List.getElem?_toArray,List.getElem?_cons_zero,List.getElem?_cons_succ] at c0 c1 c2 c3 c4 c5 c6 c7 c8 c9;have HB:=sH hb;have hcr:=HCR.out w1 hb;have HCW:=sH hcr;clear hk hb hcr;obtain⟨g,hg⟩:∃ g,g=w.heap.size:=⟨_,rfl⟩;rw [<- hg] at c0 c1 c2 c3 c4 c5 c6 c7 c8 c9 ⊢;clear hg;go_wp2_with (first
  | (go_at_call 98; refine(Q8i _ _ _ _).mono ?_; rintro _ _ ⟨rfl,rfl⟩)
  | (go_at_call 99; refine HCW.out.mono ?_; rintro _ _ ⟨rfl,rfl⟩))
 all_goals go_ret
 all_goals refine⟨?_,HB.out⟩
 all_goals rw [HMB.out]
 all_goals refine Q11 ?_
 all_goals rw [Bool.eq_iff_iff]
 all_goals clear HCR HCW HMB HB c0 c1 c2 c3 c4 c5 c6 c7 c8 c9
 all_goals cases cr
 all_goals simp at *
 all_goals (try omega)
end
section
open Go.RowKit
def Q48 (l:List Int):List UInt8:=l.flatMap fun z=>numB z.toNat
def NumI (z:Int):Prop:=0<=z/\z<=9007199254740991
theorem Q5b:∀ (l:List Int) (a:Int),0<=a->Q3d a l=true->∀ z,z∈l->1<=z/\z<=28
 | [],_,_,_,z,hz=>by cases hz
 | n :: t,a,ha,h,z,hz=>by
  simp only [Q3d,zV,decide_eq_true_eq] at h;rcases List.mem_cons.1 hz with rfl | hz
  ·exact⟨by omega,h.1.2⟩
  exact Q5b t n (by omega) h.2 z hz
theorem Q4I {l:List Int} (h:∀ z,z∈l->NumI z):(Q48 l).length<=8*l.length:=by
 unfold Q48
 induction l with
 | nil=>simp
 | cons a t ih =>have h1:=h a (by simp);unfold NumI at h1;have h2:=(Q0W (n:=a.toNat) (by unfold maxN; omega)).2;have h3:=ih (fun z hz=>h z (by simp [hz]));rw [List.flatMap_cons,zO,zS];omega
theorem Q0m (w:zB) (vs:Array zC) (t:TypeId):Q04 (w.alloc (.cells vs t)) (w.heap.size+1) 1 (some ⟨w.heap.size,0,none⟩) vs.size vs.toList:=by
 refine⟨by simp,fun _=>⟨_,rfl,Nat.lt_succ_self _,fun j u hu=>?_⟩⟩;have hk:Blk (w.alloc (.cells vs t)) w.heap.size t vs:=Blk.newAt rfl;have:=hk.cell j;rw [Array.getElem?_toList] at hu;rw [hu] at this;unfold Addr.add;split
 ·rename_i h0; subst h0; exact this
 simpa using this
theorem Q6k (w:zB) (t:TypeId) (l:List (Option zA×Nat×Nat×List UInt8)) (h:∀ p,p∈l->Q04 w w.heap.size 1 p.1 p.2.1 (p.2.2.2.map vb)) :
 Q3v (w.alloc (.cells (l.map fun p=>Value.slice p.1 p.2.1 p.2.2.1).toArray t)) (w.heap.size+1) (some ⟨w.heap.size,0,none⟩) l.length (l.map (·.2.2.2)):=by
 have hb:zE w.heap.size w (w.alloc (.cells (l.map fun p=>Value.slice p.1 p.2.1 p.2.2.1).toArray t)):=(zP _ _).alloc (zN _) _;have hr:=Q0m w (l.map fun p=>Value.slice p.1 p.2.1 p.2.2.1).toArray t;refine⟨by simp,fun h0=>⟨_,rfl,Nat.lt_succ_self _,fun k x hx=>?_⟩⟩;obtain⟨ad,hA,_,hc⟩:=hr.2 (by simpa using h0);injection hA with hA
 subst hA;rw [zK] at hx;cases hp:l[k]? with
 | none=>rw [hp] at hx; cases hx
 | some p =>
  rw [hp] at hx;injection hx with hx
  refine⟨p.1,p.2.1,p.2.2.1,hc k _ (by simp [hp]),?_⟩;rw [<- hx];exact((h p (List.mem_of_getElem? hp)).below hb).more (by omega)
theorem Q4Q (x:Wish) (A:Option zA) (n c:Nat) (A':Option zA) (n' c':Nat) (w:zB) (B:Nat) (h:Q14 w B x A n c A' n' c') (hB:B<=w.heap.size) :
 Calls zM 44 #[.agg (Q02 x A n c A' n' c')] w fun e w'=>e=.returned (.int .i64 (if mayB x=true then 0 else 2))/\zE w.heap.size w w':=by
 have HM:=sH (fun W (hb:zE w.heap.size w W)=>may_any x A n c A' n' c' W B (h.below (hb.mono hB)) (by have:=hb.size; omega));clear h;obtain⟨mb,hmb⟩:∃ b,b=mayB x:=⟨_,rfl⟩;rw [<- hmb] at HM ⊢;clear hmb;unfold Q02 at HM ⊢;go_enter Tryz.func44,Tryz.ntmps44
 go_wp2_with fail
 have hb:zE w.heap.size w (w.alloc (.cells #[.int .i64 x.client,.int .i64 x.stamp,.int .i64 x.group,.int .i64 x.epoch,.int .i64 x.kind,.int .i64 x.block,.slice A n c,.int .i64 x.old,.int .i64 x.new,.slice A' n' c'] 31)):=(zP _ _).alloc (zN _) _;refine(HM.out _ hb).mono ?_;rintro _ w2 ⟨rfl,hb2⟩;have HB2:=sH (hb.trans (hb2.mono (by simp)));clear hb hb2;cases mb with
 | true =>
  go_wp2_with fail
  go_ret
  exact⟨rfl,HB2.out⟩
 | false =>
  go_wp2_with fail
  go_ret
  exact⟨rfl,HB2.out⟩
end
section
structure VM where
 group:Nat
 epoch:Nat
 blocks:LL
 last:List (Nat×List UInt8)
 shut:List Int
structure Ans where
 err:Nat
 data:List UInt8
 epoch:Nat
 nodes:List Int
def okA:Ans:=⟨0,[],0,[]⟩
def Q24 (d:List UInt8):Ans:=⟨0,d,0,[]⟩
def errA (e n:Nat):Ans:=⟨e,[],n,[]⟩
structure VOk (m:VM):Prop where
 group:1<=m.group/\m.group<=2
 epoch:m.epoch<=1048576
 blocks:m.blocks.length=8
 block:∀ b,b∈m.blocks->b.length=16
 last:m.last.length=4
 stamp:∀ x,x∈m.last->x.1<=maxN/\(x.2=[]\/x.2.length=16/\0<x.1)
 shut:m.shut=[]\/(Q2g m.shut=true/\m.epoch<1048576)
def Q0l (m:VM) (i:Nat):List UInt8:=m.blocks.getD i []
def Q0C (m:VM) (i:Nat):Nat×List UInt8:=m.last.getD i (0,[])
def Q87 (x:Nat×List UInt8):List UInt8:=numB x.1++strB x.2
def Q9l (m:VM):List UInt8:=numB m.group++numB m.epoch++numB m.shut.length++Q48 m.shut
def Q0G (m:VM) (i:Nat):List UInt8:=if i<8 then Q0l m i else if i<12 then Q87 (Q0C m (i - 8)) else Q9l m
def Q01 (m:VM):LL:=(zL 13).map (Q0G m)
def newV (g:Nat):VM:=⟨g,0,List.replicate 8 (List.replicate 16 0),List.replicate 4 (0,[]),[]⟩
def oldV (m:VM) (x:Wish):Option Ans :=
 let y:=Q0C m (x.client - 31).toNat
 if x.stamp=(y.1:Int) then some (Q24 y.2) else if x.stamp<(y.1:Int) then some (errA 172 0) else none
def Q25 (m:VM) (e:Int):Option Ans :=if e≠(m.epoch:Int) then some (errA 171 m.epoch) else if 0<m.shut.length then some (errA 171 (m.epoch+1)) else none
def inV (m:VM) (x:Wish):Bool:=mayB x && decide (x.group=(m.group:Int))
def ranV (m:VM) (x:Wish):VM×List UInt8 :=
 let c:=(x.client - 31).toNat
 let b:=x.block.toNat
 let d:=if x.kind=1 then Q0l m b else []
 (⟨m.group,m.epoch,if x.kind=1 then m.blocks else m.blocks.set b x.data,m.last.set c (x.stamp.toNat,d),m.shut⟩,d)
def Q3U (m:VM) (x:Wish):VM×Ans :=
 match Q25 m x.epoch with
 | some a=>(m,a)
 | none=>if m.epoch=1048576 then(m,errA 5 0) else(⟨m.group,m.epoch,m.blocks,m.last,x.next⟩,okA)
def doV (m:VM) (x:Wish):VM×Ans×Nat :=
 if inV m x=true then
  if x.kind=5 then((Q3U m x).1,(Q3U m x).2,0)
  else match oldV m x with
   | some a=>(m,a,0)
   | none=>match Q25 m x.epoch with
    | some a=>(m,a,0)
    | none=>((ranV m x).1,Q24 (ranV m x).2,0)
 else(m,okA,2)
def Q3q (m:VM):VM×Nat:=if m.shut.length=0 then(m,171) else(⟨m.group,m.epoch+1,m.blocks,m.last,[]⟩,0)
theorem Q0k (m:VM):(Q01 m).length=13:=by simp [Q01]
theorem Q1X (m:VM) (i:Nat) (h:i<13):(Q01 m)[i]?=some (Q0G m i):=by unfold Q01;rw [zK,List.getElem?_range h]; rfl
theorem newV_ok (g:Nat) (h1:1<=g) (h2:g<=2):VOk (newV g):=by
 refine⟨⟨h1,h2⟩,by simp [newV],by simp [newV],?_,by simp [newV],?_,.inl rfl⟩
 ·intro b hb;obtain⟨_,rfl⟩:=List.mem_replicate.1 hb
  simp
 intro x hx;obtain⟨_,rfl⟩:=List.mem_replicate.1 hx;exact⟨by unfold maxN; omega,.inl rfl⟩
theorem VOk.blk {m:VM} (h:VOk m) {i:Nat} (hi:i<8):(Q0l m i).length=16:=by unfold Q0l;rw [List.getD_eq_getElem?_getD,zD (by rw [h.blocks]; exact hi)];exact h.block _ (zQ _)
theorem VOk.lst {m:VM} (h:VOk m) {i:Nat} (hi:i<4):(Q0C m i).1<=maxN/\((Q0C m i).2=[]\/(Q0C m i).2.length=16/\0<(Q0C m i).1):=by unfold Q0C;rw [List.getD_eq_getElem?_getD,zD (by rw [h.last]; exact hi)];exact h.stamp _ (zQ _)
theorem VOk.sealNum {m:VM} (h:VOk m):(∀ z,z∈m.shut->NumI z)/\m.shut.length<=7:=by
 rcases h.shut with e | ⟨e,_⟩
 ·rw [e]; exact⟨fun z hz=>absurd hz (by simp),by simp⟩
 unfold Q2g at e;simp only [zV,decide_eq_true_eq] at e;refine⟨fun z hz=>?_,e.1.2⟩;have:=Q5b m.shut 0 (by omega) e.2 z hz;unfold NumI;omega
theorem Q2V {x:Wish} (h:mayB x=true) (hk:x.kind≠5):31<=x.client/\x.client<=34/\1<=x.stamp/\x.stamp<=9007199254740991:=by
 have hm:MayP x:=of_decide_eq_true h;unfold MayP at hm;obtain⟨_,_,h1 | h1⟩:=hm
 ·exact absurd h1.1 hk
 exact⟨h1.2.1,h1.2.2.1,h1.2.2.2.1,h1.2.2.2.2.1⟩
theorem Q4s {x:Wish} (h:mayB x=true) (hk:x.kind≠5) (hg:1<=x.group):(x.kind=1/\x.data.length=0\/x.kind=2/\x.data.length=16)/\0<=x.block/\x.block<=7:=by
 have hm:MayP x:=of_decide_eq_true h;unfold MayP at hm;obtain⟨_,_,h1 | h1⟩:=hm
 ·exact absurd h1.1 hk
 rcases h1.2.2.2.2.2.2 with h2 | h2
 ·exact⟨h2.1,h2.2.2.2.1,h2.2.2.2.2.1⟩
 omega
theorem Q7J {x:Wish} (h:mayB x=true) (hk:x.kind=5):Q2g x.next=true:=by
 have hm:MayP x:=of_decide_eq_true h;unfold MayP at hm;obtain⟨_,_,h1 | h1⟩:=hm
 ·exact h1.2.2.2.2.2.2.2.2.2
 exact absurd hk h1.1
theorem Q6b {l:List Int} (h:Q2g l=true):0<l.length/\l.length<=7:=by unfold Q2g at h;simp only [zV,decide_eq_true_eq] at h;omega
theorem VOk.ran {m:VM} (h:VOk m) {x:Wish} (hm:mayB x=true) (hg:x.group=(m.group:Int)) (hk:x.kind≠5):VOk (ranV m x).1:=by
 have hc:=Q2V hm hk;have hb:=Q4s hm hk (by have:=h.group; omega);have hd:(if x.kind=1 then Q0l m x.block.toNat else [])=[]\/(if x.kind=1 then Q0l m x.block.toNat else []).length=16:=by
  split
  ·right; exact h.blk (by omega)
  left; rfl
 refine⟨h.group,h.epoch,?_,?_,?_,?_,h.shut⟩
 ·unfold ranV; simp only; split <;> simp [h.blocks]
 ·intro b hb';unfold ranV at hb';simp only at hb';split at hb'
  ·exact h.block b hb'
  rename_i hk1;rcases List.mem_or_eq_of_mem_set hb' with h1 | rfl
  ·exact h.block b h1
  rcases hb.1 with h1 | h1
  ·exact absurd h1.1 hk1
  exact h1.2
 ·simp [ranV,h.last]
 intro y hy;unfold ranV at hy;simp only at hy;rcases List.mem_or_eq_of_mem_set hy with h1 | rfl
 ·exact h.stamp y h1
 refine⟨by show x.stamp.toNat<=maxN; unfold maxN; omega,?_⟩;rcases hd with h1 | h1
 ·exact .inl h1
 exact .inr ⟨h1,by show 0<x.stamp.toNat; omega⟩
theorem VOk.sealed {m:VM} (h:VOk m) {x:Wish} (hm:mayB x=true) (hk:x.kind=5):VOk (Q3U m x).1:=by
 unfold Q3U;cases he:Q25 m x.epoch with
 | some a=>exact h
 | none =>
  simp only;split
  ·exact h
  rename_i hne;exact⟨h.group,h.epoch,h.blocks,h.block,h.last,h.stamp,.inr ⟨Q7J hm hk,by have:=h.epoch; show m.epoch<1048576; omega⟩⟩
theorem VOk.turned {m:VM} (h:VOk m):VOk (Q3q m).1:=by
 unfold Q3q;split
 ·exact h
 rename_i hne;refine⟨h.group,?_,h.blocks,h.block,h.last,h.stamp,.inl rfl⟩;show m.epoch+1<=1048576;rcases h.shut with e | ⟨_,e⟩
 ·rw [e] at hne; exact absurd rfl hne
 omega
theorem Q6h {m:VM} (h:VOk m) (i:Nat):(Q0G m i).length<=120:=by
 unfold Q0G;split
 ·rename_i hi; rw [h.blk hi]; omega
 split
 ·rename_i h8 h12;have hl:=h.lst (i:=i - 8) (by omega);have hn:=(Q0W hl.1).2;have hd:(Q0C m (i - 8)).2.length<=16:=by
   rcases hl.2 with e | e
   ·rw [e]; simp
   rw [e.1]; omega
  have hn2:=(Q0W (n:=(Q0C m (i - 8)).2.length) (by unfold maxN; omega)).2;unfold Q87 strB;simp only [zO];omega
 have hs:=h.sealNum;have h1:=(Q0W (n:=m.group) (by have:=h.group; unfold maxN; omega)).2;have h2:=(Q0W (n:=m.epoch) (by have:=h.epoch; unfold maxN; omega)).2;have h3:=(Q0W (n:=m.shut.length) (by unfold maxN; omega)).2;have h4:=Q4I hs.1;unfold Q9l;simp only [zO];omega
end
section
open Go.RowKit
abbrev RdS:=List UInt8×Nat
def rdN (s:RdS):Nat×RdS:=if s.2=0 then((tn s.1).1,((tn s.1).2.1,(tn s.1).2.2)) else(0,s)
def rdT (s:RdS) (most:Nat):List UInt8×RdS:=if s.2=0 then((ts s.1 most).1,((ts s.1 most).2.1,(ts s.1 most).2.2)) else([],s)
def rdM (s:RdS) (most:Nat):Nat×RdS :=if (rdN s).2.2=0 then(if most<(rdN s).1 then(0,((rdN s).2.1,5)) else((rdN s).1,(rdN s).2)) else(0,(rdN s).2)
def rdE (s:RdS):Nat:=if s.2=0/\0<s.1.length then 4 else s.2
theorem ts_len (b:List UInt8) (most:Nat):(ts b most).2.1.length<=b.length:=by
 rw [ts_eq];have:=Q80 b;split
 ·simp
 split
 ·simp
 split
 ·simp
 simp; omega
def stN (s:RdS):Nat->RdS
 | 0=>s
 | i+1=>(rdN (stN s i)).2
def vlN (s:RdS) (i:Nat):Nat:=(rdN (stN s i)).1
def Q3b:Wish:=⟨0,0,0,0,0,0,[],0,0,[]⟩
def pD (b:List UInt8):List UInt8×RdS:=rdT (stN (b,0) 6) 16
def pM (b:List UInt8):Nat×RdS:=rdM (stN (pD b).2 2) 7
def parseW (b:List UInt8):Wish where
 kind:=(vlN (b,0) 0:Int)
 client:=(vlN (b,0) 1:Int)
 stamp:=(vlN (b,0) 2:Int)
 group:=(vlN (b,0) 3:Int)
 epoch:=(vlN (b,0) 4:Int)
 block:=(vlN (b,0) 5:Int)
 data:=(pD b).1
 old:=(vlN (pD b).2 0:Int)
 new:=(vlN (pD b).2 1:Int)
 next:=(zL (pM b).1).map fun i=>(vlN (pM b).2 i:Int)
def parseE (b:List UInt8):Nat:=rdE (stN (pM b).2 (pM b).1)
def parse (b:List UInt8):Wish×Nat:=if parseE b=0 then(if mayB (parseW b)=true then(parseW b,0) else(Q3b,2)) else(Q3b,parseE b)
def OwnN (w:zB) (base:Nat) (v:zC) (zs:List Int):Prop:=w.ownsRow base 3 1 v zs.length (zs.map vn)
theorem Q8g {w:zB} {B:Nat} {e:TypeId} {s n:Nat} {v:zC} {vs:List zC} (h:w.ownsRow B e s v n vs):∃ A c,v=.slice A n c:=by
 rcases h.2 with⟨rfl,h0⟩ | ⟨g,cap,cur,rfl,_⟩
 ·exact⟨none,0,by rw [h0]⟩
 exact⟨_,cap,rfl⟩
theorem Q2h (x:Wish) (A:Option zA) (n c:Nat) (A':Option zA) (n' c':Nat):(Q02 x A n c A' n' c').all (·.oneCell')=true:=by simp [Q02,Value.oneCell']
theorem Q22 (x:Wish) (A:Option zA) (n c:Nat) (A':Option zA) (n' c':Nat):(Tryz.prog.info? 31).map (·.size)=some (Q02 x A n c A' n' c').size:=by kernel_rfl
section
attribute [local irreducible] pD pM vlN stN
end
theorem Q3I {P:zG} {ops:Array zH} {rest:List zH} {o:zH} {a:Act} {w:zB} {Q:Exit->Act->zB->Prop} (hgd:o.guard=none) (ty:TypeId) (x:Operand) (ho:o.op=.load ty x)
 (ad:zA) (n:Nat) (hx:a.eval x=.pointer (some ad)) (vs:Array zC) (d:TypeDesc)
 (hu:P.underlying ty=some d) (hd:(match d with | .struct _ | .array _ _=>true | _=>false)=true) (hi:(P.info? ty).map (·.size)=some n)
 (hn:vs.size=n) (hv:∀ (j:Nat) (v:zC),vs[j]?=some v->w.cell? (ad.add j)=some v)
 (h:wpList P ops Q rest (a.put o.dst (.agg vs)) w):wpList P ops Q (o :: rest) a w :=
 wpList_plain hgd fun _ hK=>by
  have hl:(loadCells ad vs.toList.length).run P w=.ok vs.toList.toArray w :=run_loadCells_list (P:=P) w ad vs.toList (fun j v hj=>hv j v (by simpa using hj))
  have hrun:(loadVar ty ad).run P w=.ok (.agg vs) w:=by
   cases hq:P.info? ty with
   | none=>simp [hq] at hi
   | some i =>
    have hs:i.size=n:=by simpa [hq] using hi
    have hagg:(isAgg ty).run P w=.ok true w:=by unfold isAgg;rw [Sem.run_bind,run_underlying hu w];cases d <;> simp_all
    simp only [Array.length_toList,Array.toArray_toList,hn] at hl;simp [loadVar,Sem.run_bind,hagg,sizeOf,typeInfo,hq,hs,hl]
  unfold Oper.wp execOp;simp only [ho,hx,Instr.loadAt,Instr.sureAddr,Sem.run_bind,Sem.run_pure,Result.andThen_ok,hrun];exact hK _ _ h
end
section
open Go.RowKit Go.Maps
structure Only (N:Nat->Prop) (w w':zB):Prop where
 os:w'.os=w.os
 tape:w'.tape=w.tape
 output:w'.output=w.output
 size:w.heap.size<=w'.heap.size
 block:∀ i,i<w.heap.size->¬ N i->w'.heap[i]?=w.heap[i]?
theorem Only.refl (N:Nat->Prop) (w:zB):Only N w w:=⟨rfl,rfl,rfl,zN _,fun _ _ _=>rfl⟩
theorem Only.trans {N:Nat->Prop} {a b c:zB} (h:Only N a b) (h':Only N b c):Only N a c :=⟨h'.os.trans h.os,h'.tape.trans h.tape,h'.output.trans h.output,Nat.le_trans h.size h'.size,fun i hi hn=>(h'.block i (zJ hi h.size) hn).trans (h.block i hi hn)⟩
theorem Only.of_book {k:Book} {w w':zB} (h:Q0b k w w'):Only k.has w w':=⟨h.os,h.tape,h.output,h.size,h.block⟩
theorem Only.of_below {N:Nat->Prop} {w w':zB} (h:zE w.heap.size w w'):Only N w w':=⟨h.os,h.tape,h.output,h.size,fun i hi _=>h.block i hi⟩
theorem Only.mono {N N':Nat->Prop} {w w':zB} (h:Only N w w') (hN:∀ b,b<w.heap.size->N b->N' b):Only N' w w':=⟨h.os,h.tape,h.output,h.size,fun i hi hn=>h.block i hi (fun e=>hn (hN i hi e))⟩
theorem Only.of_grown {N:Nat->Prop} {w w':zB} {b:Nat} (h:w.grownBy w' (some b)) (hb:N b):Only N w w':=⟨h.os,h.tape,h.output,h.size,fun i hi hn=>h.block i hi (fun e=>hn (by injection e with e; exact e▸hb))⟩
theorem Only.of_turned {N:Nat->Prop} {w w':zB} {b:Nat} (h:Q05 b w w') (hb:N b):Only N w w':=Only.of_grown h.grown hb
theorem Only.below {N:Nat->Prop} {w w':zB} (h:Only N w w') {B:Nat} (hB:B<=w.heap.size) (hn:∀ b,b<B->¬ N b):zE B w w':=⟨h.os,h.tape,h.output,h.size,fun i hi=>h.block i (by omega) (hn i hi)⟩
theorem Only.blk {N:Nat->Prop} {w w':zB} {g:Nat} {t:TypeId} {cs:Array zC} (h:Only N w w') (hb:Blk w g t cs) (hg:¬ N g):Blk w' g t cs:=(h.block g hb.lt hg).trans hb
theorem Only.cell {N:Nat->Prop} {w w':zB} (h:Only N w w') {p:zA} (hp:p.block<w.heap.size) (hn:¬ N p.block):w'.cell? p=w.cell? p:=World.cell?_of_block (h.block p.block hp hn)
theorem Only.reads {N:Nat->Prop} {w w':zB} {size n:Nat} {A:Option zA} {xs:List zC} (h:Only N w w') (hr:Q04 w w.heap.size size A n xs) (hn:∀ a,0<n->A=some a->¬ N a.block):Q04 w' w'.heap.size size A n xs :=⟨hr.1,fun h0=>by obtain⟨ad,e,hb,hc⟩:=hr.2 h0;exact⟨ad,e,by have:=h.size; omega,fun j u hu=>(h.cell (by rw [Q09]; exact hb) (by rw [Q09]; exact hn ad h0 e)).trans (hc j u hu)⟩⟩
theorem Q0d.only {w w':zB} {k:Book} {l:LL} {n:Nat} {N:Nat->Prop} (h:Q0d w k l n) (ho:Only N w w') (hg:¬ N k.g) (h1:¬ N k.b1) (h2:¬ N k.b2):Q0d w' k l n:=by
 obtain⟨D1,D2,n1,n2,m1,m2,m3⟩:=h.maps;have hl:=h.lt;refine⟨(ho.block _ hl.1 hg).trans h.cells,⟨D1,D2,n1,n2,?_,?_,m3⟩,h.len,h.apart⟩
 ·obtain⟨es,c,hb,F,hs,hD⟩:=m1;exact⟨es,c,(ho.block _ hl.2.1 h1).trans hb,F,hs,hD⟩
 obtain⟨es,c,hb,F,hs,hD⟩:=m2;exact⟨es,c,(ho.block _ hl.2.2 h2).trans hb,F,hs,hD⟩
def Q0e (ds:LL):List zC:=ds.flatMap fun d=>d.map vb
theorem Q1j:∀ {ds:LL},Digs ds->(Q0e ds).length=ds.length*32
 | [],_=>rfl
 | d :: t,h=>by
  have h1:=h d (zT ..);have h2:=Q1j (ds:=t) fun e he=>h e (zU _ he)
  unfold Q0e at h2 ⊢;simp only [List.flatMap_cons,zO,List.length_map,zS];omega
theorem Q5r (a b:LL):Q0e (a++b)=Q0e a++Q0e b:=by simp [Q0e]
theorem Q2j:∀ {ds:LL} (hd:Digs ds) (i j:Nat) {d:List UInt8},ds[i]?=some d->j<32->(Q0e ds)[i*32+j]?=(d.map vb)[j]?
 | [],_,i,j,d,h,_=>by simp at h
 | e :: t,hd,0,j,d,h,hj=>by simp only [List.getElem?_cons_zero,Option.some.injEq] at h;subst h;have h1:=hd e (zT ..);unfold Q0e;rw [List.flatMap_cons,List.getElem?_append_left (by simp [h1]; omega),show 0*32+j=j by omega]
 | e :: t,hd,i+1,j,d,h,hj=>by
  have h1:=hd e (zT ..);have h2:=Q2j (ds:=t) (fun x hx=>hd x (zU _ hx)) i j (d:=d) (by simpa using h) hj;unfold Q0e at h2 ⊢;rw [List.flatMap_cons,List.getElem?_append_right (by simp [h1]; omega),<- h2];congr 1
  simp [h1];omega
theorem Q4R:∀ {ds:LL} (hd:Digs ds) (i:Nat),(Q0e ds).drop (i*32)=Q0e (ds.drop i)
 | [],_,i=>by simp [Q0e]
 | e :: t,_,0=>by simp
 | e :: t,hd,i+1=>by have h1:=hd e (zT ..);have h2:=Q4R (ds:=t) (fun x hx=>hd x (zU _ hx)) i;rw [List.drop_succ_cons,<- h2];unfold Q0e;rw [List.flatMap_cons,show (i+1)*32=(e.map vb).length+i*32 by simp [h1]; omega,List.drop_append,Nat.add_sub_cancel_left,List.drop_of_length_le (by omega),List.nil_append]
theorem Q4q:∀ {ds:LL} (hd:Digs ds) (i:Nat),(Q0e ds).take (i*32)=Q0e (ds.take i)
 | [],_,i=>by simp [Q0e]
 | e :: t,_,0=>by simp [Q0e]
 | e :: t,hd,i+1=>by have h1:=hd e (zT ..);have h2:=Q4q (ds:=t) (fun x hx=>hd x (zU _ hx)) i;rw [List.take_succ_cons];unfold Q0e at h2 ⊢;rw [List.flatMap_cons,List.flatMap_cons,<- h2,show (i+1)*32=(e.map vb).length+i*32 by simp [h1]; omega,List.take_length_add_append]
theorem Q1O:inkZ=#[.int .u8 0,.int .u8 0,.int .u8 0,.int .u8 0,.int .u8 0,.int .u8 0,.int .u8 0,.int .u8 0,.int .u8 0,.int .u8 0,.int .u8 0,.int .u8 0,.int .u8 0,.int .u8 0,.int .u8 0,.int .u8 0,.int .u8 0,.int .u8 0,.int .u8 0,.int .u8 0,.int .u8 0,.int .u8 0,.int .u8 0,.int .u8 0,.int .u8 0,.int .u8 0,.int .u8 0,.int .u8 0,.int .u8 0,.int .u8 0,.int .u8 0,.int .u8 0]:=by kernel_rfl
theorem Q5m {w:zB} {k:Book} {A:Option zA} {n:Nat} {B:Nat} (hB:∀ ad,A=some ad->B<=ad.block) (hk:k.g<B/\k.b1<B/\k.b2<B):∀ a,0<n->A=some a->¬ k.has a.block:=fun a _ ha e=>by have:=hB a ha;rcases e with e | e | e <;> omega
theorem Q0P {d:List UInt8} (h:d.length=32):(bRow d).size=32:=by rw [Q1Z,h]
theorem Q7Q (k:Book) (L:LL) (asked:Nat) (A:Option zA) (n c:Nat) (xs:List UInt8) (w:zB) (B:Nat) (hbk:Q0d w k L asked) (h:Q04 w B 1 A n (xs.map vb)) (hB:B<=w.heap.size) (hn:n<65536) (has:asked<=1000000) :
 Calls zM 93 #[.pointer (some ⟨k.g,0,none⟩),.slice A n c] w fun e w'=>e=.returned (.tuple #[.agg (bRow (Q2e xs)),.int .i64 0])/\Q0d w' k (Q0Q L (Q1K xs)) (asked+1)/\Q0b k w w':=by
 have hxn:xs.length=n:=by have:=h.1; simpa using this
 have HXN:=sH hxn;have hX:zE w.heap.size w (w.alloc (.cells inkZ 51)):=(zP _ _).alloc (zN _) _;have hk0:Blk (w.alloc (.cells inkZ 51)) w.heap.size 51 inkZ:=Blk.newAt (by simp);have hlt:=hbk.lt;have hlt1:=hlt.1;have hlt2:=hlt.2.1;have hlt3:=hlt.2.2;have HBK:=sH hbk;have HRD:=sH h;obtain⟨i0,hi0,hz0,hz1,hz2⟩:=info_parts Q1f;have HZ:=sH Q1O;have HZS:=sH (show inkZ.size=32 by simp [inkZ,bRow]);have hs0:(w.alloc (.cells inkZ 51)).heap.size=w.heap.size+1:=by simp
 have HX:=sH hX;have HK0:=sH hk0;have HS0:=sH hs0;clear h hlt hbk hX hk0 hs0 hxn;obtain⟨g,hg⟩:∃ g,g=w.heap.size:=⟨_,rfl⟩;have hnn:¬ (65536:Int)<=(n:Int):=by omega
 go_enter Tryz.func93,Tryz.ntmps93
 go_upto_region 1 with fail
 rw [<- HZ.out];generalize World.alloc w _=w1 at HX HK0 HS0 ⊢;rw [<- hg] at HK0 HS0 ⊢;have hs1:=HX.out.size;have hg1:g<w1.heap.size:=by have:=HS0.out; omega
 have hgw:w.heap.size<=g:=by omega
 have HRD1:=sH (HRD.out.below (HX.out.mono hB));have HW0:=sH (World.ownsRow_lit (base:=w1.heap.size) (e:=5) (size:=1) w1 #[.int .u8 0] 1 (zN _) (by unfold maxLen; omega) rfl);have HRD2:=sH (HRD1.out.alloc (by omega) (.cells #[.int .u8 0] 5));clear HS0 hg;go_wp2_with (at_builtin; go_must (refine Q06 _ rfl (.tmp 11) (.tmp 12) 28 rfl w1.heap.size 5 i0 _ 1 1 Tryz.underlying28 hi0 hz0 hz1 hz2 rfl (by omega) _ 1 _ rfl HW0.out B A n c (xs.map vb) rfl HRD2.out ?c1 ?c2 ?c3 (by simp) ?_))
 case c1=>intro u hu; rfl
 case c2=>unfold maxLen; omega
 case c3=>omega
 intro v2 w2 hown2 hg2 hor2;have hb2:zE w1.heap.size w1 w2:=Q0p ((zP _ _).alloc (zN _) _) (by simp) hg2 (fun b hb=>by
  have:b=w1.heap.size:=by simpa [Value.ownBlock] using hb.symm
  omega)
 have hob:OwnB w2 w1.heap.size v2 (Q1K xs):=by unfold OwnB Q1K;rw [zS,HXN.out,List.map_cons,Nat.add_comm];exact hown2
 obtain⟨Ab,cb,rfl,hbc,hbm,hbr,hbB⟩:=Q03 hob;have hll:(Q1K xs).length=n+1:=by unfold Q1K; rw [zS,HXN.out]
 rw [hll] at hbc hbr ⊢;have HB2:=sH (HX.out.trans (hb2.mono hs1));have HK2:=sH (HK0.out.under hb2);have HBK2:=sH (HBK.out.below HB2.out);have hs2:=hb2.size;have hap:=Q5m (w:=w) (k:=k) (n:=n+1) hbB (by omega);have hof:=Q6g k L asked Ab (n+1) cb (Q1K xs) w2 _ HBK2.out hbr (zN _) (fun a h0 ha e=>hap a h0 ha (.inl e)) hbc hbm (by omega) has;have hsz:(bRow (Q2e xs)).size=32:=Q0P (Q1Y xs);have hon:=Q0I (Q2e xs);have HOF:=sH hof;have hdd:Q2e xs=Q0T (Q1K xs):=rfl;rw [<- hdd] at HOF;obtain⟨D,hD⟩:∃ D,D=bRow (Q2e xs):=⟨_,rfl⟩;rw [<- hD] at HOF hsz hon;have HD:=sH hD;have HSZ:=sH hsz;have HON:=sH hon;clear hob hb2 hown2 hg2 hor2 hbr hbB hap hof hsz hon hdd hD HRD1 HRD2 HW0 hll;go_wp2_with fail
 refine HOF.out.mono ?_;rintro _ w3 ⟨rfl,hbk3,ho3⟩;have HO3:=sH ((Q0b.of_below HB2.out).trans ho3);have hk3:Blk w3 g 51 inkZ:=(ho3.block g (by omega) (by rintro (e | e | e) <;> omega)).trans HK2.out;have HK3:=sH hk3;have HBK3:=sH hbk3;have hs3:=ho3.size;clear hbk3 ho3 hk3;go_wp2_with (refine Q00 (o:=⟨none,_,_,_,_,_⟩) rfl 51 (.tmp 4) (.tmp 15) rfl g 0 D rfl rfl 51 inkZ HK3.out (by rw [HSZ.out]; rfl) (by rw [HSZ.out,HZS.out]; omega) HON.out ?_; intro w5 hT5 hD5; rw [Q0h _ _ (by rw [HSZ.out,HZS.out])] at hD5)
 refine bodyPost_ret (Q07 rfl _ _ g 32 51 _ _ rfl hD5 Tryz.underlying51 rfl rfl HSZ.out) rfl ⟨by rw [HD.out]; rfl,?_,?_⟩
 ·exact HBK3.out.grown hT5.grown ⟨by omega,by omega,by omega⟩
 exact HO3.out.grown hT5.grown (by omega)
theorem Q3r {P:zG} {t e:TypeId} {m:Nat} (ht:P.underlying t=some (.slice e)) (hs:(P.info? e).map (·.size)=some m) (A:Option zA) (len cap l h:Nat) (li hi:Int) (el:li=l) (eh:hi=h) (hlh:l<=h) (hh:h<=cap) (W:zB) :
 (Instr.slice t (.slice A len cap) (some (.int .i64 li)) (some (.int .i64 hi)) none).run P W=.ok (.slice (if cap=l then A else A.map (·.add (l*m))) (h - l) (cap - l)) W:=by
 subst el eh;obtain⟨i,hi,hsz⟩:∃ i,P.info? e=some i/\i.size=m:=by
  cases hh:P.info? e with
  | none=>rw [hh] at hs; cases hs
  | some i=>rw [hh] at hs; exact⟨i,rfl,by simpa using hs⟩
 have he:P.elem t=e:=by simp [Program.elem,ht]
 rw [run_slice_lh W t A len cap (by rw [he]; exact ht) .i64 .i64 (l:Int) (h:Int) (by omega) (by omega) (by omega)];simp [he,sizeOf,typeInfo,hi,hsz,sliced]
theorem Q04.sub {w:zB} {B size n:Nat} {A:Option zA} {xs:List zC} (h:Q04 w B size A n xs) {l k cap:Nat} (hlk:l<=k) (hk:k<=n) (hc:n<=cap) :
 Q04 w B size (if cap=l then A else A.map (·.add (l*size))) (k - l) ((xs.drop (l*size)).take ((k - l)*size)):=by
 have hx:=h.1;have hm:l*size<=k*size:=Nat.mul_le_mul_right _ hlk;have hm2:k*size<=n*size:=Nat.mul_le_mul_right _ hk;refine⟨by rw [zX,List.length_drop,hx,Nat.sub_mul]; omega,fun hn=>?_⟩;obtain⟨ad,rfl,hb,hcell⟩:=h.2 (by omega);rw [if_neg (by omega)];refine⟨ad.add (l*size),rfl,by rw [Q09]; exact hb,fun j u hu=>?_⟩;rw [Q1T];rw [zR] at hu;split at hu
 ·exact hcell _ u (by rw [<- hu,List.getElem?_drop])
 cases hu
theorem Q4b {P:zG} {t e:TypeId} {n:Nat} (ht:P.underlying t=some (.array n e)) (hs:(P.info? e).map (·.size)=some 1) (hn:0<n) (a:zA) (W:zB) :
 (Instr.sliceAt t (.pointer (some a)) none none none).run P W=.ok (.slice (some (a.add 0)) n n) W:=by
 obtain⟨i,hi,hsz⟩:∃ i,P.info? e=some i/\i.size=1:=by
  cases hh:P.info? e with
  | none=>rw [hh] at hs; cases hs
  | some i=>rw [hh] at hs; exact⟨i,rfl,by simpa using hs⟩
 have he:P.elem t=e:=by simp [Program.elem,ht]
 have hln:P.arrayLen t=n:=by simp [Program.arrayLen,ht]
 rw [run_sliceAt_array_all W t a (by rw [he,hln]; exact ht)];simp [he,hln,sizeOf,typeInfo,hi,hsz,slicedAt,show ¬ n=0 by omega]
theorem Q4z {w:zB} {g n:Nat} {t:TypeId} {cs:Array zC} (h:Blk w g t cs) (hn:cs.size=n):Q04 w w.heap.size 1 (some ⟨g,0,none⟩) n cs.toList :=⟨by simp [hn],fun _=>⟨_,rfl,h.lt,fun j u hu=>by rw [Q1s,Nat.zero_add,h.cell];simpa using hu⟩⟩
theorem Q7Z:∀ (l:List zC) (k:Nat) (cs:Array zC),k+l.length<=cs.size->(l.zipIdx k).foldl (fun(cs:Array zC) (x:zC×Nat)=>cs.setIfInBounds x.2 x.1) cs=spl cs k l
 | [],k,cs,h=>by
  simp only [List.zipIdx_nil,List.foldl_nil];unfold spl;apply Array.toList_inj.1
  simp
 | v :: l,k,cs,h=>by rw [zS] at h;rw [List.zipIdx_cons,List.foldl_cons,Q7Z l (k+1) _ (by rw [Array.size_setIfInBounds]; omega),Q7I cs k v l h]
theorem Q7y (cs D:Array zC) (n:Nat) (h0:cs.size=n) (h1:D.size=n):Array.foldl (fun(cs:Array zC) (x:zC×Nat)=>cs.setIfInBounds x.2 x.1) cs D.zipIdx 0 n=D:=by
 subst h1;have e:D.size=D.zipIdx.size:=by simp
 rw [e,<- Array.foldl_toList,Array.toList_zipIdx,Q7Z _ _ _ (by simp [h0]),Q0h _ _ h0.symm]
theorem Q2P:(Tryz.prog.info? 51).map (·.size)=some 32:=by kernel_rfl
theorem Q6K (A:Option zA) (n c p:Nat) (w:zB) (hp:4*p<=n) (hn:n<=1000000) (hc:n<=c) :
 Calls zM 101 #[.slice A n c,.int .i64 (p:Int)] w fun e w'=>e=.returned (.slice (if c=4*p then A else A.map (·.add (4*p*32))) (min (4*p+4) n - 4*p) (c - 4*p))/\w=w':=by
 by_cases h4:(n:Int)<4*(p:Int)+4
 ·have hsl:=fun(W:zB)=>Q3r (P:=zM) (t:=139) Tryz.underlying139 Q2P A n c (4*p) n (4*(p:Int)) (n:Int) (by omega) rfl (by omega) (by omega) W
  rw [show min (4*p+4) n=n by omega];generalize (if c=4*p then A else A.map (·.add (4*p*32)))=A' at hsl ⊢;go_enter Tryz.func101,Tryz.ntmps101
  go_wp2
  go_ret
  exact⟨rfl,rfl⟩
 have hsl:=fun(W:zB)=>Q3r (P:=zM) (t:=139) Tryz.underlying139 Q2P A n c (4*p) (4*p+4) (4*(p:Int)) (4*(p:Int)+4) (by omega) (by omega) (by omega) (by omega) W
 rw [show min (4*p+4) n=4*p+4 by omega];generalize (if c=4*p then A else A.map (·.add (4*p*32)))=A' at hsl ⊢;go_enter Tryz.func101,Tryz.ntmps101
 go_wp2
 go_ret
 exact⟨rfl,rfl⟩
end
section
open Go.RowKit Go.Maps
attribute [local irreducible] wpList
theorem Q96 {ds:LL} (hd:Digs ds) {i:Nat} (hi:i<ds.length) {w:zB} {ad:zA} (h:∀ j u,(Q0e ds)[j]?=some u->w.cell? (ad.add j)=some u) :
 ∀ (j:Nat) (v:zC),(bRow ds[i])[j]?=some v->w.cell? ((ad.add (i*32)).add j)=some v:=fun j v hv=>by
 have hl:ds[i].length=32:=hd _ (zQ hi);have hj:j<32:=by
  rcases Nat.lt_or_ge j 32 with h1 | h1
  ·exact h1
  rw [zF (by rw [Q1Z,hl]; exact h1)] at hv; cases hv
 rw [Q1T];refine h _ v ?_;rw [Q2j hd i j (zD hi) hj];simpa [bRow] using hv
theorem up_any (k:Book) (L:LL) (asked:Nat) (A:Option zA) (n c:Nat) (ds:LL) (w:zB) (B:Nat) (hbk:Q0d w k L asked) (h:Q04 w B 32 A n (Q0e ds)) (hB:B<=w.heap.size) (hd:Digs ds) (h1:1<=n) (h4:n<=4) (has:asked<=1000000) :
 Calls zM 100 #[.pointer (some ⟨k.g,0,none⟩),.slice A n c] w fun e w'=>e=.returned (.tuple #[.agg (bRow (upD ds)),.int .i64 0])/\Q0d w' k (Q0Q L (upIn ds)) (asked+1)/\Q0b k w w':=by
 have hxn:ds.length=n:=by have h2:=h.1; rw [Q1j hd] at h2; omega
 obtain⟨ad,rfl,hadb,hcell⟩:=h.2 (by omega);have HXN:=sH hxn;have HD:=sH hd;have HC:=sH hcell;have hX:zE w.heap.size w (w.alloc (.cells inkZ 51)):=(zP _ _).alloc (zN _) _;have hk0:Blk (w.alloc (.cells inkZ 51)) w.heap.size 51 inkZ:=Blk.newAt (by simp);have hlt:=hbk.lt;have hlt1:=hlt.1;have hlt2:=hlt.2.1;have hlt3:=hlt.2.2;have HBK:=sH hbk;obtain⟨i0,hi0,hz0,hz1,hz2⟩:=info_parts Q1f;have HZ:=sH Q1O;have HZS:=sH (show inkZ.size=32 by simp [inkZ,bRow]);have hs0:(w.alloc (.cells inkZ 51)).heap.size=w.heap.size+1:=by simp
 have HX:=sH hX;have HK0:=sH hk0;have HS0:=sH hs0;clear h hlt hbk hX hk0 hs0 hxn hd hcell;obtain⟨g,hg⟩:∃ g,g=w.heap.size:=⟨_,rfl⟩;have hnn:¬ (n:Int)<1:=by omega
 have hnn4:¬ (4:Int)<(n:Int):=by omega
 go_enter Tryz.func100,Tryz.ntmps100
 go_upto_region 1 with fail
 rw [<- HZ.out];generalize World.alloc w _=w1 at HX HK0 HS0 ⊢;rw [<- hg] at HK0 HS0 ⊢;have hs1:=HX.out.size;have hg1:g<w1.heap.size:=by have:=HS0.out; omega
 have hgw:w.heap.size<=g:=by omega
 have hw0:=World.ownsRow_lit (base:=w1.heap.size) (e:=5) (size:=1) w1 #[.int .u8 1] 1 (zN _) (by unfold maxLen; omega) rfl;have hob0:OwnB (w1.alloc (.cells #[.int .u8 1] 5)) w1.heap.size (.slice (some ⟨w1.heap.size,0,none⟩) 1 1) (upIn (ds.take 0)):=hw0;have HW0:=sH hob0;have HX1:=sH (HX.out.trans ((Q0a w1 (.cells #[.int .u8 1] 5)).mono hs1));have HK1:=sH (HK0.out.under (Q0a w1 (.cells #[.int .u8 1] 5)));have hsz1:w1.heap.size<=(w1.alloc (.cells #[.int .u8 1] 5)).heap.size:=by simp
 have HSZ1:=sH hsz1;clear HS0 hg hw0 hob0 hsz1;go_wp2_with fail
 go_loopw [6,21] (fun ov iv wr=>∃ i:Nat,i<=n/\iv=.int .i64 i/\OwnB wr w1.heap.size ov (upIn (ds.take i))/\zE w.heap.size w wr/\Blk wr g 51 inkZ/\w1.heap.size<=wr.heap.size) (fun _ iv _=>n - (intOf iv).toNat)
 case atStart=>exact⟨0,by omega,rfl,HW0.out,HX1.out,HK1.out,HSZ1.out⟩
 obtain⟨i,hi,rfl,hov,hbel,hblk,hsr⟩:=hrel;have HOV:=sH hov;have HB:=sH hbel;have HKR:=sH hblk;have hsz:=hbel.size;have HUL:=sH (upIn_len (fun d hd=>HD.out d (List.mem_of_mem_take hd):Digs (ds.take i)));clear hov hbel hblk;by_cases hin:i<n
 ·have hil:i<ds.length:=by have:=HXN.out; omega
  have hcs:=Q96 HD.out hil HC.out;have hcs':∀ (j:Nat) (v:zC),(bRow ds[i])[j]?=some v->wr.cell? ((ad.add (i*32)).add j)=some v:=fun j v hv=>(HB.out.cell (show ((ad.add (i*32)).add j).block<w.heap.size by rw [Q09,Q09]; omega)).trans (hcs j v hv)
  have htk:upIn (ds.take (i+1))=upIn (ds.take i)++ds[i]:=by
   unfold upIn;rw [zW hil,List.flatten_append]
   simp
  have hdl:ds[i].length=32:=HD.out _ (zQ hil);obtain⟨d,hdd⟩:∃ d,d=ds[i]:=⟨_,rfl⟩;rw [<- hdd] at hcs' htk hdl;have HCS:=sH hcs';have HTK:=sH htk;have hds:=Q0P hdl;have hdo:=Q0I d;have HDL:=sH hdl;have hdv:(bRow d).toList=d.map vb:=by simp [bRow]
  have HDV:=sH hdv;clear hcs hcs' htk hdd hdl hdv;obtain⟨D,hD⟩:∃ D,D=bRow d:=⟨_,rfl⟩;rw [<- hD] at HCS hds hdo HDV;have HDS:=sH hds;have HDO:=sH hdo;clear hds hdo hD;have hinI:(i:Int)<(n:Int):=by omega
  go_upto_region 7 with(first
   | (refine Q3I (o:=⟨some 24,_,_,_,_,_⟩) rfl 51 (.tmp 23) rfl (ad.add (i*32)) 32 rfl D _ Tryz.underlying51 rfl rfl HDS.out (fun j v hv=>HCS.out j v hv) ?_)
   | (refine Q00 (o:=⟨none,_,_,_,_,_⟩) rfl 51 (.tmp 8) (.tmp 24) rfl wr.heap.size 0 D rfl rfl 51 inkZ (by rw [HZ.out]; exact Blk.newAt rfl) (by rw [HDS.out]; rfl) (by rw [HDS.out,HZS.out]; omega) HDO.out ?_; intro w3 hT3 hD3; rw [Q0h _ _ (by rw [HDS.out,HZS.out])] at hD3))
  have hb3:zE wr.heap.size wr w3:=hT3.below ((zP _ _).alloc (zN _) _) (zN _);have HB3:=sH (HB.out.trans (hb3.mono hsz));have HO3:=sH (HOV.out.below hb3);have HK3:=sH (HKR.out.under hb3);have hs3:=hb3.size;have hr3:=Q4z hD3 HDS.out;rw [HDV.out] at hr3;have HR3:=sH hr3;obtain⟨gq,hgq⟩:∃ gq,gq=wr.heap.size:=⟨_,rfl⟩;rw [<- hgq] at HR3 ⊢;have HSL:=sH (fun(W:zB)=>Q4b (P:=zM) (t:=51) Tryz.underlying51 (show (Tryz.prog.info? 5).map (·.size)=some 1 by kernel_rfl) (by omega) ⟨gq,0,none⟩ W);have hrow:=HO3.out.row;have hul:=HUL.out;have hlen:(ds.take i).length<=4:=by rw [zX]; omega
  have HWN:=sH hrow;have hge:=fun b (hb:(_:zC).ownBlock=some b)=>HO3.out.ge hb
  have HGE:=sH hge;obtain⟨xb,hxb⟩:∃ xb,xb=upIn (ds.take i):=⟨_,rfl⟩;rw [<- hxb] at HWN hul HTK;have HXB:=sH hxb;clear hT3 hD3 hb3 hr3 hrow hgq hge hxb HOV HO3;go_wp2_with (first
   | (refine wpList_exec_w (o:=⟨some 26,_,_,_,_,_⟩) rfl (.slice (some ⟨gq,0,none⟩) 32 32) w3 (by
    have:=HSL.out w3
    go_simp
    exact this) ?_)
   | (at_builtin; go_must (refine Q06 (o:=⟨some 27,_,_,_,_,_⟩) _ rfl (.tmp 25) (.tmp 26) 28 rfl w1.heap.size 5 i0 _ 1 1 Tryz.underlying28 hi0 hz0 hz1 hz2 rfl (by omega) _ _ _ rfl HWN.out w3.heap.size (some ⟨gq,0,none⟩) 32 32 (d.map vb) rfl HR3.out ?c1 ?c2 ?c3 ?c4 ?_)))
  case c1=>intro u hu; first | rfl | (obtain⟨y,_,rfl⟩:=List.mem_map.1 hu; rfl)
  case c2=>unfold maxLen; omega
  case c3=>omega
  case c4=>omega
  intro v6 w6 hown6 hg6 hor6;have HB6:=sH (Q0p HB3.out (by omega) hg6 (fun b hb=>by have:=HGE.out b hb; omega));have hk6:Blk w6 g 51 inkZ:=HK3.out.grown hg6 (fun e=>by have:=HGE.out g e.symm; omega);have HK6:=sH hk6;have hs6:=hg6.size;have HO6:=sH (show OwnB w6 w1.heap.size v6 (upIn (ds.take (i+1))) by unfold OwnB;rw [HTK.out,zO,List.map_append,HDL.out,hul,zX];exact hown6)
  clear hown6 hg6 hor6 hk6;go_wp2_with fail
  go_roundw
  case rel=>exact⟨i+1,by omega,by go_num,HO6.out,HB6.out,HK6.out,by omega⟩
  case measure=>simp [intOf]; omega
 obtain rfl:i=n:=by omega
 have hiI:¬ (i:Int)<(i:Int):=by omega
 have htk:ds.take i=ds:=List.take_of_length_le (by have:=HXN.out; omega);rw [htk] at HOV HUL;have hob:=HOV.out;have hul:=HUL.out;obtain⟨Ab,cb,rfl,hbc,hbm,hbr,hbB⟩:=Q03 hob;have HBK2:=sH (HBK.out.below HB.out);have hap:=Q5m (w:=w) (k:=k) (n:=(upIn ds).length) hbB (by omega);have hof:=Q6g k L asked Ab (upIn ds).length cb (upIn ds) wr _ HBK2.out hbr (zN _) (fun a h0 ha e=>hap a h0 ha (.inl e)) hbc hbm (by have:=HXN.out; omega) has;have hsz5:(bRow (upD ds)).size=32:=Q0P (Q4l ds);have hon:=Q0I (upD ds);have HOF:=sH hof;have hdd:upD ds=Q0T (upIn ds):=rfl;rw [<- hdd] at HOF;obtain⟨D,hD⟩:∃ D,D=bRow (upD ds):=⟨_,rfl⟩;rw [<- hD] at HOF hsz5 hon;have HD5:=sH hD;have HSZ:=sH hsz5;have HON:=sH hon;generalize (upIn ds).length=ul at *;clear hob hbr hbB hap hof hsz5 hon hdd hD htk HOV HUL hul;go_wp2_with fail
 refine HOF.out.mono ?_;rintro _ w3 ⟨rfl,hbk3,ho3⟩;have HO3:=sH ((Q0b.of_below HB.out).trans ho3);have hk3:Blk w3 g 51 inkZ:=(ho3.block g (by omega) (by rintro (e | e | e) <;> omega)).trans HKR.out;have HK3:=sH hk3;have HBK3:=sH hbk3;have hs3:=ho3.size;clear hbk3 ho3 hk3;go_wp2_with (refine Q00 (o:=⟨none,_,_,_,_,_⟩) rfl 51 (.tmp 4) (.tmp 32) rfl g 0 D rfl rfl 51 inkZ HK3.out (by rw [HSZ.out]; rfl) (by rw [HSZ.out,HZS.out]; omega) HON.out ?_; intro w5 hT5 hD6; rw [Q0h _ _ (by rw [HSZ.out,HZS.out])] at hD6)
 refine bodyPost_ret (Q07 rfl _ _ g 32 51 _ _ rfl hD6 Tryz.underlying51 rfl rfl HSZ.out) rfl ⟨by rw [HD5.out]; rfl,?_,?_⟩
 ·exact HBK3.out.grown hT5.grown ⟨by omega,by omega,by omega⟩
 exact HO3.out.grown hT5.grown (by omega)
end
end Go.Proofs.YtckjnbjiafgibaaGreat
