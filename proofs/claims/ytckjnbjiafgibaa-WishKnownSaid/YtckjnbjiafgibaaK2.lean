/- Parts of the proof, in one text. -/
import Derived.Test.YtckjnbjiafgibaaK1
import Derived.Deep.DeepCutAuto
namespace Go.Proofs.Ytckjnbjiafgibaa
set_option linter.unusedVariables false
set_option linter.unusedSimpArgs false
set_option maxRecDepth 100000
set_option maxHeartbeats 16000000
open _root_.Go renaming Addr->zA,World->zB,Value->zC,Program->zF,Oper->zG,Calls->zI
open _root_.Go.Region renaming wanted->zH
open _root_.Go.RowKit renaming Below->zD
open _root_.Go.RowKit.Below renaming heap_setCell->zE,refl->zN
open _root_.List renaming getElem?_map->zJ,range->zK,length_append->zM
open _root_.Nat renaming le_refl->zL
section
open Go.RowKit
theorem Blk.under {w w':zB} {g:Nat} {t:TypeId} {cs:Array zC} (h:Blk w g t cs) (hb:zD w.heap.size w w'):Blk w' g t cs:=h.below hb h.lt
def Q2A (p:zB->zC->Prop):Prop:=∀ w w' v,p w v->zD w.heap.size w w'->p w' v
theorem Q2A.pure (q:zC->Prop):Q2A fun _ v=>q v:=fun _ _ _ h _=>h
def Q2h (ops:Array zG) (ps:Nat->zB->zC->Prop) (j:Nat) (w:zB) (a:Act):Prop:=∀ o d,ops[j]?=some o->o.dst=some d->ps j w (a.eval (.tmp d))
structure Kept (ops:Array zG) (n:Nat) (a0 a:Act):Prop where
 defers:a.defers=a0.defers
 size:a.tmps.size=a0.tmps.size
 tmps:∀ d:Nat,(∀ (i:Nat) (o:zG),i<n->ops[i]?=some o->o.dst≠some d)->a.tmps[d]?=a0.tmps[d]?
def Q42 (ops:Array zG) (n d:Nat):Bool:=(zK n).all fun i=>match ops[i]? with
 | none=>true
 | some o=>o.dst != some d
theorem Q3E {ops:Array zG} {n d:Nat} (h:Q42 ops n d=true):∀ (i:Nat) (o:zG),i<n->ops[i]?=some o->o.dst≠some d:=fun i o hi ho=>by have:=List.all_eq_true.1 h i (List.mem_range.2 hi);simp only [ho,bne_iff_ne] at this;exact this
theorem Kept.at_ {ops:Array zG} {n:Nat} {a0 a:Act} (h:Kept ops n a0 a) {d:Nat} (hd:Q42 ops n d=true):a.eval (.tmp d)=a0.eval (.tmp d):=by have:=h.tmps d (Q3E hd);simp [Act.eval,this]
theorem Kept.get {ops:Array zG} {n:Nat} {a0 a:Act} (h:Kept ops n a0 a) {d:Nat} (hd:Q42 ops n d=true) {v:zC} (hv:a0.eval (.tmp d)=v):a.tmps[d]?.getD undef=v:=by have:=h.at_ hd;rw [hv] at this;simpa [Act.eval] using this
theorem Q2h.get {ops:Array zG} {ps:Nat->zB->zC->Prop} {j:Nat} {w:zB} {a:Act} (h:Q2h ops ps j w a) {o:zG} (d:Nat) (ho:ops[j]?=some o) (hd:o.dst=some d):ps j w (a.tmps[d]?.getD undef):=by have:=h o d ho hd;simpa [Act.eval] using this
def Q39 (P:zF) (ops:Array zG) (o:zG) (a:Act) (w:zB) (p:zB->zC->Prop):Prop :=∀ (K:Act->zB->Prop) (Q':Exit->Act->zB->Prop),(∀ v w',zD w.heap.size w w'->p w' v->K (a.put o.dst v) w')->if zH o (yielded ops a.tmps)=true then o.wp P a w K Q' else K (a.put o.dst undef) w
section
variable {P:zF} {ops:Array zG}
theorem Q2D {o:zG} {a:Act} {w:zB} {p:zB->zC->Prop} (hw:zH o (yielded ops a.tmps)=true) (v:zC) (w':zB) (he:(execOp a.eval o).run P w=.ok (.value v) w') (hb:zD w.heap.size w w') (hp:p w' v):Q39 P ops o a w p:=fun K Q' hK=>by rw [if_pos hw];unfold Oper.wp;rw [he];exact hK v w' hb hp
theorem Q3Q {o:zG} {a:Act} {w:zB} {p:zB->zC->Prop} (hw:zH o (yielded ops a.tmps)=true) (v:zC) (he:(execOp a.eval o).run P w=.ok (.value v) w) (hp:p w v):Q39 P ops o a w p :=Q2D hw v w he (zN _ _) hp
theorem Q1s {o:zG} {a:Act} {w:zB} {p:zB->zC->Prop} (hw:zH o (yielded ops a.tmps)=true) (f:FuncId) (args:Array zC) (he:(execOp a.eval o).run P w=.ok (.enter f args) w)
 (hc:zI P f args w fun e w'=>∃ v,e=.returned v/\zD w.heap.size w w'/\p w' v):Q39 P ops o a w p:=fun K Q' hK=>by
 rw [if_pos hw];unfold Oper.wp;rw [he];refine hc.mono ?_;rintro e w' ⟨v,rfl,hb,hp⟩;exact hK v w' hb hp
end
def backB (md:Region.Mode) (ops:Array zG) (n:Nat):Bool:=(zK n).all fun i=>match ops[i]? with
 | none=>true
 | some o=>o.after.all fun e=>!Region.binds md e || decide (e.on<i)
def Q0Y (m n:Nat):Array Bool:=(zK m).map (fun i=>decide (i<n)) |>.toArray
theorem Q3k (m n k:Nat) (d:Bool) (h:k<m):(Q0Y m n).getD k d=decide (k<n):=by unfold Q0Y;simp [h]
def relB (md:Region.Mode) (ops:Array zG) (n:Nat):Bool :=decide (n<ops.size) && Region.sinkB md ops n && Region.chainB md ops n && Q3F ops n && backB md ops n && Region.seqB md ops (ops.size - n) n (Q0Y ops.size n)
section
variable {P:zF} {md:Region.Mode} {ops:Array zG}
theorem Q22 (f:Nat->Bool):∀ n,(∃ i,i<n/\f i=false)->∃ i,i<n/\f i=false/\∀ j,j<i->f j=true:=by
 intro n
 induction n with
 | zero=>rintro ⟨i,hi,_⟩; omega
 | succ n ih =>
  rintro ⟨i,hi,h⟩;by_cases hx:∃ i,i<n/\f i=false
  ·obtain⟨j,h1,h2,h3⟩:=ih hx;exact⟨j,by omega,h2,h3⟩
  have hin:i=n:=by
   rcases Nat.lt_or_ge i n with h4 | h4
   ·exact absurd ⟨i,h4,h⟩ hx
   omega
  subst hin;refine⟨i,by omega,h,fun j hj=>?_⟩;cases hf:f j with
  | true=>rfl
  | false=>exact absurd ⟨j,hj,hf⟩ hx
theorem Q2X {n:Nat} {ps:Nat->zB->zC->Prop} {a0:Act} {w0:zB} {Q':Exit->Act->zB->Prop} (hn:n<ops.size) (hs:Region.sinkB md ops n=true) (hc:Region.chainB md ops n=true) (hd:Q3F ops n=true) (hbk:backB md ops n=true)
 (hl:∀ j,Q2A (ps j))
 (hop:∀ i o,i<n->ops[i]?=some o->∀ a w,zD w0.heap.size w0 w->Kept ops n a0 a->(∀ j,Region.waitsFor md ops i j=true->Q2h ops ps j w a)->Q39 P ops o a w (ps i))
 (hL:∀ a w,zD w0.heap.size w0 w->Kept ops n a0 a->(∀ j,j<n->Q2h ops ps j w a)->wpAny P md ops Q' (ops.size - n) (Q0Y ops.size n) a w)
 (hsz:∀ (i:Nat) (o:zG) (d:Tmp),i<n->ops[i]?=some o->o.dst=some d->d<a0.tmps.size) :
 ∀ (f:Nat) (listed:Array Bool) (a:Act) (w:zB),((zK n).filter fun i=>!listed.getD i false).length=f->HeadInv md ops n listed->zD w0.heap.size w0 w->Kept ops n a0 a->(∀ j,j<n->listed.getD j false=true->Q2h ops ps j w a)->wpAny P md ops Q' (f+(ops.size - n)) listed a w
 | 0,listed,a,w,hf,inv,hb,hk,hp=>by
  have hall:∀ j,j<n->listed.getD j false=true:=fun j hj=>by
   cases hx:listed.getD j false with
   | true=>rfl
   | false =>
    have:j∈(zK n).filter fun i=>!listed.getD i false:=List.mem_filter.2 ⟨List.mem_range.2 hj,by rw [hx]; rfl⟩
    rw [List.eq_nil_of_length_eq_zero hf] at this;cases this
  have hls:listed=Q0Y ops.size n:=by
   apply Array.ext
   ·rw [inv.size]; simp [Q0Y]
   intro i h1 h2;have hi:i<ops.size:=by rw [<- inv.size]; exact h1
   have e1:listed[i]=listed.getD i false:=by simp [h1]
   have e2:(Q0Y ops.size n)[i]=(Q0Y ops.size n).getD i false:=by simp [h2]
   rw [e1,e2,Q3k _ _ _ _ hi];by_cases hin:i<n
   ·rw [hall i hin,decide_eq_true hin]
   rw [decide_eq_false hin];exact getD_both (inv.tail i (by omega) hi)
  rw [Nat.zero_add,hls];exact hL a w hb hk fun j hj=>hp j hj (hall j hj)
 | f+1,listed,a,w,hf,inv,hb,hk,hp=>by
  have hex:∃ i,i<n/\listed.getD i false=false:=by
   cases hx:(zK n).filter fun i=>!listed.getD i false with
   | nil=>rw [hx] at hf; cases hf
   | cons i t =>
    have:i∈(zK n).filter fun i=>!listed.getD i false:=by rw [hx]; exact List.mem_cons_self
    obtain⟨h1,h2⟩:=List.mem_filter.1 this;exact⟨i,List.mem_range.1 h1,by simpa using h2⟩
  obtain⟨m,hm,hmf,hmb⟩:=Q22 (fun i=>listed.getD i false) n hex;have hin:∀ k,k<n->listed.getD k false=false->listed.getD k true=false:=fun k hk h=>getD_in (by rw [inv.size]; omega) h
  rw [show f+1+(ops.size - n)=(f+(ops.size - n))+1 by omega];refine⟨fun h0=>?_,fun i hi=>?_⟩
  ·exfalso
   have:m∈Region.ready md ops listed:=by refine mem_ready.2 ⟨hin m hm hmf,ops[m],Array.getElem?_eq_getElem (by omega),fun e he hbd=>?_⟩;have h1:=List.all_eq_true.1 hbk m (List.mem_range.2 hm);rw [Array.getElem?_eq_getElem (show m<ops.size by omega)] at h1;have h2:=Array.all_eq_true_iff_forall_mem.1 h1 e he;rw [hbd] at h2;simp at h2;exact hmb e.on h2
   rw [h0] at this;cases this
  have hin':i<n:=by
   rcases Nat.lt_or_ge i n with h | h
   ·exact h
   exact absurd hi (tail_waits hs hc hn inv _ m rfl hm (hin m hm hmf) i h)
  obtain⟨hun,o,ho,hall⟩:=mem_ready.1 hi;have hrel:=hop i o hin' ho a w hb hk (fun j hj=>by obtain⟨oj,hoj,e,he,hbd,hon⟩:=Region.waitsFor_spec hj;have:oj=o:=Option.some.inj (hoj.symm.trans ho);subst this;have h1:=hall e he hbd;rw [hon] at h1;have h2:=List.all_eq_true.1 hbk i (List.mem_range.2 hin');rw [ho] at h2;have h3:=Array.all_eq_true_iff_forall_mem.1 h2 e he;rw [hbd] at h3;simp at h3;exact hp j (by omega) h1)
  unfold wpOp;simp only [ho];have hcnt:((zK n).filter fun k=>!(listed.setIfInBounds i true).getD k false).length=f:=by
   have hmem:i∈(zK n).filter fun i=>!listed.getD i false:=List.mem_filter.2 ⟨List.mem_range.2 hin',by rw [getD_both hun]; rfl⟩
   have hnd:((zK n).filter fun i=>!listed.getD i false).Nodup:=List.Pairwise.filter _ List.nodup_range;have he:((zK n).filter fun k=>!(listed.setIfInBounds i true).getD k false)=((zK n).filter fun i=>!listed.getD i false).erase i:=by
    rw [hnd.erase_eq_filter,List.filter_filter];apply List.filter_congr
    intro k hk;by_cases hki:i=k
    ·subst hki;have hlt:i<listed.size:=by rw [inv.size]; omega
     simp [hlt]
    rw [getD_set_ne false hki];simp [Ne.symm hki]
   rw [he,List.length_erase_of_mem hmem,hf];rfl
  have hfin:∀ v w',zD w.heap.size w w'->ps i w' v->wpAny P md ops Q' (f+(ops.size - n)) (listed.setIfInBounds i true) (a.put o.dst v) w':=fun v w' hbw hpv=>by
   refine Q2X hn hs hc hd hbk hl hop hL hsz f _ _ w' hcnt (inv.set hi hin') (hb.trans (hbw.mono hb.size)) ⟨?_,by rw [Q0T]; exact hk.size,fun d hfree=>?_⟩ fun j hj hlj oj d hoj hdj=>?_
   ·rw [<- hk.defers]; unfold Act.put; split <;> rfl
   ·rw [Q0w (hfree i o hin' ho)]; exact hk.tmps d hfree
   by_cases hji:j=i
   ·subst hji;have:oj=o:=Option.some.inj (hoj.symm.trans ho);subst this;have hds:d<a.tmps.size:=by rw [hk.size]; exact hsz j oj d hin' hoj hdj
    have he:(a.put oj.dst v).eval (.tmp d)=v:=by rw [hdj];simp [Act.put,Act.eval,hds]
    rw [he];exact hpv
   have hl2:listed.getD j false=true:=by rw [getD_set_ne false (Ne.symm hji)] at hlj; exact hlj
   have he:(a.put o.dst v).eval (.tmp d)=a.eval (.tmp d):=by have:=Q0w (a:=a) (v:=v) (Q0F hd hj hin' hji hoj ho hdj);simp [Act.eval,this]
   rw [he];exact hl j _ _ _ (hp j hj hl2 oj d hoj hdj) hbw
  have:=hrel (wpAny P md ops Q' (f+(ops.size - n)) (listed.setIfInBounds i true)) Q' hfin;split
  ·rename_i hwt;rw [if_pos hwt] at this;exact .inl this
  rename_i hwt;rw [if_neg hwt] at this;exact this
end
def Q2c (P:zF) (ops:Array zG) (n:Nat) (ps:Nat->zB->zC->Prop) (a0:Act) (w0:zB):Nat->List zG->Prop
 | _,[]=>True
 | k,o :: l=>(∀ a w,zD w0.heap.size w0 w->Kept ops n a0 a->(∀ j,Region.waitsFor .any ops k j=true->Q2h ops ps j w a)->Q39 P ops o a w (ps k))/\Q2c P ops n ps a0 w0 (k+1) l
theorem Q2c.spec {P:zF} {ops:Array zG} {n:Nat} {ps:Nat->zB->zC->Prop} {a0:Act} {w0:zB}:∀ (l:List zG) (k:Nat),Q2c P ops n ps a0 w0 k l->∀ i o,l[i]?=some o ->
 ∀ a w,zD w0.heap.size w0 w->Kept ops n a0 a->(∀ j,Region.waitsFor .any ops (k+i) j=true->Q2h ops ps j w a)->Q39 P ops o a w (ps (k+i))
 | [],k,_,i,o,ho=>by simp at ho
 | o' :: l,k,h,0,o,ho=>by simp at ho; subst ho; exact h.1
 | o' :: l,k,h,i+1,o,ho=>by have:=Q2c.spec l (k+1) h.2 i o (by simpa using ho);rw [show k+1+i=k+(i+1) by omega] at this;exact this
def sizeB (ops:Array zG) (n m:Nat):Bool:=(zK n).all fun i=>match ops[i]? with
 | none=>true
 | some o=>match o.dst with
  | none=>true
  | some d=>decide (d<m)
theorem Q2x {P:zF} {id:Nat} {Q:Exit->Act->zB->Prop} {a:Act} {w:zB} {l:List zG} (n m:Nat) (ps:Nat->zB->zC->Prop) (hm:P.follows .mixedOrders=true) (hB:relB .any l.toArray n=true) (hsz:sizeB l.toArray n m=true) (ha:a.tmps.size=m)
 (hl:∀ j,Q2A (ps j)) (hop:Q2c P l.toArray n ps a w 0 (l.take n))
 (h:∀ a' w',zD w.heap.size w w'->Kept l.toArray n a a'->(∀ j,j<n->Q2h l.toArray ps j w' a')->wpList P l.toArray Q (l.drop n) a' w'):(Code.region id l.toArray true).wp P Q a w:=by
 simp only [relB,Bool.and_eq_true,decide_eq_true_eq] at hB;obtain⟨⟨⟨⟨⟨hn,hs⟩,hc⟩,hd⟩,hbk⟩,hsq⟩:=hB;have inv0:HeadInv .any l.toArray n (Array.replicate l.toArray.size false) :=⟨by simp,fun j oj _ hl=>(by rw [getD_replicate_false] at hl; cases hl),fun t _ ht=>getD_in (by simpa using ht) (getD_replicate_false _ _)⟩
 have hdl:(l.drop n).length=l.toArray.size - n:=by simp
 refine wp_region_any hm ?_;have:=Q2X (Q':=Q) (md:=.any) (P:=P) (ops:=l.toArray) (n:=n) (ps:=ps) (a0:=a) (w0:=w) hn hs hc hd hbk hl (fun i o hi ho a' w' h1 h2 h3=>by
  have:=Q2c.spec (l.take n) 0 hop i o (by rw [List.getElem?_take,if_pos hi]; simpa using ho) a' w' h1 h2;simp only [Nat.zero_add] at this;exact this h3)
  (fun a' w' h1 h2 h3=>by have:=wpAny_of_seq (md:=.any) (ops:=l.toArray) (Q':=Q) (l.drop n) n (Q0Y l.toArray.size n) a' w' (fun j=>by simp [List.getElem?_drop]) (by rw [hdl]; exact hsq) (h a' w' h1 h2 h3);rw [hdl] at this;exact this)
  (fun i o d hi ho hdst=>by have:=List.all_eq_true.1 hsz i (List.mem_range.2 hi);simp only [ho,hdst,decide_eq_true_eq] at this;rw [ha]; exact this)
  n (Array.replicate l.toArray.size false) a w.drew (by
   rw [List.filter_eq_self.2 (fun i _=>by rw [getD_replicate_false]; rfl)]
   simp) inv0 (zN _ w).drew ⟨rfl,rfl,fun _ _=>rfl⟩ (fun j _ hj=>by rw [getD_replicate_false] at hj; cases hj)
 rw [show n+(l.toArray.size - n)=l.toArray.size by omega] at this;exact this
def Q0M:Act->List Nat->(Nat->zC)->Act
 | a,[],_=>a
 | a,d :: ds,f=>Q0M (a.put (some d) (f d)) ds f
theorem Q2o:∀ (ds:List Nat) (a:Act) (f:Nat->zC) (k:Nat),(Q0M a ds f).tmps[k]?=if k∈ds/\k<a.tmps.size then some (f k) else a.tmps[k]?
 | [],a,f,k=>by simp [Q0M]
 | d :: ds,a,f,k=>by
  rw [Q0M,Q2o ds,Q0T];by_cases hk:k∈ds/\k<a.tmps.size
  ·rw [if_pos hk,if_pos ⟨List.mem_cons_of_mem _ hk.1,hk.2⟩]
  rw [if_neg hk];by_cases hd:k=d
  ·subst hd;by_cases hs:k<a.tmps.size
   ·rw [if_pos ⟨List.mem_cons_self,hs⟩];simp [Act.put,hs]
   rw [if_neg (fun h=>hs h.2),Array.getElem?_eq_none (by rw [Q0T]; omega),Array.getElem?_eq_none (by omega)]
  rw [if_neg (fun h=>by
   rcases List.mem_cons.1 h.1 with h1 | h1
   ·exact hd h1
   exact hk ⟨h1,h.2⟩)]
  exact Q0w (fun e=>hd (by injection e with e; exact e.symm))
theorem Q1t:∀ (ds:List Nat) (a:Act) (f:Nat->zC),(Q0M a ds f).defers=a.defers
 | [],a,f=>rfl
 | d :: ds,a,f=>by rw [Q0M,Q1t ds]; rfl
def Q2m (ops:Array zG) (n:Nat):List Nat:=(zK n).filterMap fun i=>(ops[i]?).bind (·.dst)
theorem Kept.puts {ops:Array zG} {n:Nat} {a0 a:Act} (h:Kept ops n a0 a) (hs:sizeB ops n a0.tmps.size=true):a=Q0M a0 (Q2m ops n) (fun d=>a.tmps[d]?.getD undef):=by
 have h1:a.tmps=(Q0M a0 (Q2m ops n) (fun d=>a.tmps[d]?.getD undef)).tmps:=by
  apply Array.ext_getElem?
  intro k;rw [Q2o];by_cases hk:k∈Q2m ops n/\k<a0.tmps.size
  ·rw [if_pos hk];have:k<a.tmps.size:=by rw [h.size]; exact hk.2
   simp [this]
  rw [if_neg hk];refine h.tmps k fun i o hi ho hd=>hk ⟨List.mem_filterMap.2 ⟨i,List.mem_range.2 hi,by rw [ho]; exact hd⟩,?_⟩
  have:=List.all_eq_true.1 hs i (List.mem_range.2 hi);simp only [ho,hd,decide_eq_true_eq] at this;exact this
 have h2:a.defers=(Q0M a0 (Q2m ops n) (fun d=>a.tmps[d]?.getD undef)).defers:=by rw [Q1t,h.defers]
 calc a=⟨a.tmps,a.defers⟩:=rfl
  _=_:=by rw [h2]; conv=>lhs; arg 1; rw [h1]
theorem Q1c {P:zF} {id:Nat} {Q:Exit->Act->zB->Prop} {a:Act} {w:zB} {l:List zG} (n m:Nat) (ps:Nat->zB->zC->Prop) (ds:List Nat) (hm:P.follows .mixedOrders=true) (hB:relB .any l.toArray n=true) (hsz:sizeB l.toArray n m=true) (ha:a.tmps.size=m) (hds:Q2m l.toArray n=ds)
 (hl:∀ j,Q2A (ps j)) (hop:Q2c P l.toArray n ps a w 0 (l.take n))
 (h:∀ (f:Nat->zC) w',zD w.heap.size w w'->(∀ j,j<n->∀ o d,l.toArray[j]?=some o->o.dst=some d->ps j w' (f d))->wpList P l.toArray Q (l.drop n) (Q0M a ds f) w'):(Code.region id l.toArray true).wp P Q a w:=by
 refine Q2x n m ps hm hB hsz ha hl hop fun a' w' hb hk hp=>?_
 rw [hk.puts (by rw [ha]; exact hsz),hds];exact h _ w' hb fun j hj o d ho hd=>(hp j hj).get d ho hd
theorem sG {ops:Array zG} {ps:Nat->zB->zC->Prop} {j:Nat} {w:zB} {a:Act} {A:Prop} (hd:A->Q2h ops ps j w a) (d:Nat) {o:zG} (hA:A:=by kernel_rfl) (ho:ops[j]?=some o:=by exact rfl) (hs:o.dst=some d:=by exact rfl) : ps j w (a.tmps[d]?.getD undef):=(hd hA).get d ho hs
theorem sJ {ops:Array zG} {ps:Nat->zB->zC->Prop} {j:Nat} {w:zB} {a:Act} {A:Prop} (hd:A->Q2h ops ps j w a) (d:Nat) {o:zG} {v:zC} (hA:A:=by kernel_rfl) (ho:ops[j]?=some o:=by exact rfl) (hs:o.dst=some d:=by exact rfl) (hp:(fun x=>ps j w x)=(fun x=>x=v):=by exact rfl):a.tmps[d]?.getD undef=v:=(congrFun hp _).mp ((hd hA).get d ho hs)
theorem sK {ops:Array zG} {n:Nat} {a0 a:Act} (h:Kept ops n a0 a) (d:Nat) {v:zC} (hd:Q42 ops n d=true:=by kernel_rfl) (hv:a0.eval (.tmp d)=v:=by exact rfl):a.tmps[d]?.getD undef=v:=h.get hd hv
theorem sV {P:zF} {ops:Array zG} {o:zG} {a:Act} {w:zB} {p:zB->zC->Prop} {v:zC} (hw:zH o (yielded ops a.tmps)=true:=by exact rfl) (hp:p w v:=by exact rfl) (he:(execOp a.eval o).run P w=.ok (.value v) w:=by go_simp):Q39 P ops o a w p:=Q3Q hw v he hp

def tn (b:List UInt8):Nat×List UInt8×Nat:=match Q1h b with
 | .error e=>(0,[],e)
 | .ok (n,r)=>(n,r,0)
theorem Q31 (n:Nat) (h:n<18446744073709551616):(BitVec.ofInt 64 (n:Int)).toNat=n:=by
 rw [BitVec.toNat_ofInt]
 simp
 omega
theorem or_byte (x y:Nat) (hx:x<281474976710656) (hy:y<256):bits .or .i64 ((x:Int)*256) (y:Int)=((x*256+y:Nat):Int):=by show IntKind.i64.wrap ((BitVec.ofInt 64 ((x:Int)*256) ||| BitVec.ofInt 64 (y:Int)).toNat:Int)=_;rw [show ((x:Int)*256)=((x*256:Nat):Int) by omega,BitVec.toNat_or,Q31 _ (by omega),Q31 _ (by omega)];have h:=Nat.two_pow_add_eq_or_of_lt (i:=8) (b:=y) (by omega) x;rw [show x*256=2 ^ 8*x by omega,<- h];rw [IntKind.wrap_i64];omega
theorem Q27 (A:Option zA) (n c:Nat) (xs:List UInt8) (w:zB) (B:Nat) (h:Q02 w B 1 A n (xs.map vb)) (hB:B<=w.heap.size) (hc:n<=c) (hcm:n<=140737488355328) :
 zI Try.prog 33 #[.slice A n c] w fun e w'=>∃ v,e=.returned (.tuple #[.int .i64 ((tn xs).1:Int),v,.int .i64 ((tn xs).2.2:Int)])/\OwnB w' w.heap.size v (tn xs).2.1/\zD w.heap.size w w':=by
 have hxn:xs.length=n:=by have:=h.1; simpa using this
 cases xs with
 | nil =>
  simp at hxn;subst hxn;go_enter Try.func33,Try.ntmps33
  go_wp2_with fail
  go_ret3
  exact⟨_,rfl,OwnB.nil _ _,zN _ _⟩
 | cons m r =>
  obtain⟨ad,hA,hadb,hcell⟩:=h.2 (by simp at hxn; omega);subst hA;obtain⟨k,hk⟩:∃ k,k=m.toNat:=⟨_,rfl⟩;have hk8:k<256:=by rw [hk]; exact m.toNat_lt
  have hwk:wrap64 (k:Int)=(k:Int):=by unfold wrap64; omega
  have c0:∀ q,(w.drewN q).cell? ad=some (.int .u8 (k:Int)):=fun q=>by
   have h0:w.cell? ad=some (vb m):=by have:=hcell 0 (vb m) rfl; simpa [Addr.add] using this
   rw [hk];exact h0
  have hrn:r.length=n - 1:=by simp at hxn; omega
  have hn1:1<=n:=by simp at hxn; omega
  have hsl:=fun W=>Q0N (P:=Try.prog) (t:=22) (e:=5) rfl rfl (some ad) n c 1 1 rfl (by omega) W
  have hrest:=h.cut (cap:=c) hn1 hc;rw [Nat.one_mul,List.map_cons,List.drop_one,List.tail_cons] at hrest;obtain⟨A1,hA1⟩:∃ A1,A1=(if c=1 then some ad else(some ad).map (·.add 1)):=⟨_,rfl⟩;rw [<- hA1] at hsl hrest;obtain⟨n1,hn1e⟩:∃ n1,n1=n - 1:=⟨_,rfl⟩;obtain⟨c1,hc1e⟩:∃ c1,c1=c - 1:=⟨_,rfl⟩;rw [<- hn1e] at hsl hrest hrn;rw [<- hc1e] at hsl;have hc1:n1<=c1:=by omega
  have hc1m:n1<=140737488355328:=by omega
  have HK:=sH hk;have HR:=sH hrest;have HRN:=sH hrn;have hn0:¬ (n:Int)=0:=by omega
  clear hA1 hn1e hc1e hcell hxn h hk hrest hrn;go_enter Try.func33,Try.ntmps33
  go_upto_region 3 with fail
  go_quiet (fail)
  have hb1:zD w.heap.size w (w.drewN nq):=Q0h (zN _ _) nq;have HR1:=sH (HR.out.drewN nq);have hs1:(w.drewN nq).heap.size=w.heap.size:=rfl;generalize w.drewN nq=w1 at hb1 HR1 hs1 ⊢;have HB1:=sH hb1;clear hb1 c0 hsl;by_cases h1:7<k
  ·have htn:tn (m :: r)=(0,[],4):=by unfold tn Q1h; simp only [<- HK.out]; rw [if_pos h1]
   have HT:=sH htn;clear htn;go_wp2_with fail
   go_ret3
   exact⟨_,by rw [HT.out]; rfl,by rw [HT.out]; exact OwnB.nil _ _,HB1.out⟩
  by_cases h2:n1<k
  ·have htn:tn (m :: r)=(0,[],3):=by unfold tn Q1h; simp only [<- HK.out]; rw [if_neg h1,if_pos (by have:=HRN.out; omega)]
   have HT:=sH htn;clear htn;go_wp2_with fail
   go_ret3
   exact⟨_,by rw [HT.out]; rfl,by rw [HT.out]; exact OwnB.nil _ _,HB1.out⟩
  by_cases h3:0<k/\r.head?=some 0
  ·have htn:tn (m :: r)=(0,[],4):=by unfold tn Q1h; simp only [<- HK.out]; rw [if_neg h1,if_neg (by have:=HRN.out; omega),if_pos h3]
   have HT:=sH htn;clear htn;obtain⟨h3a,h3b⟩:=h3;obtain⟨ad1,hA1,_,hcell1⟩:=HR1.out.2 (by omega);subst hA1;have c1:w1.cell? ad1=some (.int .u8 0):=by have:=hcell1 0 (vb 0) (by cases r with | nil=>simp at h3b | cons a t=>simp at h3b; subst h3b; rfl);simpa [Addr.add,vb,bi] using this
   clear hcell1;go_wp2_with fail
   go_ret3
   exact⟨_,by rw [HT.out]; rfl,by rw [HT.out]; exact OwnB.nil _ _,HB1.out⟩
  have hnx:(0<k)->∃ ad1 z,A1=some ad1/\w1.cell? ad1=some (.int .u8 z)/\z≠0:=fun h0=>by
   obtain⟨ad1,hA1,_,hcell1⟩:=HR1.out.2 (by omega);cases r with
   | nil=>have:=HRN.out; simp at this; omega
   | cons a t =>
    refine⟨ad1,bi a,hA1,by have h9:w1.cell? ad1=some (vb a):=(by have:=hcell1 0 (vb a) rfl; simpa [Addr.add] using this); exact h9,fun e=>h3 ⟨h0,?_⟩⟩
    simp
    exact bi_inj e
  go_upto_region 8 with fail
  go_cut [25] (fun s25 wx=>s25=.bool false/\wx=w1)
  case first =>
   by_cases h0:0<k
   ·obtain⟨ad1,z,hA1,hc1',hz⟩:=hnx h0;subst hA1;have hzz:(z == 0)=false:=by simp [hz]
    go_wp2_with fail
    go_meet
    exact⟨rfl,rfl⟩
   have h0':k=0:=by omega
   subst h0';go_wp2_with fail
   go_meet
   exact⟨rfl,rfl⟩
  obtain⟨rfl,rfl⟩:=hcut;have hsl2:=fun W=>Q1K (P:=Try.prog) (t:=22) (e:=5) rfl rfl A1 n1 c1 k (k:Int) rfl (by omega) W
  have hsl3:=fun W=>Q0N (P:=Try.prog) (t:=22) (e:=5) rfl rfl A1 n1 c1 k (k:Int) rfl (by omega) W
  have hr2:=HR1.out.to (cap:=c1) (show k<=n1 by omega) hc1;have hr3:=HR1.out.cut (cap:=c1) (show k<=n1 by omega) hc1;obtain⟨A2,hA2⟩:∃ A2,A2=(if c1=0 then A1 else A1.map (·.add 0)):=⟨_,rfl⟩;obtain⟨A3,hA3⟩:∃ A3,A3=(if c1=k then A1 else A1.map (·.add k)):=⟨_,rfl⟩;rw [Nat.mul_one,<- hA3] at hr3;rw [<- hA2] at hsl2 hr2;rw [<- hA3] at hsl3;rw [<- List.map_take] at hr2;rw [<- List.map_drop] at hr3;have HR2:=sH hr2;have HR3:=sH hr3;clear hA2 hA3 hr2 hr3;go_wp2_with fail
  go_loopw [2,38] (fun av iv wr=>∃ i:Nat,i<=k/\iv=.int .i64 i/\av=.int .i64 ((valB (r.take i):Nat):Int)/\wc=wr) (fun _ iv _=>k - (intOf iv).toNat)
  case atStart=>exact⟨0,by omega,rfl,rfl,rfl⟩
  obtain⟨i,hi,rfl,rfl,rfl⟩:=hrel;have hil:i<k->i<r.length:=fun h=>by have:=HRN.out; omega
  by_cases hik:i<k
  ·obtain⟨ad2,u,hA2,_,hu,hc2⟩:=HR2.out.at_ hik;subst hA2;have hu':u=vb (r[i]'(hil hik)):=by
    rw [zJ,List.getElem?_take,if_pos hik,List.getElem?_eq_getElem (hil hik)] at hu;injection hu with hu
    exact hu.symm
   subst hu';have hv:valB (r.take (i+1))=valB (r.take i)*256+(r[i]'(hil hik)).toNat:=by rw [List.take_succ_eq_append_getElem (hil hik),Q15]
   have hvl:=Q3h i (r.take i) (by rw [List.length_take]; have:=HRN.out; omega);have hvl6:valB (r.take i)<256 ^ 6:=Nat.lt_of_lt_of_le hvl (Nat.pow_le_pow_right (by omega) (by omega));have h256:=(r[i]'(hil hik)).toNat_lt;have hc2':wc.cell? (ad2.add i)=some (.int .u8 (((r[i]'(hil hik)).toNat:Nat):Int)):=hc2;generalize (r[i]'(hil hik)).toNat=y at hv h256 hc2';obtain⟨x,hx⟩:∃ x,x=valB (r.take i):=⟨_,rfl⟩;rw [<- hx] at hv hvl6 ⊢;have HV:=sH hv;have HX:=sH hx;have hx6:x<281474976710656:=hvl6;clear hvl hvl6 hv hx hc2 hu;have hor:=or_byte x y hx6 h256;rw [<- HV.out] at hor;have hor':=hor;go_wp2_with fail
   go_roundw
   case rel=>exact⟨i+1,by omega,by go_num,hor'▸rfl,trivial⟩
   case measure=>simp [intOf]; omega
  obtain rfl:i=k:=by omega
  clear hsl2;have htk:tn (m :: r)=if maxN<valB (r.take i) then(0,[],9) else(valB (r.take i),r.drop i,0):=by
   unfold tn Q1h;simp only [<- HK.out];rw [if_neg h1,if_neg (by have:=HRN.out; omega),if_neg h3];by_cases hq:maxN<valB (r.take i)
   ·rw [if_pos hq,if_pos hq]
   rw [if_neg hq,if_neg hq]
  have hvl:=Q3h i (r.take i) (by rw [List.length_take]; have:=HRN.out; omega);have hx6:valB (r.take i)<72057594037927936:=Nat.lt_of_lt_of_le hvl (Nat.pow_le_pow_right (show 256 > 0 by omega) (show i<=7 by omega));clear hvl;generalize valB (r.take i)=x at htk hx6;by_cases hx9:maxN<x
  ·rw [if_pos hx9] at htk;have HT:=sH htk;clear htk;unfold maxN at hx9;go_wp2_with fail
   go_ret3
   exact⟨_,by rw [HT.out]; rfl,by rw [HT.out]; exact OwnB.nil _ _,HB1.out⟩
  rw [if_neg hx9] at htk;have HT:=sH htk;clear htk;unfold maxN at hx9;go_wp2_with fail
  refine(Q1V A3 (n1 - i) (c1 - i) (r.drop i) wc B HR3.out (by omega) (by omega)).mono ?_;rintro _ w5 ⟨v,rfl,hov,hb5⟩;have HO5:=sH hov;have HB5:=sH (HB1.out.trans (hb5.mono (by omega)));clear hov hb5;go_wp2_with fail
  go_ret3
  refine⟨v,by rw [HT.out]; rfl,?_,HB5.out⟩;rw [HT.out];exact HO5.out.more (by omega)
theorem Q12 (B:Nat) (xs:List UInt8):Q2A fun w v=>OwnB w B v xs:=fun _ _ _ h hb=>h.below hb
theorem Q3b (A:Option zA) (n c k:Nat) (xs:List UInt8) (w:zB) (B:Nat) (h:Q02 w B 1 A n (xs.map vb)) (hB:B<=w.heap.size) (hc:n<=c) (hcm:n<=140737488355328) (hk:k<=140737488355328) :
 zI Try.prog 42 #[.slice A n c,.int .i64 (k:Int)] w fun e w'=>∃ v v',e=.returned (.tuple #[v,v',.int .i64 (if n<k then 3 else 0)])/\OwnB w' w.heap.size v (if n<k then [] else xs.take k)/\OwnB w' w.heap.size v' (if n<k then [] else xs.drop k)/\zD w.heap.size w w':=by
 have hxn:xs.length=n:=by have:=h.1; simpa using this
 have HXN:=sH hxn;have H:=sH h;clear hxn h;by_cases hkn:n<k
 ·rw [if_pos hkn,if_pos hkn,if_pos hkn];go_enter Try.func42,Try.ntmps42
  go_wp2_with fail
  go_ret3
  exact⟨_,_,rfl,OwnB.nil _ _,OwnB.nil _ _,zN _ _⟩
 rw [if_neg hkn,if_neg hkn,if_neg hkn];have hsl2:=fun W=>Q1K (P:=Try.prog) (t:=22) (e:=5) rfl rfl A n c k (k:Int) rfl (by omega) W
 have hsl3:=fun W=>Q0N (P:=Try.prog) (t:=22) (e:=5) rfl rfl A n c k (k:Int) rfl (by omega) W
 have hr2:=H.out.to (cap:=c) (show k<=n by omega) hc;have hr3:=H.out.cut (cap:=c) (show k<=n by omega) hc;obtain⟨A2,hA2⟩:∃ A2,A2=(if c=0 then A else A.map (·.add 0)):=⟨_,rfl⟩;obtain⟨A3,hA3⟩:∃ A3,A3=(if c=k then A else A.map (·.add k)):=⟨_,rfl⟩;rw [Nat.mul_one,<- hA3] at hr3;rw [<- hA2] at hsl2 hr2;rw [<- hA3] at hsl3;rw [<- List.map_take] at hr2;rw [<- List.map_drop] at hr3;have HC2:=sH (fun W (hb:zD w.heap.size w W)=>Q1V A2 k c (xs.take k) W B (hr2.below (hb.mono hB)) (by have:=hb.size; omega) (by omega));have HC3:=sH (fun W (hb:zD w.heap.size w W)=>Q1V A3 (n - k) (c - k) (xs.drop k) W B (hr3.below (hb.mono hB)) (by have:=hb.size; omega) (by omega));clear hA2 hA3 hr2 hr3;go_enter Try.func42,Try.ntmps42
 go_upto_region 5 with fail
 refine Q1c 8 23 (fun j W v=>match j with
  | 0 | 4=>v=.slice A n c
  | 1 | 5=>v=.int .i64 (k:Int)
  | 2=>v=.slice A2 k c
  | 3=>OwnB W w.heap.size v (xs.take k)
  | 6=>v=.slice A3 (n - k) (c - k)
  | _=>OwnB W w.heap.size v (xs.drop k)) [15,16,17,18,19,20,21,22] (by kernel_rfl) (by kernel_rfl) (by kernel_rfl) (by simp) (by kernel_rfl) (fun j=>?last) ?heads ?_
 case last =>
  match j with
  | 0 | 1 | 2 | 4 | 5 | 6=>exact Q2A.pure _
  | 3=>exact Q12 _ _
  | j+7=>exact Q12 _ _
 case heads =>
  simp only [tT];refine⟨?_,?_,?_,?_,?_,?_,?_,?_,trivial⟩;all_goals intro a W hb hkp hd
  ·have e0:(_:zC)=.slice A n c:=sK hkp 0;exact sV
  ·have e0:(_:zC)=.int .i64 (k:Int):=sK hkp 1;exact sV
  ·have e0:=sJ (hd 0) 15;have e1:=sJ (hd 1) 16;exact sV
  ·have e0:=sJ (hd 2) 17;refine Q1s rfl 41 #[.slice A2 k c] (by go_simp) ((HC2.out W hb).mono ?_);rintro e w' ⟨v,rfl,ho,hb'⟩;exact⟨v,rfl,hb',ho.more hb.size⟩
  ·have e0:(_:zC)=.slice A n c:=sK hkp 0;exact sV
  ·have e0:(_:zC)=.int .i64 (k:Int):=sK hkp 1;exact sV
  ·have e0:=sJ (hd 4) 19;have e1:=sJ (hd 5) 20;exact sV
  have e0:=sJ (hd 6) 21;refine Q1s rfl 41 #[.slice A3 (n - k) (c - k)] (by go_simp) ((HC3.out W hb).mono ?_);rintro e w' ⟨v,rfl,ho,hb'⟩;exact⟨v,rfl,hb',ho.more hb.size⟩
 intro f W hb hd;have h3:OwnB W w.heap.size (f 18) (xs.take k):=hd 3 (by omega) _ 18 rfl rfl;have h7:OwnB W w.heap.size (f 22) (xs.drop k):=hd 7 (by omega) _ 22 rfl rfl;have H3:=sH h3;have H7:=sH h7;have HB:=sH hb;clear h3 h7 hd hb;simp only [Q0M,tU];try simp only [Act.put,sA]
 go_wp2_with fail
 go_ret3
 exact⟨_,_,rfl,H3.out,H7.out,HB.out⟩
def ts (b:List UInt8) (most:Nat):List UInt8×List UInt8×Nat:=match takeS b most with
 | .error e=>([],[],e)
 | .ok (s,r)=>(s,r,0)
theorem ts_eq (b:List UInt8) (most:Nat):ts b most=if (tn b).2.2≠0 then([],[],(tn b).2.2) else if min most 65536<(tn b).1 then([],[],5) else if (tn b).2.1.length<(tn b).1 then([],[],3) else((tn b).2.1.take (tn b).1,(tn b).2.1.drop (tn b).1,0):=by
 unfold ts takeS tn;cases hb:Q1h b with
 | error e =>
  have he:e≠0:=by
   unfold Q1h at hb;match b,hb with
   | [],hb=>injection hb with hb; omega
   | m :: r,hb =>
    simp only at hb;split at hb
    ·injection hb with hb; omega
    split at hb
    ·injection hb with hb; omega
    split at hb
    ·injection hb with hb; omega
    split at hb
    ·injection hb with hb; omega
    cases hb
  simp [he]
 | ok p =>
  obtain⟨n,r⟩:=p;simp only [ne_eq,not_true_eq_false,if_false];unfold takeF;by_cases h1:min most 65536<n
  ·rw [if_pos h1,if_pos h1]
  rw [if_neg h1,if_neg h1];by_cases h2:r.length<n
  ·rw [if_pos h2,if_pos h2]
  rw [if_neg h2,if_neg h2]
theorem Q3Y (b:List UInt8):(tn b).2.1.length<=b.length:=by
 unfold tn;cases hb:Q1h b with
 | error e=>simp
 | ok p =>have:=(Q2v hb).1;have h:=congrArg List.length this;rw [zM] at h;show p.2.length<=_;omega
theorem tn_num (b:List UInt8):(tn b).1<=maxN:=by
 unfold tn;cases hb:Q1h b with
 | error e=>simp
 | ok p=>exact(Q2v (r:=p.2) (n:=p.1) hb).2
theorem Q3I (b:List UInt8):(tn b).2.2<10:=by
 unfold tn Q1h;match b with
 | []=>simp
 | m :: r =>
  simp only;by_cases h1:7<m.toNat
  ·rw [if_pos h1]; simp
  rw [if_neg h1];by_cases h2:r.length<m.toNat
  ·rw [if_pos h2]; simp
  rw [if_neg h2];by_cases h3:0<m.toNat/\r.head?=some 0
  ·rw [if_pos h3]; simp
  rw [if_neg h3];by_cases h4:maxN<valB (r.take m.toNat)
  ·rw [if_pos h4]; simp
  rw [if_neg h4]; simp
theorem Q3a (A:Option zA) (n c most:Nat) (xs:List UInt8) (w:zB) (B:Nat) (h:Q02 w B 1 A n (xs.map vb)) (hB:B<=w.heap.size) (hc:n<=c) (hcm:n<=140737488355328) (hm:most<=65536) :
 zI Try.prog 34 #[.slice A n c,.int .i64 (most:Int)] w fun e w'=>∃ v v',e=.returned (.tuple #[v,v',.int .i64 ((ts xs most).2.2:Int)])/\OwnB w' w.heap.size v (ts xs most).1/\OwnB w' w.heap.size v' (ts xs most).2.1/\zD w.heap.size w w':=by
 have hxn:xs.length=n:=by have:=h.1; simpa using this
 have HTN:=sH (Q27 A n c xs w B h hB hc hcm);have hts:=ts_eq xs most;have htl:=Q3Y xs;have htm:=tn_num xs;have hte:=Q3I xs;obtain⟨p,hp⟩:∃ p,p=tn xs:=⟨_,rfl⟩;rw [<- hp] at HTN hts htl htm hte;obtain⟨k,r,e⟩:=p;simp only at HTN hts htl htm hte;have HTS:=sH hts;have HTL:=sH htl;unfold maxN at htm;rw [hxn] at htl;have HXN:=sH hxn;clear h hts hp hxn;go_enter Try.func34,Try.ntmps34
 go_wp2_with fail
 refine HTN.out.mono ?_;rintro _ w2 ⟨v,rfl,hov,hb2⟩;have HO2:=sH hov;have HB2:=sH hb2;have hs2:=hb2.size;clear hov hb2;by_cases he:e=0
 ·subst he;obtain⟨Av,cv,rfl,hvc,hvm,hvr,hvB⟩:=Q05 HO2.out;by_cases h5:min most 65536<k
  ·have hq:ts xs most=([],[],5):=by rw [HTS.out,if_neg (by omega),if_pos h5]
   have HQ:=sH hq;clear hq hvr;have hmk:most<k:=by omega
   have hmin:min (most:Int) 65536=(most:Int):=by omega
   go_wp2_with fail
   go_ret3
   exact⟨_,_,by rw [HQ.out]; rfl,by rw [HQ.out]; exact OwnB.nil _ _,by rw [HQ.out]; exact OwnB.nil _ _,HB2.out⟩
  have hmk:¬ most<k:=by omega
  have hmin:min (most:Int) 65536=(most:Int):=by omega
  have hq:ts xs most=if r.length<k then([],[],3) else(r.take k,r.drop k,0):=by rw [HTS.out,if_neg (by omega),if_neg h5]
  have HQ:=sH hq;have HVR:=sH hvr;clear hq hvr;obtain⟨rl,hrl⟩:∃ rl,rl=r.length:=⟨_,rfl⟩;rw [<- hrl] at HVR hvc htl HQ ⊢;have HRL:=sH hrl;clear hrl;go_wp2_with fail
  refine(Q3b Av rl cv k r w2 _ HVR.out (zL _) hvc (by omega) (by omega)).mono ?_;rintro _ w3 ⟨v,v',rfl,ho,ho',hb3⟩;have HO3:=sH (ho.more (B':=w.heap.size) hs2);have HO4:=sH (ho'.more (B':=w.heap.size) hs2);have HB3:=sH (HB2.out.trans (hb3.mono hs2));clear ho ho' hb3;by_cases h6:rl<k
  ·rw [if_pos h6] at HQ;rw [if_pos h6] at HO3 HO4 ⊢;go_wp2_with fail
   go_ret3
   exact⟨_,_,by rw [HQ.out]; rfl,by rw [HQ.out]; exact HO3.out,by rw [HQ.out]; exact HO4.out,HB3.out⟩
  rw [if_neg h6] at HQ;rw [if_neg h6] at HO3 HO4 ⊢;go_wp2_with fail
  go_ret3
  exact⟨_,_,by rw [HQ.out]; rfl,by rw [HQ.out]; exact HO3.out,by rw [HQ.out]; exact HO4.out,HB3.out⟩
 have hq:ts xs most=([],[],e):=by rw [HTS.out,if_pos he]
 have HQ:=sH hq;clear hq;have he':¬ (e:Int)=0:=by omega
 go_wp2_with fail
 go_ret3
 exact⟨_,_,by rw [HQ.out]; rfl,by rw [HQ.out]; exact OwnB.nil _ _,by rw [HQ.out]; exact OwnB.nil _ _,HB2.out⟩
end
section
open Go.RowKit
attribute [local irreducible] wpList
structure Wish where
 client:Int
 stamp:Int
 group:Int
 epoch:Int
 kind:Int
 block:Int
 data:List UInt8
 old:Int
 new:Int
 next:List Int
def Q00 (x:Wish) (A:Option zA) (n c:Nat) (A':Option zA) (n' c':Nat):Array zC :=#[.int .i64 x.client,.int .i64 x.stamp,.int .i64 x.group,.int .i64 x.epoch,.int .i64 x.kind,.int .i64 x.block,.slice A n c,.int .i64 x.old,.int .i64 x.new,.slice A' n' c']
def I64 (z:Int):Prop:=-9223372036854775808<=z/\z<=9223372036854775807
structure Q0c (w:zB) (B:Nat) (x:Wish) (A:Option zA) (n c:Nat) (A':Option zA) (n' c':Nat):Prop where
 data:Q02 w B 1 A n (x.data.map vb)
 dc:n<=c
 dm:n<=140737488355328
 next:Q02 w B 1 A' n' (x.next.map vn)
 nc:n'<=c'
 nm:n'<=17592186044416
 rng:I64 x.client/\I64 x.stamp/\I64 x.group/\I64 x.epoch/\I64 x.kind/\I64 x.block/\I64 x.old/\I64 x.new/\∀ z,z∈x.next->I64 z
theorem Q0c.below {w w':zB} {B:Nat} {x:Wish} {A:Option zA} {n c:Nat} {A':Option zA} {n' c':Nat} (h:Q0c w B x A n c A' n' c') (hb:zD B w w'):Q0c w' B x A n c A' n' c' :=⟨h.data.below hb,h.dc,h.dm,h.next.below hb,h.nc,h.nm,h.rng⟩
theorem Q0c.more {w:zB} {B B':Nat} {x:Wish} {A:Option zA} {n c:Nat} {A':Option zA} {n' c':Nat} (h:Q0c w B x A n c A' n' c') (hB:B<=B'):Q0c w B' x A n c A' n' c' :=⟨h.data.more hB,h.dc,h.dm,h.next.more hB,h.nc,h.nm,h.rng⟩
theorem Q0c.dlen {w:zB} {B:Nat} {x:Wish} {A:Option zA} {n c:Nat} {A':Option zA} {n' c':Nat} (h:Q0c w B x A n c A' n' c'):x.data.length=n:=by have:=h.data.1; simpa using this
theorem Q0c.nlen {w:zB} {B:Nat} {x:Wish} {A:Option zA} {n c:Nat} {A':Option zA} {n' c':Nat} (h:Q0c w B x A n c A' n' c'):x.next.length=n':=by have:=h.next.1; simpa using this
def Q1l:Int->List Int->Bool
 | _,[]=>true
 | last,n :: t=>decide (last<n/\n<=28) && Q1l n t
def Q1O (l:List Int):Bool:=decide (l.length % 3=1/\l.length<=7) && Q1l 0 l
def MayP (x:Wish):Prop:=0<=x.epoch/\x.epoch<=1048576/\(
 (x.kind=5/\x.client=0/\x.stamp=0/\x.block=0/\x.data.length=0/\x.old=0/\x.new=0/\1<=x.group/\x.group<=2/\Q1O x.next=true) \/
 (x.kind≠5/\31<=x.client/\x.client<=34/\1<=x.stamp/\x.stamp<=9007199254740991/\x.next.length=0/\(
  ((x.kind=1/\x.data.length=0\/x.kind=2/\x.data.length=16)/\1<=x.group/\x.group<=2/\0<=x.block/\x.block<=7/\x.old=0/\x.new=0) \/
  ((x.kind=3/\x.old=0/\x.new=0\/x.kind=4/\1<=x.old/\x.old<=28/\1<=x.new/\x.new<=28/\x.old≠x.new)/\x.group=0/\x.epoch=0/\1<=x.block/\x.block<=2/\x.data.length=0))))
instance (x:Wish):Decidable (MayP x):=by unfold MayP; infer_instance
def mayB (x:Wish):Bool:=decide (MayP x)
theorem Q3H (n l m:Int) (w:zB):zI Try.prog 31 #[.int .i64 n,.int .i64 l,.int .i64 m] w fun e w'=>e=.returned (.bool (decide (l<=n/\n<=m)))/\w=w':=by
 by_cases h:l<=n
 ·go_enter Try.func31,Try.ntmps31
  go_wp2
  go_ret
  exact⟨Q0n (by simp [h]),rfl⟩
 have h':¬ (l<=n/\n<=m):=fun hh=>h hh.1
 rw [decide_eq_false h'];clear h';go_enter Try.func31,Try.ntmps31
 go_wp2
 go_ret
 exact⟨rfl,rfl⟩
theorem crew_any (A:Option zA) (n c:Nat) (zs:List Int) (w:zB) (B:Nat) (h:Q02 w B 1 A n (zs.map vn)) (hn:n<=17592186044416) :
 zI Try.prog 32 #[.slice A n c] w fun e w'=>e=.returned (.bool (Q1O zs))/\w=w':=by
 have hzn:zs.length=n:=by have:=h.1; simpa using this
 have H:=sH h;have HZN:=sH hzn;clear h hzn;by_cases h1:n % 3=1
 ·by_cases h2:n<=7
  ·have HR:=sH (show Q1O zs=Q1l 0 zs by unfold Q1O; rw [decide_eq_true (by rw [HZN.out]; exact⟨h1,h2⟩),Bool.true_and]);go_enter Try.func32,Try.ntmps32
   go_wp2_with fail
   go_loopw [3,17] (fun lv iv wr=>∃ (i:Nat) (last:Int),i<=n/\lv=.int .i64 last/\iv=.int .i64 i/\w=wr/\Q1O zs=Q1l last (zs.drop i)) (fun _ iv _=>n - (intOf iv).toNat)
   case atStart=>exact⟨0,0,by omega,rfl,rfl,rfl,HR.out⟩
   obtain⟨i,last,hi,rfl,rfl,rfl,hr⟩:=hrel;by_cases hin:i<n
   ·obtain⟨ad,u,hA,hadb,hxi,hcell⟩:=H.out.at_ hin;subst hA;have hil:i<zs.length:=by have:=HZN.out; omega
    have hu:u=.int .i64 zs[i]:=by
     rw [zJ,List.getElem?_eq_getElem hil] at hxi;injection hxi with hxi
     exact hxi.symm
    subst hu;rw [List.drop_eq_getElem_cons hil] at hr;generalize zs[i]=z at hr hcell;simp only [Q1l] at hr;clear hxi;by_cases hz:last<z/\z<=28
    ·rw [decide_eq_true hz,Bool.true_and] at hr;have HRR:=sH hr;clear hr;obtain⟨hz1,hz2⟩:=hz;have hz3:¬ z<=last:=by omega
     go_wp2_with fail
     go_roundw
     case rel=>exact⟨i+1,z,by omega,rfl,by go_num,trivial,HRR.out⟩
     case measure=>simp [intOf]; omega
    rw [decide_eq_false hz,Bool.false_and] at hr;have HRR:=sH hr;clear hr;by_cases hz1:z<=last
    ·go_wp2_with fail
     go_ret
     exact⟨by rw [HRR.out]; rfl,rfl⟩
    have hz2:28<z:=by omega
    go_wp2_with fail
    go_ret
    exact⟨by rw [HRR.out]; rfl,rfl⟩
   obtain rfl:i=n:=by omega
   rw [List.drop_of_length_le (by have:=HZN.out; omega)] at hr;have HRR:=sH hr;clear hr;go_wp2_with fail
   go_ret
   exact⟨by rw [HRR.out]; rfl,rfl⟩
  have HR:=sH (show Q1O zs=false by unfold Q1O; rw [decide_eq_false (by rw [HZN.out]; exact fun h=>h2 h.2),Bool.false_and]);go_enter Try.func32,Try.ntmps32
  go_wp2_with fail
  go_ret
  exact⟨by rw [HR.out]; rfl,rfl⟩
 have HR:=sH (show Q1O zs=false by unfold Q1O; rw [decide_eq_false (by rw [HZN.out]; exact fun h=>h1 h.1),Bool.false_and]);go_enter Try.func32,Try.ntmps32
 go_wp2_with fail
 go_ret
 exact⟨by rw [HR.out]; rfl,rfl⟩
theorem may_any (x:Wish) (A:Option zA) (n c:Nat) (A':Option zA) (n' c':Nat) (w:zB) (B:Nat) (h:Q0c w B x A n c A' n' c') (hB:B<=w.heap.size) :
 zI Try.prog 15 #[.agg (Q00 x A n c A' n' c')] w fun e w'=>e=.returned (.bool (mayB x))/\zD w.heap.size w w':=by
 have hdl:=h.dlen;have hnl:=h.nlen;have HCR:=sH (fun W (hb:zD w.heap.size w W)=>crew_any A' n' c' x.next W B (h.next.below (hb.mono hB)) h.nm);obtain⟨client,stamp,group,epoch,kind,block,data,old,new,next⟩:=x;simp only at hdl hnl HCR;obtain⟨cr,hcr⟩:∃ cr,cr=Q1O next:=⟨_,rfl⟩;have HMB:=sH (show mayB ⟨client,stamp,group,epoch,kind,block,data,old,new,next⟩=decide (0<=epoch/\epoch<=1048576/\(
 (kind=5/\client=0/\stamp=0/\block=0/\n=0/\old=0/\new=0/\1<=group/\group<=2/\cr=true) \/
 (kind≠5/\31<=client/\client<=34/\1<=stamp/\stamp<=9007199254740991/\n'=0/\(
  ((kind=1/\n=0\/kind=2/\n=16)/\1<=group/\group<=2/\0<=block/\block<=7/\old=0/\new=0) \/
  ((kind=3/\old=0/\new=0\/kind=4/\1<=old/\old<=28/\1<=new/\new<=28/\old≠new)/\group=0/\epoch=0/\1<=block/\block<=2/\n=0))))) by
  unfold mayB MayP; simp only [hdl,hnl,<- hcr])
 rw [<- hcr] at HCR;clear hdl hnl hcr h;unfold Q00;simp only;go_enter Try.func15,Try.ntmps15
 go_wp2_with fail
 have hk:=Blk.new w 25 #[.int .i64 client,.int .i64 stamp,.int .i64 group,.int .i64 epoch,.int .i64 kind,.int .i64 block,.slice A n c,.int .i64 old,.int .i64 new,.slice A' n' c'];have hb:zD w.heap.size w (w.alloc (.cells #[.int .i64 client,.int .i64 stamp,.int .i64 group,.int .i64 epoch,.int .i64 kind,.int .i64 block,.slice A n c,.int .i64 old,.int .i64 new,.slice A' n' c'] 25)):=(zN _ _).alloc (zL _) _;generalize w.alloc _=w1 at hk hb ⊢;have c0:=hk.cell 0;have c1:=hk.cell 1;have c2:=hk.cell 2;have c3:=hk.cell 3;have c4:=hk.cell 4;have c5:=hk.cell 5;have c6:=hk.cell 6;have c7:=hk.cell 7;have c8:=hk.cell 8;have c9:=hk.cell 9;simp only [List.getElem?_toArray,List.getElem?_cons_zero,List.getElem?_cons_succ] at c0 c1 c2 c3 c4 c5 c6 c7 c8 c9;have HB:=sH hb;have hcr:=HCR.out w1 hb;have HCW:=sH hcr;clear hk hb hcr;obtain⟨g,hg⟩:∃ g,g=w.heap.size:=⟨_,rfl⟩;rw [<- hg] at c0 c1 c2 c3 c4 c5 c6 c7 c8 c9 ⊢;clear hg;go_wp2_with (first
  | (go_at_call 31; refine(Q3H _ _ _ _).mono ?_; rintro _ _ ⟨rfl,rfl⟩)
  | (go_at_call 32; refine HCW.out.mono ?_; rintro _ _ ⟨rfl,rfl⟩))
 all_goals go_ret
 all_goals refine⟨?_,HB.out⟩
 all_goals rw [HMB.out]
 all_goals refine Q0n ?_
 all_goals rw [Bool.eq_iff_iff]
 all_goals clear HCR HCW HMB HB c0 c1 c2 c3 c4 c5 c6 c7 c8 c9
 all_goals cases cr
 all_goals simp at *
 all_goals (try omega)
end
section
open Go.RowKit
def Q0m (l:List Int):List UInt8:=l.flatMap fun z=>numB z.toNat
def Q0s (x:Wish):List UInt8:=Q0m [x.kind,x.client,x.stamp,x.group,x.epoch,x.block]++strB x.data++Q0m [x.old,x.new,(x.next.length:Int)]++Q0m x.next
def NumI (z:Int):Prop:=0<=z/\z<=9007199254740991
theorem Q2k:∀ (l:List Int) (a:Int),0<=a->Q1l a l=true->∀ z,z∈l->1<=z/\z<=28
 | [],_,_,_,z,hz=>by cases hz
 | n :: t,a,ha,h,z,hz=>by
  simp only [Q1l,Bool.and_eq_true,decide_eq_true_eq] at h;rcases List.mem_cons.1 hz with rfl | hz
  ·exact⟨by omega,h.1.2⟩
  exact Q2k t n (by omega) h.2 z hz
theorem Q2F {x:Wish} (h:mayB x=true):(∀ z,z∈[x.kind,x.client,x.stamp,x.group,x.epoch,x.block]->NumI z)/\(∀ z,z∈[x.old,x.new,(x.next.length:Int)]->NumI z)/\(∀ z,z∈x.next->NumI z)/\x.data.length<=16/\x.next.length<=7:=by
 have hm:MayP x:=of_decide_eq_true h;unfold MayP at hm;have hc:Q1O x.next=true->(∀ z,z∈x.next->NumI z)/\x.next.length<=7:=fun hc=>by unfold Q1O at hc;rw [Bool.and_eq_true,decide_eq_true_eq] at hc;exact⟨fun z hz=>by have:=Q2k _ 0 (by omega) hc.2 z hz; unfold NumI; omega,hc.1.2⟩
 have hn:x.next.length=0->(∀ z,z∈x.next->NumI z):=fun h0 z hz=>by rw [List.eq_nil_of_length_eq_zero h0] at hz; cases hz
 have h3:(∀ z,z∈x.next->NumI z)/\x.next.length<=7:=by
  rcases hm.2.2 with h1 | h1
  ·exact hc h1.2.2.2.2.2.2.2.2.2
  exact⟨hn h1.2.2.2.2.2.1,by omega⟩
 refine⟨?_,?_,h3.1,by omega,h3.2⟩
 ·intro z hz;unfold NumI;simp only [List.mem_cons,List.not_mem_nil,or_false] at hz;omega
 intro z hz;unfold NumI;have:=h3.2;simp only [List.mem_cons,List.not_mem_nil,or_false] at hz;omega
theorem Q1v (A:Option zA) (n c:Nat) (zs:List Int) (w:zB) (B:Nat) (h:Q02 w B 1 A n (zs.map vn)) (hB:B<=w.heap.size) (hn:n<=1000000) (hm:∀ z,z∈zs->NumI z) :
 zI Try.prog 22 #[.slice A n c] w fun e w'=>∃ v,e=.returned v/\OwnB w' w.heap.size v (Q0m zs)/\zD w.heap.size w w':=by
 have e:zs.map vn=(zs.map Int.toNat).map fun x:Nat=>Value.int .i64 (x:Int):=by
  rw [List.map_map];apply List.map_congr_left
  intro z hz;have:=hm z hz;unfold NumI at this;simp [vn];omega
 rw [e] at h;have e2:Q0m zs=(zs.map Int.toNat).flatMap numB:=by unfold Q0m; rw [List.flatMap_map]
 rw [e2];exact nums_any A n c _ w B h hB hn (fun x hx=>by obtain⟨z,hz,rfl⟩:=List.mem_map.1 hx;have:=hm z hz;unfold NumI at this;unfold maxN;omega)
theorem Q0P {l:List Int} (h:∀ z,z∈l->NumI z):(Q0m l).length<=8*l.length:=by
 unfold Q0m
 induction l with
 | nil=>simp
 | cons a t ih =>have h1:=h a (by simp);unfold NumI at h1;have h2:=(Q0E (n:=a.toNat) (by unfold maxN; omega)).2;have h3:=ih (fun z hz=>h z (by simp [hz]));rw [List.flatMap_cons,zM,List.length_cons];omega
theorem Q04 (w:zB) (vs:Array zC) (t:TypeId):Q02 (w.alloc (.cells vs t)) (w.heap.size+1) 1 (some ⟨w.heap.size,0,none⟩) vs.size vs.toList:=by
 refine⟨by simp,fun _=>⟨_,rfl,Nat.lt_succ_self _,fun j u hu=>?_⟩⟩;have hk:Blk (w.alloc (.cells vs t)) w.heap.size t vs:=Blk.newAt rfl;have:=hk.cell j;rw [Array.getElem?_toList] at hu;rw [hu] at this;unfold Addr.add;split
 ·rename_i h0; subst h0; exact this
 simpa using this
theorem Q2Z (m:Nat) (l:List zC):Q2A fun W v=>∃ g',v=.slice (some ⟨g',0,none⟩) m m/\Q02 W W.heap.size 1 (some ⟨g',0,none⟩) m l:=fun W W' v ⟨g',e,h⟩ hb=>⟨g',e,(h.below hb).more hb.size⟩
theorem Q3K (w:zB) (t:TypeId) (l:List (Option zA×Nat×Nat×List UInt8)) (h:∀ p,p∈l->Q02 w w.heap.size 1 p.1 p.2.1 (p.2.2.2.map vb)) :
 RowsB (w.alloc (.cells (l.map fun p=>Value.slice p.1 p.2.1 p.2.2.1).toArray t)) (w.heap.size+1) (some ⟨w.heap.size,0,none⟩) l.length (l.map (·.2.2.2)):=by
 have hb:zD w.heap.size w (w.alloc (.cells (l.map fun p=>Value.slice p.1 p.2.1 p.2.2.1).toArray t)):=(zN _ _).alloc (zL _) _;have hr:=Q04 w (l.map fun p=>Value.slice p.1 p.2.1 p.2.2.1).toArray t;refine⟨by simp,fun h0=>⟨_,rfl,Nat.lt_succ_self _,fun k x hx=>?_⟩⟩;obtain⟨ad,hA,_,hc⟩:=hr.2 (by simpa using h0);injection hA with hA
 subst hA;rw [zJ] at hx;cases hp:l[k]? with
 | none=>rw [hp] at hx; cases hx
 | some p =>
  rw [hp] at hx;injection hx with hx
  refine⟨p.1,p.2.1,p.2.2.1,hc k _ (by simp [hp]),?_⟩;rw [<- hx];exact((h p (List.mem_of_getElem? hp)).below hb).more (by omega)
theorem Q0Q (x:Wish) (A:Option zA) (n c:Nat) (A':Option zA) (n' c':Nat) (w:zB) (B:Nat) (h:Q0c w B x A n c A' n' c') (hB:B<=w.heap.size) :
 zI Try.prog 6 #[.agg (Q00 x A n c A' n' c')] w fun e w'=>e=.returned (.int .i64 (if mayB x=true then 0 else 2))/\zD w.heap.size w w':=by
 have HM:=sH (fun W (hb:zD w.heap.size w W)=>may_any x A n c A' n' c' W B (h.below (hb.mono hB)) (by have:=hb.size; omega));clear h;obtain⟨mb,hmb⟩:∃ b,b=mayB x:=⟨_,rfl⟩;rw [<- hmb] at HM ⊢;clear hmb;unfold Q00 at HM ⊢;go_enter Try.func6,Try.ntmps6
 go_wp2_with fail
 have hb:zD w.heap.size w (w.alloc (.cells #[.int .i64 x.client,.int .i64 x.stamp,.int .i64 x.group,.int .i64 x.epoch,.int .i64 x.kind,.int .i64 x.block,.slice A n c,.int .i64 x.old,.int .i64 x.new,.slice A' n' c'] 25)):=(zN _ _).alloc (zL _) _;refine(HM.out _ hb).mono ?_;rintro _ w2 ⟨rfl,hb2⟩;have HB2:=sH (hb.trans (hb2.mono (by simp)));clear hb hb2;cases mb with
 | true =>
  go_wp2_with fail
  go_ret
  exact⟨rfl,HB2.out⟩
 | false =>
  go_wp2_with fail
  go_ret
  exact⟨rfl,HB2.out⟩
theorem Q28 (x:Wish) (A:Option zA) (n c:Nat) (A':Option zA) (n' c':Nat) (w:zB) (B:Nat) (h:Q0c w B x A n c A' n' c') (hB:B<=w.heap.size) :
 zI Try.prog 23 #[.agg (Q00 x A n c A' n' c')] w fun e w'=>∃ v,e=.returned (.tuple #[v,.int .i64 (if mayB x=true then 0 else 2)])/\OwnB w' w.heap.size v (if mayB x=true then Q0s x else [])/\zD w.heap.size w w':=by
 have H:=sH h;have HC:=sH (fun W (hb:zD w.heap.size w W)=>Q0Q x A n c A' n' c' W B (h.below (hb.mono hB)) (by have:=hb.size; omega));have hdl:=h.dlen;have hnl:=h.nlen;have HDL:=sH hdl;have HNL:=sH hnl;clear h hdl hnl;obtain⟨mb,hmb⟩:∃ b,b=mayB x:=⟨_,rfl⟩;rw [<- hmb] at HC ⊢;have HMB:=sH hmb;clear hmb;unfold Q00 at HC ⊢;go_enter Try.func23,Try.ntmps23
 go_wp2_with fail
 have hb:zD w.heap.size w (w.alloc (.cells #[.int .i64 x.client,.int .i64 x.stamp,.int .i64 x.group,.int .i64 x.epoch,.int .i64 x.kind,.int .i64 x.block,.slice A n c,.int .i64 x.old,.int .i64 x.new,.slice A' n' c'] 25)):=(zN _ _).alloc (zL _) _;have hk:=Blk.new w 25 #[.int .i64 x.client,.int .i64 x.stamp,.int .i64 x.group,.int .i64 x.epoch,.int .i64 x.kind,.int .i64 x.block,.slice A n c,.int .i64 x.old,.int .i64 x.new,.slice A' n' c'];obtain⟨g,hg⟩:∃ g,g=w.heap.size:=⟨_,rfl⟩;rw [<- hg] at hk ⊢;clear hg;refine(HC.out _ hb).mono ?_;rintro _ w2 ⟨rfl,hb2⟩;have HK2:=sH (hk.under hb2);have HB2:=sH (hb.trans (hb2.mono (by simp)));clear hb hb2 hk;cases mb with
 | false =>
  go_wp2_with fail
  go_ret2
  exact⟨_,rfl,OwnB.nil _ _,HB2.out⟩
 | true =>
  obtain⟨hn6,hn3,hnx,hd16,hnx7⟩:=Q2F HMB.out.symm;have HN6:=sH hn6;have HN3:=sH (show ∀ z,z∈[x.old,x.new,(n':Int)]->NumI z by rw [<- HNL.out]; exact hn3);have HNN:=sH hnx;rw [HDL.out] at hd16;rw [HNL.out] at hnx7;clear hn6 hn3 hnx;have c6:=Blk.cell HK2.out 6;simp only [List.getElem?_toArray,List.getElem?_cons_zero,List.getElem?_cons_succ] at c6;have hs2:=HB2.out.size;go_wp2_with fail
  refine(Q46 A n c x.data w2 B (H.out.data.below (HB2.out.mono hB)) (by omega) (by omega)).mono ?_;rintro _ w3 ⟨v5,rfl,ho5,hb3⟩;have hs3:=hb3.size;have HO5:=sH ho5;have HB3:=sH (HB2.out.trans (hb3.mono hs2));have hk3:=HK2.out.under hb3;have HNX:=sH (fun W (hb:zD w3.heap.size w3 W)=>H.out.next.below ((HB3.out.trans (hb.mono (by omega))).mono hB));clear c6 ho5 hb3;have HC0:=sH (fun W (hb:zD w3.heap.size w3 W)=>(show W.cell? ⟨g,0,none⟩=some (.int .i64 x.client) from((hk3.under hb).cell 0).trans rfl));have HC1:=sH (fun W (hb:zD w3.heap.size w3 W)=>(show W.cell? ⟨g,1,none⟩=some (.int .i64 x.stamp) from((hk3.under hb).cell 1).trans rfl));have HC2:=sH (fun W (hb:zD w3.heap.size w3 W)=>(show W.cell? ⟨g,2,none⟩=some (.int .i64 x.group) from((hk3.under hb).cell 2).trans rfl));have HC3:=sH (fun W (hb:zD w3.heap.size w3 W)=>(show W.cell? ⟨g,3,none⟩=some (.int .i64 x.epoch) from((hk3.under hb).cell 3).trans rfl));have HC4:=sH (fun W (hb:zD w3.heap.size w3 W)=>(show W.cell? ⟨g,4,none⟩=some (.int .i64 x.kind) from((hk3.under hb).cell 4).trans rfl));have HC5:=sH (fun W (hb:zD w3.heap.size w3 W)=>(show W.cell? ⟨g,5,none⟩=some (.int .i64 x.block) from((hk3.under hb).cell 5).trans rfl));have HC6:=sH (fun W (hb:zD w3.heap.size w3 W)=>(show W.cell? ⟨g,6,none⟩=some (.slice A n c) from((hk3.under hb).cell 6).trans rfl));have HC7:=sH (fun W (hb:zD w3.heap.size w3 W)=>(show W.cell? ⟨g,7,none⟩=some (.int .i64 x.old) from((hk3.under hb).cell 7).trans rfl));have HC8:=sH (fun W (hb:zD w3.heap.size w3 W)=>(show W.cell? ⟨g,8,none⟩=some (.int .i64 x.new) from((hk3.under hb).cell 8).trans rfl));have HC9:=sH (fun W (hb:zD w3.heap.size w3 W)=>(show W.cell? ⟨g,9,none⟩=some (.slice A' n' c') from((hk3.under hb).cell 9).trans rfl));clear hk3;go_upto_region 7 with fail
  refine Q1c 27 50 (fun j W v=>match j with
   | 0=>v=.pointer (some ⟨g,4,none⟩)
   | 1=>v=.int .i64 x.kind
   | 2=>v=.pointer (some ⟨g,0,none⟩)
   | 3=>v=.int .i64 x.client
   | 4=>v=.pointer (some ⟨g,1,none⟩)
   | 5=>v=.int .i64 x.stamp
   | 6=>v=.pointer (some ⟨g,2,none⟩)
   | 7=>v=.int .i64 x.group
   | 8=>v=.pointer (some ⟨g,3,none⟩)
   | 9=>v=.int .i64 x.epoch
   | 10=>v=.pointer (some ⟨g,5,none⟩)
   | 11=>v=.int .i64 x.block
   | 12=>∃ g',v=.slice (some ⟨g',0,none⟩) 6 6/\Q02 W W.heap.size 1 (some ⟨g',0,none⟩) 6 [.int .i64 x.kind,.int .i64 x.client,.int .i64 x.stamp,.int .i64 x.group,.int .i64 x.epoch,.int .i64 x.block]
   | 13=>OwnB W w3.heap.size v (Q0m [x.kind,x.client,x.stamp,x.group,x.epoch,x.block])
   | 14=>v=v5
   | 15=>v=.pointer (some ⟨g,7,none⟩)
   | 16=>v=.int .i64 x.old
   | 17=>v=.pointer (some ⟨g,8,none⟩)
   | 18=>v=.int .i64 x.new
   | 19=>v=.pointer (some ⟨g,9,none⟩)
   | 20=>v=.slice A' n' c'
   | 21=>v=.int .i64 (n':Int)
   | 22=>∃ g',v=.slice (some ⟨g',0,none⟩) 3 3/\Q02 W W.heap.size 1 (some ⟨g',0,none⟩) 3 [.int .i64 x.old,.int .i64 x.new,.int .i64 (n':Int)]
   | 23=>OwnB W w3.heap.size v (Q0m [x.old,x.new,(n':Int)])
   | 24=>v=.pointer (some ⟨g,9,none⟩)
   | 25=>v=.slice A' n' c'
   | _=>OwnB W w3.heap.size v (Q0m x.next)) [21,22,23,24,25,26,27,28,29,30,31,32,33,34,35,36,37,38,39,40,41,42,43,44,45,46,47] (by kernel_rfl) (by kernel_rfl) (by kernel_rfl) (by simp) (by kernel_rfl) (fun j=>?last) ?heads ?_
  case last =>
   match j with
   | 0 | 1 | 2 | 3 | 4 | 5 | 6 | 7 | 8 | 9 | 10 | 11 | 14 | 15 | 16 | 17 | 18 | 19 | 20 | 21 | 24 | 25=>exact Q2A.pure _
   | 12=>exact Q2Z _ _
   | 13=>exact Q12 _ _
   | 22=>exact Q2Z _ _
   | 23=>exact Q12 _ _
   | j+26=>exact Q12 _ _
  case heads =>
   simp only [tT];and_intros;rotate_right;trivial;all_goals intro a W hb hkp hd
   ·have e0:(_:zC)=.pointer (some ⟨g,0,none⟩):=sK hkp 1;exact sV
   ·have e0:=sJ (hd 0) 21;have cc:=HC4.out W hb;exact sV
   ·have e0:(_:zC)=.pointer (some ⟨g,0,none⟩):=sK hkp 1;exact sV
   ·have e0:=sJ (hd 2) 23;have cc:=HC0.out W hb;exact sV
   ·have e0:(_:zC)=.pointer (some ⟨g,0,none⟩):=sK hkp 1;exact sV
   ·have e0:=sJ (hd 4) 25;have cc:=HC1.out W hb;exact sV
   ·have e0:(_:zC)=.pointer (some ⟨g,0,none⟩):=sK hkp 1;exact sV
   ·have e0:=sJ (hd 6) 27;have cc:=HC2.out W hb;exact sV
   ·have e0:(_:zC)=.pointer (some ⟨g,0,none⟩):=sK hkp 1;exact sV
   ·have e0:=sJ (hd 8) 29;have cc:=HC3.out W hb;exact sV
   ·have e0:(_:zC)=.pointer (some ⟨g,0,none⟩):=sK hkp 1;exact sV
   ·have e0:=sJ (hd 10) 31;have cc:=HC5.out W hb;exact sV
   ·have e1:=sJ (hd 1) 22;have e3:=sJ (hd 3) 24;have e5:=sJ (hd 5) 26;have e7:=sJ (hd 7) 28;have e9:=sJ (hd 9) 30;have e11:=sJ (hd 11) 32;refine Q2D rfl (.slice (some ⟨W.heap.size,0,none⟩) 6 6) (W.alloc (.cells #[.int .i64 x.kind,.int .i64 x.client,.int .i64 x.stamp,.int .i64 x.group,.int .i64 x.epoch,.int .i64 x.block] 3)) (by go_simp) ((zN _ _).alloc (zL _) _) ⟨W.heap.size,rfl,?_⟩;have:=Q04 W #[.int .i64 x.kind,.int .i64 x.client,.int .i64 x.stamp,.int .i64 x.group,.int .i64 x.epoch,.int .i64 x.block] 3;simpa using this
   ·obtain⟨g',e0,hr⟩:∃ g',a.tmps[33]?.getD undef=.slice (some ⟨g',0,none⟩) 6 6/\Q02 W W.heap.size 1 (some ⟨g',0,none⟩) 6 [.int .i64 x.kind,.int .i64 x.client,.int .i64 x.stamp,.int .i64 x.group,.int .i64 x.epoch,.int .i64 x.block]:=(sG (hd 12) 33:);refine Q1s rfl 22 #[.slice (some ⟨g',0,none⟩) 6 6] (by go_simp) ((Q1v _ _ _ _ W _ hr (zL _) (by omega) (HN6.out)).mono ?_);rintro e w' ⟨v,rfl,ho,hb'⟩;exact⟨v,rfl,hb',ho.more hb.size⟩
   ·have e0:(_:zC)=v5:=sK hkp 5;exact sV
   ·have e0:(_:zC)=.pointer (some ⟨g,0,none⟩):=sK hkp 1;exact sV
   ·have e0:=sJ (hd 15) 36;have cc:=HC7.out W hb;exact sV
   ·have e0:(_:zC)=.pointer (some ⟨g,0,none⟩):=sK hkp 1;exact sV
   ·have e0:=sJ (hd 17) 38;have cc:=HC8.out W hb;exact sV
   ·have e0:(_:zC)=.pointer (some ⟨g,0,none⟩):=sK hkp 1;exact sV
   ·have e0:=sJ (hd 19) 40;have cc:=HC9.out W hb;exact sV
   ·have e20:=sJ (hd 20) 41;exact sV
   ·have e16:=sJ (hd 16) 37;have e18:=sJ (hd 18) 39;have e21:=sJ (hd 21) 42;refine Q2D rfl (.slice (some ⟨W.heap.size,0,none⟩) 3 3) (W.alloc (.cells #[.int .i64 x.old,.int .i64 x.new,.int .i64 (n':Int)] 3)) (by go_simp) ((zN _ _).alloc (zL _) _) ⟨W.heap.size,rfl,?_⟩;have:=Q04 W #[.int .i64 x.old,.int .i64 x.new,.int .i64 (n':Int)] 3;simpa using this
   ·obtain⟨g',e0,hr⟩:∃ g',a.tmps[43]?.getD undef=.slice (some ⟨g',0,none⟩) 3 3/\Q02 W W.heap.size 1 (some ⟨g',0,none⟩) 3 [.int .i64 x.old,.int .i64 x.new,.int .i64 (n':Int)]:=(sG (hd 22) 43:);refine Q1s rfl 22 #[.slice (some ⟨g',0,none⟩) 3 3] (by go_simp) ((Q1v _ _ _ _ W _ hr (zL _) (by omega) (HN3.out)).mono ?_);rintro e w' ⟨v,rfl,ho,hb'⟩;exact⟨v,rfl,hb',ho.more hb.size⟩
   ·have e0:(_:zC)=.pointer (some ⟨g,0,none⟩):=sK hkp 1;exact sV
   ·have e0:=sJ (hd 24) 45;have cc:=HC9.out W hb;exact sV
   have e25:=sJ (hd 25) 46;refine Q1s rfl 22 #[.slice A' n' c'] (by go_simp) ((Q1v _ _ _ _ W _ (HNX.out W hb) (by have:=hb.size; omega) (by omega) HNN.out).mono ?_);rintro e w' ⟨v,rfl,ho,hb'⟩;exact⟨v,rfl,hb',ho.more hb.size⟩
  intro f W hb hd;have h13:OwnB W w3.heap.size (f 34) (Q0m [x.kind,x.client,x.stamp,x.group,x.epoch,x.block]):=hd 13 (by omega) _ 34 rfl rfl;have h14:f 35=v5:=hd 14 (by omega) _ 35 rfl rfl;have h23:OwnB W w3.heap.size (f 44) (Q0m [x.old,x.new,(n':Int)]):=hd 23 (by omega) _ 44 rfl rfl;have h26:OwnB W w3.heap.size (f 47) (Q0m x.next):=hd 26 (by omega) _ 47 rfl rfl;have h5:=HO5.out.below hb;obtain⟨A1,k1,e1,_,_,r1,_⟩:=Q05 h13;obtain⟨A2,k2,e2,_,_,r2,_⟩:=Q05 h5;obtain⟨A3,k3,e3,_,_,r3,_⟩:=Q05 h23;obtain⟨A4,k4,e4,_,_,r4,_⟩:=Q05 h26;have hrow:=Q3K W 22 [(A1,(Q0m [x.kind,x.client,x.stamp,x.group,x.epoch,x.block]).length,k1,Q0m [x.kind,x.client,x.stamp,x.group,x.epoch,x.block]),(A2,(strB x.data).length,k2,strB x.data),(A3,(Q0m [x.old,x.new,(n':Int)]).length,k3,Q0m [x.old,x.new,(n':Int)]),(A4,(Q0m x.next).length,k4,Q0m x.next)] (by
   intro p hp;simp only [List.mem_cons,List.not_mem_nil,or_false] at hp;rcases hp with rfl | rfl | rfl | rfl
   ·exact r1
   ·exact r2
   ·exact r3
   exact r4)
  simp only [List.map_cons,List.map_nil,List.length_cons,List.length_nil] at hrow;have HROW:=sH hrow;have HB4:=sH (HB3.out.trans (hb.mono (by omega)));have hs4:=hb.size;have hdl:=HDL.out;have hnl:=HNL.out;subst e2;clear r1 r2 r3 r4 hrow h13 h23 h26 h5 hd hb;simp only [Q0M,tU];try simp only [Act.put,sA]
  simp only [e1,h14,e3,e4];go_wp2_with fail
  refine(Q3t _ 4 4 _ _ _ HROW.out (by simp) (by omega) ?_).mono ?_
  ·have h1:=Q0P HN6.out;have h3:=Q0P HN3.out;have h4:=Q0P HNN.out;have h2:=(Q0E (n:=x.data.length) (by rw [HDL.out]; unfold maxN; omega)).2;simp only [List.length_cons,List.length_nil] at h1 h3;have h5:(strB x.data).length<=24:=by unfold strB; rw [zM,HDL.out]; rw [HDL.out] at h2; omega
   simp only [List.flatten_cons,List.flatten_nil,zM,List.length_nil];rw [HNL.out] at h4;omega
  rintro _ w5 ⟨v,rfl,ho6,hb6⟩;have HB6:=sH ((HB4.out.trans ((zN _ W).alloc (zL _) (.cells #[.slice A1 (Q0m [x.kind,x.client,x.stamp,x.group,x.epoch,x.block]).length k1,.slice A2 (strB x.data).length k2,.slice A3 (Q0m [x.old,x.new,(n':Int)]).length k3,.slice A4 (Q0m x.next).length k4] 22) |>.mono (by omega))).trans (hb6.mono (by simp; omega)));have HO6:=sH (show OwnB w5 w.heap.size v (Q0s x) by have:=ho6.more (B':=w.heap.size) (by simp; omega);unfold Q0s;rw [HNL.out];simpa only [List.flatten_cons,List.flatten_nil,List.append_nil,List.append_assoc] using this)
  clear ho6 hb6;go_wp2_with fail
  go_ret2
  exact⟨v,rfl,HO6.out,HB6.out⟩
abbrev RdS:=List UInt8×Nat
def rdN (s:RdS):Nat×RdS:=if s.2=0 then((tn s.1).1,((tn s.1).2.1,(tn s.1).2.2)) else(0,s)
def rdT (s:RdS) (most:Nat):List UInt8×RdS:=if s.2=0 then((ts s.1 most).1,((ts s.1 most).2.1,(ts s.1 most).2.2)) else([],s)
def rdM (s:RdS) (most:Nat):Nat×RdS :=if (rdN s).2.2=0 then(if most<(rdN s).1 then(0,((rdN s).2.1,5)) else((rdN s).1,(rdN s).2)) else(0,(rdN s).2)
def rdE (s:RdS):Nat:=if s.2=0/\0<s.1.length then 4 else s.2
structure Q0e (g:Nat) (w w':zB):Prop where
 os:w'.os=w.os
 tape:w'.tape=w.tape
 output:w'.output=w.output
 size:w.heap.size<=w'.heap.size
 block:∀ i,i<w.heap.size->i≠g->w'.heap[i]?=w.heap[i]?
theorem Q0e.refl (g:Nat) (w:zB):Q0e g w w:=⟨rfl,rfl,rfl,zL _,fun _ _ _=>rfl⟩
theorem Q0e.of_below {g:Nat} {w w':zB} (h:zD w.heap.size w w'):Q0e g w w':=⟨h.os,h.tape,h.output,h.size,fun i hi _=>h.block i hi⟩
theorem Q0e.set {g:Nat} {a b:zB} (h:Q0e g a b) (i:Nat) (u:zC):Q0e g a (b.setCell ⟨g,i,none⟩ u) :=⟨h.os,h.tape,h.output,by simpa [World.setCell] using h.size,fun j hj h1=>(zE b ⟨g,i,none⟩ u j h1).trans (h.block j hj h1)⟩
theorem Q0e.below {g:Nat} {w0 w w':zB} {B:Nat} (h:Q0e g w w') (hb:zD B w0 w) (hB:B<=w.heap.size) (hg:B<=g):zD B w0 w' :=hb.trans ⟨h.os,h.tape,h.output,h.size,fun i hi=>h.block i (by omega) (by omega)⟩
def Q29 (A:Option zA) (n c e:Nat):Array zC:=#[.slice A n c,.int .i64 (e:Int)]
structure RdAt (w:zB) (g:Nat) (N:Nat->Prop) (s:RdS):Prop where
 err:s.2<10
 has:∃ A n c,Blk w g 59 (Q29 A n c s.2)/\n<=c/\n<=140737488355328/\Q02 w w.heap.size 1 A n (s.1.map vb)/\∀ a,0<n->A=some a->¬ N a.block
theorem RdAt.keep {w w':zB} {g:Nat} {N:Nat->Prop} {s:RdS} (h:RdAt w g N s) (hg:w'.heap[g]?=w.heap[g]?) (hs:w.heap.size<=w'.heap.size) (hk:∀ i,i<w.heap.size->¬ N i->w'.heap[i]?=w.heap[i]?):RdAt w' g N s:=by obtain⟨A,n,c,h1,h2,h3,h4,h5⟩:=h.has;refine⟨h.err,A,n,c,hg.trans h1,h2,h3,⟨h4.1,fun h0=>?_⟩,h5⟩;obtain⟨ad,hA,hb,hc⟩:=h4.2 h0;exact⟨ad,hA,by omega,fun j u hu=>(World.cell?_of_block (hk _ (by rw [Q0a]; exact hb) (by rw [Q0a]; exact h5 ad h0 hA))).trans (hc j u hu)⟩
theorem RdAt.below {w w':zB} {g:Nat} {N:Nat->Prop} {s:RdS} (h:RdAt w g N s) (hb:zD w.heap.size w w'):RdAt w' g N s:=by obtain⟨A,n,c,h1,_⟩:=h.has;exact h.keep (hb.block g h1.lt) hb.size fun i hi _=>hb.block i hi
theorem RdAt.lt {w:zB} {g:Nat} {N:Nat->Prop} {s:RdS} (h:RdAt w g N s):g<w.heap.size:=by obtain⟨A,n,c,h1,_⟩:=h.has; exact h1.lt
theorem rdN_err (s:RdS) (h:s.2<10):(rdN s).2.2<10:=by
 unfold rdN;split
 ·exact Q3I _
 exact h
theorem RdAt.stored {w w2:zB} {g:Nat} {N:Nat->Prop} {A A2:Option zA} {n c e c2 e2:Nat} {r:List UInt8} (hk:Blk w2 g 59 (Q29 A n c e)) (hb:zD w.heap.size w w2) (hN:∀ b,N b->b<w.heap.size) (hg:N g)
 (hr:Q02 w2 w2.heap.size 1 A2 r.length (r.map vb)) (hA:∀ ad,A2=some ad->w.heap.size<=ad.block) (h1:r.length<=c2) (h2:r.length<=140737488355328) (he:e2<10) :
 RdAt ((w2.setCell ⟨g,0,none⟩ (.slice A2 r.length c2)).setCell ⟨g,1,none⟩ (.int .i64 (e2:Int))) g N (r,e2)/\Q0e g w ((w2.setCell ⟨g,0,none⟩ (.slice A2 r.length c2)).setCell ⟨g,1,none⟩ (.int .i64 (e2:Int))):=by
 refine⟨⟨he,A2,r.length,c2,(hk.set_ 0 _).set_ 1 _,h1,h2,⟨hr.1,fun h0=>?_⟩,fun a h0 ha hn=>by have:=hN _ hn; have:=hA a ha; omega⟩,((Q0e.of_below hb).set 0 _).set 1 _⟩;obtain⟨ad,hAd,hbl,hc⟩:=hr.2 h0;have hge:=hA ad hAd;have hgl:=hN g hg;refine⟨ad,hAd,by simpa [World.setCell] using hbl,fun j u hu=>?_⟩;have h3:(ad.add j).block≠g:=by rw [Q0a]; omega
 rw [World.cell?_setCell_other _ _ _ _ (fun e=>h3 (by rw [<- e])),World.cell?_setCell_other _ _ _ _ (fun e=>h3 (by rw [<- e]))];exact hc j u hu
theorem Q0v (g:Nat) (N:Nat->Prop) (s:RdS) (w:zB) (h:RdAt w g N s) (hN:∀ b,N b->b<w.heap.size) (hg:N g) :
 zI Try.prog 18 #[.pointer (some ⟨g,0,none⟩)] w fun e w'=>e=.returned (.int .i64 ((rdN s).1:Int))/\RdAt w' g N (rdN s).2/\Q0e g w w':=by
 have herr:=rdN_err s h.err;obtain⟨A,n,c,hk,hnc,hnm,hr,ha⟩:=h.has;have hlt:=h.err;have HH:=sH h;have HER:=sH herr;have c0:w.cell? ⟨g,0,none⟩=some (.slice A n c):=(hk.cell 0).trans rfl;have c1:w.cell? ⟨g,1,none⟩=some (.int .i64 (s.2:Int)):=(hk.cell 1).trans rfl;obtain⟨xs,e⟩:=s;simp only at hr hlt c1 hk;have HK:=sH hk;clear herr h hk;by_cases he:e=0
 ·subst he;have hq:rdN (xs,0)=((tn xs).1,((tn xs).2.1,(tn xs).2.2)):=by unfold rdN; rw [if_pos rfl]
  rw [hq] at HER ⊢;have HT:=sH (Q27 A n c xs w w.heap.size hr (zL _) hnc hnm);have HL:=sH (show (tn xs).2.1.length<=n by have:=Q3Y xs; have:=hr.1; simp at this; omega);obtain⟨p,hp⟩:∃ p,p=tn xs:=⟨_,rfl⟩;rw [<- hp] at HER HT HL ⊢;obtain⟨k,r,e2⟩:=p;simp only at HER HT HL ⊢;clear hp hq hr;go_enter Try.func18,Try.ntmps18
  go_wp2_with fail
  refine HT.out.mono ?_;rintro _ w2 ⟨v,rfl,ho,hb2⟩;obtain⟨A2,c2,rfl,h1,h2,h3,h4⟩:=Q05 ho;have hk2:=HK.out.under hb2;have d0:w2.cell? ⟨g,0,none⟩=some (.slice A n c):=(hk2.cell 0).trans rfl;have d1:w2.cell? ⟨g,1,none⟩=some (.int .i64 ((0:Nat):Int)):=(hk2.cell 1).trans rfl;have f0:=hk2.frozen 0;have f1:=hk2.frozen 1;have HB2:=sH hb2;have HK2:=sH hk2;have HR2:=sH h3;have HA2:=sH h4;clear ho hb2 hk2 h3 h4;go_wp2_with fail
  go_ret
  have:=RdAt.stored (e2:=e2) HK2.out HB2.out hN hg HR2.out HA2.out h1 (by have:=HL.out; omega) HER.out;exact⟨rfl,this.1,this.2⟩
 have hq:rdN (xs,e)=(0,(xs,e)):=by unfold rdN; rw [if_neg he]
 rw [hq];have he':¬ (e:Int)=0:=by omega
 clear hr;go_enter Try.func18,Try.ntmps18
 go_wp2_with fail
 go_ret
 exact⟨rfl,HH.out,Q0e.refl _ _⟩
theorem rdT_err (s:RdS) (most:Nat) (h:s.2<10):(rdT s most).2.2<10:=by
 unfold rdT;split
 ·rw [ts_eq];have:=Q3I s.1;split
  ·exact this
  split
  ·simp
  split <;> simp
 exact h
theorem ts_len (b:List UInt8) (most:Nat):(ts b most).2.1.length<=b.length:=by
 rw [ts_eq];have:=Q3Y b;split
 ·simp
 split
 ·simp
 split
 ·simp
 simp; omega
theorem Q1W (g most:Nat) (N:Nat->Prop) (s:RdS) (w:zB) (h:RdAt w g N s) (hN:∀ b,N b->b<w.heap.size) (hg:N g) (hm:most<=65536) :
 zI Try.prog 19 #[.pointer (some ⟨g,0,none⟩),.int .i64 (most:Int)] w fun e w'=>∃ v,e=.returned v/\OwnB w' w.heap.size v (rdT s most).1/\RdAt w' g N (rdT s most).2/\Q0e g w w':=by
 have herr:=rdT_err s most h.err;obtain⟨A,n,c,hk,hnc,hnm,hr,ha⟩:=h.has;have hlt:=h.err;have HH:=sH h;have HER:=sH herr;have c0:w.cell? ⟨g,0,none⟩=some (.slice A n c):=(hk.cell 0).trans rfl;have c1:w.cell? ⟨g,1,none⟩=some (.int .i64 (s.2:Int)):=(hk.cell 1).trans rfl;obtain⟨xs,e⟩:=s;simp only at hr hlt c1 hk;have HK:=sH hk;clear herr h hk;by_cases he:e=0
 ·subst he;have hq:rdT (xs,0) most=((ts xs most).1,((ts xs most).2.1,(ts xs most).2.2)):=by unfold rdT; rw [if_pos rfl]
  rw [hq] at HER ⊢;have HT:=sH (Q3a A n c most xs w w.heap.size hr (zL _) hnc hnm hm);have HL:=sH (show (ts xs most).2.1.length<=n by have:=ts_len xs most; have:=hr.1; simp at this; omega);obtain⟨p,hp⟩:∃ p,p=ts xs most:=⟨_,rfl⟩;rw [<- hp] at HER HT HL ⊢;obtain⟨k,r,e2⟩:=p;simp only at HER HT HL ⊢;clear hp hq hr;go_enter Try.func19,Try.ntmps19
  go_wp2_with fail
  refine HT.out.mono ?_;rintro _ w2 ⟨u,v,rfl,hou,ho,hb2⟩;obtain⟨A2,c2,rfl,h1,h2,h3,h4⟩:=Q05 ho;have hk2:=HK.out.under hb2;have d0:w2.cell? ⟨g,0,none⟩=some (.slice A n c):=(hk2.cell 0).trans rfl;have d1:w2.cell? ⟨g,1,none⟩=some (.int .i64 ((0:Nat):Int)):=(hk2.cell 1).trans rfl;have f0:=hk2.frozen 0;have f1:=hk2.frozen 1;have HB2:=sH hb2;have HK2:=sH hk2;have HR2:=sH h3;have HA2:=sH h4;have HOU:=sH hou;clear ho hb2 hk2 h3 h4 hou;go_wp2_with fail
  go_ret
  have:=RdAt.stored (e2:=e2) HK2.out HB2.out hN hg HR2.out HA2.out h1 (by have:=HL.out; omega) HER.out;refine⟨_,rfl,HOU.out.keep fun b hb=>?_,this.1,this.2⟩;have h5:=HOU.out.ge hb;have h6:=hN g hg;exact(zE _ ⟨g,1,none⟩ _ b (by show b≠g; omega)).trans (zE _ ⟨g,0,none⟩ _ b (by show b≠g; omega))
 have hq:rdT (xs,e) most=([],(xs,e)):=by unfold rdT; rw [if_neg he]
 rw [hq];have he':¬ (e:Int)=0:=by omega
 clear hr;go_enter Try.func19,Try.ntmps19
 go_wp2_with fail
 go_ret
 exact⟨_,rfl,OwnB.nil _ _,HH.out,Q0e.refl _ _⟩
theorem RdAt.code {w:zB} {g:Nat} {N:Nat->Prop} {s:RdS} (h:RdAt w g N s) (e2:Nat) (he:e2<10) (hg:N g):RdAt (w.setCell ⟨g,1,none⟩ (.int .i64 (e2:Int))) g N (s.1,e2):=by
 obtain⟨A,n,c,hk,h2,h3,h4,h5⟩:=h.has;refine⟨he,A,n,c,hk.set_ 1 _,h2,h3,⟨h4.1,fun h0=>?_⟩,h5⟩;obtain⟨ad,hAd,hbl,hc⟩:=h4.2 h0;refine⟨ad,hAd,by simpa [World.setCell] using hbl,fun j u hu=>?_⟩;have h6:(ad.add j).block≠g:=by rw [Q0a]; exact fun e=>h5 ad h0 hAd (e▸hg)
 rw [World.cell?_setCell_other _ _ _ _ (fun e=>h6 (by rw [<- e]))];exact hc j u hu
theorem Q19 (g most:Nat) (N:Nat->Prop) (s:RdS) (w:zB) (h:RdAt w g N s) (hN:∀ b,N b->b<w.heap.size) (hg:N g) (hm:most<=65536) :
 zI Try.prog 20 #[.pointer (some ⟨g,0,none⟩),.int .i64 (most:Int)] w fun e w'=>e=.returned (.int .i64 ((rdM s most).1:Int))/\RdAt w' g N (rdM s most).2/\Q0e g w w':=by
 have HN:=sH (Q0v g N s w h hN hg);have hq:rdM s most=if (rdN s).2.2=0 then(if most<(rdN s).1 then(0,((rdN s).2.1,5)) else((rdN s).1,(rdN s).2)) else(0,(rdN s).2):=rfl
 rw [hq];clear h hq;obtain⟨p,hp⟩:∃ p,p=rdN s:=⟨_,rfl⟩;rw [<- hp] at HN ⊢;obtain⟨k,r,e⟩:=p;simp only at HN ⊢;clear hp;obtain⟨R,hR⟩:∃ R:Nat×RdS,R=if e=0 then(if most<k then(0,(r,5)) else(k,(r,e))) else(0,(r,e)):=⟨_,rfl⟩
 rw [<- hR];have HQ:=sH hR;clear hR;go_enter Try.func20,Try.ntmps20
 go_wp2_with fail
 refine HN.out.mono ?_;rintro _ w2 ⟨rfl,hrd,ho⟩;have HR:=sH hrd;have HO:=sH ho;obtain⟨A,n,c,hk,_⟩:=hrd.has;have d1:w2.cell? ⟨g,1,none⟩=some (.int .i64 (e:Int)):=(hk.cell 1).trans rfl;have f1:=hk.frozen 1;clear hrd ho hk;by_cases he:e=0
 ·subst he;by_cases hmk:most<k
  ·go_wp2_with fail
   go_ret
   have hp:=HQ.out;rw [if_pos trivial,if_pos hmk] at hp;rw [hp];exact⟨rfl,HR.out.code 5 (by omega) hg,HO.out.set 1 _⟩
  go_wp2_with fail
  go_ret
  have hp:=HQ.out;rw [if_pos trivial,if_neg hmk] at hp;rw [hp];exact⟨rfl,HR.out,HO.out⟩
 have he':¬ (e:Int)=0:=by omega
 go_wp2_with fail
 go_ret
 have hp:=HQ.out;rw [if_neg he] at hp;rw [hp];exact⟨rfl,HR.out,HO.out⟩
theorem Q1w (g:Nat) (N:Nat->Prop) (s:RdS) (w:zB) (h:RdAt w g N s) (hg:N g) :
 zI Try.prog 21 #[.pointer (some ⟨g,0,none⟩)] w fun e w'=>e=.returned (.int .i64 (rdE s:Int))/\RdAt w' g N (s.1,rdE s)/\Q0e g w w':=by
 obtain⟨A,n,c,hk,hnc,hnm,hr,ha⟩:=h.has;have hn:s.1.length=n:=by have:=hr.1; simpa using this
 have HH:=sH h;have c0:w.cell? ⟨g,0,none⟩=some (.slice A n c):=(hk.cell 0).trans rfl;have c1:w.cell? ⟨g,1,none⟩=some (.int .i64 (s.2:Int)):=(hk.cell 1).trans rfl;have f1:=hk.frozen 1;obtain⟨xs,e⟩:=s;simp only at hr hn c1 hk;have hq:rdE (xs,e)=if e=0/\0<n then 4 else e:=by unfold rdE; simp only [hn]
 rw [hq];clear h hk hr ha hn hq;by_cases he:e=0
 ·subst he;by_cases h0:0<n
  ·rw [if_pos ⟨rfl,h0⟩];go_enter Try.func21,Try.ntmps21
   go_wp2_with fail
   go_ret
   exact⟨rfl,HH.out.code 4 (by omega) hg,(Q0e.refl _ _).set 1 _⟩
  rw [if_neg (fun h=>h0 h.2)];go_enter Try.func21,Try.ntmps21
  go_wp2_with fail
  go_ret
  exact⟨rfl,HH.out,Q0e.refl _ _⟩
 rw [if_neg (fun h=>he h.1)];have he':¬ (e:Int)=0:=by omega
 go_enter Try.func21,Try.ntmps21
 go_wp2_with fail
 go_ret
 exact⟨rfl,HH.out,Q0e.refl _ _⟩
end
end Go.Proofs.Ytckjnbjiafgibaa
