/- Parts of the proof, in one text. -/
import Derived.Test.YtckjnbjiafgibaaGreatL3
import Derived.Deep.DeepCutAuto
import Derived.Laws.OwnMore
import Derived.Deep.RegionLaw
namespace Go.Proofs.YtckjnbjiafgibaaGreat
set_option linter.unusedVariables false
set_option linter.unusedSimpArgs false
set_option maxRecDepth 100000
set_option maxHeartbeats 16000000
open _root_.Bool renaming and_eq_true->zQ
open _root_.Go renaming Addr->zA,World->zB,Value->zC,Program->zE,Oper->zG
open _root_.Go.Proofs.Tryz renaming prog->zK
open _root_.Go.Region renaming wanted->zH
open _root_.Go.RowKit renaming Below->zD
open _root_.Go.RowKit.Below renaming refl->zM
open _root_.List renaming eq_nil_of_length_eq_zero->zF,getElem?_map->zI,range->zJ,length_append->zL,length_cons->zN,mem_cons_self->zO,mem_cons_of_mem->zP,mem_singleton->zS,mem_of_getElem?->zT
open _root_.Option.some renaming inj->zR
section
open Go.RowKit
theorem Blk.under {w w':zB} {g:Nat} {t:TypeId} {cs:Array zC} (h:Blk w g t cs) (hb:zD w.heap.size w w'):Blk w' g t cs:=h.below hb h.lt
def Q2w (p:zB->zC->Prop):Prop:=∀ w w' v,p w v->zD w.heap.size w w'->p w' v
theorem Q2w.pure (q:zC->Prop):Q2w fun _ v=>q v:=fun _ _ _ h _=>h
def Q2R (ops:Array zG) (ps:Nat->zB->zC->Prop) (j:Nat) (w:zB) (a:Act):Prop:=∀ o d,ops[j]?=some o->o.dst=some d->ps j w (a.eval (.tmp d))
structure Kept (ops:Array zG) (n:Nat) (a0 a:Act):Prop where
 defers:a.defers=a0.defers
 size:a.tmps.size=a0.tmps.size
 tmps:∀ d:Nat,(∀ (i:Nat) (o:zG),i<n->ops[i]?=some o->o.dst≠some d)->a.tmps[d]?=a0.tmps[d]?
def freeB (ops:Array zG) (n d:Nat):Bool:=(zJ n).all fun i=>match ops[i]? with
 | none=>true
 | some o=>o.dst != some d
theorem Q9N {ops:Array zG} {n d:Nat} (h:freeB ops n d=true):∀ (i:Nat) (o:zG),i<n->ops[i]?=some o->o.dst≠some d:=fun i o hi ho=>by have:=List.all_eq_true.1 h i (List.mem_range.2 hi);simp only [ho,bne_iff_ne] at this;exact this
theorem Kept.at_ {ops:Array zG} {n:Nat} {a0 a:Act} (h:Kept ops n a0 a) {d:Nat} (hd:freeB ops n d=true):a.eval (.tmp d)=a0.eval (.tmp d):=by have:=h.tmps d (Q9N hd);simp [Act.eval,this]
theorem Kept.get {ops:Array zG} {n:Nat} {a0 a:Act} (h:Kept ops n a0 a) {d:Nat} (hd:freeB ops n d=true) {v:zC} (hv:a0.eval (.tmp d)=v):a.tmps[d]?.getD undef=v:=by have:=h.at_ hd;rw [hv] at this;simpa [Act.eval] using this
theorem Q2R.get {ops:Array zG} {ps:Nat->zB->zC->Prop} {j:Nat} {w:zB} {a:Act} (h:Q2R ops ps j w a) {o:zG} (d:Nat) (ho:ops[j]?=some o) (hd:o.dst=some d):ps j w (a.tmps[d]?.getD undef):=by have:=h o d ho hd;simpa [Act.eval] using this
def Q5X (P:zE) (ops:Array zG) (o:zG) (a:Act) (w:zB) (p:zB->zC->Prop):Prop :=∀ (K:Act->zB->Prop) (Q':Exit->Act->zB->Prop),(∀ v w',zD w.heap.size w w'->p w' v->K (a.put o.dst v) w')->if zH o (yielded ops a.tmps)=true then o.wp P a w K Q' else K (a.put o.dst undef) w
section
variable {P:zE} {ops:Array zG}
theorem Q3m {o:zG} {a:Act} {w:zB} {p:zB->zC->Prop} (hw:zH o (yielded ops a.tmps)=true) (v:zC) (w':zB) (he:(execOp a.eval o).run P w=.ok (.value v) w') (hb:zD w.heap.size w w') (hp:p w' v):Q5X P ops o a w p:=fun K Q' hK=>by rw [if_pos hw];unfold Oper.wp;rw [he];exact hK v w' hb hp
theorem Q0E {o:zG} {a:Act} {w:zB} {p:zB->zC->Prop} (hw:zH o (yielded ops a.tmps)=true) (v:zC) (he:(execOp a.eval o).run P w=.ok (.value v) w) (hp:p w v):Q5X P ops o a w p :=Q3m hw v w he (zM _ _) hp
theorem Q1m {o:zG} {a:Act} {w:zB} {p:zB->zC->Prop} (hw:zH o (yielded ops a.tmps)=true) (f:FuncId) (args:Array zC) (he:(execOp a.eval o).run P w=.ok (.enter f args) w)
 (hc:Calls P f args w fun e w'=>∃ v,e=.returned v/\zD w.heap.size w w'/\p w' v):Q5X P ops o a w p:=fun K Q' hK=>by
 rw [if_pos hw];unfold Oper.wp;rw [he];refine hc.mono ?_;rintro e w' ⟨v,rfl,hb,hp⟩;exact hK v w' hb hp
end
def backB (md:Region.Mode) (ops:Array zG) (n:Nat):Bool:=(zJ n).all fun i=>match ops[i]? with
 | none=>true
 | some o=>o.after.all fun e=>!Region.binds md e || decide (e.on<i)
def Q1h (m n:Nat):Array Bool:=(zJ m).map (fun i=>decide (i<n)) |>.toArray
theorem Q5h (m n k:Nat) (d:Bool) (h:k<m):(Q1h m n).getD k d=decide (k<n):=by unfold Q1h;simp [h]
def relB (md:Region.Mode) (ops:Array zG) (n:Nat):Bool :=decide (n<ops.size) && Region.sinkB md ops n && Region.chainB md ops n && Q8s ops n && backB md ops n && Region.seqB md ops (ops.size - n) n (Q1h ops.size n)
section
variable {P:zE} {md:Region.Mode} {ops:Array zG}
theorem Q52 (f:Nat->Bool):∀ n,(∃ i,i<n/\f i=false)->∃ i,i<n/\f i=false/\∀ j,j<i->f j=true:=by
 intro n
 induction n with
 | zero=>rintro ⟨i,hi,_⟩; omega
 | succ n ih =>
  rintro ⟨i,hi,h⟩;by_cases hx:∃ i,i<n/\f i=false
  ·obtain⟨j,h1,h2,h3⟩:=ih hx;exact⟨j,by omega,h2,h3⟩
  have hin:i=n:=by
   rcases Nat.lt_or_ge i n with h4 | h4
   ·exact absurd ⟨i,h4,h⟩ hx
   omega
  subst hin;refine⟨i,by omega,h,fun j hj=>?_⟩;cases hf:f j with
  | true=>rfl
  | false=>exact absurd ⟨j,hj,hf⟩ hx
theorem Q7z {n:Nat} {ps:Nat->zB->zC->Prop} {a0:Act} {w0:zB} {Q':Exit->Act->zB->Prop} (hn:n<ops.size) (hs:Region.sinkB md ops n=true) (hc:Region.chainB md ops n=true) (hd:Q8s ops n=true) (hbk:backB md ops n=true)
 (hl:∀ j,Q2w (ps j))
 (hop:∀ i o,i<n->ops[i]?=some o->∀ a w,zD w0.heap.size w0 w->Kept ops n a0 a->(∀ j,Region.waitsFor md ops i j=true->Q2R ops ps j w a)->Q5X P ops o a w (ps i))
 (hL:∀ a w,zD w0.heap.size w0 w->Kept ops n a0 a->(∀ j,j<n->Q2R ops ps j w a)->wpAny P md ops Q' (ops.size - n) (Q1h ops.size n) a w)
 (hsz:∀ (i:Nat) (o:zG) (d:Tmp),i<n->ops[i]?=some o->o.dst=some d->d<a0.tmps.size) :
 ∀ (f:Nat) (listed:Array Bool) (a:Act) (w:zB),((zJ n).filter fun i=>!listed.getD i false).length=f->HeadInv md ops n listed->zD w0.heap.size w0 w->Kept ops n a0 a->(∀ j,j<n->listed.getD j false=true->Q2R ops ps j w a)->wpAny P md ops Q' (f+(ops.size - n)) listed a w
 | 0,listed,a,w,hf,inv,hb,hk,hp=>by
  have hall:∀ j,j<n->listed.getD j false=true:=fun j hj=>by
   cases hx:listed.getD j false with
   | true=>rfl
   | false =>
    have:j∈(zJ n).filter fun i=>!listed.getD i false:=List.mem_filter.2 ⟨List.mem_range.2 hj,by rw [hx]; rfl⟩
    rw [zF hf] at this;cases this
  have hls:listed=Q1h ops.size n:=by
   apply Array.ext
   ·rw [inv.size]; simp [Q1h]
   intro i h1 h2;have hi:i<ops.size:=by rw [<- inv.size]; exact h1
   have e1:listed[i]=listed.getD i false:=by simp [h1]
   have e2:(Q1h ops.size n)[i]=(Q1h ops.size n).getD i false:=by simp [h2]
   rw [e1,e2,Q5h _ _ _ _ hi];by_cases hin:i<n
   ·rw [hall i hin,decide_eq_true hin]
   rw [decide_eq_false hin];exact getD_both (inv.tail i (by omega) hi)
  rw [Nat.zero_add,hls];exact hL a w hb hk fun j hj=>hp j hj (hall j hj)
 | f+1,listed,a,w,hf,inv,hb,hk,hp=>by
  have hex:∃ i,i<n/\listed.getD i false=false:=by
   cases hx:(zJ n).filter fun i=>!listed.getD i false with
   | nil=>rw [hx] at hf; cases hf
   | cons i t =>
    have:i∈(zJ n).filter fun i=>!listed.getD i false:=by rw [hx]; exact zO
    obtain⟨h1,h2⟩:=List.mem_filter.1 this;exact⟨i,List.mem_range.1 h1,by simpa using h2⟩
  obtain⟨m,hm,hmf,hmb⟩:=Q52 (fun i=>listed.getD i false) n hex;have hin:∀ k,k<n->listed.getD k false=false->listed.getD k true=false:=fun k hk h=>getD_in (by rw [inv.size]; omega) h
  rw [show f+1+(ops.size - n)=(f+(ops.size - n))+1 by omega];refine⟨fun h0=>?_,fun i hi=>?_⟩
  ·exfalso
   have:m∈Region.ready md ops listed:=by refine mem_ready.2 ⟨hin m hm hmf,ops[m],Array.getElem?_eq_getElem (by omega),fun e he hbd=>?_⟩;have h1:=List.all_eq_true.1 hbk m (List.mem_range.2 hm);rw [Array.getElem?_eq_getElem (show m<ops.size by omega)] at h1;have h2:=Array.all_eq_true_iff_forall_mem.1 h1 e he;rw [hbd] at h2;simp at h2;exact hmb e.on h2
   rw [h0] at this;cases this
  have hin':i<n:=by
   rcases Nat.lt_or_ge i n with h | h
   ·exact h
   exact absurd hi (tail_waits hs hc hn inv _ m rfl hm (hin m hm hmf) i h)
  obtain⟨hun,o,ho,hall⟩:=mem_ready.1 hi;have hrel:=hop i o hin' ho a w hb hk (fun j hj=>by obtain⟨oj,hoj,e,he,hbd,hon⟩:=Region.waitsFor_spec hj;have:oj=o:=zR (hoj.symm.trans ho);subst this;have h1:=hall e he hbd;rw [hon] at h1;have h2:=List.all_eq_true.1 hbk i (List.mem_range.2 hin');rw [ho] at h2;have h3:=Array.all_eq_true_iff_forall_mem.1 h2 e he;rw [hbd] at h3;simp at h3;exact hp j (by omega) h1)
  unfold wpOp;simp only [ho];have hcnt:((zJ n).filter fun k=>!(listed.setIfInBounds i true).getD k false).length=f:=by
   have hmem:i∈(zJ n).filter fun i=>!listed.getD i false:=List.mem_filter.2 ⟨List.mem_range.2 hin',by rw [getD_both hun]; rfl⟩
   have hnd:((zJ n).filter fun i=>!listed.getD i false).Nodup:=List.Pairwise.filter _ List.nodup_range;have he:((zJ n).filter fun k=>!(listed.setIfInBounds i true).getD k false)=((zJ n).filter fun i=>!listed.getD i false).erase i:=by
    rw [hnd.erase_eq_filter,List.filter_filter];apply List.filter_congr
    intro k hk;by_cases hki:i=k
    ·subst hki;have hlt:i<listed.size:=by rw [inv.size]; omega
     simp [hlt]
    rw [getD_set_ne false hki];simp [Ne.symm hki]
   rw [he,List.length_erase_of_mem hmem,hf];rfl
  have hfin:∀ v w',zD w.heap.size w w'->ps i w' v->wpAny P md ops Q' (f+(ops.size - n)) (listed.setIfInBounds i true) (a.put o.dst v) w':=fun v w' hbw hpv=>by
   refine Q7z hn hs hc hd hbk hl hop hL hsz f _ _ w' hcnt (inv.set hi hin') (hb.trans (hbw.mono hb.size)) ⟨?_,by rw [Q32]; exact hk.size,fun d hfree=>?_⟩ fun j hj hlj oj d hoj hdj=>?_
   ·rw [<- hk.defers]; unfold Act.put; split <;> rfl
   ·rw [Q1u (hfree i o hin' ho)]; exact hk.tmps d hfree
   by_cases hji:j=i
   ·subst hji;have:oj=o:=zR (hoj.symm.trans ho);subst this;have hds:d<a.tmps.size:=by rw [hk.size]; exact hsz j oj d hin' hoj hdj
    have he:(a.put oj.dst v).eval (.tmp d)=v:=by rw [hdj];simp [Act.put,Act.eval,hds]
    rw [he];exact hpv
   have hl2:listed.getD j false=true:=by rw [getD_set_ne false (Ne.symm hji)] at hlj; exact hlj
   have he:(a.put o.dst v).eval (.tmp d)=a.eval (.tmp d):=by have:=Q1u (a:=a) (v:=v) (Q2a hd hj hin' hji hoj ho hdj);simp [Act.eval,this]
   rw [he];exact hl j _ _ _ (hp j hj hl2 oj d hoj hdj) hbw
  have:=hrel (wpAny P md ops Q' (f+(ops.size - n)) (listed.setIfInBounds i true)) Q' hfin;split
  ·rename_i hwt;rw [if_pos hwt] at this;exact .inl this
  rename_i hwt;rw [if_neg hwt] at this;exact this
end
def Q5A (P:zE) (ops:Array zG) (n:Nat) (ps:Nat->zB->zC->Prop) (a0:Act) (w0:zB):Nat->List zG->Prop
 | _,[]=>True
 | k,o :: l=>(∀ a w,zD w0.heap.size w0 w->Kept ops n a0 a->(∀ j,Region.waitsFor .any ops k j=true->Q2R ops ps j w a)->Q5X P ops o a w (ps k))/\Q5A P ops n ps a0 w0 (k+1) l
theorem Q5A.spec {P:zE} {ops:Array zG} {n:Nat} {ps:Nat->zB->zC->Prop} {a0:Act} {w0:zB}:∀ (l:List zG) (k:Nat),Q5A P ops n ps a0 w0 k l->∀ i o,l[i]?=some o ->
 ∀ a w,zD w0.heap.size w0 w->Kept ops n a0 a->(∀ j,Region.waitsFor .any ops (k+i) j=true->Q2R ops ps j w a)->Q5X P ops o a w (ps (k+i))
 | [],k,_,i,o,ho=>by simp at ho
 | o' :: l,k,h,0,o,ho=>by simp at ho; subst ho; exact h.1
 | o' :: l,k,h,i+1,o,ho=>by have:=Q5A.spec l (k+1) h.2 i o (by simpa using ho);rw [show k+1+i=k+(i+1) by omega] at this;exact this
def sizeB (ops:Array zG) (n m:Nat):Bool:=(zJ n).all fun i=>match ops[i]? with
 | none=>true
 | some o=>match o.dst with
  | none=>true
  | some d=>decide (d<m)
theorem Q6Q {P:zE} {id:Nat} {Q:Exit->Act->zB->Prop} {a:Act} {w:zB} {l:List zG} (n m:Nat) (ps:Nat->zB->zC->Prop) (hm:P.follows .mixedOrders=true) (hB:relB .any l.toArray n=true) (hsz:sizeB l.toArray n m=true) (ha:a.tmps.size=m)
 (hl:∀ j,Q2w (ps j)) (hop:Q5A P l.toArray n ps a w 0 (l.take n))
 (h:∀ a' w',zD w.heap.size w w'->Kept l.toArray n a a'->(∀ j,j<n->Q2R l.toArray ps j w' a')->wpList P l.toArray Q (l.drop n) a' w'):(Code.region id l.toArray true).wp P Q a w:=by
 simp only [relB,zQ,decide_eq_true_eq] at hB;obtain⟨⟨⟨⟨⟨hn,hs⟩,hc⟩,hd⟩,hbk⟩,hsq⟩:=hB;have inv0:HeadInv .any l.toArray n (Array.replicate l.toArray.size false) :=⟨by simp,fun j oj _ hl=>(by rw [getD_replicate_false] at hl; cases hl),fun t _ ht=>getD_in (by simpa using ht) (getD_replicate_false _ _)⟩
 have hdl:(l.drop n).length=l.toArray.size - n:=by simp
 refine wp_region_any hm ?_;have:=Q7z (Q':=Q) (md:=.any) (P:=P) (ops:=l.toArray) (n:=n) (ps:=ps) (a0:=a) (w0:=w) hn hs hc hd hbk hl (fun i o hi ho a' w' h1 h2 h3=>by
  have:=Q5A.spec (l.take n) 0 hop i o (by rw [List.getElem?_take,if_pos hi]; simpa using ho) a' w' h1 h2;simp only [Nat.zero_add] at this;exact this h3)
  (fun a' w' h1 h2 h3=>by have:=wpAny_of_seq (md:=.any) (ops:=l.toArray) (Q':=Q) (l.drop n) n (Q1h l.toArray.size n) a' w' (fun j=>by simp [List.getElem?_drop]) (by rw [hdl]; exact hsq) (h a' w' h1 h2 h3);rw [hdl] at this;exact this)
  (fun i o d hi ho hdst=>by have:=List.all_eq_true.1 hsz i (List.mem_range.2 hi);simp only [ho,hdst,decide_eq_true_eq] at this;rw [ha]; exact this)
  n (Array.replicate l.toArray.size false) a w.drew (by
   rw [List.filter_eq_self.2 (fun i _=>by rw [getD_replicate_false]; rfl)]
   simp) inv0 (zM _ w).drew ⟨rfl,rfl,fun _ _=>rfl⟩ (fun j _ hj=>by rw [getD_replicate_false] at hj; cases hj)
 rw [show n+(l.toArray.size - n)=l.toArray.size by omega] at this;exact this
def Q19:Act->List Nat->(Nat->zC)->Act
 | a,[],_=>a
 | a,d :: ds,f=>Q19 (a.put (some d) (f d)) ds f
theorem Q67:∀ (ds:List Nat) (a:Act) (f:Nat->zC) (k:Nat),(Q19 a ds f).tmps[k]?=if k∈ds/\k<a.tmps.size then some (f k) else a.tmps[k]?
 | [],a,f,k=>by simp [Q19]
 | d :: ds,a,f,k=>by
  rw [Q19,Q67 ds,Q32];by_cases hk:k∈ds/\k<a.tmps.size
  ·rw [if_pos hk,if_pos ⟨zP _ hk.1,hk.2⟩]
  rw [if_neg hk];by_cases hd:k=d
  ·subst hd;by_cases hs:k<a.tmps.size
   ·rw [if_pos ⟨zO,hs⟩];simp [Act.put,hs]
   rw [if_neg (fun h=>hs h.2),Array.getElem?_eq_none (by rw [Q32]; omega),Array.getElem?_eq_none (by omega)]
  rw [if_neg (fun h=>by
   rcases List.mem_cons.1 h.1 with h1 | h1
   ·exact hd h1
   exact hk ⟨h1,h.2⟩)]
  exact Q1u (fun e=>hd (by injection e with e; exact e.symm))
theorem Q4b:∀ (ds:List Nat) (a:Act) (f:Nat->zC),(Q19 a ds f).defers=a.defers
 | [],a,f=>rfl
 | d :: ds,a,f=>by rw [Q19,Q4b ds]; rfl
def Q66 (ops:Array zG) (n:Nat):List Nat:=(zJ n).filterMap fun i=>(ops[i]?).bind (·.dst)
theorem Kept.puts {ops:Array zG} {n:Nat} {a0 a:Act} (h:Kept ops n a0 a) (hs:sizeB ops n a0.tmps.size=true):a=Q19 a0 (Q66 ops n) (fun d=>a.tmps[d]?.getD undef):=by
 have h1:a.tmps=(Q19 a0 (Q66 ops n) (fun d=>a.tmps[d]?.getD undef)).tmps:=by
  apply Array.ext_getElem?
  intro k;rw [Q67];by_cases hk:k∈Q66 ops n/\k<a0.tmps.size
  ·rw [if_pos hk];have:k<a.tmps.size:=by rw [h.size]; exact hk.2
   simp [this]
  rw [if_neg hk];refine h.tmps k fun i o hi ho hd=>hk ⟨List.mem_filterMap.2 ⟨i,List.mem_range.2 hi,by rw [ho]; exact hd⟩,?_⟩
  have:=List.all_eq_true.1 hs i (List.mem_range.2 hi);simp only [ho,hd,decide_eq_true_eq] at this;exact this
 have h2:a.defers=(Q19 a0 (Q66 ops n) (fun d=>a.tmps[d]?.getD undef)).defers:=by rw [Q4b,h.defers]
 calc a=⟨a.tmps,a.defers⟩:=rfl
  _=_:=by rw [h2]; conv=>lhs; arg 1; rw [h1]
theorem Q17 {P:zE} {id:Nat} {Q:Exit->Act->zB->Prop} {a:Act} {w:zB} {l:List zG} (n m:Nat) (ps:Nat->zB->zC->Prop) (ds:List Nat) (hm:P.follows .mixedOrders=true) (hB:relB .any l.toArray n=true) (hsz:sizeB l.toArray n m=true) (ha:a.tmps.size=m) (hds:Q66 l.toArray n=ds)
 (hl:∀ j,Q2w (ps j)) (hop:Q5A P l.toArray n ps a w 0 (l.take n))
 (h:∀ (f:Nat->zC) w',zD w.heap.size w w'->(∀ j,j<n->∀ o d,l.toArray[j]?=some o->o.dst=some d->ps j w' (f d))->wpList P l.toArray Q (l.drop n) (Q19 a ds f) w'):(Code.region id l.toArray true).wp P Q a w:=by
 refine Q6Q n m ps hm hB hsz ha hl hop fun a' w' hb hk hp=>?_
 rw [hk.puts (by rw [ha]; exact hsz),hds];exact h _ w' hb fun j hj o d ho hd=>(hp j hj).get d ho hd
theorem sG {ops:Array zG} {ps:Nat->zB->zC->Prop} {j:Nat} {w:zB} {a:Act} {A:Prop} (hd:A->Q2R ops ps j w a) (d:Nat) {o:zG} (hA:A:=by kernel_rfl) (ho:ops[j]?=some o:=by exact rfl) (hs:o.dst=some d:=by exact rfl) : ps j w (a.tmps[d]?.getD undef):=(hd hA).get d ho hs
theorem sJ {ops:Array zG} {ps:Nat->zB->zC->Prop} {j:Nat} {w:zB} {a:Act} {A:Prop} (hd:A->Q2R ops ps j w a) (d:Nat) {o:zG} {v:zC} (hA:A:=by kernel_rfl) (ho:ops[j]?=some o:=by exact rfl) (hs:o.dst=some d:=by exact rfl) (hp:(fun x=>ps j w x)=(fun x=>x=v):=by exact rfl):a.tmps[d]?.getD undef=v:=(congrFun hp _).mp ((hd hA).get d ho hs)
theorem sK {ops:Array zG} {n:Nat} {a0 a:Act} (h:Kept ops n a0 a) (d:Nat) {v:zC} (hd:freeB ops n d=true:=by kernel_rfl) (hv:a0.eval (.tmp d)=v:=by exact rfl):a.tmps[d]?.getD undef=v:=h.get hd hv
theorem sV {P:zE} {ops:Array zG} {o:zG} {a:Act} {w:zB} {p:zB->zC->Prop} {v:zC} (hw:zH o (yielded ops a.tmps)=true:=by exact rfl) (hp:p w v:=by exact rfl) (he:(execOp a.eval o).run P w=.ok (.value v) w:=by go_simp):Q5X P ops o a w p:=Q0E hw v he hp

def tn (b:List UInt8):Nat×List UInt8×Nat:=match Q3M b with
 | .error e=>(0,[],e)
 | .ok (n,r)=>(n,r,0)
theorem Q7N (n:Nat) (h:n<18446744073709551616):(BitVec.ofInt 64 (n:Int)).toNat=n:=by
 rw [BitVec.toNat_ofInt]
 simp
 omega
theorem or_byte (x y:Nat) (hx:x<281474976710656) (hy:y<256):bits .or .i64 ((x:Int)*256) (y:Int)=((x*256+y:Nat):Int):=by show IntKind.i64.wrap ((BitVec.ofInt 64 ((x:Int)*256) ||| BitVec.ofInt 64 (y:Int)).toNat:Int)=_;rw [show ((x:Int)*256)=((x*256:Nat):Int) by omega,BitVec.toNat_or,Q7N _ (by omega),Q7N _ (by omega)];have h:=Nat.two_pow_add_eq_or_of_lt (i:=8) (b:=y) (by omega) x;rw [show x*256=2 ^ 8*x by omega,<- h];rw [IntKind.wrap_i64];omega
theorem Q5K (A:Option zA) (n c:Nat) (xs:List UInt8) (w:zB) (B:Nat) (h:Q04 w B 1 A n (xs.map vb)) (hB:B<=w.heap.size) (hc:n<=c) (hcm:n<=140737488355328) :
 Calls zK 82 #[.slice A n c] w fun e w'=>∃ v,e=.returned (.tuple #[.int .i64 ((tn xs).1:Int),v,.int .i64 ((tn xs).2.2:Int)])/\OwnB w' w.heap.size v (tn xs).2.1/\zD w.heap.size w w':=by
 have hxn:xs.length=n:=by have:=h.1; simpa using this
 cases xs with
 | nil =>
  simp at hxn;subst hxn;go_enter Tryz.func82,Tryz.ntmps82
  go_wp2_with fail
  go_ret3
  exact⟨_,rfl,OwnB.nil _ _,zM _ _⟩
 | cons m r =>
  obtain⟨ad,hA,hadb,hcell⟩:=h.2 (by simp at hxn; omega);subst hA;obtain⟨k,hk⟩:∃ k,k=m.toNat:=⟨_,rfl⟩;have hk8:k<256:=by rw [hk]; exact m.toNat_lt
  have hwk:wrap64 (k:Int)=(k:Int):=by unfold wrap64; omega
  have c0:∀ q,(w.drewN q).cell? ad=some (.int .u8 (k:Int)):=fun q=>by
   have h0:w.cell? ad=some (vb m):=by have:=hcell 0 (vb m) rfl; simpa [Addr.add] using this
   rw [hk];exact h0
  have hrn:r.length=n - 1:=by simp at hxn; omega
  have hn1:1<=n:=by simp at hxn; omega
  have hsl:=fun W=>Q0G (P:=zK) (t:=28) (e:=5) rfl rfl (some ad) n c 1 1 rfl (by omega) W
  have hrest:=h.cut (cap:=c) hn1 hc;rw [Nat.one_mul,List.map_cons,List.drop_one,List.tail_cons] at hrest;obtain⟨A1,hA1⟩:∃ A1,A1=(if c=1 then some ad else(some ad).map (·.add 1)):=⟨_,rfl⟩;rw [<- hA1] at hsl hrest;obtain⟨n1,hn1e⟩:∃ n1,n1=n - 1:=⟨_,rfl⟩;obtain⟨c1,hc1e⟩:∃ c1,c1=c - 1:=⟨_,rfl⟩;rw [<- hn1e] at hsl hrest hrn;rw [<- hc1e] at hsl;have hc1:n1<=c1:=by omega
  have hc1m:n1<=140737488355328:=by omega
  have HK:=sH hk;have HR:=sH hrest;have HRN:=sH hrn;have hn0:¬ (n:Int)=0:=by omega
  clear hA1 hn1e hc1e hcell hxn h hk hrest hrn;go_enter Tryz.func82,Tryz.ntmps82
  go_upto_region 3 with fail
  go_quiet (fail)
  have hb1:zD w.heap.size w (w.drewN nq):=Q0B (zM _ _) nq;have HR1:=sH (HR.out.drewN nq);have hs1:(w.drewN nq).heap.size=w.heap.size:=rfl;generalize w.drewN nq=w1 at hb1 HR1 hs1 ⊢;have HB1:=sH hb1;clear hb1 c0 hsl;by_cases h1:7<k
  ·have htn:tn (m :: r)=(0,[],4):=by unfold tn Q3M; simp only [<- HK.out]; rw [if_pos h1]
   have HT:=sH htn;clear htn;go_wp2_with fail
   go_ret3
   exact⟨_,by rw [HT.out]; rfl,by rw [HT.out]; exact OwnB.nil _ _,HB1.out⟩
  by_cases h2:n1<k
  ·have htn:tn (m :: r)=(0,[],3):=by unfold tn Q3M; simp only [<- HK.out]; rw [if_neg h1,if_pos (by have:=HRN.out; omega)]
   have HT:=sH htn;clear htn;go_wp2_with fail
   go_ret3
   exact⟨_,by rw [HT.out]; rfl,by rw [HT.out]; exact OwnB.nil _ _,HB1.out⟩
  by_cases h3:0<k/\r.head?=some 0
  ·have htn:tn (m :: r)=(0,[],4):=by unfold tn Q3M; simp only [<- HK.out]; rw [if_neg h1,if_neg (by have:=HRN.out; omega),if_pos h3]
   have HT:=sH htn;clear htn;obtain⟨h3a,h3b⟩:=h3;obtain⟨ad1,hA1,_,hcell1⟩:=HR1.out.2 (by omega);subst hA1;have c1:w1.cell? ad1=some (.int .u8 0):=by have:=hcell1 0 (vb 0) (by cases r with | nil=>simp at h3b | cons a t=>simp at h3b; subst h3b; rfl);simpa [Addr.add,vb,bi] using this
   clear hcell1;go_wp2_with fail
   go_ret3
   exact⟨_,by rw [HT.out]; rfl,by rw [HT.out]; exact OwnB.nil _ _,HB1.out⟩
  have hnx:(0<k)->∃ ad1 z,A1=some ad1/\w1.cell? ad1=some (.int .u8 z)/\z≠0:=fun h0=>by
   obtain⟨ad1,hA1,_,hcell1⟩:=HR1.out.2 (by omega);cases r with
   | nil=>have:=HRN.out; simp at this; omega
   | cons a t =>
    refine⟨ad1,bi a,hA1,by have h9:w1.cell? ad1=some (vb a):=(by have:=hcell1 0 (vb a) rfl; simpa [Addr.add] using this); exact h9,fun e=>h3 ⟨h0,?_⟩⟩
    simp
    exact QaS e
  go_upto_region 8 with fail
  go_cut [25] (fun s25 wx=>s25=.bool false/\wx=w1)
  case first =>
   by_cases h0:0<k
   ·obtain⟨ad1,z,hA1,hc1',hz⟩:=hnx h0;subst hA1;have hzz:(z == 0)=false:=by simp [hz]
    go_wp2_with fail
    go_meet
    exact⟨rfl,rfl⟩
   have h0':k=0:=by omega
   subst h0';go_wp2_with fail
   go_meet
   exact⟨rfl,rfl⟩
  obtain⟨rfl,rfl⟩:=hcut;have hsl2:=fun W=>Q4C (P:=zK) (t:=28) (e:=5) rfl rfl A1 n1 c1 k (k:Int) rfl (by omega) W
  have hsl3:=fun W=>Q0G (P:=zK) (t:=28) (e:=5) rfl rfl A1 n1 c1 k (k:Int) rfl (by omega) W
  have hr2:=HR1.out.to (cap:=c1) (show k<=n1 by omega) hc1;have hr3:=HR1.out.cut (cap:=c1) (show k<=n1 by omega) hc1;obtain⟨A2,hA2⟩:∃ A2,A2=(if c1=0 then A1 else A1.map (·.add 0)):=⟨_,rfl⟩;obtain⟨A3,hA3⟩:∃ A3,A3=(if c1=k then A1 else A1.map (·.add k)):=⟨_,rfl⟩;rw [Nat.mul_one,<- hA3] at hr3;rw [<- hA2] at hsl2 hr2;rw [<- hA3] at hsl3;rw [<- List.map_take] at hr2;rw [<- List.map_drop] at hr3;have HR2:=sH hr2;have HR3:=sH hr3;clear hA2 hA3 hr2 hr3;go_wp2_with fail
  go_loopw [2,38] (fun av iv wr=>∃ i:Nat,i<=k/\iv=.int .i64 i/\av=.int .i64 ((valB (r.take i):Nat):Int)/\wc=wr) (fun _ iv _=>k - (intOf iv).toNat)
  case atStart=>exact⟨0,by omega,rfl,rfl,rfl⟩
  obtain⟨i,hi,rfl,rfl,rfl⟩:=hrel;have hil:i<k->i<r.length:=fun h=>by have:=HRN.out; omega
  by_cases hik:i<k
  ·obtain⟨ad2,u,hA2,_,hu,hc2⟩:=HR2.out.at_ hik;subst hA2;have hu':u=vb (r[i]'(hil hik)):=by
    rw [zI,List.getElem?_take,if_pos hik,List.getElem?_eq_getElem (hil hik)] at hu;injection hu with hu
    exact hu.symm
   subst hu';have hv:valB (r.take (i+1))=valB (r.take i)*256+(r[i]'(hil hik)).toNat:=by rw [List.take_succ_eq_append_getElem (hil hik),Q49]
   have hvl:=Q8w i (r.take i) (by rw [List.length_take]; have:=HRN.out; omega);have hvl6:valB (r.take i)<256 ^ 6:=Nat.lt_of_lt_of_le hvl (Nat.pow_le_pow_right (by omega) (by omega));have h256:=(r[i]'(hil hik)).toNat_lt;have hc2':wc.cell? (ad2.add i)=some (.int .u8 (((r[i]'(hil hik)).toNat:Nat):Int)):=hc2;generalize (r[i]'(hil hik)).toNat=y at hv h256 hc2';obtain⟨x,hx⟩:∃ x,x=valB (r.take i):=⟨_,rfl⟩;rw [<- hx] at hv hvl6 ⊢;have HV:=sH hv;have HX:=sH hx;have hx6:x<281474976710656:=hvl6;clear hvl hvl6 hv hx hc2 hu;have hor:=or_byte x y hx6 h256;rw [<- HV.out] at hor;have hor':=hor;go_wp2_with fail
   go_roundw
   case rel=>exact⟨i+1,by omega,by go_num,hor'▸rfl,trivial⟩
   case measure=>simp [intOf]; omega
  obtain rfl:i=k:=by omega
  clear hsl2;have htk:tn (m :: r)=if maxN<valB (r.take i) then(0,[],9) else(valB (r.take i),r.drop i,0):=by
   unfold tn Q3M;simp only [<- HK.out];rw [if_neg h1,if_neg (by have:=HRN.out; omega),if_neg h3];by_cases hq:maxN<valB (r.take i)
   ·rw [if_pos hq,if_pos hq]
   rw [if_neg hq,if_neg hq]
  have hvl:=Q8w i (r.take i) (by rw [List.length_take]; have:=HRN.out; omega);have hx6:valB (r.take i)<72057594037927936:=Nat.lt_of_lt_of_le hvl (Nat.pow_le_pow_right (show 256 > 0 by omega) (show i<=7 by omega));clear hvl;generalize valB (r.take i)=x at htk hx6;by_cases hx9:maxN<x
  ·rw [if_pos hx9] at htk;have HT:=sH htk;clear htk;unfold maxN at hx9;go_wp2_with fail
   go_ret3
   exact⟨_,by rw [HT.out]; rfl,by rw [HT.out]; exact OwnB.nil _ _,HB1.out⟩
  rw [if_neg hx9] at htk;have HT:=sH htk;clear htk;unfold maxN at hx9;go_wp2_with fail
  refine(Q54 A3 (n1 - i) (c1 - i) (r.drop i) wc B HR3.out (by omega) (by omega)).mono ?_;rintro _ w5 ⟨v,rfl,hov,hb5⟩;have HO5:=sH hov;have HB5:=sH (HB1.out.trans (hb5.mono (by omega)));clear hov hb5;go_wp2_with fail
  go_ret3
  refine⟨v,by rw [HT.out]; rfl,?_,HB5.out⟩;rw [HT.out];exact HO5.out.more (by omega)
theorem Q5f (B:Nat) (xs:List UInt8):Q2w fun w v=>OwnB w B v xs:=fun _ _ _ h hb=>h.below hb
theorem Q8H (A:Option zA) (n c k:Nat) (xs:List UInt8) (w:zB) (B:Nat) (h:Q04 w B 1 A n (xs.map vb)) (hB:B<=w.heap.size) (hc:n<=c) (hcm:n<=140737488355328) (hk:k<=140737488355328) :
 Calls zK 84 #[.slice A n c,.int .i64 (k:Int)] w fun e w'=>∃ v v',e=.returned (.tuple #[v,v',.int .i64 (if n<k then 3 else 0)])/\OwnB w' w.heap.size v (if n<k then [] else xs.take k)/\OwnB w' w.heap.size v' (if n<k then [] else xs.drop k)/\zD w.heap.size w w':=by
 have hxn:xs.length=n:=by have:=h.1; simpa using this
 have HXN:=sH hxn;have H:=sH h;clear hxn h;by_cases hkn:n<k
 ·rw [if_pos hkn,if_pos hkn,if_pos hkn];go_enter Tryz.func84,Tryz.ntmps84
  go_wp2_with fail
  go_ret3
  exact⟨_,_,rfl,OwnB.nil _ _,OwnB.nil _ _,zM _ _⟩
 rw [if_neg hkn,if_neg hkn,if_neg hkn];have hsl2:=fun W=>Q4C (P:=zK) (t:=28) (e:=5) rfl rfl A n c k (k:Int) rfl (by omega) W
 have hsl3:=fun W=>Q0G (P:=zK) (t:=28) (e:=5) rfl rfl A n c k (k:Int) rfl (by omega) W
 have hr2:=H.out.to (cap:=c) (show k<=n by omega) hc;have hr3:=H.out.cut (cap:=c) (show k<=n by omega) hc;obtain⟨A2,hA2⟩:∃ A2,A2=(if c=0 then A else A.map (·.add 0)):=⟨_,rfl⟩;obtain⟨A3,hA3⟩:∃ A3,A3=(if c=k then A else A.map (·.add k)):=⟨_,rfl⟩;rw [Nat.mul_one,<- hA3] at hr3;rw [<- hA2] at hsl2 hr2;rw [<- hA3] at hsl3;rw [<- List.map_take] at hr2;rw [<- List.map_drop] at hr3;have HC2:=sH (fun W (hb:zD w.heap.size w W)=>Q54 A2 k c (xs.take k) W B (hr2.below (hb.mono hB)) (by have:=hb.size; omega) (by omega));have HC3:=sH (fun W (hb:zD w.heap.size w W)=>Q54 A3 (n - k) (c - k) (xs.drop k) W B (hr3.below (hb.mono hB)) (by have:=hb.size; omega) (by omega));clear hA2 hA3 hr2 hr3;go_enter Tryz.func84,Tryz.ntmps84
 go_upto_region 5 with fail
 refine Q17 8 23 (fun j W v=>match j with
  | 0 | 4=>v=.slice A n c
  | 1 | 5=>v=.int .i64 (k:Int)
  | 2=>v=.slice A2 k c
  | 3=>OwnB W w.heap.size v (xs.take k)
  | 6=>v=.slice A3 (n - k) (c - k)
  | _=>OwnB W w.heap.size v (xs.drop k)) [15,16,17,18,19,20,21,22] (by kernel_rfl) (by kernel_rfl) (by kernel_rfl) (by simp) (by kernel_rfl) (fun j=>?last) ?heads ?_
 case last =>
  match j with
  | 0 | 1 | 2 | 4 | 5 | 6=>exact Q2w.pure _
  | 3=>exact Q5f _ _
  | j+7=>exact Q5f _ _
 case heads =>
  simp only [tT];refine⟨?_,?_,?_,?_,?_,?_,?_,?_,trivial⟩;all_goals intro a W hb hkp hd
  ·have e0:(_:zC)=.slice A n c:=sK hkp 0;exact sV
  ·have e0:(_:zC)=.int .i64 (k:Int):=sK hkp 1;exact sV
  ·have e0:=sJ (hd 0) 15;have e1:=sJ (hd 1) 16;exact sV
  ·have e0:=sJ (hd 2) 17;refine Q1m rfl 48 #[.slice A2 k c] (by go_simp) ((HC2.out W hb).mono ?_);rintro e w' ⟨v,rfl,ho,hb'⟩;exact⟨v,rfl,hb',ho.more hb.size⟩
  ·have e0:(_:zC)=.slice A n c:=sK hkp 0;exact sV
  ·have e0:(_:zC)=.int .i64 (k:Int):=sK hkp 1;exact sV
  ·have e0:=sJ (hd 4) 19;have e1:=sJ (hd 5) 20;exact sV
  have e0:=sJ (hd 6) 21;refine Q1m rfl 48 #[.slice A3 (n - k) (c - k)] (by go_simp) ((HC3.out W hb).mono ?_);rintro e w' ⟨v,rfl,ho,hb'⟩;exact⟨v,rfl,hb',ho.more hb.size⟩
 intro f W hb hd;have h3:OwnB W w.heap.size (f 18) (xs.take k):=hd 3 (by omega) _ 18 rfl rfl;have h7:OwnB W w.heap.size (f 22) (xs.drop k):=hd 7 (by omega) _ 22 rfl rfl;have H3:=sH h3;have H7:=sH h7;have HB:=sH hb;clear h3 h7 hd hb;simp only [Q19,tU];try simp only [Act.put,sA]
 go_wp2_with fail
 go_ret3
 exact⟨_,_,rfl,H3.out,H7.out,HB.out⟩
def ts (b:List UInt8) (most:Nat):List UInt8×List UInt8×Nat:=match takeS b most with
 | .error e=>([],[],e)
 | .ok (s,r)=>(s,r,0)
theorem ts_eq (b:List UInt8) (most:Nat):ts b most=if (tn b).2.2≠0 then([],[],(tn b).2.2) else if min most 65536<(tn b).1 then([],[],5) else if (tn b).2.1.length<(tn b).1 then([],[],3) else((tn b).2.1.take (tn b).1,(tn b).2.1.drop (tn b).1,0):=by
 unfold ts takeS tn;cases hb:Q3M b with
 | error e =>
  have he:e≠0:=by
   unfold Q3M at hb;match b,hb with
   | [],hb=>injection hb with hb; omega
   | m :: r,hb =>
    simp only at hb;split at hb
    ·injection hb with hb; omega
    split at hb
    ·injection hb with hb; omega
    split at hb
    ·injection hb with hb; omega
    split at hb
    ·injection hb with hb; omega
    cases hb
  simp [he]
 | ok p =>
  obtain⟨n,r⟩:=p;simp only [ne_eq,not_true_eq_false,if_false];unfold takeF;by_cases h1:min most 65536<n
  ·rw [if_pos h1,if_pos h1]
  rw [if_neg h1,if_neg h1];by_cases h2:r.length<n
  ·rw [if_pos h2,if_pos h2]
  rw [if_neg h2,if_neg h2]
theorem QaA (b:List UInt8):(tn b).2.1.length<=b.length:=by
 unfold tn;cases hb:Q3M b with
 | error e=>simp
 | ok p =>have:=(Q4k hb).1;have h:=congrArg List.length this;rw [zL] at h;show p.2.length<=_;omega
theorem tn_num (b:List UInt8):(tn b).1<=maxN:=by
 unfold tn;cases hb:Q3M b with
 | error e=>simp
 | ok p=>exact(Q4k (r:=p.2) (n:=p.1) hb).2
theorem tn_err (b:List UInt8):(tn b).2.2<10:=by
 unfold tn Q3M;match b with
 | []=>simp
 | m :: r =>
  simp only;by_cases h1:7<m.toNat
  ·rw [if_pos h1]; simp
  rw [if_neg h1];by_cases h2:r.length<m.toNat
  ·rw [if_pos h2]; simp
  rw [if_neg h2];by_cases h3:0<m.toNat/\r.head?=some 0
  ·rw [if_pos h3]; simp
  rw [if_neg h3];by_cases h4:maxN<valB (r.take m.toNat)
  ·rw [if_pos h4]; simp
  rw [if_neg h4]; simp
theorem Q50 (A:Option zA) (n c most:Nat) (xs:List UInt8) (w:zB) (B:Nat) (h:Q04 w B 1 A n (xs.map vb)) (hB:B<=w.heap.size) (hc:n<=c) (hcm:n<=140737488355328) (hm:most<=65536) :
 Calls zK 56 #[.slice A n c,.int .i64 (most:Int)] w fun e w'=>∃ v v',e=.returned (.tuple #[v,v',.int .i64 ((ts xs most).2.2:Int)])/\OwnB w' w.heap.size v (ts xs most).1/\OwnB w' w.heap.size v' (ts xs most).2.1/\zD w.heap.size w w':=by
 have hxn:xs.length=n:=by have:=h.1; simpa using this
 have HTN:=sH (Q5K A n c xs w B h hB hc hcm);have hts:=ts_eq xs most;have htl:=QaA xs;have htm:=tn_num xs;have hte:=tn_err xs;obtain⟨p,hp⟩:∃ p,p=tn xs:=⟨_,rfl⟩;rw [<- hp] at HTN hts htl htm hte;obtain⟨k,r,e⟩:=p;simp only at HTN hts htl htm hte;have HTS:=sH hts;have HTL:=sH htl;unfold maxN at htm;rw [hxn] at htl;have HXN:=sH hxn;clear h hts hp hxn;go_enter Tryz.func56,Tryz.ntmps56
 go_wp2_with fail
 refine HTN.out.mono ?_;rintro _ w2 ⟨v,rfl,hov,hb2⟩;have HO2:=sH hov;have HB2:=sH hb2;have hs2:=hb2.size;clear hov hb2;by_cases he:e=0
 ·subst he;obtain⟨Av,cv,rfl,hvc,hvm,hvr,hvB⟩:=Q0m HO2.out;by_cases h5:min most 65536<k
  ·have hq:ts xs most=([],[],5):=by rw [HTS.out,if_neg (by omega),if_pos h5]
   have HQ:=sH hq;clear hq hvr;have hmk:most<k:=by omega
   have hmin:min (most:Int) 65536=(most:Int):=by omega
   go_wp2_with fail
   go_ret3
   exact⟨_,_,by rw [HQ.out]; rfl,by rw [HQ.out]; exact OwnB.nil _ _,by rw [HQ.out]; exact OwnB.nil _ _,HB2.out⟩
  have hmk:¬ most<k:=by omega
  have hmin:min (most:Int) 65536=(most:Int):=by omega
  have hq:ts xs most=if r.length<k then([],[],3) else(r.take k,r.drop k,0):=by rw [HTS.out,if_neg (by omega),if_neg h5]
  have HQ:=sH hq;have HVR:=sH hvr;clear hq hvr;obtain⟨rl,hrl⟩:∃ rl,rl=r.length:=⟨_,rfl⟩;rw [<- hrl] at HVR hvc htl HQ ⊢;have HRL:=sH hrl;clear hrl;go_wp2_with fail
  refine(Q8H Av rl cv k r w2 _ HVR.out (Nat.le_refl _) hvc (by omega) (by omega)).mono ?_;rintro _ w3 ⟨v,v',rfl,ho,ho',hb3⟩;have HO3:=sH (ho.more (B':=w.heap.size) hs2);have HO4:=sH (ho'.more (B':=w.heap.size) hs2);have HB3:=sH (HB2.out.trans (hb3.mono hs2));clear ho ho' hb3;by_cases h6:rl<k
  ·rw [if_pos h6] at HQ;rw [if_pos h6] at HO3 HO4 ⊢;go_wp2_with fail
   go_ret3
   exact⟨_,_,by rw [HQ.out]; rfl,by rw [HQ.out]; exact HO3.out,by rw [HQ.out]; exact HO4.out,HB3.out⟩
  rw [if_neg h6] at HQ;rw [if_neg h6] at HO3 HO4 ⊢;go_wp2_with fail
  go_ret3
  exact⟨_,_,by rw [HQ.out]; rfl,by rw [HQ.out]; exact HO3.out,by rw [HQ.out]; exact HO4.out,HB3.out⟩
 have hq:ts xs most=([],[],e):=by rw [HTS.out,if_pos he]
 have HQ:=sH hq;clear hq;have he':¬ (e:Int)=0:=by omega
 go_wp2_with fail
 go_ret3
 exact⟨_,_,by rw [HQ.out]; rfl,by rw [HQ.out]; exact OwnB.nil _ _,by rw [HQ.out]; exact OwnB.nil _ _,HB2.out⟩
end
section
open Go.RowKit
attribute [local irreducible] wpList
structure Wish where
 client:Int
 stamp:Int
 group:Int
 epoch:Int
 kind:Int
 block:Int
 data:List UInt8
 old:Int
 new:Int
 next:List Int
def Q0g (x:Wish) (A:Option zA) (n c:Nat) (A':Option zA) (n' c':Nat):Array zC :=#[.int .i64 x.client,.int .i64 x.stamp,.int .i64 x.group,.int .i64 x.epoch,.int .i64 x.kind,.int .i64 x.block,.slice A n c,.int .i64 x.old,.int .i64 x.new,.slice A' n' c']
def I64 (z:Int):Prop:=-9223372036854775808<=z/\z<=9223372036854775807
structure Q1q (w:zB) (B:Nat) (x:Wish) (A:Option zA) (n c:Nat) (A':Option zA) (n' c':Nat):Prop where
 data:Q04 w B 1 A n (x.data.map vb)
 dc:n<=c
 dm:n<=140737488355328
 next:Q04 w B 1 A' n' (x.next.map vn)
 nc:n'<=c'
 nm:n'<=17592186044416
 rng:I64 x.client/\I64 x.stamp/\I64 x.group/\I64 x.epoch/\I64 x.kind/\I64 x.block/\I64 x.old/\I64 x.new/\∀ z,z∈x.next->I64 z
theorem Q1q.below {w w':zB} {B:Nat} {x:Wish} {A:Option zA} {n c:Nat} {A':Option zA} {n' c':Nat} (h:Q1q w B x A n c A' n' c') (hb:zD B w w'):Q1q w' B x A n c A' n' c' :=⟨h.data.below hb,h.dc,h.dm,h.next.below hb,h.nc,h.nm,h.rng⟩
theorem Q1q.dlen {w:zB} {B:Nat} {x:Wish} {A:Option zA} {n c:Nat} {A':Option zA} {n' c':Nat} (h:Q1q w B x A n c A' n' c'):x.data.length=n:=by have:=h.data.1; simpa using this
theorem Q1q.nlen {w:zB} {B:Nat} {x:Wish} {A:Option zA} {n c:Nat} {A':Option zA} {n' c':Nat} (h:Q1q w B x A n c A' n' c'):x.next.length=n':=by have:=h.next.1; simpa using this
def Q1i:Int->List Int->Bool
 | _,[]=>true
 | last,n :: t=>decide (last<n/\n<=28) && Q1i n t
def Q2m (l:List Int):Bool:=decide (l.length % 3=1/\l.length<=7) && Q1i 0 l
def MayP (x:Wish):Prop:=0<=x.epoch/\x.epoch<=1048576/\(
 (x.kind=5/\x.client=0/\x.stamp=0/\x.block=0/\x.data.length=0/\x.old=0/\x.new=0/\1<=x.group/\x.group<=2/\Q2m x.next=true) \/
 (x.kind≠5/\31<=x.client/\x.client<=34/\1<=x.stamp/\x.stamp<=9007199254740991/\x.next.length=0/\(
  ((x.kind=1/\x.data.length=0\/x.kind=2/\x.data.length=16)/\1<=x.group/\x.group<=2/\0<=x.block/\x.block<=7/\x.old=0/\x.new=0) \/
  ((x.kind=3/\x.old=0/\x.new=0\/x.kind=4/\1<=x.old/\x.old<=28/\1<=x.new/\x.new<=28/\x.old≠x.new)/\x.group=0/\x.epoch=0/\1<=x.block/\x.block<=2/\x.data.length=0))))
instance (x:Wish):Decidable (MayP x):=by unfold MayP; infer_instance
def mayB (x:Wish):Bool:=decide (MayP x)
theorem Q9A (n l m:Int) (w:zB):Calls zK 98 #[.int .i64 n,.int .i64 l,.int .i64 m] w fun e w'=>e=.returned (.bool (decide (l<=n/\n<=m)))/\w=w':=by
 by_cases h:l<=n
 ·go_enter Tryz.func98,Tryz.ntmps98
  go_wp2
  go_ret
  exact⟨Q0C (by simp [h]),rfl⟩
 have h':¬ (l<=n/\n<=m):=fun hh=>h hh.1
 rw [decide_eq_false h'];clear h';go_enter Tryz.func98,Tryz.ntmps98
 go_wp2
 go_ret
 exact⟨rfl,rfl⟩
theorem crew_any (A:Option zA) (n c:Nat) (zs:List Int) (w:zB) (B:Nat) (h:Q04 w B 1 A n (zs.map vn)) (hn:n<=17592186044416) :
 Calls zK 99 #[.slice A n c] w fun e w'=>e=.returned (.bool (Q2m zs))/\w=w':=by
 have hzn:zs.length=n:=by have:=h.1; simpa using this
 have H:=sH h;have HZN:=sH hzn;clear h hzn;by_cases h1:n % 3=1
 ·by_cases h2:n<=7
  ·have HR:=sH (show Q2m zs=Q1i 0 zs by unfold Q2m; rw [decide_eq_true (by rw [HZN.out]; exact⟨h1,h2⟩),Bool.true_and]);go_enter Tryz.func99,Tryz.ntmps99
   go_wp2_with fail
   go_loopw [3,17] (fun lv iv wr=>∃ (i:Nat) (last:Int),i<=n/\lv=.int .i64 last/\iv=.int .i64 i/\w=wr/\Q2m zs=Q1i last (zs.drop i)) (fun _ iv _=>n - (intOf iv).toNat)
   case atStart=>exact⟨0,0,by omega,rfl,rfl,rfl,HR.out⟩
   obtain⟨i,last,hi,rfl,rfl,rfl,hr⟩:=hrel;by_cases hin:i<n
   ·obtain⟨ad,u,hA,hadb,hxi,hcell⟩:=H.out.at_ hin;subst hA;have hil:i<zs.length:=by have:=HZN.out; omega
    have hu:u=.int .i64 zs[i]:=by
     rw [zI,List.getElem?_eq_getElem hil] at hxi;injection hxi with hxi
     exact hxi.symm
    subst hu;rw [List.drop_eq_getElem_cons hil] at hr;generalize zs[i]=z at hr hcell;simp only [Q1i] at hr;clear hxi;by_cases hz:last<z/\z<=28
    ·rw [decide_eq_true hz,Bool.true_and] at hr;have HRR:=sH hr;clear hr;obtain⟨hz1,hz2⟩:=hz;have hz3:¬ z<=last:=by omega
     go_wp2_with fail
     go_roundw
     case rel=>exact⟨i+1,z,by omega,rfl,by go_num,trivial,HRR.out⟩
     case measure=>simp [intOf]; omega
    rw [decide_eq_false hz,Bool.false_and] at hr;have HRR:=sH hr;clear hr;by_cases hz1:z<=last
    ·go_wp2_with fail
     go_ret
     exact⟨by rw [HRR.out]; rfl,rfl⟩
    have hz2:28<z:=by omega
    go_wp2_with fail
    go_ret
    exact⟨by rw [HRR.out]; rfl,rfl⟩
   obtain rfl:i=n:=by omega
   rw [List.drop_of_length_le (by have:=HZN.out; omega)] at hr;have HRR:=sH hr;clear hr;go_wp2_with fail
   go_ret
   exact⟨by rw [HRR.out]; rfl,rfl⟩
  have HR:=sH (show Q2m zs=false by unfold Q2m; rw [decide_eq_false (by rw [HZN.out]; exact fun h=>h2 h.2),Bool.false_and]);go_enter Tryz.func99,Tryz.ntmps99
  go_wp2_with fail
  go_ret
  exact⟨by rw [HR.out]; rfl,rfl⟩
 have HR:=sH (show Q2m zs=false by unfold Q2m; rw [decide_eq_false (by rw [HZN.out]; exact fun h=>h1 h.1),Bool.false_and]);go_enter Tryz.func99,Tryz.ntmps99
 go_wp2_with fail
 go_ret
 exact⟨by rw [HR.out]; rfl,rfl⟩
theorem may_any (x:Wish) (A:Option zA) (n c:Nat) (A':Option zA) (n' c':Nat) (w:zB) (B:Nat) (h:Q1q w B x A n c A' n' c') (hB:B<=w.heap.size) :
 Calls zK 74 #[.agg (Q0g x A n c A' n' c')] w fun e w'=>e=.returned (.bool (mayB x))/\zD w.heap.size w w':=by
 have hdl:=h.dlen;have hnl:=h.nlen;have HCR:=sH (fun W (hb:zD w.heap.size w W)=>crew_any A' n' c' x.next W B (h.next.below (hb.mono hB)) h.nm);obtain⟨client,stamp,group,epoch,kind,block,data,old,new,next⟩:=x;simp only at hdl hnl HCR;obtain⟨cr,hcr⟩:∃ cr,cr=Q2m next:=⟨_,rfl⟩;have HMB:=sH (show mayB ⟨client,stamp,group,epoch,kind,block,data,old,new,next⟩=decide (0<=epoch/\epoch<=1048576/\(
 (kind=5/\client=0/\stamp=0/\block=0/\n=0/\old=0/\new=0/\1<=group/\group<=2/\cr=true) \/
 (kind≠5/\31<=client/\client<=34/\1<=stamp/\stamp<=9007199254740991/\n'=0/\(
  ((kind=1/\n=0\/kind=2/\n=16)/\1<=group/\group<=2/\0<=block/\block<=7/\old=0/\new=0) \/
  ((kind=3/\old=0/\new=0\/kind=4/\1<=old/\old<=28/\1<=new/\new<=28/\old≠new)/\group=0/\epoch=0/\1<=block/\block<=2/\n=0))))) by
  unfold mayB MayP; simp only [hdl,hnl,<- hcr])
 rw [<- hcr] at HCR;clear hdl hnl hcr h;unfold Q0g;simp only;go_enter Tryz.func74,Tryz.ntmps74
 go_wp2_with fail
 have hk:=Blk.new w 31 #[.int .i64 client,.int .i64 stamp,.int .i64 group,.int .i64 epoch,.int .i64 kind,.int .i64 block,.slice A n c,.int .i64 old,.int .i64 new,.slice A' n' c'];have hb:zD w.heap.size w (w.alloc (.cells #[.int .i64 client,.int .i64 stamp,.int .i64 group,.int .i64 epoch,.int .i64 kind,.int .i64 block,.slice A n c,.int .i64 old,.int .i64 new,.slice A' n' c'] 31)):=(zM _ _).alloc (Nat.le_refl _) _;generalize w.alloc _=w1 at hk hb ⊢;have c0:=hk.cell 0;have c1:=hk.cell 1;have c2:=hk.cell 2;have c3:=hk.cell 3;have c4:=hk.cell 4;have c5:=hk.cell 5;have c6:=hk.cell 6;have c7:=hk.cell 7;have c8:=hk.cell 8;have c9:=hk.cell 9;simp only [List.getElem?_toArray,List.getElem?_cons_zero,List.getElem?_cons_succ] at c0 c1 c2 c3 c4 c5 c6 c7 c8 c9;have HB:=sH hb;have hcr:=HCR.out w1 hb;have HCW:=sH hcr;clear hk hb hcr;obtain⟨g,hg⟩:∃ g,g=w.heap.size:=⟨_,rfl⟩;rw [<- hg] at c0 c1 c2 c3 c4 c5 c6 c7 c8 c9 ⊢;clear hg;go_wp2_with (first
  | (go_at_call 98; refine(Q9A _ _ _ _).mono ?_; rintro _ _ ⟨rfl,rfl⟩)
  | (go_at_call 99; refine HCW.out.mono ?_; rintro _ _ ⟨rfl,rfl⟩))
 all_goals go_ret
 all_goals refine⟨?_,HB.out⟩
 all_goals rw [HMB.out]
 all_goals refine Q0C ?_
 all_goals rw [Bool.eq_iff_iff]
 all_goals clear HCR HCW HMB HB c0 c1 c2 c3 c4 c5 c6 c7 c8 c9
 all_goals cases cr
 all_goals simp at *
 all_goals (try omega)
end
section
open Go.RowKit
def Q2q (l:List Int):List UInt8:=l.flatMap fun z=>numB z.toNat
def NumI (z:Int):Prop:=0<=z/\z<=9007199254740991
theorem Qb9 {l:List Int} (h:∀ z,z∈l->NumI z):(Q2q l).length<=8*l.length:=by
 unfold Q2q
 induction l with
 | nil=>simp
 | cons a t ih =>have h1:=h a (by simp);unfold NumI at h1;have h2:=(Q3s (n:=a.toNat) (by unfold maxN; omega)).2;have h3:=ih (fun z hz=>h z (by simp [hz]));rw [List.flatMap_cons,zL,zN];omega
theorem Q0l (w:zB) (vs:Array zC) (t:TypeId):Q04 (w.alloc (.cells vs t)) (w.heap.size+1) 1 (some ⟨w.heap.size,0,none⟩) vs.size vs.toList:=by
 refine⟨by simp,fun _=>⟨_,rfl,Nat.lt_succ_self _,fun j u hu=>?_⟩⟩;have hk:Blk (w.alloc (.cells vs t)) w.heap.size t vs:=Blk.newAt rfl;have:=hk.cell j;rw [Array.getElem?_toList] at hu;rw [hu] at this;unfold Addr.add;split
 ·rename_i h0; subst h0; exact this
 simpa using this
theorem Q3R (x:Wish) (A:Option zA) (n c:Nat) (A':Option zA) (n' c':Nat) (w:zB) (B:Nat) (h:Q1q w B x A n c A' n' c') (hB:B<=w.heap.size) :
 Calls zK 44 #[.agg (Q0g x A n c A' n' c')] w fun e w'=>e=.returned (.int .i64 (if mayB x=true then 0 else 2))/\zD w.heap.size w w':=by
 have HM:=sH (fun W (hb:zD w.heap.size w W)=>may_any x A n c A' n' c' W B (h.below (hb.mono hB)) (by have:=hb.size; omega));clear h;obtain⟨mb,hmb⟩:∃ b,b=mayB x:=⟨_,rfl⟩;rw [<- hmb] at HM ⊢;clear hmb;unfold Q0g at HM ⊢;go_enter Tryz.func44,Tryz.ntmps44
 go_wp2_with fail
 have hb:zD w.heap.size w (w.alloc (.cells #[.int .i64 x.client,.int .i64 x.stamp,.int .i64 x.group,.int .i64 x.epoch,.int .i64 x.kind,.int .i64 x.block,.slice A n c,.int .i64 x.old,.int .i64 x.new,.slice A' n' c'] 31)):=(zM _ _).alloc (Nat.le_refl _) _;refine(HM.out _ hb).mono ?_;rintro _ w2 ⟨rfl,hb2⟩;have HB2:=sH (hb.trans (hb2.mono (by simp)));clear hb hb2;cases mb with
 | true =>
  go_wp2_with fail
  go_ret
  exact⟨rfl,HB2.out⟩
 | false =>
  go_wp2_with fail
  go_ret
  exact⟨rfl,HB2.out⟩
end
section
structure Ans where
 err:Nat
 data:List UInt8
 epoch:Nat
 nodes:List Int
def okA:Ans:=⟨0,[],0,[]⟩
def errA (e n:Nat):Ans:=⟨e,[],n,[]⟩
def Q2I:Nat->List UInt8->Option (List Nat)
 | 0,b=>if b=[] then some [] else none
 | f+1,b=>if b=[] then some [] else if (tn b).2.2≠0 then none else(Q2I f (tn b).2.1).map (fun l=>(tn b).1 :: l)
def Q28 (b:List UInt8):Option (List Nat):=Q2I b.length b
theorem Q5j {b:List UInt8} (h:(tn b).2.2=0):(tn b).2.1.length+1<=b.length:=by
 unfold tn at h ⊢;cases hb:Q3M b with
 | error e =>
  rw [hb] at h;simp only at h;subst h
  exfalso
  unfold Q3M at hb;match b,hb with
  | [],hb=>injection hb with hb; omega
  | m :: r,hb =>
   simp only at hb;split at hb
   ·injection hb with hb; omega
   split at hb
   ·injection hb with hb; omega
   split at hb
   ·injection hb with hb; omega
   split at hb
   ·injection hb with hb; omega
   cases hb
 | ok p =>have h1:=Q4k (n:=p.1) (r:=p.2) hb;have h2:=congrArg List.length h1.1;rw [zL] at h2;have:=(Q3s h1.2).1;show p.2.length+1<=_;omega
theorem Q5C:∀ (f g:Nat) (b:List UInt8),b.length<=f->b.length<=g->Q2I f b=Q2I g b
 | 0,0,b,_,_=>rfl
 | 0,g+1,b,hf,_=>by have:b=[]:=zF (by omega);subst this;simp [Q2I]
 | f+1,0,b,_,hg=>by have:b=[]:=zF (by omega);subst this;simp [Q2I]
 | f+1,g+1,b,hf,hg=>by
  simp only [Q2I];by_cases hb:b=[]
  ·rw [if_pos hb,if_pos hb]
  rw [if_neg hb,if_neg hb];by_cases he:(tn b).2.2≠0
  ·rw [if_pos he,if_pos he]
  rw [if_neg he,if_neg he];have h1:=Q5j (b:=b) (by omega);rw [Q5C f g _ (by omega) (by omega)]
theorem QaE:Q28 []=some []:=rfl
theorem Qam {b:List UInt8} (hb:b≠[]) (he:(tn b).2.2≠0):Q28 b=none:=by
 unfold Q28;cases b with
 | nil=>exact absurd rfl hb
 | cons x t=>simp only [zN,Q2I,if_neg hb,if_pos he]
theorem Q9U {b:List UInt8} (hb:b≠[]) (he:(tn b).2.2=0):Q28 b=(Q28 (tn b).2.1).map (fun l=>(tn b).1 :: l):=by
 unfold Q28;cases b with
 | nil=>exact absurd rfl hb
 | cons x t =>have h1:=Q5j (b:=x :: t) he;simp only [zN,Q2I,if_neg hb];rw [if_neg (by omega),Q5C t.length (tn (x :: t)).2.1.length _ (by simp at h1; omega) (Nat.le_refl _)]
def Q3A:Nat->List UInt8->LL->LL×List UInt8×Nat
 | 0,b,acc=>(acc,b,0)
 | f+1,b,acc=>if (ts b 128).2.2≠0 then(acc,b,(ts b 128).2.2) else Q3A f (ts b 128).2.1 (acc++[(ts b 128).1])
def insL (z:Int):List Int->List Int
 | []=>[z]
 | x :: t=>if z<x then z :: x :: t else x :: insL z t
def Q3x (l:List Int) (o:Int):List Int:=l.filter (fun x=>!decide (x=o))
def Q1D (l:List Int) (o n:Int):List Int:=insL n (Q3x l o)
def nowL (l:List Int):List (Int×Int)->List Int
 | []=>l
 | m :: t=>nowL (Q1D l m.1 m.2) t
def Q0U (l:List Int):List (Int×Int)->List (List Int)
 | []=>[l]
 | m :: t=>l :: Q0U (Q1D l m.1 m.2) t
structure OkC (f:Nat) (l:List Int):Prop where
 faults:f<=2
 len:l.length=3*f+1
 up:Q1i 0 l=true
theorem Q2W:∀ (l:List Int) (a:Int),Q1i a l=true->l.Pairwise (· < ·)/\∀ x,x∈l->a<x/\x<=28
 | [],_,_=>⟨List.Pairwise.nil,fun x hx=>by cases hx⟩
 | y :: t,a,h=>by
  unfold Q1i at h;rw [zQ] at h;have h1:=of_decide_eq_true h.1;have h2:=Q2W t y h.2;refine⟨List.Pairwise.cons (fun x hx=>(h2.2 x hx).1) h2.1,fun x hx=>?_⟩;rcases List.mem_cons.1 hx with rfl | hx
  ·exact h1
  have:=h2.2 x hx; omega
theorem Q6I:∀ (l:List Int) (a:Int),l.Pairwise (· < ·)->(∀ x,x∈l->a<x/\x<=28)->Q1i a l=true
 | [],_,_,_=>rfl
 | y :: t,a,h,hb=>by have hp:=List.pairwise_cons.1 h;have h1:=hb y (zO ..);unfold Q1i;rw [decide_eq_true ⟨h1.1,h1.2⟩,Bool.true_and];exact Q6I t y hp.2 fun x hx=>⟨hp.1 x hx,(hb x (zP _ hx)).2⟩
theorem OkC.pair {f:Nat} {l:List Int} (h:OkC f l):l.Pairwise (· < ·):=(Q2W l 0 h.up).1
theorem OkC.bound {f:Nat} {l:List Int} (h:OkC f l) {x:Int} (hx:x∈l):0<x/\x<=28:=(Q2W l 0 h.up).2 x hx
theorem OkC.short {f:Nat} {l:List Int} (h:OkC f l):1<=l.length/\l.length<=7:=by have:=h.faults; have:=h.len; omega
theorem OkC.crew {f:Nat} {l:List Int} (h:OkC f l):Q2m l=true:=by unfold Q2m;rw [h.up,Bool.and_true];have:=h.short;have:=h.len;exact decide_eq_true ⟨by omega,by omega⟩
theorem Qal (z:Int):∀ (a b:List Int),(∀ x,x∈a->¬ z<x)->(∀ x,b.head?=some x->z<x)->insL z (a++b)=a++z :: b
 | [],[],_,_=>rfl
 | [],x :: t,_,hb=>by show (if z<x then z :: x :: t else x :: insL z t)=z :: x :: t;rw [if_pos (hb x rfl)]
 | x :: a,b,ha,hb=>by show (if z<x then z :: x :: (a++b) else x :: insL z (a++b))=x :: (a++z :: b);rw [if_neg (ha x (zO ..)),Qal z a b (fun y hy=>ha y (zP _ hy)) hb]
theorem Q43 (z x:Int):∀ (l:List Int),x∈insL z l <-> x=z\/x∈l
 | []=>by simp [insL]
 | y :: t=>by
  unfold insL;split
  ·simp
  simp only [List.mem_cons];rw [Q43 z x t];constructor
  ·rintro (h | h | h)
   ·exact .inr (.inl h)
   ·exact .inl h
   exact .inr (.inr h)
  rintro (h | h | h)
  ·exact .inr (.inl h)
  ·exact .inl h
  exact .inr (.inr h)
theorem Q2S (z:Int):∀ (l:List Int),(insL z l).length=l.length+1
 | []=>rfl
 | y :: t=>by
  unfold insL;split
  ·rfl
  simp [Q2S z t]
theorem Q7R (z:Int):∀ (l:List Int),l.Pairwise (· < ·)->¬ z∈l->(insL z l).Pairwise (· < ·)
 | [],_,_=>by simp [insL]
 | y :: t,h,hz=>by
  have hp:=List.pairwise_cons.1 h;unfold insL;split
  ·rename_i hlt;refine List.Pairwise.cons (fun x hx=>?_) h;rcases List.mem_cons.1 hx with rfl | hx
   ·exact hlt
   have:=hp.1 x hx; omega
  rename_i hlt;have hne:z≠y:=fun e=>hz (by rw [e]; exact zO ..)
  refine List.Pairwise.cons (fun x hx=>?_) (Q7R z t hp.2 fun hm=>hz (zP _ hm));rcases(Q43 z x t).1 hx with rfl | hx
  ·omega
  exact hp.1 x hx
theorem Q3V {l:List Int} {o x:Int}:x∈Q3x l o <-> x∈l/\x≠o:=by
 unfold Q3x;rw [List.mem_filter]
 simp
theorem Q6o {l:List Int} (o:Int) (h:l.Pairwise (· < ·)):(Q3x l o).Pairwise (· < ·):=h.filter _
theorem Q5n:∀ (l:List Int) (o:Int),l.Pairwise (· < ·)->o∈l->(Q3x l o).length+1=l.length
 | [],_,_,h=>by cases h
 | y :: t,o,h,hm=>by
  have hp:=List.pairwise_cons.1 h;unfold Q3x;by_cases hy:y=o
  ·rw [List.filter_cons_of_neg (by simp [hy])];have:t.filter (fun x=>!decide (x=o))=t:=List.filter_eq_self.2 fun x hx=>by
    have:=hp.1 x hx
    simp
    omega
   rw [this]; rfl
  rw [List.filter_cons_of_pos (by simp [hy])];have:=Q5n t o hp.2 (by
   rcases List.mem_cons.1 hm with e | e
   ·exact absurd e.symm hy
   exact e)
  unfold Q3x at this;simp only [zN];omega
theorem OkC.repl {f:Nat} {l:List Int} (h:OkC f l) {o n:Int} (ho:o∈l) (hn:¬ n∈l) (h1:1<=n) (h2:n<=28):OkC f (Q1D l o n):=by
 have hl:=Q5n l o h.pair ho;have hnd:¬ n∈Q3x l o:=fun hm=>hn (Q3V.1 hm).1
 refine⟨h.faults,by unfold Q1D; rw [Q2S]; have:=h.len; omega,Q6I _ 0 (Q7R n _ (Q6o o h.pair) hnd) fun x hx=>?_⟩;rcases(Q43 n x _).1 hx with rfl | hx
 ·omega
 exact h.bound (Q3V.1 hx).1
theorem QaG {l:List Int} {o n x:Int}:x∈Q1D l o n <-> x=n\/(x∈l/\x≠o):=by unfold Q1D;rw [Q43,Q3V]
theorem Q3F:∀ (l:List Int) (a:List (Int×Int)) (o n:Int),nowL l (a++[(o,n)])=Q1D (nowL l a) o n
 | _,[],_,_=>rfl
 | l,m :: t,o,n=>Q3F (Q1D l m.1 m.2) t o n
theorem Q3U:∀ (l:List Int) (a:List (Int×Int)) (o n:Int),Q0U l (a++[(o,n)])=Q0U l a++[Q1D (nowL l a) o n]
 | _,[],_,_=>rfl
 | l,m :: t,o,n=>by show l :: Q0U _ (t++[(o,n)])=l :: (Q0U _ t++[_]);rw [Q3U];rfl
theorem Q6y:∀ (l:List Int) (a:List (Int×Int)),(Q0U l a).length=a.length+1
 | _,[]=>rfl
 | l,m :: t=>by show (Q0U (Q1D l m.1 m.2) t).length+1=_;rw [Q6y];rfl
def Q0K (l:List Int):List (Int×Int)->Prop
 | []=>True
 | m :: t=>m.1∈l/\¬ m.2∈l/\1<=m.2/\m.2<=28/\Q0K (Q1D l m.1 m.2) t
theorem Q0K.now {f:Nat}:∀ {l:List Int} {a:List (Int×Int)},OkC f l->Q0K l a->OkC f (nowL l a)
 | _,[],h,_=>h
 | l,m :: t,h,hm=>Q0K.now (l:=Q1D l m.1 m.2) (a:=t) (h.repl hm.1 hm.2.1 hm.2.2.1 hm.2.2.2.1) hm.2.2.2.2
theorem Q0K.take:∀ {l:List Int} {a:List (Int×Int)} (i:Nat),Q0K l a->Q0K l (a.take i)
 | _,[],i,_=>by simp [Q0K]
 | _,_ :: _,0,_=>trivial
 | _,m :: t,i+1,h=>⟨h.1,h.2.1,h.2.2.1,h.2.2.2.1,Q0K.take i h.2.2.2.2⟩
theorem Q0K.app:∀ {l:List Int} {a:List (Int×Int)} {o n:Int},Q0K l a->o∈nowL l a->¬ n∈nowL l a->1<=n->n<=28->Q0K l (a++[(o,n)])
 | _,[],_,_,_,h1,h2,h3,h4=>⟨h1,h2,h3,h4,trivial⟩
 | _,m :: t,_,_,h,h1,h2,h3,h4=>⟨h.1,h.2.1,h.2.2.1,h.2.2.2.1,Q0K.app h.2.2.2.2 h1 h2 h3 h4⟩
theorem Q0K.mem_old:∀ {l:List Int} {a:List (Int×Int)} {f:Nat},OkC f l->Q0K l a->∀ m,m∈a->1<=m.1/\m.1<=28/\1<=m.2/\m.2<=28
 | _,[],_,_,_,_,hm=>by cases hm
 | _,m :: t,f,hc,h,x,hx=>by
  rcases List.mem_cons.1 hx with rfl | hx
  ·have:=hc.bound h.1;exact⟨by omega,by omega,h.2.2.1,h.2.2.2.1⟩
  exact Q0K.mem_old (hc.repl h.1 h.2.1 h.2.2.1 h.2.2.2.1) h.2.2.2.2 x hx
theorem Q9r:∀ {l:List Int} {a:List (Int×Int)} {x:Int},x∈nowL l a->x∈l\/∃ m,m∈a/\m.2=x
 | _,[],_,h=>.inl h
 | l,m :: t,x,h=>by
  rcases Q9r (l:=Q1D l m.1 m.2) (a:=t) h with h | ⟨q,h1,h2⟩
  ·rcases QaG.1 h with h | h
   ·exact .inr ⟨m,zO ..,h.symm⟩
   exact .inl h.1
  exact .inr ⟨q,zP _ h1,h2⟩
structure Srv where
 f:Nat
 first:List Int
 moves:List (Int×Int)
structure AM where
 chunks:List Srv
 last:List (Nat×Ans)
def Srv.now (s:Srv):List Int:=nowL s.first s.moves
def Q3w (s:Srv) (z:Int):Bool:=decide (z∈s.first) || s.moves.any (fun m=>decide (m.2=z))
def Q0H (cs:List Srv) (f:Nat) (z:Int):Bool:=decide (z<=3*(f:Int)+1) || cs.any (fun s=>Q3w s z)
structure SOk (s:Srv):Prop where
 crew:OkC s.f s.first
 len:s.moves.length<=21
 mv:Q0K s.first s.moves
structure Q6R (a:Ans):Prop where
 err:a.err=0\/a.err=5\/a.err=180
 data:a.data=[]
 epoch:a.epoch<=21
 nodes:a.nodes=[]\/Q2m a.nodes=true
def Q0Z (s:Srv):List Int:=s.first++s.moves.map (·.2)
def Q1A (cs:List Srv):List Int:=(cs.map Q0Z).flatten
structure AOk (m:AM):Prop where
 one:1<=m.chunks.length/\m.chunks.length<=2
 srv:∀ s,s∈m.chunks->SOk s
 same:∃ f,∀ s,s∈m.chunks->s.f=f
 apart:(Q1A m.chunks).Nodup
 high:∀ s,s∈m.chunks->∀ x,x∈Q0Z s->3*(s.f:Int)+1<x
 last:m.last.length=4
 ans:∀ x,x∈m.last->x.1<=maxN/\Q6R x.2/\(x.1=0->x.2=okA)
def Q0u (m:AM) (i:Nat):Nat×Ans:=m.last.getD i (0,okA)
def Q1E:List (Int×Int)->List Int
 | []=>[]
 | m :: t=>m.1 :: m.2 :: Q1E t
def Q2t (s:Srv):List Int:=(((s.moves.length+1:Nat):Int) :: (s.f:Int) :: s.first)++Q1E s.moves
def Q72 (x:Nat×Ans):List Int:=[(x.1:Int),(x.2.err:Int),(x.2.epoch:Int),(x.2.nodes.length:Int)]++x.2.nodes
def Q5t (m:AM) (i:Nat):List Int:=if i<2 then(match m.chunks[i]? with | some s=>Q2t s | none=>[0]) else Q72 (Q0u m (i - 2))
def Q1C (m:AM) (i:Nat):List UInt8:=Q2q (Q5t m i)
def Q07 (m:AM):LL:=(zJ 6).map (Q1C m)
theorem Q0r (m:AM):(Q07 m).length=6:=by simp [Q07]
theorem Q1c (m:AM) (i:Nat) (h:i<6):(Q07 m)[i]?=some (Q1C m i):=by unfold Q07;rw [zI,List.getElem?_range h]; rfl
def inQ (x:Wish):Bool:=mayB x && decide (x.kind=3\/x.kind=4)
def oldQ (m:AM) (x:Wish):Ans×Bool :=
 let y:=Q0u m (x.client - 31).toNat
 if x.stamp<(y.1:Int) then(errA 172 0,true) else if (y.1:Int)<x.stamp then(okA,false) else(y.2,true)
def Q1b (s:Srv) (o n:Int):Srv:=⟨s.f,s.first,s.moves++[(o,n)]⟩
def Q0t (m:AM) (x:Wish):AM×Ans :=
 match m.chunks[(x.block - 1).toNat]? with
 | none=>(m,errA 180 0)
 | some s =>
  if x.kind=3 then(m,⟨0,[],s.moves.length,s.now⟩)
  else if x.client≠34 then(m,errA 180 0)
  else if ¬ x.old∈s.now\/Q0H m.chunks s.f x.new=true then(m,errA 180 s.moves.length)
  else if s.moves.length+1=22 then(m,errA 5 0)
  else(⟨m.chunks.set (x.block - 1).toNat (Q1b s x.old x.new),m.last⟩,errA 0 (s.moves.length+1))
def didQ (m:AM) (x:Wish):AM :=if ((Q0u m (x.client - 31).toNat).1:Int)<x.stamp then⟨(Q0t m x).1.chunks,(Q0t m x).1.last.set (x.client - 31).toNat (x.stamp.toNat,(Q0t m x).2)⟩ else m
def doQ (m:AM) (x:Wish):AM×Ans×Nat:=if inQ x=true then(didQ m x,(oldQ (didQ m x) x).1,0) else(m,okA,2)
theorem SOk.now_ok {s:Srv} (h:SOk s):OkC s.f s.now:=h.mv.now h.crew
theorem Q3u:∀ l:List (Int×Int),(Q1E l).length=2*l.length
 | []=>rfl
 | m :: t=>by show (Q1E t).length+2=_;rw [Q3u t];simp only [zN];omega
theorem Q4a:∀ (a b:List (Int×Int)),Q1E (a++b)=Q1E a++Q1E b
 | [],_=>rfl
 | m :: t,b=>by show m.1 :: m.2 :: Q1E (t++b)=m.1 :: m.2 :: (Q1E t++Q1E b);rw [Q4a t b]
theorem Q69:∀ {l:List (Int×Int)} {x:Int},x∈Q1E l->∃ m,m∈l/\(x=m.1\/x=m.2)
 | [],_,h=>by cases h
 | m :: t,x,h=>by
  rcases List.mem_cons.1 h with h | h
  ·exact⟨m,zO ..,.inl h⟩
  rcases List.mem_cons.1 h with h | h
  ·exact⟨m,zO ..,.inr h⟩
  obtain⟨q,h1,h2⟩:=Q69 h;exact⟨q,zP _ h1,h2⟩
theorem Q3q {z:Int} (h1:0<=z) (h2:z<=255):NumI z:=by unfold NumI; omega
theorem numB_two {n:Nat} (h:n<256):(numB n).length<=2:=by
 have:∀ n:Fin 256,(numB n.1).length<=2:=by decide +kernel
 exact this ⟨n,h⟩
theorem Q3l:∀ (l:List Int),(∀ z,z∈l->0<=z/\z<=255)->(Q2q l).length<=2*l.length
 | [],_=>by simp [Q2q]
 | z :: t,h=>by
  have h1:=h z (zO ..);have h2:=Q3l t fun x hx=>h x (zP _ hx)
  have h3:=numB_two (n:=z.toNat) (by omega);show (numB z.toNat++Q2q t).length<=_;rw [zL,zN];omega
theorem SOk.chunk {s:Srv} (h:SOk s):∀ z,z∈Q2t s->0<=z/\z<=255:=by
 intro z hz;have hl:=h.len;have hf:=h.crew.faults;unfold Q2t at hz;rcases List.mem_append.1 hz with hz | hz
 ·rcases List.mem_cons.1 hz with rfl | hz
  ·omega
  rcases List.mem_cons.1 hz with rfl | hz
  ·omega
  have:=h.crew.bound hz; omega
 obtain⟨m,h1,h2⟩:=Q69 hz;have:=Q0K.mem_old h.crew h.mv m h1;omega
theorem SOk.chunk_len {s:Srv} (h:SOk s):(Q2t s).length<=51:=by have:=h.crew.short;have:=h.len;have:=Q3u s.moves;unfold Q2t;rw [zL];simp only [zN];omega
theorem Q8B {l:List Int} (h:Q2m l=true):l.length<=7/\∀ z,z∈l->0<z/\z<=28:=by unfold Q2m at h;rw [zQ] at h;exact⟨(of_decide_eq_true h.1).2,(Q2W l 0 h.2).2⟩
theorem Q6R.bound {a:Ans} (h:Q6R a):a.nodes.length<=7/\∀ z,z∈a.nodes->0<=z/\z<=28:=by
 rcases h.nodes with e | e
 ·rw [e]; exact⟨by simp,fun z hz=>by cases hz⟩
 have:=Q8B e;exact⟨this.1,fun z hz=>by have:=this.2 z hz; omega⟩
theorem AOk.lst {m:AM} (h:AOk m) (i:Nat):(Q0u m i).1<=maxN/\Q6R (Q0u m i).2/\((Q0u m i).1=0->(Q0u m i).2=okA):=by
 unfold Q0u;rw [List.getD_eq_getElem?_getD];cases hx:m.last[i]? with
 | none=>exact⟨by unfold maxN; exact Nat.zero_le _,⟨.inl rfl,rfl,by show (0:Nat)<=21; omega,.inl rfl⟩,fun _=>rfl⟩
 | some x=>exact h.ans x (zT hx)
theorem QaR {m:AM} (h:AOk m) (i:Nat):∀ z,z∈Q5t m i->NumI z:=by
 intro z hz;unfold Q5t at hz;split at hz
 ·cases hs:m.chunks[i]? with
  | none =>rw [hs] at hz;rw [List.mem_singleton.1 hz];exact Q3q (by omega) (by omega)
  | some s =>rw [hs] at hz;have:=(h.srv s (zT hs)).chunk z hz;exact Q3q this.1 this.2
 have hl:=h.lst (i - 2);have hb:=hl.2.1.bound;have he:=hl.2.1.err;have hp:=hl.2.1.epoch;unfold Q72 at hz;simp only [List.cons_append,List.nil_append,List.mem_cons] at hz;rcases hz with rfl | rfl | rfl | rfl | hz
 ·have:=hl.1; unfold maxN at this; unfold NumI; omega
 iterate 3 ·unfold NumI; omega
 have:=hb.2 z hz; unfold NumI; omega
theorem Q82 {m:AM} (h:AOk m) (i:Nat):(Q1C m i).length<=120:=by
 unfold Q1C Q5t;split
 ·cases hs:m.chunks[i]? with
  | none =>have:=Q3l [0] (fun z hz=>by rw [List.mem_singleton.1 hz]; omega);exact Nat.le_trans this (by simp)
  | some s =>have hk:=h.srv s (zT hs);have h1:=Q3l (Q2t s) hk.chunk;have h2:=hk.chunk_len;show (Q2q (Q2t s)).length<=120;omega
 have hl:=h.lst (i - 2);have hb:=hl.2.1.bound;have he:=hl.2.1.err;have hp:=hl.2.1.epoch;have h1:=Q3l ([((Q0u m (i - 2)).2.err:Int),((Q0u m (i - 2)).2.epoch:Int),((Q0u m (i - 2)).2.nodes.length:Int)]++(Q0u m (i - 2)).2.nodes) (fun z hz=>by
  simp only [List.cons_append,List.nil_append,List.mem_cons] at hz;rcases hz with rfl | rfl | rfl | hz
  iterate 3 ·omega
  have:=hb.2 z hz; omega)
 have h2:=(Q3s (n:=(Q0u m (i - 2)).1) hl.1).2;show (numB (((Q0u m (i - 2)).1:Int)).toNat++Q2q ([((Q0u m (i - 2)).2.err:Int),((Q0u m (i - 2)).2.epoch:Int),((Q0u m (i - 2)).2.nodes.length:Int)]++(Q0u m (i - 2)).2.nodes)).length<=120;rw [zL,Int.toNat_natCast];rw [zL] at h1;simp only [zN,List.length_nil] at h1;omega
theorem Q3P (s:Srv) (o n:Int):Q0Z (Q1b s o n)=Q0Z s++[n]:=by
 unfold Q0Z Q1b
 simp
theorem Q5m:∀ (cs:List Srv) (i:Nat) (s:Srv) (o n:Int),cs[i]?=some s->(Q1A (cs.set i (Q1b s o n))).Perm (n :: Q1A cs)
 | [],_,_,_,_,h=>by simp at h
 | c :: t,0,s,o,n,h=>by
  obtain rfl:c=s:=by simpa using h
  show (Q0Z (Q1b c o n)++Q1A t).Perm (n :: (Q0Z c++Q1A t));rw [Q3P,List.append_assoc];exact List.perm_middle
 | c :: t,i+1,s,o,n,h=>by have h1:=Q5m t i s o n (by simpa using h);show (Q0Z c++Q1A (t.set i (Q1b s o n))).Perm (n :: (Q0Z c++Q1A t));exact(h1.append_left (Q0Z c)).trans List.perm_middle
theorem Q8L {s:Srv} {z:Int} (h:Q3w s z=false):¬ z∈Q0Z s:=by
 unfold Q3w at h;rw [Bool.or_eq_false_iff] at h;unfold Q0Z;rw [List.mem_append];rintro (e | e)
 ·exact of_decide_eq_false h.1 e
 obtain⟨m,h1,h2⟩:=List.mem_map.1 e;have:=List.any_eq_false.1 h.2 m h1;simp [h2] at this
theorem Q9H {s:Srv} {z:Int} (h:z∈Q0Z s):Q3w s z=true:=by
 cases hu:Q3w s z with
 | true=>rfl
 | false=>exact absurd h (Q8L hu)
theorem Q3G {cs:List Srv} {f:Nat} {z:Int} (h:Q0H cs f z=false):3*(f:Int)+1<z/\¬ z∈Q1A cs:=by unfold Q0H at h;rw [Bool.or_eq_false_iff] at h;refine⟨by have:=of_decide_eq_false h.1; omega,fun e=>?_⟩;unfold Q1A at e;obtain⟨l,h1,h2⟩:=List.mem_flatten.1 e;obtain⟨s,h3,rfl⟩:=List.mem_map.1 h1;have:=List.any_eq_false.1 h.2 s h3;exact this (Q9H h2)
theorem Q7y {cs:List Srv} {s:Srv} {z:Int} (hs:s∈cs) (hz:z∈Q0Z s):z∈Q1A cs:=List.mem_flatten.2 ⟨_,List.mem_map.2 ⟨s,hs,rfl⟩,hz⟩
theorem Q6z {s:Srv} {z:Int} (h:z∈s.now):z∈Q0Z s:=by
 unfold Q0Z;rw [List.mem_append];rcases Q9r h with h | ⟨m,h1,h2⟩
 ·exact .inl h
 exact .inr (List.mem_map.2 ⟨m,h1,h2⟩)
theorem Q3t {α:Type} {l:List α} {i:Nat} {a x:α} (h:x∈l.set i a):x=a\/x∈l:=by
 obtain⟨k,hk,rfl⟩:=List.mem_iff_getElem.1 h;rw [List.getElem_set];split
 ·exact .inl rfl
 exact .inr (List.getElem_mem _)
theorem Q4T {x:Wish} (h:inQ x=true):31<=x.client/\x.client<=34/\1<=x.stamp/\x.stamp<=9007199254740991/\1<=x.block/\x.block<=2/\(x.kind=3\/(x.kind=4/\1<=x.old/\x.old<=28/\1<=x.new/\x.new<=28/\x.old≠x.new)):=by
 unfold inQ at h;rw [zQ] at h;have h2:=of_decide_eq_true h.2;have h1:=of_decide_eq_true h.1;obtain⟨_,_,h1⟩:=h1;rcases h1 with h1 | h1
 ·omega
 obtain⟨_,c1,c2,s1,s2,_,h1⟩:=h1;rcases h1 with h1 | h1
 ·omega
 obtain⟨hk,_,_,b1,b2,_⟩:=h1;refine⟨c1,c2,s1,s2,b1,b2,?_⟩;rcases hk with hk | hk
 ·exact .inl hk.1
 exact .inr hk
theorem Q5T {e n:Nat} (he:e=0\/e=5\/e=180) (hn:n<=21):Q6R (errA e n):=⟨he,rfl,hn,.inl rfl⟩
structure COk (cs:List Srv):Prop where
 one:1<=cs.length/\cs.length<=2
 srv:∀ s,s∈cs->SOk s
 same:∃ f,∀ s,s∈cs->s.f=f
 apart:(Q1A cs).Nodup
 high:∀ s,s∈cs->∀ x,x∈Q0Z s->3*(s.f:Int)+1<x
theorem AOk.cok {m:AM} (h:AOk m):COk m.chunks:=⟨h.one,h.srv,h.same,h.apart,h.high⟩
theorem COk.moved {cs:List Srv} {i:Nat} {s:Srv} {o n:Int} (h:COk cs) (hs:cs[i]?=some s) (ho:o∈s.now) (hn:Q0H cs s.f n=false) (h1:1<=n) (h2:n<=28) (hl:s.moves.length<=20):COk (cs.set i (Q1b s o n)):=by
 have hm:=zT hs;have hk:=h.srv s hm;have hu:=Q3G hn;refine⟨by rw [List.length_set]; exact h.one,fun q hq=>?_,?_,?_,fun q hq=>?_⟩
 ·rcases Q3t hq with rfl | hq
  ·exact⟨hk.crew,by show (s.moves++[(o,n)]).length<=21; simp; omega,Q0K.app hk.mv ho (fun e=>hu.2 (Q7y hm (Q6z e))) h1 h2⟩
  exact h.srv q hq
 ·obtain⟨f,hf⟩:=h.same;refine⟨f,fun q hq=>?_⟩;rcases Q3t hq with rfl | hq
  ·exact hf s hm
  exact hf q hq
 ·exact((Q5m cs i s o n hs).nodup_iff).2 (List.nodup_cons.2 ⟨hu.2,h.apart⟩)
 rcases Q3t hq with rfl | hq
 ·intro x hx;rw [Q3P,List.mem_append,zS] at hx;show 3*(s.f:Int)+1<x;rcases hx with hx | rfl
  ·exact h.high s hm x hx
  exact hu.1
 exact h.high q hq
theorem COk.answered {m:AM} (h:COk m.chunks) {x:Wish} (hx:inQ x=true):COk (Q0t m x).1.chunks/\(Q0t m x).1.last=m.last/\Q6R (Q0t m x).2:=by
 obtain⟨c1,c2,s1,s2,b1,b2,hk⟩:=Q4T hx;unfold Q0t;cases hs:m.chunks[(x.block - 1).toNat]? with
 | none=>exact⟨h,rfl,Q5T (.inr (.inr rfl)) (by omega)⟩
 | some s =>
  have hsk:=h.srv s (zT hs);have hl:=hsk.len;simp only;split
  ·exact⟨h,rfl,⟨.inl rfl,rfl,hl,.inr hsk.now_ok.crew⟩⟩
  rename_i hk3;split
  ·exact⟨h,rfl,Q5T (.inr (.inr rfl)) (by omega)⟩
  split
  ·exact⟨h,rfl,Q5T (.inr (.inr rfl)) hl⟩
  rename_i hu;split
  ·exact⟨h,rfl,Q5T (.inr (.inl rfl)) (by omega)⟩
  rename_i h22;have hu':x.old∈s.now/\Q0H m.chunks s.f x.new=false:=by
   refine⟨Decidable.byContradiction fun e=>hu (.inl e),?_⟩;cases hq:Q0H m.chunks s.f x.new with
   | false=>rfl
   | true=>exact absurd (.inr hq) hu
  have hk4:x.kind=4/\1<=x.old/\x.old<=28/\1<=x.new/\x.new<=28/\x.old≠x.new:=by
   rcases hk with e | e
   ·exact absurd e hk3
   exact e
  exact⟨h.moved hs hu'.1 hu'.2 hk4.2.2.2.1 hk4.2.2.2.2.1 (by omega),rfl,Q5T (.inl rfl) (by omega)⟩
theorem AOk.did {m:AM} (h:AOk m) {x:Wish} (hx:inQ x=true):AOk (didQ m x):=by
 obtain⟨c1,c2,s1,s2,b1,b2,hk⟩:=Q4T hx;have ha:=h.cok.answered hx;unfold didQ;split
 ·have hc:=ha.1;refine⟨hc.one,hc.srv,hc.same,hc.apart,hc.high,?_,fun y hy=>?_⟩
  ·show ((Q0t m x).1.last.set _ _).length=4;rw [List.length_set,ha.2.1]; exact h.last
  rcases Q3t hy with rfl | hy
  ·exact⟨by show x.stamp.toNat<=maxN; unfold maxN; omega,ha.2.2,fun e=>by have:x.stamp.toNat=0:=e; omega⟩
  rw [ha.2.1] at hy; exact h.ans y hy
 exact h
def Q2g:List Srv->Int->List (Int×List Int)->Option (List Srv)
 | acc,_,[]=>some acc
 | acc,f0,c :: t=>if (0<=c.1/\c.1<=2/\(c.2.length:Int)=3*c.1+1/\Q1i 0 c.2=true)/\c.1=f0/\c.2.any (Q0H acc c.1.toNat)=false then Q2g (acc++[⟨c.1.toNat,c.2,[]⟩]) f0 t else none
def Q1S (cs:List (Int×List Int)):Option (List Srv):=match cs with
 | []=>none
 | c :: t=>if cs.length<=2 then Q2g [] c.1 cs else none
def Q1k (cs:List Srv):AM:=⟨cs,List.replicate 4 (0,okA)⟩
def newQ (cs:List (Int×List Int)):Option AM:=(Q1S cs).map Q1k
structure CPre (f0:Int) (cs:List Srv):Prop where
 srv:∀ s,s∈cs->SOk s/\(s.f:Int)=f0/\s.moves=[]
 apart:(Q1A cs).Nodup
 high:∀ s,s∈cs->∀ x,x∈Q0Z s->3*(s.f:Int)+1<x
theorem CPre.nil (f0:Int):CPre f0 []:=⟨fun s hs=>(by cases hs),List.nodup_nil,fun s hs=>(by cases hs)⟩
theorem CPre.push {f0:Int} {acc:List Srv} {c:Int×List Int} (h:CPre f0 acc) (h1:0<=c.1/\c.1<=2/\(c.2.length:Int)=3*c.1+1/\Q1i 0 c.2=true) (h2:c.1=f0) (h3:c.2.any (Q0H acc c.1.toNat)=false):CPre f0 (acc++[⟨c.1.toNat,c.2,[]⟩]):=by
 have hc:OkC c.1.toNat c.2:=⟨by omega,by omega,h1.2.2.2⟩;have hse:Q0Z ⟨c.1.toNat,c.2,[]⟩=c.2:=by unfold Q0Z; simp
 have hu:∀ x,x∈c.2->3*((c.1.toNat:Nat):Int)+1<x/\¬ x∈Q1A acc:=fun x hx=>by have:=List.any_eq_false.1 h3 x hx;exact Q3G (by simpa using this)
 refine⟨fun s hs=>?_,?_,fun s hs=>?_⟩
 ·rcases List.mem_append.1 hs with hs | hs
  ·exact h.srv s hs
  rw [zS] at hs;subst hs;exact⟨⟨hc,by show 0<=21; omega,trivial⟩,by show ((c.1.toNat:Nat):Int)=f0; omega,rfl⟩
 ·unfold Q1A;rw [List.map_append,List.flatten_append];simp only [List.map_cons,List.map_nil,List.flatten_cons,List.flatten_nil,List.append_nil];rw [hse];refine List.nodup_append.2 ⟨h.apart,hc.pair.imp (fun {a b} e=>by omega),fun a ha b hb e=>?_⟩;subst e;exact(hu a hb).2 ha
 rcases List.mem_append.1 hs with hs | hs
 ·exact h.high s hs
 rw [zS] at hs;subst hs;intro x hx;rw [hse] at hx;exact(hu x hx).1
theorem Q6l:∀ (t:List (Int×List Int)) (acc:List Srv) (f0:Int) (cs:List Srv),CPre f0 acc->Q2g acc f0 t=some cs->CPre f0 cs/\cs.length=acc.length+t.length
 | [],acc,f0,cs,h,e=>by obtain rfl:=zR e;exact⟨h,by simp⟩
 | c :: t,acc,f0,cs,h,e=>by
  unfold Q2g at e;split at e
  ·rename_i hc;have:=Q6l t _ f0 cs (h.push hc.1 hc.2.1 hc.2.2) e;refine⟨this.1,?_⟩;rw [this.2,zL];simp only [zN,List.length_nil];omega
  cases e
theorem Q59 {l:List (Int×List Int)} {cs:List Srv} (h:Q1S l=some cs):COk cs/\(∀ s,s∈cs->s.moves=[])/\cs.length=l.length:=by
 unfold Q1S at h;split at h
 ·cases h
 rename_i c t;split at h
 ·rename_i hl;have:=Q6l _ _ _ _ (CPre.nil c.1) h;have hlen:cs.length=(c :: t).length:=by rw [this.2]; simp
  have hsrv:=this.1.srv;refine⟨⟨⟨by rw [hlen]; simp,by omega⟩,fun s hs=>(hsrv s hs).1,?_,this.1.apart,this.1.high⟩,fun s hs=>(hsrv s hs).2.2,hlen⟩;exact⟨c.1.toNat,fun s hs=>by have:=(hsrv s hs).2.1; omega⟩
 cases h
theorem okA_ok:Q6R okA:=⟨.inl rfl,rfl,by show (0:Nat)<=21; omega,.inl rfl⟩
theorem Qaq {cs:List Srv} (h:COk cs):AOk (Q1k cs):=by refine⟨h.one,h.srv,h.same,h.apart,h.high,by simp [Q1k],fun x hx=>?_⟩;have:=List.eq_of_mem_replicate hx;rw [this];exact⟨Nat.zero_le _,okA_ok,fun _=>rfl⟩
end
section
open Go.RowKit
abbrev RdS:=List UInt8×Nat
def rdN (s:RdS):Nat×RdS:=if s.2=0 then((tn s.1).1,((tn s.1).2.1,(tn s.1).2.2)) else(0,s)
def rdT (s:RdS) (most:Nat):List UInt8×RdS:=if s.2=0 then((ts s.1 most).1,((ts s.1 most).2.1,(ts s.1 most).2.2)) else([],s)
def rdM (s:RdS) (most:Nat):Nat×RdS :=if (rdN s).2.2=0 then(if most<(rdN s).1 then(0,((rdN s).2.1,5)) else((rdN s).1,(rdN s).2)) else(0,(rdN s).2)
def rdE (s:RdS):Nat:=if s.2=0/\0<s.1.length then 4 else s.2
theorem ts_len (b:List UInt8) (most:Nat):(ts b most).2.1.length<=b.length:=by
 rw [ts_eq];have:=QaA b;split
 ·simp
 split
 ·simp
 split
 ·simp
 simp; omega
def stN (s:RdS):Nat->RdS
 | 0=>s
 | i+1=>(rdN (stN s i)).2
def vlN (s:RdS) (i:Nat):Nat:=(rdN (stN s i)).1
def Q4O:Wish:=⟨0,0,0,0,0,0,[],0,0,[]⟩
def pD (b:List UInt8):List UInt8×RdS:=rdT (stN (b,0) 6) 16
def pM (b:List UInt8):Nat×RdS:=rdM (stN (pD b).2 2) 7
def parseW (b:List UInt8):Wish where
 kind:=(vlN (b,0) 0:Int)
 client:=(vlN (b,0) 1:Int)
 stamp:=(vlN (b,0) 2:Int)
 group:=(vlN (b,0) 3:Int)
 epoch:=(vlN (b,0) 4:Int)
 block:=(vlN (b,0) 5:Int)
 data:=(pD b).1
 old:=(vlN (pD b).2 0:Int)
 new:=(vlN (pD b).2 1:Int)
 next:=(zJ (pM b).1).map fun i=>(vlN (pM b).2 i:Int)
def parseE (b:List UInt8):Nat:=rdE (stN (pM b).2 (pM b).1)
def parse (b:List UInt8):Wish×Nat:=if parseE b=0 then(if mayB (parseW b)=true then(parseW b,0) else(Q4O,2)) else(Q4O,parseE b)
def OwnN (w:zB) (base:Nat) (v:zC) (zs:List Int):Prop:=w.ownsRow base 3 1 v zs.length (zs.map vn)
theorem Qa6 {w:zB} {B:Nat} {e:TypeId} {s n:Nat} {v:zC} {vs:List zC} (h:w.ownsRow B e s v n vs):∃ A c,v=.slice A n c:=by
 rcases h.2 with⟨rfl,h0⟩ | ⟨g,cap,cur,rfl,_⟩
 ·exact⟨none,0,by rw [h0]⟩
 exact⟨_,cap,rfl⟩
theorem Q6n (x:Wish) (A:Option zA) (n c:Nat) (A':Option zA) (n' c':Nat):(Q0g x A n c A' n' c').all (·.oneCell')=true:=by simp [Q0g,Value.oneCell']
theorem Q5a (x:Wish) (A:Option zA) (n c:Nat) (A':Option zA) (n' c':Nat):(Tryz.prog.info? 31).map (·.size)=some (Q0g x A n c A' n' c').size:=by kernel_rfl
section
attribute [local irreducible] pD pM vlN stN
end
end
section
theorem NumI.max {z:Int} (h:NumI z):z.toNat<=maxN:=by unfold NumI at h; unfold maxN; omega
end
section
open Go.RowKit
theorem Q4l {P:zE} {ops:Array zG} {rest:List zG} {o:zG} {a:Act} {w:zB} {Q:Exit->Act->zB->Prop} (hgd:o.guard=none) (ty:TypeId) (x:Operand) (ho:o.op=.load ty x)
 (ad:zA) (n:Nat) (hx:a.eval x=.pointer (some ad)) (vs:Array zC) (d:TypeDesc)
 (hu:P.underlying ty=some d) (hd:(match d with | .struct _ | .array _ _=>true | _=>false)=true) (hi:(P.info? ty).map (·.size)=some n)
 (hn:vs.size=n) (hv:∀ (j:Nat) (v:zC),vs[j]?=some v->w.cell? (ad.add j)=some v)
 (h:wpList P ops Q rest (a.put o.dst (.agg vs)) w):wpList P ops Q (o :: rest) a w :=
 wpList_plain hgd fun _ hK=>by
  have hl:(loadCells ad vs.toList.length).run P w=.ok vs.toList.toArray w :=run_loadCells_list (P:=P) w ad vs.toList (fun j v hj=>hv j v (by simpa using hj))
  have hrun:(loadVar ty ad).run P w=.ok (.agg vs) w:=by
   cases hq:P.info? ty with
   | none=>simp [hq] at hi
   | some i =>
    have hs:i.size=n:=by simpa [hq] using hi
    have hagg:(isAgg ty).run P w=.ok true w:=by unfold isAgg;rw [Sem.run_bind,run_underlying hu w];cases d <;> simp_all
    simp only [Array.length_toList,Array.toArray_toList,hn] at hl;simp [loadVar,Sem.run_bind,hagg,sizeOf,typeInfo,hq,hs,hl]
  unfold Oper.wp execOp;simp only [ho,hx,Instr.loadAt,Instr.sureAddr,Sem.run_bind,Sem.run_pure,Result.andThen_ok,hrun];exact hK _ _ h
end
end Go.Proofs.YtckjnbjiafgibaaGreat
