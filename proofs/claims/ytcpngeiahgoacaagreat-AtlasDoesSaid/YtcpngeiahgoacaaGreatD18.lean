/- Parts of the proof, in one text: LoudC, RaB, RaC, AlE, RaG. -/
import Derived.Test.YtcpngeiahgoacaaGreatD11
import Derived.Test.YtcpngeiahgoacaaGreatD17
import Derived.Test.YtcpngeiahgoacaaGreatD14
namespace Go.Proofs.YtcpngeiahgoacaaGreat
set_option linter.unusedVariables false
set_option linter.unusedSimpArgs false
set_option maxRecDepth 100000
set_option maxHeartbeats 16000000
section
open Go.RowKit
section
variable {P:Program} {md:Region.Mode} {ops:Array Oper}
theorem Q6o {n:Nat} {ps:Nat->World->Value->Prop} {J:Nat->World->Prop} {R:World->World->Prop} {lo:List Nat} {dead late:Nat->List Nat} {a0:Act} {Q':Exit->Act->World->Prop} (hn:n<=ops.size) (hsc:n=ops.size\/(Region.sinkB md ops n=true/\Region.chainB md ops n=true)) (hd:Q8i ops n=true) (hbk:QbP md ops n=true)
 (hlo:Q4O md ops n lo=true) (hdd:QcS md ops n lo dead=true) (hlt:QcW md ops n lo late=true)
 (hl:∀ j,Q16 (ps j)) (hR:∀ s j w w' v,s<lo.length->j∉dead s->j∉late s->(∀ s',s<=s'->lo[s']?≠some j)->J s w->ps j w v->R w w'->ps j w' v) (hJ:∀ s w w',J s w->Below w.heap.size w w'->J s w')
 (hop:∀ i o,i<n->ops[i]?=some o->i∉lo->∀ s a w,(∀ k x,lo[k]?=some x->k<s->Q2u md ops ops.size x i=false)->J s w->Kept ops n a0 a->(∀ j,Region.waitsFor md ops i j=true->Q26 ops ps j w a)->Q5g P ops o a w (ps i))
 (hop2:∀ i o,i<n->ops[i]?=some o->∀ s a w,lo[s]?=some i->J s w->Kept ops n a0 a->(∀ j,Region.waitsFor md ops i j=true->Q26 ops ps j w a)->Q3Z P ops o a w R (J (s+1)) (ps i))
 (hL:∀ a w,J lo.length w->Kept ops n a0 a->(∀ j,j<n->(∀ k,k<lo.length->j∉dead k)->Q26 ops ps j w a)->wpAny P md ops Q' (ops.size - n) (Q0W ops.size n) a w)
 (hsz:∀ (i:Nat) (o:Oper) (d:Tmp),i<n->ops[i]?=some o->o.dst=some d->d<a0.tmps.size) :
 ∀ (f:Nat) (listed:Array Bool) (s:Nat) (a:Act) (w:World),((List.range n).filter fun i=>!listed.getD i false).length=f->HeadInv md ops n listed->s<=lo.length->(∀ k x,lo[k]?=some x->(listed.getD x false=true <-> k<s))->J s w->Kept ops n a0 a->(∀ j,j<n->listed.getD j false=true->(∀ k,k<s->j∉dead k)->Q26 ops ps j w a)->wpAny P md ops Q' (f+(ops.size - n)) listed a w
 | 0,listed,s,a,w,hf,inv,hsl,hph,hb,hk,hp=>by
  have hall:∀ j,j<n->listed.getD j false=true:=fun j hj=>by
   cases hx:listed.getD j false with
   | true=>rfl
   | false =>
    have:j∈(List.range n).filter fun i=>!listed.getD i false:=List.mem_filter.2 ⟨List.mem_range.2 hj,by rw [hx]; rfl⟩
    rw [List.eq_nil_of_length_eq_zero hf] at this;cases this
  have hls:listed=Q0W ops.size n:=by
   apply Array.ext
   ·rw [inv.size]; simp [Q0W]
   ·intro i h1 h2;have hi:i<ops.size:=by rw [<- inv.size]; exact h1
    have e1:listed[i]=listed.getD i false:=by simp [h1]
    have e2:(Q0W ops.size n)[i]=(Q0W ops.size n).getD i false:=by simp [h2]
    rw [e1,e2,Q3M _ _ _ _ hi];by_cases hin:i<n
    ·rw [hall i hin,decide_eq_true hin]
    ·rw [decide_eq_false hin];exact getD_both (inv.tail i (by omega) hi)
  have hsE:s=lo.length:=by
   rcases Nat.lt_or_ge s lo.length with h1 | h1
   ·have h2:=hph s lo[s] (List.getElem?_eq_getElem h1);have h3:=h2.1 (hall _ (Q3X hlo _ (List.getElem_mem h1)));omega
   ·omega
  subst hsE;rw [Nat.zero_add,hls];exact hL a w hb hk fun j hj hjd=>hp j hj (hall j hj) hjd
 | f+1,listed,s,a,w,hf,inv,hsl,hph,hb,hk,hp=>by
  have hex:∃ i,i<n/\listed.getD i false=false:=by
   cases hx:(List.range n).filter fun i=>!listed.getD i false with
   | nil=>rw [hx] at hf; cases hf
   | cons i t =>
    have:i∈(List.range n).filter fun i=>!listed.getD i false:=by rw [hx]; exact List.mem_cons_self
    obtain⟨h1,h2⟩:=List.mem_filter.1 this;exact⟨i,List.mem_range.1 h1,by simpa using h2⟩
  obtain⟨m,hm,hmf,hmb⟩:=Q3Q (fun i=>listed.getD i false) n hex;have hin:∀ k,k<n->listed.getD k false=false->listed.getD k true=false:=fun k hk h=>getD_in (by rw [inv.size]; omega) h
  rw [show f+1+(ops.size - n)=(f+(ops.size - n))+1 by omega];refine⟨fun h0=>?_,fun i hi=>?_⟩
  ·exfalso
   have:m∈Region.ready md ops listed:=by
    refine mem_ready.2 ⟨hin m hm hmf,ops[m],Array.getElem?_eq_getElem (by omega),fun e he hbd=>?_⟩;have h1:=List.all_eq_true.1 hbk m (List.mem_range.2 hm);rw [Array.getElem?_eq_getElem (show m<ops.size by omega)] at h1;have h2:=Array.all_eq_true_iff_forall_mem.1 h1 e he;rw [hbd] at h2;simp at h2;exact hmb e.on h2
   rw [h0] at this;cases this
  ·have hin':i<n:=by
    rcases Nat.lt_or_ge i n with h | h
    ·exact h
    ·rcases Nat.lt_or_ge n ops.size with hn' | hn'
     ·have hsc':=hsc.resolve_left (by omega);exact absurd hi (tail_waits hsc'.1 hsc'.2 hn' inv _ m rfl hm (hin m hm hmf) i h)
     ·obtain⟨_,o,ho,_⟩:=mem_ready.1 hi;have:=(Array.getElem?_eq_some_iff.1 ho).1;omega
   obtain⟨hun,o,ho,hall⟩:=mem_ready.1 hi;have hdep:∀ j,Region.waitsFor md ops i j=true->Q26 ops ps j w a:=fun j hj=>by
    obtain⟨oj,hoj,e,he,hbd,hon⟩:=Region.waitsFor_spec hj;have:oj=o:=Option.some.inj (hoj.symm.trans ho);subst this;have h1:=hall e he hbd;rw [hon] at h1;have h2:=List.all_eq_true.1 hbk i (List.mem_range.2 hin');rw [ho] at h2;have h3:=Array.all_eq_true_iff_forall_mem.1 h2 e he;rw [hbd] at h3;simp at h3;exact hp j (by omega) h1 fun k hks hjd=>by
     have hkl:k<lo.length:=by omega
     have hk:=List.getElem?_eq_getElem hkl;have hlx:=(hph k _ hk).2 hks;have hil:listed.getD i false=true:=by
      rcases Q83 hdd hk hjd hin' hj with e | e
      ·rw [e]; exact hlx
      ·have hxn:=Q3X hlo _ (List.getElem_mem hkl);have hxo:ops[lo[k]]?=some ops[lo[k]]:=Array.getElem?_eq_getElem (by omega);exact Q1k inv i _ _ _ e hxo (inv.closed _ _ hxo hlx)
     rw [getD_both hun] at hil;cases hil
   have hcnt:((List.range n).filter fun k=>!(listed.setIfInBounds i true).getD k false).length=f:=by
    have hmem:i∈(List.range n).filter fun i=>!listed.getD i false:=List.mem_filter.2 ⟨List.mem_range.2 hin',by rw [getD_both hun]; rfl⟩
    have hnd:((List.range n).filter fun i=>!listed.getD i false).Nodup:=List.Pairwise.filter _ List.nodup_range;have he:((List.range n).filter fun k=>!(listed.setIfInBounds i true).getD k false)=((List.range n).filter fun i=>!listed.getD i false).erase i:=by
     rw [hnd.erase_eq_filter,List.filter_filter];apply List.filter_congr
     intro k hk;by_cases hki:i=k
     ·subst hki;have hlt:i<listed.size:=by rw [inv.size]; omega
      simp [hlt]
     ·rw [getD_set_ne false hki];simp [Ne.symm hki]
    rw [he,List.length_erase_of_mem hmem,hf];rfl
   have hon:(listed.setIfInBounds i true).getD i false=true:=by
    have hlt:i<listed.size:=by rw [inv.size]; omega
    simp [hlt]
   have hfin:∀ s' v w',s'<=lo.length->(∀ k x,lo[k]?=some x->((listed.setIfInBounds i true).getD x false=true <-> k<s'))->J s' w'->(s<=s')->(∀ j,listed.getD j false=true->(∀ k,k<s'->j∉dead k)->∀ u,ps j w u->ps j w' u)->ps i w' v->wpAny P md ops Q' (f+(ops.size - n)) (listed.setIfInBounds i true) (a.put o.dst v) w':=fun s' v w' hs' hph' hj' hss hlast hpv=>by
    refine Q6o hn hsc hd hbk hlo hdd hlt hl hR hJ hop hop2 hL hsz f _ s' _ w' hcnt (inv.set hi hin') hs' hph' hj' ⟨?_,by rw [Q2G]; exact hk.size,fun d hfree=>?_⟩ fun j hj hlj hjd oj d hoj hdj=>?_
    ·rw [<- hk.defers]; unfold Act.put; split <;> rfl
    ·rw [Q1x (hfree i o hin' ho)]; exact hk.tmps d hfree
    ·by_cases hji:j=i
     ·subst hji;have:oj=o:=Option.some.inj (hoj.symm.trans ho);subst this;have hds:d<a.tmps.size:=by rw [hk.size]; exact hsz j oj d hin' hoj hdj
      have he:(a.put oj.dst v).eval (.tmp d)=v:=by
       rw [hdj];simp [Act.put,Act.eval,hds]
      rw [he];exact hpv
     ·have hl2:listed.getD j false=true:=by rw [getD_set_ne false (Ne.symm hji)] at hlj; exact hlj
      have he:(a.put o.dst v).eval (.tmp d)=a.eval (.tmp d):=by
       have:=Q1x (a:=a) (v:=v) (Q2c hd hj hin' hji hoj ho hdj);simp [Act.eval,this]
      rw [he];exact hlast j hl2 hjd _ (hp j hj hl2 (fun k hk=>hjd k (by omega)) oj d hoj hdj)
   unfold wpOp;simp only [ho];by_cases hil:i∈lo
   ·obtain⟨k,hki⟩:=List.mem_iff_getElem?.1 hil;have hnl:listed.getD i false=false:=getD_both hun;have h1:=hph k i hki;have hks:¬ k<s:=fun h2=>by rw [h1.2 h2] at hnl; cases hnl
    have hsk:s=k:=by
     rcases Nat.eq_zero_or_pos k with e | e
     ·omega
     ·have hpl:k - 1<lo.length:=by have:=(List.getElem?_eq_some_iff.1 hki).1; omega
      have h2:=Q2P hlo (k - 1) lo[k - 1] i (List.getElem?_eq_getElem hpl) (by rw [show k - 1+1=k by omega]; exact hki);have h3:=Q1k inv _ _ i o h2.2 ho hall;have h4:=(hph (k - 1) _ (List.getElem?_eq_getElem hpl)).1 h3;omega
    subst hsk;have hrel:=hop2 i o hin' ho s a w hki hb hk hdep (wpAny P md ops Q' (f+(ops.size - n)) (listed.setIfInBounds i true)) Q' (fun v w' hr hj hpv=>hfin (s+1) v w' (by have:=(List.getElem?_eq_some_iff.1 hki).1; omega) (fun k' x hx=>by
     by_cases hxi:x=i
     ·subst hxi;have:=Q6H hlo hx hki;rw [hon]
      simp; omega
     ·rw [getD_set_ne false (Ne.symm hxi),hph k' x hx];have:k'≠s:=fun e=>hxi (by subst e; rw [hx] at hki; exact Option.some.inj hki)
      omega) hj (by omega) (fun j hlj hjd u hu=>hR s j _ _ _ (by have:=(List.getElem?_eq_some_iff.1 hki).1; omega) (hjd s (by omega)) (fun hjl=>by
      have h5:=Q7H hlt hki hjl;have hjo:ops[j]?=some ops[j]:=Array.getElem?_eq_getElem (by omega);have h6:=Q1k inv i _ _ _ h5.2 hjo (inv.closed _ _ hjo hlj);rw [hnl] at h6;cases h6) (fun s' hs' e=>by have:=(hph s' j e).1 hlj; omega) hb hu hr) hpv)
    split
    ·rename_i hwt;rw [if_pos hwt] at hrel;exact .inl hrel
    ·rename_i hwt;rw [if_neg hwt] at hrel;exact hrel
   ·have hst:∀ k x,lo[k]?=some x->k<s->Q2u md ops ops.size x i=false:=fun k x hkx hks=>by
     cases hrx:Q2u md ops ops.size x i with
     | false=>rfl
     | true =>
      have hlx:=(hph k x hkx).2 hks;have hxn:=Q3X hlo _ (List.mem_of_getElem? hkx);have hxo:ops[x]?=some ops[x]:=Array.getElem?_eq_getElem (by omega);have h6:=Q1k inv i _ _ _ hrx hxo (inv.closed _ _ hxo hlx);rw [getD_both hun] at h6;cases h6
    have hrel:=hop i o hin' ho hil s a w hst hb hk hdep (wpAny P md ops Q' (f+(ops.size - n)) (listed.setIfInBounds i true)) Q' (fun v w' hbw hpv=>hfin s v w' hsl (fun k' x hx=>by
     have hxi:x≠i:=fun e=>hil (e▸List.mem_of_getElem? hx)
     rw [getD_set_ne false (Ne.symm hxi)];exact hph k' x hx) (hJ s w w' hb hbw) (Nat.le_refl _) (fun j _ _ u hu=>hl j _ _ _ hu hbw) hpv)
    split
    ·rename_i hwt;rw [if_pos hwt] at hrel;exact .inl hrel
    ·rename_i hwt;rw [if_neg hwt] at hrel;exact hrel
end
def Q3D (P:Program) (ops:Array Oper) (n:Nat) (ps:Nat->World->Value->Prop) (J:Nat->World->Prop) (R:World->World->Prop) (lo:List Nat) (a0:Act):Nat->List Oper->Prop
 | _,[]=>True
 | k,o :: l=>(if k∈lo then ∀ s a w,lo[s]?=some k->J s w->Kept ops n a0 a->(∀ j,Region.waitsFor .any ops k j=true->Q26 ops ps j w a)->Q3Z P ops o a w R (J (s+1)) (ps k)
  else ∀ s a w,(∀ q x,lo[q]?=some x->q<s->Q2u .any ops ops.size x k=false)->J s w->Kept ops n a0 a->(∀ j,Region.waitsFor .any ops k j=true->Q26 ops ps j w a)->Q5g P ops o a w (ps k))/\Q3D P ops n ps J R lo a0 (k+1) l
theorem Q3D.spec {P:Program} {ops:Array Oper} {n:Nat} {ps:Nat->World->Value->Prop} {J:Nat->World->Prop} {R:World->World->Prop} {lo:List Nat} {a0:Act}:∀ (l:List Oper) (k:Nat),Q3D P ops n ps J R lo a0 k l->∀ i o,l[i]?=some o ->
 (if k+i∈lo then ∀ s a w,lo[s]?=some (k+i)->J s w->Kept ops n a0 a->(∀ j,Region.waitsFor .any ops (k+i) j=true->Q26 ops ps j w a)->Q3Z P ops o a w R (J (s+1)) (ps (k+i))
  else ∀ s a w,(∀ q x,lo[q]?=some x->q<s->Q2u .any ops ops.size x (k+i)=false)->J s w->Kept ops n a0 a->(∀ j,Region.waitsFor .any ops (k+i) j=true->Q26 ops ps j w a)->Q5g P ops o a w (ps (k+i)))
 | [],k,_,i,o,ho=>by simp at ho
 | o' :: l,k,h,0,o,ho=>by simp at ho; subst ho; exact h.1
 | o' :: l,k,h,i+1,o,ho=>by
  have:=Q3D.spec l (k+1) h.2 i o (by simpa using ho);rw [show k+1+i=k+(i+1) by omega] at this;exact this
theorem Q11 {md:Region.Mode} {ops:Array Oper} {lo:List Nat} {s i n x:Nat} (h:∀ q x,lo[q]?=some x->q<s->Q2u md ops n x i=false) (h0:lo[0]?=some x) (hr:Q2u md ops n x i=true):s=0:=by
 rcases Nat.eq_zero_or_pos s with e | e
 ·exact e
 ·have:=h 0 x h0 e;rw [hr] at this;cases this
theorem Q2i {P:Program} {id:Nat} {Q:Exit->Act->World->Prop} {a:Act} {w:World} {l:List Oper} (n m:Nat) (ps:Nat->World->Value->Prop) (J:Nat->World->Prop) (R:World->World->Prop) (lo:List Nat) (dead late:Nat->List Nat) (ds:List Nat) (hm:P.follows .mixedOrders=true) (hB:QbJ .any l.toArray n=true) (hlo:Q4O .any l.toArray n lo=true) (hdd:QcS .any l.toArray n lo dead=true) (hlt:QcW .any l.toArray n lo late=true) (hsz:QbF l.toArray n m=true) (ha:a.tmps.size=m) (hds:Q5N l.toArray n=ds)
 (hl:∀ j,Q16 (ps j)) (hR:∀ s j w w' v,s<lo.length->j∉dead s->j∉late s->(∀ s',s<=s'->lo[s']?≠some j)->J s w->ps j w v->R w w'->ps j w' v) (hJ:∀ s w w',J s w->Below w.heap.size w w'->J s w') (hJ0:J 0 w) (hop:Q3D P l.toArray n ps J R lo a 0 (l.take n))
 (h:∀ (f:Nat->Value) w',J lo.length w'->(∀ j,j<n->(∀ k,k<lo.length->j∉dead k)->∀ o d,l.toArray[j]?=some o->o.dst=some d->ps j w' (f d))->wpList P l.toArray Q (l.drop n) (Q0H a ds f) w'):(Code.region id l.toArray true).wp P Q a w:=by
 simp only [QbJ,Bool.and_eq_true,Bool.or_eq_true,decide_eq_true_eq] at hB;obtain⟨⟨⟨⟨hn,hsc⟩,hd⟩,hbk⟩,hsq⟩:=hB;have inv0:HeadInv .any l.toArray n (Array.replicate l.toArray.size false) :=
  ⟨by simp,fun j oj _ hl=>(by rw [getD_replicate_false] at hl; cases hl),fun t _ ht=>getD_in (by simpa using ht) (getD_replicate_false _ _)⟩
 have hdl:(l.drop n).length=l.toArray.size - n:=by simp
 refine wp_region_any hm ?_;have:=Q6o (Q':=Q) (md:=.any) (P:=P) (ops:=l.toArray) (n:=n) (ps:=ps) (J:=J) (R:=R) (lo:=lo) (a0:=a) hn hsc hd hbk hlo hdd hlt hl hR hJ (fun i o hi ho hni s a' w' h0 h1 h2 h3=>by
  have:=Q3D.spec (l.take n) 0 hop i o (by rw [List.getElem?_take,if_pos hi]; simpa using ho);simp only [Nat.zero_add] at this;rw [if_neg hni] at this;exact this s a' w' h0 h1 h2 h3)
  (fun i o hi ho s a' w' hlos h1 h2 h3=>by
   have:=Q3D.spec (l.take n) 0 hop i o (by rw [List.getElem?_take,if_pos hi]; simpa using ho);simp only [Nat.zero_add] at this;rw [if_pos (List.mem_of_getElem? hlos)] at this;exact this s a' w' hlos h1 h2 h3)
  (fun a' w' h1 h2 h3=>by
   have:=wpAny_of_seq (md:=.any) (ops:=l.toArray) (Q':=Q) (l.drop n) n (Q0W l.toArray.size n) a' w' (fun j=>by simp [List.getElem?_drop]) (by rw [hdl]; exact hsq) (by
    rw [h2.puts (by rw [ha]; exact hsz),hds];exact h _ w' h1 fun j hj hjd o d ho hd=>(h3 j hj hjd).get d ho hd)
   rw [hdl] at this;exact this)
  (fun i o d hi ho hdst=>by
   have:=List.all_eq_true.1 hsz i (List.mem_range.2 hi);simp only [ho,hdst,decide_eq_true_eq] at this;rw [ha]; exact this)
  n (Array.replicate l.toArray.size false) 0 a w.drew (by
   rw [List.filter_eq_self.2 (fun i _=>by rw [getD_replicate_false]; rfl)]
   simp) inv0 (Nat.zero_le _) (fun k x _=>by rw [getD_replicate_false]; simp) (hJ 0 _ _ hJ0 (Below.refl _ w).drew) ⟨rfl,rfl,fun _ _=>rfl⟩ (fun j _ hj=>by rw [getD_replicate_false] at hj; cases hj)
 rw [show n+(l.toArray.size - n)=l.toArray.size by omega] at this;exact this
end
section
open Go.RowKit Go.Maps
attribute [local irreducible] wpList Q0i
theorem Q8P {α:Type} {x:α} {s:Nat} {y:α} (h:[x][s]?=some y):s=0:=by
 match s,h with
 | 0,_=>rfl
structure RCrLp (w:World) (g6 f:Nat) (s:Srv) (k:Nat) (ov:Value) (wr:World):Prop where
 own:∃ nA nC,Q1J wr w.heap.size ov f (Q0U s.first (s.moves.take k)) nA nC
 cur:∃ A n c,Blk wr g6 77 (crC f A n c)/\Q0d wr wr.heap.size 1 A n ((nowL s.first (s.moves.take k)).map vn)
 ne:ov.ownBlock≠some g6
 below:Below w.heap.size w wr
theorem Q78 (w:World) (g i:Nat) (N:Nat->Prop) (m:AM) (S:RASl) (s:Srv) (h:Q1a w g N m S) (hs:m.chunks[i]?=some s) :
 Calls Tryz.prog 97 #[.pointer (some ⟨g,0,none⟩),.int .i64 ((i:Int)+1)] w (Q1Y w s):=by
 have hil:i<m.chunks.length:=(List.getElem?_eq_some_iff.1 hs).1;have h2:=h.ok.one;have hmem:=List.mem_of_getElem? hs;have hok:=h.ok.srv s hmem;have hsf:=h.same s hmem;obtain⟨gf,cur,hfA,hBf,hcf⟩:=h.crew hs;have hc1:=h.cFirst;rw [hfA] at hc1;have hcm:=h.cMoves i (by omega);have hfar:=h.first i s hs;have hmr:=h.mv i (by omega);rw [Q1b hs] at hcm hmr;obtain⟨n0,hn0⟩:∃ n,n=m.chunks.length:=⟨_,rfl⟩;rw [<- hn0] at hc1 hil;have hx1:¬ ((i:Int)+1<1):=by omega
 have hx2:¬ ((n0:Int)<(i:Int)+1):=by omega
 have hx3:(i:Int)+1 - 1=(i:Int):=by omega
 have hx4:(i:Int)<(n0:Int):=by omega
 have hx6:(i:Int)<2:=by omega
 have hx5:(0:Int)<=(i:Int):=by omega
 obtain⟨f,hf⟩:∃ f,f=s.f:=⟨_,rfl⟩;have HF:=Lib.hid hf;rw [<- hsf,<- hf] at hcf;obtain⟨Af,hAf⟩:∃ A,A=S.nA i:=⟨_,rfl⟩;obtain⟨cf,hcfe⟩:∃ c,c=S.nC i:=⟨_,rfl⟩;obtain⟨mA,hmA⟩:∃ k,k=S.mA i:=⟨_,rfl⟩;obtain⟨mC,hmC⟩:∃ k,k=S.mC i:=⟨_,rfl⟩;obtain⟨mn,hmn⟩:∃ k,k=s.moves.length:=⟨_,rfl⟩;obtain⟨n,hnn⟩:∃ k,k=s.first.length:=⟨_,rfl⟩;rw [<- hAf,<- hcfe,<- hnn] at hcf;rw [<- hAf,<- hcfe] at hfar;rw [<- hmA,<- hmC,<- hmn] at hcm hmr;have hrd:=hfar.rd;rw [<- hnn] at hrd;have hn7:n<=7:=by rw [hnn]; exact hok.crew.short.2
 have hmn21:mn<=21:=by rw [hmn]; exact hok.len
 have HN1:=Lib.hid (show n=3*f+1 by rw [hnn,hf]; exact hok.crew.len);obtain⟨C,hC⟩:∃ C,C=crC (f:Int) Af n cf:=⟨_,rfl⟩;rw [<- hC] at hcf;have hcs:C.size=2:=by rw [hC]; rfl
 have hco:C.all (·.oneCell')=true:=by rw [hC]; exact Q1p _ _ _ _
 have HC:=Lib.hid hC;have HBF:=Lib.hid hBf;have HCF:=Lib.hid hcf;have HCP:=Lib.hid (Q5I (f:Int) Af n cf s.first w w.heap.size hrd (Nat.le_refl _) (by omega));rw [<- hC] at HCP;have HMR:=Lib.hid (fun(W':World) (hb:Below w.heap.size w W')=>Q0f hmr (fun b hb'=>hb.block b (Q0a hmr hb').2));have HCM:=Lib.hid (fun(W':World) (hb:Below w.heap.size w W')=>(hb.cell (p:=⟨g,1+i,none⟩) h.cells.lt).trans hcm);have HOK:=Lib.hid hok;have HMN:=Lib.hid hmn;have HNN:=Lib.hid hnn;have hlf:=hBf.lt;obtain⟨P,hP⟩:∃ P,P=Q1Y w s:=⟨_,rfl⟩;have HP:=Lib.hid hP;rw [<- hP];clear h hs hok hfar hmr hcm hBf hcf hC hP hn0 hf hsf hAf hcfe hmA hmC hmn hnn hmem hrd hfA;go_enter Tryz.func97,Tryz.ntmps97
 go_wp2_with (refine Q03 (o:=⟨some 27,_,_,_,_,_⟩) rfl 77 (.tmp 26) rfl gf (i*2) 2 rfl 77 _ C _ HBF.out Tryz.underlying77 rfl rfl hcs HCF.out ?_)
 refine HCP.out.mono ?_;rintro _ w5 ⟨A1,c1,rfl,ho5,hb5⟩;obtain⟨C1,hC1⟩:∃ C1,C1=crC (f:Int) A1 n c1:=⟨_,rfl⟩;rw [<- hC1];have hc1s:C1.size=2:=by rw [hC1]; rfl
 have hc1o:C1.all (·.oneCell')=true:=by rw [hC1]; exact Q1p _ _ _ _
 have HC1:=Lib.hid hC1;have HO5:=Lib.hid ho5;have HB5:=Lib.hid hb5;have hs5:=hb5.size;clear hC1 ho5 hb5 HCP HBF HCF;go_upto_region 4 with(refine Q01 (o:=⟨none,_,_,_,_,_⟩) rfl 77 (.tmp 5) (.tmp 28) rfl w5.heap.size 0 C1 rfl rfl 77 (crC 0 none 0 0) (Blk.newAt rfl) (by rw [hc1s]; kernel_rfl) (by rw [hc1s]; simp [crC]) hc1o ?_; intro w6 hT6 hD6)
 rw [Q08 _ _ (by rw [hc1s]; rfl)] at hD6;have hb6:Below w5.heap.size w5 w6:=hT6.below ((Below.refl _ _).alloc (Nat.le_refl _) _) (Nat.le_refl _);obtain⟨g6,hg6⟩:∃ b,b=w5.heap.size:=⟨_,rfl⟩;rw [<- hg6] at hD6 ⊢;have HB6:=Lib.hid (HB5.out.trans (hb6.mono hs5));have HD6:=Lib.hid hD6;have HO6:=Lib.hid (HO5.out.below_ hb6);have hs6:=hb6.size;have hl6:=hD6.lt;have hgw6:w.heap.size<=g6:=by omega
 clear hb6 hT6 hD6 hg6 HO5 HB5;have hfold1:Array.foldl (fun(cs:Array Value) (x:Value×Nat)=>cs.setIfInBounds x.snd x.fst) #[Value.int .i64 0,Value.slice none 0 0] C1.zipIdx 0 2=C1:=by rw [HC1.out]; rfl
 go_upto_region 5 with(refine Q03 (o:=⟨some 29,_,_,_,_,_⟩) rfl 77 (.tmp 5) rfl g6 0 2 rfl 77 _ C1 _ HD6.out Tryz.underlying77 rfl rfl hc1s (fun _ _=>by rw [Nat.zero_add]) ?_)
 have hb7:=Q07 w6 (.cells C1 77);have hk9:Blk (w6.alloc (.cells C1 77)) w6.heap.size 77 C1:=Blk.newAt rfl;have hne0:(Value.slice (some (⟨w6.heap.size,0,none⟩:Addr)) 1 1).ownBlock≠some g6:=fun e=>by
  have e':w6.heap.size=g6:=by simpa [Value.ownBlock] using e
  omega
 have HST:=Lib.hid (show RCrLp w g6 f s 0 (.slice (some ⟨w6.heap.size,0,none⟩) 1 1) (w6.alloc (.cells C1 77)) from⟨⟨_,_,by
  have:=Q1J.one (g:=w6.heap.size) (B:=w.heap.size) (f:=f) (l:=s.first) (A:=A1) (c:=c1) (by omega) (by rw [<- HNN.out,<- HC1.out]; exact hk9) (by rw [<- HNN.out]; exact HO6.out.below_ hb7);have e:Q0U s.first (s.moves.take 0)=[s.first]:=by simp [Q0U]
  rw [e]; exact this⟩,⟨A1,n,c1,by rw [<- HC1.out]; exact HD6.out.below' hb7,by
  have e:nowL s.first (s.moves.take 0)=s.first:=by simp [nowL]
  rw [e];exact(Q1K (HO6.out.below_ hb7)).2⟩,hne0,HB6.out.trans (hb7.mono (by omega))⟩)
 generalize World.alloc w6 _=w7 at HST ⊢;have c37:=HCM.out w7 HST.out.below;clear hb7 hk9 HD6 HO6 HB6 HC1 hfold1;go_wp2_with fail
 go_loopw [6,8] (fun ov iv wr=>∃ k:Nat,k<=mn/\iv=.int .i64 (k:Int)/\RCrLp w g6 f s k ov wr) (fun _ iv _=>mn - (intOf iv).toNat)
 case atStart=>exact⟨0,by omega,rfl,HST.out⟩
 clear HST c37;case round =>
  obtain⟨k,hk,rfl,hlp⟩:=hrel;by_cases hkn:k<mn
  ·have hkI:(k:Int)<(mn:Int):=by omega
   have hkl:k<s.moves.length:=by have:=HMN.out; omega
   obtain⟨⟨o,z⟩,hoz⟩:∃ q,s.moves[k]?=some q:=⟨_,List.getElem?_eq_getElem hkl⟩;obtain⟨gm,cur,hmA,hBm,hcm0,hcm1⟩:=Q9V (HMR.out wr hlp.below) hoz;subst hmA;obtain⟨A,n',c,hB6,hrd⟩:=hlp.cur;obtain⟨nA,nC,hown⟩:=hlp.own;have hmok:=HOK.out.mv;have hnok:OkC f (nowL s.first (s.moves.take k)):=by rw [HF.out]; exact(hmok.take k).now HOK.out.crew
   have hnn':n'=n:=by
    have h1:(nowL s.first (s.moves.take k)).length=n':=by have:=hrd.1; simpa using this
    rw [<- h1,hnok.len,HN1.out]
   have hgood:=hmok.at_ hoz;subst hnn';obtain⟨C',hC'⟩:∃ C',C'=crC (f:Int) A n' c:=⟨_,rfl⟩;rw [<- hC'] at hB6;have hcs':C'.size=2:=by rw [hC']; rfl
   obtain⟨l',hl'⟩:∃ l,l=Q1N (nowL s.first (s.moves.take k)) o z:=⟨_,rfl⟩;have HRP:=Lib.hid (fun(W:World) (hb:Below wr.heap.size wr W)=>Q8b f A n' c (nowL s.first (s.moves.take k)) o z W wr.heap.size (hrd.below hb) hb.size hnok hgood);rw [<- hC',<- hl'] at HRP;have CM0:=Lib.hid (fun(W:World) (hb:Below wr.heap.size wr W)=>(hb.cell (p:=⟨gm,k*2,none⟩) hBm.lt).trans ((hBm.cell _).trans hcm0));have CM1:=Lib.hid (fun(W:World) (hb:Below wr.heap.size wr W)=>(hb.cell (p:=⟨gm,k*2+1,none⟩) hBm.lt).trans ((hBm.cell _).trans hcm1));have HL':=Lib.hid hl';have HLP:=Lib.hid hlp;have HB6:=Lib.hid hB6;have HOW:=Lib.hid hown;have HOZ:=Lib.hid hoz;have HNE:=Lib.hid hlp.ne;have hlr:=hlp.below.size;clear hlp hoz hBm hcm0 hcm1 hC' hB6 hrd hown hmok hnok hgood hl';go_upto_region 9 with fail
   refine Q2i 16 64 (fun jx W v=>match jx with | 0=>v=.agg C' | 1=>v=.slice (some ⟨gm,0,none⟩) mn mC | 2=>v=.int .i64 (k:Int) | 3=>v=.pointer (some ⟨gm,k*2,none⟩) | 4=>v=.pointer (some ⟨gm,k*2,none⟩) | 5=>v=.int .i64 o | 6=>v=.slice (some ⟨gm,0,none⟩) mn mC | 7=>v=.int .i64 (k:Int) | 8=>v=.pointer (some ⟨gm,k*2,none⟩) | 9=>v=.pointer (some ⟨gm,k*2+1,none⟩) | 10=>v=.int .i64 z | 11=>∃ A' c',v=.tuple #[.agg (crC (f:Int) A' n' c'),.int .i64 0]/\OwnN W wr.heap.size (.slice A' n' c') l' | 12=>∃ A' c',v=.tuple #[.agg (crC (f:Int) A' n' c'),.int .i64 0]/\OwnN W wr.heap.size (.slice A' n' c') l' | 13=>∃ A' c',v=.agg (crC (f:Int) A' n' c')/\OwnN W wr.heap.size (.slice A' n' c') l' | 14=>v=.int .i64 0 | 15=>True | _=>True) (fun s W=>match s with | 0=>Below wr.heap.size wr W/\Blk W g6 77 C' | _=>Only (fun b=>b=g6) wr W/\∃ A' c',Blk W g6 77 (crC (f:Int) A' n' c')/\OwnN W wr.heap.size (.slice A' n' c') l') (Q0c g6) [15] (fun _=>[]) (fun _=>[]) [45,46,47,48,49,50,51,52,53,54,55,56,44,57,58] (by kernel_rfl) (by kernel_rfl) (by kernel_rfl) (by kernel_rfl) (by kernel_rfl) (by kernel_rfl) (by simp) (by kernel_rfl) (fun jx=>?last) ?lastR ?jay ⟨Below.refl _ _,HB6.out⟩ ?heads ?_
   case last =>
    match jx with
    | 0 | 1 | 2 | 3 | 4 | 5 | 6 | 7 | 8 | 9 | 10 | 14 | 15 | jx+16=>exact Q16.pure _
    | 11=>exact fun W W' v ⟨A',c',h1,h2⟩ hb=>⟨A',c',h1,h2.below_ hb⟩
    | 12=>exact fun W W' v ⟨A',c',h1,h2⟩ hb=>⟨A',c',h1,h2.below_ hb⟩
    | 13=>exact fun W W' v ⟨A',c',h1,h2⟩ hb=>⟨A',c',h1,h2.below_ hb⟩
   case lastR =>
    intro s jx W W' v hsl hdd hlt hs hj hp hr;match jx with
    | 0 | 1 | 2 | 3 | 4 | 5 | 6 | 7 | 8 | 9 | 10 | 14 | 15 | jx+16=>exact hp
    | 11 =>
     obtain rfl:s=0:=by simpa using hsl
     obtain⟨A',c',h1,h2⟩:=hp;exact⟨A',c',h1,h2.keep_ fun b hb=>hr.block b fun e=>Q09 h2 hj.2 (by decide) (by rw [hb,e])⟩
    | 12 =>
     obtain rfl:s=0:=by simpa using hsl
     obtain⟨A',c',h1,h2⟩:=hp;exact⟨A',c',h1,h2.keep_ fun b hb=>hr.block b fun e=>Q09 h2 hj.2 (by decide) (by rw [hb,e])⟩
    | 13 =>
     obtain rfl:s=0:=by simpa using hsl
     obtain⟨A',c',h1,h2⟩:=hp;exact⟨A',c',h1,h2.keep_ fun b hb=>hr.block b fun e=>Q09 h2 hj.2 (by decide) (by rw [hb,e])⟩
   case jay =>
    intro s W W' hj hb;match s,hj with
    | 0,hj=>exact⟨hj.1.trans (hb.mono hj.1.size),hj.2.below' hb⟩
    | s+1,⟨h1,A',c',h2,h3⟩=>exact⟨h1.trans (Only.of_below hb),A',c',h2.below' hb,h3.below_ hb⟩
   case heads =>
    simp only [List.take_succ_cons,List.take_zero];refine⟨?_,?_,?_,?_,?_,?_,?_,?_,?_,?_,?_,?_,?_,?_,?_,?_,trivial⟩
    ·rw [if_neg (by decide)];intro s a W hst hj hkp hd;obtain rfl:=Q11 hst rfl (by kernel_rfl);have hb:Below wr.heap.size wr W:=hj.1;have e0:a.eval (.tmp 5)=.pointer (some ⟨g6,0,none⟩):=by have:=hkp.at_ (d:=5) (by kernel_rfl); rw [this]; rfl
     exact Q00 rfl (.agg C') (Q0m 77 (.tmp 5) rfl g6 0 2 e0 77 _ C' _ hj.2 Tryz.underlying77 rfl rfl hcs' (fun _ _=>by rw [Nat.zero_add])) rfl
    ·rw [if_neg (by decide)];intro s a W hst hj hkp hd;obtain rfl:=Q11 hst rfl (by kernel_rfl);have hb:Below wr.heap.size wr W:=hj.1;have e0:a.tmps[7]?.getD undef=.slice (some ⟨gm,0,none⟩) mn mC:=hkp.get (by kernel_rfl) rfl;exact Q00 rfl _ (by go_simp) rfl
    ·rw [if_neg (by decide)];intro s a W hst hj hkp hd;obtain rfl:=Q11 hst rfl (by kernel_rfl);have hb:Below wr.heap.size wr W:=hj.1;have e0:a.tmps[8]?.getD undef=.int .i64 (k:Int):=hkp.get (by kernel_rfl) rfl;exact Q00 rfl _ (by go_simp) rfl
    ·rw [if_neg (by decide)];intro s a W hst hj hkp hd;obtain rfl:=Q11 hst rfl (by kernel_rfl);have hb:Below wr.heap.size wr W:=hj.1;have e0:(_:Value)=.slice (some ⟨gm,0,none⟩) mn mC:=(hd 1 (by kernel_rfl)).get 46 rfl rfl;have e1:(_:Value)=.int .i64 (k:Int):=(hd 2 (by kernel_rfl)).get 47 rfl rfl;have hlt:=hkI;exact Q00 rfl _ (by go_simp) rfl
    ·rw [if_neg (by decide)];intro s a W hst hj hkp hd;obtain rfl:=Q11 hst rfl (by kernel_rfl);have hb:Below wr.heap.size wr W:=hj.1;have e0:(_:Value)=.pointer (some ⟨gm,k*2,none⟩):=(hd 3 (by kernel_rfl)).get 48 rfl rfl;exact Q00 rfl _ (by go_simp) rfl
    ·rw [if_neg (by decide)];intro s a W hst hj hkp hd;obtain rfl:=Q11 hst rfl (by kernel_rfl);have hb:Below wr.heap.size wr W:=hj.1;have e0:(_:Value)=.pointer (some ⟨gm,k*2,none⟩):=(hd 4 (by kernel_rfl)).get 49 rfl rfl;have cc:=CM0.out W hb;exact Q00 rfl _ (by go_simp) rfl
    ·rw [if_neg (by decide)];intro s a W hst hj hkp hd;obtain rfl:=Q11 hst rfl (by kernel_rfl);have hb:Below wr.heap.size wr W:=hj.1;have e0:a.tmps[7]?.getD undef=.slice (some ⟨gm,0,none⟩) mn mC:=hkp.get (by kernel_rfl) rfl;exact Q00 rfl _ (by go_simp) rfl
    ·rw [if_neg (by decide)];intro s a W hst hj hkp hd;obtain rfl:=Q11 hst rfl (by kernel_rfl);have hb:Below wr.heap.size wr W:=hj.1;have e0:a.tmps[8]?.getD undef=.int .i64 (k:Int):=hkp.get (by kernel_rfl) rfl;exact Q00 rfl _ (by go_simp) rfl
    ·rw [if_neg (by decide)];intro s a W hst hj hkp hd;obtain rfl:=Q11 hst rfl (by kernel_rfl);have hb:Below wr.heap.size wr W:=hj.1;have e0:(_:Value)=.slice (some ⟨gm,0,none⟩) mn mC:=(hd 6 (by kernel_rfl)).get 51 rfl rfl;have e1:(_:Value)=.int .i64 (k:Int):=(hd 7 (by kernel_rfl)).get 52 rfl rfl;have hlt:=hkI;exact Q00 rfl _ (by go_simp) rfl
    ·rw [if_neg (by decide)];intro s a W hst hj hkp hd;obtain rfl:=Q11 hst rfl (by kernel_rfl);have hb:Below wr.heap.size wr W:=hj.1;have e0:(_:Value)=.pointer (some ⟨gm,k*2,none⟩):=(hd 8 (by kernel_rfl)).get 53 rfl rfl;exact Q00 rfl _ (by go_simp) rfl
    ·rw [if_neg (by decide)];intro s a W hst hj hkp hd;obtain rfl:=Q11 hst rfl (by kernel_rfl);have hb:Below wr.heap.size wr W:=hj.1;have e0:(_:Value)=.pointer (some ⟨gm,k*2+1,none⟩):=(hd 9 (by kernel_rfl)).get 54 rfl rfl;have cc:=CM1.out W hb;exact Q00 rfl _ (by go_simp) rfl
    ·rw [if_neg (by decide)];intro s a W hst hj hkp hd;obtain rfl:=Q11 hst rfl (by kernel_rfl);have hb:Below wr.heap.size wr W:=hj.1;have e0:(_:Value)=.agg C':=(hd 0 (by kernel_rfl)).get 45 rfl rfl;have e1:(_:Value)=.int .i64 o:=(hd 5 (by kernel_rfl)).get 50 rfl rfl;have e2:(_:Value)=.int .i64 z:=(hd 10 (by kernel_rfl)).get 55 rfl rfl;have e0:(_:Value)=.agg C':=(hd 0 (by kernel_rfl)).get 45 rfl rfl;have e1:(_:Value)=.int .i64 o:=(hd 5 (by kernel_rfl)).get 50 rfl rfl;have e2:(_:Value)=.int .i64 z:=(hd 10 (by kernel_rfl)).get 55 rfl rfl;refine Q0w rfl 140 #[.agg C',.int .i64 o,.int .i64 z] (by go_simp) ((HRP.out W hb).mono ?_);rintro e w' ⟨A',c',rfl,ho,hb'⟩;exact⟨_,rfl,hb',A',c',rfl,OwnN.more ho hb.size⟩
    ·rw [if_neg (by decide)];intro s a W hst hj hkp hd;obtain rfl:=Q11 hst rfl (by kernel_rfl);have hb:Below wr.heap.size wr W:=hj.1;obtain⟨A',c',e0,ho⟩:=(hd 11 (by kernel_rfl)).get 56 rfl rfl;exact Q00 rfl (.tuple #[.agg (crC (f:Int) A' n' c'),.int .i64 0]) (by go_simp) ⟨A',c',rfl,ho⟩
    ·rw [if_neg (by decide)];intro s a W hst hj hkp hd;obtain rfl:=Q11 hst rfl (by kernel_rfl);have hb:Below wr.heap.size wr W:=hj.1;obtain⟨A',c',e0,ho⟩:=(hd 12 (by kernel_rfl)).get 44 rfl rfl;exact Q00 rfl (.agg (crC (f:Int) A' n' c')) (by go_simp; try rfl) ⟨A',c',rfl,ho⟩
    ·rw [if_neg (by decide)];intro s a W hst hj hkp hd;obtain⟨A',c',e0,ho⟩:=(hd 12 (by kernel_rfl)).get 44 rfl rfl;exact Q00 rfl (.int .i64 0) (by go_simp; try rfl) rfl
    ·rw [if_pos (by decide)];intro s a W hs hj hkp hd;obtain rfl:=Q8P hs;obtain⟨A',c',e57,ho⟩:=(hd 13 (by kernel_rfl)).get 57 rfl rfl;have e5:a.eval (.tmp 5)=.pointer (some ⟨g6,0,none⟩):=by have:=hkp.at_ (d:=5) (by kernel_rfl); rw [this]; rfl
     have e57':a.eval (.tmp 57)=.agg (crC (f:Int) A' n' c'):=by simpa [Act.eval] using e57
     refine Q5G rfl 77 (.tmp 5) (.tmp 57) rfl g6 0 (crC (f:Int) A' n' c') e5 e57' 77 C' hj.2 (Q1V _ _ _ _) (by rw [hcs']; simp [crC]) (Q1p _ _ _ _) fun W' hT hB=>?_
     rw [Q08 _ _ (by rw [hcs']; rfl)] at hB;exact⟨hT,⟨(Only.of_below (N:=fun b=>b=g6) hj.1).trans (Only.of_turned hT rfl),A',c',hB,ho.keep_ fun b hb=>hT.block b fun e=>Q09 ho hj.2 (by decide) (by rw [hb,e])⟩,trivial⟩
   intro ff w5' hJ hd;obtain⟨hon,A',c',hD5,ho⟩:=hJ;obtain⟨E,hE⟩:∃ E,E=crC (f:Int) A' n' c':=⟨_,rfl⟩;have hes:E.size=2:=by rw [hE]; rfl
   have he1:E.all (·.oneCell')=true:=by rw [hE]; exact Q1p _ _ _ _
   rw [<- hE] at hD5;have HE:=Lib.hid hE;have HO5:=Lib.hid (OwnN.more (B':=w.heap.size) ho hlr);have HOW5:=Lib.hid (⟨Q0f HOW.out.row fun b hb=>hon.block b (Q0a HOW.out.row hb).2 (fun e=>HNE.out (by rw [hb,e])),fun i l hl=>(HOW.out.nodes i l hl).keep_ fun b hb=>hon.block b (Q0a (HOW.out.nodes i l hl) hb).2 fun e=>Q09 (HOW.out.nodes i l hl) HB6.out (by decide) (by rw [hb,e])⟩:Q1J w5' w.heap.size _ f (Q0U s.first (s.moves.take k)) nA nC);have HD5:=Lib.hid hD5;have HB5:=Lib.hid (HLP.out.below.trans (hon.below (B:=w.heap.size) hlr fun b h1 h2=>by omega));have hsw5:=HB5.out.size;clear hd hon hD5 ho hE HOW HB6;simp only [Q0H,List.drop_succ_cons,List.drop_zero];try simp only [Act.put,sA1,sA2,sA3]
   have hfold:Array.foldl (fun(cs:Array Value) (x:Value×Nat)=>cs.setIfInBounds x.snd x.fst) #[Value.int .i64 0,Value.slice none 0 0] E.zipIdx 0 2=E:=by rw [HE.out]; rfl
   obtain⟨i0,hi0,hz0,hz1,hz2⟩:=info_parts Q8m;have hb6:=Q07 w5' (.cells E 77);have hcl:(Q0U s.first (s.moves.take k)).length=k+1:=by rw [Q1r,List.length_take]; omega
   have hrow6:=(HOW5.out.below hb6).row;rw [hcl] at hrow6;obtain⟨cells,hcells⟩:∃ l,l=Q1C f nA nC 0 (Q0U s.first (s.moves.take k)):=⟨_,rfl⟩;rw [<- hcells] at hrow6;have HCE:=Lib.hid hcells;have HCL:=Lib.hid hcl;have HROW6:=Lib.hid hrow6;have HRD6:=Lib.hid (Q5u w5' E hes);have HOW6:=Lib.hid (HOW5.out.below hb6);have HO6:=Lib.hid (HO5.out.below_ hb6);have HD6':=Lib.hid (HD5.out.below' hb6);have HB6':=Lib.hid (HB5.out.trans (hb6.mono hsw5));have hs6':=hb6.size;clear hb6 hcl hrow6 hcells HOW5 HO5 HB5 HLP CM0 CM1 HRP;go_wp2_with (first
    | refine Q03 (o:=⟨some 60,_,_,_,_,_⟩) rfl 77 (.tmp 5) rfl g6 0 2 rfl 77 _ E _ HD5.out Tryz.underlying77 rfl rfl hes (fun _ _=>by rw [Nat.zero_add]) ?_
    | (at_builtin; go_must (refine Q06 _ rfl (.tmp 59) (.tmp 61) 74 rfl w.heap.size 77 i0 _ 2 32 Tryz.underlying74 hi0 hz0 hz1 hz2 rfl (by omega) _ _ _ rfl HROW6.out _ (some ⟨w5'.heap.size,0,none⟩) 1 1 E.toList rfl HRD6.out ?d1 ?d2 ?d3 ?d4 ?_)))
   case d1=>exact fun u hu=>(Array.all_eq_true'.1 he1) u (by simpa using hu)
   case d2=>unfold maxLen; omega
   case d3=>first | omega | (simp; omega)
   case d4=>first | omega | (simp; omega)
   intro v6 w6' hown6 hg6' hor6;have hl':=HL'.out;have ho6:=HO6.out;have hn6:l'.length=n':=(Q1K ho6).1;have hown:Q1J w6' w.heap.size v6 f (Q0U s.first (s.moves.take k)++[l']) _ _:=HOW6.out.push (l:=l') (A:=A') (c:=c') hg6' (by rw [hn6]; exact ho6) (by rw [HCL.out,hn6,<- HCE.out]; rw [HE.out] at hown6; exact hown6);have hb66:Below w.heap.size w w6':=Q0k HB6'.out (by simp; omega) hg6' (fun b hb=>by have:=(Q0a HROW6.out hb).1; omega);have htk:s.moves.take (k+1)=s.moves.take k++[(o,z)]:=by rw [List.take_add_one,HOZ.out]; rfl
   have hcrew:Q0U s.first (s.moves.take (k+1))=Q0U s.first (s.moves.take k)++[l']:=by rw [htk,Q3L,hl']
   have hnow:nowL s.first (s.moves.take (k+1))=l':=by rw [htk,Q3O,hl']
   have hlast:=hown.nodes _ l' List.getElem?_concat_length;rw [if_pos rfl,if_pos rfl] at hlast;have hbl6:Blk w6' g6 77 (crC (f:Int) A' n' c'):=by
    rw [<- HE.out];exact HD6'.out.grown hg6' (fun e=>HNE.out e.symm)
   have hne6:v6.ownBlock≠some g6:=fun e=>by
    rcases hor6 with q | q
    ·exact HNE.out (q▸e)
    ·rw [q] at e;have hlt:=HD5.out.lt;injection e with e
     omega
   have HLP':=Lib.hid (show RCrLp w g6 f s (k+1) v6 w6' from⟨⟨_,_,by rw [hcrew]; exact hown⟩,⟨A',n',c',hbl6,by rw [hnow,<- hn6]; exact(Q1K hlast).2⟩,hne6,hb66⟩);clear hown hb66 htk hcrew hnow hlast hbl6 hl' ho6 hown6 hg6' hor6 hfold hne6 hn6;go_wp2_with fail
   go_roundw
   case rel=>exact⟨k+1,by omega,by go_num,HLP'.out⟩
   case measure=>simp [intOf]; omega
  ·obtain rfl:k=mn:=by omega
   have hkI:¬ (k:Int)<(k:Int):=by omega
   have htk:s.moves.take k=s.moves:=List.take_of_length_le (by rw [HMN.out]; omega);obtain⟨nA,nC,hown⟩:=hlp.own;rw [htk] at hown;rw [HF.out] at hown;have hpost:=Q1Y.of hown hlp.below (Nat.le_refl _);rw [<- HP.out] at hpost;have HR:=Lib.hid hpost;clear hlp htk hown hpost;go_wp2_with fail
   exact HR.out
end
section
open Go.RowKit Go.Maps
attribute [local irreducible] wpList Q0i
theorem Q1a.head {w:World} {g:Nat} {N:Nat->Prop} {m:AM} {S:RASl} (h:Q1a w g N m S):∃ gf cur,S.fA=some ⟨gf,0,none⟩/\Blk w gf 77 cur/\∀ i s,m.chunks[i]?=some s->∀ j,j<2->cur[i*2+j]?=(crC (S.f:Int) (S.nA i) s.first.length (S.nC i))[j]?:=by
 have h1:=h.ok.one;obtain⟨gf,cur,e1,e2,_⟩:=h.crew (List.getElem?_eq_getElem (show 0<m.chunks.length by omega));refine⟨gf,cur,e1,e2,fun i s hs=>?_⟩;obtain⟨gf',cur',e1',e2',e3⟩:=h.crew hs;rw [e1] at e1';injection e1' with e1'
 injection e1' with e1'
 subst e1';have:=e2.symm.trans e2';injection this with this
 injection this with this
 subst this;exact e3
theorem Q9l (w:World) (g:Nat) (N:Nat->Prop) (m:AM) (S:RASl) (h:Q1a w g N m S) :
 Calls Tryz.prog 96 #[.pointer (some ⟨g,0,none⟩)] w fun e w'=>e=.returned (.int .i64 (m.chunks.length:Int))/\w=w':=by
 have c0:=h.cFirst;clear h;go_enter Tryz.func96,Tryz.ntmps96
 go_wp2_with fail
 go_ret
 exact⟨rfl,rfl⟩
theorem Qbj (w:World) (g:Nat) (N:Nat->Prop) (m:AM) (S:RASl) (z:Int) (h:Q1a w g N m S) :
 Calls Tryz.prog 109 #[.pointer (some ⟨g,0,none⟩),.int .i64 z] w fun e w'=>e=.returned (.bool (Q18 m.chunks S.f z))/\Below w.heap.size w w':=by
 have h1:=h.ok.one;obtain⟨gf,cur,hfA,hBf,hcf⟩:=h.head;have hc0:=h.cFirst;rw [hfA] at hc0;have hf2:S.f<=2:=by
  have hm:=List.getElem_mem (show 0<m.chunks.length by omega);have:=(h.ok.srv _ hm).crew.faults;have:=h.same _ hm;omega
 have hcf0:w.cell? ⟨gf,0,none⟩=some (.int .i64 (S.f:Int)):=(hBf.cell 0).trans (hcf 0 _ (List.getElem?_eq_getElem (show 0<m.chunks.length by omega)) 0 (by omega));have HD:=Lib.hid (fun(W:World) (hb:Below w.heap.size w W)=>h.below hb);have HBF:=Lib.hid hBf;have HCF:=Lib.hid hcf;obtain⟨f,hf⟩:∃ f,f=S.f:=⟨_,rfl⟩;obtain⟨fC,hfC⟩:∃ f,f=S.fC:=⟨_,rfl⟩;obtain⟨n0,hn0⟩:∃ f,f=m.chunks.length:=⟨_,rfl⟩;obtain⟨res,hres⟩:∃ r,r=Q18 m.chunks f z:=⟨_,rfl⟩;rw [<- hf,<- hres];rw [<- hf] at hcf0;rw [<- hn0,<- hfC] at hc0;have HN0:=Lib.hid hn0;have HFC:=Lib.hid hfC;have HF:=Lib.hid hf;have HRES:=Lib.hid hres;have hf2':f<=2:=by omega
 have hn02:n0<=2:=by omega
 have hn01:(0:Int)<(n0:Int):=by omega
 have hw3:IntKind.i64.wrap (IntKind.i64.wrap (3*(f:Int))+1)=3*(f:Int)+1:=by rw [IntKind.wrap_i64,IntKind.wrap_i64]; omega
 clear h h1 hBf hcf hf2 hf hfC hn0 hres hfA;go_enter Tryz.func109,Tryz.ntmps109
 by_cases hz:z<=3*(f:Int)+1
 ·have hr:res=true:=by rw [HRES.out]; unfold Q18; rw [decide_eq_true hz]; rfl
  subst hr;go_wp2_with fail
  go_ret
  exact⟨rfl,Below.refl _ _⟩
 ·have HR:=Lib.hid (show res=(m.chunks.drop 0).any (fun s=>Q2B s z) by rw [HRES.out,List.drop_zero]; unfold Q18; rw [decide_eq_false hz,Bool.false_or]);have HC0:=Lib.hid (fun(W:World) (hb:Below w.heap.size w W)=>(hb.cell (p:=⟨g,0,none⟩) (HD.out w (Below.refl _ _)).cells.lt).trans hc0);clear HRES;go_wp2_with fail
  clear hw3 hcf0 hz hc0;go_loopw [5] (fun iv wr=>∃ c:Nat,c<=n0/\iv=.int .i64 c/\Below w.heap.size w wr/\res=(m.chunks.drop c).any (fun s=>Q2B s z)) (fun iv _=>n0 - (intOf iv).toNat)
  case atStart=>exact⟨0,by omega,rfl,Below.refl _ _,HR.out⟩
  clear HR;case round =>
   obtain⟨c,hc,rfl,hlow,hr⟩:=hrel;have HL:=Lib.hid hlow;have hls:=hlow.size;have hc0:=HC0.out wr hlow;by_cases hcn:c<n0
   ·have hcI:(c:Int)<(n0:Int):=by omega
    have hcl:c<m.chunks.length:=by have:=HN0.out; omega
    have hsc:=List.getElem?_eq_getElem hcl;rw [List.drop_eq_getElem_cons hcl,List.any_cons] at hr;have hmem:=List.getElem_mem hcl;generalize m.chunks[c]=s at hsc hr hmem;have hd:=HD.out wr hlow;have hok:=hd.ok.srv s hmem;have hsf:=hd.same s hmem;have hfar:=hd.first c s hsc;have hcm:=hd.cMoves c (by omega);have hmr:=hd.mv c (by omega);rw [Q1b hsc] at hcm hmr;obtain⟨rest,hrest⟩:∃ r,r=(m.chunks.drop (c+1)).any (fun s=>Q2B s z):=⟨_,rfl⟩;rw [<- hrest] at hr;have HREST:=Lib.hid hrest;have hcC:=HCF.out c s hsc;rw [<- HF.out] at hcC hsf;obtain⟨C,hC⟩:∃ C,C=crC (f:Int) (S.nA c) s.first.length (S.nC c):=⟨_,rfl⟩;have hHS:=Q9S (f:Int) (S.nA c) s.first.length (S.nC c) s.first z wr wr.heap.size hfar.rd (Nat.le_refl _) (by have:=hok.crew.short; omega);rw [<- hsf,Q3F hok.crew,Bool.true_and,hsf] at hHS;rw [<- hC] at hcC hHS;have hcs:C.size=2:=by rw [hC]; rfl
    have HHS:=Lib.hid hHS;have HCC:=Lib.hid hcC;have HBF2:=Lib.hid (HBF.out.below hlow HBF.out.lt);have HMR:=Lib.hid (fun(W:World) (hb:Below wr.heap.size wr W)=>Q0f hmr (fun b hb'=>hb.block b (Q0a hmr hb').2));have HCM:=Lib.hid (fun(W:World) (hb:Below wr.heap.size wr W)=>(hb.cell (p:=⟨g,1+c,none⟩) hd.cells.lt).trans hcm);obtain⟨mA,hmA⟩:∃ k,k=S.mA c:=⟨_,rfl⟩;obtain⟨mC,hmC⟩:∃ k,k=S.mC c:=⟨_,rfl⟩;obtain⟨mn,hmn⟩:∃ k,k=s.moves.length:=⟨_,rfl⟩;rw [<- hmA,<- hmC,<- hmn] at HMR HCM;have hmn21:mn<=21:=by rw [hmn]; exact hok.len
    have HMN:=Lib.hid hmn;have hc2:(c:Int)<2:=by omega
    clear hsc hmem hd hok hsf hfar hcm hmr hrest hcC hC hHS hlow hmA hmC hmn;go_wp2_with (refine Q03 (o:=⟨some 33,_,_,_,_,_⟩) rfl 77 (.tmp 32) rfl gf (c*2) 2 rfl 77 _ C _ HBF2.out Tryz.underlying77 rfl rfl hcs HCC.out ?_)
    refine HHS.out.mono ?_;rintro _ w2 ⟨rfl,hb2⟩;have hs2:=hb2.size;have HB2:=Lib.hid hb2;have HL2:=Lib.hid (HL.out.trans (hb2.mono hls));clear hb2 HHS hc0;by_cases hin:z∈s.first
    ·rw [decide_eq_true hin];have hrt:res=true:=by rw [hr]; unfold Q2B; rw [decide_eq_true hin]; simp
     subst hrt;clear hr;go_wp2_with fail
     go_ret
     exact⟨rfl,HL2.out⟩
    ·rw [decide_eq_false hin];have HR2:=Lib.hid (show res=((s.moves.drop 0).any (fun m=>decide (m.2=z)) || rest) by rw [hr]; unfold Q2B; rw [decide_eq_false hin,List.drop_zero,Bool.false_or]);have hcm2:=HCM.out w2 HB2.out;clear hr hin;go_wp2_with fail
     go_loopw [6] (fun kv wr'=>∃ k:Nat,k<=mn/\kv=.int .i64 k/\Below wr.heap.size wr wr'/\res=((s.moves.drop k).any (fun m=>decide (m.2=z)) || rest)) (fun kv _=>mn - (intOf kv).toNat)
     case atStart=>exact⟨0,by omega,rfl,HB2.out,HR2.out⟩
     clear HR2 hcm2;case round =>
      rename_i wq _;obtain⟨k,hk,rfl,hbq,hr⟩:=hrel;have HBQ:=Lib.hid hbq;have hsq:=hbq.size;have hcm2:=HCM.out _ hbq;have hc0:=HC0.out _ (HL.out.trans (hbq.mono hls));by_cases hkn:k<mn
      ·have hkI:(k:Int)<(mn:Int):=by omega
       have hkl:k<s.moves.length:=by have:=HMN.out; omega
       rw [List.drop_eq_getElem_cons hkl,List.any_cons] at hr;obtain⟨⟨o,y⟩,hoy⟩:∃ q,s.moves[k]=q:=⟨_,rfl⟩;have hk2:s.moves[k]?=some (o,y):=by rw [List.getElem?_eq_getElem hkl,hoy]
       rw [hoy] at hr;obtain⟨gm,cur',hmA,hBm,_,hcm1⟩:=Q9V (HMR.out _ hbq) hk2;subst hmA;have cy:=(hBm.cell _).trans hcm1;simp only at hr;clear hbq hoy hk2 hBm hcm1;by_cases hyz:y=z
       ·have hyb:(y == z)=true:=by simpa using hyz
        have hrt:res=true:=by rw [hr,decide_eq_true hyz]; simp
        subst hrt;clear hr hyz;go_wp2_with fail
        go_ret
        exact⟨rfl,HL.out.trans (HBQ.out.mono hls)⟩
       ·have hyb:(y == z)=false:=by simpa using hyz
        rw [decide_eq_false hyz,Bool.false_or] at hr;have HRR:=Lib.hid hr;clear hr hyz;go_wp2_with fail
        go_roundw
        case rel=>exact⟨k+1,by omega,by go_num,HBQ.out,HRR.out⟩
        case measure=>simp [intOf]; omega
      ·obtain rfl:k=mn:=by omega
       have hkI:¬ (k:Int)<(k:Int):=by omega
       rw [List.drop_of_length_le (by have:=HMN.out; omega),List.any_nil,Bool.false_or] at hr;have HRR:=Lib.hid (hr.trans HREST.out);clear hr hbq;go_wp2_with fail
       go_roundw
       case rel=>exact⟨c+1,by omega,by go_num,HL.out.trans (HBQ.out.mono hls),HRR.out⟩
       case measure=>simp [intOf]; omega
   ·obtain rfl:c=n0:=by omega
    rw [List.drop_of_length_le (by have:=HN0.out; omega)] at hr;have hrf:res=false:=by rw [hr]; rfl
    subst hrf;clear hr hlow;go_wp2_with fail
    go_ret
    exact⟨rfl,HL.out⟩
end
section
open Go.RowKit Go.Maps
def Q4J (f:Nat) (ls:List (List Int)):List (Int×List Int):=ls.map fun l=>((f:Int),l)
theorem Q1J.crewsAt {w:World} {B f:Nat} {v:Value} {ls:List (List Int)} {nA:Nat->Option Addr} {nC:Nat->Nat} (h:Q1J w B v f ls nA nC) (hl:∀ l,l∈ls->l.length<=1000):∃ A c,v=.slice A ls.length c/\∀ k,k<=ls.length->Q2p w A k (Q4J f (ls.take k)):=by
 rcases h.row.2 with⟨e,h0⟩ | ⟨gl,cap,cur,e,h2,h3,h4,h5,h6,h7⟩
 ·refine⟨none,0,by rw [e,h0],fun k hk=>⟨by simp [Q4J]; omega,fun h1=>by omega⟩⟩
 ·refine⟨some ⟨gl,0,none⟩,cap,e,fun k hk=>⟨by simp [Q4J]; omega,fun h1=>⟨gl,cur,rfl,h3,fun i f' l hi=>?_⟩⟩⟩;unfold Q4J at hi;rw [List.getElem?_map] at hi;cases hq:(ls.take k)[i]? with
  | none=>rw [hq] at hi; cases hi
  | some l' =>
   rw [hq] at hi;obtain⟨rfl,rfl⟩:=Prod.mk.inj (Option.some.inj hi);rw [List.getElem?_take] at hq;split at hq
   ·have hg:=Q2R f nA nC ls 0 i l' hq;rw [Nat.zero_add] at hg;have hil:=(List.getElem?_eq_some_iff.1 hq).1;have ht:∀ q,q<ls.length*2->cur[q]?=(Q1C f nA nC 0 ls)[q]?:=fun q hq'=>by
     rw [<- h7,List.getElem?_take,if_pos hq',Array.getElem?_toList]
    have hr:=Q0v (h.nodes i l' hq);obtain⟨A',c',e',_,_,hrd,_⟩:=hr;injection e' with e1 _ e2
    refine⟨nA i,nC i,by rw [ht _ (by omega)]; exact hg.1,by rw [ht _ (by omega)]; exact hg.2,by rw [e1]; exact hrd,by have:=hl l' (List.mem_of_getElem? hq); omega⟩
   ·cases hq
end
section
open Go.RowKit Go.Maps
attribute [local irreducible] wpList Q0i
def crLs (m:AM) (c:Nat):List (List Int):=if c=0 then [] else match m.chunks[c - 1]? with
 | none=>[]
 | some s=>Q0U s.first s.moves
def crFa (m:AM) (c:Nat):Nat:=match m.chunks[c - 1]? with
 | none=>0
 | some s=>s.f
def Q5i (w:World) (m:AM) (c:Nat) (e:Ending) (w':World):Prop:=∃ v nA nC,e=.returned v/\Q1J w' w.heap.size v (crFa m c) (crLs m c) nA nC/\Below w.heap.size w w'
theorem Q5i.nil {w w':World} {m:AM} {c:Nat} (h:crLs m c=[]) (hb:Below w.heap.size w w'):Q5i w m c (.returned (.slice none 0 0)) w' :=
 ⟨_,fun _=>none,fun _=>0,rfl,by rw [h]; exact⟨World.ownsRow_nil _ _ _ _,fun i l hl=>by simp at hl⟩,hb⟩
theorem Q5i.of {w w':World} {m:AM} {i:Nat} {s:Srv} {e:Ending} (h:Q1Y w s e w') (hs:m.chunks[i]?=some s):Q5i w m (i+1) e w':=by
 obtain⟨v,nA,nC,h1,h2,h3⟩:=h;refine⟨v,nA,nC,h1,?_,h3⟩;have e1:crFa m (i+1)=s.f:=by unfold crFa; rw [show i+1 - 1=i by omega,hs]
 have e2:crLs m (i+1)=Q0U s.first s.moves:=by unfold crLs; rw [if_neg (by omega),show i+1 - 1=i by omega,hs]
 rw [e1,e2];exact h2
theorem Q8a (w:World) (V:ALoc) (N:Nat->Prop) (m:AM) (c:Nat) (hc:c<=10) (h:AAt w V N m) :
 Calls Tryz.prog 56 #[.pointer (some ⟨V.g,0,none⟩),.int .i64 (c:Int)] w (Q5i w m c):=by
 obtain⟨S,hd⟩:=h.dat;by_cases hin:1<=c/\c<=m.chunks.length
 ·obtain⟨i,rfl⟩:∃ i,c=i+1:=⟨c - 1,by omega⟩;have hs:=List.getElem?_eq_getElem (show i<m.chunks.length by omega);have:=(Q7r w V.g V.gc i _ N m S _ hd hs).mono fun e w' hp=>Q5i.of (m:=m) (i:=i) hp hs
  exact this
 ·have hn:crLs m c=[]:=by
   unfold crLs;by_cases h0:c=0
   ·rw [if_pos h0]
   ·rw [if_neg h0,List.getElem?_eq_none (by omega)]
  have HN:=Lib.hid hn;have HNO:=Lib.hid (Q2g w V.g V.T.t ((hd.blk.cell 0).trans (Q1D _ _ _ _ 0 (by omega))));have hc1:w.cell? ⟨V.g,1,none⟩=some (.slice (some ⟨V.gc,0,none⟩) m.chunks.length S.cap):=(hd.blk.cell 1).trans (Q1D _ _ _ _ 1 (by omega));obtain⟨n,hnn⟩:∃ n,n=m.chunks.length:=⟨_,rfl⟩;rw [<- hnn] at hc1 hin;clear h hd hn hnn;go_enter Tryz.func56,Tryz.ntmps56
  by_cases h1:(c:Int)<1
  ·go_wp2_with fail
   refine HNO.out.mono ?_;rintro _ _ ⟨rfl,rfl⟩;go_wp2_with fail
   go_ret
   exact Q5i.nil HN.out (Below.refl _ _)
  ·have h2:(n:Int)<(c:Int):=by omega
   go_wp2_with fail
   refine HNO.out.mono ?_;rintro _ _ ⟨rfl,rfl⟩;go_wp2_with fail
   go_ret
   exact Q5i.nil HN.out (Below.refl _ _)
theorem Q4C (w:World) (g:Nat) (N:Nat->Prop) (m:AM) (c:Nat) (hc:c<=10) (S:RASl) (hd:Q1a w g N m S) :
 Calls Tryz.prog 97 #[.pointer (some ⟨g,0,none⟩),.int .i64 (c:Int)] w (Q5i w m c):=by
 by_cases hin:1<=c/\c<=m.chunks.length
 ·obtain⟨i,rfl⟩:∃ i,c=i+1:=⟨c - 1,by omega⟩;have hs:=List.getElem?_eq_getElem (show i<m.chunks.length by omega);exact(Q78 w g i N m S _ hd hs).mono fun e w' hp=>Q5i.of (m:=m) (i:=i) hp hs
 ·have hn:crLs m c=[]:=by
   unfold crLs;by_cases h0:c=0
   ·rw [if_pos h0]
   ·rw [if_neg h0,List.getElem?_eq_none (by omega)]
  have HN:=Lib.hid hn;have hc1:=hd.cFirst;obtain⟨n,hnn⟩:∃ n,n=m.chunks.length:=⟨_,rfl⟩;rw [<- hnn] at hc1 hin;clear hd hn hnn;go_enter Tryz.func97,Tryz.ntmps97
  by_cases h1:(c:Int)<1
  ·go_wp2_with fail
   go_ret
   exact Q5i.nil HN.out (Below.refl _ _)
  ·have h2:(n:Int)<(c:Int):=by omega
   go_wp2_with fail
   go_ret
   exact Q5i.nil HN.out (Below.refl _ _)
def InI (w:World) (v:Value) (t:Nat):Prop:=t=0\/∃ gi cap cur,v=.slice (some ⟨gi,0,none⟩) t cap/\Blk w gi 3 cur/\∀ p,p<t->∃ x:Int,cur[p]?=some (.int .i64 x)
theorem InI.of_own {w:World} {B:Nat} {v:Value} {xs:List Int} (h:OwnN w B v xs):InI w v xs.length:=by
 rcases h.2 with⟨_,h0⟩ | ⟨g,cap,cur,rfl,hg,hh,h1,h2,h3,h4⟩
 ·exact .inl h0
 ·refine .inr ⟨g,cap,cur,rfl,hh,fun p hp=>⟨xs[p],?_⟩⟩;have:(cur.toList.take (xs.length*1))[p]?=some (vn xs[p]):=by rw [h4,List.getElem?_map,List.getElem?_eq_getElem hp]; rfl
  rw [Nat.mul_one,List.getElem?_take,if_pos hp] at this;simpa [vn] using this
theorem InI.put {w:World} {v:Value} {t:Nat} (h:InI w v t) (g i:Nat) (x:Int):InI (w.setCell ⟨g,i,none⟩ (.int .i64 x)) v t:=by
 rcases h with h | ⟨gi,cap,cur,hv,hb,hc⟩
 ·exact .inl h
 ·by_cases e:gi=g
  ·subst e;refine .inr ⟨gi,cap,_,hv,hb.set_ i (.int .i64 x),fun p hp=>?_⟩;obtain⟨y,hy⟩:=hc p hp;by_cases e:i=p
   ·subst e;exact⟨x,by rw [Array.getElem?_setIfInBounds,if_pos rfl,if_pos (by rcases Nat.lt_or_ge i cur.size with h | h; exact h; rw [Array.getElem?_eq_none h] at hy; cases hy)]⟩
   ·exact⟨y,by rw [Array.getElem?_setIfInBounds,if_neg e]; exact hy⟩
  ·exact .inr ⟨gi,cap,cur,hv,(Q0c.setCell w ⟨g,i,none⟩ (.int .i64 x)).blk hb e,hc⟩
structure Q7h (B:Nat) (w wr:World) (v:Value) (f:Nat) (ls:List (List Int)) (nA:Nat->Option Addr) (nC:Nat->Nat):Prop where
 row:wr.ownsRow B 77 2 v ls.length (Q1C f nA nC 0 ls)
 nin:∀ i l,ls[i]?=some l->InI wr (.slice (nA i) l.length (nC i)) l.length/\(∀ b,(Value.slice (nA i) l.length (nC i)).ownBlock=some b->B<=b)
 low:Below B w wr
theorem Q7h.of {B f:Nat} {w wr:World} {v:Value} {ls:List (List Int)} {nA:Nat->Option Addr} {nC:Nat->Nat} (h:Q1J wr B v f ls nA nC) (hb:Below B w wr):Q7h B w wr v f ls nA nC :=
 ⟨h.row,fun i l hl=>⟨InI.of_own (h.nodes i l hl),fun b hb'=>(h.nodes i l hl).ge_ hb'⟩,hb⟩
theorem Q7h.put {B f:Nat} {w wr:World} {v:Value} {ls:List (List Int)} {nA:Nat->Option Addr} {nC:Nat->Nat} (h:Q7h B w wr v f ls nA nC) {g:Nat} {cur:Array Value} (hg:B<=g) (hk:Blk wr g 3 cur) (i:Nat) (x:Int):Q7h B w (wr.setCell ⟨g,i,none⟩ (.int .i64 x)) v f ls nA nC:=by
 have hT:=Q0c.setCell wr ⟨g,i,none⟩ (.int .i64 x);refine⟨Q0f h.row fun b hb=>hT.block b fun e=>?_,fun j l hl=>⟨(h.nin j l hl).1.put g i x,(h.nin j l hl).2⟩,hT.below h.low hg⟩;have e':b=g:=e;subst e';exact Q09 h.row hk (by decide) hb
theorem Q7h.cell {B f:Nat} {w wr:World} {A:Option Addr} {n c:Nat} {ls:List (List Int)} {nA:Nat->Option Addr} {nC:Nat->Nat} (h:Q7h B w wr (.slice A n c) f ls nA nC) (hn:ls.length=n) {i:Nat} {l:List Int} (hl:ls[i]?=some l):∃ gl,A=some ⟨gl,0,none⟩/\wr.cell? ⟨gl,i*2+1,none⟩=some (.slice (nA i) l.length (nC i)):=by
 have hil:i<ls.length:=(List.getElem?_eq_some_iff.1 hl).1;rcases h.row.2 with⟨e,h1⟩ | ⟨gl,cap,cur,e,h2,h3,h4,h5,h6,h7⟩
 ·omega
 ·injection e with e1 _ _
  have hB:Blk wr gl 77 cur:=h3;have hg:=Q2R f nA nC ls 0 i l hl;rw [Nat.zero_add] at hg;have ht:∀ q,q<ls.length*2->cur[q]?=(Q1C f nA nC 0 ls)[q]?:=fun q hq'=>by
   rw [<- h7,List.getElem?_take,if_pos hq',Array.getElem?_toList]
  exact⟨gl,e1,by rw [hB.cell,ht _ (by omega)]; exact hg.2⟩
end
end Go.Proofs.YtcpngeiahgoacaaGreat
