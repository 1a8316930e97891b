/- Parts of the proof, in one text. -/
import Derived.Test.YtcpngeiahgoacaaGreatM8
import Derived.Test.YtcpngeiahgoacaaGreatM12
import Derived.Test.YtcpngeiahgoacaaGreatM10
import Derived.Test.YtcpngeiahgoacaaGreatM11
import Derived.Test.YtcpngeiahgoacaaGreatM6
import Derived.Test.YtcpngeiahgoacaaGreatM2
import Derived.Test.YtcpngeiahgoacaaGreatM3
namespace Go.Proofs.YtcpngeiahgoacaaGreat
set_option linter.unusedVariables false
set_option linter.unusedSimpArgs false
set_option maxRecDepth 100000
set_option maxHeartbeats 16000000
open _root_.And renaming intro->zJ
open _root_.Array renaming getElem?_eq_getElem->zP,getElem?_toList->zS
open _root_.Go renaming World->zA,Value->zB,Calls->zF
open _root_.Go.IntWalk renaming i64_in->zQ
open _root_.Go.Proofs.Tryz renaming prog->zI,underlying77->zX
open _root_.Go.Region renaming waitsFor->zT
open _root_.Go.RowKit renaming Below->zD
open _root_.Go.RowKit.Below renaming refl->zL
open _root_.Go.Value renaming slice->zV
open _root_.List renaming getElem?_eq_getElem->zC,getElem?_map->zG,range->zH,getElem_mem->zM,getElem?_take->zN,length_map->zR,mem_of_getElem?->zW
open _root_.Nat renaming lt_or_ge->zE,le_refl->zK,zero_add->zO
open _root_.Option.some renaming inj->zU
section
open Go.RowKit
section
variable {P:Program} {md:Region.Mode} {ops:Array Oper}
theorem Q7a {n:Nat} {ps:Nat->zA->zB->Prop} {J:Nat->zA->Prop} {R:zA->zA->Prop} {lo:List Nat} {dead late:Nat->List Nat} {a0:Act} {Q':Exit->Act->zA->Prop} (hn:n<=ops.size) (hsc:n=ops.size\/(Region.sinkB md ops n=true/\Region.chainB md ops n=true)) (hd:Q9b ops n=true) (hbk:QcQ md ops n=true)
 (hlo:Q56 md ops n lo=true) (hdd:Qeo md ops n lo dead=true) (hlt:QdM md ops n lo late=true)
 (hl:∀ j,Q15 (ps j)) (hR:∀ s j w w' v,s<lo.length->j∉dead s->j∉late s->(∀ s',s<=s'->lo[s']?≠some j)->J s w->ps j w v->R w w'->ps j w' v) (hJ:∀ s w w',J s w->zD w.heap.size w w'->J s w')
 (hop:∀ i o,i<n->ops[i]?=some o->i∉lo->∀ s a w,(∀ k x,lo[k]?=some x->k<s->Q2L md ops ops.size x i=false)->J s w->Kept ops n a0 a->(∀ j,zT md ops i j=true->Q23 ops ps j w a)->Q59 P ops o a w (ps i))
 (hop2:∀ i o,i<n->ops[i]?=some o->∀ s a w,lo[s]?=some i->J s w->Kept ops n a0 a->(∀ j,zT md ops i j=true->Q23 ops ps j w a)->Q4m P ops o a w R (J (s+1)) (ps i))
 (hL:∀ a w,J lo.length w->Kept ops n a0 a->(∀ j,j<n->(∀ k,k<lo.length->j∉dead k)->Q23 ops ps j w a)->wpAny P md ops Q' (ops.size - n) (Q0Y ops.size n) a w)
 (hsz:∀ (i:Nat) (o:Oper) (d:Tmp),i<n->ops[i]?=some o->o.dst=some d->d<a0.tmps.size) :
 ∀ (f:Nat) (listed:Array Bool) (s:Nat) (a:Act) (w:zA),((zH n).filter fun i=>!listed.getD i false).length=f->HeadInv md ops n listed->s<=lo.length->(∀ k x,lo[k]?=some x->(listed.getD x false=true <-> k<s))->J s w->Kept ops n a0 a->(∀ j,j<n->listed.getD j false=true->(∀ k,k<s->j∉dead k)->Q23 ops ps j w a)->wpAny P md ops Q' (f+(ops.size - n)) listed a w
 | 0,listed,s,a,w,hf,inv,hsl,hph,hb,hk,hp=>by
  have hall:∀ j,j<n->listed.getD j false=true:=fun j hj=>by
   cases hx:listed.getD j false with
   | true=>rfl
   | false =>
    have:j∈(zH n).filter fun i=>!listed.getD i false:=List.mem_filter.2 ⟨List.mem_range.2 hj,by rw [hx]; rfl⟩
    rw [List.eq_nil_of_length_eq_zero hf] at this;cases this
  have hls:listed=Q0Y ops.size n:=by
   apply Array.ext
   ·rw [inv.size]; simp [Q0Y]
   intro i h1 h2;have hi:i<ops.size:=by rw [<- inv.size]; exact h1
   have e1:listed[i]=listed.getD i false:=by simp [h1]
   have e2:(Q0Y ops.size n)[i]=(Q0Y ops.size n).getD i false:=by simp [h2]
   rw [e1,e2,Q47 _ _ _ _ hi];by_cases hin:i<n
   ·rw [hall i hin,decide_eq_true hin]
   rw [decide_eq_false hin];exact getD_both (inv.tail i (by omega) hi)
  have hsE:s=lo.length:=by
   rcases zE s lo.length with h1 | h1
   ·have h2:=hph s lo[s] (zC h1);have h3:=h2.1 (hall _ (Q48 hlo _ (zM h1)));omega
   omega
  subst hsE;rw [zO,hls];exact hL a w hb hk fun j hj hjd=>hp j hj (hall j hj) hjd
 | f+1,listed,s,a,w,hf,inv,hsl,hph,hb,hk,hp=>by
  have hex:∃ i,i<n/\listed.getD i false=false:=by
   cases hx:(zH n).filter fun i=>!listed.getD i false with
   | nil=>rw [hx] at hf; cases hf
   | cons i t =>
    have:i∈(zH n).filter fun i=>!listed.getD i false:=by rw [hx]; exact List.mem_cons_self
    obtain⟨h1,h2⟩:=List.mem_filter.1 this;exact⟨i,List.mem_range.1 h1,by simpa using h2⟩
  obtain⟨m,hm,hmf,hmb⟩:=Q4k (fun i=>listed.getD i false) n hex;have hin:∀ k,k<n->listed.getD k false=false->listed.getD k true=false:=fun k hk h=>getD_in (by rw [inv.size]; omega) h
  rw [show f+1+(ops.size - n)=(f+(ops.size - n))+1 by omega];refine⟨fun h0=>?_,fun i hi=>?_⟩
  ·exfalso
   have:m∈Region.ready md ops listed:=by refine mem_ready.2 ⟨hin m hm hmf,ops[m],zP (by omega),fun e he hbd=>?_⟩;have h1:=List.all_eq_true.1 hbk m (List.mem_range.2 hm);rw [zP (show m<ops.size by omega)] at h1;have h2:=Array.all_eq_true_iff_forall_mem.1 h1 e he;rw [hbd] at h2;simp at h2;exact hmb e.on h2
   rw [h0] at this;cases this
  have hin':i<n:=by
   rcases zE i n with h | h
   ·exact h
   rcases zE n ops.size with hn' | hn'
   ·have hsc':=hsc.resolve_left (by omega);exact absurd hi (tail_waits hsc'.1 hsc'.2 hn' inv _ m rfl hm (hin m hm hmf) i h)
   obtain⟨_,o,ho,_⟩:=mem_ready.1 hi;have:=(Array.getElem?_eq_some_iff.1 ho).1;omega
  obtain⟨hun,o,ho,hall⟩:=mem_ready.1 hi;have hdep:∀ j,zT md ops i j=true->Q23 ops ps j w a:=fun j hj=>by
   obtain⟨oj,hoj,e,he,hbd,hon⟩:=Region.waitsFor_spec hj;have:oj=o:=zU (hoj.symm.trans ho);subst this;have h1:=hall e he hbd;rw [hon] at h1;have h2:=List.all_eq_true.1 hbk i (List.mem_range.2 hin');rw [ho] at h2;have h3:=Array.all_eq_true_iff_forall_mem.1 h2 e he;rw [hbd] at h3;simp at h3;exact hp j (by omega) h1 fun k hks hjd=>by
    have hkl:k<lo.length:=by omega
    have hk:=zC hkl;have hlx:=(hph k _ hk).2 hks;have hil:listed.getD i false=true:=by
     rcases Q8T hdd hk hjd hin' hj with e | e
     ·rw [e]; exact hlx
     have hxn:=Q48 hlo _ (zM hkl);have hxo:ops[lo[k]]?=some ops[lo[k]]:=zP (by omega);exact Q1l inv i _ _ _ e hxo (inv.closed _ _ hxo hlx)
    rw [getD_both hun] at hil;cases hil
  have hcnt:((zH n).filter fun k=>!(listed.setIfInBounds i true).getD k false).length=f:=by
   have hmem:i∈(zH n).filter fun i=>!listed.getD i false:=List.mem_filter.2 ⟨List.mem_range.2 hin',by rw [getD_both hun]; rfl⟩
   have hnd:((zH n).filter fun i=>!listed.getD i false).Nodup:=List.Pairwise.filter _ List.nodup_range;have he:((zH n).filter fun k=>!(listed.setIfInBounds i true).getD k false)=((zH n).filter fun i=>!listed.getD i false).erase i:=by
    rw [hnd.erase_eq_filter,List.filter_filter];apply List.filter_congr
    intro k hk;by_cases hki:i=k
    ·subst hki;have hlt:i<listed.size:=by rw [inv.size]; omega
     simp [hlt]
    rw [getD_set_ne false hki];simp [Ne.symm hki]
   rw [he,List.length_erase_of_mem hmem,hf];rfl
  have hon:(listed.setIfInBounds i true).getD i false=true:=by
   have hlt:i<listed.size:=by rw [inv.size]; omega
   simp [hlt]
  have hfin:∀ s' v w',s'<=lo.length->(∀ k x,lo[k]?=some x->((listed.setIfInBounds i true).getD x false=true <-> k<s'))->J s' w'->(s<=s')->(∀ j,listed.getD j false=true->(∀ k,k<s'->j∉dead k)->∀ u,ps j w u->ps j w' u)->ps i w' v->wpAny P md ops Q' (f+(ops.size - n)) (listed.setIfInBounds i true) (a.put o.dst v) w':=fun s' v w' hs' hph' hj' hss hlast hpv=>by
   refine Q7a hn hsc hd hbk hlo hdd hlt hl hR hJ hop hop2 hL hsz f _ s' _ w' hcnt (inv.set hi hin') hs' hph' hj' ⟨?_,by rw [Q2X]; exact hk.size,fun d hfree=>?_⟩ fun j hj hlj hjd oj d hoj hdj=>?_
   ·rw [<- hk.defers]; unfold Act.put; split <;> rfl
   ·rw [Q1w (hfree i o hin' ho)]; exact hk.tmps d hfree
   by_cases hji:j=i
   ·subst hji;have:oj=o:=zU (hoj.symm.trans ho);subst this;have hds:d<a.tmps.size:=by rw [hk.size]; exact hsz j oj d hin' hoj hdj
    have he:(a.put oj.dst v).eval (.tmp d)=v:=by rw [hdj];simp [Act.put,Act.eval,hds]
    rw [he];exact hpv
   have hl2:listed.getD j false=true:=by rw [getD_set_ne false (Ne.symm hji)] at hlj; exact hlj
   have he:(a.put o.dst v).eval (.tmp d)=a.eval (.tmp d):=by have:=Q1w (a:=a) (v:=v) (Q2j hd hj hin' hji hoj ho hdj);simp [Act.eval,this]
   rw [he];exact hlast j hl2 hjd _ (hp j hj hl2 (fun k hk=>hjd k (by omega)) oj d hoj hdj)
  unfold wpOp;simp only [ho];by_cases hil:i∈lo
  ·obtain⟨k,hki⟩:=List.mem_iff_getElem?.1 hil;have hnl:listed.getD i false=false:=getD_both hun;have h1:=hph k i hki;have hks:¬ k<s:=fun h2=>by rw [h1.2 h2] at hnl; cases hnl
   have hsk:s=k:=by
    rcases Nat.eq_zero_or_pos k with e | e
    ·omega
    have hpl:k - 1<lo.length:=by have:=(List.getElem?_eq_some_iff.1 hki).1; omega
    have h2:=Q32 hlo (k - 1) lo[k - 1] i (zC hpl) (by rw [show k - 1+1=k by omega]; exact hki);have h3:=Q1l inv _ _ i o h2.2 ho hall;have h4:=(hph (k - 1) _ (zC hpl)).1 h3;omega
   subst hsk;have hrel:=hop2 i o hin' ho s a w hki hb hk hdep (wpAny P md ops Q' (f+(ops.size - n)) (listed.setIfInBounds i true)) Q' (fun v w' hr hj hpv=>hfin (s+1) v w' (by have:=(List.getElem?_eq_some_iff.1 hki).1; omega) (fun k' x hx=>by
    by_cases hxi:x=i
    ·subst hxi;have:=Q7N hlo hx hki;rw [hon]
     simp; omega
    rw [getD_set_ne false (Ne.symm hxi),hph k' x hx];have:k'≠s:=fun e=>hxi (by subst e; rw [hx] at hki; exact zU hki)
    omega) hj (by omega) (fun j hlj hjd u hu=>hR s j _ _ _ (by have:=(List.getElem?_eq_some_iff.1 hki).1; omega) (hjd s (by omega)) (fun hjl=>by
    have h5:=Q8A hlt hki hjl;have hjo:ops[j]?=some ops[j]:=zP (by omega);have h6:=Q1l inv i _ _ _ h5.2 hjo (inv.closed _ _ hjo hlj);rw [hnl] at h6;cases h6) (fun s' hs' e=>by have:=(hph s' j e).1 hlj; omega) hb hu hr) hpv)
   split
   ·rename_i hwt;rw [if_pos hwt] at hrel;exact .inl hrel
   rename_i hwt;rw [if_neg hwt] at hrel;exact hrel
  have hst:∀ k x,lo[k]?=some x->k<s->Q2L md ops ops.size x i=false:=fun k x hkx hks=>by
   cases hrx:Q2L md ops ops.size x i with
   | false=>rfl
   | true =>have hlx:=(hph k x hkx).2 hks;have hxn:=Q48 hlo _ (zW hkx);have hxo:ops[x]?=some ops[x]:=zP (by omega);have h6:=Q1l inv i _ _ _ hrx hxo (inv.closed _ _ hxo hlx);rw [getD_both hun] at h6;cases h6
  have hrel:=hop i o hin' ho hil s a w hst hb hk hdep (wpAny P md ops Q' (f+(ops.size - n)) (listed.setIfInBounds i true)) Q' (fun v w' hbw hpv=>hfin s v w' hsl (fun k' x hx=>by
   have hxi:x≠i:=fun e=>hil (e▸zW hx)
   rw [getD_set_ne false (Ne.symm hxi)];exact hph k' x hx) (hJ s w w' hb hbw) (zK _) (fun j _ _ u hu=>hl j _ _ _ hu hbw) hpv)
  split
  ·rename_i hwt;rw [if_pos hwt] at hrel;exact .inl hrel
  rename_i hwt;rw [if_neg hwt] at hrel;exact hrel
end
def Q3V (P:Program) (ops:Array Oper) (n:Nat) (ps:Nat->zA->zB->Prop) (J:Nat->zA->Prop) (R:zA->zA->Prop) (lo:List Nat) (a0:Act):Nat->List Oper->Prop
 | _,[]=>True
 | k,o :: l=>(if k∈lo then ∀ s a w,lo[s]?=some k->J s w->Kept ops n a0 a->(∀ j,zT .any ops k j=true->Q23 ops ps j w a)->Q4m P ops o a w R (J (s+1)) (ps k)
  else ∀ s a w,(∀ q x,lo[q]?=some x->q<s->Q2L .any ops ops.size x k=false)->J s w->Kept ops n a0 a->(∀ j,zT .any ops k j=true->Q23 ops ps j w a)->Q59 P ops o a w (ps k))/\Q3V P ops n ps J R lo a0 (k+1) l
theorem Q3V.spec {P:Program} {ops:Array Oper} {n:Nat} {ps:Nat->zA->zB->Prop} {J:Nat->zA->Prop} {R:zA->zA->Prop} {lo:List Nat} {a0:Act}:∀ (l:List Oper) (k:Nat),Q3V P ops n ps J R lo a0 k l->∀ i o,l[i]?=some o ->
 (if k+i∈lo then ∀ s a w,lo[s]?=some (k+i)->J s w->Kept ops n a0 a->(∀ j,zT .any ops (k+i) j=true->Q23 ops ps j w a)->Q4m P ops o a w R (J (s+1)) (ps (k+i))
  else ∀ s a w,(∀ q x,lo[q]?=some x->q<s->Q2L .any ops ops.size x (k+i)=false)->J s w->Kept ops n a0 a->(∀ j,zT .any ops (k+i) j=true->Q23 ops ps j w a)->Q59 P ops o a w (ps (k+i)))
 | [],k,_,i,o,ho=>by simp at ho
 | o' :: l,k,h,0,o,ho=>by simp at ho; subst ho; exact h.1
 | o' :: l,k,h,i+1,o,ho=>by have:=Q3V.spec l (k+1) h.2 i o (by simpa using ho);rw [show k+1+i=k+(i+1) by omega] at this;exact this
theorem Q0x {md:Region.Mode} {ops:Array Oper} {lo:List Nat} {s i n x:Nat} (h:∀ q x,lo[q]?=some x->q<s->Q2L md ops n x i=false) (h0:lo[0]?=some x) (hr:Q2L md ops n x i=true):s=0:=by
 rcases Nat.eq_zero_or_pos s with e | e
 ·exact e
 have:=h 0 x h0 e;rw [hr] at this;cases this
theorem Q1d {P:Program} {id:Nat} {Q:Exit->Act->zA->Prop} {a:Act} {w:zA} {l:List Oper} (n m:Nat) (ps:Nat->zA->zB->Prop) (J:Nat->zA->Prop) (R:zA->zA->Prop) (lo:List Nat) (dead late:Nat->List Nat) (ds:List Nat) (hm:P.follows .mixedOrders=true) (hB:QcS .any l.toArray n=true) (hlo:Q56 .any l.toArray n lo=true) (hdd:Qeo .any l.toArray n lo dead=true) (hlt:QdM .any l.toArray n lo late=true) (hsz:Qdj l.toArray n m=true) (ha:a.tmps.size=m) (hds:Q6y l.toArray n=ds)
 (hl:∀ j,Q15 (ps j)) (hR:∀ s j w w' v,s<lo.length->j∉dead s->j∉late s->(∀ s',s<=s'->lo[s']?≠some j)->J s w->ps j w v->R w w'->ps j w' v) (hJ:∀ s w w',J s w->zD w.heap.size w w'->J s w') (hJ0:J 0 w) (hop:Q3V P l.toArray n ps J R lo a 0 (l.take n))
 (h:∀ (f:Nat->zB) w',J lo.length w'->(∀ j,j<n->(∀ k,k<lo.length->j∉dead k)->∀ o d,l.toArray[j]?=some o->o.dst=some d->ps j w' (f d))->wpList P l.toArray Q (l.drop n) (Q0F a ds f) w'):(Code.region id l.toArray true).wp P Q a w:=by
 simp only [QcS,Bool.and_eq_true,Bool.or_eq_true,decide_eq_true_eq] at hB;obtain⟨⟨⟨⟨hn,hsc⟩,hd⟩,hbk⟩,hsq⟩:=hB;have inv0:HeadInv .any l.toArray n (Array.replicate l.toArray.size false) :=⟨by simp,fun j oj _ hl=>(by rw [getD_replicate_false] at hl; cases hl),fun t _ ht=>getD_in (by simpa using ht) (getD_replicate_false _ _)⟩
 have hdl:(l.drop n).length=l.toArray.size - n:=by simp
 refine wp_region_any hm ?_;have:=Q7a (Q':=Q) (md:=.any) (P:=P) (ops:=l.toArray) (n:=n) (ps:=ps) (J:=J) (R:=R) (lo:=lo) (a0:=a) hn hsc hd hbk hlo hdd hlt hl hR hJ (fun i o hi ho hni s a' w' h0 h1 h2 h3=>by
  have:=Q3V.spec (l.take n) 0 hop i o (by rw [zN,if_pos hi]; simpa using ho);simp only [zO] at this;rw [if_neg hni] at this;exact this s a' w' h0 h1 h2 h3)
  (fun i o hi ho s a' w' hlos h1 h2 h3=>by have:=Q3V.spec (l.take n) 0 hop i o (by rw [zN,if_pos hi]; simpa using ho);simp only [zO] at this;rw [if_pos (zW hlos)] at this;exact this s a' w' hlos h1 h2 h3)
  (fun a' w' h1 h2 h3=>by
   have:=wpAny_of_seq (md:=.any) (ops:=l.toArray) (Q':=Q) (l.drop n) n (Q0Y l.toArray.size n) a' w' (fun j=>by simp [List.getElem?_drop]) (by rw [hdl]; exact hsq) (by rw [h2.puts (by rw [ha]; exact hsz),hds];exact h _ w' h1 fun j hj hjd o d ho hd=>(h3 j hj hjd).get d ho hd)
   rw [hdl] at this;exact this)
  (fun i o d hi ho hdst=>by have:=List.all_eq_true.1 hsz i (List.mem_range.2 hi);simp only [ho,hdst,decide_eq_true_eq] at this;rw [ha]; exact this)
  n (Array.replicate l.toArray.size false) 0 a w.drew (by
   rw [List.filter_eq_self.2 (fun i _=>by rw [getD_replicate_false]; rfl)]
   simp) inv0 (Nat.zero_le _) (fun k x _=>by rw [getD_replicate_false]; simp) (hJ 0 _ _ hJ0 (zL _ w).drew) ⟨rfl,rfl,fun _ _=>rfl⟩ (fun j _ hj=>by rw [getD_replicate_false] at hj; cases hj)
 rw [show n+(l.toArray.size - n)=l.toArray.size by omega] at this;exact this
end
section
open Go.RowKit Go.Maps
attribute [local irreducible] wpList Q0h
theorem Q5e {α:Type} {x:α} {s:Nat} {y:α} (h:[x][s]?=some y):s=0:=by
 match s,h with
 | 0,_=>rfl
structure RCrLp (w:zA) (g6 f:Nat) (s:Srv) (k:Nat) (ov:zB) (wr:zA):Prop where
 own:∃ nA nC,Q1H wr w.heap.size ov f (Q12 s.first (s.moves.take k)) nA nC
 cur:∃ A n c,Blk wr g6 77 (crC f A n c)/\Q08 wr wr.heap.size 1 A n ((nowL s.first (s.moves.take k)).map vn)
 ne:ov.ownBlock≠some g6
 below:zD w.heap.size w wr
theorem Q77 (w:zA) (g i:Nat) (N:Nat->Prop) (m:AM) (S:RASl) (s:Srv) (h:Q1r w g N m S) (hs:m.chunks[i]?=some s) :
 zF zI 97 #[.pointer (some ⟨g,0,none⟩),.int .i64 ((i:Int)+1)] w (Q25 w s):=by
 have hil:i<m.chunks.length:=(List.getElem?_eq_some_iff.1 hs).1;have h2:=h.ok.one;have hmem:=zW hs;have hok:=h.ok.srv s hmem;have hsf:=h.same s hmem;obtain⟨gf,cur,hfA,hBf,hcf⟩:=h.crew hs;have hc1:=h.cFirst;rw [hfA] at hc1;have hcm:=h.cMoves i (by omega);have hfar:=h.first i s hs;have hmr:=h.mv i (by omega);rw [Q1c hs] at hcm hmr;obtain⟨n0,hn0⟩:∃ n,n=m.chunks.length:=⟨_,rfl⟩;rw [<- hn0] at hc1 hil;have hx1:¬ ((i:Int)+1<1):=by omega
 have hx2:¬ ((n0:Int)<(i:Int)+1):=by omega
 have hx3:(i:Int)+1 - 1=(i:Int):=by omega
 have hx4:(i:Int)<(n0:Int):=by omega
 have hx6:(i:Int)<2:=by omega
 have hx5:(0:Int)<=(i:Int):=by omega
 obtain⟨f,hf⟩:∃ f,f=s.f:=⟨_,rfl⟩;have HF:=sH hf;rw [<- hsf,<- hf] at hcf;obtain⟨Af,hAf⟩:∃ A,A=S.nA i:=⟨_,rfl⟩;obtain⟨cf,hcfe⟩:∃ c,c=S.nC i:=⟨_,rfl⟩;obtain⟨mA,hmA⟩:∃ k,k=S.mA i:=⟨_,rfl⟩;obtain⟨mC,hmC⟩:∃ k,k=S.mC i:=⟨_,rfl⟩;obtain⟨mn,hmn⟩:∃ k,k=s.moves.length:=⟨_,rfl⟩;obtain⟨n,hnn⟩:∃ k,k=s.first.length:=⟨_,rfl⟩;rw [<- hAf,<- hcfe,<- hnn] at hcf;rw [<- hAf,<- hcfe] at hfar;rw [<- hmA,<- hmC,<- hmn] at hcm hmr;have hrd:=hfar.rd;rw [<- hnn] at hrd;have hn7:n<=7:=by rw [hnn]; exact hok.crew.short.2
 have hmn21:mn<=21:=by rw [hmn]; exact hok.len
 have HN1:=sH (show n=3*f+1 by rw [hnn,hf]; exact hok.crew.len);obtain⟨C,hC⟩:∃ C,C=crC (f:Int) Af n cf:=⟨_,rfl⟩;rw [<- hC] at hcf;have hcs:C.size=2:=by rw [hC]; rfl
 have hco:C.all (·.oneCell')=true:=by rw [hC]; exact Q1h _ _ _ _
 have HC:=sH hC;have HBF:=sH hBf;have HCF:=sH hcf;have HCP:=sH (Q8u (f:Int) Af n cf s.first w w.heap.size hrd (zK _) (by omega));rw [<- hC] at HCP;have HMR:=sH (fun(W':zA) (hb:zD w.heap.size w W')=>Q0d hmr (fun b hb'=>hb.block b (Q07 hmr hb').2));have HCM:=sH (fun(W':zA) (hb:zD w.heap.size w W')=>(hb.cell (p:=⟨g,1+i,none⟩) h.cells.lt).trans hcm);have HOK:=sH hok;have HMN:=sH hmn;have HNN:=sH hnn;have hlf:=hBf.lt;obtain⟨P,hP⟩:∃ P,P=Q25 w s:=⟨_,rfl⟩;have HP:=sH hP;rw [<- hP];clear h hs hok hfar hmr hcm hBf hcf hC hP hn0 hf hsf hAf hcfe hmA hmC hmn hnn hmem hrd hfA;go_enter Tryz.func97,Tryz.ntmps97
 go_wp2_with (refine Q01 (o:=⟨some 27,_,_,_,_,_⟩) rfl 77 (.tmp 26) rfl gf (i*2) 2 rfl 77 _ C _ HBF.out zX rfl rfl hcs HCF.out ?_)
 refine HCP.out.mono ?_;rintro _ w5 ⟨A1,c1,rfl,ho5,hb5⟩;obtain⟨C1,hC1⟩:∃ C1,C1=crC (f:Int) A1 n c1:=⟨_,rfl⟩;rw [<- hC1];have hc1s:C1.size=2:=by rw [hC1]; rfl
 have hc1o:C1.all (·.oneCell')=true:=by rw [hC1]; exact Q1h _ _ _ _
 have HC1:=sH hC1;have HO5:=sH ho5;have HB5:=sH hb5;have hs5:=hb5.size;clear hC1 ho5 hb5 HCP HBF HCF;go_upto_region 4 with(refine Q00 (o:=⟨none,_,_,_,_,_⟩) rfl 77 (.tmp 5) (.tmp 28) rfl w5.heap.size 0 C1 rfl rfl 77 (crC 0 none 0 0) (Blk.newAt rfl) (by rw [hc1s]; kernel_rfl) (by rw [hc1s]; simp [crC]) hc1o ?_; intro w6 hT6 hD6)
 rw [Q0c _ _ (by rw [hc1s]; rfl)] at hD6;have hb6:zD w5.heap.size w5 w6:=hT6.below ((zL _ _).alloc (zK _) _) (zK _);obtain⟨g6,hg6⟩:∃ b,b=w5.heap.size:=⟨_,rfl⟩;rw [<- hg6] at hD6 ⊢;have HB6:=sH (HB5.out.trans (hb6.mono hs5));have HD6:=sH hD6;have HO6:=sH (HO5.out.below_ hb6);have hs6:=hb6.size;have hl6:=hD6.lt;have hgw6:w.heap.size<=g6:=by omega
 clear hb6 hT6 hD6 hg6 HO5 HB5;have hfold1:Array.foldl (fun(cs:Array zB) (x:zB×Nat)=>cs.setIfInBounds x.snd x.fst) #[Value.int .i64 0,zV none 0 0] C1.zipIdx 0 2=C1:=by rw [HC1.out]; rfl
 go_upto_region 5 with(refine Q01 (o:=⟨some 29,_,_,_,_,_⟩) rfl 77 (.tmp 5) rfl g6 0 2 rfl 77 _ C1 _ HD6.out zX rfl rfl hc1s (fun _ _=>by rw [zO]) ?_)
 have hb7:=Q04 w6 (.cells C1 77);have hk9:Blk (w6.alloc (.cells C1 77)) w6.heap.size 77 C1:=Blk.newAt rfl;have hne0:(zV (some (⟨w6.heap.size,0,none⟩:Addr)) 1 1).ownBlock≠some g6:=fun e=>by
  have e':w6.heap.size=g6:=by simpa [Value.ownBlock] using e
  omega
 have HST:=sH (show RCrLp w g6 f s 0 (.slice (some ⟨w6.heap.size,0,none⟩) 1 1) (w6.alloc (.cells C1 77)) from⟨⟨_,_,by
  have:=Q1H.one (g:=w6.heap.size) (B:=w.heap.size) (f:=f) (l:=s.first) (A:=A1) (c:=c1) (by omega) (by rw [<- HNN.out,<- HC1.out]; exact hk9) (by rw [<- HNN.out]; exact HO6.out.below_ hb7);have e:Q12 s.first (s.moves.take 0)=[s.first]:=by simp [Q12]
  rw [e]; exact this⟩,⟨A1,n,c1,by rw [<- HC1.out]; exact HD6.out.below' hb7,by
  have e:nowL s.first (s.moves.take 0)=s.first:=by simp [nowL]
  rw [e];exact(Q1y (HO6.out.below_ hb7)).2⟩,hne0,HB6.out.trans (hb7.mono (by omega))⟩)
 generalize World.alloc w6 _=w7 at HST ⊢;have c37:=HCM.out w7 HST.out.below;clear hb7 hk9 HD6 HO6 HB6 HC1 hfold1;go_wp2_with fail
 go_loopw [6,8] (fun ov iv wr=>∃ k:Nat,k<=mn/\iv=.int .i64 (k:Int)/\RCrLp w g6 f s k ov wr) (fun _ iv _=>mn - (intOf iv).toNat)
 case atStart=>exact⟨0,by omega,rfl,HST.out⟩
 clear HST c37
 obtain⟨k,hk,rfl,hlp⟩:=hrel;by_cases hkn:k<mn
 ·have hkI:(k:Int)<(mn:Int):=by omega
  have hkl:k<s.moves.length:=by have:=HMN.out; omega
  obtain⟨⟨o,z⟩,hoz⟩:∃ q,s.moves[k]?=some q:=⟨_,zC hkl⟩;obtain⟨gm,cur,hmA,hBm,hcm0,hcm1⟩:=Qbr (HMR.out wr hlp.below) hoz;subst hmA;obtain⟨A,n',c,hB6,hrd⟩:=hlp.cur;obtain⟨nA,nC,hown⟩:=hlp.own;have hmok:=HOK.out.mv;have hnok:OkC f (nowL s.first (s.moves.take k)):=by rw [HF.out]; exact(hmok.take k).now HOK.out.crew
  have hnn':n'=n:=by
   have h1:(nowL s.first (s.moves.take k)).length=n':=by have:=hrd.1; simpa using this
   rw [<- h1,hnok.len,HN1.out]
  have hgood:=hmok.at_ hoz;subst hnn';obtain⟨C',hC'⟩:∃ C',C'=crC (f:Int) A n' c:=⟨_,rfl⟩;rw [<- hC'] at hB6;have hcs':C'.size=2:=by rw [hC']; rfl
  obtain⟨l',hl'⟩:∃ l,l=Q1L (nowL s.first (s.moves.take k)) o z:=⟨_,rfl⟩;have HRP:=sH (fun(W:zA) (hb:zD wr.heap.size wr W)=>Q9a f A n' c (nowL s.first (s.moves.take k)) o z W wr.heap.size (hrd.below hb) hb.size hnok hgood);rw [<- hC',<- hl'] at HRP;have CM0:=sH (fun(W:zA) (hb:zD wr.heap.size wr W)=>(hb.cell (p:=⟨gm,k*2,none⟩) hBm.lt).trans ((hBm.cell _).trans hcm0));have CM1:=sH (fun(W:zA) (hb:zD wr.heap.size wr W)=>(hb.cell (p:=⟨gm,k*2+1,none⟩) hBm.lt).trans ((hBm.cell _).trans hcm1));have HL':=sH hl';have HLP:=sH hlp;have HB6:=sH hB6;have HOW:=sH hown;have HOZ:=sH hoz;have HNE:=sH hlp.ne;have hlr:=hlp.below.size;clear hlp hoz hBm hcm0 hcm1 hC' hB6 hrd hown hmok hnok hgood hl';go_upto_region 9 with fail
  refine Q1d 16 64 (fun jx W v=>match jx with | 0=>v=.agg C' | 1=>v=.slice (some ⟨gm,0,none⟩) mn mC | 2=>v=.int .i64 (k:Int) | 3=>v=.pointer (some ⟨gm,k*2,none⟩) | 4=>v=.pointer (some ⟨gm,k*2,none⟩) | 5=>v=.int .i64 o | 6=>v=.slice (some ⟨gm,0,none⟩) mn mC | 7=>v=.int .i64 (k:Int) | 8=>v=.pointer (some ⟨gm,k*2,none⟩) | 9=>v=.pointer (some ⟨gm,k*2+1,none⟩) | 10=>v=.int .i64 z | 11=>∃ A' c',v=.tuple #[.agg (crC (f:Int) A' n' c'),.int .i64 0]/\OwnN W wr.heap.size (.slice A' n' c') l' | 12=>∃ A' c',v=.tuple #[.agg (crC (f:Int) A' n' c'),.int .i64 0]/\OwnN W wr.heap.size (.slice A' n' c') l' | 13=>∃ A' c',v=.agg (crC (f:Int) A' n' c')/\OwnN W wr.heap.size (.slice A' n' c') l' | 14=>v=.int .i64 0 | 15=>True | _=>True) (fun s W=>match s with | 0=>zD wr.heap.size wr W/\Blk W g6 77 C' | _=>Only (fun b=>b=g6) wr W/\∃ A' c',Blk W g6 77 (crC (f:Int) A' n' c')/\OwnN W wr.heap.size (.slice A' n' c') l') (Q0b g6) [15] (fun _=>[]) (fun _=>[]) [45,46,47,48,49,50,51,52,53,54,55,56,44,57,58] (by kernel_rfl) (by kernel_rfl) (by kernel_rfl) (by kernel_rfl) (by kernel_rfl) (by kernel_rfl) (by simp) (by kernel_rfl) (fun jx=>?last) ?lastR ?jay ⟨zL _ _,HB6.out⟩ ?heads ?_
  case last =>
   match jx with
   | 0 | 1 | 2 | 3 | 4 | 5 | 6 | 7 | 8 | 9 | 10 | 14 | 15 | jx+16=>exact Q15.pure _
   | 11=>exact fun W W' v ⟨A',c',h1,h2⟩ hb=>⟨A',c',h1,h2.below_ hb⟩
   | 12=>exact fun W W' v ⟨A',c',h1,h2⟩ hb=>⟨A',c',h1,h2.below_ hb⟩
   | 13=>exact fun W W' v ⟨A',c',h1,h2⟩ hb=>⟨A',c',h1,h2.below_ hb⟩
  case lastR =>
   intro s jx W W' v hsl hdd hlt hs hj hp hr;match jx with
   | 0 | 1 | 2 | 3 | 4 | 5 | 6 | 7 | 8 | 9 | 10 | 14 | 15 | jx+16=>exact hp
   | 11 =>
    obtain rfl:s=0:=by simpa using hsl
    obtain⟨A',c',h1,h2⟩:=hp;exact⟨A',c',h1,h2.keep_ fun b hb=>hr.block b fun e=>Q05 h2 hj.2 (by decide) (by rw [hb,e])⟩
   | 12 =>
    obtain rfl:s=0:=by simpa using hsl
    obtain⟨A',c',h1,h2⟩:=hp;exact⟨A',c',h1,h2.keep_ fun b hb=>hr.block b fun e=>Q05 h2 hj.2 (by decide) (by rw [hb,e])⟩
   | 13 =>
    obtain rfl:s=0:=by simpa using hsl
    obtain⟨A',c',h1,h2⟩:=hp;exact⟨A',c',h1,h2.keep_ fun b hb=>hr.block b fun e=>Q05 h2 hj.2 (by decide) (by rw [hb,e])⟩
  case jay =>
   intro s W W' hj hb;match s,hj with
   | 0,hj=>exact⟨hj.1.trans (hb.mono hj.1.size),hj.2.below' hb⟩
   | s+1,⟨h1,A',c',h2,h3⟩=>exact⟨h1.trans (Only.of_below hb),A',c',h2.below' hb,h3.below_ hb⟩
  case heads =>
   simp only [tT];and_intros;rotate_right;trivial
   all_goals try(rw [if_neg (by decide)];intro s a W hst hj hkp hd)
   ·obtain rfl:=Q0x hst rfl (by kernel_rfl);have hb:zD wr.heap.size wr W:=hj.1;have e0:a.eval (.tmp 5)=.pointer (some ⟨g6,0,none⟩):=by have:=hkp.at_ (d:=5) (by kernel_rfl); rw [this]; rfl
    exact Q0j rfl (.agg C') (Q0p 77 (.tmp 5) rfl g6 0 2 e0 77 _ C' _ hj.2 zX rfl rfl hcs' (fun _ _=>by rw [zO])) rfl
   ·obtain rfl:=Q0x hst rfl (by kernel_rfl);have hb:zD wr.heap.size wr W:=hj.1;have e0:(_:zB)=.slice (some ⟨gm,0,none⟩) mn mC:=sK hkp 7;exact sV
   ·obtain rfl:=Q0x hst rfl (by kernel_rfl);have hb:zD wr.heap.size wr W:=hj.1;have e0:(_:zB)=.int .i64 (k:Int):=sK hkp 8;exact sV
   ·obtain rfl:=Q0x hst rfl (by kernel_rfl);have hb:zD wr.heap.size wr W:=hj.1;have e0:=sJ (hd 1) 46;have e1:=sJ (hd 2) 47;have hlt:=hkI;exact sV
   ·obtain rfl:=Q0x hst rfl (by kernel_rfl);have hb:zD wr.heap.size wr W:=hj.1;have e0:=sJ (hd 3) 48;exact sV
   ·obtain rfl:=Q0x hst rfl (by kernel_rfl);have hb:zD wr.heap.size wr W:=hj.1;have e0:=sJ (hd 4) 49;have cc:=CM0.out W hb;exact sV
   ·obtain rfl:=Q0x hst rfl (by kernel_rfl);have hb:zD wr.heap.size wr W:=hj.1;have e0:(_:zB)=.slice (some ⟨gm,0,none⟩) mn mC:=sK hkp 7;exact sV
   ·obtain rfl:=Q0x hst rfl (by kernel_rfl);have hb:zD wr.heap.size wr W:=hj.1;have e0:(_:zB)=.int .i64 (k:Int):=sK hkp 8;exact sV
   ·obtain rfl:=Q0x hst rfl (by kernel_rfl);have hb:zD wr.heap.size wr W:=hj.1;have e0:=sJ (hd 6) 51;have e1:=sJ (hd 7) 52;have hlt:=hkI;exact sV
   ·obtain rfl:=Q0x hst rfl (by kernel_rfl);have hb:zD wr.heap.size wr W:=hj.1;have e0:=sJ (hd 8) 53;exact sV
   ·obtain rfl:=Q0x hst rfl (by kernel_rfl);have hb:zD wr.heap.size wr W:=hj.1;have e0:=sJ (hd 9) 54;have cc:=CM1.out W hb;exact sV
   ·obtain rfl:=Q0x hst rfl (by kernel_rfl);have hb:zD wr.heap.size wr W:=hj.1;have e0:=sJ (hd 0) 45;have e1:=sJ (hd 5) 50;have e2:=sJ (hd 10) 55;have e0:=sJ (hd 0) 45;have e1:=sJ (hd 5) 50;have e2:=sJ (hd 10) 55;refine Q0u rfl 140 #[.agg C',.int .i64 o,.int .i64 z] (by go_simp) ((HRP.out W hb).mono ?_);rintro e w' ⟨A',c',rfl,ho,hb'⟩;exact⟨_,rfl,hb',A',c',rfl,OwnN.more ho hb.size⟩
   ·obtain rfl:=Q0x hst rfl (by kernel_rfl);have hb:zD wr.heap.size wr W:=hj.1;obtain⟨A',c',e0,ho⟩:=(sG (hd 11) 56:);exact Q0j rfl (.tuple #[.agg (crC (f:Int) A' n' c'),.int .i64 0]) (by go_simp) ⟨A',c',rfl,ho⟩
   ·obtain rfl:=Q0x hst rfl (by kernel_rfl);have hb:zD wr.heap.size wr W:=hj.1;obtain⟨A',c',e0,ho⟩:=(sG (hd 12) 44:);exact Q0j rfl (.agg (crC (f:Int) A' n' c')) (by go_simp; try rfl) ⟨A',c',rfl,ho⟩
   ·obtain⟨A',c',e0,ho⟩:=(sG (hd 12) 44:);exact Q0j rfl (.int .i64 0) (by go_simp; try rfl) rfl
   rw [if_pos (by decide)];intro s a W hs hj hkp hd;obtain rfl:=Q5e hs;obtain⟨A',c',e57,ho⟩:=(sG (hd 13) 57:);have e5:a.eval (.tmp 5)=.pointer (some ⟨g6,0,none⟩):=by have:=hkp.at_ (d:=5) (by kernel_rfl); rw [this]; rfl
   have e57':a.eval (.tmp 57)=.agg (crC (f:Int) A' n' c'):=by simpa [Act.eval] using e57
   refine Q2x rfl 77 (.tmp 5) (.tmp 57) rfl g6 0 (crC (f:Int) A' n' c') e5 e57' 77 C' hj.2 (Q1M _ _ _ _) (by rw [hcs']; simp [crC]) (Q1h _ _ _ _) fun W' hT hB=>?_
   rw [Q0c _ _ (by rw [hcs']; rfl)] at hB;exact⟨hT,⟨(Only.of_below (N:=fun b=>b=g6) hj.1).trans (Only.of_turned hT rfl),A',c',hB,ho.keep_ fun b hb=>hT.block b fun e=>Q05 ho hj.2 (by decide) (by rw [hb,e])⟩,trivial⟩
  intro ff w5' hJ hd;obtain⟨hon,A',c',hD5,ho⟩:=hJ;obtain⟨E,hE⟩:∃ E,E=crC (f:Int) A' n' c':=⟨_,rfl⟩;have hes:E.size=2:=by rw [hE]; rfl
  have he1:E.all (·.oneCell')=true:=by rw [hE]; exact Q1h _ _ _ _
  rw [<- hE] at hD5;have HE:=sH hE;have HO5:=sH (OwnN.more (B':=w.heap.size) ho hlr);have HOW5:=sH (⟨Q0d HOW.out.row fun b hb=>hon.block b (Q07 HOW.out.row hb).2 (fun e=>HNE.out (by rw [hb,e])),fun i l hl=>(HOW.out.nodes i l hl).keep_ fun b hb=>hon.block b (Q07 (HOW.out.nodes i l hl) hb).2 fun e=>Q05 (HOW.out.nodes i l hl) HB6.out (by decide) (by rw [hb,e])⟩:Q1H w5' w.heap.size _ f (Q12 s.first (s.moves.take k)) nA nC);have HD5:=sH hD5;have HB5:=sH (HLP.out.below.trans (hon.below (B:=w.heap.size) hlr fun b h1 h2=>by omega));have hsw5:=HB5.out.size;clear hd hon hD5 ho hE HOW HB6;simp only [Q0F,tU];try simp only [Act.put,sA]
  have hfold:Array.foldl (fun(cs:Array zB) (x:zB×Nat)=>cs.setIfInBounds x.snd x.fst) #[Value.int .i64 0,zV none 0 0] E.zipIdx 0 2=E:=by rw [HE.out]; rfl
  obtain⟨i0,hi0,hz0,hz1,hz2⟩:=info_parts Q74;have hb6:=Q04 w5' (.cells E 77);have hcl:(Q12 s.first (s.moves.take k)).length=k+1:=by rw [Q1J,List.length_take]; omega
  have hrow6:=(HOW5.out.below hb6).row;rw [hcl] at hrow6;obtain⟨cells,hcells⟩:∃ l,l=Q1B f nA nC 0 (Q12 s.first (s.moves.take k)):=⟨_,rfl⟩;rw [<- hcells] at hrow6;have HCE:=sH hcells;have HCL:=sH hcl;have HROW6:=sH hrow6;have HRD6:=sH (Q4R w5' E hes);have HOW6:=sH (HOW5.out.below hb6);have HO6:=sH (HO5.out.below_ hb6);have HD6':=sH (HD5.out.below' hb6);have HB6':=sH (HB5.out.trans (hb6.mono hsw5));have hs6':=hb6.size;clear hb6 hcl hrow6 hcells HOW5 HO5 HB5 HLP CM0 CM1 HRP;go_wp2_with (first
   | refine Q01 (o:=⟨some 60,_,_,_,_,_⟩) rfl 77 (.tmp 5) rfl g6 0 2 rfl 77 _ E _ HD5.out zX rfl rfl hes (fun _ _=>by rw [zO]) ?_
   | (at_builtin; go_must (refine Q03 _ rfl (.tmp 59) (.tmp 61) 74 rfl w.heap.size 77 i0 _ 2 32 Tryz.underlying74 hi0 hz0 hz1 hz2 rfl (by omega) _ _ _ rfl HROW6.out _ (some ⟨w5'.heap.size,0,none⟩) 1 1 E.toList rfl HRD6.out ?d1 ?d2 ?d3 ?d4 ?_)))
  case d1=>exact fun u hu=>(Array.all_eq_true'.1 he1) u (by simpa using hu)
  case d2=>unfold maxLen; omega
  case d3=>first | omega | (simp; omega)
  case d4=>first | omega | (simp; omega)
  intro v6 w6' hown6 hg6' hor6;have hl':=HL'.out;have ho6:=HO6.out;have hn6:l'.length=n':=(Q1y ho6).1;have hown:Q1H w6' w.heap.size v6 f (Q12 s.first (s.moves.take k)++[l']) _ _:=HOW6.out.push (l:=l') (A:=A') (c:=c') hg6' (by rw [hn6]; exact ho6) (by rw [HCL.out,hn6,<- HCE.out]; rw [HE.out] at hown6; exact hown6);have hb66:zD w.heap.size w w6':=Q0e HB6'.out (by simp; omega) hg6' (fun b hb=>by have:=(Q07 HROW6.out hb).1; omega);have htk:s.moves.take (k+1)=s.moves.take k++[(o,z)]:=by rw [List.take_add_one,HOZ.out]; rfl
  have hcrew:Q12 s.first (s.moves.take (k+1))=Q12 s.first (s.moves.take k)++[l']:=by rw [htk,Q46,hl']
  have hnow:nowL s.first (s.moves.take (k+1))=l':=by rw [htk,Q41,hl']
  have hlast:=hown.nodes _ l' List.getElem?_concat_length;rw [if_pos rfl,if_pos rfl] at hlast;have hbl6:Blk w6' g6 77 (crC (f:Int) A' n' c'):=by rw [<- HE.out];exact HD6'.out.grown hg6' (fun e=>HNE.out e.symm)
  have hne6:v6.ownBlock≠some g6:=fun e=>by
   rcases hor6 with q | q
   ·exact HNE.out (q▸e)
   rw [q] at e;have hlt:=HD5.out.lt;injection e with e
   omega
  have HLP':=sH (show RCrLp w g6 f s (k+1) v6 w6' from⟨⟨_,_,by rw [hcrew]; exact hown⟩,⟨A',n',c',hbl6,by rw [hnow,<- hn6]; exact(Q1y hlast).2⟩,hne6,hb66⟩);clear hown hb66 htk hcrew hnow hlast hbl6 hl' ho6 hown6 hg6' hor6 hfold hne6 hn6;go_wp2_with fail
  go_roundw
  case rel=>exact⟨k+1,by omega,by go_num,HLP'.out⟩
  case measure=>simp [intOf]; omega
 obtain rfl:k=mn:=by omega
 have hkI:¬ (k:Int)<(k:Int):=by omega
 have htk:s.moves.take k=s.moves:=List.take_of_length_le (by rw [HMN.out]; omega);obtain⟨nA,nC,hown⟩:=hlp.own;rw [htk] at hown;rw [HF.out] at hown;have hpost:=Q25.of hown hlp.below (zK _);rw [<- HP.out] at hpost;have HR:=sH hpost;clear hlp htk hown hpost;go_wp2_with fail
 exact HR.out
theorem Q1r.head {w:zA} {g:Nat} {N:Nat->Prop} {m:AM} {S:RASl} (h:Q1r w g N m S):∃ gf cur,S.fA=some ⟨gf,0,none⟩/\Blk w gf 77 cur/\∀ i s,m.chunks[i]?=some s->∀ j,j<2->cur[i*2+j]?=(crC (S.f:Int) (S.nA i) s.first.length (S.nC i))[j]?:=by
 have h1:=h.ok.one;obtain⟨gf,cur,e1,e2,_⟩:=h.crew (zC (show 0<m.chunks.length by omega));refine⟨gf,cur,e1,e2,fun i s hs=>?_⟩;obtain⟨gf',cur',e1',e2',e3⟩:=h.crew hs;rw [e1] at e1';injection e1' with e1'
 injection e1' with e1'
 subst e1';have:=e2.symm.trans e2';injection this with this
 injection this with this
 subst this;exact e3
theorem QaP (w:zA) (g:Nat) (N:Nat->Prop) (m:AM) (S:RASl) (h:Q1r w g N m S) :
 zF zI 96 #[.pointer (some ⟨g,0,none⟩)] w fun e w'=>e=.returned (.int .i64 (m.chunks.length:Int))/\w=w':=by
 have c0:=h.cFirst;clear h;go_enter Tryz.func96,Tryz.ntmps96
 go_wp2_with fail
 go_ret
 exact⟨rfl,rfl⟩
theorem Qdd (w:zA) (g:Nat) (N:Nat->Prop) (m:AM) (S:RASl) (z:Int) (h:Q1r w g N m S) :
 zF zI 109 #[.pointer (some ⟨g,0,none⟩),.int .i64 z] w fun e w'=>e=.returned (.bool (Q0S m.chunks S.f z))/\zD w.heap.size w w':=by
 have h1:=h.ok.one;obtain⟨gf,cur,hfA,hBf,hcf⟩:=h.head;have hc0:=h.cFirst;rw [hfA] at hc0;have hf2:S.f<=2:=by have hm:=zM (show 0<m.chunks.length by omega);have:=(h.ok.srv _ hm).crew.faults;have:=h.same _ hm;omega
 have hcf0:w.cell? ⟨gf,0,none⟩=some (.int .i64 (S.f:Int)):=(hBf.cell 0).trans (hcf 0 _ (zC (show 0<m.chunks.length by omega)) 0 (by omega));have HD:=sH (fun(W:zA) (hb:zD w.heap.size w W)=>h.below hb);have HBF:=sH hBf;have HCF:=sH hcf;obtain⟨f,hf⟩:∃ f,f=S.f:=⟨_,rfl⟩;obtain⟨fC,hfC⟩:∃ f,f=S.fC:=⟨_,rfl⟩;obtain⟨n0,hn0⟩:∃ f,f=m.chunks.length:=⟨_,rfl⟩;obtain⟨res,hres⟩:∃ r,r=Q0S m.chunks f z:=⟨_,rfl⟩;rw [<- hf,<- hres];rw [<- hf] at hcf0;rw [<- hn0,<- hfC] at hc0;have HN0:=sH hn0;have HFC:=sH hfC;have HF:=sH hf;have HRES:=sH hres;have hf2':f<=2:=by omega
 have hn02:n0<=2:=by omega
 have hn01:(0:Int)<(n0:Int):=by omega
 have hw3:IntKind.i64.wrap (IntKind.i64.wrap (3*(f:Int))+1)=3*(f:Int)+1:=by rw [IntKind.wrap_i64,IntKind.wrap_i64]; omega
 clear h h1 hBf hcf hf2 hf hfC hn0 hres hfA;go_enter Tryz.func109,Tryz.ntmps109
 by_cases hz:z<=3*(f:Int)+1
 ·have hr:res=true:=by rw [HRES.out]; unfold Q0S; rw [decide_eq_true hz]; rfl
  subst hr;go_wp2_with fail
  go_ret
  exact⟨rfl,zL _ _⟩
 have HR:=sH (show res=(m.chunks.drop 0).any (fun s=>Q2P s z) by rw [HRES.out,List.drop_zero]; unfold Q0S; rw [decide_eq_false hz,Bool.false_or]);have HC0:=sH (fun(W:zA) (hb:zD w.heap.size w W)=>(hb.cell (p:=⟨g,0,none⟩) (HD.out w (zL _ _)).cells.lt).trans hc0);clear HRES;go_wp2_with fail
 clear hw3 hcf0 hz hc0;go_loopw [5] (fun iv wr=>∃ c:Nat,c<=n0/\iv=.int .i64 c/\zD w.heap.size w wr/\res=(m.chunks.drop c).any (fun s=>Q2P s z)) (fun iv _=>n0 - (intOf iv).toNat)
 case atStart=>exact⟨0,by omega,rfl,zL _ _,HR.out⟩
 clear HR
 obtain⟨c,hc,rfl,hlow,hr⟩:=hrel;have HL:=sH hlow;have hls:=hlow.size;have hc0:=HC0.out wr hlow;by_cases hcn:c<n0
 ·have hcI:(c:Int)<(n0:Int):=by omega
  have hcl:c<m.chunks.length:=by have:=HN0.out; omega
  have hsc:=zC hcl;rw [List.drop_eq_getElem_cons hcl,List.any_cons] at hr;have hmem:=zM hcl;generalize m.chunks[c]=s at hsc hr hmem;have hd:=HD.out wr hlow;have hok:=hd.ok.srv s hmem;have hsf:=hd.same s hmem;have hfar:=hd.first c s hsc;have hcm:=hd.cMoves c (by omega);have hmr:=hd.mv c (by omega);rw [Q1c hsc] at hcm hmr;obtain⟨rest,hrest⟩:∃ r,r=(m.chunks.drop (c+1)).any (fun s=>Q2P s z):=⟨_,rfl⟩;rw [<- hrest] at hr;have HREST:=sH hrest;have hcC:=HCF.out c s hsc;rw [<- HF.out] at hcC hsf;obtain⟨C,hC⟩:∃ C,C=crC (f:Int) (S.nA c) s.first.length (S.nC c):=⟨_,rfl⟩;have hHS:=Qau (f:Int) (S.nA c) s.first.length (S.nC c) s.first z wr wr.heap.size hfar.rd (zK _) (by have:=hok.crew.short; omega);rw [<- hsf,Q4a hok.crew,Bool.true_and,hsf] at hHS;rw [<- hC] at hcC hHS;have hcs:C.size=2:=by rw [hC]; rfl
  have HHS:=sH hHS;have HCC:=sH hcC;have HBF2:=sH (HBF.out.below hlow HBF.out.lt);have HMR:=sH (fun(W:zA) (hb:zD wr.heap.size wr W)=>Q0d hmr (fun b hb'=>hb.block b (Q07 hmr hb').2));have HCM:=sH (fun(W:zA) (hb:zD wr.heap.size wr W)=>(hb.cell (p:=⟨g,1+c,none⟩) hd.cells.lt).trans hcm);obtain⟨mA,hmA⟩:∃ k,k=S.mA c:=⟨_,rfl⟩;obtain⟨mC,hmC⟩:∃ k,k=S.mC c:=⟨_,rfl⟩;obtain⟨mn,hmn⟩:∃ k,k=s.moves.length:=⟨_,rfl⟩;rw [<- hmA,<- hmC,<- hmn] at HMR HCM;have hmn21:mn<=21:=by rw [hmn]; exact hok.len
  have HMN:=sH hmn;have hc2:(c:Int)<2:=by omega
  clear hsc hmem hd hok hsf hfar hcm hmr hrest hcC hC hHS hlow hmA hmC hmn;go_wp2_with (refine Q01 (o:=⟨some 33,_,_,_,_,_⟩) rfl 77 (.tmp 32) rfl gf (c*2) 2 rfl 77 _ C _ HBF2.out zX rfl rfl hcs HCC.out ?_)
  refine HHS.out.mono ?_;rintro _ w2 ⟨rfl,hb2⟩;have hs2:=hb2.size;have HB2:=sH hb2;have HL2:=sH (HL.out.trans (hb2.mono hls));clear hb2 HHS hc0;by_cases hin:z∈s.first
  ·rw [decide_eq_true hin];have hrt:res=true:=by rw [hr]; unfold Q2P; rw [decide_eq_true hin]; simp
   subst hrt;clear hr;go_wp2_with fail
   go_ret
   exact⟨rfl,HL2.out⟩
  rw [decide_eq_false hin];have HR2:=sH (show res=((s.moves.drop 0).any (fun m=>decide (m.2=z)) || rest) by rw [hr]; unfold Q2P; rw [decide_eq_false hin,List.drop_zero,Bool.false_or]);have hcm2:=HCM.out w2 HB2.out;clear hr hin;go_wp2_with fail
  go_loopw [6] (fun kv wr'=>∃ k:Nat,k<=mn/\kv=.int .i64 k/\zD wr.heap.size wr wr'/\res=((s.moves.drop k).any (fun m=>decide (m.2=z)) || rest)) (fun kv _=>mn - (intOf kv).toNat)
  case atStart=>exact⟨0,by omega,rfl,HB2.out,HR2.out⟩
  clear HR2 hcm2
  rename_i wq _;obtain⟨k,hk,rfl,hbq,hr⟩:=hrel;have HBQ:=sH hbq;have hsq:=hbq.size;have hcm2:=HCM.out _ hbq;have hc0:=HC0.out _ (HL.out.trans (hbq.mono hls));by_cases hkn:k<mn
  ·have hkI:(k:Int)<(mn:Int):=by omega
   have hkl:k<s.moves.length:=by have:=HMN.out; omega
   rw [List.drop_eq_getElem_cons hkl,List.any_cons] at hr;obtain⟨⟨o,y⟩,hoy⟩:∃ q,s.moves[k]=q:=⟨_,rfl⟩;have hk2:s.moves[k]?=some (o,y):=by rw [zC hkl,hoy]
   rw [hoy] at hr;obtain⟨gm,cur',hmA,hBm,_,hcm1⟩:=Qbr (HMR.out _ hbq) hk2;subst hmA;have cy:=(hBm.cell _).trans hcm1;simp only at hr;clear hbq hoy hk2 hBm hcm1;by_cases hyz:y=z
   ·have hyb:(y == z)=true:=by simpa using hyz
    have hrt:res=true:=by rw [hr,decide_eq_true hyz]; simp
    subst hrt;clear hr hyz;go_wp2_with fail
    go_ret
    exact⟨rfl,HL.out.trans (HBQ.out.mono hls)⟩
   have hyb:(y == z)=false:=by simpa using hyz
   rw [decide_eq_false hyz,Bool.false_or] at hr;have HRR:=sH hr;clear hr hyz;go_wp2_with fail
   go_roundw
   case rel=>exact⟨k+1,by omega,by go_num,HBQ.out,HRR.out⟩
   case measure=>simp [intOf]; omega
  obtain rfl:k=mn:=by omega
  have hkI:¬ (k:Int)<(k:Int):=by omega
  rw [List.drop_of_length_le (by have:=HMN.out; omega),List.any_nil,Bool.false_or] at hr;have HRR:=sH (hr.trans HREST.out);clear hr hbq;go_wp2_with fail
  go_roundw
  case rel=>exact⟨c+1,by omega,by go_num,HL.out.trans (HBQ.out.mono hls),HRR.out⟩
  case measure=>simp [intOf]; omega
 obtain rfl:c=n0:=by omega
 rw [List.drop_of_length_le (by have:=HN0.out; omega)] at hr;have hrf:res=false:=by rw [hr]; rfl
 subst hrf;clear hr hlow;go_wp2_with fail
 go_ret
 exact⟨rfl,HL.out⟩
end
section
open Go.RowKit Go.Maps
def Q5a (f:Nat) (ls:List (List Int)):List (Int×List Int):=ls.map fun l=>((f:Int),l)
theorem Q1H.crewsAt {w:zA} {B f:Nat} {v:zB} {ls:List (List Int)} {nA:Nat->Option Addr} {nC:Nat->Nat} (h:Q1H w B v f ls nA nC) (hl:∀ l,l∈ls->l.length<=1000):∃ A c,v=.slice A ls.length c/\∀ k,k<=ls.length->Q2p w A k (Q5a f (ls.take k)):=by
 rcases h.row.2 with⟨e,h0⟩ | ⟨gl,cap,cur,e,h2,h3,h4,h5,h6,h7⟩
 ·refine⟨none,0,by rw [e,h0],fun k hk=>⟨by simp [Q5a]; omega,fun h1=>by omega⟩⟩
 refine⟨some ⟨gl,0,none⟩,cap,e,fun k hk=>⟨by simp [Q5a]; omega,fun h1=>⟨gl,cur,rfl,h3,fun i f' l hi=>?_⟩⟩⟩;unfold Q5a at hi;rw [zG] at hi;cases hq:(ls.take k)[i]? with
 | none=>rw [hq] at hi; cases hi
 | some l' =>
  rw [hq] at hi;obtain⟨rfl,rfl⟩:=Prod.mk.inj (zU hi);rw [zN] at hq;split at hq
  ·have hg:=Q38 f nA nC ls 0 i l' hq;rw [zO] at hg;have hil:=(List.getElem?_eq_some_iff.1 hq).1;have ht:∀ q,q<ls.length*2->cur[q]?=(Q1B f nA nC 0 ls)[q]?:=fun q hq'=>by
    rw [<- h7,zN,if_pos hq',zS]
   have hr:=Q0i (h.nodes i l' hq);obtain⟨A',c',e',_,_,hrd,_⟩:=hr;injection e' with e1 _ e2
   refine⟨nA i,nC i,by rw [ht _ (by omega)]; exact hg.1,by rw [ht _ (by omega)]; exact hg.2,by rw [e1]; exact hrd,by have:=hl l' (zW hq); omega⟩
  cases hq
end
section
open Go.RowKit Go.Maps
attribute [local irreducible] wpList Q0h
def crLs (m:AM) (c:Nat):List (List Int):=if c=0 then [] else match m.chunks[c - 1]? with
 | none=>[]
 | some s=>Q12 s.first s.moves
def crFa (m:AM) (c:Nat):Nat:=match m.chunks[c - 1]? with
 | none=>0
 | some s=>s.f
def Q6g (w:zA) (m:AM) (c:Nat) (e:Ending) (w':zA):Prop:=∃ v nA nC,e=.returned v/\Q1H w' w.heap.size v (crFa m c) (crLs m c) nA nC/\zD w.heap.size w w'
theorem Q6g.nil {w w':zA} {m:AM} {c:Nat} (h:crLs m c=[]) (hb:zD w.heap.size w w'):Q6g w m c (.returned (.slice none 0 0)) w' :=⟨_,fun _=>none,fun _=>0,rfl,by rw [h]; exact⟨World.ownsRow_nil _ _ _ _,fun i l hl=>by simp at hl⟩,hb⟩
theorem Q6g.of {w w':zA} {m:AM} {i:Nat} {s:Srv} {e:Ending} (h:Q25 w s e w') (hs:m.chunks[i]?=some s):Q6g w m (i+1) e w':=by
 obtain⟨v,nA,nC,h1,h2,h3⟩:=h;refine⟨v,nA,nC,h1,?_,h3⟩;have e1:crFa m (i+1)=s.f:=by unfold crFa; rw [show i+1 - 1=i by omega,hs]
 have e2:crLs m (i+1)=Q12 s.first s.moves:=by unfold crLs; rw [if_neg (by omega),show i+1 - 1=i by omega,hs]
 rw [e1,e2];exact h2
theorem Q9z (w:zA) (V:ALoc) (N:Nat->Prop) (m:AM) (c:Nat) (hc:c<=10) (h:AAt w V N m) :
 zF zI 56 #[.pointer (some ⟨V.g,0,none⟩),.int .i64 (c:Int)] w (Q6g w m c):=by
 obtain⟨S,hd⟩:=h.dat;by_cases hin:1<=c/\c<=m.chunks.length
 ·obtain⟨i,rfl⟩:∃ i,c=i+1:=⟨c - 1,by omega⟩;have hs:=zC (show i<m.chunks.length by omega);have:=(Q8l w V.g V.gc i _ N m S _ hd hs).mono fun e w' hp=>Q6g.of (m:=m) (i:=i) hp hs
  exact this
 have hn:crLs m c=[]:=by
  unfold crLs;by_cases h0:c=0
  ·rw [if_pos h0]
  rw [if_neg h0,List.getElem?_eq_none (by omega)]
 have HN:=sH hn;have HNO:=sH (Q3a w V.g V.T.t ((hd.blk.cell 0).trans (Q1N _ _ _ _ 0 (by omega))));have hc1:w.cell? ⟨V.g,1,none⟩=some (.slice (some ⟨V.gc,0,none⟩) m.chunks.length S.cap):=(hd.blk.cell 1).trans (Q1N _ _ _ _ 1 (by omega));obtain⟨n,hnn⟩:∃ n,n=m.chunks.length:=⟨_,rfl⟩;rw [<- hnn] at hc1 hin;clear h hd hn hnn;go_enter Tryz.func56,Tryz.ntmps56
 by_cases h1:(c:Int)<1
 ·go_wp2_with fail
  refine HNO.out.mono ?_;rintro _ _ ⟨rfl,rfl⟩;go_wp2_with fail
  go_ret
  exact Q6g.nil HN.out (zL _ _)
 have h2:(n:Int)<(c:Int):=by omega
 go_wp2_with fail
 refine HNO.out.mono ?_;rintro _ _ ⟨rfl,rfl⟩;go_wp2_with fail
 go_ret
 exact Q6g.nil HN.out (zL _ _)
theorem Q89 (w:zA) (g:Nat) (N:Nat->Prop) (m:AM) (c:Nat) (hc:c<=10) (S:RASl) (hd:Q1r w g N m S) :
 zF zI 97 #[.pointer (some ⟨g,0,none⟩),.int .i64 (c:Int)] w (Q6g w m c):=by
 by_cases hin:1<=c/\c<=m.chunks.length
 ·obtain⟨i,rfl⟩:∃ i,c=i+1:=⟨c - 1,by omega⟩;have hs:=zC (show i<m.chunks.length by omega);exact(Q77 w g i N m S _ hd hs).mono fun e w' hp=>Q6g.of (m:=m) (i:=i) hp hs
 have hn:crLs m c=[]:=by
  unfold crLs;by_cases h0:c=0
  ·rw [if_pos h0]
  rw [if_neg h0,List.getElem?_eq_none (by omega)]
 have HN:=sH hn;have hc1:=hd.cFirst;obtain⟨n,hnn⟩:∃ n,n=m.chunks.length:=⟨_,rfl⟩;rw [<- hnn] at hc1 hin;clear hd hn hnn;go_enter Tryz.func97,Tryz.ntmps97
 by_cases h1:(c:Int)<1
 ·go_wp2_with fail
  go_ret
  exact Q6g.nil HN.out (zL _ _)
 have h2:(n:Int)<(c:Int):=by omega
 go_wp2_with fail
 go_ret
 exact Q6g.nil HN.out (zL _ _)
def InI (w:zA) (v:zB) (t:Nat):Prop:=t=0\/∃ gi cap cur,v=.slice (some ⟨gi,0,none⟩) t cap/\Blk w gi 3 cur/\∀ p,p<t->∃ x:Int,cur[p]?=some (.int .i64 x)
theorem InI.of_own {w:zA} {B:Nat} {v:zB} {xs:List Int} (h:OwnN w B v xs):InI w v xs.length:=by
 rcases h.2 with⟨_,h0⟩ | ⟨g,cap,cur,rfl,hg,hh,h1,h2,h3,h4⟩
 ·exact .inl h0
 refine .inr ⟨g,cap,cur,rfl,hh,fun p hp=>⟨xs[p],?_⟩⟩;have:(cur.toList.take (xs.length*1))[p]?=some (vn xs[p]):=by rw [h4,zG,zC hp]; rfl
 rw [Nat.mul_one,zN,if_pos hp] at this;simpa [vn] using this
theorem InI.put {w:zA} {v:zB} {t:Nat} (h:InI w v t) (g i:Nat) (x:Int):InI (w.setCell ⟨g,i,none⟩ (.int .i64 x)) v t:=by
 rcases h with h | ⟨gi,cap,cur,hv,hb,hc⟩
 ·exact .inl h
 by_cases e:gi=g
 ·subst e;refine .inr ⟨gi,cap,_,hv,hb.set_ i (.int .i64 x),fun p hp=>?_⟩;obtain⟨y,hy⟩:=hc p hp;by_cases e:i=p
  ·subst e;exact⟨x,by rw [Array.getElem?_setIfInBounds,if_pos rfl,if_pos (by rcases zE i cur.size with h | h; exact h; rw [Array.getElem?_eq_none h] at hy; cases hy)]⟩
  exact⟨y,by rw [Array.getElem?_setIfInBounds,if_neg e]; exact hy⟩
 exact .inr ⟨gi,cap,cur,hv,(Q0b.setCell w ⟨g,i,none⟩ (.int .i64 x)).blk hb e,hc⟩
structure Q81 (B:Nat) (w wr:zA) (v:zB) (f:Nat) (ls:List (List Int)) (nA:Nat->Option Addr) (nC:Nat->Nat):Prop where
 row:wr.ownsRow B 77 2 v ls.length (Q1B f nA nC 0 ls)
 nin:∀ i l,ls[i]?=some l->InI wr (.slice (nA i) l.length (nC i)) l.length/\(∀ b,(zV (nA i) l.length (nC i)).ownBlock=some b->B<=b)
 low:zD B w wr
theorem Q81.of {B f:Nat} {w wr:zA} {v:zB} {ls:List (List Int)} {nA:Nat->Option Addr} {nC:Nat->Nat} (h:Q1H wr B v f ls nA nC) (hb:zD B w wr):Q81 B w wr v f ls nA nC :=⟨h.row,fun i l hl=>⟨InI.of_own (h.nodes i l hl),fun b hb'=>(h.nodes i l hl).ge_ hb'⟩,hb⟩
theorem Q81.put {B f:Nat} {w wr:zA} {v:zB} {ls:List (List Int)} {nA:Nat->Option Addr} {nC:Nat->Nat} (h:Q81 B w wr v f ls nA nC) {g:Nat} {cur:Array zB} (hg:B<=g) (hk:Blk wr g 3 cur) (i:Nat) (x:Int):Q81 B w (wr.setCell ⟨g,i,none⟩ (.int .i64 x)) v f ls nA nC:=by have hT:=Q0b.setCell wr ⟨g,i,none⟩ (.int .i64 x);refine⟨Q0d h.row fun b hb=>hT.block b fun e=>?_,fun j l hl=>⟨(h.nin j l hl).1.put g i x,(h.nin j l hl).2⟩,hT.below h.low hg⟩;have e':b=g:=e;subst e';exact Q05 h.row hk (by decide) hb
theorem Q81.cell {B f:Nat} {w wr:zA} {A:Option Addr} {n c:Nat} {ls:List (List Int)} {nA:Nat->Option Addr} {nC:Nat->Nat} (h:Q81 B w wr (.slice A n c) f ls nA nC) (hn:ls.length=n) {i:Nat} {l:List Int} (hl:ls[i]?=some l):∃ gl,A=some ⟨gl,0,none⟩/\wr.cell? ⟨gl,i*2+1,none⟩=some (.slice (nA i) l.length (nC i)):=by
 have hil:i<ls.length:=(List.getElem?_eq_some_iff.1 hl).1;rcases h.row.2 with⟨e,h1⟩ | ⟨gl,cap,cur,e,h2,h3,h4,h5,h6,h7⟩
 ·omega
 injection e with e1 _ _
 have hB:Blk wr gl 77 cur:=h3;have hg:=Q38 f nA nC ls 0 i l hl;rw [zO] at hg;have ht:∀ q,q<ls.length*2->cur[q]?=(Q1B f nA nC 0 ls)[q]?:=fun q hq'=>by rw [<- h7,zN,if_pos hq',zS]
 exact⟨gl,e1,by rw [hB.cell,ht _ (by omega)]; exact hg.2⟩
def newC (v:zB):Array zB:=#[v,.slice none 0 0,.slice none 0 0,.int .i64 0,.int .i64 0,.int .i64 0,.int .i64 0,.int .i64 0,.slice none 0 0,.int .i64 0,.slice none 0 0,.int .i64 0,.slice none 0 0,.int .i64 0,.slice none 0 0,.int .i64 0,.slice none 0 0,.int .i64 0,.slice none 0 0,.int .i64 0,.slice none 0 0,.int .i64 0,.slice none 0 0]
def Q71 (w:zA) (o:Option AM) (e:Ending) (w':zA):Prop:=zD w.heap.size w w'/\(o=none->e=.returned (.tuple #[.pointer none,.int .i64 2]))/\(∀ m,o=some m->∃ g,e=.returned (.tuple #[.pointer (some ⟨g,0,none⟩),.int .i64 0])/\w.heap.size<=g/\RAWr w' g (fun b=>b<w.heap.size) m)
theorem Q8V:∀ (t:List (Int×List Int)) (acc:List Srv) (f0:Int) (cs:List Srv),Q1K acc f0 t=some cs->cs=acc++t.map (fun c=>(⟨c.1.toNat,c.2,[]⟩:Srv))/\∀ c,c∈t->c.1=f0/\0<=c.1/\c.2.length<=7
 | [],acc,f0,cs,e=>⟨by rw [<- zU e]; simp,fun c h=>by cases h⟩
 | c :: t,acc,f0,cs,e=>by
  unfold Q1K at e;split at e
  ·rename_i hc;have:=Q8V t _ f0 cs e;refine⟨by rw [this.1]; simp,fun d hd=>?_⟩;rcases List.mem_cons.1 hd with rfl | hd
   ·exact⟨hc.2.1,hc.1.1,by have:=hc.1.2.2.1; have:=hc.1.2.1; omega⟩
   exact this.2 d hd
  cases e
theorem Qey {cs:List (Int×List Int)} {ss:List Srv} (h:Q24 cs=some ss):ss=cs.map (fun c=>(⟨c.1.toNat,c.2,[]⟩:Srv))/\(∃ f:Nat,∀ c,c∈cs->c.1=(f:Int)/\c.2.length<=7)/\1<=cs.length/\cs.length<=2:=by
 cases cs with
 | nil=>cases h
 | cons c t =>
  unfold Q24 at h;simp only at h;split at h
  ·rename_i hl;have:=Q8V _ _ _ _ h;have h0:=this.2 c (List.mem_cons_self ..);exact⟨by rw [this.1]; rfl,⟨c.1.toNat,fun d hd=>⟨by have:=(this.2 d hd).1; omega,(this.2 d hd).2.2⟩⟩,by simp,hl⟩
  cases h
theorem raFresh {ss:List Srv} (hb:∀ s,s∈ss->s.moves=[]) (S:RASl) (h1:∀ i,S.mA i=none) (h2:∀ i,S.mC i=0) (h3:∀ i,S.lA i=none) (h4:∀ i,S.lC i=0):Q1Q (Q0G ss) S=newC (.slice S.fA ss.length S.fC):=by
 have hm:∀ i,Q1s (Q0G ss) i=[]:=fun i=>by
  unfold Q1s;cases e:(Q0G ss).chunks[i]? with
  | none=>rfl
  | some s=>exact hb s (zW e)
 have hl:∀ i,Q0B (Q0G ss) i=(0,okA):=fun i=>by unfold Q0B Q0G;rw [List.getD_eq_getElem?_getD,List.getElem?_replicate];split <;> rfl
 unfold Q1Q
 symm
 refine Q4n rfl fun j hj=>?_
 have e:raF (Q0G ss) S j=(newC (.slice S.fA ss.length S.fC))[j]?.getD undef:=by
  unfold raF;simp only [hm,hl,h1,h2,h3,h4];rcases zE j 12 with h | h
  ·rcases zE j 6 with h' | h'
   ·obtain rfl | rfl | rfl | rfl | rfl | rfl:j=0\/j=1\/j=2\/j=3\/j=4\/j=5:=by omega
    all_goals rfl
   obtain rfl | rfl | rfl | rfl | rfl | rfl:j=6\/j=7\/j=8\/j=9\/j=10\/j=11:=by omega
   all_goals rfl
  rcases zE j 18 with h' | h'
  ·obtain rfl | rfl | rfl | rfl | rfl | rfl:j=12\/j=13\/j=14\/j=15\/j=16\/j=17:=by omega
   all_goals rfl
  obtain rfl | rfl | rfl | rfl | rfl:j=18\/j=19\/j=20\/j=21\/j=22:=by omega
  all_goals rfl
 rw [e,zP (show j<(newC (.slice S.fA ss.length S.fC)).size from hj)];rfl
theorem Q1r.fresh {w0 w:zA} {g f:Nat} {A:Option Addr} {c:Nat} {cs:List (Int×List Int)} {ss:List Srv} {nA:Nat->Option Addr} {nC:Nat->Nat} (hss:Q24 cs=some ss) (hf:∀ s,s∈ss->s.f=f) (hg:w0.heap.size<=g) (hB:Blk w g 153 (newC (.slice A ss.length c))) (ho:Q1H w w0.heap.size (.slice A ss.length c) f (ss.map (·.first)) nA nC):RAWr w g (fun b=>b<w0.heap.size) (Q0G ss):=by
 have hq:=Q5n hss;have hm:∀ i,Q1s (Q0G ss) i=[]:=fun i=>by
  unfold Q1s;cases e:(Q0G ss).chunks[i]? with
  | none=>rfl
  | some s=>exact hq.2.1 s (zW e)
 have hl:∀ i,Q0B (Q0G ss) i=(0,okA):=fun i=>by unfold Q0B Q0G;rw [List.getD_eq_getElem?_getD,List.getElem?_replicate];split <;> rfl
 refine⟨⟨f,A,c,nA,nC,fun _=>none,fun _=>0,fun _=>none,fun _=>0⟩,⟨?_,?_,hf,fun i s hs=>?_,fun i hi=>?_,fun b hb=>?_,fun i hi=>?_,Q7Y hq.1,by omega,fun b hb=>?_,fun i hi b hb=>?_⟩,⟨fun i s hs a h0 ha hr=>?_,fun i hi a h0 ha hr=>by cases ha⟩⟩
 ·rw [raFresh hq.2.1 _ (fun _=>rfl) (fun _=>rfl) (fun _=>rfl) (fun _=>rfl)];exact hB
 ·have:=ho.row;rw [zR] at this;exact QaS this (Nat.zero_le _)
 ·have:=ho.nodes i s.first (by rw [zG]; show Option.map _ (ss[i]?)=_; rw [show ss[i]?=some s from hs]; rfl);obtain⟨A',c',e1,e2⟩:=FarN.of_own (w0:=w0) (N:=fun b=>b<w0.heap.size) this (fun b hb=>hb);injection e1 with e3 e4 e5
  show FarN w (fun b=>b<w0.heap.size) (nA i) (nC i) s.first;rw [e3,e5];exact e2
 ·rw [hm];exact⟨rfl,.inl ⟨rfl,rfl⟩⟩
 ·rw [hm] at hb;cases hb
 ·rw [hl];exact FarN.nil _ _
 ·have:=(Q07 ho.row hb).1;omega
 ·rw [hm] at hb;cases hb
 have hn:=ho.nodes i s.first (by rw [zG]; show Option.map _ (ss[i]?)=_; rw [show ss[i]?=some s from hs]; rfl);have ha':nA i=some a:=ha;have hob:(zV (nA i) s.first.length (nC i)).ownBlock=some a.block:=by rw [ha']; rfl
 rcases hr with e | ⟨q,hq',e⟩
 ·exact Q05 hn hB (by decide) (by rw [hob,e])
 cases e
theorem QdC (A:Option Addr) (n c:Nat) (cs:List (Int×List Int)) (w:zA) (h:Q44 w A n cs) (hn:n<=17592186044416) :
 zF zI 36 #[.slice A n c] w (Q71 w (newQ cs)):=by
 have hlen:=h.len;have HFB:=sH (QaC A n c cs w h hn);have hbf:=QaF cs;obtain⟨P,hP⟩:∃ P,P=Q71 w (newQ cs):=⟨_,rfl⟩;have HP:=sH hP;rw [<- hP];cases hbv:Q24 cs with
 | none =>
  rw [hbv] at hbf;rw [<- show false=Q1R cs from hbf] at HFB;have HQ:=sH (show newQ cs=none by unfold newQ; rw [hbv]; rfl);clear hbf hbv h hlen hP;go_enter Tryz.func36,Tryz.ntmps36
  go_wp2_with fail
  refine HFB.out.mono ?_;rintro _ w1 ⟨rfl,hb1⟩;have HB1:=sH hb1;clear hb1;go_wp2_with fail
  show P (.returned (.tuple #[.pointer none,.int .i64 2])) w1;rw [HP.out,HQ.out];exact⟨HB1.out,fun _=>rfl,fun m e=>by cases e⟩
 | some ss =>
  rw [hbv] at hbf;rw [<- show true=Q1R cs from hbf] at HFB;have HQ:=sH (show newQ cs=some (Q0G ss) by unfold newQ; rw [hbv]; rfl);obtain⟨hss,⟨f,hf⟩,hl1,hl2⟩:=Qey hbv;have HBV:=sH hbv;have HSS:=sH hss;have HF:=sH hf;have H:=sH (fun(W:zA) (hb:zD w.heap.size w W)=>h.below hb);have HLEN:=sH hlen;obtain⟨q,o0,A',c',C',hA,hx0⟩:=Q1W h (i:=0) (by omega);subst hA;have hn2:n<=2:=by omega
  have hn1:1<=n:=by omega
  clear hx0;clear hbf hbv h hlen hP hss hf hl1 hl2;go_enter Tryz.func36,Tryz.ntmps36
  go_wp2_with fail
  refine HFB.out.mono ?_;rintro _ w1 ⟨rfl,hb1⟩;have HB1:=sH hb1;have hs1:=hb1.size;clear hb1;go_upto_region 5 with fail
  have hb2:=Q04 w1 (.cells (newC (.slice none 0 0)) 153);have HD2:=sH (Blk.newAt rfl:Blk (w1.alloc (.cells (newC (.slice none 0 0)) 153)) w1.heap.size 153 (newC (.slice none 0 0)));have HB2:=sH (HB1.out.trans (hb2.mono hs1));obtain⟨w2,hw2⟩:∃ W,W=w1.alloc (.cells (newC (.slice none 0 0)) 153):=⟨_,rfl⟩;rw [show w1.alloc (.cells #[.slice none 0 0,.slice none 0 0,.slice none 0 0,.int .i64 0,.int .i64 0,.int .i64 0,.int .i64 0,.int .i64 0,.slice none 0 0,.int .i64 0,.slice none 0 0,.int .i64 0,.slice none 0 0,.int .i64 0,.slice none 0 0,.int .i64 0,.slice none 0 0,.int .i64 0,.slice none 0 0,.int .i64 0,.slice none 0 0,.int .i64 0,.slice none 0 0] 153)=w2 from hw2.symm];rw [<- hw2] at HD2 HB2;clear hw2;obtain⟨g,hg⟩:∃ g,g=w1.heap.size:=⟨_,rfl⟩;rw [<- hg] at HD2 ⊢;have hgw:w.heap.size<=g:=by omega
  clear hb2 hg hs1 HB1;go_loopw [5] (fun iv wr=>∃ k:Nat,k<=n/\iv=.int .i64 k/\zD w.heap.size w wr/\∃ V,Blk wr g 153 (newC V)/\(∃ A c,V=.slice A k c)/\∃ nA nC,Q1H wr w.heap.size V f ((cs.map (·.2)).take k) nA nC) (fun iv _=>n - (intOf iv).toNat)
  case atStart=>exact⟨0,by omega,rfl,HB2.out,_,HD2.out,⟨none,0,rfl⟩,fun _=>none,fun _=>0,⟨⟨rfl,.inl ⟨rfl,rfl⟩⟩,fun i l hl=>by simp at hl⟩⟩
  clear HD2 HB2
  obtain⟨k,hk,rfl,hlow,V,hbl,hV,hown⟩:=hrel;have HB:=sH hlow;have HLS:=sH hlow.size;have hls:=hlow.size;by_cases hkn:k<n
  ·have hkl:k<cs.length:=by have:=HLEN.out; omega
   obtain⟨q',o',Ai,ci,C,hq',hC,hql,hcv,hrd,hnl⟩:=Q1W (H.out wr hlow) hkl;obtain⟨rfl,rfl⟩:q=q'/\o0=o':=by injection hq' with e; injection e with e1 e2; exact⟨e1,e2⟩
   have hcf:=HF.out cs[k] (zM hkl);obtain⟨zs,hzs⟩:∃ z,z=cs[k].2:=⟨_,rfl⟩;obtain⟨ls,hls2⟩:∃ l,l=(cs.map (·.2)).take k:=⟨_,rfl⟩;have HTK:=sH (show (cs.map (·.2)).take (k+1)=ls++[zs] by rw [hls2,List.take_add_one,zG,zC hkl,hzs]; rfl)
   have HLL:=sH (show ls.length=k by rw [hls2,List.length_take,zR]; omega);rw [<- hls2] at hown;rw [<- hzs,hcf.1] at hC;rw [<- hzs] at hrd hnl;have HCP:=sH (fun(W:zA) (hb:zD wr.heap.size wr W)=>Q8u (f:Int) Ai zs.length ci zs W wr.heap.size (hrd.below hb) hb.size hnl);rw [<- hC] at HCP;have HCS:=sH (show C.size=2 by rw [hC]; rfl);have HCV:=sH (fun(W:zA) (hb:zD wr.heap.size wr W)=>(hcv W hb).2.2);have HD:=sH hbl;have HOW:=sH hown;have HIN:=sH (show (k:Int)<(n:Int) by omega);have hinI:(k:Int)<(n:Int):=by omega
   obtain⟨i0,hi0,hz0,hz1,hz2⟩:=info_parts Q74;clear hq' hC hcv hrd hnl hcf hzs hls2 hbl hown hlow hV;go_upto_region 7 with fail
   refine Q1d 14 32 (fun jx W v=>match jx with | 0=>v=.pointer (some ⟨g,0,none⟩) | 1=>v=.pointer (some ⟨g,0,none⟩) | 2=>v=.pointer (some ⟨g,0,none⟩) | 3=>v=.pointer (some ⟨g,0,none⟩) | 4=>v=V | 5=>v=.slice (some ⟨q,o0,none⟩) n c | 6=>v=.int .i64 (k:Int) | 7=>v=.pointer (some ⟨q,o0+k*2,none⟩) | 8=>v=.agg C | 9=>∃ A' c',v=.agg (crC (f:Int) A' zs.length c')/\OwnN W w.heap.size (.slice A' zs.length c') zs | 10=>∃ g9 A' c',v=.slice (some ⟨g9,0,none⟩) 1 1/\(∀ b,V.ownBlock=some b->b≠g9)/\Blk W g9 77 (crC (f:Int) A' zs.length c')/\OwnN W w.heap.size (.slice A' zs.length c') zs | 11=>∃ A' c' nA nC,v=.slice A' (k+1) c'/\Q1H W w.heap.size (.slice A' (k+1) c') f (ls++[zs]) nA nC | 12=>v=.pointer (some ⟨g,0,none⟩) | 13=>v=.pointer (some ⟨g,0,none⟩) | _=>True) (fun s W=>match s with | 0=>zD wr.heap.size wr W/\Blk W g 153 (newC V)/\∃ nA nC,Q1H W w.heap.size V f ls nA nC | _=>zD w.heap.size w W/\Blk W g 153 (newC V)) (fun W W'=>W.grownBy W' V.ownBlock) [11] (fun _=>[]) (fun _=>[]) [17,18,19,20,21,22,23,24,25,26,27,28,29,30] (by kernel_rfl) (by kernel_rfl) (by kernel_rfl) (by kernel_rfl) (by kernel_rfl) (by kernel_rfl) (by first | rfl | simp) (by kernel_rfl) (fun jx=>?last) ?lastR ?jay ⟨zL _ _,HD.out,HOW.out⟩ ?heads ?_
   case last =>
    match jx with
    | 0 | 1 | 2 | 3 | 4 | 5 | 6 | 7 | 8 | 12 | 13 | jx+14=>exact Q15.pure _
    | 9=>exact fun W W' v ⟨A',c',h1,h2⟩ hb=>⟨A',c',h1,h2.below_ hb⟩
    | 10=>exact fun W W' v ⟨g9,A',c',h1,h0,h2,h3⟩ hb=>⟨g9,A',c',h1,h0,h2.below' hb,h3.below_ hb⟩
    | 11=>exact fun W W' v ⟨A',c',nA,nC,h1,h2⟩ hb=>⟨A',c',nA,nC,h1,h2.below hb⟩
   case lastR =>
    intro s jx W W' v hsl hdd hlt hs hj hp hr;match jx with
    | 0 | 1 | 2 | 3 | 4 | 5 | 6 | 7 | 8 | 12 | 13 | jx+14=>exact hp
    | 9 =>
     obtain rfl:s=0:=by simpa using hsl
     obtain⟨nA,nC,hown⟩:=hj.2.2;obtain⟨A',c',h1,h2⟩:=hp;exact⟨A',c',h1,h2.keep_ fun b hb=>hr.block b (Q07 h2 hb).2 (fun e=>by
      rcases hown.row.2 with⟨e1,_⟩ | ⟨gc,cap,cur2,e1,_,e3,_⟩
      ·rw [e1] at e; cases e
      have hB:Blk W gc 77 cur2:=e3;rw [e1] at e;have e':b=gc:=by simpa [Value.ownBlock] using e
      exact Q05 h2 hB (by decide) (e'▸hb))⟩
    | 10 =>
     obtain rfl:s=0:=by simpa using hsl
     obtain⟨nA,nC,hown⟩:=hj.2.2;obtain⟨g9,A',c',h1,h0,h3,h2⟩:=hp;exact⟨g9,A',c',h1,h0,(hr.block g9 h3.lt (fun e=>h0 _ e.symm rfl)).trans h3,h2.keep_ fun b hb=>hr.block b (Q07 h2 hb).2 (fun e=>by
      rcases hown.row.2 with⟨e1,_⟩ | ⟨gc,cap,cur2,e1,_,e3,_⟩
      ·rw [e1] at e; cases e
      have hB:Blk W gc 77 cur2:=e3;rw [e1] at e;have e':b=gc:=by simpa [Value.ownBlock] using e
      exact Q05 h2 hB (by decide) (e'▸hb))⟩
    | 11=>exact absurd (by simp at hsl; subst hsl; rfl) (hs 0 (by simp at hsl; omega))
   case jay =>
    intro s W W' hj hb;match s,hj with
    | 0,hj=>exact⟨hj.1.trans (hb.mono hj.1.size),hj.2.1.below' hb,by obtain⟨nA,nC,h⟩:=hj.2.2; exact⟨nA,nC,h.below hb⟩⟩
    | s+1,hj=>exact⟨hj.1.trans (hb.mono hj.1.size),hj.2.below' hb⟩
   case heads =>
    simp only [tT];and_intros;rotate_right;trivial
    all_goals try(rw [if_neg (by decide)];intro s a W hst hj hkp hd)
    ·have e0:(_:zB)=.pointer (some ⟨g,0,none⟩):=sK hkp 4;exact sV
    ·obtain rfl:=Q0x hst rfl (by kernel_rfl);have hb:zD wr.heap.size wr W:=hj.1;have e0:(_:zB)=.pointer (some ⟨g,0,none⟩):=sK hkp 4;exact sV
    ·obtain rfl:=Q0x hst rfl (by kernel_rfl);have hb:zD wr.heap.size wr W:=hj.1;have e0:=sJ (hd 1) 18;exact sV
    ·obtain rfl:=Q0x hst rfl (by kernel_rfl);have hb:zD wr.heap.size wr W:=hj.1;have e0:=sJ (hd 2) 19;exact sV
    ·obtain rfl:=Q0x hst rfl (by kernel_rfl);have hb:zD wr.heap.size wr W:=hj.1;have e0:=sJ (hd 3) 20;have cc:W.cell? ⟨g,0,none⟩=some V:=(hj.2.1.cell 0).trans rfl;exact sV
    ·obtain rfl:=Q0x hst rfl (by kernel_rfl);have hb:zD wr.heap.size wr W:=hj.1;have e0:(_:zB)=.slice (some ⟨q,o0,none⟩) n c:=sK hkp 0;exact sV
    ·obtain rfl:=Q0x hst rfl (by kernel_rfl);have hb:zD wr.heap.size wr W:=hj.1;have e0:(_:zB)=.int .i64 (k:Int):=sK hkp 5;exact sV
    ·obtain rfl:=Q0x hst rfl (by kernel_rfl);have hb:zD wr.heap.size wr W:=hj.1;have e0:=sJ (hd 5) 22;have e1:=sJ (hd 6) 23;have hlt:=HIN.out;exact sV
    ·obtain rfl:=Q0x hst rfl (by kernel_rfl);have hb:zD wr.heap.size wr W:=hj.1;have e0:=sJ (hd 7) 24;have e0':a.eval (.tmp 24)=.pointer (some ⟨q,o0+k*2,none⟩):=by simpa [Act.eval] using e0
     exact Q0j rfl (.agg C) (Q18 77 (.tmp 24) rfl ⟨q,o0+k*2,none⟩ 2 e0' C _ zX rfl rfl HCS.out (HCV.out W hb)) rfl
    ·obtain rfl:=Q0x hst rfl (by kernel_rfl);have hb:zD wr.heap.size wr W:=hj.1;have e0:=sJ (hd 8) 25;have e1:=sJ (hd 8) 25;refine Q0u rfl 34 #[.agg C] (by go_simp) ((HCP.out W hb).mono ?_);rintro e w' ⟨A',c',rfl,ho,hb'⟩;exact⟨_,rfl,hb',A',c',rfl,OwnN.more ho (by have:=hb.size; have:=HLS.out; omega)⟩
    ·obtain rfl:=Q0x hst rfl (by kernel_rfl);have hb:zD wr.heap.size wr W:=hj.1;obtain⟨A',c',e1,ho⟩:=(sG (hd 9) 26:);obtain⟨E,hE⟩:∃ E,E=crC (f:Int) A' zs.length c':=⟨_,rfl⟩;rw [<- hE] at e1;have hfold:Array.foldl (fun(cs:Array zB) (x:zB×Nat)=>cs.setIfInBounds x.snd x.fst) #[Value.int .i64 0,zV none 0 0] E.zipIdx 0 2=E:=by rw [hE]; rfl
     have hes:E.size=2:=by rw [hE]; rfl
     have HE:=sH hE;clear hE;exact Q1X rfl (.slice (some ⟨W.heap.size,0,none⟩) 1 1) (W.alloc (.cells E 77)) (by go_simp) (Q04 _ _) ⟨W.heap.size,A',c',rfl,fun b hb' e=>by obtain⟨nA,nC,hown⟩:=hj.2.2; have:=(Q07 hown.row hb').2; omega,by rw [<- HE.out]; exact Blk.new W _ _,ho.below_ (Q04 _ _)⟩
    ·rw [if_pos (by decide)];intro s a W hs hj hkp hd;obtain rfl:=Q5e hs;have e21:=sJ (hd 4) 21;obtain⟨g9,A',c',e27,h9,hk9,ho⟩:=(sG (hd 10) 27:);have e21':a.eval (.tmp 21)=V:=by simpa [Act.eval] using e21
     have e27':a.eval (.tmp 27)=.slice (some ⟨g9,0,none⟩) 1 1:=by simpa [Act.eval] using e27
     obtain⟨nA,nC,hown⟩:=hj.2.2;refine Q7w rfl (.tmp 21) (.tmp 27) 74 rfl w.heap.size 77 i0 _ 2 32 Tryz.underlying74 hi0 hz0 hz1 hz2 rfl (by omega) V ls.length (Q1B f nA nC 0 ls) e21' hown.row (g9+1) (some ⟨g9,0,none⟩) 1 1 (crC (f:Int) A' zs.length c').toList e27' ⟨rfl,fun _=>⟨_,rfl,by show g9<g9+1; omega,fun j u hu=>?_⟩⟩ (fun u hu=>(Array.all_eq_true'.1 (Q1h (f:Int) A' zs.length c')) u (by simpa using hu)) (by have:=HLL.out; unfold maxLen; omega) (by have:=HLL.out; omega) (by have:=hj.1.size; have:=HLS.out; omega) ?_
     ·rw [Q11,zO,hk9.cell,<- zS]; exact hu
     intro v' w' h2 h3;have hne:V.ownBlock≠some g:=Q05 hown.row hj.2.1 (by decide);have hb2:zD w.heap.size W w':=(zL _ _).grown h3 (by have:=hj.1.size; have:=HLS.out; omega) (fun b hb=>(Q07 hown.row hb).1);obtain⟨A2,c2,q1,_,_⟩:=Q4t h2;subst q1;have hp:=hown.push (l:=zs) (A:=A') (c:=c') h3 ho h2;have hk':ls.length+1=k+1:=by rw [HLL.out]
     rw [hk'] at hp;refine⟨h3,⟨(HB.out.trans (hj.1.mono HLS.out)).trans hb2,(h3.block g hj.2.1.lt (fun e=>hne e.symm)).trans hj.2.1⟩,A2,c2,_,_,by rw [hk'],hp⟩
    ·have e0:=sJ (hd 0) 17;exact sV
    have e0:=sJ (hd 12) 29;exact sV
   intro fv W hj hd;obtain⟨A2,c2,nA,nC,e28,ho2⟩:=hd 11 (by omega) (by decide) _ 28 rfl rfl;have f30:fv 30=.pointer (some ⟨g,0,none⟩):=hd 13 (by omega) (by decide) _ 30 rfl rfl;have hlw:zD w.heap.size w W:=hj.1;have hdw:Blk W g 153 (newC V):=hj.2;have cc:W.cell? ⟨g,0,none⟩=some V:=(hdw.cell 0).trans rfl;have hfz:W.frozen? ⟨g,0,none⟩=false:=hdw.frozen 0;have HLW:=sH hlw;have HDW:=sH hdw;have HO2:=sH ho2;clear hd hj hlw hdw ho2;simp only [Q0F,tU,f30,e28];try simp only [Act.put,sA]
   go_wp2_with fail
   go_roundw
   case rel =>
    have hT:Q0b g W (W.setCell ⟨g,0,none⟩ (.slice A2 (k+1) c2)):=Q0b.setCell W ⟨g,0,none⟩ _;have hne:(zV A2 (k+1) c2).ownBlock≠some g:=Q05 HO2.out.row HDW.out (by decide);refine⟨k+1,by omega,by go_num,hT.below HLW.out hgw,.slice A2 (k+1) c2,?_,⟨_,_,rfl⟩,nA,nC,?_⟩
    ·exact HDW.out.set_ 0 _
    rw [HTK.out];exact HO2.out.turned hT hne HDW.out (by decide)
   case measure=>simp [intOf]; omega
  obtain rfl:k=n:=by omega
  have hinI:¬ (k:Int)<(k:Int):=by omega
  obtain⟨A3,c3,rfl⟩:=hV;obtain⟨nA,nC,hown⟩:=hown;have hcl:=HLEN.out;have HG:=sH (show RAWr wr g (fun b=>b<w.heap.size) (Q0G ss) from by
   have hss:=HSS.out;have hsl:ss.length=k:=by rw [hss,zR]; exact hcl
   refine Q1r.fresh (w0:=w) (f:=f) (A:=A3) (c:=c3) (cs:=cs) HBV.out (fun s hs=>?_) hgw (by rw [hsl]; exact hbl) (nA:=nA) (nC:=nC) ?_
   ·rw [hss] at hs;obtain⟨d,hd,rfl⟩:=List.mem_map.1 hs;have:=(HF.out d hd).1;show d.1.toNat=f;omega
   have e:ss.map (·.first)=(cs.map (·.2)).take k:=by rw [List.take_of_length_le (by rw [zR]; omega),hss,List.map_map];rfl
   rw [e,hsl];exact hown)
  clear hbl hown hlow hcl;go_wp2_with fail
  show P (.returned (.tuple #[.pointer (some ⟨g,0,none⟩),.int .i64 0])) wr;rw [HP.out,HQ.out];exact⟨HB.out,fun e=>by(cases e),fun m e=>⟨g,rfl,hgw,zU e▸HG.out⟩⟩
end
section
open Go.RowKit
theorem Q9m (x:W32):(wi x*(65536:Int)) % 4294967296=wi (x <<< 16):=Q4r x 16
theorem Q9u (x:W32):(wi x*(16777216:Int)) % 4294967296=wi (x <<< 24):=Q4r x 24
theorem Qbu (x:W32):IntKind.u32.wrap (wi x*(65536:Int))=wi (x <<< 16):=Q6N x 16
theorem QbK (x:W32):IntKind.u32.wrap (wi x*(16777216:Int))=wi (x <<< 24):=Q6N x 24
theorem or8 (x:W32) (b:UInt8) (h:x.toNat<16777216):(x <<< 8 ||| b32 b).toNat=x.toNat*256+b.toNat:=by have hb:=b.toNat_lt;unfold b32;rw [BitVec.toNat_or,BitVec.toNat_shiftLeft,BitVec.toNat_ofNat,Nat.mod_eq_of_lt (by omega:b.toNat<2 ^ 32),Nat.shiftLeft_eq,Nat.mod_eq_of_lt (by omega)];have:=Nat.shiftLeft_add_eq_or_of_lt (show b.toNat<2 ^ 8 by omega) x.toNat;rw [Nat.shiftLeft_eq] at this;rw [<- this]
theorem Q3n (b:UInt8):(b32 b).toNat=b.toNat:=by have hb:=b.toNat_lt;unfold b32;rw [BitVec.toNat_ofNat,Nat.mod_eq_of_lt (by omega)]
theorem be4_sum (a b c d:UInt8):b32 a <<< 24+b32 b <<< 16+b32 c <<< 8+b32 d=be4 a b c d:=by
 have ha:=a.toNat_lt;have hb:=b.toNat_lt;have hc:=c.toNat_lt;have hd:=d.toNat_lt;have h1:=or8 (b32 a) b (by rw [Q3n]; omega);have h2:=or8 (b32 a <<< 8 ||| b32 b) c (by rw [h1,Q3n]; omega);have h3:=or8 ((b32 a <<< 8 ||| b32 b) <<< 8 ||| b32 c) d (by rw [h2,h1,Q3n]; omega);apply BitVec.eq_of_toNat_eq
 unfold be4;rw [h3,h2,h1,BitVec.toNat_add,BitVec.toNat_add,BitVec.toNat_add,BitVec.toNat_shiftLeft,BitVec.toNat_shiftLeft,BitVec.toNat_shiftLeft,Q3n,Q3n,Q3n,Q3n,Nat.shiftLeft_eq,Nat.shiftLeft_eq,Nat.shiftLeft_eq];omega
attribute [local go_sem] Q9o Q6s Q98 Q6I QaK w_or Q9c QaX Q8b Q6N Q4r Q93 Q6m Q8P Q67 Q4d Q3M Q5h Q4J Q9m Q9u Qbu QbK
section
attribute [local go_sem] Q9o Q6s Q98 Q6I QaK w_or Q9c QaX Q8b Q6N Q4r
theorem Q65 (x:W32) (n:Nat) (h:0<n) (h':n<32) (w:zA) :
 zF zI 242 #[vw x,.int .i64 (n:Int)] w fun e w'=>e=.returned (vw (x.rotateRight n))/\∃ k,w'=w.drewN k:=by
 unfold vw;go_enter Tryz.func242,Tryz.ntmps242
 go_wp2
 go_quiet (fail)
 go_wp2
 go_ret
 exact⟨Qbs (by rw [ror_or' x n h']),_,rfl⟩
end
theorem Q6w (x:W32) (n:Int) (h:0<n) (h':n<32) (w:zA) (m:Nat) :
 zF zI 242 #[.int .u32 (wi x),.int .i64 n] (w.drewN m) fun e w'=>e=.returned (.int .u32 (wi (x.rotateRight n.toNat)))/\∃ k,w'=w.drewN k:=by
 obtain⟨k,rfl⟩:=Int.eq_ofNat_of_zero_le (show 0<=n by omega);exact Calls.quiet_of (Q65 x k (by omega) (by omega) _)
theorem Q5v (x:W32) (n:Int) (h:0<n) (h':n<32) (w:zA) (a m:Nat) :
 zF zI 242 #[.int .u32 (wi x),.int .i64 n] (w.drewN (a+m)) fun e w'=>e=.returned (.int .u32 (wi (x.rotateRight n.toNat)))/\∃ k,w'=w.drewN (a+k):=by
 obtain⟨k,rfl⟩:=Int.eq_ofNat_of_zero_le (show 0<=n by omega);exact QeG (Q65 x k (by omega) (by omega) _)
theorem refRor_w (x:W32) (n:Int) (h:0<n) (h':n<32) (w:zA) :
 zF zI 242 #[.int .u32 (wi x),.int .i64 n] w fun e w'=>e=.returned (.int .u32 (wi (x.rotateRight n.toNat)))/\∃ k,w'=w.drewN k:=by
 obtain⟨k,rfl⟩:=Int.eq_ofNat_of_zero_le (show 0<=n by omega);exact Q65 x k (by omega) (by omega) _
theorem QdP:h0.vals=#[.int .u32 1779033703,.int .u32 3144134277,.int .u32 1013904242,.int .u32 2773480762,.int .u32 1359893119,.int .u32 2600822924,.int .u32 528734635,.int .u32 1541459225]:=by kernel_rfl
theorem QaT (w:zA):zF zI 225 #[] w fun e w'=>e=.returned (.agg h0.vals)/\zD w.heap.size w w':=by
 have hall:=Q3x h0;have hsz:=Q10 h0;rw [QdP] at hall hsz ⊢;go_enter Tryz.func225,Tryz.ntmps225
 go_wp2_with (refine Q00 rfl 274 (.tmp 0) (.tmp 1) rfl w.heap.size 0 #[.int .u32 1779033703,.int .u32 3144134277,.int .u32 1013904242,.int .u32 2773480762,.int .u32 1359893119,.int .u32 2600822924,.int .u32 528734635,.int .u32 1541459225] rfl rfl 274 _ (Blk.newAt rfl) rfl (by simp) hall ?_; intro W4 hT4 hB4; rw [Q0c _ _ (by simp)] at hB4)
 refine bodyPost_ret (Q0t rfl _ _ w.heap.size 8 274 _ _ rfl hB4 Tryz.underlying274 rfl rfl rfl) rfl ⟨rfl,hT4.below ((zL _ _).alloc (zK _) _) (zK _)⟩
theorem QaD (w:zA):zF zI 240 #[] w fun e w'=>e=.returned (.agg kRow)/\zD w.heap.size w w':=by
 have hk:∃ k,k=kRow:=⟨_,rfl⟩;obtain⟨k,hk⟩:=hk;have hks:k.size=64:=by rw [hk]; exact Qal
 have hko:k.all (·.oneCell')=true:=by rw [hk]; exact Qc9
 have HK:=sH hk;have HKS:=sH hks;have HKO:=sH hko;rw [<- hk];clear hk hks hko;go_enter Tryz.func240,Tryz.ntmps240
 go_wp2_with (refine Q00 rfl 273 (.tmp 0) (.tmp 1) rfl w.heap.size 0 k rfl (by rw [HK.out]; kernel_rfl) 273 _ (Blk.newAt rfl) (by rw [HKS.out]; rfl) (by rw [HKS.out]; simp) HKO.out ?_; intro W4 hT4 hB4; rw [Q0c _ _ (by rw [HKS.out]; simp)] at hB4)
 refine bodyPost_ret (Q0t rfl _ _ w.heap.size 64 273 _ _ rfl hB4 Tryz.underlying273 rfl rfl HKS.out) rfl ⟨rfl,hT4.below ((zL _ _).alloc (zK _) _) (zK _)⟩
end
section
open Go.RowKit
attribute [local go_sem] Q9o Q6s Q98 Q6I QaK w_or Q9c QaX Q8b Q6N Q4r Q93 Q6m Q8P Q67 Q4d Q3M Q5h Q4J Q9m Q9u Qbu QbK
theorem blk_byte (blk:List UInt8) (hbl:blk.length=64):∀ (W:zA) (g:Nat),Blk W g 275 (bRow blk)->∀ j,j<64->W.cell? ⟨g,j,none⟩=some (.int .u8 (bi (blk.getD j 0))):=by intro W g h j hj;have:=(QbO h).getD j (by omega);rw [Q11,zO] at this;exact this
theorem Q7R (blk:List UInt8) (hbl:blk.length=64) (w:zA) :
 zF zI 241 #[.agg (bRow blk)] w fun e w'=>e=.returned (.agg (Q0q blk 64))/\zD w.heap.size w w':=by
 have hbs:=Q1p blk;rw [hbl] at hbs;have HBL:=sH hbl;have hba:=blk_byte blk hbl;have HBA:=sH hba;have HBS:=sH hbs;clear hbs hba;generalize hbr:bRow blk=br at HBS HBA ⊢;clear hbr;go_enter Tryz.func241,Tryz.ntmps241
 go_wp2_with fail
 go_loopw [4] (fun i wr=>∃ t:Nat,t<=16/\i=.int .i64 t/\Blk wr w.heap.size 275 br/\Blk wr (w.heap.size+1) 273 (Q0q blk 0)/\Blk wr (w.heap.size+1+1) 273 (Q0q blk t)/\zD w.heap.size w wr) (fun i _=>16 - (intOf i).toNat)
 case atStart =>
  refine⟨0,by omega,rfl,((Blk.new w 275 br).alloc _).alloc _,?_,?_,(((zL _ _).alloc (zK _) _).alloc (by simp) _).alloc (by simp; omega) _⟩
  ·rw [Q3m]; exact(Blk.newAt (by simp)).alloc _
  rw [Q3m]; exact Blk.newAt (by simp)
 obtain⟨t,ht,rfl,hB0,hB1,hB2,hbel⟩:=hrel;by_cases ht1:t<16
 ·have e0:(4*(t:Int)).toNat=4*t:=by omega
  have e1:(4*(t:Int)+1).toNat=4*t+1:=by omega
  have e2:(4*(t:Int)+2).toNat=4*t+2:=by omega
  have e3:(4*(t:Int)+3).toNat=4*t+3:=by omega
  have b0:=HBA.out _ _ hB0 (4*t) (by omega);have b1:=HBA.out _ _ hB0 (4*t+1) (by omega);have b2:=HBA.out _ _ hB0 (4*t+2) (by omega);have b3:=HBA.out _ _ hB0 (4*t+3) (by omega);have c0:=(hB2.cell t).trans (Q3k blk t (by omega));have f0:=hB2.frozen t;unfold vw at c0;generalize hx0:blk.getD (4*t) 0=x0 at b0;generalize hx1:blk.getD (4*t+1) 0=x1 at b1;generalize hx2:blk.getD (4*t+2) 0=x2 at b2;generalize hx3:blk.getD (4*t+3) 0=x3 at b3;have HX:=sH (zJ hx0 (zJ hx1 (zJ hx2 hx3)));have HB0:=sH hB0;have HB1:=sH hB1;have HB2:=sH hB2;have HBE:=sH hbel;clear hx0 hx1 hx2 hx3 hB0 hB1 hB2 hbel;have k0:IntKind.i64.wrap (4*(t:Int))=4*(t:Int):=zQ _ (by omega);have k1:IntKind.i64.wrap (4*(t:Int)+1)=4*(t:Int)+1:=zQ _ (by omega);have k2:IntKind.i64.wrap (4*(t:Int)+2)=4*(t:Int)+2:=zQ _ (by omega);have k3:IntKind.i64.wrap (4*(t:Int)+3)=4*(t:Int)+3:=zQ _ (by omega);have l0:0<=4*(t:Int)/\4*(t:Int)<64:=by omega
  have l1:0<=4*(t:Int)+1/\4*(t:Int)+1<64:=by omega
  have l2:0<=4*(t:Int)+2/\4*(t:Int)+2<64:=by omega
  have l3:0<=4*(t:Int)+3/\4*(t:Int)+3<64:=by omega
  have lt:(t:Int)<64:=by omega
  obtain⟨l00,l01⟩:=l0;obtain⟨l10,l11⟩:=l1;obtain⟨l20,l21⟩:=l2;obtain⟨l30,l31⟩:=l3;go_wp2_with fail
  refine Q1u 31 (by kernel_rfl) (by kernel_rfl) ?_;simp only [tT,tU]
  repeat still_step
  refine wpStill_nil ?_;go_wp2_with fail
  go_roundw
  case rel =>
   obtain⟨h0,h1,h2,h3⟩:=HX.out;have hn:Q66 blk (Q0O blk t) t=b32 x0 <<< 24+b32 x1 <<< 16+b32 x2 <<< 8+b32 x3:=by rw [Q66,if_pos ht1,h0,h1,h2,h3,be4_sum]
   have hs:=HB2.out.drew.set_ t (vw (Q66 blk (Q0O blk t) t));rw [Q2r blk t (by omega),hn] at hs;exact⟨t+1,by omega,by go_num,HB0.out.drew.far (p:=⟨w.heap.size+1+1,t,none⟩) (by simp; omega) _,HB1.out.drew.far (p:=⟨w.heap.size+1+1,t,none⟩) (by simp) _,hs,HBE.out.drew.setCell (p:=⟨w.heap.size+1+1,t,none⟩) (by simp; omega) _⟩
  case measure=>simp [intOf]; omega
 obtain rfl:t=16:=by omega
 clear HBA HBS;go_wp2_with fail
 go_loopw [5] (fun i wr=>∃ t:Nat,16<=t/\t<=64/\i=.int .i64 t/\Blk wr (w.heap.size+1) 273 (Q0q blk 0)/\Blk wr (w.heap.size+1+1) 273 (Q0q blk t)/\zD w.heap.size w wr) (fun i _=>64 - (intOf i).toNat)
 case atStart=>exact⟨16,by omega,by omega,rfl,hB1,hB2,hbel⟩
 clear hB0 hB1 hB2 hbel ht ht1;obtain⟨t,ht16,ht,rfl,hB1,hB2,hbel⟩:=hrel;by_cases ht1:t<64
 ·have e1:(((t:Int) - 15).toNat)=t - 15:=by omega
  have e2:(((t:Int) - 2).toNat)=t - 2:=by omega
  have e3:(((t:Int) - 16).toNat)=t - 16:=by omega
  have e4:(((t:Int) - 7).toNat)=t - 7:=by omega
  have c1:=(hB2.cell (t - 15)).trans (Q0V blk t (t - 15) (by omega) ht);have c2:=(hB2.cell (t - 2)).trans (Q0V blk t (t - 2) (by omega) ht);have c3:=(hB2.cell (t - 16)).trans (Q0V blk t (t - 16) (by omega) ht);have c4:=(hB2.cell (t - 7)).trans (Q0V blk t (t - 7) (by omega) ht);have c0:=(hB2.cell t).trans (Q3k blk t ht1);have f0:=hB2.frozen t;unfold vw at c0 c1 c2 c3 c4;generalize hx1:(Q0O blk t).getD (t - 15) 0=x1 at c1;generalize hx2:(Q0O blk t).getD (t - 2) 0=x2 at c2;generalize hx3:(Q0O blk t).getD (t - 16) 0=x3 at c3;generalize hx4:(Q0O blk t).getD (t - 7) 0=x4 at c4;have HX:=sH (zJ hx1 (zJ hx2 (zJ hx3 hx4)));have HB1:=sH hB1;have HB2:=sH hB2;have HBE:=sH hbel;clear hx1 hx2 hx3 hx4 hB1 hB2 hbel
  go_wp2
  go_quiet (fail)
  go_wp2_with fail
  have w16:IntKind.i64.wrap ((t:Int) - 16)=(t:Int) - 16:=zQ _ (by omega);have w7:IntKind.i64.wrap ((t:Int) - 7)=(t:Int) - 7:=zQ _ (by omega);have b16:(t:Int) - 16<64:=by omega
  have b77:(7:Int)<=t:=by omega
  have b17:(16:Int)<=t:=by omega
  have b7:(t:Int) - 7<64:=by omega
  refine Q3z 29 (by kernel_rfl) (by kernel_rfl) ?_;simp only [tT,tU]
  repeat quiet_step ((go_at_call 242; first | exact Q5v _ _ (by omega) (by omega) _ _ _ | exact Q6w _ _ (by omega) (by omega) _ _))
  refine wpQuiet_nil ?_;intro _ hw';obtain⟨nr,hw''⟩:=hw';subst hw'';go_wp2_with fail
  go_roundw
  case rel =>
   obtain⟨h1,h2,h3,h4⟩:=HX.out;have hn:Q66 blk (Q0O blk t) t=x3+sml0 x1+x4+sml1 x2:=by rw [Q66,if_neg (by omega),h1,h2,h3,h4]
   have hs:=(HB2.out.drewN (nq+nr)).set_ t (vw (Q66 blk (Q0O blk t) t));rw [Q2r blk t ht1,hn] at hs
   repeat apply Exists.intro
   exact⟨⟨t+1,by omega,by omega,by go_num,(HB1.out.drewN (nq+nr)).far (p:=⟨w.heap.size+1+1,t,none⟩) (by simp) _,hs,(Q0v HBE.out (nq+nr)).setCell (p:=⟨w.heap.size+1+1,t,none⟩) (by simp; omega) _⟩,rfl⟩
  case measure=>simp [intOf]; omega
 obtain rfl:t=64:=by omega
 have hss:(Q0q blk 64).size=64:=Q0A _ _;have hso:(Q0q blk 64).all (·.oneCell')=true:=by unfold Q0q Q5I; simp [rng,vw,Value.oneCell']
 have hs0:(Q0q blk 0).size=64:=Q0A _ _;have HSS:=sH hss;have HS0:=sH hs0;have HSO:=sH hso;have HB1:=sH hB1;have HB2:=sH hB2;have HBE:=sH hbel;clear hss hso hs0 hB1 hB2 hbel;generalize hsc:Q0q blk 64=sc at HSS HSO HB2;have HSC:=sH hsc;clear hsc;generalize Q0q blk 0=sz at HS0 HB1;go_wp2_with (first
  | (refine Q01 rfl 273 (.tmp 3) rfl (w.heap.size+1+1) 0 64 rfl 273 _ sc _ HB2.out Tryz.underlying273 rfl rfl HSS.out (fun _ _=>by rw [zO]) ?_)
  | (refine Q00 rfl 273 (.tmp 2) (.tmp 84) rfl (w.heap.size+1) 0 sc rfl rfl 273 _ HB1.out (by rw [HSS.out]; rfl) (by rw [HSS.out,HS0.out]; simp) HSO.out ?_; intro W5 hT5 hB5; rw [Q0c _ _ (by rw [HSS.out,HS0.out])] at hB5))
 refine bodyPost_ret (Q0t rfl _ _ (w.heap.size+1) 64 273 _ _ rfl hB5 Tryz.underlying273 rfl rfl HSS.out) rfl ⟨by rw [HSC.out],hT5.below HBE.out (by omega)⟩
end
end Go.Proofs.YtcpngeiahgoacaaGreat
