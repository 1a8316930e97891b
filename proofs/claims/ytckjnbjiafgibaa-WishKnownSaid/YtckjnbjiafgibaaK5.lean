/- Parts of the proof, in one text. -/
import Derived.Test.YtckjnbjiafgibaaK2
import Derived.Test.YtckjnbjiafgibaaK1
import Derived.Test.YtckjnbjiafgibaaK4
import Derived.Deep.DeepCutAuto
import Derived.BigFrame
namespace Go.Proofs.Ytckjnbjiafgibaa
set_option linter.unusedVariables false
set_option linter.unusedSimpArgs false
set_option maxRecDepth 100000
set_option maxHeartbeats 16000000
open _root_.Array renaming replicate->zJ
open _root_.Go renaming World->zA,Value->zB
open _root_.Go.Region renaming wanted->zE
open _root_.Go.RowKit renaming Below->zC
open _root_.Go.RowKit.Below renaming refl->zH
open _root_.List renaming range->zF
open _root_.Nat renaming le_refl->zG,zero_add->zI,zero_le->zK
open _root_.Option.some renaming inj->zL
section
open Go.RowKit
theorem Q2V {P:Program} {md:Region.Mode} {ops:Array Oper} {Q:Exit->Act->zA->Prop} (hbk:backB md ops ops.size=true) {G:Array Bool->Act->zA->Prop}
 (hop:∀ i o listed a w,ops[i]?=some o->listed.size=ops.size->listed.getD i true=false->(∀ j,Region.waitsFor md ops i j=true->listed.getD j false=true)->G listed a w ->∀ (K:Act->zA->Prop) (Q':Exit->Act->zA->Prop),(∀ a' w',G (listed.setIfInBounds i true) a' w'->K a' w')->if zE o (yielded ops a.tmps)=true then o.wp P a w K Q' else K (a.put o.dst undef) w)
 (hfin:∀ listed a w,(∀ i,i<ops.size->listed.getD i false=true)->G listed a w->Q .normal a w) :
 ∀ f listed a w,listed.size=ops.size->((zF ops.size).filter fun i=>!listed.getD i false).length=f->G listed a w->wpAny P md ops Q f listed a w
 | 0,listed,a,w,hsz,hf,hG=>by
  have hall:∀ j,j<ops.size->listed.getD j false=true:=fun j hj=>by
   cases hx:listed.getD j false with
   | true=>rfl
   | false =>
    have:j∈(zF ops.size).filter fun i=>!listed.getD i false:=List.mem_filter.2 ⟨List.mem_range.2 hj,by rw [hx]; rfl⟩
    rw [List.eq_nil_of_length_eq_zero hf] at this;cases this
  refine⟨?_,hfin listed a w hall hG⟩;rcases hr:Region.ready md ops listed with _ | ⟨i,t⟩
  ·rfl
  have hi:i∈Region.ready md ops listed:=by rw [hr]; exact List.mem_cons_self
  obtain⟨hun,o,ho,_⟩:=mem_ready.1 hi;have hil:=(Array.getElem?_eq_some_iff.1 ho).1;have:=hall i hil;rw [getD_both hun] at this;cases this
 | f+1,listed,a,w,hsz,hf,hG=>by
  have hex:∃ i,i<ops.size/\listed.getD i false=false:=by
   cases hx:(zF ops.size).filter fun i=>!listed.getD i false with
   | nil=>rw [hx] at hf; cases hf
   | cons i t =>
    have:i∈(zF ops.size).filter fun i=>!listed.getD i false:=by rw [hx]; exact List.mem_cons_self
    obtain⟨h1,h2⟩:=List.mem_filter.1 this;exact⟨i,List.mem_range.1 h1,by simpa using h2⟩
  obtain⟨m,hm,hmf,hmb⟩:=Q22 (fun i=>listed.getD i false) ops.size hex;have hin:∀ k,k<ops.size->listed.getD k false=false->listed.getD k true=false:=fun k hk h=>getD_in (by omega) h
  refine⟨fun h0=>?_,fun i hi=>?_⟩
  ·exfalso
   have:m∈Region.ready md ops listed:=by refine mem_ready.2 ⟨hin m hm hmf,ops[m],Array.getElem?_eq_getElem (by omega),fun e he hbd=>?_⟩;have h1:=List.all_eq_true.1 hbk m (List.mem_range.2 hm);rw [Array.getElem?_eq_getElem (show m<ops.size by omega)] at h1;have h2:=Array.all_eq_true_iff_forall_mem.1 h1 e he;rw [hbd] at h2;simp at h2;exact hmb e.on h2
   rw [h0] at this;cases this
  obtain⟨hun,o,ho,hall⟩:=mem_ready.1 hi;have hin':i<ops.size:=(Array.getElem?_eq_some_iff.1 ho).1;have hrel:=hop i o listed a w ho hsz hun (fun j hj=>by obtain⟨oj,hoj,e,he,hbd,hon⟩:=Region.waitsFor_spec hj;have:oj=o:=zL (hoj.symm.trans ho);subst this;have h1:=hall e he hbd;rw [hon] at h1;exact h1) hG
  unfold wpOp;simp only [ho];have hcnt:((zF ops.size).filter fun k=>!(listed.setIfInBounds i true).getD k false).length=f:=by
   have hmem:i∈(zF ops.size).filter fun i=>!listed.getD i false:=List.mem_filter.2 ⟨List.mem_range.2 hin',by rw [getD_both hun]; rfl⟩
   have hnd:((zF ops.size).filter fun i=>!listed.getD i false).Nodup:=List.Pairwise.filter _ List.nodup_range;have he:((zF ops.size).filter fun k=>!(listed.setIfInBounds i true).getD k false)=((zF ops.size).filter fun i=>!listed.getD i false).erase i:=by
    rw [hnd.erase_eq_filter,List.filter_filter];apply List.filter_congr
    intro k hk;by_cases hki:i=k
    ·subst hki;have hlt:i<listed.size:=by omega
     simp [hlt]
    rw [getD_set_ne false hki];simp [Ne.symm hki]
   rw [he,List.length_erase_of_mem hmem,hf];rfl
  have:=hrel (wpAny P md ops Q f (listed.setIfInBounds i true)) Q fun a' w' hG'=>Q2V hbk hop hfin f _ a' w' (by simpa using hsz) hcnt hG'
  split
  ·rename_i hwt;rw [if_pos hwt] at this;exact .inl this
  rename_i hwt;rw [if_neg hwt] at this;exact this
structure Cop3 (P:Program) (ops:Array Oper) (ty:TypeId) (zs:Array zB) (src dl da:Nat->Nat):Prop where
 size:ops.size=9
 back:backB .any ops 9=true
 dsts:Q3F ops 9=true
 ld:∀ k,k<3->∃ o,ops[k]?=some o/\o.guard=none/\o.dst=some (dl k)/\o.op=.load ty (.tmp (src k))/\Q42 ops 9 (src k)=true
 al:∀ k,k<3->∃ o,ops[3+k]?=some o/\o.guard=none/\o.dst=some (da k)/\∀ (a:Act) (w:zA),(execOp a.eval o).run P w=.ok (.value (.pointer (some ⟨w.heap.size,0,none⟩))) (w.alloc (.cells zs ty))
 st:∀ k,k<3->∃ o,ops[6+k]?=some o/\o.guard=none/\o.dst=none/\o.op=.store ty (.tmp (da k)) (.tmp (dl k))/\Region.waitsFor .any ops (6+k) k=true/\Region.waitsFor .any ops (6+k) (3+k)=true
structure CopG (ops:Array Oper) (ty:TypeId) (zs:Array zB) (dl da:Nat->Nat) (cs:Nat->Array zB) (a0:Act) (w0:zA) (listed:Array Bool) (a:Act) (w:zA):Prop where
 low:zC w0.heap.size w0 w
 kept:Kept ops 9 a0 a
 ord:∀ k,k<3->listed.getD (6+k) false=true->listed.getD (3+k) false=true
 val:∀ k,k<3->listed.getD k false=true->a.eval (.tmp (dl k))=.agg (cs k)
 ptr:∀ k,k<3->listed.getD (3+k) false=true->∃ g,a.eval (.tmp (da k))=.pointer (some ⟨g,0,none⟩)/\w0.heap.size<=g/\Blk w g ty (if listed.getD (6+k) false=true then cs k else zs)
 ne_:∀ j k,j<3->k<3->j≠k->listed.getD (3+j) false=true->listed.getD (3+k) false=true->a.eval (.tmp (da j))≠a.eval (.tmp (da k))
theorem Q1S {a:Act} {d:Nat} {v:zB} (h:d<a.tmps.size):(a.put (some d) v).eval (.tmp d)=v:=by simp [Act.put,Act.eval,h]
theorem Q13 {a:Act} {d:Nat} {e:Option Tmp} {v:zB} (h:e≠some d):(a.put e v).eval (.tmp d)=a.eval (.tmp d):=by have:=Q0w (a:=a) (v:=v) h;simp [Act.eval,this]
theorem Q2g {P:Program} {id:Nat} {Q:Exit->Act->zA->Prop} {a:Act} {w:zA} {l:List Oper} (m:Nat) (ty:TypeId) (d:TypeDesc) (zs:Array zB) (src dl da gs:Nat->Nat) (cs:Nat->Array zB) (ds:List Nat)
 (hm:P.follows .mixedOrders=true) (hc:Cop3 P l.toArray ty zs src dl da) (hsz:sizeB l.toArray 9 m=true) (ha:a.tmps.size=m) (hds:Q2m l.toArray 9=ds)
 (hu:P.underlying ty=some d) (hd:(match d with | .struct _ | .array _ _=>true | _=>false)=true) (hi:(P.info? ty).map (·.size)=some zs.size)
 (hn:∀ k,k<3->(cs k).size=zs.size) (h1:∀ k,k<3->(cs k).all (·.oneCell')=true) (hspl:∀ k,k<3->spl zs 0 (cs k).toList=cs k)
 (hsrc:∀ k,k<3->a.eval (.tmp (src k))=.pointer (some ⟨gs k,0,none⟩)/\Blk w (gs k) ty (cs k))
 (h:∀ (f:Nat->zB) w',zC w.heap.size w w'->(∀ k,k<3->f (dl k)=.agg (cs k))->(∀ k,k<3->∃ g,f (da k)=.pointer (some ⟨g,0,none⟩)/\w.heap.size<=g/\Blk w' g ty (cs k))->(∀ j k,j<3->k<3->j≠k->f (da j)≠f (da k))->Q .normal (Q0M a ds f) w') :
 (Code.region id l.toArray true).wp P Q a w:=by
 have h9:=hc.size;have hsize:∀ (a':Act),Kept l.toArray 9 a a'->∀ (i:Nat) (o:Oper) (e:Tmp),l.toArray[i]?=some o->o.dst=some e->e<a'.tmps.size:=fun a' hk i o e ho he=>by have hil:=(Array.getElem?_eq_some_iff.1 ho).1;have:=List.all_eq_true.1 hsz i (List.mem_range.2 (by omega));simp only [ho,he,decide_eq_true_eq] at this;rw [hk.size,ha]; exact this
 have hkept:∀ (a':Act) (i:Nat) (o:Oper) (v:zB),l.toArray[i]?=some o->Kept l.toArray 9 a a'->Kept l.toArray 9 a (a'.put o.dst v):=fun a' i o v ho hk=>by
  have hil:=(Array.getElem?_eq_some_iff.1 ho).1;refine⟨?_,by rw [Q0T]; exact hk.size,fun e hfree=>?_⟩
  ·rw [<- hk.defers]; unfold Act.put; split <;> rfl
  rw [Q0w (hfree i o (by omega) ho)]; exact hk.tmps e hfree
 have hoth:∀ (a':Act) (i j:Nat) (o oj:Oper) (e:Tmp) (v:zB),l.toArray[i]?=some o->l.toArray[j]?=some oj->oj.dst=some e->j≠i->(a'.put o.dst v).eval (.tmp e)=a'.eval (.tmp e):=fun a' i j o oj e v ho hoj he hne=>by have hil:=(Array.getElem?_eq_some_iff.1 ho).1;have hjl:=(Array.getElem?_eq_some_iff.1 hoj).1;exact Q13 (Q0F hc.dsts (by omega) (by omega) hne hoj ho he)
 refine wp_region_any hm ?_;refine Q2V (md:=.any) (ops:=l.toArray) (Q:=Q) (P:=P) (G:=CopG l.toArray ty zs dl da cs a w) (by rw [h9]; exact hc.back) ?_ ?_ l.toArray.size (zJ l.toArray.size false) a w.drew (by simp) (by
  rw [List.filter_eq_self.2 (fun i _=>by rw [getD_replicate_false]; rfl)]
  simp) ⟨(zH _ w).drew,⟨rfl,rfl,fun _ _=>rfl⟩,fun k _ hj=>(by rw [getD_replicate_false] at hj; cases hj),fun k _ hj=>(by rw [getD_replicate_false] at hj; cases hj),fun k _ hj=>(by rw [getD_replicate_false] at hj; cases hj),fun j k _ _ _ hj=>(by rw [getD_replicate_false] at hj; cases hj)⟩
 ·intro i o listed a1 w1 ho hls hun hwait hG K Q' hK;have hil:i<9:=by have:=(Array.getElem?_eq_some_iff.1 ho).1; omega
  have hon:(listed.setIfInBounds i true).getD i false=true:=by
   have:i<listed.size:=by omega
   simp [this]
  have hset:∀ j,j≠i->(listed.setIfInBounds i true).getD j false=listed.getD j false:=fun j hj=>getD_set_ne false (Ne.symm hj)
  have hs1:=hG.low.size;have hnl:listed.getD i false=false:=getD_both hun;by_cases i3:i<3
  ·obtain⟨o',ho',hgd,hdst,hopp,hfree⟩:=hc.ld i i3;obtain rfl:=zL (ho.symm.trans ho');rw [if_pos (by simp [zE,hgd])];have hx:a1.eval (.tmp (src i))=.pointer (some ⟨gs i,0,none⟩):=(hG.kept.at_ hfree).trans (hsrc i i3).1;refine Q0J ty (.tmp (src i)) hopp (gs i) 0 zs.size hx ty (cs i) (cs i) d ((hsrc i i3).2.below hG.low (hsrc i i3).2.lt) hu hd hi (hn i i3) (fun j _=>by rw [zI]) (hK _ _ ⟨hG.low,hkept _ i o _ ho hG.kept,fun k hk hl=>(by rw [hset (6+k) (by omega)] at hl; rw [hset (3+k) (by omega)]; exact hG.ord k hk hl),fun k hk hl=>?_,fun k hk hl=>?_,fun j k hj hk hne hlj hlk=>?_⟩)
   ·by_cases hki:k=i
    ·subst hki;rw [hdst];exact Q1S (hsize a1 hG.kept k o _ ho hdst)
    obtain⟨ok,hok,_,hdk,_⟩:=hc.ld k hk;rw [hoth a1 i k o ok _ _ ho hok hdk hki];exact hG.val k hk (by rw [hset k hki] at hl; exact hl)
   ·obtain⟨ok,hok,_,hdk,_⟩:=hc.al k hk;rw [hoth a1 i (3+k) o ok _ _ ho hok hdk (by omega),hset (6+k) (by omega)];exact hG.ptr k hk (by rw [hset (3+k) (by omega)] at hl; exact hl)
   obtain⟨oj,hoj,_,hdj,_⟩:=hc.al j hj;obtain⟨ok,hok,_,hdk,_⟩:=hc.al k hk;rw [hoth a1 i (3+k) o ok _ _ ho hok hdk (by omega),hoth a1 i (3+j) o oj _ _ ho hoj hdj (by omega)];exact hG.ne_ j k hj hk hne (by rw [hset (3+j) (by omega)] at hlj; exact hlj) (by rw [hset (3+k) (by omega)] at hlk; exact hlk)
  by_cases i6:i<6
  ·obtain⟨q,rfl⟩:∃ q,i=3+q:=⟨i - 3,by omega⟩;have hq:q<3:=by omega
   obtain⟨o',ho',hgd,hdst,hrun⟩:=hc.al q hq;obtain rfl:=zL (ho.symm.trans ho');rw [if_pos (by simp [zE,hgd])];unfold Oper.wp;rw [hrun a1 w1];have hnst:listed.getD (6+q) false=false:=by
    cases hx:listed.getD (6+q) false with
    | false=>rfl
    | true=>have:=hG.ord q hq hx; rw [hnl] at this; cases this
   refine hK _ _ ⟨hG.low.alloc hs1 _,hkept _ _ o _ ho hG.kept,fun k hk hl=>(by
    by_cases hkq:k=q
    ·subst hkq; exact hon
    rw [hset (6+k) (by omega)] at hl; rw [hset (3+k) (by omega)]; exact hG.ord k hk hl),fun k hk hl=>?_,fun k hk hl=>?_,fun j k hj hk hne hlj hlk=>?_⟩
   ·obtain⟨ok,hok,_,hdk,_⟩:=hc.ld k hk;rw [hoth a1 (3+q) k o ok _ _ ho hok hdk (by omega)];exact hG.val k hk (by rw [hset k (by omega)] at hl; exact hl)
   ·by_cases hkq:k=q
    ·subst hkq;rw [hdst,Q1S (hsize a1 hG.kept _ o _ ho hdst),hset (6+k) (by omega),hnst];exact⟨_,rfl,hs1,Blk.new w1 _ _⟩
    obtain⟨ok,hok,_,hdk,_⟩:=hc.al k hk;rw [hoth a1 (3+q) (3+k) o ok _ _ ho hok hdk (by omega),hset (6+k) (by omega)];obtain⟨g,e1,e2,e3⟩:=hG.ptr k hk (by rw [hset (3+k) (by omega)] at hl; exact hl);exact⟨g,e1,e2,e3.alloc _⟩
   obtain⟨oj,hoj,_,hdj,_⟩:=hc.al j hj;obtain⟨ok,hok,_,hdk,_⟩:=hc.al k hk;by_cases hjq:j=q
   ·subst hjq;rw [hdst,Q1S (hsize a1 hG.kept _ o _ ho hdst),<- hdst,hoth a1 (3+j) (3+k) o ok _ _ ho hok hdk (by omega)];obtain⟨g,e1,e2,e3⟩:=hG.ptr k hk (by rw [hset (3+k) (by omega)] at hlk; exact hlk);rw [e1];have:=e3.lt;intro hcc;injection hcc with hcc
    injection hcc with hcc
    injection hcc with hcc
    omega
   by_cases hkq:k=q
   ·subst hkq;rw [hoth a1 (3+k) (3+j) o oj _ _ ho hoj hdj (by omega),hdst,Q1S (hsize a1 hG.kept _ o _ ho hdst)];obtain⟨g,e1,e2,e3⟩:=hG.ptr j hj (by rw [hset (3+j) (by omega)] at hlj; exact hlj);rw [e1];have:=e3.lt;intro hcc;injection hcc with hcc
    injection hcc with hcc
    injection hcc with hcc
    omega
   rw [hoth a1 (3+q) (3+k) o ok _ _ ho hok hdk (by omega),hoth a1 (3+q) (3+j) o oj _ _ ho hoj hdj (by omega)];exact hG.ne_ j k hj hk hne (by rw [hset (3+j) (by omega)] at hlj; exact hlj) (by rw [hset (3+k) (by omega)] at hlk; exact hlk)
  obtain⟨q,rfl⟩:∃ q,i=6+q:=⟨i - 6,by omega⟩;have hq:q<3:=by omega
  obtain⟨o',ho',hgd,hdst,hopp,hw1,hw2⟩:=hc.st q hq;obtain rfl:=zL (ho.symm.trans ho');rw [if_pos (by simp [zE,hgd])];obtain⟨g,e1,e2,e3⟩:=hG.ptr q hq (hwait _ hw2);have ev:=hG.val q hq (hwait _ hw1);rw [hnl] at e3;simp only [Bool.false_eq_true,if_false] at e3;refine Q1o ty (.tmp (da q)) (.tmp (dl q)) hopp g 0 (cs q) e1 ev ty zs e3 (by rw [hn q hq]; exact hi) (by rw [hn q hq]; omega) (h1 q hq) fun W' hT hD=>?_
  rw [hspl q hq] at hD;refine hK _ _ ⟨hT.below hG.low e2,hkept _ _ o _ ho hG.kept,fun k hk hl=>(by
   rw [hset (3+k) (by omega)];by_cases hkq:k=q
   ·subst hkq; exact hwait _ hw2
   rw [hset (6+k) (by omega)] at hl; exact hG.ord k hk hl),fun k hk hl=>?_,fun k hk hl=>?_,fun j k hj hk hne hlj hlk=>?_⟩
  ·rw [Q13 (by rw [hdst]; simp)];exact hG.val k hk (by rw [hset k (by omega)] at hl; exact hl)
  ·rw [Q13 (by rw [hdst]; simp)];by_cases hkq:k=q
   ·subst hkq;rw [hon,if_pos rfl];exact⟨g,e1,e2,hD⟩
   rw [hset (6+k) (by omega)];have hlk:=(by rw [hset (3+k) (by omega)] at hl; exact hl:listed.getD (3+k) false=true);obtain⟨g',f1,f2,f3⟩:=hG.ptr k hk hlk;have hne:=hG.ne_ k q hk hq hkq hlk (hwait _ hw2);rw [f1,e1] at hne;exact⟨g',f1,f2,hT.blk f3 (fun e=>hne (by rw [e]))⟩
  rw [Q13 (by rw [hdst]; simp),Q13 (by rw [hdst]; simp)];exact hG.ne_ j k hj hk hne (by rw [hset (3+j) (by omega)] at hlj; exact hlj) (by rw [hset (3+k) (by omega)] at hlk; exact hlk)
 intro listed a1 w1 hall hG;rw [hG.kept.puts (by rw [ha]; exact hsz),hds];have ev:∀ d,a1.tmps[d]?.getD undef=a1.eval (.tmp d):=fun d=>by simp [Act.eval]
 refine h _ w1 hG.low (fun k hk=>?_) (fun k hk=>?_) (fun j k hj hk hne=>?_)
 ·rw [ev]; exact hG.val k hk (hall k (by omega))
 ·rw [ev];have:=hG.ptr k hk (hall _ (by omega));rw [hall (6+k) (by omega),if_pos rfl] at this;exact this
 rw [ev,ev];exact hG.ne_ j k hj hk hne (hall _ (by omega)) (hall _ (by omega))
end
section
open Go.RowKit
attribute [local irreducible] wpList
theorem Q1P (A:Option Addr) (n c:Nat) (xs:List UInt8) (w:zA) (B:Nat) (h:Q02 w B 1 A n (xs.map vb)) (hB:B<=w.heap.size) (hc:n<=c) (hn:n<=1000) (r:Nat) (z:Int) (hz:(r:Int)=z) (hr:(Q0C xs).2=r) :
 Calls Try.prog 8 #[.slice A n c] w fun e w'=>∃ D,e=.returned (.tuple #[.agg D,.int .i64 z])/\D.size=10/\D.all (·.oneCell')=true/\zC w.heap.size w w':=by
 subst hz hr;refine(Q2U A n c xs w B h hB hc (by omega)).mono ?_;rintro e w' ⟨A1,n1,c1,A2,n2,c2,rfl,_,hb⟩;exact⟨_,rfl,by simp [Q00],Q06 _ _ _ _ _ _ _,hb⟩
theorem Q3P (A:Option Addr) (n c:Nat) (xs:List UInt8) (w:zA) (B:Nat) (h:Q02 w B 1 A n (xs.map vb)) (hB:B<=w.heap.size) (hc:n<=c) (hn:n<=1000) (r:Nat) (z:Int) (hz:(r:Int)=z) (hr:(Q1y xs).2=r) :
 Calls Try.prog 9 #[.slice A n c] w fun e w'=>∃ A1 n1 c1,e=.returned (.tuple #[.slice A1 n1 c1,.int .i64 z])/\zC w.heap.size w w':=by
 subst hz hr;refine(Q35 A n c xs w B h hB hc (by omega)).mono ?_;rintro e w' ⟨A1,n1,c1,rfl,_,_,_,hb⟩;exact⟨_,_,_,rfl,hb⟩
theorem Q3p (A:Option Addr) (n c:Nat) (l:List Wish) (w:zA) (B:Nat) (h:Q18 w B A n l) (hB:B<=w.heap.size) (hn:n<=1000) (r:Nat) (z:Int) (hz:(r:Int)=z) (hr:(Q2E l).2=r) :
 Calls Try.prog 10 #[.slice A n c] w fun e w'=>∃ v,e=.returned (.tuple #[v,.int .i64 z])/\zC w.heap.size w w':=by
 subst hz hr;refine(Q1Z A n c l w B h hB (by omega)).mono ?_;rintro e w' ⟨v,rfl,_,hb⟩;exact⟨_,rfl,hb⟩
theorem Q2r (p:Option Addr) (x:Wish) (A:Option Addr) (n c:Nat) (A':Option Addr) (n' c':Nat) (w:zA) (B:Nat) (hbk:NoBk w p) (h:Q0c w B x A n c A' n' c') (hB:B<=w.heap.size) (r:Int) (hr:(if mayB x=true then(1:Int) else 2)=r) :
 Calls Try.prog 11 #[.pointer p,.agg (Q00 x A n c A' n' c')] w fun e w'=>e=.returned (.tuple #[.agg zD,.int .i64 r])/\zC w.heap.size w w':=by
 subst hr;exact Q2j p x A n c A' n' c' w B hbk h hB
def rdC5:Array zB:=((List.replicate 5 (Q00 Q0t none 0 0 none 0 0).toList).flatten).toArray
def rdC2:Array zB:=((Q00 Q0t none 0 0 none 0 0).toList++(Q00 Q0k none 0 0 none 0 0).toList).toArray
theorem rdC5_in {w:zA} {g:Nat} (h:Blk w g 25 rdC5):Q18 w w.heap.size (some ⟨g,0,none⟩) 5 (List.replicate 5 Q0t):=by
 refine⟨rfl,fun _=>⟨_,rfl,h.lt,fun k x hx=>?_⟩⟩;have hk:k<5:=by have:=(List.getElem?_eq_some_iff.1 hx).1; simpa using this
 obtain rfl:Q0t=x:=by
  obtain rfl | rfl | rfl | rfl | rfl:k=0\/k=1\/k=2\/k=3\/k=4:=by omega
  all_goals exact zL hx
 refine⟨none,0,0,none,0,0,fun j v hv=>?_,Q0q rfl rfl (by decide) _ _⟩;have hj:j<10:=by have:=(Array.getElem?_eq_some_iff.1 hv).1; simpa [Q00] using this
 rw [Q2C,h.cell,zI,<- hv];clear hv h hx;obtain rfl | rfl | rfl | rfl | rfl:k=0\/k=1\/k=2\/k=3\/k=4:=by omega
 all_goals
  obtain rfl | rfl | rfl | rfl | rfl | rfl | rfl | rfl | rfl | rfl:j=0\/j=1\/j=2\/j=3\/j=4\/j=5\/j=6\/j=7\/j=8\/j=9:=by omega
  all_goals rfl
theorem rdC2_in {w:zA} {g:Nat} (h:Blk w g 25 rdC2):Q18 w w.heap.size (some ⟨g,0,none⟩) 2 [Q0t,Q0k]:=by
 refine⟨rfl,fun _=>⟨_,rfl,h.lt,fun k x hx=>?_⟩⟩;have hk:k<2:=by have:=(List.getElem?_eq_some_iff.1 hx).1; simpa using this
 obtain rfl | rfl:k=0\/k=1:=by omega
 ·obtain rfl:Q0t=x:=zL hx;refine⟨none,0,0,none,0,0,fun j v hv=>?_,Q0q rfl rfl (by decide) _ _⟩;have hj:j<10:=by have:=(Array.getElem?_eq_some_iff.1 hv).1; simpa [Q00] using this
  rw [Q2C,h.cell,zI,<- hv];clear hv h hx;obtain rfl | rfl | rfl | rfl | rfl | rfl | rfl | rfl | rfl | rfl:j=0\/j=1\/j=2\/j=3\/j=4\/j=5\/j=6\/j=7\/j=8\/j=9:=by omega
  all_goals rfl
 obtain rfl:Q0k=x:=zL hx;refine⟨none,0,0,none,0,0,fun j v hv=>?_,Q0q rfl rfl (by decide) _ _⟩;have hj:j<10:=by have:=(Array.getElem?_eq_some_iff.1 hv).1; simpa [Q00] using this
 rw [Q2C,h.cell,zI,<- hv];clear hv h hx;obtain rfl | rfl | rfl | rfl | rfl | rfl | rfl | rfl | rfl | rfl:j=0\/j=1\/j=2\/j=3\/j=4\/j=5\/j=6\/j=7\/j=8\/j=9:=by omega
 all_goals rfl
theorem Q0A (x:Wish) (A:Option Addr) (n c:Nat) (A':Option Addr) (n' c':Nat) (w:zA) (B:Nat) (h:Q0c w B x A n c A' n' c') (hB:B<=w.heap.size) (r:Int) (hr:(if mayB x=true then(0:Int) else 2)=r) :
 Calls Try.prog 6 #[.agg (Q00 x A n c A' n' c')] w fun e w'=>e=.returned (.int .i64 r)/\zC w.heap.size w w':=by
 subst hr;exact Q0Q x A n c A' n' c' w B h hB
theorem wtake_ {w:zA} {B n k:Nat} {A:Option Addr} {xs:List zB} (h:Q02 w B 1 A n xs) (hk:k<=n):Q02 w B 1 A k (xs.take k) :=
 ⟨by have:=h.1; rw [List.length_take]; omega,fun h0=>by
  obtain⟨ad,h1,h2,h3⟩:=h.2 (by omega);refine⟨ad,h1,h2,fun j x hx=>h3 j x ?_⟩;rw [List.getElem?_take] at hx;split at hx
  ·exact hx
  cases hx⟩
theorem wishKnown_law (w:zA) :
 Calls Try.prog 3 #[] w fun e w'=>e=.returned (.bool true)/\zC w.heap.size w w':=by
 go_enter Try.func3,Try.ntmps3
 go_wp2_with fail
 go_loopw [1,2] (fun bv iv wr=>∃ i:Nat,i<=18/\bv=.int .i64 i/\iv=.int .i64 i/\zC w.heap.size w wr) (fun _ iv _=>18 - (intOf iv).toNat)
 case atStart=>exact⟨0,by omega,rfl,rfl,zH _ _⟩
 obtain⟨i,hi,rfl,rfl,hb⟩:=hrel;have HB:=sH hb;have hs:=hb.size;clear hb;by_cases hi18:i<18
 ·--ROUND-BEGIN
  go_wp2_with fail
  refine(Q0o wr).mono ?_;rintro _ w1 ⟨rfl,hb1⟩;have HB1:=sH (HB.out.trans (hb1.mono hs));have hs1:=HB1.out.size;clear hb1;go_wp2_with fail
  refine(Q2y w1).mono ?_;rintro _ w2 ⟨A,c,rfl,hse,hb2⟩;have HB2:=sH (HB1.out.trans (hb2.mono hs1));have hs2:=HB2.out.size;have HSE:=sH hse;have hA:∀ a,A=some a->a.block<w2.heap.size:=fun a ha=>by obtain⟨ad,hA,hb,_⟩:=hse.next.2 (by omega);rw [hA] at ha; injection ha with ha; subst ha; exact hb
  have HA:=sH hA;clear hb2 hse hA;go_upto_region 6 with(first
   | (refine Q01 (o:=⟨none,_,_,_,_,_⟩) rfl 25 (.tmp 3) (.tmp 43) rfl w2.heap.size 0 (Q00 Q0t none 0 0 none 0 0) rfl rfl 25 (Q00 Q0k none 0 0 none 0 0) ((Blk.new w2 _ _).alloc _) (Q07 _ _ _ _ _ _ _) (by simp [Q00]) (Q06 _ _ _ _ _ _ _) ?_; intro w3 hT3 hD3; rw [Q0d _ _ (by simp [Q00])] at hD3)
   | (refine Q01 (o:=⟨none,_,_,_,_,_⟩) rfl 25 (.tmp 4) (.tmp 44) rfl (w2.heap.size+1) 0 (Q00 Q0S none 0 0 A 4 c) rfl rfl 25 (Q00 Q0k none 0 0 none 0 0) ((hT3.block (w2.heap.size+1) (by omega)).trans (Blk.newAt (by simp))) (Q07 _ _ _ _ _ _ _) (by simp [Q00]) (Q06 _ _ _ _ _ _ _) ?_; intro w4 hT4 hD4; rw [Q0d _ _ (by simp [Q00])] at hD4))
  have hb3:zC w2.heap.size w2 w3:=hT3.below (((zH _ _).alloc (zG _) _).alloc (by simp) _) (zG _);have hb4:zC w2.heap.size w2 w4:=hT4.below hb3 (by omega);have hd3:Blk w4 w2.heap.size 25 (Q00 Q0t none 0 0 none 0 0):=(hT4.block _ (by omega)).trans hD3;obtain⟨g3,hg3⟩:∃ g,g=w2.heap.size:=⟨_,rfl⟩;obtain⟨g4,hg4⟩:∃ g,g=w2.heap.size+1:=⟨_,rfl⟩;rw [<- hg4] at hD4 ⊢;rw [<- hg3] at hd3 ⊢;have hg34:g4≠g3:=by omega
  have hg43:g3≠g4:=by omega
  have hg3w:w.heap.size<=g3:=by omega
  have hg4w:w.heap.size<=g4:=by omega
  have K3:=sH hd3;have K4:=sH hD4;have HB4:=sH (HB2.out.trans (hb4.mono hs2));have HS4:=sH ((HSE.out.below hb4).more (B':=w4.heap.size) hb4.size);have HA3:=sH (fun(a:Addr) (ha:A=some a)=>(show a.block≠g3 by have:=HA.out a ha; omega));have HA4:=sH (fun(a:Addr) (ha:A=some a)=>(show a.block≠g4 by have:=HA.out a ha; omega));have hl3:=K3.out.lt;have hl4:=K4.out.lt;clear hT3 hT4 hD3 hD4 hb3 hb4 hd3 hg3 hg4 HB1 HB2 HSE HA;go_upto_region 6 with fail
  iterate 3 go_step
  rename_i KK hKK;refine hKK _ _ ?_;clear hKK KK
  go_step
  rename_i KK hKK;refine hKK _ _ ?_;clear hKK KK
  go_cut [3,4] (fun s3 s4 wx=>s3=.pointer (some ⟨g3,0,none⟩)/\s4=.pointer (some ⟨g4,0,none⟩)/\KnW w g3 g4 i wx)
  case first =>
   have c30:w4.cell? ⟨g3,0,none⟩=some (.int .i64 31):=(K3.out.cell 0).trans rfl;have c31:w4.cell? ⟨g3,1,none⟩=some (.int .i64 5):=(K3.out.cell 1).trans rfl;have c32:w4.cell? ⟨g3,2,none⟩=some (.int .i64 1):=(K3.out.cell 2).trans rfl;have c33:w4.cell? ⟨g3,3,none⟩=some (.int .i64 0):=(K3.out.cell 3).trans rfl;have c34:w4.cell? ⟨g3,4,none⟩=some (.int .i64 1):=(K3.out.cell 4).trans rfl;have c35:w4.cell? ⟨g3,5,none⟩=some (.int .i64 3):=(K3.out.cell 5).trans rfl;have c40:w4.cell? ⟨g4,0,none⟩=some (.int .i64 0):=(K4.out.cell 0).trans rfl;have c41:w4.cell? ⟨g4,1,none⟩=some (.int .i64 0):=(K4.out.cell 1).trans rfl;have c42:w4.cell? ⟨g4,2,none⟩=some (.int .i64 2):=(K4.out.cell 2).trans rfl;have c49:∀ o,(w4.alloc o).cell? ⟨g4,9,none⟩=some (.slice A 4 c):=fun o=>(World.cell?_alloc_lt w4 o ⟨g4,9,none⟩ hl4).trans ((K4.out.cell 9).trans rfl)
   have f30:=K3.out.frozen 0;have f31:=K3.out.frozen 1;have f32:=K3.out.frozen 2;have f33:=K3.out.frozen 3;have f34:=K3.out.frozen 4;have f35:=K3.out.frozen 5;have f40:=K4.out.frozen 0;have f41:=K4.out.frozen 1;have f42:=K4.out.frozen 2;have f49:=fun o=>(K4.out.alloc o).frozen 9
   clear hi;obtain rfl | rfl | rfl | rfl | rfl | rfl | rfl | rfl | rfl | rfl | rfl | rfl | rfl | rfl | rfl | rfl | rfl | rfl:i=0\/i=1\/i=2\/i=3\/i=4\/i=5\/i=6\/i=7\/i=8\/i=9\/i=10\/i=11\/i=12\/i=13\/i=14\/i=15\/i=16\/i=17:=by omega
   ·go_wp2_with fail
    go_meet
    exact⟨rfl,rfl,KnW.one K3.out K4.out HS4.out HB4.out hg3w hg34 HA3.out rfl rfl⟩
   ·go_wp2_with fail
    go_meet
    exact⟨rfl,rfl,KnW.one K3.out K4.out HS4.out HB4.out hg3w hg34 HA3.out rfl rfl⟩
   ·go_wp2_with fail
    go_meet
    exact⟨rfl,rfl,KnW.one K3.out K4.out HS4.out HB4.out hg3w hg34 HA3.out rfl rfl⟩
   ·go_wp2_with fail
    go_meet
    exact⟨rfl,rfl,KnW.one K3.out K4.out HS4.out HB4.out hg3w hg34 HA3.out rfl rfl⟩
   ·go_wp2_with fail
    go_meet
    exact⟨rfl,rfl,KnW.one K3.out K4.out HS4.out HB4.out hg3w hg34 HA3.out rfl rfl⟩
   ·go_wp2_with fail
    go_meet
    exact⟨rfl,rfl,KnW.one K3.out K4.out HS4.out HB4.out hg3w hg34 HA3.out rfl rfl⟩
   ·go_wp2_with fail
    go_meet
    exact⟨rfl,rfl,KnW.one K3.out K4.out HS4.out HB4.out hg3w hg34 HA3.out rfl rfl⟩
   ·go_wp2_with fail
    go_meet
    exact⟨rfl,rfl,KnW.one K3.out K4.out HS4.out HB4.out hg3w hg34 HA3.out rfl rfl⟩
   ·go_wp2_with fail
    go_meet
    exact⟨rfl,rfl,KnW.one K3.out K4.out HS4.out HB4.out hg3w hg34 HA3.out rfl rfl⟩
   ·go_wp2_with fail
    go_meet
    exact⟨rfl,rfl,KnW.one K3.out K4.out HS4.out HB4.out hg3w hg34 HA3.out rfl rfl⟩
   ·go_wp2_with fail
    go_meet
    exact⟨rfl,rfl,KnW.one K3.out K4.out HS4.out HB4.out hg3w hg34 HA3.out rfl rfl⟩
   ·go_wp2_with fail
    go_meet
    exact⟨rfl,rfl,KnW.two K3.out K4.out HS4.out HB4.out hg4w hg43 HA4.out rfl rfl rfl (Q1k 11 (by omega)).2 rfl⟩
   ·go_wp2_with fail
    go_meet
    exact⟨rfl,rfl,KnW.two K3.out K4.out HS4.out HB4.out hg4w hg43 HA4.out rfl rfl rfl (Q1k 12 (by omega)).2 rfl⟩
   ·go_wp2_with fail
    go_meet
    exact⟨rfl,rfl,KnW.list (n:=2) K3.out K4.out HB4.out hg4w hg43 rfl rfl rfl (by omega) rfl (Q1k 13 (by omega)).2 rfl⟩
   ·go_wp2_with fail
    go_meet
    exact⟨rfl,rfl,KnW.list (n:=4) K3.out K4.out HB4.out hg4w hg43 rfl rfl rfl (by omega) rfl (Q1k 14 (by omega)).2 rfl⟩
   ·go_wp2_with fail
    go_meet
    exact⟨rfl,rfl,KnW.list (n:=4) K3.out K4.out HB4.out hg4w hg43 rfl rfl rfl (by omega) rfl (Q1k 15 (by omega)).2 rfl⟩
   ·go_wp2_with fail
    go_meet
    exact⟨rfl,rfl,KnW.list (n:=1) K3.out K4.out HB4.out hg4w hg43 rfl rfl rfl (by omega) rfl (Q1k 16 (by omega)).2 rfl⟩
   go_wp2_with fail
   go_meet
   exact⟨rfl,rfl,KnW.two K3.out K4.out HS4.out HB4.out hg4w hg43 HA4.out rfl rfl rfl (Q1k 17 (by omega)).2 rfl⟩
  rename_i hcut;obtain⟨rfl,rfl,hkn⟩:=hcut;obtain⟨A',n',c',h3,h4,h5,h6⟩:=hkn;have hx:=Q0q (Q3i i hi18).1 (Q3i i hi18).2.1 (Q3i i hi18).2.2;have hbad:=kn_bad i hi18;generalize knR i=x at h3 hx hbad;generalize knS i=y at h4 h5 hbad;have HBC:=sH h6;have HCX:=sH (fun(W:zA)=>Q0Q x none 0 0 none 0 0 W W.heap.size (hx W _) (zG _));have HY:=sH (fun(W:zA) (hb:zC wc.heap.size wc W)=>Q0Q y none 0 0 A' n' c' W _ (h5.below hb) hb.size);have H3:=sH h3;have H4:=sH h4;clear h3 h4 h5 h6 hx;go_wp2_with (refine Q03 (o:=⟨some 102,_,_,_,_,_⟩) rfl 25 (.tmp 3) rfl g3 0 10 rfl 25 _ (Q00 x none 0 0 none 0 0) _ H3.out Try.underlying25 rfl rfl rfl (fun _ _=>by rw [zI]) ?_)
  rcases hbad with hb0 | ⟨hb0,hb1⟩
  ·have hc:=HCX.out wc;rw [hb0] at hc;refine hc.mono ?_;rintro _ w6 ⟨rfl,hb6⟩;have HB6:=sH (HBC.out.trans (hb6.mono HBC.out.size));clear hc hb6;go_wp2_with fail
   go_roundw
   case rel=>exact⟨i+1,by omega,by go_num,by go_num,HB6.out⟩
   case measure=>simp [intOf]; omega
  have hc:=HCX.out wc;rw [hb0] at hc;refine hc.mono ?_;rintro _ w6 ⟨rfl,hb6⟩;have hcy:=HY.out w6 hb6;rw [hb1] at hcy;have H46:=sH (H4.out.under hb6);have HB6:=sH (HBC.out.trans (hb6.mono HBC.out.size));have HCY:=sH hcy;clear hc hb6 hcy;go_wp2_with (refine Q08 (o:=⟨some 106,_,_,_,_,_⟩) rfl 25 (.tmp 4) rfl g4 0 10 rfl 25 _ (Q00 y none 0 0 A' n' c') _ H46.out Try.underlying25 rfl rfl rfl (fun _ _=>by rw [zI]) ?_)
  refine HCY.out.mono ?_;rintro _ w7 ⟨rfl,hb7⟩;have HB7:=sH (HB6.out.trans (hb7.mono HB6.out.size));clear hb7;go_wp2_with fail
  go_roundw
  case rel=>exact⟨i+1,by omega,by go_num,by go_num,HB7.out⟩
  case measure=>simp [intOf]; omega
 obtain rfl:i=18:=by omega
 obtain⟨i0,hi0,hz0,hz1,hz2⟩:=info_parts Q1j;have hmk:(Instr.makeSlice 22 (.int .i64 16) (.int .i64 16)).run Try.prog wr=.ok (.slice (some ⟨wr.heap.size,0,none⟩) 16 16) (wr.alloc (.cells (zJ 16 (.int .u8 0)) 5)):=by have h:=Q2G (P:=Try.prog) 22 5 i0 _ Try.underlying22 hi0 hz0 .i64 .i64 16 16 (by omega) (by rw [hz2]; omega) (by omega) wr;rw [hz1] at h;rw [show ((16:Nat):Int)=16 from rfl] at h;rw [h,show madeCells (Value.int .u8 0).cells (16*1)=zJ 16 (.int .u8 0) from by kernel_rfl]
 go_upto_region 45 with(first
  | (refine Q01 (o:=⟨none,_,_,_,_,_⟩) rfl 25 (.tmp 5) (.tmp 113) rfl (wr.heap.size+1) 0 (Q00 Q1d (some ⟨wr.heap.size,0,none⟩) 16 16 none 0 0) rfl rfl 25 (Q00 Q0k none 0 0 none 0 0) (Blk.newAt (by simp)) (Q07 _ _ _ _ _ _ _) (by simp [Q00]) (Q06 _ _ _ _ _ _ _) ?_; intro w1 hT1 hD1; rw [Q0d _ _ (by simp [Q00])] at hD1))
 clear hmk;have hb1:zC wr.heap.size wr w1:=hT1.below (((zH _ _).alloc (zG _) _).alloc (by simp) _) (by omega);have hr1:Q02 w1 w1.heap.size 1 (some ⟨wr.heap.size,0,none⟩) 16 (Q1d.data.map vb):=by have h:=Q04 wr (zJ 16 (.int .u8 0)) 5;have h2:=h.below (((zH (wr.heap.size+1) (wr.alloc (.cells (zJ 16 (.int .u8 0)) 5))).alloc (by simp) (.cells (Q00 Q0k none 0 0 none 0 0) 25)));exact(h2.keep fun p hp=>hT1.cell (by omega)).more (by have:=hT1.size; simp at this; omega)
 obtain⟨gw,hgw⟩:∃ g,g=wr.heap.size+1:=⟨_,rfl⟩;rw [<- hgw] at hD1 ⊢;have hwl:=hD1.lt;have K5:=sH hD1;have HB1:=sH (HB.out.trans (hb1.mono hs));have HW1:=sH (show Q0c w1 w1.heap.size Q1d (some ⟨wr.heap.size,0,none⟩) 16 16 none 0 0 from⟨hr1,by omega,by omega,Q02.none_,zG _,by omega,by decide⟩);have hs1:=HB1.out.size;clear hb1 hr1 hT1 hD1 hgw;go_wp2_with (refine Q03 (o:=⟨some 114,_,_,_,_,_⟩) rfl 25 (.tmp 5) rfl gw 0 10 rfl 25 _ (Q00 Q1d (some ⟨wr.heap.size,0,none⟩) 16 16 none 0 0) _ K5.out Try.underlying25 rfl rfl rfl (fun _ _=>by rw [zI]) ?_)
 refine(Q38 Q1d (some ⟨wr.heap.size,0,none⟩) 16 16 none 0 0 w1 _ HW1.out (zG _)).mono ?_;rintro _ w2 ⟨A1,n1,c1,A2,n2,c2,rfl,hown,hb2⟩;obtain rfl:n1=16:=hown.data.reads.1;obtain rfl:n2=0:=by have:=hown.is.next.1; simp [Q1d] at this; exact this.symm
 have hc1:=hown.data.reads.2.1;have hA1:=hown.data.reads.2.2.2.2;have hr1:=hown.data.reads.2.2.2.1;have HW1:=sH (HW1.out.below hb2);have HW2:=sH hown.is;have K5:=sH (K5.out.under hb2);have HB2:=sH (HB1.out.trans (hb2.mono hs1));have HR1:=sH hr1;have HA1:=sH (fun(a:Addr) (ha:A1=some a)=>(show a.block<w2.heap.size by obtain⟨ad,hA,hlt,_⟩:=hr1.2 (by omega);rw [hA] at ha; injection ha with ha; subst ha; exact hlt))
 have hs2:=HB2.out.size;have hs12:=hb2.size;clear hown hb2 hr1 hA1 HB1;go_upto_region 46 with(first
  | (refine Q01 (o:=⟨none,_,_,_,_,_⟩) rfl 25 (.tmp 6) (.tmp 115) rfl w2.heap.size 0 (Q00 Q1d A1 16 c1 A2 0 c2) rfl rfl 25 (Q00 Q0k none 0 0 none 0 0) (((Blk.newAt rfl).alloc _).alloc _) (Q07 _ _ _ _ _ _ _) (by simp [Q00]) (Q06 _ _ _ _ _ _ _) ?_; intro w3 hT3 hD3; rw [Q0d _ _ (by simp [Q00])] at hD3)
  | (refine Q01 (o:=⟨none,_,_,_,_,_⟩) rfl 25 (.tmp 7) (.tmp 116) rfl (w2.heap.size+1) 0 (Q00 askK none 0 0 none 0 0) rfl rfl 25 (Q00 Q0k none 0 0 none 0 0) (hT3.blk ((Blk.newAt (by simp)).alloc _) (show w2.heap.size+1≠w2.heap.size by omega)) (Q07 _ _ _ _ _ _ _) (by simp [Q00]) (Q06 _ _ _ _ _ _ _) ?_; intro w4 hT4 hD4; rw [Q0d _ _ (by simp [Q00])] at hD4)
  | (refine Q01 (o:=⟨none,_,_,_,_,_⟩) rfl 25 (.tmp 8) (.tmp 117) rfl (w2.heap.size+1+1) 0 (Q00 Q2e none 0 0 none 0 0) rfl rfl 25 (Q00 Q0k none 0 0 none 0 0) (hT4.blk (hT3.blk (Blk.newAt (by simp)) (show w2.heap.size+1+1≠w2.heap.size by omega)) (show w2.heap.size+1+1≠w2.heap.size+1 by omega)) (Q07 _ _ _ _ _ _ _) (by simp [Q00]) (Q06 _ _ _ _ _ _ _) ?_; intro w5 hT5 hD5; rw [Q0d _ _ (by simp [Q00])] at hD5))
 have hb3:zC w2.heap.size w2 w3:=hT3.below ((((zH _ _).alloc (zG _) _).alloc (by simp) _).alloc (by simp; omega) _) (zG _);have hb5:zC w2.heap.size w2 w5:=hT5.below (hT4.below hb3 (by omega)) (by omega);have hk6:Blk w5 w2.heap.size 25 (Q00 Q1d A1 16 c1 A2 0 c2):=hT5.blk (hT4.blk hD3 (show w2.heap.size≠w2.heap.size+1 by omega)) (show w2.heap.size≠w2.heap.size+1+1 by omega);have hk7:Blk w5 (w2.heap.size+1) 25 (Q00 askK none 0 0 none 0 0):=hT5.blk hD4 (show w2.heap.size+1≠w2.heap.size+1+1 by omega);obtain⟨g6,hg6⟩:∃ g,g=w2.heap.size:=⟨_,rfl⟩;obtain⟨g7,hg7⟩:∃ g,g=w2.heap.size+1:=⟨_,rfl⟩;obtain⟨g8,hg8⟩:∃ g,g=w2.heap.size+1+1:=⟨_,rfl⟩;rw [<- hg8] at hD5 ⊢;rw [<- hg7] at hk7 ⊢;rw [<- hg6] at hk6 ⊢;have hA6:∀ a,A1=some a->a.block≠g6:=fun a ha=>by have:=HA1.out a ha; omega
 have h56:gw≠g6:=by have:=K5.out.lt; omega
 have h76:g7≠g6:=by omega
 have h86:g8≠g6:=by omega
 have hw6:w2.heap.size<=g6:=by omega
 have K5:=sH (K5.out.under hb5);have K6:=sH hk6;have K7:=sH hk7;have K8:=sH hD5;have HR1:=sH ((HR1.out.below hb5).more hb5.size);have HW1:=sH (HW1.out.below (hb5.mono hs12));have HB5:=sH hb5;have hs5:=hb5.size;clear hT3 hD3 hT4 hD4 hT5 hD5 hb3 hb5 hk6 hk7 hg6 hg7 hg8 HW2;have cc:=K6.out.cell 6;have ff:=K6.out.frozen 6;have hT6:=Q0x.setCell w5 ⟨g6,6,none⟩ (.slice A1 15 c1);have K6b:=sH (show Blk (w5.setCell ⟨g6,6,none⟩ (.slice A1 15 c1)) g6 25 (Q00 lessK A1 15 c1 A2 0 c2) from K6.out.set_ 6 (.slice A1 15 c1));have K5:=sH (hT6.blk K5.out h56);have K7:=sH (hT6.blk K7.out h76);have K8:=sH (hT6.blk K8.out h86);have HW6:=sH (show Q0c (w5.setCell ⟨g6,6,none⟩ (.slice A1 15 c1)) (w5.setCell ⟨g6,6,none⟩ (.slice A1 15 c1)).heap.size lessK A1 15 c1 A2 0 c2 from⟨by have h:=Q1U HR1.out g6 6 (.slice A1 15 c1) hA6;have h2:=wtake_ h (k:=15) (by omega);rw [<- List.map_take] at h2;exact h2.more (Nat.le_of_eq hT6.size.symm),by omega,by omega,Q02.none_,zK _,by omega,by decide⟩)
 have HB6:=sH (hT6.below HB5.out hw6);have hcp:(15:Int)<=(c1:Int):=by omega
 have hcp2:¬ (c1:Int)<15:=by omega
 have hs6:=Nat.le_of_eq hT6.size.symm;have HW1K:=sH ((HW1.out.below (hT6.below (zH w1.heap.size w5) (show w1.heap.size<=g6 by omega))).more (show w1.heap.size<=(w5.setCell ⟨g6,6,none⟩ (.slice A1 15 c1)).heap.size by omega));simp only [Q00] at cc;clear hT6 HW1 HB5 K6 HR1 HA1 hA6 h56 h76 h86;go_upto_region 47 with fail
 clear cc ff hcp hcp2;generalize w5.setCell ⟨g6,6,none⟩ (.slice A1 15 c1)=w6 at K5 K6b K7 K8 HW6 HB6 HW1K hs6 ⊢;refine Q2g 317 25 _ (Q00 Q0k none 0 0 none 0 0) (fun k=>if k=0 then 8 else 7) (fun k=>122+k) (fun k=>9+k) (fun k=>if k=0 then g8 else g7) (fun k=>if k=0 then Q00 Q2e none 0 0 none 0 0 else Q00 askK none 0 0 none 0 0) [122,123,124,9,10,11] (by kernel_rfl) ?hc (by kernel_rfl) (by first | rfl | simp) (by kernel_rfl) Try.underlying25 rfl rfl
  (fun k hk=>by obtain rfl | rfl | rfl:k=0\/k=1\/k=2:=(by omega) <;> rfl)
  (fun k hk=>by obtain rfl | rfl | rfl:k=0\/k=1\/k=2:=(by omega) <;> exact Q06 _ _ _ _ _ _ _)
  (fun k hk=>by obtain rfl | rfl | rfl:k=0\/k=1\/k=2:=(by omega) <;> exact Q0d _ _ (by simp [Q00]))
  (fun k hk=>by
   obtain rfl | rfl | rfl:k=0\/k=1\/k=2:=(by omega)
   ·exact⟨rfl,K8.out⟩
   ·exact⟨rfl,K7.out⟩
   exact⟨rfl,K7.out⟩) ?_
 case hc =>
  refine⟨by kernel_rfl,by kernel_rfl,by kernel_rfl,fun k hk=>?_,fun k hk=>?_,fun k hk=>?_⟩
  ·obtain rfl | rfl | rfl:k=0\/k=1\/k=2:=(by omega)
   iterate 3 ·exact⟨_,rfl,rfl,rfl,rfl,by kernel_rfl⟩
  ·obtain rfl | rfl | rfl:k=0\/k=1\/k=2:=(by omega)
   iterate 3 ·exact⟨_,rfl,rfl,rfl,fun a w=>by go_simp; try rfl⟩
  obtain rfl | rfl | rfl:k=0\/k=1\/k=2:=(by omega)
  iterate 3 ·exact⟨_,rfl,rfl,rfl,rfl,by kernel_rfl,by kernel_rfl⟩
 have l5:gw<w6.heap.size:=K5.out.lt;have l6:g6<w6.heap.size:=K6b.out.lt;have l7:g7<w6.heap.size:=K7.out.lt;have l8:g8<w6.heap.size:=K8.out.lt;have HB6Z:=sH (HB2.out.trans (HB6.out.mono hs2));intro f w7 hb7 hv hp hne;have h122:f 122=.agg (Q00 Q2e none 0 0 none 0 0):=hv 0 (by omega);have h123:f 123=.agg (Q00 askK none 0 0 none 0 0):=hv 1 (by omega);have h124:f 124=.agg (Q00 askK none 0 0 none 0 0):=hv 2 (by omega);obtain⟨g9,h9,hg9,hk9⟩:∃ g,f 9=.pointer (some ⟨g,0,none⟩)/\w6.heap.size<=g/\Blk w7 g 25 (Q00 Q2e none 0 0 none 0 0):=hp 0 (by omega);obtain⟨g10,h10,hg10,hk10⟩:∃ g,f 10=.pointer (some ⟨g,0,none⟩)/\w6.heap.size<=g/\Blk w7 g 25 (Q00 askK none 0 0 none 0 0):=hp 1 (by omega);obtain⟨g11,h11,hg11,hk11⟩:∃ g,f 11=.pointer (some ⟨g,0,none⟩)/\w6.heap.size<=g/\Blk w7 g 25 (Q00 askK none 0 0 none 0 0):=hp 2 (by omega);have n910:g9≠g10:=fun e=>hne 0 1 (by omega) (by omega) (by omega) (show f 9=f 10 by rw [h9,h10,e])
 have n911:g9≠g11:=fun e=>hne 0 2 (by omega) (by omega) (by omega) (show f 9=f 11 by rw [h9,h11,e])
 have n1011:g10≠g11:=fun e=>hne 1 2 (by omega) (by omega) (by omega) (show f 10=f 11 by rw [h10,h11,e])
 have K5:=sH (K5.out.under hb7);have K6:=sH (K6b.out.under hb7);have K7:=sH (K7.out.under hb7);have K8:=sH (K8.out.under hb7);have HB7:=sH hb7;have K9:=sH hk9;have K10:=sH hk10;have K11:=sH hk11;have hs7:=hb7.size;simp only [Q0M,h122,h123,h124,h9,h10,h11];clear hv hp hne hb7 hk9 hk10 hk11 h122 h123 h124 h9 h10 h11 K6b;try simp only [Act.put,sA]
 go_upto_region 48 with fail
 have n59:gw≠g9:=by omega
 have n5a:gw≠g10:=by omega
 have n5b:gw≠g11:=by omega
 have n69:g6≠g9:=by omega
 have n6a:g6≠g10:=by omega
 have n6b:g6≠g11:=by omega
 have n79:g7≠g9:=by omega
 have n7a:g7≠g10:=by omega
 have n7b:g7≠g11:=by omega
 have n89:g8≠g9:=by omega
 have n8a:g8≠g10:=by omega
 have n8b:g8≠g11:=by omega
 have HBT:=sH HB7.out;have cc:=K9.out.cell 8;have ff:=K9.out.frozen 8;have hT:=Q0x.setCell w7 ⟨g9,8,none⟩ (.int .i64 28);have K9:=sH (show Blk (w7.setCell ⟨g9,8,none⟩ (.int .i64 28)) g9 25 (Q00 Q40 none 0 0 none 0 0) from K9.out.set_ 8 (.int .i64 28));have K5:=sH (hT.blk K5.out n59);have K6:=sH (hT.blk K6.out n69);have K7:=sH (hT.blk K7.out n79);have K8:=sH (hT.blk K8.out n89);have K10:=sH (hT.blk K10.out (Ne.symm n910));have K11:=sH (hT.blk K11.out (Ne.symm n911));have hbt:zC w6.heap.size w6 (w7.setCell ⟨g9,8,none⟩ (.int .i64 28)):=hT.below HBT.out (show w6.heap.size<=g9 by omega);have HBT:=sH hbt;have hw8:w6.heap.size<=(w7.setCell ⟨g9,8,none⟩ (.int .i64 28)).heap.size:=hbt.size;simp only [Q00,Q2e,askK] at cc;clear hT hbt;go_upto_region 49 with fail
 clear cc ff;generalize w7.setCell ⟨g9,8,none⟩ (.int .i64 28)=w8 at K5 K6 K7 K8 K9 K10 K11 HBT hw8 ⊢;have cc:=K10.out.cell 5;have ff:=K10.out.frozen 5;have hT:=Q0x.setCell w8 ⟨g10,5,none⟩ (.int .i64 3);have K10:=sH (show Blk (w8.setCell ⟨g10,5,none⟩ (.int .i64 3)) g10 25 (Q00 Q3O none 0 0 none 0 0) from K10.out.set_ 5 (.int .i64 3));have K5:=sH (hT.blk K5.out n5a);have K6:=sH (hT.blk K6.out n6a);have K7:=sH (hT.blk K7.out n7a);have K8:=sH (hT.blk K8.out n8a);have K9:=sH (hT.blk K9.out n910);have K11:=sH (hT.blk K11.out (Ne.symm n1011));have hbt:zC w6.heap.size w6 (w8.setCell ⟨g10,5,none⟩ (.int .i64 3)):=hT.below HBT.out (show w6.heap.size<=g10 by omega);have HBT:=sH hbt;have hw9:w6.heap.size<=(w8.setCell ⟨g10,5,none⟩ (.int .i64 3)).heap.size:=hbt.size;simp only [Q00,Q2e,askK] at cc;clear hT hbt;go_upto_region 50 with fail
 clear cc ff;generalize w8.setCell ⟨g10,5,none⟩ (.int .i64 3)=w9 at K5 K6 K7 K8 K9 K10 K11 HBT hw9 ⊢;go_upto_region 51 with(first
  | (refine Q03 (o:=⟨some 127,_,_,_,_,_⟩) rfl 25 (.tmp 7) rfl g7 0 10 rfl 25 _ (Q00 askK none 0 0 none 0 0) _ K7.out Try.underlying25 rfl rfl rfl (fun _ _=>by rw [zI]) ?_)
  | (refine Q01 (o:=⟨none,_,_,_,_,_⟩) rfl 25 (.tmp 12) (.tmp 127) rfl w9.heap.size 0 (Q00 askK none 0 0 none 0 0) rfl rfl 25 (Q00 Q0k none 0 0 none 0 0) (Blk.newAt rfl) (Q07 _ _ _ _ _ _ _) (by simp [Q00]) (Q06 _ _ _ _ _ _ _) ?_; intro w10 hT hD; rw [Q0d _ _ (by simp [Q00])] at hD))
 have hb10:zC w9.heap.size w9 w10:=hT.below ((zH _ _).alloc (zG _) _) (zG _);have hlt9:=K9.out.lt;have hlt10:=K10.out.lt;have hlt11:=K11.out.lt;obtain⟨g12,hg12⟩:∃ g,g=w9.heap.size:=⟨_,rfl⟩;rw [<- hg12] at hD ⊢;have n912:g9≠g12:=by omega
 have n1012:g10≠g12:=by omega
 have n1112:g11≠g12:=by omega
 have n512:gw≠g12:=by omega
 have n612:g6≠g12:=by omega
 have n712:g7≠g12:=by omega
 have n812:g8≠g12:=by omega
 have h12:w6.heap.size<=g12:=by omega
 have K12:=sH hD;have K5:=sH (K5.out.under hb10);have K6:=sH (K6.out.under hb10);have K7:=sH (K7.out.under hb10);have K8:=sH (K8.out.under hb10);have K9:=sH (K9.out.under hb10);have K10:=sH (K10.out.under hb10);have K11:=sH (K11.out.under hb10);have HBT:=sH (HBT.out.trans (hb10.mono hw9));clear hT hD hb10 hg12 hlt9 hlt10 hlt11;have cc:=K12.out.cell 3;have ff:=K12.out.frozen 3;have hT:=Q0x.setCell w10 ⟨g12,3,none⟩ (.int .i64 1);have K12:=sH (show Blk (w10.setCell ⟨g12,3,none⟩ (.int .i64 1)) g12 25 (Q00 lateK none 0 0 none 0 0) from K12.out.set_ 3 (.int .i64 1));have K5:=sH (hT.blk K5.out n512);have K6:=sH (hT.blk K6.out n612);have K7:=sH (hT.blk K7.out n712);have K8:=sH (hT.blk K8.out n812);have K9:=sH (hT.blk K9.out n912);have K10:=sH (hT.blk K10.out n1012);have K11:=sH (hT.blk K11.out n1112);have hbt:zC w6.heap.size w6 (w10.setCell ⟨g12,3,none⟩ (.int .i64 1)):=hT.below HBT.out (show w6.heap.size<=g12 by omega);have HBT:=sH hbt;have hw11:w6.heap.size<=(w10.setCell ⟨g12,3,none⟩ (.int .i64 1)).heap.size:=hbt.size;simp only [Q00,Q2e,askK] at cc;clear hT hbt;go_upto_region 52 with fail
 clear cc ff;generalize w10.setCell ⟨g12,3,none⟩ (.int .i64 1)=w11 at K5 K6 K7 K8 K9 K10 K11 K12 HBT hw11 ⊢;have cc:=K11.out.cell 2;have ff:=K11.out.frozen 2;have hT:=Q0x.setCell w11 ⟨g11,2,none⟩ (.int .i64 1);have K11:=sH (show Blk (w11.setCell ⟨g11,2,none⟩ (.int .i64 1)) g11 25 (Q00 Q44 none 0 0 none 0 0) from K11.out.set_ 2 (.int .i64 1));have K5:=sH (hT.blk K5.out n5b);have K6:=sH (hT.blk K6.out n6b);have K7:=sH (hT.blk K7.out n7b);have K8:=sH (hT.blk K8.out n8b);have K9:=sH (hT.blk K9.out n911);have K10:=sH (hT.blk K10.out n1011);have K12:=sH (hT.blk K12.out (Ne.symm n1112));have hbt:zC w6.heap.size w6 (w11.setCell ⟨g11,2,none⟩ (.int .i64 1)):=hT.below HBT.out (show w6.heap.size<=g11 by omega);have HBT:=sH hbt;have hw12:w6.heap.size<=(w11.setCell ⟨g11,2,none⟩ (.int .i64 1)).heap.size:=hbt.size;simp only [Q00,Q2e,askK] at cc;clear hT hbt;go_upto_region 53 with fail
 clear cc ff;generalize w11.setCell ⟨g11,2,none⟩ (.int .i64 1)=w12 at K5 K6 K7 K8 K9 K10 K11 K12 HBT hw12 ⊢;have HW5:=sH ((HW1K.out.below HBT.out).more HBT.out.size);have HW6:=sH ((HW6.out.below HBT.out).more HBT.out.size);have HBZ:=sH (HB6Z.out.trans (HBT.out.mono HB6Z.out.size));clear n910 n911 n1011 n59 n5a n5b n69 n6a n6b n79 n7a n7b n89 n8a n8b n912 n1012 n1112 n512 n612 n712 n812 HBT HB6Z HB6 HW1K HB7 HB2;go_wp2_with (refine Q03 (o:=⟨some 130,_,_,_,_,_⟩) rfl 25 (.tmp 5) rfl gw 0 10 rfl 25 _ (Q00 Q1d (some ⟨wr.heap.size,0,none⟩) 16 16 none 0 0) _ K5.out Try.underlying25 rfl rfl rfl (fun _ _=>by rw [zI]) ?_)
 refine(Q0A Q1d (some ⟨wr.heap.size,0,none⟩) 16 16 none 0 0 w12 w12.heap.size HW5.out (zG _) 0 (by decide)).mono ?_;rintro _ v0 ⟨rfl,hb⟩;have HBZ:=sH (HBZ.out.trans (hb.mono HBZ.out.size));have K6:=sH (K6.out.under hb);have K7:=sH (K7.out.under hb);have K10:=sH (K10.out.under hb);have K11:=sH (K11.out.under hb);have K12:=sH (K12.out.under hb);have K8:=sH (K8.out.under hb);have K9:=sH (K9.out.under hb);have HW6:=sH ((HW6.out.below hb).more hb.size);clear hb K5 HW5;go_wp2_with (refine Q08 (o:=⟨some 134,_,_,_,_,_⟩) rfl 25 (.tmp 6) rfl g6 0 10 rfl 25 _ (Q00 lessK A1 15 c1 A2 0 c2) _ K6.out Try.underlying25 rfl rfl rfl (fun _ _=>by rw [zI]) ?_)
 refine(Q0A lessK A1 15 c1 A2 0 c2 v0 v0.heap.size HW6.out (zG _) 2 (by decide)).mono ?_;rintro _ v1 ⟨rfl,hb⟩;have HBZ:=sH (HBZ.out.trans (hb.mono HBZ.out.size));have K7:=sH (K7.out.under hb);have K10:=sH (K10.out.under hb);have K11:=sH (K11.out.under hb);have K12:=sH (K12.out.under hb);have K8:=sH (K8.out.under hb);have K9:=sH (K9.out.under hb);clear hb K6 HW6;go_wp2_with (refine Q08 (o:=⟨some 139,_,_,_,_,_⟩) rfl 25 (.tmp 7) rfl g7 0 10 rfl 25 _ (Q00 askK none 0 0 none 0 0) _ K7.out Try.underlying25 rfl rfl rfl (fun _ _=>by rw [zI]) ?_)
 refine(Q0A askK none 0 0 none 0 0 v1 v1.heap.size (Q0q rfl rfl (by decide) _ _) (zG _) 0 (by decide)).mono ?_;rintro _ v2 ⟨rfl,hb⟩;have HBZ:=sH (HBZ.out.trans (hb.mono HBZ.out.size));have K10:=sH (K10.out.under hb);have K11:=sH (K11.out.under hb);have K12:=sH (K12.out.under hb);have K8:=sH (K8.out.under hb);have K9:=sH (K9.out.under hb);clear hb K7;go_wp2_with (refine Q08 (o:=⟨some 144,_,_,_,_,_⟩) rfl 25 (.tmp 10) rfl g10 0 10 rfl 25 _ (Q00 Q3O none 0 0 none 0 0) _ K10.out Try.underlying25 rfl rfl rfl (fun _ _=>by rw [zI]) ?_)
 refine(Q0A Q3O none 0 0 none 0 0 v2 v2.heap.size (Q0q rfl rfl (by decide) _ _) (zG _) 2 (by decide)).mono ?_;rintro _ v3 ⟨rfl,hb⟩;have HBZ:=sH (HBZ.out.trans (hb.mono HBZ.out.size));have K11:=sH (K11.out.under hb);have K12:=sH (K12.out.under hb);have K8:=sH (K8.out.under hb);have K9:=sH (K9.out.under hb);clear hb K10;go_wp2_with (refine Q08 (o:=⟨some 149,_,_,_,_,_⟩) rfl 25 (.tmp 11) rfl g11 0 10 rfl 25 _ (Q00 Q44 none 0 0 none 0 0) _ K11.out Try.underlying25 rfl rfl rfl (fun _ _=>by rw [zI]) ?_)
 refine(Q0A Q44 none 0 0 none 0 0 v3 v3.heap.size (Q0q rfl rfl (by decide) _ _) (zG _) 2 (by decide)).mono ?_;rintro _ v4 ⟨rfl,hb⟩;have HBZ:=sH (HBZ.out.trans (hb.mono HBZ.out.size));have K12:=sH (K12.out.under hb);have K8:=sH (K8.out.under hb);have K9:=sH (K9.out.under hb);clear hb K11;go_wp2_with (refine Q08 (o:=⟨some 154,_,_,_,_,_⟩) rfl 25 (.tmp 12) rfl g12 0 10 rfl 25 _ (Q00 lateK none 0 0 none 0 0) _ K12.out Try.underlying25 rfl rfl rfl (fun _ _=>by rw [zI]) ?_)
 refine(Q0A lateK none 0 0 none 0 0 v4 v4.heap.size (Q0q rfl rfl (by decide) _ _) (zG _) 2 (by decide)).mono ?_;rintro _ v5 ⟨rfl,hb⟩;have HBZ:=sH (HBZ.out.trans (hb.mono HBZ.out.size));have K8:=sH (K8.out.under hb);have K9:=sH (K9.out.under hb);clear hb K12;go_wp2_with (refine Q08 (o:=⟨some 159,_,_,_,_,_⟩) rfl 25 (.tmp 8) rfl g8 0 10 rfl 25 _ (Q00 Q2e none 0 0 none 0 0) _ K8.out Try.underlying25 rfl rfl rfl (fun _ _=>by rw [zI]) ?_)
 refine(Q0A Q2e none 0 0 none 0 0 v5 v5.heap.size (Q0q rfl rfl (by decide) _ _) (zG _) 0 (by decide)).mono ?_;rintro _ v6 ⟨rfl,hb⟩;have HBZ:=sH (HBZ.out.trans (hb.mono HBZ.out.size));have K9:=sH (K9.out.under hb);clear hb K8;go_wp2_with (refine Q08 (o:=⟨some 164,_,_,_,_,_⟩) rfl 25 (.tmp 9) rfl g9 0 10 rfl 25 _ (Q00 Q40 none 0 0 none 0 0) _ K9.out Try.underlying25 rfl rfl rfl (fun _ _=>by rw [zI]) ?_)
 refine(Q0A Q40 none 0 0 none 0 0 v6 v6.heap.size (Q0q rfl rfl (by decide) _ _) (zG _) 2 (by decide)).mono ?_;rintro _ v7 ⟨rfl,hb⟩;have HBZ:=sH (HBZ.out.trans (hb.mono HBZ.out.size));clear hb K9;have hbl:zC v7.heap.size v7 (v7.alloc (.cells #[.int .i64 28] 3)):=(zH _ _).alloc (zG _) _;have HRD:=sH (show Q0c (v7.alloc (.cells #[.int .i64 28] 3)) (v7.heap.size+1) seal1K none 0 0 (some ⟨v7.heap.size,0,none⟩) 1 1 from Q3m rfl (by decide) (Q04 v7 #[.int .i64 28] 3) (zG _) (by omega));have HBZ:=sH (HBZ.out.trans (hbl.mono HBZ.out.size));clear hbl;go_wp2_with fail
 refine(Q0A seal1K none 0 0 (some ⟨v7.heap.size,0,none⟩) 1 1 _ _ HRD.out (by simp) 0 (by decide)).mono ?_;rintro _ u0 ⟨rfl,hb⟩;have HBZ:=sH (HBZ.out.trans (hb.mono HBZ.out.size));clear hb HRD;have hbl:zC u0.heap.size u0 (u0.alloc (.cells #[.int .i64 1,.int .i64 2,.int .i64 3,.int .i64 4,.int .i64 5,.int .i64 6,.int .i64 28] 3)):=(zH _ _).alloc (zG _) _;have HRD:=sH (show Q0c (u0.alloc (.cells #[.int .i64 1,.int .i64 2,.int .i64 3,.int .i64 4,.int .i64 5,.int .i64 6,.int .i64 28] 3)) (u0.heap.size+1) seal7K none 0 0 (some ⟨u0.heap.size,0,none⟩) 7 7 from Q3m rfl (by decide) (Q04 u0 #[.int .i64 1,.int .i64 2,.int .i64 3,.int .i64 4,.int .i64 5,.int .i64 6,.int .i64 28] 3) (zG _) (by omega));have HBZ:=sH (HBZ.out.trans (hbl.mono HBZ.out.size));clear hbl;go_wp2_with fail
 refine(Q0A seal7K none 0 0 (some ⟨u0.heap.size,0,none⟩) 7 7 _ _ HRD.out (by simp) 0 (by decide)).mono ?_;rintro _ u1 ⟨rfl,hb⟩;have HBZ:=sH (HBZ.out.trans (hb.mono HBZ.out.size));clear hb HRD;have HBL:=sH (show zC u1.heap.size u1 (u1.alloc (.cells #[.int .u8 1,.int .u8 1,.int .u8 1,.int .u8 31,.int .u8 1,.int .u8 5,.int .u8 1,.int .u8 1,.int .u8 0,.int .u8 1,.int .u8 3,.int .u8 1,.int .u8 17,.int .u8 0] 5)) from(zH _ _).alloc (zG _) _);have HRD:=sH (show Q02 (u1.alloc (.cells #[.int .u8 1,.int .u8 1,.int .u8 1,.int .u8 31,.int .u8 1,.int .u8 5,.int .u8 1,.int .u8 1,.int .u8 0,.int .u8 1,.int .u8 3,.int .u8 1,.int .u8 17,.int .u8 0] 5)) (u1.heap.size+1) 1 (some ⟨u1.heap.size,0,none⟩) 14 (([1,1,1,31,1,5,1,1,0,1,3,1,17,0]:List UInt8).map vb) from Q04 u1 #[.int .u8 1,.int .u8 1,.int .u8 1,.int .u8 31,.int .u8 1,.int .u8 5,.int .u8 1,.int .u8 1,.int .u8 0,.int .u8 1,.int .u8 3,.int .u8 1,.int .u8 17,.int .u8 0] 5);have HBZ:=sH (HBZ.out.trans (HBL.out.mono HBZ.out.size));go_wp2_with fail
 refine(Q1P (some ⟨u1.heap.size,0,none⟩) 14 14 [1,1,1,31,1,5,1,1,0,1,3,1,17,0] _ _ HRD.out (by simp) (by omega) (by omega) 5 5 rfl (by kernel_rfl)).mono ?_;rintro _ p0 ⟨D,rfl,hds,hdo,hb⟩;have HBZ:=sH (HBZ.out.trans (hb.mono HBZ.out.size));have HDS:=sH hds;have HDO:=sH hdo;clear hb hds hdo HRD HBL;go_upto_region 55 with(refine Q01 (o:=⟨none,_,_,_,_,_⟩) rfl 25 (.tmp 14) (.tmp 183) rfl p0.heap.size 0 D rfl rfl 25 (Q00 Q0k none 0 0 none 0 0) (Blk.newAt rfl) (by rw [HDS.out]; kernel_rfl) (by rw [HDS.out]; simp [Q00]) HDO.out ?_; intro q0 hT hD)
 have hb:zC p0.heap.size p0 q0:=hT.below ((zH _ _).alloc (zG _) _) (zG _);have HBZ:=sH (HBZ.out.trans (hb.mono HBZ.out.size));clear hb hT hD HDS HDO;have HBL:=sH (show zC q0.heap.size q0 (q0.alloc (.cells #[.int .u8 1,.int .u8 1,.int .u8 1,.int .u8 31,.int .u8 1,.int .u8 5,.int .u8 1,.int .u8 1,.int .u8 0,.int .u8 1,.int .u8 3,.int .u8 0,.int .u8 0,.int .u8 0,.int .u8 1,.int .u8 8] 5)) from(zH _ _).alloc (zG _) _);have HRD:=sH (show Q02 (q0.alloc (.cells #[.int .u8 1,.int .u8 1,.int .u8 1,.int .u8 31,.int .u8 1,.int .u8 5,.int .u8 1,.int .u8 1,.int .u8 0,.int .u8 1,.int .u8 3,.int .u8 0,.int .u8 0,.int .u8 0,.int .u8 1,.int .u8 8] 5)) (q0.heap.size+1) 1 (some ⟨q0.heap.size,0,none⟩) 16 (([1,1,1,31,1,5,1,1,0,1,3,0,0,0,1,8]:List UInt8).map vb) from Q04 q0 #[.int .u8 1,.int .u8 1,.int .u8 1,.int .u8 31,.int .u8 1,.int .u8 5,.int .u8 1,.int .u8 1,.int .u8 0,.int .u8 1,.int .u8 3,.int .u8 0,.int .u8 0,.int .u8 0,.int .u8 1,.int .u8 8] 5);have HBZ:=sH (HBZ.out.trans (HBL.out.mono HBZ.out.size));go_wp2_with fail
 refine(Q1P (some ⟨q0.heap.size,0,none⟩) 16 16 [1,1,1,31,1,5,1,1,0,1,3,0,0,0,1,8] _ _ HRD.out (by simp) (by omega) (by omega) 5 5 rfl (by kernel_rfl)).mono ?_;rintro _ p1 ⟨D,rfl,hds,hdo,hb⟩;have HBZ:=sH (HBZ.out.trans (hb.mono HBZ.out.size));have HDS:=sH hds;have HDO:=sH hdo;clear hb hds hdo HRD HBL;go_upto_region 56 with(refine Q01 (o:=⟨none,_,_,_,_,_⟩) rfl 25 (.tmp 16) (.tmp 188) rfl p1.heap.size 0 D rfl rfl 25 (Q00 Q0k none 0 0 none 0 0) (Blk.newAt rfl) (by rw [HDS.out]; kernel_rfl) (by rw [HDS.out]; simp [Q00]) HDO.out ?_; intro q1 hT hD)
 have hb:zC p1.heap.size p1 q1:=hT.below ((zH _ _).alloc (zG _) _) (zG _);have HBZ:=sH (HBZ.out.trans (hb.mono HBZ.out.size));clear hb hT hD HDS HDO;have HBL:=sH (show zC q1.heap.size q1 (q1.alloc (.cells #[.int .u8 1,.int .u8 1,.int .u8 1,.int .u8 31,.int .u8 1,.int .u8 5,.int .u8 1,.int .u8 1,.int .u8 0,.int .u8 1,.int .u8 8,.int .u8 0,.int .u8 0,.int .u8 0,.int .u8 0] 5)) from(zH _ _).alloc (zG _) _);have HRD:=sH (show Q02 (q1.alloc (.cells #[.int .u8 1,.int .u8 1,.int .u8 1,.int .u8 31,.int .u8 1,.int .u8 5,.int .u8 1,.int .u8 1,.int .u8 0,.int .u8 1,.int .u8 8,.int .u8 0,.int .u8 0,.int .u8 0,.int .u8 0] 5)) (q1.heap.size+1) 1 (some ⟨q1.heap.size,0,none⟩) 15 (([1,1,1,31,1,5,1,1,0,1,8,0,0,0,0]:List UInt8).map vb) from Q04 q1 #[.int .u8 1,.int .u8 1,.int .u8 1,.int .u8 31,.int .u8 1,.int .u8 5,.int .u8 1,.int .u8 1,.int .u8 0,.int .u8 1,.int .u8 8,.int .u8 0,.int .u8 0,.int .u8 0,.int .u8 0] 5);have HBZ:=sH (HBZ.out.trans (HBL.out.mono HBZ.out.size));go_wp2_with fail
 refine(Q1P (some ⟨q1.heap.size,0,none⟩) 15 15 [1,1,1,31,1,5,1,1,0,1,8,0,0,0,0] _ _ HRD.out (by simp) (by omega) (by omega) 2 2 rfl (by kernel_rfl)).mono ?_;rintro _ p2 ⟨D,rfl,hds,hdo,hb⟩;have HBZ:=sH (HBZ.out.trans (hb.mono HBZ.out.size));have HDS:=sH hds;have HDO:=sH hdo;clear hb hds hdo HRD HBL;go_upto_region 57 with(refine Q01 (o:=⟨none,_,_,_,_,_⟩) rfl 25 (.tmp 18) (.tmp 193) rfl p2.heap.size 0 D rfl rfl 25 (Q00 Q0k none 0 0 none 0 0) (Blk.newAt rfl) (by rw [HDS.out]; kernel_rfl) (by rw [HDS.out]; simp [Q00]) HDO.out ?_; intro q2 hT hD)
 have hb:zC p2.heap.size p2 q2:=hT.below ((zH _ _).alloc (zG _) _) (zG _);have HBZ:=sH (HBZ.out.trans (hb.mono HBZ.out.size));clear hb hT hD HDS HDO;have HBL:=sH (show zC q2.heap.size q2 (q2.alloc (.cells #[.int .u8 9] 5)) from(zH _ _).alloc (zG _) _);have HRD:=sH (show Q02 (q2.alloc (.cells #[.int .u8 9] 5)) (q2.heap.size+1) 1 (some ⟨q2.heap.size,0,none⟩) 1 (([9]:List UInt8).map vb) from Q04 q2 #[.int .u8 9] 5);have HBZ:=sH (HBZ.out.trans (HBL.out.mono HBZ.out.size));go_wp2_with fail
 refine(Q1P (some ⟨q2.heap.size,0,none⟩) 1 1 [9] _ _ HRD.out (by simp) (by omega) (by omega) 4 4 rfl (by kernel_rfl)).mono ?_;rintro _ p3 ⟨D,rfl,hds,hdo,hb⟩;have HBZ:=sH (HBZ.out.trans (hb.mono HBZ.out.size));have HDS:=sH hds;have HDO:=sH hdo;clear hb hds hdo HRD HBL;go_upto_region 58 with(refine Q01 (o:=⟨none,_,_,_,_,_⟩) rfl 25 (.tmp 20) (.tmp 198) rfl p3.heap.size 0 D rfl rfl 25 (Q00 Q0k none 0 0 none 0 0) (Blk.newAt rfl) (by rw [HDS.out]; kernel_rfl) (by rw [HDS.out]; simp [Q00]) HDO.out ?_; intro q3 hT hD)
 have hb:zC p3.heap.size p3 q3:=hT.below ((zH _ _).alloc (zG _) _) (zG _);have HBZ:=sH (HBZ.out.trans (hb.mono HBZ.out.size));clear hb hT hD HDS HDO;have HBL:=sH (show zC q3.heap.size q3 (q3.alloc (.cells #[.int .u8 1,.int .u8 5] 5)) from(zH _ _).alloc (zG _) _);have HRD:=sH (show Q02 (q3.alloc (.cells #[.int .u8 1,.int .u8 5] 5)) (q3.heap.size+1) 1 (some ⟨q3.heap.size,0,none⟩) 2 (([1,5]:List UInt8).map vb) from Q04 q3 #[.int .u8 1,.int .u8 5] 5);have HBZ:=sH (HBZ.out.trans (HBL.out.mono HBZ.out.size));go_wp2_with fail
 refine(Q3P (some ⟨q3.heap.size,0,none⟩) 2 2 [1,5] _ _ HRD.out (by simp) (by omega) (by omega) 5 5 rfl (by kernel_rfl)).mono ?_;rintro _ r0 ⟨Ax,nx,cx,rfl,hb⟩;have HBZ:=sH (HBZ.out.trans (hb.mono HBZ.out.size));clear hb HRD HBL;have HBL:=sH (show zC r0.heap.size r0 (r0.alloc (.cells #[.int .u8 1,.int .u8 1,.int .u8 2,.int .u8 1,.int .u8 1] 5)) from(zH _ _).alloc (zG _) _);have HRD:=sH (show Q02 (r0.alloc (.cells #[.int .u8 1,.int .u8 1,.int .u8 2,.int .u8 1,.int .u8 1] 5)) (r0.heap.size+1) 1 (some ⟨r0.heap.size,0,none⟩) 5 (([1,1,2,1,1]:List UInt8).map vb) from Q04 r0 #[.int .u8 1,.int .u8 1,.int .u8 2,.int .u8 1,.int .u8 1] 5);have HBZ:=sH (HBZ.out.trans (HBL.out.mono HBZ.out.size));go_wp2_with fail
 refine(Q3P (some ⟨r0.heap.size,0,none⟩) 5 5 [1,1,2,1,1] _ _ HRD.out (by simp) (by omega) (by omega) 5 5 rfl (by kernel_rfl)).mono ?_;rintro _ r1 ⟨Ax,nx,cx,rfl,hb⟩;have HBZ:=sH (HBZ.out.trans (hb.mono HBZ.out.size));clear hb HRD HBL;go_wp2_with fail
 refine(Q3P none 0 0 [] r1 0 Q02.none_ (zK _) (by omega) (by omega) 3 3 rfl (by kernel_rfl)).mono ?_;rintro _ r2 ⟨Ax,nx,cx,rfl,hb⟩;have HBZ:=sH (HBZ.out.trans (hb.mono HBZ.out.size));clear hb;go_wp2_with fail
 refine(Q0o r2).mono ?_;rintro _ s0 ⟨rfl,hb⟩;have HBZ:=sH (HBZ.out.trans (hb.mono HBZ.out.size));clear hb;go_wp2_with fail
 refine(Q0o s0).mono ?_;rintro _ s1 ⟨rfl,hb⟩;have HBZ:=sH (HBZ.out.trans (hb.mono HBZ.out.size));clear hb;go_wp2_with fail
 refine(Q0o s1).mono ?_;rintro _ s2 ⟨rfl,hb⟩;have HBZ:=sH (HBZ.out.trans (hb.mono HBZ.out.size));clear hb;go_wp2_with fail
 refine(Q0o s2).mono ?_;rintro _ s3 ⟨rfl,hb⟩;have HBZ:=sH (HBZ.out.trans (hb.mono HBZ.out.size));clear hb;go_wp2_with fail
 refine(Q0o s3).mono ?_;rintro _ s4 ⟨rfl,hb⟩;have HBZ:=sH (HBZ.out.trans (hb.mono HBZ.out.size));clear hb;go_wp2_with (refine Great.wpList_buildSliceTo (o:=⟨some 220,_,_,_,_,_⟩) rfl 32 25 5 _ rfl s4.heap.size rfl (some 220) rfl Try.underlying32 rdC5 (by kernel_rfl) ?_)
 have hbl:zC s4.heap.size s4 (s4.alloc (.cells rdC5 25)):=(zH _ _).alloc (zG _) _;have HIN:=sH (rdC5_in (show Blk (s4.alloc (.cells rdC5 25)) s4.heap.size 25 rdC5 from Blk.newAt rfl));have HBZ:=sH (HBZ.out.trans (hbl.mono HBZ.out.size));clear hbl;refine(Q3p (some ⟨s4.heap.size,0,none⟩) 5 5 (List.replicate 5 Q0t) _ _ HIN.out (zG _) (by omega) 5 5 rfl (by kernel_rfl)).mono ?_;rintro _ t0 ⟨v0,rfl,hb⟩;have HBZ:=sH (HBZ.out.trans (hb.mono HBZ.out.size));clear hb HIN;go_wp2_with fail
 refine(Q0o t0).mono ?_;rintro _ t1 ⟨rfl,hb⟩;have HBZ:=sH (HBZ.out.trans (hb.mono HBZ.out.size));clear hb;go_wp2_with (refine Great.wpList_buildSliceTo (o:=⟨some 227,_,_,_,_,_⟩) rfl 32 25 2 _ rfl t1.heap.size rfl (some 227) rfl Try.underlying32 rdC2 (by kernel_rfl) ?_)
 have hbl:zC t1.heap.size t1 (t1.alloc (.cells rdC2 25)):=(zH _ _).alloc (zG _) _;have HIN:=sH (rdC2_in (show Blk (t1.alloc (.cells rdC2 25)) t1.heap.size 25 rdC2 from Blk.newAt rfl));have HBZ:=sH (HBZ.out.trans (hbl.mono HBZ.out.size));clear hbl;refine(Q3p (some ⟨t1.heap.size,0,none⟩) 2 2 [Q0t,Q0k] _ _ HIN.out (zG _) (by omega) 2 2 rfl (by kernel_rfl)).mono ?_;rintro _ t2 ⟨v1,rfl,hb⟩;have HBZ:=sH (HBZ.out.trans (hb.mono HBZ.out.size));clear hb HIN;go_wp2_with fail
 refine(Q0o t2).mono ?_;rintro _ t3 ⟨rfl,hb⟩;have HBZ:=sH (HBZ.out.trans (hb.mono HBZ.out.size));clear hb;obtain⟨DZ,hDZ⟩:∃ D,D=zD:=⟨_,rfl⟩;have HDE:=sH hDZ;have HDS:=sH (show DZ.size=32 by rw [hDZ]; exact Q2B);have HDO:=sH (show DZ.all (·.oneCell')=true by rw [hDZ]; exact Q3s);clear hDZ;go_wp2_with fail
 refine(Q2r none Q0t none 0 0 none 0 0 t3 0 (.inl rfl) (Q0q rfl rfl (by decide) _ _) (zK _) 1 (by decide)).mono ?_;rintro _ t4 ⟨rfl,hb⟩;have HBZ:=sH (HBZ.out.trans (hb.mono HBZ.out.size));clear hb;rw [<- HDE.out];go_upto_region 64 with(refine Q01 (o:=⟨none,_,_,_,_,_⟩) rfl 38 (.tmp 32) (.tmp 234) rfl t4.heap.size 0 DZ rfl rfl 38 _ (Blk.newAt rfl) (by rw [HDS.out]; kernel_rfl) (by rw [HDS.out]; simp) HDO.out ?_; intro t5 hT hD)
 have hb:zC t4.heap.size t4 t5:=hT.below ((zH _ _).alloc (zG _) _) (zG _);have HBZ:=sH (HBZ.out.trans (hb.mono HBZ.out.size));clear hb hT hD;have hbl:zC t5.heap.size t5 (t5.alloc (.cells #[.map none,.map none,.int .i64 0] 51)):=(zH _ _).alloc (zG _) _;have HNB:=sH (show NoBk (t5.alloc (.cells #[.map none,.map none,.int .i64 0] 51)) (some ⟨t5.heap.size,0,none⟩) from .inr ⟨_,rfl,by simp,(Blk.newAt rfl).cell 0⟩);have HBZ:=sH (HBZ.out.trans (hbl.mono HBZ.out.size));clear hbl;go_wp2_with fail
 refine(Q1g (some ⟨t5.heap.size,0,none⟩) _ HNB.out).mono ?_;rintro _ t6 ⟨rfl,hb⟩;have HBZ:=sH (HBZ.out.trans (hb.mono HBZ.out.size));clear hb;rw [<- HDE.out];go_upto_region 65 with(refine Q01 (o:=⟨none,_,_,_,_,_⟩) rfl 38 (.tmp 34) (.tmp 240) rfl t6.heap.size 0 DZ rfl rfl 38 _ (Blk.newAt rfl) (by rw [HDS.out]; kernel_rfl) (by rw [HDS.out]; simp) HDO.out ?_; intro t7 hT hD)
 have hb:zC t6.heap.size t6 t7:=hT.below ((zH _ _).alloc (zG _) _) (zG _);have HBZ:=sH (HBZ.out.trans (hb.mono HBZ.out.size));clear hb hT hD;go_wp2_with fail
 refine(Q2r none Q0k none 0 0 none 0 0 t7 0 (.inl rfl) (Q0q rfl rfl (by decide) _ _) (zK _) 2 (by decide)).mono ?_;rintro _ t8 ⟨rfl,hb⟩;have HBZ:=sH (HBZ.out.trans (hb.mono HBZ.out.size));clear hb;rw [<- HDE.out];go_upto_region 66 with(refine Q01 (o:=⟨none,_,_,_,_,_⟩) rfl 38 (.tmp 36) (.tmp 245) rfl t8.heap.size 0 DZ rfl rfl 38 _ (Blk.newAt rfl) (by rw [HDS.out]; kernel_rfl) (by rw [HDS.out]; simp) HDO.out ?_; intro t9 hT hD)
 have hb:zC t8.heap.size t8 t9:=hT.below ((zH _ _).alloc (zG _) _) (zG _);have HBZ:=sH (HBZ.out.trans (hb.mono HBZ.out.size));clear hb hT hD;go_wp2_with fail
 refine(Q3z t9).mono ?_;rintro _ z0 ⟨rfl,hb⟩;have HBZ:=sH (HBZ.out.trans (hb.mono HBZ.out.size));clear hb;go_wp2_with fail
 refine(Q0o z0).mono ?_;rintro _ z1 ⟨rfl,hb⟩;have HBZ:=sH (HBZ.out.trans (hb.mono HBZ.out.size));clear hb;go_wp2_with fail
 refine(Q0o z1).mono ?_;rintro _ z2 ⟨rfl,hb⟩;have HBZ:=sH (HBZ.out.trans (hb.mono HBZ.out.size));clear hb;go_wp2_with fail
 refine(Q1L Q0t Q0t none 0 0 none 0 0 none 0 0 none 0 0 z2 0 (Q0q rfl rfl (by decide) _ _) (Q0q rfl rfl (by decide) _ _) (zK _)).mono ?_;rintro _ z3 ⟨rfl,hb⟩;have HBZ:=sH (HBZ.out.trans (hb.mono HBZ.out.size));clear hb;rw [show Q2w Q0t Q0t=true by decide];go_wp2_with fail
 refine(Q0o z3).mono ?_;rintro _ z4 ⟨rfl,hb⟩;have HBZ:=sH (HBZ.out.trans (hb.mono HBZ.out.size));clear hb;go_wp2_with fail
 refine(Q2y z4).mono ?_;rintro _ z5 ⟨As,cs,rfl,hse,hb⟩;have HSE:=sH hse;have HBZ:=sH (HBZ.out.trans (hb.mono HBZ.out.size));clear hb hse;go_wp2_with fail
 refine(Q1L Q0t Q0S none 0 0 none 0 0 none 0 0 As 4 cs z5 _ (Q0q rfl rfl (by decide) _ _) HSE.out (zG _)).mono ?_;rintro _ z6 ⟨rfl,hb⟩;have HBZ:=sH (HBZ.out.trans (hb.mono HBZ.out.size));clear hb;rw [show Q2w Q0t Q0S=false by decide];go_wp2_with fail
 go_ret
 exact⟨rfl,HBZ.out⟩
end
end Go.Proofs.Ytckjnbjiafgibaa
