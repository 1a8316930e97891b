/- Parts of the proof, in one text. -/
import Derived.Test.YtckjnbjiafgibaaK3
import Derived.Great.Walk
import Derived.Test.YtckjnbjiafgibaaK1
import Derived.Laws.IdiomStrings
import Derived.Laws.BytesArg
import Derived.Laws.StructEq
namespace Go.Proofs.Ytckjnbjiafgibaa
set_option linter.unusedVariables false
set_option linter.unusedSimpArgs false
set_option maxRecDepth 100000
set_option maxHeartbeats 16000000
open _root_.Array renaming getElem?_eq_none->zH
open _root_.Go renaming Addr->zA,World->zB,Value->zC,Calls->zJ
open _root_.Go.Result renaming andThen_ok->zI
open _root_.Go.RowKit renaming Below->zF
open _root_.Go.RowKit.Below renaming refl->zL
open _root_.Go.Value renaming int->zQ
open _root_.Go.World renaming alloc->zS
open _root_.List renaming getElem?_eq_getElem->zE,getElem?_append_left->zM,getElem?_append_right->zN,take_of_length_le->zP,take_succ_eq_append_getElem->zR
open _root_.Nat renaming lt_or_ge->zG,le_refl->zK,zero_add->zO
section
open Go.RowKit
def ubGo:Nat->RdS->List Wish->List Wish×Nat
 | 0,s,acc=>if rdE s=0 then(acc,0) else([],rdE s)
 | k+1,s,acc =>if (rdT s 256).2.2=0 then(if (Q0C (rdT s 256).1).2=0 then ubGo k (rdT s 256).2 (acc++[(Q0C (rdT s 256).1).1]) else([],(Q0C (rdT s 256).1).2)) else([],(rdT s 256).2.2)
def Q1y (b:List UInt8):List Wish×Nat:=ubGo (rdM (b,0) 4).1 (rdM (b,0) 4).2 []
structure Q0j (w:zB) (N:Nat->Prop) (x:Wish) (A:Option zA) (n c:Nat) (A':Option zA) (n' c':Nat):Prop where
 is:Q0c w w.heap.size x A n c A' n' c'
 one:∀ a,0<n->A=some a->¬ N a.block
 two:∀ a,0<n'->A'=some a->¬ N a.block
theorem Q2l {w w':zB} {size n:Nat} {A:Option zA} {xs:List zC} {N:Nat->Prop} (h:Q02 w w.heap.size size A n xs) (hs:w.heap.size<=w'.heap.size) (ha:∀ a,0<n->A=some a->¬ N a.block) (hk:∀ i,i<w.heap.size->¬ N i->w'.heap[i]?=w.heap[i]?):Q02 w' w'.heap.size size A n xs :=⟨h.1,fun h0=>by obtain⟨ad,hA,hb,hc⟩:=h.2 h0;exact⟨ad,hA,by omega,fun j u hu=>(World.cell?_of_block (hk _ (by rw [Q0a]; exact hb) (by rw [Q0a]; exact ha ad h0 hA))).trans (hc j u hu)⟩⟩
theorem Q0j.keep {w w':zB} {N:Nat->Prop} {x:Wish} {A:Option zA} {n c:Nat} {A':Option zA} {n' c':Nat} (h:Q0j w N x A n c A' n' c') (hs:w.heap.size<=w'.heap.size) (hk:∀ i,i<w.heap.size->¬ N i->w'.heap[i]?=w.heap[i]?):Q0j w' N x A n c A' n' c' :=⟨⟨Q2l h.is.data hs h.one hk,h.is.dc,h.is.dm,Q2l h.is.next hs h.two hk,h.is.nc,h.is.nm,h.is.rng⟩,h.one,h.two⟩
theorem Q0j.mono {w:zB} {N N':Nat->Prop} {x:Wish} {A:Option zA} {n c:Nat} {A':Option zA} {n' c':Nat} (h:Q0j w N x A n c A' n' c') (hN:∀ b,N' b->N b\/w.heap.size<=b):Q0j w N' x A n c A' n' c':=by
 refine⟨h.is,fun a h0 ha hn=>?_,fun a h0 ha hn=>?_⟩
 ·obtain⟨ad,hA,hb,_⟩:=h.is.data.2 h0;rw [hA] at ha; injection ha with ha; subst ha
  rcases hN _ hn with e | e
  ·exact h.one ad h0 hA e
  omega
 obtain⟨ad,hA,hb,_⟩:=h.is.next.2 h0;rw [hA] at ha; injection ha with ha; subst ha
 rcases hN _ hn with e | e
 ·exact h.two ad h0 hA e
 omega
structure OwnW (w:zB) (B2:Nat) (N:Nat->Prop) (v:zC) (l:List Wish) (es:List (Array zC)):Prop where
 len:es.length=l.length
 row:w.ownsRow B2 25 10 v l.length (es.map (·.toList)).flatten
 each:∀ (k:Nat) (x:Wish),l[k]?=some x->∃ A n c A' n' c',es[k]?=some (Q00 x A n c A' n' c')/\Q0j w N x A n c A' n' c'
theorem Q0z {w:zB} {B b n s:Nat} {e:TypeId} {v:zC} {vs:List zC} (h:w.ownsRow B e s v n vs) (hb:v.ownBlock=some b):B<=b/\b<w.heap.size:=by
 rcases h.2 with⟨rfl,_⟩ | ⟨g,cap,cur,rfl,hg,hh,_⟩
 ·simp [Value.ownBlock] at hb
 simp [Value.ownBlock] at hb; subst hb;refine⟨hg,?_⟩;rcases zG g w.heap.size with h | h
 ·exact h
 rw [zH h] at hh; cases hh
theorem Q33 {w w':zB} {B:Nat} {e:TypeId} {s n:Nat} {lv:zC} {vs:List zC} (h:w.ownsRow B e s lv n vs) (hk:∀ b,lv.ownBlock=some b->w'.heap[b]?=w.heap[b]?):w'.ownsRow B e s lv n vs:=by
 refine⟨h.1,?_⟩;rcases h.2 with h0 | ⟨g,cap,cur,rfl,hg,hh,h1⟩
 ·exact .inl h0
 exact .inr ⟨g,cap,cur,rfl,hg,(hk g rfl).trans hh,h1⟩
theorem OwnW.keep {w w':zB} {B2:Nat} {N:Nat->Prop} {v:zC} {l:List Wish} {es:List (Array zC)} (h:OwnW w B2 N v l es) (hs:w.heap.size<=w'.heap.size) (hk:∀ i,i<w.heap.size->¬ N i->w'.heap[i]?=w.heap[i]?) (hv:∀ b,v.ownBlock=some b->w'.heap[b]?=w.heap[b]?):OwnW w' B2 N v l es :=⟨h.len,Q33 h.row hv,fun k x hx=>by obtain⟨A,n,c,A',n',c',h1,h2⟩:=h.each k x hx;exact⟨A,n,c,A',n',c',h1,h2.keep hs hk⟩⟩
theorem Q3l:∀ (es:List (Array zC)) (k j:Nat) (a:Array zC) (v:zC),(∀ e,e∈es->e.size=10)->es[k]?=some a->a[j]?=some v->(es.map (·.toList)).flatten[10*k+j]?=some v
 | [],k,j,a,v,_,hk,_=>by simp at hk
 | e :: es,0,j,a,v,hs,hk,hj=>by
  simp at hk;subst hk;have hlt:j<e.size:=by
   rcases zG j e.size with h | h
   ·exact h
   rw [zH h] at hj; cases hj
  rw [List.map_cons,List.flatten_cons,Nat.mul_zero,zO,zM (by simpa using hlt),Array.getElem?_toList];exact hj
 | e :: es,k+1,j,a,v,hs,hk,hj=>by have h10:=hs e (by simp);rw [List.map_cons,List.flatten_cons,zN (by rw [Array.length_toList]; omega),Array.length_toList,show 10*(k+1)+j - e.size=10*k+j by omega];exact Q3l es k j a v (fun e' he=>hs e' (by simp [he])) (by simpa using hk) hj
theorem OwnW.wishes {w:zB} {B2:Nat} {N:Nat->Prop} {l:List Wish} {es:List (Array zC)} {A:Option zA} {n c:Nat} (h:OwnW w B2 N (.slice A n c) l es):n=l.length/\n<=c/\Q18 w w.heap.size A n l:=by
 have hsz:∀ e,e∈es->e.size=10:=fun e he=>by
  obtain⟨k,hk,hk2⟩:=List.getElem_of_mem he;have hl:=h.len;obtain⟨A1,n1,c1,A2,n2,c2,h1,_⟩:=h.each k l[k] (zE (by omega));rw [zE hk,hk2] at h1;injection h1 with h1
  rw [h1]; rfl
 rcases h.row.2 with⟨e,h0⟩ | ⟨g,cap,cur,e,hg,hh,hnc,hcm,hcs,htk⟩
 ·injection e with e1 e2 e3
  exact⟨by omega,by omega,by omega,fun hp=>by omega⟩
 injection e with e1 e2 e3
 subst e1 e2 e3;refine⟨rfl,hnc,rfl,fun hp=>⟨_,rfl,?_,fun k x hx=>?_⟩⟩
 ·rcases zG g w.heap.size with h | h
  ·exact h
  rw [zH h] at hh; cases hh
 obtain⟨A1,n1,c1,A2,n2,c2,h1,h2⟩:=h.each k x hx;refine⟨A1,n1,c1,A2,n2,c2,fun j v hv=>?_,h2.is⟩;have:=Q3l es k j _ v hsz h1 hv;exact h.row.cells (g:=g) rfl _ v this
theorem Q3A (x:Wish) (A:Option zA) (n c:Nat) (A':Option zA) (n' c':Nat) :
 Array.foldl (fun(cs:Array zC) (x:zC×Nat)=>cs.setIfInBounds x.2 x.1) #[.int .i64 0,.int .i64 0,.int .i64 0,.int .i64 0,.int .i64 0,.int .i64 0,.slice none 0 0,.int .i64 0,.int .i64 0,.slice none 0 0]
  (Q00 x A n c A' n' c').zipIdx 0 10=Q00 x A n c A' n' c':=by
 unfold Q00;simp [List.zipIdx]
theorem Q45:(Try.prog.info? 25).map (fun i=>(i.zero,i.size,i.bytes))=some (some (.agg (Q00 Q0k none 0 0 none 0 0)),10,112):=by kernel_rfl
theorem Q2T (w:zB) (cs:Array zC) (t:TypeId) (h:cs.size=10):Q02 (w.alloc (.cells cs t)) (w.heap.size+1) 10 (some ⟨w.heap.size,0,none⟩) 1 cs.toList:=by obtain⟨_,h2⟩:=Q04 w cs t;refine⟨by simp [h],fun _=>?_⟩;obtain⟨ad,h3,h4,h5⟩:=h2 (by omega);exact⟨ad,h3,h4,h5⟩
theorem Q0j.carry {w w':zB} {N N':Nat->Prop} {x:Wish} {A:Option zA} {n c:Nat} {A':Option zA} {n' c':Nat} (h:Q0j w N x A n c A' n' c') (hN:∀ b,N' b->N b\/w.heap.size<=b) (hs:w.heap.size<=w'.heap.size) (hk:∀ i,i<w.heap.size->¬ N i->w'.heap[i]?=w.heap[i]?):Q0j w' N' x A n c A' n' c':=by
 have h1:Q0j w (fun b=>N b\/N' b) x A n c A' n' c':=h.mono fun b hb=>hb.elim .inl (hN b)
 have h2:=h1.keep hs fun i hi hn=>hk i hi fun e=>hn (.inl e)
 exact⟨h2.is,fun a h0 ha e=>h2.one a h0 ha (.inr e),fun a h0 ha e=>h2.two a h0 ha (.inr e)⟩
theorem RdAt.carry {w w':zB} {g:Nat} {N N':Nat->Prop} {s:RdS} (h:RdAt w g N s) (hN:∀ b,N' b->N b\/w.heap.size<=b) (hs:w.heap.size<=w'.heap.size) (hg:w'.heap[g]?=w.heap[g]?) (hk:∀ i,i<w.heap.size->¬ N i->w'.heap[i]?=w.heap[i]?):RdAt w' g N' s:=by
 have h1:RdAt w g (fun b=>N b\/N' b) s:=h.mono fun b hb=>hb.elim .inl (hN b)
 obtain⟨he,A,n,c,k1,k2,k3,k4,k5⟩:=h1.keep hg hs fun i hi hn=>hk i hi fun e=>hn (.inl e)
 exact⟨he,A,n,c,k1,k2,k3,k4,fun a h0 ha e=>k5 a h0 ha (.inr e)⟩
theorem OwnW.push {w w':zB} {B2:Nat} {N N':Nat->Prop} {v v':zC} {acc:List Wish} {es:List (Array zC)} {x:Wish} {A:Option zA} {n c:Nat} {A':Option zA} {n' c':Nat} (h:OwnW w B2 N v acc es) (hx:Q0j w N x A n c A' n' c')
 (hrow:w'.ownsRow B2 25 10 v' (acc.length+1) ((es.map (·.toList)).flatten++(Q00 x A n c A' n' c').toList)) (hg:w.grownBy w' v.ownBlock) (hN:∀ b,v.ownBlock=some b->N b) (hN':∀ b,N' b->N b\/w.heap.size<=b):OwnW w' B2 N' v' (acc++[x]) (es++[Q00 x A n c A' n' c']):=by
 have hk:∀ i,i<w.heap.size->¬ N i->w'.heap[i]?=w.heap[i]?:=fun i hi hn=>hg.block i hi (fun e=>hn (hN i e.symm))
 refine⟨by simp [h.len],?_,fun k y hy=>?_⟩
 ·rw [List.length_append,List.length_singleton,List.map_append,List.flatten_append];simpa using hrow
 rcases zG k acc.length with hlt | hge
 ·rw [zM hlt] at hy;obtain⟨A1,n1,c1,A2,n2,c2,h1,h2⟩:=h.each k y hy;refine⟨A1,n1,c1,A2,n2,c2,?_,h2.carry hN' hg.size hk⟩;rw [zM (by rw [h.len]; exact hlt)]; exact h1
 rw [zN hge] at hy;have hk0:k - acc.length=0:=by
  rcases Nat.eq_zero_or_pos (k - acc.length) with h | h
  ·exact h
  rw [List.getElem?_eq_none (by simp; omega)] at hy; cases hy
 rw [hk0] at hy;injection hy with hy
 subst hy;refine⟨A,n,c,A',n',c',?_,hx.carry hN' hg.size hk⟩;rw [zN (by rw [h.len]; exact hge),h.len,hk0]; rfl
theorem rdT_len (s:RdS) (most:Nat):(rdT s most).1.length<=most:=by
 unfold rdT;split
 ·exact Q3L _ _
 simp
theorem ub_bad1 {k:Nat} {s:RdS} {acc:List Wish} (h:(rdT s 256).2.2≠0):ubGo (k+1) s acc=([],(rdT s 256).2.2):=by unfold ubGo; rw [if_neg h]
theorem ub_bad2 {k:Nat} {s:RdS} {acc:List Wish} (h:(rdT s 256).2.2=0) (hp:(Q0C (rdT s 256).1).2≠0):ubGo (k+1) s acc=([],(Q0C (rdT s 256).1).2):=by unfold ubGo; rw [if_pos h,if_neg hp]
theorem ub_next {k:Nat} {s:RdS} {acc:List Wish} (h:(rdT s 256).2.2=0) (hp:(Q0C (rdT s 256).1).2=0):ubGo (k+1) s acc=ubGo k (rdT s 256).2 (acc++[(Q0C (rdT s 256).1).1]):=by show (if _ then _ else _)=_;rw [if_pos h,if_pos hp]
def Keeps (w:zB) (g:Nat) (A:Option zA) (n:Nat) (l:List Wish):Prop :=∀ W:zB,w.heap.size<=W.heap.size->(∀ i,i<w.heap.size->g<=i->W.heap[i]?=w.heap[i]?)->Q18 W W.heap.size A n l
theorem Q1X (w:zB) (g:Nat) (A:Option zA):Keeps w g A 0 []:=fun _ _ _=>⟨rfl,fun h=>absurd h (by omega)⟩
theorem rdE_err (s:RdS) (h:s.2<10):rdE s<10:=by
 unfold rdE;split
 ·omega
 exact h
theorem OwnW.keeps {w:zB} {B2 g:Nat} {l:List Wish} {es:List (Array zC)} {A:Option zA} {n c:Nat} (h:OwnW w B2 (fun b=>b<=g\/(Value.slice A n c).ownBlock=some b) (.slice A n c) l es) (hg:g<=B2):Keeps w g A n l:=fun W hs hk =>(h.keep hs (fun i hi hn=>hk i hi (by rcases zG i g with h1 | h1; exact absurd (.inl (by omega)) hn; exact h1)) (fun b hb=>hk b (Q0z h.row hb).2 (by have:=(Q0z h.row hb).1; omega))).wishes.2.2
section
attribute [local irreducible] Q0C rdT rdM rdE ubGo
theorem Q35 (A:Option zA) (n c:Nat) (xs:List UInt8) (w:zB) (B:Nat) (h:Q02 w B 1 A n (xs.map vb)) (hB:B<=w.heap.size) (hc:n<=c) (hn:n<=140737488355328) :
 zJ Try.prog 9 #[.slice A n c] w fun e w'=>∃ A1 n1 c1,e=.returned (.tuple #[.slice A1 n1 c1,.int .i64 ((Q1y xs).2:Int)])/\n1=(Q1y xs).1.length/\n1<=c1/\Keeps w' w.heap.size A1 n1 (Q1y xs).1/\zF w.heap.size w w':=by
 have H:=sH h;clear h;obtain⟨ub,hub⟩:∃ ub,ub=Q1y xs:=⟨_,rfl⟩;rw [<- hub];have HUB:=sH (fun(_:Unit)=>hub);clear hub;go_enter Try.func9,Try.ntmps9
 go_upto_region 3 with fail
 generalize hW:zS _ _=w1;have hb1:zF w.heap.size w w1:=by rw [<- hW]; exact(zL _ _).alloc (zK _) _
 have k1:Blk w1 w.heap.size 59 (Q29 A n c 0):=by rw [<- hW]; exact Blk.newAt rfl
 have hs1:w1.heap.size=w.heap.size+1:=by rw [<- hW]; simp
 clear hW;have hrd:RdAt w1 w.heap.size (fun b=>b=w.heap.size) (xs,0):=⟨by omega,A,n,c,k1,hc,hn,(H.out.below (hb1.mono hB)).more (by omega),fun a h0 ha hor=>by
  obtain⟨ad,hA,hb,_⟩:=H.out.2 h0;rw [hA] at ha;injection ha with ha
  subst ha;omega⟩
 have HRD:=sH hrd;have HB1:=sH hb1;clear hb1 k1 hrd;go_wp2_with fail
 refine(Q19 w.heap.size 4 (fun b=>b=w.heap.size) (xs,0) w1 HRD.out (fun b (hb:b=w.heap.size)=>by omega) rfl (by omega)).mono ?_;rintro _ w2 ⟨rfl,hr2,ho2⟩;have HB2:=sH (ho2.below HB1.out (by omega) (by omega));have HR2:=sH hr2;have hlt2:=hr2.lt;have hs2:=HB2.out.size;have hub2:ub=ubGo (rdM (xs,0) 4).1 (rdM (xs,0) 4).2 []:=by rw [HUB.out ()]; unfold Q1y; rfl
 have hm4:=Q3n (xs,0) 4;obtain⟨m,hm⟩:∃ m,m=(rdM (xs,0) 4).1:=⟨_,rfl⟩;obtain⟨s0,hs0⟩:∃ s0,s0=(rdM (xs,0) 4).2:=⟨_,rfl⟩;rw [<- hm] at hub2 hm4 ⊢;rw [<- hs0] at hub2 HR2;have HU2:=sH (fun(_:Unit)=>hub2);obtain⟨B2,hB2⟩:∃ B,B=w2.heap.size:=⟨_,rfl⟩;have hB2a:B2<=w2.heap.size:=by omega
 have hB2b:w2.heap.size<=B2:=by omega
 clear hr2 ho2 hub2 hm hs0 HUB HRD HB1 hB2;go_wp2_with fail
 go_loopw [5,15] (fun ov iv wr=>∃ (i:Nat) (st:RdS) (acc:List Wish) (es:List (Array zC)) (v:zC),v=ov/\i<=m/\iv=.int .i64 i/\acc.length=i/\(∀ _:Unit,ub=ubGo (m - i) st acc)/\RdAt wr w.heap.size (fun b=>b=w.heap.size\/ov.ownBlock=some b) st/\OwnW wr B2 (fun b=>b<=w.heap.size\/ov.ownBlock=some b) ov acc es/\zF w.heap.size w wr/\B2<=wr.heap.size) (fun _ iv _=>m - (intOf iv).toNat)
 case atStart=>exact⟨0,s0,[],[],_,rfl,by omega,rfl,rfl,HU2.out,HR2.out.mono (fun b hb=>.inl (by rcases hb with h | h; exact h; cases h)),⟨rfl,⟨rfl,.inl ⟨rfl,rfl⟩⟩,fun k x hx=>by simp at hx⟩,HB2.out,by omega⟩
 obtain⟨i,st,acc,es,ov,rfl,hi,rfl,hac,hu,hr,how,hb,hBl⟩:=hrel;have HU:=sH hu;have HR:=sH hr;have HOW:=sH how;have HB:=sH hb;have hlt:=hr.lt;have hs:=hb.size;clear hu hr how hb;by_cases him:i<m
 ·have hst:=Q1W w.heap.size 256 _ _ wr HR.out (by
   rintro b (rfl | hb)
   ·exact hlt
   exact(Q0z HOW.out.row hb).2) (.inl rfl) (by omega)
  obtain⟨k,hk⟩:∃ k,m - i=k+1:=⟨m - i - 1,by omega⟩;have hu1:∀ _:Unit,ub=ubGo (k+1) st acc:=fun u=>by rw [HU.out u,hk]
  have hw1:(rdT st 256).2.2≠0->∀ _:Unit,ub=([],(rdT st 256).2.2):=fun h u=>by rw [hu1 u,ub_bad1 h]
  have hw2:(rdT st 256).2.2=0->(Q0C (rdT st 256).1).2≠0->∀ _:Unit,ub=([],(Q0C (rdT st 256).1).2):=fun h hp u=>by rw [hu1 u,ub_bad2 h hp]
  have hw3:(rdT st 256).2.2=0->(Q0C (rdT st 256).1).2=0->∀ _:Unit,ub=ubGo k (rdT st 256).2 (acc++[(Q0C (rdT st 256).1).1]):=fun h hp u=>by rw [hu1 u,ub_next h hp]
  have hsl:=rdT_len st 256;generalize rdT st 256=t at hst hw1 hw2 hw3 hsl;obtain⟨s,st2⟩:=t;simp only at hst hw1 hw2 hw3 hsl;have HST:=sH hst;have HW1:=sH hw1;have HW2:=sH hw2;have HW3:=sH hw3;clear hst hu1 hw1 hw2 hw3;go_wp2_with fail
  refine HST.out.mono ?_;rintro _ w3 ⟨dv,rfl,hdv,hr3,ho3⟩;have HR3:=sH hr3;have HO3:=sH (HOW.out.keep ho3.size (fun i hi hn=>ho3.block i hi (fun e=>hn (.inl (by omega)))) (fun b hb=>ho3.block b (Q0z HOW.out.row hb).2 (by have:=(Q0z HOW.out.row hb).1; omega)));have HB3:=sH (ho3.below HB.out hs (by omega));have hs3:=ho3.size;obtain⟨RA,Rn,Rc,hrk,_⟩:=hr3.has;have c1:w3.cell? ⟨w.heap.size,1,none⟩=some (.int .i64 (st2.2:Int)):=(hrk.cell 1).trans rfl;obtain⟨Ad,cd,rfl,hcd,hcdm,hdr,hdB⟩:=Q05 hdv;have HDR:=sH hdr;clear hdv hr3 ho3 hrk hdr HR HOW HB HST;by_cases he:st2.2=0
  ·have he':(st2.2:Int)=0:=by omega
   have hpa:=Q3e Ad s.length cd s w3 _ HDR.out (zK _) hcd (by omega);have hw2:=HW2.out he;have hw3:=HW3.out he;generalize Q0C s=p at hpa hw2 hw3;obtain⟨x,e⟩:=p;simp only at hpa hw2 hw3;have HPA:=sH hpa;have HV2:=sH hw2;have HV3:=sH hw3;clear hpa hw2 hw3 HW1 HW2 HW3;go_wp2_with fail
   refine HPA.out.mono ?_;rintro _ w4 ⟨A1,n1,c1',A2,n2,c2',rfl,hwi,hb4,hf1,hf2⟩;have HWI:=sH hwi;have HB4:=sH hb4;have HF1:=sH hf1;have HF2:=sH hf2;clear hwi hb4 hf1 hf2 c1;go_upto_region 9 with(refine Q01 rfl 25 (.tmp 7) (.tmp 31) rfl w4.heap.size 0 (Q00 x A1 n1 c1' A2 n2 c2') rfl rfl 25 (Q00 Q0k none 0 0 none 0 0) (Blk.newAt rfl) (Q07 _ _ _ _ _ _ _) (by simp [Q00]) (Q06 _ _ _ _ _ _ _) ?_; intro w5 hT5 hD5; rw [Q0d _ _ (by simp [Q00])] at hD5)
   have hb5:zF w4.heap.size w4 w5:=hT5.below ((zL _ _).alloc (zK _) _) (zK _);have hb35:=HB4.out.trans (hb5.mono HB4.out.size);have HB5:=sH (HB3.out.trans (hb35.mono (by omega)));have HR5:=sH (HR3.out.below hb35);have HO5:=sH (HO3.out.keep hb35.size (fun i hi _=>hb35.block i hi) (fun b hb=>hb35.block b (Q0z HO3.out.row hb).2));have HW5:=sH (show Q0j w5 (fun b=>b<=w.heap.size\/ov.ownBlock=some b) x A1 n1 c1' A2 n2 c2' from⟨(HWI.out.below hb5).more hb5.size,fun a h0 ha hn=>by
    have h1:=HF1.out a h0 ha;rcases hn with h2 | h2
    ·omega
    ·have:=(Q0z HO3.out.row h2).2; omega,fun a h0 ha hn=>by
    have h1:=HF2.out a h0 ha;rcases hn with h2 | h2
    ·omega
    have:=(Q0z HO3.out.row h2).2; omega⟩)
   have HD5:=sH hD5;have hs5:=hb35.size;clear hT5 hD5 hb5 hb35 HWI HF1 HF2 HB4 HPA HR3 HO3 HB3;by_cases hep:e=0
   ·subst hep;have hq:=HV3.out rfl;have HQ:=sH hq;have HRW:=sH (show w5.ownsRow B2 25 10 ov i (es.map (·.toList)).flatten from hac▸HO5.out.row);clear hq HV2 HV3;obtain⟨i0,hi0,hz0,hz1,hz2⟩:=info_parts Q45;have hwz:(Q00 x A1 n1 c1' A2 n2 c2').size=10:=rfl;go_wp2_with (first
     | (at_builtin; (rw [Q3A]; refine Q0b _ rfl (.tmp 36) (.tmp 38) 32 rfl B2 25 i0 _ 10 112 Try.underlying32 hi0 hz0 hz1 hz2 rfl (by omega) ov i (es.map (·.toList)).flatten rfl ?row (w5.heap.size+1) (some ⟨w5.heap.size,0,none⟩) 1 1 (Q00 x A1 n1 c1' A2 n2 c2').toList rfl ?rd ?c1 ?c2 ?c3 ?c4 ?_))
     | (refine Q03 (o:=⟨some 37,_,_,_,_,_⟩) rfl 25 (.tmp 7) rfl w4.heap.size 0 10 rfl 25 _ (Q00 x A1 n1 c1' A2 n2 c2') _ HD5.out Try.underlying25 rfl rfl rfl (fun _ _=>by rw [zO]) ?_))
    case row=>exact Q33 HRW.out (fun b hb=>Below.heap_alloc _ _ b (Q0z HRW.out hb).2)
    case rd=>exact Q2T _ _ _ rfl
    case c1=>exact fun u hu=>List.all_eq_true.1 (by have:=Q06 x A1 n1 c1' A2 n2 c2'; rw [<- Array.all_toList] at this; exact this) u hu
    case c2=>unfold maxLen; omega
    case c3=>omega
    case c4=>simp; omega
    intro v6 w6 hown6 hg6 hor6;obtain⟨o6,ho6⟩:∃ o,o=Obj.cells (Q00 x A1 n1 c1' A2 n2 c2') 25:=⟨_,rfl⟩;rw [<- ho6] at hg6;have hsz6:(w5.alloc o6).heap.size=w5.heap.size+1:=by simp
    rw [<- hsz6] at hor6;have hal:zF w5.heap.size w5 (w5.alloc o6):=(zL _ _).alloc (zK _) _;have hN:∀ b,ov.ownBlock=some b->(b<=w.heap.size\/ov.ownBlock=some b):=fun b hb=>.inr hb
    have hN':∀ b,(b<=w.heap.size\/v6.ownBlock=some b)->(b<=w.heap.size\/ov.ownBlock=some b)\/(w5.alloc o6).heap.size<=b:=fun b hb=>by
     rcases hb with hb | hb
     ·exact .inl (.inl hb)
     rcases hor6 with e | e
     ·exact .inl (.inr (e▸hb))
     rw [e] at hb; injection hb with hb; exact .inr (by omega)
    have hN2:∀ b,(b=w.heap.size\/v6.ownBlock=some b)->(b=w.heap.size\/ov.ownBlock=some b)\/(w5.alloc o6).heap.size<=b:=fun b hb=>by
     rcases hb with hb | hb
     ·exact .inl (.inl hb)
     rcases hor6 with e | e
     ·exact .inl (.inr (e▸hb))
     rw [e] at hb; injection hb with hb; exact .inr (by omega)
    have hge6:∀ b,ov.ownBlock=some b->B2<=b:=fun b hb=>(Q0z HRW.out hb).1
    have hgs6:=hg6.size;have HO6:=sH (OwnW.push (N':=fun b=>b<=w.heap.size\/v6.ownBlock=some b) (HO5.out.keep hal.size (fun i hi _=>hal.block i hi) (fun b hb=>hal.block b (Q0z HO5.out.row hb).2)) (HW5.out.keep hal.size (fun i hi _=>hal.block i hi)) (hac▸hown6) hg6 hN hN');have hkeep6:∀ i,i<(w5.alloc o6).heap.size->¬ (i=w.heap.size\/ov.ownBlock=some i)->w6.heap[i]?=(w5.alloc o6).heap[i]?:=fun i hi hn=>hg6.block i hi (fun e=>hn (.inr e.symm))
    have HR6:=sH (RdAt.carry (N':=fun b=>b=w.heap.size\/v6.ownBlock=some b) (HR5.out.below hal) hN2 hgs6 (hg6.block _ (by omega) (fun e=>by have:=hge6 _ e.symm; omega)) hkeep6);have HB6:=sH (Q0y ((HB5.out.trans (hal.mono (by omega)))) (by omega) hg6 (fun b hb=>by have:=hge6 b hb; omega));have hlast:B2<=w6.heap.size:=by omega
    clear hown6 hg6 hor6 hal hN hN' hN2 hkeep6;go_wp2_with fail
    go_roundw
    case rel=>exact⟨i+1,st2,acc++[x],es++[Q00 x A1 n1 c1' A2 n2 c2'],v6,rfl,by omega,by go_num,by simp [hac],fun u=>by rw [HQ.out u,show m - (i+1)=k by omega],HR6.out,HO6.out,HB6.out,hlast⟩
    case measure=>simp [intOf]; omega
   have he'':¬ (e:Int)=0:=by omega
   have hq:=HV2.out hep ();subst hq;go_wp2_with fail
   go_ret2
   exact⟨none,0,0,rfl,rfl,zK _,Q1X _ _ _,HB5.out⟩
  have he':¬ (st2.2:Int)=0:=by omega
  have hq:=HW1.out he ();subst hq;go_wp2_with fail
  go_quiet (fail)
  go_wp2_with fail
  go_ret2
  exact⟨none,0,0,rfl,rfl,zK _,Q1X _ _ _,Q0h HB3.out _⟩
 obtain rfl:i=m:=by omega
 have hu0:∀ _:Unit,ub=if rdE st=0 then(acc,0) else([],rdE st):=fun u=>by rw [HU.out u,Nat.sub_self]; unfold ubGo; rfl
 have HU0:=sH hu0;have hend:=Q1w w.heap.size _ st wr HR.out (.inl rfl);have hec:=rdE_err st HR.out.err;generalize rdE st=ec at hend HU0 hec;clear hu0 HU HR;go_wp2_with fail
 refine hend.mono ?_;rintro _ w3 ⟨rfl,hr3,ho3⟩;have HB3:=sH (ho3.below HB.out hs (by omega));have HO3:=sH (HOW.out.keep ho3.size (fun i hi hn=>ho3.block i hi (fun e=>hn (.inl (by omega)))) (fun b hb=>ho3.block b (Q0z HOW.out.row hb).2 (by have:=(Q0z HOW.out.row hb).1; omega)));clear hend hr3 ho3 HOW HB;by_cases he:ec=0
 ·have hq:=HU0.out ();rw [if_pos he] at hq;subst hq;subst he;obtain⟨A1,c1,rfl⟩:=Q1H HO3.out.row;go_wp2_with fail
  go_ret2
  have hx1:=HO3.out.wishes.2.1;have hx2:=HO3.out.keeps (g:=w.heap.size) (by omega);rw [hac] at hx1 hx2;exact⟨A1,_,c1,rfl,rfl,hx1,hx2,HB3.out⟩
 have he':¬ (ec:Int)=0:=by omega
 have hq:=HU0.out ();rw [if_neg he] at hq;subst hq;go_wp2_with fail
 go_ret2
 exact⟨none,0,0,rfl,rfl,zK _,Q1X _ _ _,HB3.out⟩
end
theorem Q2z {P:Program} {ops:Array Oper} {rest:List Oper} {o:Oper} {a:Act} {w:zB} {Q:Exit->Act->zB->Prop} (hw:Region.wanted o (yielded ops a.tmps)=true)
 (h:∀ K:Act->zB->Prop,(∀ a w,wpList P ops Q rest a w->K a w)->o.wp P a w K Q):wpList P ops Q (o :: rest) a w :=
 wpList_step fun K hK=>by rw [if_pos hw];exact h K hK
theorem Q08 {P:Program} {ops:Array Oper} {rest:List Oper} {o:Oper} {a:Act} {w:zB} {Q:Exit->Act->zB->Prop} (hw:Region.wanted o (yielded ops a.tmps)=true) (ty:TypeId) (x:Operand) (ho:o.op=.load ty x)
 (g off n:Nat) (hx:a.eval x=.pointer (some ⟨g,off,none⟩)) (t:TypeId) (cs vs:Array zC) (d:TypeDesc) (hB:Blk w g t cs)
 (hu:P.underlying ty=some d) (hd:(match d with | .struct _ | .array _ _=>true | _=>false)=true) (hi:(P.info? ty).map (·.size)=some n)
 (hn:vs.size=n) (hv:∀ j,j<n->cs[off+j]?=vs[j]?)
 (h:wpList P ops Q rest (a.put o.dst (.agg vs)) w):wpList P ops Q (o :: rest) a w :=
 Q2z hw fun _ hK=>Q0J ty x ho g off n hx t cs vs d hB hu hd hi hn hv (hK _ _ h)
theorem Q1U {W:zB} {B size n:Nat} {A:Option zA} {xs:List zC} (h:Q02 W B size A n xs) (g i:Nat) (v:zC) (hne:∀ a,A=some a->a.block≠g):Q02 (W.setCell ⟨g,i,none⟩ v) B size A n xs :=⟨h.1,fun h0=>by obtain⟨ad,hA,hb,hc⟩:=h.2 h0;exact⟨ad,hA,hb,fun j u hu=>(World.cell?_of_block (Below.heap_setCell W ⟨g,i,none⟩ v _ (by rw [Q0a]; exact hne ad hA))).trans (hc j u hu)⟩⟩
def Q1d:Wish:=⟨33,9007199254740991,2,1048576,2,7,[0,0,0,0,0,0,0,0,0,0,0,0,0,0,0,0],0,0,[]⟩
def lessK:Wish:=⟨33,9007199254740991,2,1048576,2,7,[0,0,0,0,0,0,0,0,0,0,0,0,0,0,0],0,0,[]⟩
def askK:Wish:=⟨34,1,0,0,3,2,[],0,0,[]⟩
def Q2e:Wish:=⟨34,1,0,0,4,1,[],28,1,[]⟩
def Q40:Wish:=⟨34,1,0,0,4,1,[],28,28,[]⟩
def Q3O:Wish:=⟨34,1,0,0,3,3,[],0,0,[]⟩
def Q44:Wish:=⟨34,1,1,0,3,2,[],0,0,[]⟩
def lateK:Wish:=⟨34,1,0,1,3,2,[],0,0,[]⟩
def seal1K:Wish:=⟨0,0,1,0,5,0,[],0,0,[28]⟩
def seal7K:Wish:=⟨0,0,1,0,5,0,[],0,0,[1,2,3,4,5,6,28]⟩
def knR:Nat->Wish
 | 0=>⟨30,5,1,0,1,3,[],0,0,[]⟩
 | 1=>⟨35,5,1,0,1,3,[],0,0,[]⟩
 | 2=>⟨31,0,1,0,1,3,[],0,0,[]⟩
 | 3=>⟨31,9007199254740992,1,0,1,3,[],0,0,[]⟩
 | 4=>⟨31,5,0,0,1,3,[],0,0,[]⟩
 | 5=>⟨31,5,3,0,1,3,[],0,0,[]⟩
 | 6=>⟨31,5,1,0,1,8,[],0,0,[]⟩
 | 7=>⟨31,5,1,0,1,-1,[],0,0,[]⟩
 | 8=>⟨31,5,1,-1,1,3,[],0,0,[]⟩
 | 9=>⟨31,5,1,0,0,3,[],0,0,[]⟩
 | 10=>⟨31,5,1,0,6,3,[],0,0,[]⟩
 | _=>⟨31,5,1,0,1,3,[],0,0,[]⟩
def knS:Nat->Wish
 | 11=>⟨31,0,2,1,5,0,[],0,0,[1,2,3,4]⟩
 | 12=>⟨0,1,2,1,5,0,[],0,0,[1,2,3,4]⟩
 | 13=>⟨0,0,2,1,5,0,[],0,0,[1,2]⟩
 | 14=>⟨0,0,2,1,5,0,[],0,0,[1,2,2,3]⟩
 | 15=>⟨0,0,2,1,5,0,[],0,0,[0,1,2,3]⟩
 | 16=>⟨0,0,2,1,5,0,[],0,0,[29]⟩
 | 17=>⟨0,0,0,1,5,0,[],0,0,[1,2,3,4]⟩
 | _=>⟨0,0,2,1,5,0,[],0,0,[1,2,3,4]⟩
theorem kn_bad:∀ i,i<18->mayB (knR i)=false\/(mayB (knR i)=true/\mayB (knS i)=false):=by decide
def RngW (x:Wish):Prop:=I64 x.client/\I64 x.stamp/\I64 x.group/\I64 x.epoch/\I64 x.kind/\I64 x.block/\I64 x.old/\I64 x.new/\∀ z,z∈x.next->I64 z
instance (z:Int):Decidable (I64 z):=by unfold I64; exact inferInstance
instance (x:Wish):Decidable (RngW x):=by unfold RngW; exact inferInstance
theorem Q3i:∀ i,i<18->(knR i).data=[]/\(knR i).next=[]/\RngW (knR i):=by decide
theorem Q1k:∀ i,i<18->(knS i).data=[]/\RngW (knS i):=by decide
theorem Q0q {x:Wish} (hd:x.data=[]) (hn:x.next=[]) (hr:RngW x) (W:zB) (B:Nat):Q0c W B x none 0 0 none 0 0 :=⟨by rw [hd]; exact Q02.none_,zK _,by omega,by rw [hn]; exact Q02.none_,zK _,by omega,hr⟩
theorem Q3m {x:Wish} (hd:x.data=[]) (hr:RngW x) {W:zB} {B n c:Nat} {A:Option zA} (h:Q02 W B 1 A n (x.next.map vn)) (hc:n<=c) (hm:n<=100):Q0c W B x none 0 0 A n c :=⟨by rw [hd]; exact Q02.none_,zK _,by omega,h,hc,by omega,hr⟩
def KnW (w:zB) (g3 g4 i:Nat) (W:zB):Prop:=∃ A n c,Blk W g3 25 (Q00 (knR i) none 0 0 none 0 0)/\Blk W g4 25 (Q00 (knS i) none 0 0 A n c)/\Q0c W W.heap.size (knS i) none 0 0 A n c/\zF w.heap.size w W
theorem KnW.one {w W:zB} {g3 g4 i f:Nat} {A:Option zA} {c:Nat} {v:zC} (k3:Blk W g3 25 (Q00 Q0t none 0 0 none 0 0)) (k4:Blk W g4 25 (Q00 Q0S none 0 0 A 4 c)) (hi:Q0c W W.heap.size Q0S none 0 0 A 4 c) (hb:zF w.heap.size w W)
 (h3:w.heap.size<=g3) (hne:g4≠g3) (ha:∀ a,A=some a->a.block≠g3) (hR:(Q00 Q0t none 0 0 none 0 0).setIfInBounds f v=Q00 (knR i) none 0 0 none 0 0) (hS:knS i=Q0S):KnW w g3 g4 i (W.setCell ⟨g3,f,none⟩ v):=by
 refine⟨A,4,c,hR▸k3.set_ f v,?_,?_,hb.setCell (p:=⟨g3,f,none⟩) h3 v⟩
 ·rw [hS]; exact k4.far (p:=⟨g3,f,none⟩) hne v
 rw [hS];exact⟨Q02.none_,zK _,by omega,(Q1U hi.next g3 f v ha).more (by simp [World.setCell]),hi.nc,hi.nm,hi.rng⟩
theorem KnW.two {w W:zB} {g3 g4 i f:Nat} {A:Option zA} {c:Nat} {v:zC} (k3:Blk W g3 25 (Q00 Q0t none 0 0 none 0 0)) (k4:Blk W g4 25 (Q00 Q0S none 0 0 A 4 c)) (hi:Q0c W W.heap.size Q0S none 0 0 A 4 c) (hb:zF w.heap.size w W)
 (h4:w.heap.size<=g4) (hne:g3≠g4) (ha:∀ a,A=some a->a.block≠g4) (hS:(Q00 Q0S none 0 0 A 4 c).setIfInBounds f v=Q00 (knS i) none 0 0 A 4 c) (hn:(knS i).next=Q0S.next) (hd:(knS i).data=[]) (hr:RngW (knS i)) (hR:knR i=Q0t):KnW w g3 g4 i (W.setCell ⟨g4,f,none⟩ v):=by
 refine⟨A,4,c,?_,hS▸k4.set_ f v,Q3m hd hr (by rw [hn]; exact(Q1U hi.next g4 f v ha).more (by simp [World.setCell])) hi.nc (by omega),hb.setCell (p:=⟨g4,f,none⟩) h4 v⟩;rw [hR]; exact k3.far (p:=⟨g4,f,none⟩) hne v
theorem KnW.list {w W:zB} {g3 g4 i n:Nat} {A:Option zA} {c:Nat} {cs:Array zC} (k3:Blk W g3 25 (Q00 Q0t none 0 0 none 0 0)) (k4:Blk W g4 25 (Q00 Q0S none 0 0 A 4 c)) (hb:zF w.heap.size w W)
 (h4:w.heap.size<=g4) (hne:g3≠g4) (hS:(Q00 Q0S none 0 0 A 4 c).setIfInBounds 9 (.slice (some ⟨W.heap.size,0,none⟩) n n)=Q00 (knS i) none 0 0 (some ⟨W.heap.size,0,none⟩) n n) (hcs:cs=((knS i).next.map vn).toArray) (hl:(knS i).next.length=n) (hn:n<=100) (hd:(knS i).data=[]) (hr:RngW (knS i)) (hR:knR i=Q0t) :
 KnW w g3 g4 i ((W.setCell ⟨g4,9,none⟩ (.slice (some ⟨W.heap.size,0,none⟩) n n)).alloc (.cells cs 3)):=by
 have hlt:=k4.lt;have hrd:=Q04 (W.setCell ⟨g4,9,none⟩ (.slice (some ⟨W.heap.size,0,none⟩) n n)) cs 3;have hsz:cs.size=n:=by rw [hcs]; simp [hl]
 have htl:cs.toList=(knS i).next.map vn:=by rw [hcs]
 have hws:(W.setCell ⟨g4,9,none⟩ (.slice (some ⟨W.heap.size,0,none⟩) n n)).heap.size=W.heap.size:=by simp [World.setCell]
 rw [hsz,htl,hws] at hrd;refine⟨some ⟨W.heap.size,0,none⟩,n,n,?_,hS▸(k4.set_ 9 _).alloc _,Q3m hd hr (hrd.more (by simp [hws])) (zK _) hn,(hb.setCell (p:=⟨g4,9,none⟩) h4 _).alloc (by rw [hws]; exact hb.size) _⟩;rw [hR]; exact(k3.far (p:=⟨g4,9,none⟩) hne _).alloc _
theorem Q0Z {xs:List Int} {k:Nat} {u:zC} (h:(xs.map vn)[k]?=some u):∃ (hk:k<xs.length),u=.int .i64 xs[k]:=by
 rw [List.getElem?_map] at h;rcases zG k xs.length with hk | hk
 ·rw [zE hk] at h;injection h with h
  exact⟨hk,h.symm⟩
 rw [List.getElem?_eq_none hk] at h; cases h
theorem Q3y (A B:Option zA) (n m c d:Nat) (xs ys:List Int) (w:zB) (Bx By:Nat) (ha:Q02 w Bx 1 A n (xs.map vn)) (hb:Q02 w By 1 B m (ys.map vn)) (hn:n<=maxLen) (hm:m<=maxLen) :
 zJ Try.prog 47 #[.slice A n c,.slice B m d] w fun e w'=>e=.returned (.bool (decide (xs=ys)))/\∃ k,w'=w.drewN k:=by
 have hlx:xs.length=n:=by have:=ha.1; simpa using this
 have hly:ys.length=m:=by have:=hb.1; simpa using this
 unfold maxLen at hn hm;by_cases hnm:n=m
 ·subst hnm;go_enter Try.func47,Try.ntmps47
  go_wp2
  go_loopw [5] (fun i wr=>∃ k q:Nat,k<=n/\i=.int .i64 k/\xs.take k=ys.take k/\wr=w.drewN q) (fun i _=>n - (intOf i).toNat)
  case atStart=>exact⟨0,0,Nat.zero_le _,rfl,by simp,rfl⟩
  obtain⟨k,q,hk,rfl,heq,rfl⟩:=hrel;have HE:=sH heq;clear heq;by_cases hlt:k<n
  ·obtain⟨ad,u,rfl,_,hx,hcx⟩:=ha.at_ hlt;obtain⟨bd,v,rfl,_,hy,hcy⟩:=hb.at_ hlt;obtain⟨hk1,rfl⟩:=Q0Z hx;obtain⟨hk2,rfl⟩:=Q0Z hy;clear hx hy ha hb;by_cases hne:xs[k]=ys[k]
   ·have hz:(xs[k] != ys[k])=false:=by simp [hne]
    have HN:=sH hne;clear hne
    go_wp2
    go_quiet (fail)
    go_wp2
    go_roundw
    case rel=>exact⟨k+1,_,by omega,by go_num,by rw [zR hk1,zR hk2,HE.out,HN.out],rfl⟩
    case measure=>simp [intOf]; omega
   have hz:(xs[k] != ys[k])=true:=by rw [bne_iff_ne]; intro e; exact hne e
   have HN:=sH hne;clear hne
   go_wp2
   go_quiet (fail)
   go_wp2
   go_ret
   exact⟨Q0n (by have:=HN.out; symm; rw [decide_eq_false_iff_not]; rintro rfl; exact this rfl),_,World.drewN_drewN _ _ _⟩
  have hkn:k=n:=by omega
  have HK:=sH hkn;clear hkn
  go_wp2
  go_ret
  exact⟨Q0n (by symm; rw [decide_eq_true_iff]; have h1:=HE.out; rw [HK.out] at h1; rwa [zP (by omega),zP (by omega)] at h1),q,rfl⟩
 have h0:((n:Int) != (m:Int))=true:=by rw [bne_iff_ne]; omega
 have HN:=sH hnm;clear hnm;go_enter Try.func47,Try.ntmps47
 go_wp2
 go_ret
 exact⟨Q0n (by symm; rw [decide_eq_false_iff_not]; rintro rfl; exact HN.out (by omega)),0,rfl⟩
def Q2w (x y:Wish):Bool:=decide (x.client=y.client/\x.stamp=y.stamp/\x.group=y.group/\x.epoch=y.epoch/\x.kind=y.kind/\x.block=y.block/\x.data=y.data/\x.old=y.old/\x.new=y.new/\x.next=y.next)
theorem Q3J (x y:Wish):Q2w x y=true <-> x=y:=by
 unfold Q2w;rw [decide_eq_true_iff];cases x
 cases y
 simp
end
section
open Go.RowKit
attribute [local irreducible] wpList
theorem Q37 (x y:Wish) (A:Option zA) (n c:Nat) (A':Option zA) (n' c':Nat) (D:Option zA) (m d:Nat) (D':Option zA) (m' d':Nat) (w:zB) (B:Nat) (hx:Q0c w B x A n c A' n' c') (hy:Q0c w B y D m d D' m' d') (hB:B<=w.heap.size) :
 zJ Try.prog 40 #[.agg (Q00 x A n c A' n' c'),.agg (Q00 y D m d D' m' d')] w fun e w'=>e=.returned (.bool (Q2w x y))/\zF w.heap.size w w':=by
 have HEB:=sH (fun W (hb:zF w.heap.size w W)=>Q1i A D n m c d x.data y.data W B B (hx.data.below (hb.mono hB)) (hy.data.below (hb.mono hB)) (by have:=hx.dm; unfold maxLen; omega) (by have:=hy.dm; unfold maxLen; omega));have HEI:=sH (fun W (hb:zF w.heap.size w W)=>Q3y A' D' n' m' c' d' x.next y.next W B B (hx.next.below (hb.mono hB)) (hy.next.below (hb.mono hB)) (by have:=hx.nm; unfold maxLen; omega) (by have:=hy.nm; unfold maxLen; omega));clear hx hy;obtain⟨xc,xs,xg,xe,xk,xb,xd,xo,xn,xt⟩:=x;obtain⟨yc,ys,yg,ye,yk,yb,yd,yo,yn,yt⟩:=y;simp only at HEB HEI;unfold Q00 Q2w;simp only;go_enter Try.func40,Try.ntmps40
 go_upto_region 1 with fail
 have hX:zF w.heap.size w ((w.alloc (.cells #[.int .i64 xc,.int .i64 xs,.int .i64 xg,.int .i64 xe,.int .i64 xk,.int .i64 xb,.slice A n c,.int .i64 xo,.int .i64 xn,.slice A' n' c'] 25)).alloc (.cells #[.int .i64 yc,.int .i64 ys,.int .i64 yg,.int .i64 ye,.int .i64 yk,.int .i64 yb,.slice D m d,.int .i64 yo,.int .i64 yn,.slice D' m' d'] 25)):=((zL _ _).alloc (zK _) _).alloc (by simp) _;have k1:Blk ((w.alloc (.cells #[.int .i64 xc,.int .i64 xs,.int .i64 xg,.int .i64 xe,.int .i64 xk,.int .i64 xb,.slice A n c,.int .i64 xo,.int .i64 xn,.slice A' n' c'] 25)).alloc (.cells #[.int .i64 yc,.int .i64 ys,.int .i64 yg,.int .i64 ye,.int .i64 yk,.int .i64 yb,.slice D m d,.int .i64 yo,.int .i64 yn,.slice D' m' d'] 25)) w.heap.size 25 _:=(Blk.new w _ _).alloc _;have k2:Blk ((w.alloc (.cells #[.int .i64 xc,.int .i64 xs,.int .i64 xg,.int .i64 xe,.int .i64 xk,.int .i64 xb,.slice A n c,.int .i64 xo,.int .i64 xn,.slice A' n' c'] 25)).alloc (.cells #[.int .i64 yc,.int .i64 ys,.int .i64 yg,.int .i64 ye,.int .i64 yk,.int .i64 yb,.slice D m d,.int .i64 yo,.int .i64 yn,.slice D' m' d'] 25)) (w.heap.size+1) 25 _:=Blk.newAt (by simp);generalize zS _ _=w1 at hX k1 k2 ⊢;have c0:=k1.cell 0;have c1:=k1.cell 1;have c2:=k1.cell 2;have c3:=k1.cell 3;have c4:=k1.cell 4;have c5:=k1.cell 5;have c6:=k1.cell 6;have c7:=k1.cell 7;have c8:=k1.cell 8;have c9:=k1.cell 9;have d0:=k2.cell 0;have d1:=k2.cell 1;have d2:=k2.cell 2;have d3:=k2.cell 3;have d4:=k2.cell 4;have d5:=k2.cell 5;have d6:=k2.cell 6;have d7:=k2.cell 7;have d8:=k2.cell 8;have d9:=k2.cell 9;simp only [List.getElem?_toArray,List.getElem?_cons_zero,List.getElem?_cons_succ] at c0 c1 c2 c3 c4 c5 c6 c7 c8 c9 d0 d1 d2 d3 d4 d5 d6 d7 d8 d9;have HB:=sH hX;have HE1:=sH (HEB.out w1 hX);have HE2:=sH (fun q=>HEI.out (w1.drewN q) (Q0h HB.out q));clear k1 k2 hX HEB HEI;obtain⟨g1,hg1⟩:∃ g,g=w.heap.size:=⟨_,rfl⟩;obtain⟨g3,hg3⟩:∃ g,g=w.heap.size+1:=⟨_,rfl⟩;rw [<- hg1] at c0 c1 c2 c3 c4 c5 c6 c7 c8 c9;rw [<- hg3] at d0 d1 d2 d3 d4 d5 d6 d7 d8 d9 ⊢;rw [<- hg1];clear hg1 hg3;go_wp2_with (first
  | (go_at_call 27; refine HE1.out.mono ?_; rintro _ _ ⟨rfl,q,rfl⟩)
  | (go_at_call 47; refine(HE2.out _).mono ?_; rintro _ _ ⟨rfl,q2,rfl⟩))
 all_goals go_ret
 all_goals refine⟨Q0n ?_,by first | exact HB.out | exact Q0h HB.out _ | exact Q0h (Q0h HB.out _) _⟩
 all_goals clear HB HE1 HE2 c0 c1 c2 c3 c4 c5 c6 c7 c8 c9 d0 d1 d2 d3 d4 d5 d6 d7 d8 d9
 all_goals rw [Bool.eq_iff_iff]
 all_goals simp_all
end
section
open Go.RowKit
theorem Q0G {P:Program} {ops:Array Oper} {rest:List Oper} {o:Oper} {a:Act} {w:zB} {Q:Exit->Act->zB->Prop} (hw:Region.wanted o (yielded ops a.tmps)=true) (ty:TypeId) (x:Operand) (ho:o.op=.load ty x)
 (g off n:Nat) (hx:a.eval x=.pointer (some ⟨g,off,none⟩)) (t:TypeId) (cs vs:Array zC) (d:TypeDesc) (hB:Blk w g t cs)
 (hu:P.underlying ty=some d) (hd:(match d with | .struct _ | .array _ _=>true | _=>false)=true) (hi:(P.info? ty).map (·.size)=some n)
 (hn:vs.size=n) (hv:∀ j,j<n->cs[off+j]?=vs[j]?)
 (h:wpList P ops Q rest (a.put o.dst (.agg vs)) w):wpList P ops Q (o :: rest) a w:=by
 unfold wpList;rw [if_pos hw];exact .inl (Q0J ty x ho g off n hx t cs vs d hB hu hd hi hn hv h)
theorem Q0o (w:zB):zJ Try.prog 4 #[] w fun e w'=>e=.returned (.agg (Q00 Q0t none 0 0 none 0 0))/\zF w.heap.size w w':=by
 go_enter Try.func4,Try.ntmps4
 go_wp2_with (refine Q01 rfl 25 (.tmp 0) (.tmp 1) rfl w.heap.size 0 (Q00 Q0t none 0 0 none 0 0) rfl rfl 25 (Q00 Q0k none 0 0 none 0 0) (Blk.newAt rfl) (Q07 _ _ _ _ _ _ _) (by simp [Q00]) (Q06 _ _ _ _ _ _ _) ?_; intro w11 hT10 hD10; rw [Q0d _ _ (by simp [Q00])] at hD10)
 refine bodyPost_ret (Q0I rfl _ _ w.heap.size 10 25 _ _ rfl hD10 Try.underlying25 rfl rfl rfl) rfl ⟨rfl,hT10.below ((zL _ _).alloc (zK _) _) (zK _)⟩
theorem Q2y (w:zB):zJ Try.prog 5 #[] w fun e w'=>∃ A c,e=.returned (.agg (Q00 Q0S none 0 0 A 4 c))/\Q0c w' w'.heap.size Q0S none 0 0 A 4 c/\zF w.heap.size w w':=by
 go_enter Try.func5,Try.ntmps5
 go_wp2_with fail
 have hk:Blk ((w.alloc (.cells #[.int .i64 0,.int .i64 0,.int .i64 2,.int .i64 1,.int .i64 5,.int .i64 0,.slice none 0 0,.int .i64 0,.int .i64 0,.slice (some ⟨w.heap.size+1,0,none⟩) 4 4] 25)).alloc (.cells #[.int .i64 1,.int .i64 2,.int .i64 3,.int .i64 4] 3)) w.heap.size 25 _:=(Blk.new w _ _).alloc _;have hb:zF w.heap.size w ((w.alloc (.cells #[.int .i64 0,.int .i64 0,.int .i64 2,.int .i64 1,.int .i64 5,.int .i64 0,.slice none 0 0,.int .i64 0,.int .i64 0,.slice (some ⟨w.heap.size+1,0,none⟩) 4 4] 25)).alloc (.cells #[.int .i64 1,.int .i64 2,.int .i64 3,.int .i64 4] 3)):=((zL _ _).alloc (zK _) _).alloc (by simp) _;have hr:=Q04 (w.alloc (.cells #[.int .i64 0,.int .i64 0,.int .i64 2,.int .i64 1,.int .i64 5,.int .i64 0,.slice none 0 0,.int .i64 0,.int .i64 0,.slice (some ⟨w.heap.size+1,0,none⟩) 4 4] 25)) #[.int .i64 1,.int .i64 2,.int .i64 3,.int .i64 4] 3;have hs:(w.alloc (.cells #[.int .i64 0,.int .i64 0,.int .i64 2,.int .i64 1,.int .i64 5,.int .i64 0,.slice none 0 0,.int .i64 0,.int .i64 0,.slice (some ⟨w.heap.size+1,0,none⟩) 4 4] 25)).heap.size=w.heap.size+1:=by simp
 rw [hs] at hr;refine bodyPost_ret (Q0I rfl _ _ w.heap.size 10 25 _ _ rfl hk Try.underlying25 rfl rfl rfl) rfl ⟨some ⟨w.heap.size+1,0,none⟩,4,rfl,⟨Q02.none_,zK _,by omega,hr.more (by simp),zK _,by omega,by unfold I64 Q0S; simp⟩,hb⟩
theorem Q1T (A:Option zA) (c:Nat) (w:zB) (B:Nat) (h:Q02 w B 1 A 1 ([0].map vb)) (hB:B<=w.heap.size) (hc:1<=c) :
 zJ Try.prog 9 #[.slice A 1 c] w fun e w'=>e=.returned (.tuple #[.slice none 0 0,.int .i64 0])/\zF w.heap.size w w':=by
 have H:=sH h;clear h;go_enter Try.func9,Try.ntmps9
 go_wp2_with fail
 have hX:zF w.heap.size w (w.alloc (.cells #[.slice A 1 c,.int .i64 0] 59)):=(zL _ _).alloc (zK _) _;have hrd:RdAt (w.alloc (.cells #[.slice A 1 c,.int .i64 0] 59)) w.heap.size (fun b=>b=w.heap.size) ([0],0):=⟨by omega,A,1,c,Blk.newAt rfl,hc,by omega,(H.out.below (hX.mono hB)).more (by simp; omega),fun a h0 ha e=>by
  obtain⟨ad,hA,hb,_⟩:=H.out.2 h0;rw [hA] at ha;injection ha with ha
  subst ha;omega⟩
 refine(Q19 w.heap.size 4 _ _ _ hrd (by rintro b rfl; simp) rfl (by omega)).mono ?_;have hm:rdM ([0],0) 4=(0,([],0)):=by have h1:rdN (numB 0++[],0)=(0,([],0)):=Q24 (by unfold maxN; omega) [];rw [Q1q] at h1;unfold rdM;rw [show (([0]:List UInt8),0)=(([0]++[]:List UInt8),0) from rfl,h1];rfl
 rw [hm];rintro _ w2 ⟨rfl,hr2,ho2⟩;have HR2:=sH hr2;have HB2:=sH (ho2.below hX (by simp) (zK _));have hs2:=ho2.size;clear hX hrd hm hr2 ho2;go_wp2_with fail
 go_loopw [5,15] (fun ov iv wr=>ov=.slice none 0 0/\iv=.int .i64 0/\w2=wr) (fun _ _ _=>0)
 case atStart=>exact⟨rfl,rfl,rfl⟩
 obtain⟨rfl,rfl,rfl⟩:=hrel;go_wp2_with fail
 refine(Q1w w.heap.size _ _ w2 HR2.out rfl).mono ?_;rw [show rdE (([]:List UInt8),0)=0 from rfl];rintro _ w3 ⟨rfl,hr3,ho3⟩;have HB3:=sH (ho3.below HB2.out HB2.out.size (zK _));clear hr3 ho3;go_wp2_with fail
 go_ret2
 exact⟨rfl,HB3.out⟩
theorem is_any (x:Wish) (A:Option zA) (n c:Nat) (A':Option zA) (n' c':Nat) (D:Option zA) (m d:Nat) (bs:List UInt8) (w:zB) (B:Nat) (h:Q0c w B x A n c A' n' c') (hr:Q02 w B 1 D m (bs.map vb)) (hB:B<=w.heap.size) (hd:m<=d) (hm:m<=1000) (hx:mayB x=true) (hbs:Q0s x=bs) :
 zJ Try.prog 26 #[.agg (Q00 x A n c A' n' c'),.slice D m d] w fun e w'=>e=.returned (.bool true)/\zF w.heap.size w w':=by
 have hps:Q0C bs=(x,0):=by rw [<- hbs]; exact parse_of hx
 have H:=sH h;have HR:=sH hr;have hX:zF w.heap.size w (w.alloc (.cells (Q00 x A n c A' n' c') 25)):=(zL _ _).alloc (zK _) _;have hk0:Blk (w.alloc (.cells (Q00 x A n c A' n' c') 25)) w.heap.size 25 (Q00 x A n c A' n' c'):=Blk.newAt rfl;have hby:=Q28 x A n c A' n' c' (w.alloc (.cells (Q00 x A n c A' n' c') 25)) B (h.below (hX.mono hB)) (by simp; omega);rw [if_pos hx,if_pos hx,hbs] at hby;have HBY:=sH hby;have HPS:=sH (fun(_:Unit)=>hps);have HX:=sH hX;have HK0:=sH hk0;clear h hr hps hX hk0 hby;go_enter Try.func26,Try.ntmps26
 go_wp2_with (refine Q03 rfl 25 (.tmp 2) rfl w.heap.size 0 10 rfl 25 _ (Q00 x A n c A' n' c') _ HK0.out Try.underlying25 rfl rfl rfl (fun _ _=>by rw [zO]) ?_)
 refine HBY.out.mono ?_;rintro _ w2 ⟨bv,rfl,hob,hb2⟩;have HB2:=sH (HX.out.trans (hb2.mono (by simp)));have HK2:=sH (HK0.out.under hb2);have HOB:=sH (hob.more (B':=w.heap.size) (by simp));have hs2:=HB2.out.size;clear hob hb2;go_wp2_with fail
 refine(Q2U D m d bs w2 B (HR.out.below (HB2.out.mono hB)) (by omega) hd (by omega)).mono ?_;rw [HPS.out ()];rintro _ w3 ⟨A1,n1,c1,A2,n2,c2,rfl,hwi,hb3⟩;have HW3:=sH hwi;have HB3:=sH (HB2.out.trans (hb3.mono hs2));have HK3:=sH (HK2.out.under hb3);have HO3:=sH (HOB.out.below hb3);have hs3:=HB3.out.size;clear hwi hb3;go_upto_region 3 with(refine Q01 rfl 25 (.tmp 7) (.tmp 17) rfl w3.heap.size 0 (Q00 x A1 n1 c1 A2 n2 c2) rfl rfl 25 (Q00 Q0k none 0 0 none 0 0) (Blk.newAt rfl) (Q07 _ _ _ _ _ _ _) (by simp [Q00]) (Q06 _ _ _ _ _ _ _) ?_; intro w4 hT4 hD4; rw [Q0d _ _ (by simp [Q00])] at hD4)
 have hb4:zF w3.heap.size w3 w4:=hT4.below ((zL _ _).alloc (zK _) _) (zK _);have HB4:=sH (HB3.out.trans (hb4.mono hs3));have HK4:=sH (HK3.out.under hb4);have HO4:=sH (HO3.out.below hb4);have HD4:=sH hD4;have HW4:=sH ((HW3.out.below hb4).more hb4.size);have hs4:=HB4.out.size;clear hT4 hD4 hb4;obtain⟨Ab,cb,rfl,hbc,hbm,hbr,hbB⟩:=Q05 HO4.out;have hml:m=bs.length:=by have:=HR.out.1; simp at this; omega
 have heq:=Q1i Ab D bs.length m cb d bs bs w4 _ _ hbr (HR.out.below (HB4.out.mono hB)) (by unfold maxLen; omega) (by unfold maxLen; omega);rw [decide_eq_true rfl] at heq;have HEQ:=sH heq;have HSM:=sH (fun W (hb:zF w4.heap.size w4 W)=>Q37 x x A1 n1 c1 A2 n2 c2 A n c A' n' c' W w4.heap.size (HW4.out.below hb) ((H.out.below ((HB4.out.trans (hb.mono hs4)).mono hB)).more (by omega)) hb.size);clear heq hbr hml;go_wp2_with fail
 refine HEQ.out.mono ?_;rintro _ w5 ⟨rfl,q,hq⟩;have hb5:zF w4.heap.size w4 w5:=hq▸Q0h (zL _ _) q;have HB5:=sH (HB4.out.trans (hb5.mono hs4));have HK5:=sH (HK4.out.under hb5);have HD5:=sH (HD4.out.under hb5);have hsm:=HSM.out w5 hb5;rw [(Q3J x x).2 rfl] at hsm;have HS5:=sH hsm;have hs5:=HB5.out.size;clear hq hb5 hsm;go_wp2_with (first
  | (refine Q0G rfl 25 (.tmp 7) rfl w3.heap.size 0 10 rfl 25 _ (Q00 x A1 n1 c1 A2 n2 c2) _ HD5.out Try.underlying25 rfl rfl rfl (fun _ _=>by rw [zO]) ?_)
  | (refine Q0G rfl 25 (.tmp 2) rfl w.heap.size 0 10 rfl 25 _ (Q00 x A n c A' n' c') _ HK5.out Try.underlying25 rfl rfl rfl (fun _ _=>by rw [zO]) ?_))
 refine HS5.out.mono ?_;rintro _ w6 ⟨rfl,hb6⟩;have HB6:=sH (HB5.out.trans (hb6.mono hs5));clear hb6;go_wp2_with fail
 go_ret
 exact⟨rfl,HB6.out⟩
theorem Q3z (w:zB):zJ Try.prog 13 #[] w fun e w'=>e=.returned (.bool true)/\zF w.heap.size w w':=by
 go_enter Try.func13,Try.ntmps13
 go_wp2_with fail
 have hbn:=Q1Z none 0 0 [] w 0 ⟨rfl,fun h=>absurd h (by omega)⟩ (Nat.zero_le _) (by omega);have hb0:Q2E []=([0],0):=by unfold Q2E Q1A; simp [Q1q]
 rw [hb0] at hbn;refine hbn.mono ?_;rintro _ w1 ⟨bv,rfl,hob,hb1⟩;have HB1:=sH hb1;have HO1:=sH hob;have hs1:=hb1.size;clear hbn hb0 hob hb1;go_wp2_with fail
 have hX2:zF w1.heap.size w1 (w1.alloc (.cells #[.int .u8 0] 5)):=(zL _ _).alloc (zK _) _;refine(Q1T _ 1 _ _ (Q04 w1 #[.int .u8 0] 5) (by simp) (zK _)).mono ?_;rintro _ w2 ⟨rfl,hb2⟩;have HB2:=sH (HB1.out.trans (((hX2.trans (hb2.mono (by simp))):zF w1.heap.size w1 w2).mono hs1));have HO2:=sH (HO1.out.below (hX2.trans (hb2.mono (by simp))));have hs2:=HB2.out.size;clear hX2 hb2;go_wp2_with fail
 refine(Q0o w2).mono ?_;rintro _ w3 ⟨rfl,hb3⟩;have HB3:=sH (HB2.out.trans (hb3.mono hs2));have HO3:=sH (HO2.out.below hb3);have hs3:=HB3.out.size;clear hb3;go_wp2_with fail
 have hX4:zF w3.heap.size w3 (w3.alloc (.cells #[.int .u8 1,.int .u8 1,.int .u8 1,.int .u8 31,.int .u8 1,.int .u8 5,.int .u8 1,.int .u8 1,.int .u8 0,.int .u8 1,.int .u8 3,.int .u8 0,.int .u8 0,.int .u8 0,.int .u8 0] 5)):=(zL _ _).alloc (zK _) _;have hr4:=Q04 w3 #[.int .u8 1,.int .u8 1,.int .u8 1,.int .u8 31,.int .u8 1,.int .u8 5,.int .u8 1,.int .u8 1,.int .u8 0,.int .u8 1,.int .u8 3,.int .u8 0,.int .u8 0,.int .u8 0,.int .u8 0] 5;refine(is_any Q0t none 0 0 none 0 0 _ 15 15 _ _ (w3.heap.size+1) ⟨Q02.none_,zK _,by omega,Q02.none_,zK _,by omega,by unfold I64 Q0t; simp⟩ hr4 (by simp) (by omega) (by omega) read_may Q3G).mono ?_;rintro _ w4 ⟨rfl,hb4⟩;have hb34:=hX4.trans (hb4.mono (by simp));have HB4:=sH (HB3.out.trans (hb34.mono hs3));have HO4:=sH (HO3.out.below hb34);have hs4:=HB4.out.size;clear hX4 hr4 hb4 hb34;go_wp2_with fail
 refine(Q2y w4).mono ?_;rintro _ w5 ⟨As,cs,rfl,hws,hb5⟩;have HB5:=sH (HB4.out.trans (hb5.mono hs4));have HO5:=sH (HO4.out.below hb5);have HW5:=sH hws;have hs5:=HB5.out.size;clear hb5 hws;go_wp2_with fail
 have hX6:zF w5.heap.size w5 (w5.alloc (.cells #[.int .u8 1,.int .u8 5,.int .u8 0,.int .u8 0,.int .u8 1,.int .u8 2,.int .u8 1,.int .u8 1,.int .u8 0,.int .u8 0,.int .u8 0,.int .u8 0,.int .u8 1,.int .u8 4,.int .u8 1,.int .u8 1,.int .u8 1,.int .u8 2,.int .u8 1,.int .u8 3,.int .u8 1,.int .u8 4] 5)):=(zL _ _).alloc (zK _) _;have hr6:=Q04 w5 #[.int .u8 1,.int .u8 5,.int .u8 0,.int .u8 0,.int .u8 1,.int .u8 2,.int .u8 1,.int .u8 1,.int .u8 0,.int .u8 0,.int .u8 0,.int .u8 0,.int .u8 1,.int .u8 4,.int .u8 1,.int .u8 1,.int .u8 1,.int .u8 2,.int .u8 1,.int .u8 3,.int .u8 1,.int .u8 4] 5;refine(is_any Q0S none 0 0 As 4 cs _ 22 22 _ _ (w5.heap.size+1) ((HW5.out.below hX6).more (by omega)) hr6 (by simp) (by omega) (by omega) seal_may Q3D).mono ?_;rintro _ w6 ⟨rfl,hb6⟩;have hb56:=hX6.trans (hb6.mono (by simp));have HB6:=sH (HB5.out.trans (hb56.mono hs5));have HO6:=sH (HO5.out.below hb56);have hs6:=HB6.out.size;clear hX6 hr6 hb6 hb56;obtain⟨Ab,cb,rfl,hbc,hbm,hbr,hbB⟩:=Q05 HO6.out;have HBR:=sH hbr;clear hbr;go_wp2_with fail
 have hX7:zF w6.heap.size w6 (w6.alloc (.cells #[.int .u8 0] 5)):=(zL _ _).alloc (zK _) _;have hr7:Q02 (w6.alloc (.cells #[.int .u8 0] 5)) (w6.heap.size+1) 1 (some ⟨w6.heap.size,0,none⟩) 1 (([0]:List UInt8).map vb):=Q04 w6 #[.int .u8 0] 5;have heq:=Q1i Ab _ 1 1 cb 1 [0] [0] _ _ _ (HBR.out.below hX7) hr7 (by unfold maxLen; omega) (by unfold maxLen; omega);rw [decide_eq_true rfl] at heq;refine heq.mono ?_;rintro _ w7 ⟨rfl,q,hq⟩;have HB7:=sH (HB6.out.trans ((hq▸Q0h hX7 q:zF w6.heap.size w6 w7).mono hs6));clear hX7 hr7 heq hq;go_wp2_with fail
 go_ret
 exact⟨rfl,HB7.out⟩
end
section
open Go.RowKit Go.Maps
def zD:Array zC:=#[.int .u8 0,.int .u8 0,.int .u8 0,.int .u8 0,.int .u8 0,.int .u8 0,.int .u8 0,.int .u8 0,.int .u8 0,.int .u8 0,.int .u8 0,.int .u8 0,.int .u8 0,.int .u8 0,.int .u8 0,.int .u8 0,.int .u8 0,.int .u8 0,.int .u8 0,.int .u8 0,.int .u8 0,.int .u8 0,.int .u8 0,.int .u8 0,.int .u8 0,.int .u8 0,.int .u8 0,.int .u8 0,.int .u8 0,.int .u8 0,.int .u8 0,.int .u8 0]
theorem Q2B:zD.size=32:=rfl
theorem Q3s:zD.all (·.oneCell')=true:=by kernel_rfl
def NoBk (w:zB) (p:Option zA):Prop:=p=none\/∃ g,p=some ⟨g,0,none⟩/\g<w.heap.size/\w.cell? ⟨g,0,none⟩=some (.map none)
theorem NoBk.below {w w':zB} {p:Option zA} (h:NoBk w p) (hb:zF w.heap.size w w'):NoBk w' p:=by
 rcases h with rfl | ⟨g,rfl,hg,hc⟩
 ·exact .inl rfl
 exact .inr ⟨g,rfl,Nat.lt_of_lt_of_le hg hb.size,(hb.cell (by show g<_; exact hg)).trans hc⟩
theorem Q3f (w:zB) (p:Option zA) (h:NoBk w p):zJ Try.prog 37 #[.pointer p] w fun e w'=>e=.returned (.bool true)/\w=w':=by
 have hmn:=run_eql_map_nil (P:=Try.prog) w 43 38 9 none Try.underlying43;rcases h with rfl | ⟨g,rfl,_,c0⟩
 all_goals
  go_enter Try.func37,Try.ntmps37
  go_wp2
  go_ret
  exact⟨rfl,rfl⟩
theorem Q2p (p:Option zA) (v:zC) (w:zB) (h:NoBk w p) :
 zJ Try.prog 25 #[.pointer p,v] w fun e w'=>e=.returned (.tuple #[.agg zD,.int .i64 1])/\zF w.heap.size w w':=by
 have hz:zD.size=32:=Q2B;have ho:zD.all (·.oneCell')=true:=Q3s;have he:zD=#[.int .u8 0,.int .u8 0,.int .u8 0,.int .u8 0,.int .u8 0,.int .u8 0,.int .u8 0,.int .u8 0,.int .u8 0,.int .u8 0,.int .u8 0,.int .u8 0,.int .u8 0,.int .u8 0,.int .u8 0,.int .u8 0,.int .u8 0,.int .u8 0,.int .u8 0,.int .u8 0,.int .u8 0,.int .u8 0,.int .u8 0,.int .u8 0,.int .u8 0,.int .u8 0,.int .u8 0,.int .u8 0,.int .u8 0,.int .u8 0,.int .u8 0,.int .u8 0]:=rfl;have HZ:=sH hz;have HO:=sH ho;have HE:=sH he;clear hz ho he;generalize zD=zd at HZ HO HE ⊢;have hX:zF w.heap.size w (w.alloc (.cells zd 38)):=(zL _ _).alloc (zK _) _;have HN:=sH (fun W hb=>Q3f W p (h.below hb));have HX:=sH hX;clear h hX;go_enter Try.func25,Try.ntmps25
 go_wp2_with fail
 refine(HN.out _ ((zL _ _).alloc (zK _) _)).mono ?_;rintro _ _ ⟨rfl,rfl⟩;go_wp2_with (refine Q01 rfl 38 (.tmp 4) _ rfl w.heap.size 0 zd rfl (by rw [HE.out]; rfl) 38 zd (by rw [HE.out]; exact Blk.newAt rfl) (by rw [HZ.out]; rfl) (by rw [HZ.out]; simp) HO.out ?_; intro W5 hT5 hB5; rw [Q0d _ _ rfl] at hB5)
 refine bodyPost_ret (Q0g rfl _ _ w.heap.size 32 38 _ _ rfl hB5 Try.underlying38 rfl rfl HZ.out) rfl ⟨rfl,?_⟩;have:=HX.out;rw [HE.out] at this;exact hT5.below this (zK _)
theorem Q2j (p:Option zA) (x:Wish) (A:Option zA) (n c:Nat) (A':Option zA) (n' c':Nat) (w:zB) (B:Nat) (hbk:NoBk w p) (h:Q0c w B x A n c A' n' c') (hB:B<=w.heap.size) :
 zJ Try.prog 11 #[.pointer p,.agg (Q00 x A n c A' n' c')] w fun e w'=>e=.returned (.tuple #[.agg zD,.int .i64 (if mayB x=true then 1 else 2)])/\zF w.heap.size w w':=by
 have hX:zF w.heap.size w ((w.alloc (.cells (Q00 x A n c A' n' c') 25)).alloc (.cells zD 38)):=((zL _ _).alloc (zK _) _).alloc (by simp) _;have hk0:Blk ((w.alloc (.cells (Q00 x A n c A' n' c') 25)).alloc (.cells zD 38)) (w.heap.size+1) 38 zD:=Blk.newAt (by simp);have HBT:=sH (fun W (hb:zF w.heap.size w W)=>Q28 x A n c A' n' c' W B (h.below (hb.mono hB)) (by have:=hb.size; omega));have HOF:=sH (fun W v (hb:zF w.heap.size w W)=>Q2p p v W (hbk.below hb));have HZ:=sH (show zD=#[.int .u8 0,.int .u8 0,.int .u8 0,.int .u8 0,.int .u8 0,.int .u8 0,.int .u8 0,.int .u8 0,.int .u8 0,.int .u8 0,.int .u8 0,.int .u8 0,.int .u8 0,.int .u8 0,.int .u8 0,.int .u8 0,.int .u8 0,.int .u8 0,.int .u8 0,.int .u8 0,.int .u8 0,.int .u8 0,.int .u8 0,.int .u8 0,.int .u8 0,.int .u8 0,.int .u8 0,.int .u8 0,.int .u8 0,.int .u8 0,.int .u8 0,.int .u8 0] from rfl);have HZS:=sH Q2B;have HZO:=sH Q3s;have hs0:((w.alloc (.cells (Q00 x A n c A' n' c') 25)).alloc (.cells zD 38)).heap.size=(w.heap.size+1)+1:=by simp
 have hkx:Blk ((w.alloc (.cells (Q00 x A n c A' n' c') 25)).alloc (.cells zD 38)) w.heap.size 25 (Q00 x A n c A' n' c'):=(Blk.new w _ _).alloc _;have HKX:=sH hkx;have HX:=sH hX;have HK0:=sH hk0;have HS0:=sH hs0;obtain⟨mb,hmb⟩:∃ mb,mb=mayB x:=⟨_,rfl⟩;rw [<- hmb] at HBT ⊢;clear hX hk0 hs0 hkx hmb h hbk;obtain⟨g,hg⟩:∃ g,g=(w.heap.size+1):=⟨_,rfl⟩;obtain⟨gx,hgx⟩:∃ g,g=w.heap.size:=⟨_,rfl⟩;go_enter Try.func11,Try.ntmps11
 go_upto_region 1 with fail
 rw [<- HZ.out];generalize zS (zS w _) _=w1 at HX HK0 HS0 HKX ⊢;rw [<- hg] at HK0 HS0 ⊢;rw [<- hgx] at HKX ⊢;have hs1:=HX.out.size;have hg1:g<w1.heap.size:=by have:=HS0.out; omega
 have hgw:w.heap.size<=g:=by omega
 clear HS0 hg hgx;go_wp2_with (refine Q03 (o:=⟨some 9,_,_,_,_,_⟩) rfl 25 (.tmp 3) rfl gx 0 10 rfl 25 _ (Q00 x A n c A' n' c') _ HKX.out Try.underlying25 rfl rfl rfl (fun _ _=>by rw [zO]) ?_)
 refine(HBT.out w1 HX.out).mono ?_;rintro _ w2 ⟨v,rfl,hob,hb2⟩;have HB2:=sH (HX.out.trans (hb2.mono hs1));have HK2:=sH (HK0.out.under hb2);have hs2:=HB2.out.size;have hs12:=hb2.size;obtain⟨Ab,cb,rfl,hbc,hbm,hbr,hbB⟩:=Q05 hob;clear hob hb2 hbr hbB HBT HX HK0;cases mb with
 | true =>
  go_wp2_with fail
  refine(HOF.out w2 _ HB2.out).mono ?_;rintro _ w3 ⟨rfl,hb3⟩;have HB3:=sH (HB2.out.trans (hb3.mono hs2));have HK3:=sH (HK2.out.under hb3);clear hb3;go_wp2_with (refine Q01 (o:=⟨none,_,_,_,_,_⟩) rfl 38 (.tmp 4) (.tmp 20) rfl g 0 zD rfl rfl 38 zD HK3.out (by rw [HZS.out]; rfl) (by simp) HZO.out ?_; intro w5 hT5 hD5; rw [Q0d _ _ rfl] at hD5)
  refine bodyPost_ret (Q0g rfl _ _ g 32 38 _ _ rfl hD5 Try.underlying38 rfl rfl HZS.out) rfl ⟨rfl,?_⟩;exact hT5.below HB3.out hgw
 | false =>
  go_wp2_with (refine Q01 (o:=⟨none,_,_,_,_,_⟩) rfl 38 (.tmp 4) (.tmp 15) rfl g 0 zD rfl (by rw [HZ.out]; rfl) 38 zD HK2.out (by rw [HZS.out]; rfl) (by simp) HZO.out ?_; intro w5 hT5 hD5; rw [Q0d _ _ rfl] at hD5)
  refine bodyPost_ret (Q0g rfl _ _ g 32 38 _ _ rfl hD5 Try.underlying38 rfl rfl HZS.out) rfl ⟨rfl,?_⟩;exact hT5.below HB2.out hgw
theorem Q47:Q2E []=(Q1A [],0):=rfl
theorem Q1g (p:Option zA) (w:zB) (hbk:NoBk w p) :
 zJ Try.prog 12 #[.pointer p,.slice none 0 0] w fun e w'=>e=.returned (.tuple #[.agg zD,.int .i64 1])/\zF w.heap.size w w':=by
 have hX:zF w.heap.size w (w.alloc (.cells zD 38)):=(zL _ _).alloc (zK _) _;have hk0:Blk (w.alloc (.cells zD 38)) w.heap.size 38 zD:=Blk.newAt rfl;have HBT:=sH (fun W=>Q1Z none 0 0 [] W W.heap.size ⟨rfl,fun h=>absurd h (by omega)⟩ (zK _) (by omega));rw [Q47] at HBT;have HOF:=sH (fun W v (hb:zF w.heap.size w W)=>Q2p p v W (hbk.below hb));have HZ:=sH (show zD=#[.int .u8 0,.int .u8 0,.int .u8 0,.int .u8 0,.int .u8 0,.int .u8 0,.int .u8 0,.int .u8 0,.int .u8 0,.int .u8 0,.int .u8 0,.int .u8 0,.int .u8 0,.int .u8 0,.int .u8 0,.int .u8 0,.int .u8 0,.int .u8 0,.int .u8 0,.int .u8 0,.int .u8 0,.int .u8 0,.int .u8 0,.int .u8 0,.int .u8 0,.int .u8 0,.int .u8 0,.int .u8 0,.int .u8 0,.int .u8 0,.int .u8 0,.int .u8 0] from rfl);have HZS:=sH Q2B;have HZO:=sH Q3s;have HX:=sH hX;have HK0:=sH hk0;clear hX hk0 hbk;obtain⟨g,hg⟩:∃ g,g=w.heap.size:=⟨_,rfl⟩;go_enter Try.func12,Try.ntmps12
 go_upto_region 1 with fail
 rw [<- HZ.out];generalize zS w _=w1 at HX HK0 ⊢;rw [<- hg] at HK0 ⊢;have hs1:=HX.out.size;have hgw:w.heap.size<=g:=by omega
 clear hg;go_wp2_with fail
 refine(HBT.out w1).mono ?_;rintro _ w2 ⟨v,rfl,hob,hb2⟩;have HB2:=sH (HX.out.trans (hb2.mono hs1));have HK2:=sH (HK0.out.under hb2);have hs2:=HB2.out.size;obtain⟨Ab,cb,rfl,hbc,hbm,hbr,hbB⟩:=Q05 hob;clear hob hb2 hbr hbB HBT HX HK0;go_wp2_with fail
 refine(HOF.out w2 _ HB2.out).mono ?_;rintro _ w3 ⟨rfl,hb3⟩;have HB3:=sH (HB2.out.trans (hb3.mono hs2));have HK3:=sH (HK2.out.under hb3);clear hb3;go_wp2_with (refine Q01 (o:=⟨none,_,_,_,_,_⟩) rfl 38 (.tmp 4) (.tmp 20) rfl g 0 zD rfl rfl 38 zD HK3.out (by rw [HZS.out]; rfl) (by simp) HZO.out ?_; intro w5 hT5 hD5; rw [Q0d _ _ rfl] at hD5)
 refine bodyPost_ret (Q0g rfl _ _ g 32 38 _ _ rfl hD5 Try.underlying38 rfl rfl HZS.out) rfl ⟨rfl,?_⟩;exact hT5.below HB3.out hgw
end
section
open Go.RowKit
theorem Q3c (A B:Option zA) (n m c d:Nat) (xs ys:List Int) (w:zB) (Bx By:Nat) (ha:Q02 w Bx 1 A n (xs.map vn)) (hb:Q02 w By 1 B m (ys.map vn)) (hn:n<=maxLen) (hm:m<=maxLen) :
 zJ Try.prog 29 #[.slice A n c,.slice B m d] w fun e w'=>e=.returned (.bool (decide (xs=ys)))/\∃ k,w'=w.drewN k:=by
 have hlx:xs.length=n:=by have:=ha.1; simpa using this
 have hly:ys.length=m:=by have:=hb.1; simpa using this
 unfold maxLen at hn hm;by_cases hnm:n=m
 ·subst hnm;go_enter Try.func29,Try.ntmps29
  go_wp2
  go_loopw [13] (fun i wr=>∃ k q:Nat,k<=n/\i=.int .i64 k/\xs.take k=ys.take k/\wr=w.drewN q) (fun i _=>n - (intOf i).toNat)
  case atStart=>exact⟨0,0,Nat.zero_le _,rfl,by simp,rfl⟩
  obtain⟨k,q,hk,rfl,heq,rfl⟩:=hrel;have HE:=sH heq;clear heq;by_cases hlt:k<n
  ·obtain⟨ad,u,rfl,_,hx,hcx⟩:=ha.at_ hlt;obtain⟨bd,v,rfl,_,hy,hcy⟩:=hb.at_ hlt;obtain⟨hk1,rfl⟩:=Q0Z hx;obtain⟨hk2,rfl⟩:=Q0Z hy;clear hx hy ha hb;by_cases hne:xs[k]=ys[k]
   ·have hz:(xs[k] != ys[k])=false:=by simp [hne]
    have HN:=sH hne;clear hne
    go_wp2
    go_quiet (fail)
    go_wp2
    go_roundw
    case rel=>exact⟨k+1,_,by omega,by go_num,by rw [zR hk1,zR hk2,HE.out,HN.out],rfl⟩
    case measure=>simp [intOf]; omega
   have hz:(xs[k] != ys[k])=true:=by rw [bne_iff_ne]; intro e; exact hne e
   have HN:=sH hne;clear hne
   go_wp2
   go_quiet (fail)
   go_wp2
   go_ret
   exact⟨Q0n (by have:=HN.out; symm; rw [decide_eq_false_iff_not]; rintro rfl; exact this rfl),_,World.drewN_drewN _ _ _⟩
  have hkn:k=n:=by omega
  have HK:=sH hkn;clear hkn
  go_wp2
  go_ret
  exact⟨Q0n (by symm; rw [decide_eq_true_iff]; have h1:=HE.out; rw [HK.out] at h1; rwa [zP (by omega),zP (by omega)] at h1),q,rfl⟩
 have h0:((n:Int) != (m:Int))=true:=by rw [bne_iff_ne]; omega
 have HN:=sH hnm;clear hnm;go_enter Try.func29,Try.ntmps29
 go_wp2
 go_ret
 exact⟨Q0n (by symm; rw [decide_eq_false_iff_not]; rintro rfl; exact HN.out (by omega)),0,rfl⟩
theorem Q2q {W:zB} {B n c:Nat} {A:Option zA} {xs:List UInt8} (h:Q02 W B 1 A n (xs.map vb)):(convert 22 9 (.slice A n c)).run Try.prog W=.ok (.string ⟨xs.toArray⟩) W:=by
 have hn:xs.length=n:=by have:=h.1; simpa using this
 rcases Nat.eq_zero_or_pos n with h0 | h0
 ·subst h0;have hx:xs=[]:=List.eq_nil_of_length_eq_zero hn;subst hx;cases A with
  | none=>exact run_convert_bytes_nil W 22 5 Try.underlying22 Try.underlying5 0 c 9 Try.underlying9
  | some ad=>exact run_convert_bytes_back W 22 9 5 ad c [] Try.underlying22 Try.underlying5 Try.underlying9 (fun j hj=>by simp at hj)
 obtain⟨ad,rfl,_,hc⟩:=h.2 h0;rw [<- hn];exact run_convert_bytes_back W 22 9 5 ad c xs Try.underlying22 Try.underlying5 Try.underlying9 (fun j hj=>hc j _ (by rw [List.getElem?_map,zE hj]; rfl))
theorem Q3x (A B:Option zA) (n m c d:Nat) (xs ys:List UInt8) (w:zB) (Bx By:Nat) (ha:Q02 w Bx 1 A n (xs.map vb)) (hb:Q02 w By 1 B m (ys.map vb)) :
 zJ Try.prog 28 #[.slice A n c,.slice B m d] w fun e w'=>e=.returned (.bool (decide (xs=ys)))/\∃ k,w'=w.drewN k:=by
 have h1:=Q2q (c:=c) ha;have h2:=Q2q (c:=d) hb;clear ha hb;go_enter Try.func28,Try.ntmps28
 go_wp2_with fail
 go_ret
 refine⟨Q0n ?_,0,rfl⟩;rw [Bool.eq_iff_iff]; simp
theorem Q1u:∀ (xs ys:List Int),xs.length=ys.length->((List.range xs.length).all fun i=>xs.getD i 0 == ys.getD i 0)=(xs == ys)
 | [],[],_=>rfl
 | x :: xs,y :: ys,h=>by have ih:=Q1u xs ys (by simpa using h);rw [List.length_cons,List.range_succ_eq_map,List.all_cons,List.all_map];simp only [List.getD_cons_zero,Function.comp_def,List.getD_cons_succ,ih];simp [List.cons_beq_cons]
 | [],_ :: _,h=>by simp at h
 | _ :: _,[],h=>by simp at h
theorem Q2H {P:Program} (w:zB) (t e:TypeId) (n:Nat) (k:IntKind) (ht:P.underlying t=some (.array n e)) (he:P.underlying e=some (.int k)) (hsz:∀ w,(sizeOf e).run P w=.ok 1 w)
 (xs ys:List Int) (hx:xs.length=n) (hy:ys.length=n) :
 (binOp .eql t (.agg (xs.map (zQ k)).toArray) (.agg (ys.map (zQ k)).toArray)).run P w=.ok (.bool (xs == ys)) w:=by
 have key:(Op.equalIn (9998+2) t (.agg (xs.map (zQ k)).toArray) (.agg (ys.map (zQ k)).toArray)).run P w=.ok (xs == ys) w:=by
  rw [<- Q1u xs ys (hx.trans hy.symm),hx,List.range_eq_range',Op.equalIn];simp only [Sem.run_bind,run_underlying ht,zI,hsz,Std.Legacy.Range.forIn_eq_forIn_range',Std.Legacy.Range.size,Nat.sub_zero,Nat.add_sub_cancel,Nat.div_one];have hl:∀ i∈List.range' 0 n 1,i<n:=fun i hi=>by simpa using (List.mem_range'_1.1 hi).2
  generalize List.range' 0 n 1=l at hl ⊢
  induction l with
  | nil=>simp
  | cons i l ih =>
   have hi:i<n:=hl i (by simp);have px:(part e (xs.map (zQ k)).toArray (i*1)).run P w=.ok (.int k (xs.getD i 0)) w:=by simp [part,isAgg,run_underlying he,List.getD,zE (show i<xs.length by omega)]
   have py:(part e (ys.map (zQ k)).toArray (i*1)).run P w=.ok (.int k (ys.getD i 0)) w:=by simp [part,isAgg,run_underlying he,List.getD,zE (show i<ys.length by omega)]
   have pe:(Op.equalIn (9998+1) e (.int k (xs.getD i 0)) (.int k (ys.getD i 0))).run P w=.ok (xs.getD i 0 == ys.getD i 0) w:=by rw [run_equalIn_int w 9998 e k k _ _ he]
   simp only [List.forIn_cons,Sem.run_bind,px,py,pe,zI,List.all_cons];cases hb:(xs.getD i 0 == ys.getD i 0)
   ·simp
   simp only [Bool.not_true,Bool.false_eq_true,if_false,Sem.run_pure,zI,Bool.true_and];exact ih fun j hj=>hl j (by simp [hj])
 rw [run_eql_struct,key];rfl
theorem Q3R:Try.prog.eqGuardType Try.prog.depth 73=false:=by kernel_rfl
def Q0L (x:Wish):List Int:=[x.client,x.stamp,x.group,x.epoch,x.kind,x.block,x.old,x.new]
theorem Q41 (x y:Wish) (w:zB):(binOp .eql 73 (.agg ((Q0L x).map (zQ .i64)).toArray) (.agg ((Q0L y).map (zQ .i64)).toArray)).run Try.prog w=.ok (.bool (Q0L x == Q0L y)) w :=Q2H (P:=Try.prog) w 73 3 8 .i64 Try.underlying73 Try.underlying3 (fun _=>by kernel_rfl) (Q0L x) (Q0L y) rfl rfl
theorem Q2S (x:Wish) (A:Option zA) (n c:Nat) (A':Option zA) (n' c':Nat) (w:zB) :
 zJ Try.prog 30 #[.agg (Q00 x A n c A' n' c')] w fun e w'=>e=.returned (.agg ((Q0L x).map (zQ .i64)).toArray)/\zF w.heap.size w w':=by
 unfold Q00;go_enter Try.func30,Try.ntmps30
 go_wp2_with fail
 have hb:zF w.heap.size w (w.alloc (.cells #[.int .i64 x.client,.int .i64 x.stamp,.int .i64 x.group,.int .i64 x.epoch,.int .i64 x.kind,.int .i64 x.block,.slice A n c,.int .i64 x.old,.int .i64 x.new,.slice A' n' c'] 25)):=(zL _ _).alloc (zK _) _;refine bodyPost_ret (Q0I rfl _ _ (w.heap.size+1) 8 73 _ _ rfl (Blk.newAt (by simp)) Try.underlying73 rfl rfl rfl) rfl ⟨rfl,hb.alloc (by simp) _⟩
end
section
open Go.RowKit
attribute [local irreducible] Q0l
theorem Q3v (x y:Wish):Q2w x y=(decide (x.data=y.data) && decide (x.next=y.next) && (Q0L x == Q0L y)):=by
 rw [Bool.eq_iff_iff];unfold Q2w Q0L;simp only [decide_eq_true_eq,Bool.and_eq_true,beq_iff_eq,List.cons.injEq,and_true];constructor
 ·rintro ⟨h1,h2,h3,h4,h5,h6,h7,h8,h9,h10⟩; exact⟨⟨h7,h10⟩,h1,h2,h3,h4,h5,h6,h8,h9⟩
 rintro ⟨⟨h7,h10⟩,h1,h2,h3,h4,h5,h6,h8,h9⟩; exact⟨h1,h2,h3,h4,h5,h6,h7,h8,h9,h10⟩
theorem Q1L (x y:Wish) (A:Option zA) (n c:Nat) (A':Option zA) (n' c':Nat) (D:Option zA) (m d:Nat) (D':Option zA) (m' d':Nat) (w:zB) (B:Nat) (hx:Q0c w B x A n c A' n' c') (hy:Q0c w B y D m d D' m' d') (hB:B<=w.heap.size) :
 zJ Try.prog 14 #[.agg (Q00 x A n c A' n' c'),.agg (Q00 y D m d D' m' d')] w fun e w'=>e=.returned (.bool (Q2w x y))/\zF w.heap.size w w':=by
 have hX:zF w.heap.size w ((w.alloc (.cells (Q00 x A n c A' n' c') 25)).alloc (.cells (Q00 y D m d D' m' d') 25)):=((zL _ _).alloc (zK _) _).alloc (by simp) _;have k1:Blk ((w.alloc (.cells (Q00 x A n c A' n' c') 25)).alloc (.cells (Q00 y D m d D' m' d') 25)) w.heap.size 25 (Q00 x A n c A' n' c'):=(Blk.new w _ _).alloc _;have k2:Blk ((w.alloc (.cells (Q00 x A n c A' n' c') 25)).alloc (.cells (Q00 y D m d D' m' d') 25)) (w.heap.size+1) 25 (Q00 y D m d D' m' d'):=Blk.newAt (by simp);have HEB:=sH (fun W (hb:zF w.heap.size w W)=>Q3x A D n m c d x.data y.data W B B (hx.data.below (hb.mono hB)) (hy.data.below (hb.mono hB)));have HEI:=sH (fun W (hb:zF w.heap.size w W)=>Q3c A' D' n' m' c' d' x.next y.next W B B (hx.next.below (hb.mono hB)) (hy.next.below (hb.mono hB)) (by have:=hx.nm; unfold maxLen; omega) (by have:=hy.nm; unfold maxLen; omega));have HSP:=sH (Q3v x y);have HX:=sH hX;have K1:=sH k1;have K2:=sH k2;clear hx hy hX k1 k2;go_enter Try.func14,Try.ntmps14
 go_upto_region 1 with fail
 generalize zS _ _=w1 at HX K1 K2 ⊢;obtain⟨g1,hg1⟩:∃ g,g=w.heap.size:=⟨_,rfl⟩;obtain⟨g2,hg2⟩:∃ g,g=w.heap.size+1:=⟨_,rfl⟩;rw [<- hg1] at K1;rw [<- hg2] at K2 ⊢;rw [<- hg1];clear hg1 hg2;have c6:w1.cell? ⟨g1,6,none⟩=some (.slice A n c):=(K1.out.cell 6).trans rfl;have d6:w1.cell? ⟨g2,6,none⟩=some (.slice D m d):=(K2.out.cell 6).trans rfl;have c9:w1.cell? ⟨g1,9,none⟩=some (.slice A' n' c'):=(K1.out.cell 9).trans rfl;have d9:w1.cell? ⟨g2,9,none⟩=some (.slice D' m' d'):=(K2.out.cell 9).trans rfl;by_cases hd:x.data=y.data
 ·have he1:=HEB.out w1 HX.out;rw [decide_eq_true hd] at he1;have HE1:=sH he1;clear he1;go_wp2_with fail
  refine HE1.out.mono ?_;rintro _ _ ⟨rfl,q,rfl⟩;have hb2:zF w.heap.size w (w1.drewN q):=Q0h HX.out q;by_cases hn:x.next=y.next
  ·have he2:=HEI.out _ hb2;rw [decide_eq_true hn] at he2;have HE2:=sH he2;clear he2;go_wp2_with fail
   refine HE2.out.mono ?_;rintro _ _ ⟨rfl,q2,rfl⟩;have hb3:=Q0h hb2 q2;have HB3:=sH hb3;have HK1:=sH ((K1.out.drewN q).drewN q2);have HK2:=sH ((K2.out.drewN q).drewN q2);rw [decide_eq_true hd,decide_eq_true hn,Bool.true_and,Bool.true_and] at HSP;have hs3:=hb3.size;clear hb2 hb3 c6 c9 d6 d9;generalize (w1.drewN q).drewN q2=w3 at HB3 HK1 HK2 hs3 ⊢;go_upto_region 4 with fail
   have EQ:=sH (Q41 x y);refine Q21 7 27 (by kernel_rfl) (by kernel_rfl) (by kernel_rfl) (by simp) ?_;simp only [tT,tU];refine tD (.func (.func 30) #[] #[]) ?_;try simp only [Act.put,sA]
   refine Q10 rfl 25 (.tmp 2) rfl g1 0 10 rfl 25 _ (Q00 x A n c A' n' c') _ HK1.out Try.underlying25 rfl rfl rfl (fun _ _=>by rw [zO]) ?_;try simp only [Act.put,sA]
   refine Q23 rfl rfl 30 #[.agg (Q00 x A n c A' n' c')] (fun W=>by go_simp) (.agg ((Q0L x).map (zQ .i64)).toArray) (fun W hb=>Q2S x A n c A' n' c' W) ?_;try simp only [Act.put,sA]
   refine tD (.func (.func 30) #[] #[]) ?_;try simp only [Act.put,sA]
   refine Q10 rfl 25 (.tmp 3) rfl g2 0 10 rfl 25 _ (Q00 y D m d D' m' d') _ HK2.out Try.underlying25 rfl rfl rfl (fun _ _=>by rw [zO]) ?_;try simp only [Act.put,sA]
   refine Q23 rfl rfl 30 #[.agg (Q00 y D m d D' m' d')] (fun W=>by go_simp) (.agg ((Q0L y).map (zQ .i64)).toArray) (fun W hb=>Q2S y D m d D' m' d' W) ?_;try simp only [Act.put,sA]
   refine Q16 rfl rfl (.bool (Q0L x == Q0L y)) (fun W _=>Q2N 73 (.tmp 22) (.tmp 25) _ rfl _ _ rfl rfl Q3R _ (EQ.out W)) ?_;try simp only [Act.put,sA]
   refine Q3u ?_;intro W1 hb1;have HB4:=sH (HB3.out.trans (hb1.mono hs3));clear hb1;go_wp2_with fail
   go_ret
   exact⟨by rw [HSP.out]; rfl,HB4.out⟩
  have he2:=HEI.out _ hb2;rw [decide_eq_false hn] at he2;have HE2:=sH he2;rw [decide_eq_true hd,decide_eq_false hn,Bool.and_false,Bool.false_and] at HSP;clear he2;go_wp2_with fail
  refine HE2.out.mono ?_;rintro _ _ ⟨rfl,q2,rfl⟩;have HB3:=sH (Q0h hb2 q2);clear hb2;go_wp2_with fail
  go_ret
  exact⟨by rw [HSP.out]; rfl,by have h:=HB3.out; rw [World.drewN_drewN] at h; exact h⟩
 have he1:=HEB.out w1 HX.out;rw [decide_eq_false hd] at he1;have HE1:=sH he1;rw [decide_eq_false hd,Bool.false_and,Bool.false_and] at HSP;clear he1;go_wp2_with fail
 refine HE1.out.mono ?_;rintro _ _ ⟨rfl,q,rfl⟩;have HB2:=sH (Q0h HX.out q);go_wp2_with fail
 go_ret
 exact⟨by rw [HSP.out]; rfl,HB2.out⟩
end
end Go.Proofs.Ytckjnbjiafgibaa
