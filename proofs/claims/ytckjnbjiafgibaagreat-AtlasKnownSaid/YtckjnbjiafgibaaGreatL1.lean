/- Parts of the proof, in one text. -/
import Derived.WalkKit
import Derived.WalkSpells
import Derived.WalkLawsBesides
import Derived.Below
import Derived.Laws.OwnMore
import Derived.Deep.AppendLies
import Derived.Deep.Draws
import Derived.Laws.Rows
import Derived.Maps.AppendAt
import Derived.RegionTactic
import Derived.OwnWalk
import Derived.Deep.QuietTactic
import Derived.BigQuiet
import Derived.Deep.OwnRows
import Derived.Laws.AppendOwn
import Derived.Laws.MakeOwn
import Derived.Laws.Entries
import Derived.Laws.BitsAllLaws
import Derived.Laws.BitsLemmas
import Derived.ChangeSame
import Derived.Lib.Hide
import Derived.StillTailTactics
import Derived.Test.YtckjnbjiafgibaaGreatRows
import Derived.Lib.Mul64
import Derived.Laws.Bits64b
import Derived.Laws.Externs
import Derived.Shelf.Spec.BitsCarry
import Derived.Deep.LoopGhost
import Derived.Laws.CopyRow
import Derived.Laws.Tables
import Derived.Deep.MidRow
import Derived.Laws.ResultCell
import Derived.Deep.RegionHeld3
import Derived.Defers
import Derived.Laws.Pointers
import Derived.Laws.LoneSync
import Derived.Laws.NewBlocks
import Derived.RegionCalls
namespace Go.Proofs.YtckjnbjiafgibaaGreat
set_option linter.unusedVariables false
set_option linter.unusedSimpArgs false
set_option maxRecDepth 100000
set_option maxHeartbeats 16000000
open _root_.And renaming intro->zT
open _root_.Array renaming getElem?_eq_none->zH
open _root_.Go renaming Addr->zA,World->zB,Value->zC,TypeId->zF,Program->zJ,Oper->zL,Calls->zO
open _root_.Go.Proofs.Tryz renaming prog->zS
open _root_.Go.Result renaming andThen_ok->zN
open _root_.Go.RowKit renaming Below->zE
open _root_.Go.Sem renaming run_bind->zM
open _root_.Go.Value renaming ownBlock->zI
open _root_.List renaming getElem?_eq_getElem->zD,getElem?_map->zP,getElem?_eq_none->zQ,range->zR,getD_eq_getElem?_getD->zV,append_assoc->zW,getElem?_append_right->zX,replicate->zZ
open _root_.Nat renaming lt_or_ge->zG,eq_zero_or_pos->zK,le_refl->zU,zero_add->zY
section
open Go.RowKit Go.WideShapes Go.ChangeShapes
theorem tT {α:Type}:(∀ (a:α) (l:List α) (i:Nat),(a::l).take (i+1)=a::l.take i)/\(∀ l:List α,l.take 0=[]):=⟨fun _ _ _=>rfl,fun _=>rfl⟩
theorem tU {α:Type}:(∀ (a:α) (l:List α) (i:Nat),(a::l).drop (i+1)=l.drop i)/\(∀ l:List α,l.drop 0=l):=⟨fun _ _ _=>rfl,fun _=>rfl⟩
abbrev LL:=List (List UInt8)
theorem sH {p : Prop} (h : p) : RowKit.Hid p := Lib.hid h
theorem sA:(∀ (l:List zC) (i:Nat) (a:zC),l.toArray.setIfInBounds i a=(l.set i a).toArray)/\(∀ (l:List zC) (a b:zC),(a :: l).set 0 b=b :: l)/\(∀ (l:List zC) (n:Nat) (a b:zC),(a :: l).set (n+1) b=a :: l.set n b):=⟨fun l i a=>List.setIfInBounds_toArray ..,fun l a b=>List.set_cons_zero,fun l n a b=>List.set_cons_succ⟩
theorem Q0d (a:zA) (n:Nat):(a.add n).block=a.block:=by unfold Addr.add; split <;> rfl
theorem Q2b (a:zA) (i j:Nat):(a.add i).add j=a.add (i+j):=by unfold Addr.add;by_cases hi:i=0 <;> by_cases hj:j=0 <;> simp [hi,hj,Nat.add_assoc]
def Q04 (w:zB) (B size:Nat) (A:Option zA) (n:Nat) (xs:List zC):Prop :=xs.length=n*size/\(0<n->∃ ad,A=some ad/\ad.block<B/\∀ j u,xs[j]?=some u->w.cell? (ad.add j)=some u)
section
variable {w w':zB} {B B' size n:Nat} {A:Option zA} {xs:List zC}
theorem Q04.none_:Q04 w B size A 0 []:=⟨by simp,fun h=>absurd h (by omega)⟩
theorem Q04.at_ {k:Nat} (h:Q04 w B 1 A n xs) (hk:k<n):∃ ad u,A=some ad/\ad.block<B/\xs[k]?=some u/\w.cell? (ad.add k)=some u:=by
 obtain⟨ad,e,hb,hc⟩:=h.2 (by omega);have hl:k<xs.length:=by have:=h.1; omega
 exact⟨ad,xs[k],e,hb,zD hl,hc k _ (zD hl)⟩
theorem Q04.keep (h:Q04 w B size A n xs) (hk:∀ p:zA,p.block<B->w'.cell? p=w.cell? p):Q04 w' B size A n xs :=⟨h.1,fun hn=>by obtain⟨ad,e,hb,hc⟩:=h.2 hn;exact⟨ad,e,hb,fun j u hu=>(hk _ (by rw [Q0d]; exact hb)).trans (hc j u hu)⟩⟩
theorem Q04.more (h:Q04 w B size A n xs) (hB:B<=B'):Q04 w B' size A n xs :=⟨h.1,fun hn=>by obtain⟨ad,e,hb,hc⟩:=h.2 hn;exact⟨ad,e,by omega,hc⟩⟩
theorem Q04.below (h:Q04 w B size A n xs) (hb:zE B w w'):Q04 w' B size A n xs:=h.keep fun _ hp=>hb.cell hp
theorem Q04.drewN (h:Q04 w B size A n xs) (k:Nat):Q04 (w.drewN k) B size A n xs:=h
theorem Q04.alloc (h:Q04 w B size A n xs) (hB:B<=w.heap.size) (o:Obj):Q04 (w.alloc o) B size A n xs:=h.keep fun p hp=>World.cell?_alloc_lt w o p (by omega)
theorem Q04.cut (h:Q04 w B size A n xs) {k cap:Nat} (hk:k<=n) (hc:n<=cap) :
 Q04 w B size (if cap=k then A else A.map (·.add (k*size))) (n - k) (xs.drop (k*size)):=by
 refine⟨by rw [List.length_drop,h.1,Nat.sub_mul],fun hn=>?_⟩;obtain⟨ad,rfl,hb,hcell⟩:=h.2 (by omega);rw [if_neg (by omega)];refine⟨ad.add (k*size),rfl,by rw [Q0d]; exact hb,fun j u hu=>?_⟩;rw [Q2b];exact hcell _ u (by rw [<- hu,List.getElem?_drop])
theorem Q04.of_own {base:Nat} {e:zF} {c:Nat} (h:w.ownsRow base e size (.slice A n c) n xs):Q04 w w.heap.size size A n xs:=by
 refine⟨h.1,fun hn=>?_⟩;obtain⟨g,cap,hv,_,hlt⟩:=h.form hn;have hA:A=some ⟨g,0,none⟩:=by injection hv
 subst hA;exact⟨_,rfl,hlt,h.cells (g:=g) rfl⟩
end
def Blk (w:zB) (g:Nat) (t:zF) (cs:Array zC):Prop:=w.heap[g]?=some (.cells cs t (0,0))
section
variable {w w':zB} {g:Nat} {t:zF} {cs:Array zC}
theorem Blk.lt (h:Blk w g t cs):g<w.heap.size:=by
 rcases zG g w.heap.size with hlt | hge
 ·exact hlt
 unfold Blk at h; rw [zH hge] at h; cases h
theorem Blk.cell (h:Blk w g t cs) (i:Nat):w.cell? ⟨g,i,none⟩=cs[i]?:=cell_of_row w g i cs t (0,0) h
theorem Blk.frozen (h:Blk w g t cs) (i:Nat):w.frozen? ⟨g,i,none⟩=false:=by unfold Blk at h;simp [World.frozen?,h]
theorem Blk.new (w:zB) (t:zF) (cs:Array zC):Blk (w.alloc (.cells cs t)) w.heap.size t cs:=heap_alloc_new w _
theorem Blk.newAt {w:zB} {t:zF} {cs:Array zC} {g:Nat} (hg:g=w.heap.size):Blk (w.alloc (.cells cs t)) g t cs:=by subst hg; exact heap_alloc_new w _
theorem Blk.drew (h:Blk w g t cs):Blk w.drew g t cs:=h
theorem Blk.drewN (h:Blk w g t cs) (n:Nat):Blk (w.drewN n) g t cs:=h
theorem Blk.alloc (h:Blk w g t cs) (o:Obj):Blk (w.alloc o) g t cs:=(Below.heap_alloc w o g h.lt).trans h
theorem Blk.set_ (h:Blk w g t cs) (i:Nat) (u:zC):Blk (w.setCell ⟨g,i,none⟩ u) g t (cs.setIfInBounds i u):=by unfold Blk at h ⊢;simp [World.setCell,Array.getElem?_modify,h]
theorem Blk.far (h:Blk w g t cs) {p:zA} (hp:g≠p.block) (u:zC):Blk (w.setCell p u) g t cs:=(Below.heap_setCell w p u g hp).trans h
theorem Blk.below {B:Nat} (h:Blk w g t cs) (hb:zE B w w') (hg:g<B):Blk w' g t cs:=(hb.block g hg).trans h
theorem Blk.grown {row:Option Nat} (h:Blk w g t cs) (hb:w.grownBy w' row) (hg:some g≠row):Blk w' g t cs:=(hb.block g h.lt hg).trans h
theorem Blk.ne_ {g':Nat} {t':zF} {cs':Array zC} (h:Blk w g t cs) (h':Blk w g' t' cs') (hne:t≠t'):g≠g':=by
 rintro rfl;unfold Blk at h h';rw [h] at h';injection h' with h'
 injection h' with _ ht
 exact hne ht
theorem Q09 {base:Nat} {e:zF} {size n:Nat} {v:zC} {xs:List zC} (h:w.ownsRow base e size v n xs) (hg:Blk w g t cs) (hne:e≠t):v.ownBlock≠some g:=by
 rcases h.2 with⟨rfl,_⟩ | ⟨g',cap,cur,rfl,_,hh,_⟩
 ·simp [zI]
 intro he;have:g'=g:=by simpa [zI] using he
 subst this;exact Blk.ne_ (t:=e) hh hg hne rfl
end
section
variable {P:zJ} (w:zB)
theorem Q4s (base:Nat) (t ty e:zF) (i:TypeInfo) (size:Nat) (ht:P.underlying t=some (.slice e)) (hi:P.info? e=some i)
 (v:zC) (n:Nat) (xs:List zC) (hown:w.ownsRow base e size v n xs) (c:Nat):(Builtin.append_ #[t,t] ty #[v,.slice none 0 c]).run P w=.ok v w:=by
 rcases hown.2 with⟨rfl,rfl⟩ | ⟨g,cap,cur,rfl,_,_,hnc,_⟩
 ·simp [Builtin.append_,run_underlying ht,sizeOf,typeInfo,hi,Builtin.lenOf,Builtin.firstCells]
 simp [Builtin.append_,run_underlying ht,sizeOf,typeInfo,hi,Builtin.lenOf,Builtin.firstCells,hnc,storeCells]
theorem Q3y (base:Nat) (t ty e:zF) (i:TypeInfo) (z:zC) (size bytes:Nat) (ht:P.underlying t=some (.slice e)) (hi:P.info? e=some i) (hz:i.zero=some z)
 (hsize:i.size=size) (hby:i.bytes=bytes) (hzs:z.cells.size=size) (hsz:0<size)
 (v:zC) (n:Nat) (xs:List zC) (hown:w.ownsRow base e size v n xs)
 (B:Nat) (A:Option zA) (m c:Nat) (news:List zC) (hr:Q04 w B size A m news) (h1:∀ u∈news,u.oneCell'=true)
 (h63:n+m<=maxLen) (hbytes:(n+m)*bytes<=140737488355328) (hbase:base<=w.heap.size) :
 ∃ v' w',(Builtin.append_ #[t,t] ty #[v,.slice A m c]).run P w=.ok v' w'/\w'.ownsRow base e size v' (n+m) (xs++news)/\w.grownBy w' v.ownBlock /\
  (v'.ownBlock=v.ownBlock\/v'.ownBlock=some w.heap.size):=by
 rcases A with _ | ad
 ·have hm:m=0:=by
   rcases zK m with h0 | h0
   ·exact h0
   obtain⟨ad,h,_⟩:=hr.2 h0;cases h
  subst hm;have hn:news=[]:=List.eq_nil_of_length_eq_zero (by simpa using hr.1);subst hn;exact⟨v,w,Q4s w base t ty e i size ht hi v n xs hown c,by simpa using hown,World.grownBy.refl w _,.inl rfl⟩
 have hcells:∀ j u,news[j]?=some u->w.cell? (ad.add j)=some u:=by
  intro j u hu;rcases zK m with h0 | h0
  ·subst h0;have hn:news=[]:=List.eq_nil_of_length_eq_zero (by simpa using hr.1);subst hn;simp at hu
  obtain⟨ad',h,_,hc⟩:=hr.2 h0;injection h with h
  subst h;exact hc j u hu
 obtain⟨v',w',hrun,h2,h3,_,h5⟩:=run_append_own_at (P:=P) w base t ty e i z size bytes ht hi hz hsize hby hzs hsz v n xs hown ad m c news hr.1 hcells h1 h63 hbytes hbase;exact⟨v',w',hrun,h2,h3,h5⟩
theorem Q7u {o:zL} {a:Act} {K:Act->zB->Prop} {Q:Exit->Act->zB->Prop} (s x:Operand) (t:zF)
 (ho:o.op=.call { callee:=.builtin .append,args:=#[s,x],argTypes:=#[t,t] })
 (base:Nat) (e:zF) (i:TypeInfo) (z:zC) (size bytes:Nat) (ht:P.underlying t=some (.slice e)) (hi:P.info? e=some i) (hz:i.zero=some z)
 (hsize:i.size=size) (hby:i.bytes=bytes) (hzs:z.cells.size=size) (hsz:0<size)
 (v:zC) (n:Nat) (xs:List zC) (hs:a.eval s=v) (hown:w.ownsRow base e size v n xs)
 (B:Nat) (A:Option zA) (m c:Nat) (news:List zC) (hx:a.eval x=.slice A m c) (hr:Q04 w B size A m news) (h1:∀ u∈news,u.oneCell'=true)
 (h63:n+m<=maxLen) (hbytes:(n+m)*bytes<=140737488355328) (hbase:base<=w.heap.size)
 (h:∀ v' w',w'.ownsRow base e size v' (n+m) (xs++news)->w.grownBy w' v.ownBlock->(v'.ownBlock=v.ownBlock\/v'.ownBlock=some w.heap.size)->K (a.put o.dst v') w'):o.wp P a w K Q:=by
 obtain⟨v',w',hrun,h2,h3,h4⟩:=Q3y (P:=P) w base t o.type e i z size bytes ht hi hz hsize hby hzs hsz v n xs hown B A m c news hr h1 h63 hbytes hbase;unfold Oper.wp execOp;simp only [ho,resolve,invoke,builtin,zM,Sem.run_pure,zN,List.map_toArray,List.map_cons,List.map_nil,hs,hx,hrun];exact h v' w' h2 h3 h4
theorem Q05 {ops:Array zL} {rest:List zL} {o:zL} {a:Act} {Q:Exit->Act->zB->Prop} (hgd:o.guard=none) (s x:Operand) (t:zF)
 (ho:o.op=.call { callee:=.builtin .append,args:=#[s,x],argTypes:=#[t,t] })
 (base:Nat) (e:zF) (i:TypeInfo) (z:zC) (size bytes:Nat) (ht:P.underlying t=some (.slice e)) (hi:P.info? e=some i) (hz:i.zero=some z)
 (hsize:i.size=size) (hby:i.bytes=bytes) (hzs:z.cells.size=size) (hsz:0<size)
 (v:zC) (n:Nat) (xs:List zC) (hs:a.eval s=v) (hown:w.ownsRow base e size v n xs)
 (B:Nat) (A:Option zA) (m c:Nat) (news:List zC) (hx:a.eval x=.slice A m c) (hr:Q04 w B size A m news) (h1:∀ u∈news,u.oneCell'=true)
 (h63:n+m<=maxLen) (hbytes:(n+m)*bytes<=140737488355328) (hbase:base<=w.heap.size)
 (h:∀ v' w',w'.ownsRow base e size v' (n+m) (xs++news)->w.grownBy w' v.ownBlock->(v'.ownBlock=v.ownBlock\/v'.ownBlock=some w.heap.size)->wpList P ops Q rest (a.put o.dst v') w'):wpList P ops Q (o :: rest) a w :=
 wpList_plain hgd fun _ hK=>Q7u w s x t ho base e i z size bytes ht hi hz hsize hby hzs hsz v n xs hs hown B A m c news hx hr h1 h63 hbytes hbase fun v' w' h2 h3 h4=>hK _ _ (h v' w' h2 h3 h4)
end
theorem Q2z {P:zJ} {f:FuncId} {args:Array zC} {w:zB} {a n:Nat} {v:zC}
 (h:zO P f args (w.drewN (a+n)) fun e w'=>e=.returned v/\w.drewN (a+n)=w') :
 zO P f args (w.drewN (a+n)) fun e w''=>e=.returned v/\∃ m,w''=w.drewN (a+m) :=
 h.mono fun _ _ ⟨he,hm⟩=>⟨he,n,hm.symm⟩
theorem Q6N {P:zJ} {f:FuncId} {args:Array zC} {w:zB} {n:Nat} {v:zC}
 (h:zO P f args (w.drewN n) fun e w'=>e=.returned v/\w.drewN n=w'):zO P f args (w.drewN n) fun e w''=>e=.returned v/\∃ m,w''=w.drewN m :=
 h.mono fun _ _ ⟨he,hm⟩=>⟨he,n,hm.symm⟩
theorem Q0B {B:Nat} {a w:zB} (h:zE B a w) (n:Nat):zE B a (w.drewN n):=⟨h.os,h.tape,h.output,h.size,h.block⟩
theorem Q4g {a w:zB} {row:Option Nat} (h:a.grownBy w row) (n:Nat):a.grownBy (w.drewN n) row:=⟨h.os,h.tape,h.output,h.size,h.block⟩
theorem Qbd {a w:zB} {row:Option Nat} (h:a.grownBy w row):a.grownBy w.drew row:=⟨h.os,h.tape,h.output,h.size,h.block⟩
theorem Q4p {a w:zB} {row:Option Nat} (h:a.grownBy w row) (o:Obj):a.grownBy (w.alloc o) row :=⟨h.os,h.tape,h.output,Nat.le_trans h.size (by simp),fun i hi hne=>(Below.heap_alloc w o i (Nat.lt_of_lt_of_le hi h.size)).trans (h.block i hi hne)⟩
theorem Q0v {a w:zB} (h:zE a.heap.size a w) (row:Option Nat):a.grownBy w row:=⟨h.os,h.tape,h.output,h.size,fun i hi _=>h.block i hi⟩
theorem Q7t {P:zJ} (t e:zF) (i:TypeInfo) (z:zC) (ht:P.underlying t=some (.slice e)) (hi:P.info? e=some i) (hz:i.zero=some z)
 (kl kc:IntKind) (n c:Nat) (hnc:n<=c) (hbytes:i.bytes*c<=281474976710656) (h63:c<=9223372036854775807) (w:zB) :
 (Instr.makeSlice t (.int kl (n:Int)) (.int kc (c:Int))).run P w=.ok (.slice (some ⟨w.heap.size,0,none⟩) n c) (w.alloc (.cells (madeCells z.cells (c*i.size)) e)):=by
 have hb:(i.bytes:Int)*(c:Int)<=281474976710656:=by
  have h:((i.bytes*c:Nat):Int)<=281474976710656:=by omega
  rwa [Int.natCast_mul] at h
 have hr:=run_make (P:=P) w t e i z ht hi hz kl kc n c (by omega) (by omega) hb (by omega);simp only [Int.toNat_natCast] at hr;exact hr
section
variable {H:Type} {enc:zF×zC->H} {P:zJ}
end
theorem Q7D {P:zJ} {t e:zF} {n:Nat} (ht:P.underlying t=some (.array n e)) (hs:(P.info? e).map (·.size)=some 1) (a:zA) (l h:Nat) (li hi:Int) (el:li=l) (eh:hi=h) (hlh:l<=h) (hn:h<=n) (hl:l<n) (W:zB) :
 (Instr.sliceAt t (.pointer (some a)) (some (.int .i64 li)) (some (.int .i64 hi)) none).run P W=.ok (.slice (some (a.add l)) (h - l) (n - l)) W:=by
 subst el eh;obtain⟨i,hi,hsz⟩:∃ i,P.info? e=some i/\i.size=1:=by
  cases hh:P.info? e with
  | none=>rw [hh] at hs; cases hs
  | some i=>rw [hh] at hs; exact⟨i,rfl,by simpa using hs⟩
 have he:P.elem t=e:=by simp [Program.elem,ht]
 have hln:P.arrayLen t=n:=by simp [Program.arrayLen,ht]
 rw [run_sliceAt_array_lh W t a (by rw [he,hln]; exact ht) .i64 .i64 (l:Int) (h:Int) (by omega) (by omega) (by rw [hln]; omega)];simp [he,hln,sizeOf,typeInfo,hi,hsz,slicedAt,show ¬ n=l by omega]
end
section
open Go.RowKit
abbrev W32:=BitVec 32
def wi (x:W32):Int:=(x.toNat:Int)
def bi (b:UInt8):Int:=(b.toNat:Int)
def vw (x:W32):zC:=.int .u32 (wi x)
def vb (b:UInt8):zC:=.int .u8 (bi b)
def b32 (b:UInt8):W32:=BitVec.ofNat 32 b.toNat
def w8 (x:W32):UInt8:=UInt8.ofNat x.toNat
theorem wi_lo (x:W32):0<=wi x:=by unfold wi; omega
theorem wi_hi (x:W32):wi x<4294967296:=by unfold wi; have:=x.isLt; omega
theorem bi_lo (b:UInt8):0<=bi b:=by unfold bi; omega
theorem bi_hi (b:UInt8):bi b<256:=by unfold bi; have:=b.toNat_lt; omega
theorem QaS {x y:UInt8} (h:bi x=bi y):x=y:=by unfold bi at h; exact UInt8.toNat_inj.1 (by omega)
theorem vb_inj {x y:UInt8} (h:vb x=vb y):x=y:=by unfold vb at h; injection h with _ h; exact QaS h
theorem Q3j (x:W32):BitVec.ofInt 32 (wi x)=x:=by
 apply BitVec.eq_of_toNat_eq
 unfold wi;rw [BitVec.ofInt_natCast,BitVec.toNat_ofNat,Nat.mod_eq_of_lt x.isLt]
theorem Q8T (x:W32):IntKind.u32.wrap (wi x)=wi x:=by rw [IntKind.wrap_u32']; have:=wi_lo x; have:=wi_hi x; omega
theorem w_add (x y:W32):IntKind.u32.wrap (wi x+wi y)=wi (x+y):=by unfold wi;rw [IntKind.wrap_u32',BitVec.toNat_add]; have:=x.isLt; have:=y.isLt; omega
theorem w_sub (x y:W32):IntKind.u32.wrap (wi x - wi y)=wi (x - y):=by unfold wi;rw [IntKind.wrap_u32',BitVec.toNat_sub]; have:=x.isLt; have:=y.isLt; omega
theorem w_and (x y:W32):bits .and .u32 (wi x) (wi y)=wi (x &&& y):=by show IntKind.u32.wrap ((BitVec.ofInt 32 (wi x) &&& BitVec.ofInt 32 (wi y)).toNat:Int)=_;rw [Q3j,Q3j]; exact Q8T _
theorem w_or (x y:W32):bits .or .u32 (wi x) (wi y)=wi (x ||| y):=by show IntKind.u32.wrap ((BitVec.ofInt 32 (wi x) ||| BitVec.ofInt 32 (wi y)).toNat:Int)=_;rw [Q3j,Q3j]; exact Q8T _
theorem w_xor (x y:W32):bits .xor .u32 (wi x) (wi y)=wi (x ^^^ y):=by show IntKind.u32.wrap ((BitVec.ofInt 32 (wi x) ^^^ BitVec.ofInt 32 (wi y)).toNat:Int)=_;rw [Q3j,Q3j]; exact Q8T _
theorem w_not (x:W32):bits .xor .u32 (4294967295:Int) (wi x)=wi (~~~x):=by
 have h:(4294967295:Int)=wi (BitVec.allOnes 32):=by decide
 rw [h,w_xor,BitVec.allOnes_xor]
theorem Qay (x:W32) (n:Nat):wi x / 2 ^ n=wi (x >>> n):=by
 unfold wi;rw [BitVec.toNat_ushiftRight,Nat.shiftRight_eq_div_pow]
 norm_cast
theorem Qbu (x:W32) (n:Nat):IntKind.u32.wrap (wi x*2 ^ n)=wi (x <<< n):=by unfold wi;rw [IntKind.wrap_u32',BitVec.toNat_shiftLeft,Nat.shiftLeft_eq,Int.natCast_emod,Int.natCast_mul,Int.natCast_pow];rfl
theorem Qb1 (x y:W32):(wi x+wi y) % 4294967296=wi (x+y):=by rw [<- IntKind.wrap_u32',w_add]
theorem Qar (x y:W32):(wi x - wi y) % 4294967296=wi (x - y):=by rw [<- IntKind.wrap_u32',w_sub]
theorem Q98 (x:W32) (n:Nat):(wi x*2 ^ n) % 4294967296=wi (x <<< n):=by rw [<- IntKind.wrap_u32',Qbu]
theorem w_shl8 (x:W32):(wi x*(256:Int)) % 4294967296=wi (x <<< 8):=Q98 x 8
theorem QaK (x:W32):IntKind.u32.wrap (wi x*(256:Int))=wi (x <<< 8):=Qbu x 8
theorem w_shr3 (x:W32):wi x / (8:Int)=wi (x >>> 3):=Qay x 3
theorem Qax (x:W32):wi x / (1024:Int)=wi (x >>> 10):=Qay x 10
theorem Q7s (b:UInt8):IntKind.u32.wrap (bi b)=wi (b32 b):=by rw [IntKind.wrap_u32']; unfold wi b32 bi; rw [BitVec.toNat_ofNat]; have:=b.toNat_lt; omega
theorem Q7P (b:UInt8):bi b % 4294967296=wi (b32 b):=by rw [<- IntKind.wrap_u32',Q7s]
theorem Q8E (x:W32):IntKind.u8.wrap (wi x)=bi (w8 x):=by rw [IntKind.wrap_u8']; unfold wi w8 bi; rw [UInt8.toNat_ofNat']; omega
theorem Q9u (x:W32):wi x % 256=bi (w8 x):=by rw [<- IntKind.wrap_u8',Q8E]
theorem rot_and (n:Nat) (h:0<n) (h':n<32):bits .and .u64 (IntKind.u64.wrap (-(n:Int))) 31=((32 - n:Nat):Int):=by
 have e1:IntKind.u64.wrap (-(n:Int))=((18446744073709551616 - n:Nat):Int):=by rw [IntKind.wrap_u64]; omega
 rw [e1,show (31:Int)=((31:Nat):Int) from rfl,u64_and_nat _ _ (by omega) (by omega)];congr 1
 rw [show (31:Nat)=2 ^ 5 - 1 from rfl,Nat.and_two_pow_sub_one_eq_mod];omega
theorem sub_sub_ (n:Nat) (h':n<32):32 - (32 - n)=n:=by omega
theorem ror_or (x:W32) (n:Nat) (h':n<32):(x <<< (32 - n)) ||| (x >>> n)=x.rotateRight n:=by rw [BitVec.rotateRight_def,Nat.mod_eq_of_lt h',BitVec.or_comm]
theorem Qae {k:IntKind} {a b:Int} (h:a=b):Ending.returned (.int k a)=.returned (.int k b):=by rw [h]
theorem Q0C {a b:Bool} (h:a=b):Ending.returned (.bool a)=.returned (.bool b):=by rw [h]
theorem Q3K {xs:List UInt8} {k:Nat} {u:zC} (h:(xs.map vb)[k]?=some u):∃ (hk:k<xs.length),u=.int .u8 (bi xs[k]):=by
 rw [zP] at h;rcases zG k xs.length with hk | hk
 ·refine⟨hk,?_⟩;rw [zD hk] at h;simp only [Option.map_some,Option.some.injEq] at h;rw [<- h]; rfl
 rw [zQ hk] at h;simp at h
def rng (n:Nat) (f:Nat->zC):Array zC:=((zR n).map f).toArray
theorem Q0q (n:Nat) (f:Nat->zC):(rng n f).size=n:=by simp [rng]
theorem Q15 (n:Nat) (f:Nat->zC) (j:Nat) (h:j<n):(rng n f)[j]?=some (f j):=by simp [rng,List.getElem?_range h]
theorem Q10 {n:Nat} {f g:Nat->zC} (h:∀ j,j<n->f j=g j):rng n f=rng n g:=by unfold rng; congr 1; exact List.map_congr_left fun j hj=>h j (List.mem_range.1 hj)
theorem Q3Q {n:Nat} {f:Nat->zC} {a:Array zC} (hs:a.size=n) (h:∀ j,j<n->a[j]?=some (f j)):a=rng n f:=by
 apply Array.ext_getElem?
 intro i;rcases zG i n with hi | hi
 ·rw [h i hi,Q15 n f i hi]
 rw [zH (by omega),zH (by rw [Q0q]; omega)]
theorem Q1w (n:Nat) (f:Nat->zC) (t:Nat) (v:zC):(rng n f).setIfInBounds t v=rng n (fun j=>if j=t then v else f j):=by
 refine Q3Q (by simp [rng]) fun j hj=>?_
 rw [Array.getElem?_setIfInBounds];by_cases e:t=j
 ·subst e; rw [if_pos rfl,if_pos (by rw [Q0q]; exact hj),if_pos rfl]
 rw [if_neg e,Q15 n f j hj,if_neg (fun h=>e h.symm)]
theorem Q20 {P:zJ} {id:Nat} {Q:Exit->Act->zB->Prop} {a:Act} {w:zB} {l:List zL} (n:Nat) (hm:P.follows .mixedOrders=true) (hB:Region.lexTailB .any l.toArray n=true)
 (h:wpStill P l.toArray w.drew (fun a'=>wpList P l.toArray Q (l.drop n) a' w.drew) (l.take n) a):(Code.region id l.toArray true).wp P Q a w :=
 wp_region_still_tail n hm hB h
theorem Qa1:IntKind.u32.signed=false:=rfl
theorem u32_max:IntKind.u32.max=4294967295:=rfl
theorem Q35 {P:zJ} {t e:zF} {n:Nat} (ht:P.underlying t=some (.array n e)) (hs:(P.info? e).map (·.size)=some 1) (hagg:∀ w,(isAgg e).run P w=.ok false w) (cs:Array zC) (k:Nat) (v:zC) (hk:k<n) (hv:cs[k]?=some v) (w:zB) :
 (Instr.index t (.agg cs) (.int .i64 (k:Int))).run P w=.ok v w:=by
 obtain⟨i,hi,hsz⟩:∃ i,P.info? e=some i/\i.size=1:=by
  cases hh:P.info? e with
  | none=>rw [hh] at hs; cases hs
  | some i=>rw [hh] at hs; exact⟨i,rfl,by simpa using hs⟩
 simp [Instr.index,run_underlying ht,sizeOf,typeInfo,hi,hsz,part,hagg,hv,asIntOf,hk]
end
section
structure St where
 a:W32
 b:W32
 c:W32
 d:W32
 e:W32
 f:W32
 g:W32
 h:W32
def St.list (s:St):List W32:=[s.a,s.b,s.c,s.d,s.e,s.f,s.g,s.h]
def St.vals (s:St):Array zC:=#[vw s.a,vw s.b,vw s.c,vw s.d,vw s.e,vw s.f,vw s.g,vw s.h]
def St.add (s r:St):St:=⟨s.a+r.a,s.b+r.b,s.c+r.c,s.d+r.d,s.e+r.e,s.f+r.f,s.g+r.g,s.h+r.h⟩
def kc:List W32:=[
 0x428A2F98#32,0x71374491#32,0xB5C0FBCF#32,0xE9B5DBA5#32,0x3956C25B#32,0x59F111F1#32,0x923F82A4#32,0xAB1C5ED5#32,
 0xD807AA98#32,0x12835B01#32,0x243185BE#32,0x550C7DC3#32,0x72BE5D74#32,0x80DEB1FE#32,0x9BDC06A7#32,0xC19BF174#32,
 0xE49B69C1#32,0xEFBE4786#32,0x0FC19DC6#32,0x240CA1CC#32,0x2DE92C6F#32,0x4A7484AA#32,0x5CB0A9DC#32,0x76F988DA#32,
 0x983E5152#32,0xA831C66D#32,0xB00327C8#32,0xBF597FC7#32,0xC6E00BF3#32,0xD5A79147#32,0x06CA6351#32,0x14292967#32,
 0x27B70A85#32,0x2E1B2138#32,0x4D2C6DFC#32,0x53380D13#32,0x650A7354#32,0x766A0ABB#32,0x81C2C92E#32,0x92722C85#32,
 0xA2BFE8A1#32,0xA81A664B#32,0xC24B8B70#32,0xC76C51A3#32,0xD192E819#32,0xD6990624#32,0xF40E3585#32,0x106AA070#32,
 0x19A4C116#32,0x1E376C08#32,0x2748774C#32,0x34B0BCB5#32,0x391C0CB3#32,0x4ED8AA4A#32,0x5B9CCA4F#32,0x682E6FF3#32,
 0x748F82EE#32,0x78A5636F#32,0x84C87814#32,0x8CC70208#32,0x90BEFFFA#32,0xA4506CEB#32,0xBEF9A3F7#32,0xC67178F2#32]
def h0:St:=⟨0x6A09E667#32,0xBB67AE85#32,0x3C6EF372#32,0xA54FF53A#32,0x510E527F#32,0x9B05688C#32,0x1F83D9AB#32,0x5BE0CD19#32⟩
def sml0 (x:W32):W32:=x.rotateRight 7 ^^^ x.rotateRight 18 ^^^ x >>> 3
def sml1 (x:W32):W32:=x.rotateRight 17 ^^^ x.rotateRight 19 ^^^ x >>> 10
def big0 (x:W32):W32:=x.rotateRight 2 ^^^ x.rotateRight 13 ^^^ x.rotateRight 22
def big1 (x:W32):W32:=x.rotateRight 6 ^^^ x.rotateRight 11 ^^^ x.rotateRight 25
def be4 (a b c d:UInt8):W32:=(((b32 a <<< 8 ||| b32 b) <<< 8) ||| b32 c) <<< 8 ||| b32 d
def Q8G (blk:List UInt8) (l:List W32) (t:Nat):W32 :=
 if t<16 then be4 (blk.getD (4*t) 0) (blk.getD (4*t+1) 0) (blk.getD (4*t+2) 0) (blk.getD (4*t+3) 0)
 else l.getD (t - 16) 0+sml0 (l.getD (t - 15) 0)+l.getD (t - 7) 0+sml1 (l.getD (t - 2) 0)
def Q0Y (blk:List UInt8):Nat->List W32
 | 0=>[]
 | t+1=>Q0Y blk t++[Q8G blk (Q0Y blk t) t]
theorem Q60 (blk:List UInt8) (t:Nat):(Q0Y blk t).length=t:=by
 induction t with
 | zero=>rfl
 | succ t ih=>simp [Q0Y,ih]
def ch (e f g:W32):W32:=(e &&& f) ^^^ (~~~e &&& g)
def maj (a b c:W32):W32:=(a &&& b) ^^^ (a &&& c) ^^^ (b &&& c)
def rstep (s:St) (k w:W32):St :=⟨(s.h+big1 s.e+ch s.e s.f s.g+k+w)+(big0 s.a+maj s.a s.b s.c),s.a,s.b,s.c,s.d+(s.h+big1 s.e+ch s.e s.f s.g+k+w),s.e,s.f,s.g⟩
def Q44 (s:St) (ws:List W32):Nat->St
 | 0=>s
 | t+1=>rstep (Q44 s ws t) (kc.getD t 0) (ws.getD t 0)
def Q0o (s:St) (blk:List UInt8):St:=s.add (Q44 s (Q0Y blk 64) 64)
end
section
open Go.RowKit Go.Lib
theorem maskN (a:Nat) (ha:a<18446744073709551616):bits .and .u64 (a:Int) 4294967295=((a % 4294967296:Nat):Int):=by have h:=bits_and_u64_nat a 4294967295 ha (by omega);have e:a &&& 4294967295=a % 4294967296:=Nat.and_two_pow_sub_one_eq_mod a 32;rw [e] at h;exact h
theorem divN (a:Nat):(a:Int) / 4294967296=((a / 4294967296:Nat):Int):=by omega
theorem mulN (a b:Nat):(a:Int)*(b:Int)=((a*b:Nat):Int):=(Int.natCast_mul a b).symm
theorem addN (a b:Nat):(a:Int)+(b:Int)=((a+b:Nat):Int):=(Int.natCast_add a b).symm
theorem Q7E (a:Nat) (ha:a<18446744073709551616):IntKind.u64.wrap (a:Int)=(a:Int):=by rw [IntKind.wrap_u64]; omega
theorem wrapM (a:Nat):IntKind.u64.wrap (a:Int)=((a % 18446744073709551616:Nat):Int):=by rw [IntKind.wrap_u64]; omega
theorem QaT (x y:Nat) (hx:x<18446744073709551616) (hy:y<18446744073709551616) (w:zB) :
 zO zS 126 #[.int .u64 x,.int .u64 y] w fun e w'=>e=.returned (.tuple #[.int .u64 ((x*y / 18446744073709551616:Nat):Int),.int .u64 ((x*y % 18446744073709551616:Nat):Int)])/\w=w':=by
 obtain⟨bd,bt,bw,hhi⟩:=Lib.mul64_hi x y hx hy;have ba:=Lib.half_mul_le (a:=x / 4294967296) (b:=y / 4294967296) (by omega) (by omega);have bb:=Lib.half_mul_le (a:=x / 4294967296) (b:=y % 4294967296) (by omega) (by omega);have bc:=Lib.half_mul_le (a:=x % 4294967296) (b:=y / 4294967296) (by omega) (by omega);have ba':x / 4294967296*(y / 4294967296)<18446744073709551616:=by omega
 have bb':x / 4294967296*(y % 4294967296)<18446744073709551616:=by omega
 have bc':x % 4294967296*(y / 4294967296)<18446744073709551616:=by omega
 have bh1:x / 4294967296*(y / 4294967296)+(x / 4294967296*(y % 4294967296)+x % 4294967296*(y % 4294967296) / 4294967296) / 4294967296<18446744073709551616:=by omega
 have bh:x / 4294967296*(y / 4294967296)+(x / 4294967296*(y % 4294967296)+x % 4294967296*(y % 4294967296) / 4294967296) / 4294967296+((x / 4294967296*(y % 4294967296)+x % 4294967296*(y % 4294967296) / 4294967296) % 4294967296+x % 4294967296*(y / 4294967296)) / 4294967296<18446744073709551616:=by omega
 go_enter Tryz.func126,Tryz.ntmps126
 go_wp2
 simp only [maskN x hx,maskN y hy,divN,mulN,addN,Q7E _ bd,Q7E _ bb',Q7E _ bt,maskN _ bt,Q7E _ bc',Q7E _ bw,Q7E _ ba',Q7E _ bh1,Q7E _ bh,wrapM (x*y)];rw [hhi];go_ret2
 exact⟨rfl,rfl⟩
theorem Qap (x y:Nat) (w:zB) :
 (callFunc 183 #[.int .u64 x,.int .u64 y,.int .u64 0]).run zS w =
  .ok (.value (.tuple #[.int .u64 (((x+y) % 18446744073709551616:Nat):Int),.int .u64 (((x+y) / 18446744073709551616:Nat):Int)])) w:=by
 rw [run_callFunc_extern Tryz.func183 (by kernel_rfl) (by kernel_rfl) (by kernel_rfl) (e:=add64Entry) (by kernel_rfl)];have h:=run_add64 (P:=zS) x y 0 (by omega) (by omega) (by omega) (by omega) w;rw [h];simp only [Result.andThen];congr 5 <;> omega
theorem Q7r (x y h l:Nat) (hx:x<18446744073709551616) (hy:y<18446744073709551616) (eh:x*y / 18446744073709551616=h) (el:x*y % 18446744073709551616=l) (w:zB) :
 zO zS 126 #[.int .u64 x,.int .u64 y] w fun e w'=>e=.returned (.tuple #[.int .u64 (h:Int),.int .u64 (l:Int)])/\w=w':=by
 subst eh el; exact QaT x y hx hy w
theorem add64_as (x y s c:Nat) (es:(x+y) % 18446744073709551616=s) (ec:(x+y) / 18446744073709551616=c) (w:zB) :
 (callFunc 183 #[.int .u64 x,.int .u64 y,.int .u64 0]).run zS w=.ok (.value (.tuple #[.int .u64 (s:Int),.int .u64 (c:Int)])) w:=by
 subst es ec; exact Qap x y w
def Q78 (h l p:Nat):Bool:=decide (h<p\/(h=p/\l=0))
def Q7o (x p:Nat):Bool:=Q78 (x*x / 18446744073709551616) (x*x % 18446744073709551616) p
def Q73 (x p:Nat):Bool :=
 decide ((x*x / 18446744073709551616*x % 18446744073709551616+x*x % 18446744073709551616*x / 18446744073709551616) / 18446744073709551616=0) &&
  Q78 ((x*x / 18446744073709551616*x % 18446744073709551616+x*x % 18446744073709551616*x / 18446744073709551616) % 18446744073709551616)
   (x*x % 18446744073709551616*x % 18446744073709551616) (p*4294967296 % 18446744073709551616)
theorem Q8N (x p:Nat) (hx:x<18446744073709551616) (w:zB) :
 zO zS 182 #[.int .u64 x,.int .u64 p,.int .i64 2] w fun e w'=>e=.returned (.bool (Q7o x p))/\w=w':=by
 unfold Q7o;obtain⟨h,eh⟩:∃ h,x*x / 18446744073709551616=h:=⟨_,rfl⟩;obtain⟨l,el⟩:∃ l,x*x % 18446744073709551616=l:=⟨_,rfl⟩;rw [eh,el];have hm:=Q7r x x h l hx hx eh el;clear eh el;have HM:=sH hm;clear hm;go_enter Tryz.func182,Tryz.ntmps182
 go_wp2_with (go_at_call 126; refine(HM.out _).mono ?_; rintro _ _ ⟨rfl,rfl⟩)
 all_goals go_ret
 iterate 3 ·exact⟨Q0C (by unfold Q78; rw [Bool.eq_iff_iff]; simp; omega),rfl⟩
theorem Q8Q (x p:Nat) (hx:x<18446744073709551616) (hp:p<18446744073709551616) (w:zB) :
 zO zS 182 #[.int .u64 x,.int .u64 p,.int .i64 3] w fun e w'=>e=.returned (.bool (Q73 x p))/\w=w':=by
 unfold Q73;obtain⟨h,eh⟩:∃ h,x*x / 18446744073709551616=h:=⟨_,rfl⟩;obtain⟨l,el⟩:∃ l,x*x % 18446744073709551616=l:=⟨_,rfl⟩;rw [eh,el];have hl:l<18446744073709551616:=by rw [<- el]; exact Nat.mod_lt _ (by omega)
 obtain⟨h2,eh2⟩:∃ h2,l*x / 18446744073709551616=h2:=⟨_,rfl⟩;obtain⟨l2,el2⟩:∃ l2,l*x % 18446744073709551616=l2:=⟨_,rfl⟩;obtain⟨m,em⟩:∃ m,h*x % 18446744073709551616=m:=⟨_,rfl⟩;obtain⟨q,eq⟩:∃ q,p*4294967296 % 18446744073709551616=q:=⟨_,rfl⟩;rw [eh2,el2,em,eq];obtain⟨s,es⟩:∃ s,(m+h2) % 18446744073709551616=s:=⟨_,rfl⟩;obtain⟨c,ec⟩:∃ c,(m+h2) / 18446744073709551616=c:=⟨_,rfl⟩;rw [es,ec];have HM:=sH (Q7r x x h l hx hx eh el);have HM2:=sH (Q7r l x h2 l2 hl hx eh2 el2);have hadd:=add64_as m h2 s c es ec;have hmm:IntKind.u64.wrap ((h:Int)*(x:Int))=(m:Int):=by rw [IntKind.wrap_u64,<- em,Int.natCast_emod,Int.natCast_mul]; rfl
 have hqq:IntKind.u64.wrap ((p:Int)*4294967296)=(q:Int):=by rw [IntKind.wrap_u64,<- eq]; omega
 have hmm':((h:Int)*(x:Int)) % 18446744073709551616=(m:Int):=by rw [<- em,Int.natCast_emod,Int.natCast_mul]; rfl
 have hqq':((p:Int)*4294967296) % 18446744073709551616=(q:Int):=by rw [<- eq]; omega
 clear eh el eh2 el2 em eq es ec;go_enter Tryz.func182,Tryz.ntmps182
 go_wp2_with fail
 refine(HM.out _).mono ?_;rintro _ _ ⟨rfl,rfl⟩;go_wp2_with fail
 refine(HM2.out _).mono ?_;rintro _ _ ⟨rfl,rfl⟩;go_wp2_with fail
 all_goals go_ret
 all_goals exact⟨Q0C (by unfold Q78; rw [Bool.eq_iff_iff]; simp; omega),rfl⟩
def Q6v (f:Nat->Bool):Nat->Nat->Nat->Nat
 | 0,_,x=>x
 | n+1,b,x=>Q6v f n (b / 2) (if f (x ||| b) then x ||| b else x)
def rootF (f:Nat->Bool):Nat:=Q6v f 37 68719476736 0 % 4294967296
theorem or_lt37 {x b:Nat} (hx:x<137438953472) (hb:b<137438953472):x ||| b<137438953472:=Nat.or_lt_two_pow (n:=37) hx hb
theorem Q9d (f:Nat->Bool) (p:Nat) (pw:Int) (hf:∀ (x:Nat) (W:zB),x<137438953472->zO zS 182 #[.int .u64 (x:Int),.int .u64 (p:Int),.int .i64 pw] W fun e w'=>e=.returned (.bool (f x))/\W=w') (w:zB) :
 zO zS 173 #[.int .u64 (p:Int),.int .i64 pw] w fun e w'=>e=.returned (.int .u32 (rootF f:Nat))/\w=w':=by
 have HF:=sH hf;clear hf;go_enter Tryz.func173,Tryz.ntmps173
 go_wp2
 go_loop [5,6] (fun vx vb=>∃ (n x b:Nat),n<=37/\b=2 ^ n / 2/\x<137438953472/\vx=.int .u64 (x:Int)/\vb=.int .u64 (b:Int)/\Q6v f n b x=Q6v f 37 68719476736 0) (fun _ vb=>(intOf vb).toNat)
 case atStart=>exact⟨37,0,68719476736,by omega,by decide,by omega,rfl,rfl,rfl⟩
 obtain⟨n,x,b,hn,hb,hx,rfl,rfl,hr⟩:=hrel;have hb37:b<137438953472:=by rw [hb];have h1:2 ^ n<=2 ^ 37:=Nat.pow_le_pow_right (by omega) hn;have h2:2 ^ n / 2<=2 ^ 37 / 2:=Nat.div_le_div_right h1;omega
 by_cases hb0:b=0
 ·subst hb0;have HR:=sH (zT hb hr);clear hb hr
  go_wp2
  go_ret
  obtain⟨hb,hr⟩:=HR.out;have hn0:n=0:=by
   rcases zK n with h | h
   ·exact h
   obtain⟨m,rfl⟩:∃ m,n=m+1:=⟨n - 1,by omega⟩;rw [Nat.pow_succ,Nat.mul_div_cancel _ (by omega)] at hb;have:=Nat.two_pow_pos m;omega
  subst hn0;rw [Q6v] at hr;exact⟨Qae (by unfold rootF; rw [<- hr]; first | (rw [IntKind.wrap_u32']; omega) | omega),rfl⟩
 obtain⟨m,rfl⟩:∃ m,n=m+1:=by
  rcases zK n with h | h
  ·subst h; exact absurd hb hb0
  exact⟨n - 1,by omega⟩
 have hbm:b / 2=2 ^ m / 2:=by rw [hb,Nat.pow_succ,Nat.mul_div_cancel _ (by omega)]
 rw [Q6v] at hr;have hxb:=or_lt37 hx hb37;have hor:bits .or .u64 (x:Int) (b:Int)=((x ||| b:Nat):Int):=u64_or_nat x b (by omega) (by omega);have hbp:0<b:=by omega
 have hlt:b / 2<b:=by omega
 by_cases hfx:f (x ||| b)=true
 ·rw [if_pos hfx] at hr;have HR:=sH (zT hb (zT hr hbm));clear hb hr hbm;go_wp2_with (go_at_call 182; refine(HF.out _ _ hxb).mono ?_; rintro _ _ ⟨rfl,rfl⟩)
  go_round
  case rel=>exact⟨m,x ||| b,b / 2,by omega,HR.out.2.2,hxb,rfl,by go_num,HR.out.2.1⟩
  case measure=>simp [intOf]; omega
 rw [if_neg hfx] at hr;have hff:f (x ||| b)=false:=by simpa using hfx
 clear hfx;have HR:=sH (zT hb (zT hr hbm));clear hb hr hbm;go_wp2_with (go_at_call 182; refine(HF.out _ _ hxb).mono ?_; rintro _ _ ⟨rfl,rfl⟩)
 go_round
 case rel=>exact⟨m,x,b / 2,by omega,HR.out.2.2,hx,rfl,by go_num,HR.out.2.1⟩
 case measure=>simp [intOf]; omega
theorem Q86 (k q:Nat):(((k+2) % q:Nat):Int)=((k:Int)+2) % (q:Int):=by rw [Int.natCast_emod]; rfl
def vu64 (n:Nat):zC:=.int .u64 (n:Int)
theorem u64_info:(Tryz.prog.info? 191).map (fun i=>(i.zero,i.size,i.bytes))=some (some (.int .u64 0),1,8):=by kernel_rfl
def Q8r (out:List Nat) (n:Nat):List Nat:=if out.any (fun p=>n % p == 0) then out else out++[n]
def pl:Nat->List Nat
 | 0=>[]
 | k+1=>Q8r (pl k) (k+2)
theorem Qbm (out:List Nat) (n:Nat):out.length<=(Q8r out n).length:=by unfold Q8r; split <;> simp
theorem Qat {a b:Nat} (h:a<=b):(pl a).length<=(pl b).length:=by
 induction b with
 | zero=>rw [show a=0 by omega]; exact zU _
 | succ b ih =>
  rcases zG a (b+1) with h1 | h1
  ·exact Nat.le_trans (ih (by omega)) (Qbm _ _)
  rw [show a=b+1 by omega]; exact zU _
theorem pl_le (k:Nat):(pl k).length<=k:=by
 induction k with
 | zero=>simp [pl]
 | succ k ih =>
  simp only [pl,Q8r];split
  ·omega
  rw [List.length_append]; simp; omega
theorem pl_bd (k:Nat):∀ p∈pl k,2<=p/\p<k+2:=by
 induction k with
 | zero=>intro p hp; simp [pl] at hp
 | succ k ih =>
  intro p hp;simp only [pl,Q8r] at hp;split at hp
  ·have:=ih p hp; omega
  rcases List.mem_append.1 hp with h | h
  ·have:=ih p h; omega
  simp at h; omega
theorem Q5x {w:zB} {B e size n:Nat} {v:zC} {xs:List zC} (h:w.ownsRow B e size v n xs):∃ A c,v=.slice A n c/\n<=c/\c<=maxLen:=by
 rcases h.2 with⟨rfl,rfl⟩ | ⟨g,cap,cur,rfl,_,_,h1,h2,_⟩
 ·exact⟨none,0,rfl,zU _,by unfold maxLen; omega⟩
 exact⟨_,cap,rfl,h1,h2⟩
theorem Q6x (many K:Nat) (hK:(pl K).length=many) (hlt:∀ k,k<K->(pl k).length<many) (hsm:K<1000) (w:zB) :
 zO zS 172 #[.int .i64 (many:Int)] w fun e w'=>∃ v,e=.returned v/\w'.ownsRow w.heap.size 191 1 v many ((pl K).map vu64)/\zE w.heap.size w w':=by
 have hm:=pl_le K;rw [hK] at hm;have HL:=sH (zT hK hlt);clear hK hlt;go_enter Tryz.func172,Tryz.ntmps172
 go_wp2
 go_step3
 go_wp2
 go_step3
 go_wp2
 go_loopg [3,4] K (fun g v n wr=>∃ k,k+g=K/\n=.int .u64 ((k:Int)+2)/\wr.ownsRow w.heap.size 191 1 v (pl k).length ((pl k).map vu64)/\zE w.heap.size w wr)
 case atStart=>exact⟨0,by omega,rfl,⟨by simp [pl],.inl ⟨rfl,by simp [pl]⟩⟩,Below.refl _ _⟩
 obtain⟨k,hk,rfl,hown,hbel⟩:=hrel;obtain⟨A,c,rfl,hc1,hc2⟩:=Q5x hown;have hl:=pl_le k;unfold maxLen at hc2;have HK:=sH hk;have hkK:k<=K:=by omega
 clear hk;by_cases hlt:(pl k).length<many
 ·have hkg:0<gk:=by
   have:=HK.out;rcases zK gk with h | h
   ·have hkk:k=K:=by omega
    rw [hkk,HL.out.1] at hlt; omega
   exact h
  have hrd:=Q04.of_own hown;have hpb:=pl_bd k;generalize hps:pl k=ps at *;have HPS:=sH hps;clear hps;have HPB:=sH hpb;clear hpb
  go_wp2
  obtain⟨wo,rfl⟩:∃ wo:zB,wo=wr:=⟨_,rfl⟩;obtain⟨gO,hgO⟩:∃ g,g=gk:=⟨_,rfl⟩;have HGO:=sH hgO;clear hgO
  go_loopg [15] ps.length (fun g i wr'=>∃ j,j+g=ps.length/\i=.int .i64 (j:Int)/\Hid (∀ q,q<j->(k+2) % ps.getD q 0≠0)/\wo=wr')
  case atStart=>exact⟨0,by omega,rfl,by intro q hq; omega,rfl⟩
  obtain⟨j,hj,rfl,HJ,rfl⟩:=hrel;have HJJ:=sH hj;have hjl:j<=ps.length:=by omega
  clear hj;by_cases hjlt:j<ps.length
  ·obtain⟨ad,u,hAd,_,hx,hcx⟩:=hrd.at_ (k:=j) hjlt;obtain⟨q,hq,rfl⟩:∃ q,ps.getD j 0=q/\u=.int .u64 (q:Int):=by
    rw [zP,zD hjlt] at hx;refine⟨ps[j],by rw [zV,zD hjlt]; rfl,?_⟩;simpa [vu64] using hx.symm
   have hqb:2<=q/\q<k+2:=by refine HPB.out q ?_;rw [<- hq,zV,zD hjlt];exact List.getElem_mem hjlt
   have hq2:=hqb.1;have hqk:=hqb.2;subst hAd;have HQ:=sH hq;clear hq hx hqb;by_cases hdv:(k+2) % q=0
   ·have hz:((((k:Int)+2) % (q:Int)) == 0)=true:=by
     rw [beq_iff_eq,<- Q86,hdv]; rfl
    have HDV:=sH hdv;clear hdv
    go_wp2
    go_roundg (gO - 1)
    case measure=>have:=HGO.out; omega
    have hg:=HGO.out;have hk:=HK.out;have hps:=HPS.out;have hany:ps.any (fun p=>(k+2) % p == 0)=true:=by rw [List.any_eq_true];refine⟨q,?_,by rw [HDV.out]; rfl⟩;rw [<- HQ.out,zV,zD hjlt];exact List.getElem_mem hjlt
    have hpl:pl (k+1)=ps:=by rw [pl,Q8r,hps,if_pos hany]
    exact⟨k+1,by omega,by go_num,by rw [hpl]; exact hown,hbel⟩
   have hz:((((k:Int)+2) % (q:Int)) == 0)=false:=by rw [beq_eq_false_iff_ne,<- Q86]; omega
   have HDV:=sH hdv;clear hdv
   go_wp2
   go_roundg (gk - 1)
   case measure=>have:=HJJ.out; omega
   have hj:=HJJ.out;refine⟨j+1,by omega,by go_num,?_,rfl⟩;intro r hr;rcases zG r j with h | h
   ·exact HJ.out r h
   rw [show r=j by omega,HQ.out]; exact HDV.out
  obtain rfl:j=ps.length:=by omega
  obtain⟨i0,hi0,hz0,hz1,hz2⟩:=info_parts u64_info;go_wp2_with (at_builtin; go_must (refine wpList_append_own _ rfl (.tmp 24) (.tmp 26) _ rfl w.heap.size 191 i0 _ 1 8 Tryz.underlying244 hi0 hz0 hz1 hz2 rfl (by omega) _ _ _ rfl (hown.alloc _) ⟨wo.heap.size,0,none⟩ 1 1 [.int .u64 ((k:Int)+2)] rfl rfl ?c1 ?c2 ?c3 ?c4 ?c5 ?_))
  case c1=>exact cell_one_new _ _ _
  case c2=>intro u hu; simp at hu; subst hu; rfl
  case c3=>unfold maxLen; omega
  case c4=>omega
  case c5=>have:=hbel.size; simp; omega
  intro v1 w1 hown1 hg1 _
  go_wp2
  go_roundg (gO - 1)
  case measure=>have:=HGO.out; omega
  have hg:=HGO.out;have hk:=HK.out;have hps:=HPS.out;have hany:ps.any (fun p=>(k+2) % p == 0)=false:=by rw [List.any_eq_false];intro q hq h;obtain⟨r,hr,rfl⟩:=List.getElem_of_mem hq;have h2:=HJ.out r hr;rw [zV,zD hr] at h2;exact h2 (by simpa using h)
  have hpl:pl (k+1)=ps++[k+2]:=by rw [pl,Q8r,hps,if_neg (by rw [hany]; simp)]
  refine⟨k+1,by omega,by go_num,?_,(hbel.alloc hbel.size _).grown hg1 (by have:=hbel.size; simp; omega) ?_⟩
  ·rw [hpl,List.map_append,List.length_append];exact hown1
  intro b hb;rcases hown.2 with⟨h1,_⟩ | ⟨g,cap,cur,h1,h2,_⟩
  ·injection h1 with h1; subst h1; simp [zI] at hb
  injection h1 with h1; subst h1; simp [zI] at hb; omega
 have hkk:k=K:=by
  rcases zG k K with h | h
  ·exact absurd (HL.out.2 k h) hlt
  omega
 have HKK:=sH hkk;clear hkk
 go_wp2
 try rw [Exit.noGoto_ret]
 go_ret
 obtain rfl:=HKK.out;exact⟨_,rfl,by rw [<- HL.out.1]; exact hown,hbel⟩
end
section
open Go.RowKit
structure Q06 (g:Nat) (w w':zB):Prop where
 os:w'.os=w.os
 tape:w'.tape=w.tape
 output:w'.output=w.output
 size:w'.heap.size=w.heap.size
 block:∀ k,k≠g->w'.heap[k]?=w.heap[k]?
theorem Q06.refl (g:Nat) (w:zB):Q06 g w w:=⟨rfl,rfl,rfl,rfl,fun _ _=>rfl⟩
theorem Q06.trans {g:Nat} {a b c:zB} (h:Q06 g a b) (k:Q06 g b c):Q06 g a c :=⟨k.os.trans h.os,k.tape.trans h.tape,k.output.trans h.output,k.size.trans h.size,fun i hi=>(k.block i hi).trans (h.block i hi)⟩
theorem Q06.setRow (w:zB) (g:Nat) (cs:Array zC):Q06 g w (w.setRow g cs) :=⟨rfl,rfl,rfl,by simp [World.setRow],fun k hk=>by simp only [World.setRow,Array.getElem?_modify]; rw [if_neg (fun h=>hk h.symm)]⟩
theorem Q06.setCell (w:zB) (p:zA) (u:zC):Q06 p.block w (w.setCell p u) :=⟨rfl,rfl,rfl,by simp [World.setCell],fun k hk=>Below.heap_setCell w p u k hk⟩
theorem Q06.drewN {g:Nat} {w w':zB} (h:Q06 g w w') (n:Nat):Q06 g w (w'.drewN n):=⟨h.os,h.tape,h.output,h.size,h.block⟩
theorem Q06.blk {g k:Nat} {w w':zB} {t:zF} {cs:Array zC} (h:Q06 g w w') (hb:Blk w k t cs) (hk:k≠g):Blk w' k t cs:=(h.block k hk).trans hb
theorem Q06.below {B g:Nat} {a w w':zB} (h:Q06 g w w') (hb:zE B a w) (hg:B<=g):zE B a w' :=hb.trans ⟨h.os,h.tape,h.output,by rw [h.size]; exact zU _,fun k hk=>h.block k (by omega)⟩
theorem Q06.cell {g:Nat} {w w':zB} (h:Q06 g w w') {p:zA} (hp:p.block≠g):w'.cell? p=w.cell? p:=World.cell?_of_block (h.block p.block hp)
theorem Q06.grown {g:Nat} {w w':zB} (h:Q06 g w w'):w.grownBy w' (some g) :=⟨h.os,h.tape,h.output,by rw [h.size]; exact zU _,fun k _ hk=>h.block k (fun e=>hk (by rw [e]))⟩
theorem Q8h {a w w':zB} {row:Option Nat} {r:Nat} (h:a.grownBy w row) (ht:Q06 r w w') (hr:a.heap.size<=r):a.grownBy w' row :=⟨ht.os.trans h.os,ht.tape.trans h.tape,ht.output.trans h.output,by rw [ht.size]; exact h.size,fun k hk hn=>(ht.block k (by omega)).trans (h.block k hk hn)⟩
def spl (cur:Array zC) (o:Nat) (vs:List zC):Array zC:=(cur.toList.take o++vs++cur.toList.drop (o+vs.length)).toArray
theorem Q4c {cur:Array zC} {o:Nat} {vs:List zC} (h:o+vs.length<=cur.size):(spl cur o vs).size=cur.size:=by simp [spl]; omega
theorem Q4y {cur:Array zC} {o:Nat} {vs:List zC} (h:o+vs.length<=cur.size) (j:Nat):(spl cur o vs)[j]?=if o<=j/\j<o+vs.length then vs[j - o]? else cur[j]?:=by
 unfold spl;rw [List.getElem?_toArray];by_cases h1:j<o
 ·rw [if_neg (by omega),zW,List.getElem?_append_left (by simp; omega),List.getElem?_take,if_pos h1]; simp
 by_cases h2:j<o+vs.length
 ·rw [if_pos (by omega),zW,zX (by simp; omega),List.getElem?_append_left (by simp; omega)];congr 1; simp; omega
 rw [if_neg (by omega),zW,zX (by simp; omega),zX (by simp; omega),List.getElem?_drop]
 simp
 congr 1; omega
theorem Q5d {n o m:Nat} {f g:Nat->zC} {vs:List zC} (hm:vs.length=m) (hv:∀ j,j<m->vs[j]?=some (g j)) (h:o+m<=n):spl (rng n f) o vs=rng n (fun j=>if o<=j/\j<o+m then g (j - o) else f j):=by
 refine Q3Q (by rw [Q4c (by rw [Q0q,hm]; exact h),Q0q]) fun j hj=>?_
 rw [Q4y (by rw [Q0q,hm]; exact h),hm];split
 ·exact hv _ (by omega)
 exact Q15 _ _ _ hj
theorem Q0a (cs vs:Array zC) (h:vs.size=cs.size):spl cs 0 vs.toList=vs:=by unfold spl;rw [List.take_zero,List.nil_append,zY,List.drop_eq_nil_of_le (by simp; omega),List.append_nil]
theorem QaI (n:Nat) (l:List W32):(rng n (fun j=>vw (l.getD j 0))).all (·.oneCell')=true:=by simp [rng,vw,Value.oneCell']
section
variable {P:zJ}
theorem Q0R (g o j:Nat):(⟨g,o,none⟩:zA).add j=⟨g,o+j,none⟩:=by unfold Addr.add; split <;> simp_all
theorem Q3B {t e:zF} {n:Nat} (ht:P.underlying t=some (.array n e)) (hs:(P.info? e).map (·.size)=some 1) (a:zA) (l:Nat) (li:Int) (el:li=l) (hl:l<n) (W:zB) :
 (Instr.sliceAt t (.pointer (some a)) (some (.int .i64 li)) none none).run P W=.ok (.slice (some (a.add l)) (n - l) (n - l)) W:=by
 subst el;obtain⟨i,hi,hsz⟩:∃ i,P.info? e=some i/\i.size=1:=by
  cases hh:P.info? e with
  | none=>rw [hh] at hs; cases hs
  | some i=>rw [hh] at hs; exact⟨i,rfl,by simpa using hs⟩
 have he:P.elem t=e:=by simp [Program.elem,ht]
 have hln:P.arrayLen t=n:=by simp [Program.arrayLen,ht]
 rw [run_sliceAt_array_l W t a (by rw [he,hln]; exact ht) .i64 (l:Int) (by omega) (by rw [hln]; omega)];simp [he,hln,sizeOf,typeInfo,hi,hsz,slicedAt,show ¬ n=l by omega]
theorem Q0G {t e:zF} (ht:P.underlying t=some (.slice e)) (hs:(P.info? e).map (·.size)=some 1) (A:Option zA) (len cap l:Nat) (li:Int) (el:li=l) (hl:l<=len) (W:zB) :
 (Instr.slice t (.slice A len cap) (some (.int .i64 li)) none none).run P W=.ok (.slice (if cap=l then A else A.map (·.add l)) (len - l) (cap - l)) W:=by
 subst el;obtain⟨i,hi,hsz⟩:∃ i,P.info? e=some i/\i.size=1:=by
  cases hh:P.info? e with
  | none=>rw [hh] at hs; cases hs
  | some i=>rw [hh] at hs; exact⟨i,rfl,by simpa using hs⟩
 have he:P.elem t=e:=by simp [Program.elem,ht]
 rw [run_slice_l W t A len cap (by rw [he]; exact ht) .i64 (l:Int) (by omega) (by omega)];simp [he,sizeOf,typeInfo,hi,hsz,sliced]
theorem Q16 (w:zB) (g o n:Nat) (t ty:zF) (cs vs:Array zC) (d:TypeDesc) (hB:Blk w g t cs)
 (hu:P.underlying ty=some d) (hd:(match d with | .struct _ | .array _ _=>true | _=>false)=true) (hi:(P.info? ty).map (·.size)=some n)
 (hn:vs.size=n) (hv:∀ j,j<n->cs[o+j]?=vs[j]?) :
 (loadVar ty ⟨g,o,none⟩).run P w=.ok (.agg vs) w:=by
 have hl:(loadCells ⟨g,o,none⟩ vs.toList.length).run P w=.ok vs.toList.toArray w :=
  run_loadCells_list (P:=P) w ⟨g,o,none⟩ vs.toList (fun j v hj=>by
   have hjn:j<n:=by
    rcases zG j vs.toList.length with h | h
    ·simpa [hn] using h
    rw [zQ h] at hj; cases hj
   rw [Q0R,hB.cell,hv j hjn];simpa using hj)
 cases hq:P.info? ty with
 | none=>simp [hq] at hi
 | some i =>
  have hs:i.size=n:=by simpa [hq] using hi
  have hagg:(isAgg ty).run P w=.ok true w:=by unfold isAgg;rw [zM,run_underlying hu w];cases d <;> simp_all
  simp only [Array.length_toList,Array.toArray_toList,hn] at hl;simp [loadVar,zM,hagg,sizeOf,typeInfo,hq,hs,hl]
theorem Q4B {o:zL} {a:Act} {w:zB} {K:Act->zB->Prop} {Q:Exit->Act->zB->Prop} (ty:zF) (x:Operand) (ho:o.op=.load ty x)
 (g off n:Nat) (hx:a.eval x=.pointer (some ⟨g,off,none⟩)) (t:zF) (cs vs:Array zC) (d:TypeDesc) (hB:Blk w g t cs)
 (hu:P.underlying ty=some d) (hd:(match d with | .struct _ | .array _ _=>true | _=>false)=true) (hi:(P.info? ty).map (·.size)=some n)
 (hn:vs.size=n) (hv:∀ j,j<n->cs[off+j]?=vs[j]?)
 (h:K (a.put o.dst (.agg vs)) w):o.wp P a w K Q:=by
 unfold Oper.wp execOp;simp only [ho,hx,Instr.loadAt,Instr.sureAddr,zM,Sem.run_pure,zN,Q16 w g off n t ty cs vs d hB hu hd hi hn hv];exact h
theorem Q01 {ops:Array zL} {rest:List zL} {o:zL} {a:Act} {w:zB} {Q:Exit->Act->zB->Prop} (hgd:o.guard=none) (ty:zF) (x:Operand) (ho:o.op=.load ty x)
 (g off n:Nat) (hx:a.eval x=.pointer (some ⟨g,off,none⟩)) (t:zF) (cs vs:Array zC) (d:TypeDesc) (hB:Blk w g t cs)
 (hu:P.underlying ty=some d) (hd:(match d with | .struct _ | .array _ _=>true | _=>false)=true) (hi:(P.info? ty).map (·.size)=some n)
 (hn:vs.size=n) (hv:∀ j,j<n->cs[off+j]?=vs[j]?)
 (h:wpList P ops Q rest (a.put o.dst (.agg vs)) w):wpList P ops Q (o :: rest) a w :=
 wpList_plain hgd fun _ hK=>Q4B ty x ho g off n hx t cs vs d hB hu hd hi hn hv (hK _ _ h)
theorem Q4v (w:zB) (g o:Nat) (t ty:zF) (cs vs:Array zC) (hB:Blk w g t cs) (hi:(P.info? ty).map (·.size)=some vs.size)
 (ho:o+vs.size<=cs.size) (h1:vs.all (·.oneCell')=true) :
 (storeVar ty ⟨g,o,none⟩ (.agg vs)).run P w=.ok () (w.setRow g (spl cs o vs.toList)):=by
 have:=run_storeCells_at P g o t vs.toList 0 cs w hB (by simpa using ho) (fun v hv=>(Array.all_eq_true_iff_forall_mem.1 h1) v (by simpa using hv));cases hq:P.info? ty with
 | none=>simp [hq] at hi
 | some i =>
  have hs:vs.size=i.size:=by simp [hq] at hi; omega
  simp only [Nat.add_zero] at this;simp [storeVar,sizeOf,typeInfo,hq,Value.cells,hs,this,spl]
theorem Q36 {o:zL} {a:Act} {w:zB} {K:Act->zB->Prop} {Q:Exit->Act->zB->Prop} (ty:zF) (x y:Operand) (ho:o.op=.store ty x y)
 (g off:Nat) (vs:Array zC) (hx:a.eval x=.pointer (some ⟨g,off,none⟩)) (hy:a.eval y=.agg vs)
 (t:zF) (cs:Array zC) (hB:Blk w g t cs) (hi:(P.info? ty).map (·.size)=some vs.size)
 (hold:off+vs.size<=cs.size) (h1:vs.all (·.oneCell')=true)
 (h:∀ W',Q06 g w W'->Blk W' g t (spl cs off vs.toList)->K (a.put o.dst undef) W'):o.wp P a w K Q:=by
 unfold Oper.wp execOp;simp only [ho,hx,hy,Instr.storeAt,Instr.sureAddr,zM,Sem.run_pure,zN,Q4v w g off t ty cs vs hB hi hold h1];exact h _ (Q06.setRow w g _) (setRow_heap w g cs _ t _ hB)
theorem Q00 {ops:Array zL} {rest:List zL} {o:zL} {a:Act} {w:zB} {Q:Exit->Act->zB->Prop} (hgd:o.guard=none) (ty:zF) (x y:Operand) (ho:o.op=.store ty x y)
 (g off:Nat) (vs:Array zC) (hx:a.eval x=.pointer (some ⟨g,off,none⟩)) (hy:a.eval y=.agg vs)
 (t:zF) (cs:Array zC) (hB:Blk w g t cs) (hi:(P.info? ty).map (·.size)=some vs.size)
 (hold:off+vs.size<=cs.size) (h1:vs.all (·.oneCell')=true)
 (h:∀ W',Q06 g w W'->Blk W' g t (spl cs off vs.toList)->wpList P ops Q rest (a.put o.dst undef) W'):wpList P ops Q (o :: rest) a w :=
 wpList_plain hgd fun _ hK=>Q36 ty x y ho g off vs hx hy t cs hB hi hold h1 fun W' h2 h3=>hK _ _ (h W' h2 h3)
theorem Q4M {ops:Array zL} {rest:List zL} {o:zL} {a:Act} {w:zB} {Q:Exit->Act->zB->Prop} (hgd:o.guard=none) (d s:Operand) (dT sT elem:zF)
 (ho:o.op=.call { callee:=.builtin .copy,args:=#[d,s],argTypes:=#[dT,sT] })
 (g off dLen dCap sLen sCap:Nat) (ad:zA) (t:zF) (cs:Array zC) (vs:List zC)
 (hd:a.eval d=.slice (some ⟨g,off,none⟩) dLen dCap) (hs:a.eval s=.slice (some ad) sLen sCap)
 (hu:P.underlying dT=some (.slice elem)) (hsz:(P.info? elem).map (·.size)=some 1)
 (hB:Blk w g t cs) (hn:vs.length=Nat.min sLen dLen) (hsrc:∀ j v,vs[j]?=some v->w.cell? (ad.add j)=some v) (hfit:off+vs.length<=cs.size) (h1:∀ v∈vs,v.oneCell'=true)
 (h:∀ W',Q06 g w W'->Blk W' g t (spl cs off vs)->wpList P ops Q rest (a.put o.dst (.int .i64 (vs.length:Int))) W'):wpList P ops Q (o :: rest) a w :=
 wpList_plain hgd fun _ hK=>by unfold Oper.wp execOp;simp only [ho,resolve,invoke,builtin,zM,Sem.run_pure,zN,List.map_toArray,List.map_cons,List.map_nil,hd,hs,run_copy_row (P:=P) w dT sT o.type elem g off dLen dCap ad sLen sCap cs t vs hu hsz hB hn hsrc hfit h1];exact hK _ _ (h _ (Q06.setRow w g _) (setRow_heap w g cs _ t _ hB))
theorem Q74 (z:zC) (n:Nat):(Builtin.zeroCells #[z] n).toList=zZ n z:=by
 unfold Builtin.zeroCells;apply List.ext_getElem
 ·simp
 intro i h1 h2;simp [Nat.mod_one]
theorem Q2O {ops:Array zL} {rest:List zL} {o:zL} {a:Act} {w:zB} {Q:Exit->Act->zB->Prop} (hgd:o.guard=none) (d:Operand) (dT elem:zF)
 (ho:o.op=.call { callee:=.builtin .clear,args:=#[d],argTypes:=#[dT] })
 (g off n cap:Nat) (t:zF) (cs:Array zC) (z:zC) (hd:a.eval d=.slice (some ⟨g,off,none⟩) (n+1) cap)
 (hu:P.underlying dT=some (.slice elem)) (hz:(zeroValue elem).run P w=.ok z w) (hzc:z.cells=#[z]) (hz1:z.oneCell'=true)
 (hB:Blk w g t cs) (hfit:off+(n+1)<=cs.size)
 (h:∀ W',Q06 g w W'->Blk W' g t (spl cs off (zZ (n+1) z))->wpList P ops Q rest (a.put o.dst (.tuple #[])) W'):wpList P ops Q (o :: rest) a w :=
 wpList_plain hgd fun _ hK=>by
  have hst:=run_storeCells_at P g off t (zZ (n+1) z) 0 cs w hB (by simpa using hfit) (fun v hv=>by rw [List.eq_of_mem_replicate hv]; exact hz1);have hrun:(Builtin.clear_ #[dT] o.type #[.slice (some ⟨g,off,none⟩) (n+1) cap]).run P w=.ok (.tuple #[]) (w.setRow g (spl cs off (zZ (n+1) z))):=by simp only [Nat.add_zero] at hst;simp only [spl];rw [<- Q74 z (n+1)] at hst ⊢;simp [Builtin.clear_,run_underlying hu,hz,hzc,hst]
  unfold Oper.wp execOp;simp only [ho,resolve,invoke,builtin,zM,Sem.run_pure,zN,List.map_toArray,List.map_cons,List.map_nil,hd,hrun];exact hK _ _ (h _ (Q06.setRow w g _) (setRow_heap w g cs _ t _ hB))
theorem Q0n {o:zL} {a:Act} {w:zB} (ty:zF) (x:Operand) (ho:o.op=.load ty x)
 (g off n:Nat) (hx:a.eval x=.pointer (some ⟨g,off,none⟩)) (t:zF) (cs vs:Array zC) (d:TypeDesc) (hB:Blk w g t cs)
 (hu:P.underlying ty=some d) (hd:(match d with | .struct _ | .array _ _=>true | _=>false)=true) (hi:(P.info? ty).map (·.size)=some n)
 (hn:vs.size=n) (hv:∀ j,j<n->cs[off+j]?=vs[j]?):(execOp a.eval o).run P w=.ok (.value (.agg vs)) w:=by
 unfold execOp;simp only [ho,hx,Instr.loadAt,Instr.sureAddr,zM,Sem.run_pure,zN,Q16 w g off n t ty cs vs d hB hu hd hi hn hv]
theorem Q03 {fn:Func} {p u:Tmp} {ty:zF} (h:fn.results=#[.cell p ty,.tmp u]) (tmps:Array zC) (w:zB) (g n:Nat) (t:zF) (cs:Array zC) (d:TypeDesc)
 (hp:tmps.getD p undef=.pointer (some ⟨g,0,none⟩)) (hB:Blk w g t cs)
 (hu:P.underlying ty=some d) (hd:(match d with | .struct _ | .array _ _=>true | _=>false)=true) (hi:(P.info? ty).map (·.size)=some n) (hn:cs.size=n) :
 (results fn tmps).run P w=.ok (.tuple #[.agg cs,tmps.getD u undef]) w:=by
 rw [results_cell_tmp h,hp];simp [asAddr,Q16 w g 0 n t ty cs cs d hB hu hd hi hn (fun j _=>by rw [zY])]
theorem Q9j (cs:Array zC) (o:Nat) (v:zC) (vs:List zC) (h:o+(vs.length+1)<=cs.size):spl cs o (v :: vs)=spl (cs.setIfInBounds o v) (o+1) vs:=by
 apply Array.ext_getElem?
 intro j;rw [Q4y (by simpa using h),Q4y (by simp; omega),Array.getElem?_setIfInBounds];by_cases h1:j=o
 ·subst h1;rw [if_pos (by simp),if_neg (by omega),if_pos rfl,if_pos (by omega)]
  simp
 by_cases h2:o<=j/\j<o+(v :: vs).length
 ·simp only [List.length_cons] at h2;rw [if_pos (by simp; omega),if_pos (by omega),show j - o=(j - (o+1))+1 by omega,List.getElem?_cons_succ]
 rw [if_neg h2,if_neg (by simp at h2; omega),if_neg (fun e=>h1 e.symm)]
theorem Blk.setCells {w:zB} {g:Nat} {t:zF} {cs:Array zC} (o:Nat) (vs:List zC) (hB:Blk w g t cs) (h:o+vs.length<=cs.size):Blk (w.setCells g o vs) g t (spl cs o vs)/\Q06 g w (w.setCells g o vs):=by
 induction vs generalizing o w cs with
 | nil =>
  refine⟨?_,Q06.refl _ _⟩;have:spl cs o []=cs:=by unfold spl; simp
  rw [this]; exact hB
 | cons v vs ih =>simp only [World.setCells];have h1:=ih (w:=w.setCell ⟨g,o,none⟩ v) (cs:=cs.setIfInBounds o v) (o+1) (hB.set_ o v) (by simp at h ⊢; omega);rw [Q9j cs o v vs (by simpa using h)];exact⟨h1.1,(Q06.setCell w ⟨g,o,none⟩ v).trans h1.2⟩
theorem Blk.there {w:zB} {g:Nat} {t:zF} {cs:Array zC} (hB:Blk w g t cs) (o n:Nat) (h:o+n<=cs.size):w.there g o n:=fun j hj =>⟨by rw [hB.cell,Array.getElem?_eq_getElem (by omega)]; rfl,hB.frozen _⟩
theorem Q1y {ops:Array zL} {o:zL} {a:Act} {w:zB} {K:Act->zB->Prop} {Q:Exit->Act->zB->Prop} {E:Prop} (hgd:o.guard=none) (ty:zF) (x y:Operand) (ho:o.op=.store ty x y)
 (g off:Nat) (vs:Array zC) (hx:a.eval x=.pointer (some ⟨g,off,none⟩)) (hy:a.eval y=.agg vs)
 (t:zF) (cs:Array zC) (hB:Blk w g t cs) (hi:(P.info? ty).map (·.size)=some vs.size)
 (hold:off+vs.size<=cs.size) (h1:vs.all (·.oneCell')=true)
 (h:∀ W',Q06 g w W'->Blk W' g t (spl cs off vs.toList)->K (a.put o.dst undef) W'):if Region.wanted o (yielded ops a.tmps)=true then Oper.wp P o a w K Q else E:=by
 have hw:Region.wanted o (yielded ops a.tmps)=true:=by simp [Region.wanted,hgd]
 rw [if_pos hw];exact Q36 ty x y ho g off vs hx hy t cs hB hi hold h1 h
theorem Q0y {fn:Func} {p:Tmp} {ty:zF} (h:fn.results=#[.cell p ty]) (tmps:Array zC) (w:zB) (g n:Nat) (t:zF) (cs:Array zC) (d:TypeDesc)
 (hp:tmps.getD p undef=.pointer (some ⟨g,0,none⟩)) (hB:Blk w g t cs)
 (hu:P.underlying ty=some d) (hd:(match d with | .struct _ | .array _ _=>true | _=>false)=true) (hi:(P.info? ty).map (·.size)=some n) (hn:cs.size=n) :
 (results fn tmps).run P w=.ok (.agg cs) w:=by
 have hp':tmps[p]?.getD undef=.pointer (some ⟨g,0,none⟩):=by simpa using hp
 simp [results,h,hp',asAddr,Q16 w g 0 n t ty cs cs d hB hu hd hi hn (fun j _=>by rw [zY])]
end
end
section
open Go.RowKit Go.Lib
theorem pl_310:(pl 310).length=64:=by decide +kernel
theorem pl_309:(pl 309).length=63:=by decide +kernel
theorem pl_18:(pl 18).length=8:=by decide +kernel
theorem pl_17:(pl 17).length=7:=by decide +kernel
theorem roots_eq:(pl 310).map (fun p=>rootF (fun x=>Q73 x p))=kc.map (·.toNat):=by decide +kernel
theorem start_eq:(pl 18).map (fun p=>rootF (fun x=>Q7o x p))=h0.list.map (·.toNat):=by decide +kernel
theorem QaX (k:Nat) (h:k<310):(pl k).length<64:=by have:=Qat (a:=k) (b:=309) (by omega);rw [pl_309] at this; omega
theorem pl_18_lt (k:Nat) (h:k<18):(pl k).length<8:=by have:=Qat (a:=k) (b:=17) (by omega);rw [pl_17] at this; omega
theorem Q3D (l:List W32) (j:Nat):(l.map (·.toNat)).getD j 0=(l.getD j 0).toNat:=by simp only [zV,zP];cases l[j]? <;> rfl
theorem Q3Z (l:List Nat) (f:Nat->Nat) (j:Nat) (h:j<l.length):(l.map f).getD j 0=f (l.getD j 0):=by simp only [zV,zP,zD h]; rfl
theorem pl_small (k j:Nat) (hk:k<1000):(pl k).getD j 0<18446744073709551616:=by
 rcases zG j (pl k).length with h | h
 ·have:=pl_bd k ((pl k).getD j 0) (by rw [zV,zD h]; exact List.getElem_mem h);omega
 rw [zV,zQ h]; simp
theorem Qbw (j:Nat) (hj:j<64) (w:zB):zO zS 173 #[.int .u64 (((pl 310).getD j 0:Nat):Int),.int .i64 3] w fun e w'=>e=.returned (.int .u32 (wi (kc.getD j 0)))/\w=w':=by
 have h:=Q9d (fun x=>Q73 x ((pl 310).getD j 0)) ((pl 310).getD j 0) 3 (fun x W hx=>Q8Q x _ (by omega) (pl_small 310 j (by omega)) W) w;refine h.mono fun e w' ⟨h1,h2⟩=>⟨?_,h2⟩
 rw [h1];have e1:=Q3D kc j;rw [<- roots_eq,Q3Z _ _ j (by rw [pl_310]; exact hj)] at e1;unfold wi;rw [<- e1]
theorem Qbf (j:Nat) (hj:j<8) (w:zB):zO zS 173 #[.int .u64 (((pl 18).getD j 0:Nat):Int),.int .i64 2] w fun e w'=>e=.returned (.int .u32 (wi (h0.list.getD j 0)))/\w=w':=by
 have h:=Q9d (fun x=>Q7o x ((pl 18).getD j 0)) ((pl 18).getD j 0) 2 (fun x W hx=>Q8N x _ (by omega) W) w;refine h.mono fun e w' ⟨h1,h2⟩=>⟨?_,h2⟩
 rw [h1];have e1:=Q3D h0.list j;rw [<- start_eq,Q3Z _ _ j (by rw [pl_18]; exact hj)] at e1;unfold wi;rw [<- e1]
theorem Q7G {w:zB} {B n:Nat} {e:zF} {v:zC} {l:List Nat} (h:w.ownsRow B e 1 v n (l.map vu64)) (hn:0<n) :
 ∃ g c,v=.slice (some ⟨g,0,none⟩) n c/\B<=g/\g<w.heap.size/\n<=c/\c<=maxLen/\∀ j,j<n->w.cell? ⟨g,j,none⟩=some (.int .u64 ((l.getD j 0:Nat):Int)):=by
 have hlen:=h.1;have hc:=fun g hv=>h.cells (g:=g) hv
 rcases h.2 with⟨_,h0⟩ | ⟨g,cap,cur,rfl,hb,hh,h1,h2,_⟩
 ·omega
 refine⟨g,cap,rfl,hb,Blk.lt (cs:=cur) hh,h1,h2,fun j hj=>?_⟩;have hj':j<l.length:=by simp at hlen; omega
 have:=hc g rfl j (vu64 (l.getD j 0)) (by rw [zP,zV,zD hj']; rfl);rw [Q0R,zY] at this;exact this
def Q8C:List zC:=(zR 64).map (fun j=>vw (kc.getD j 0))
def Q8o:List zC:=(zR 8).map (fun j=>vw (h0.list.getD j 0))
def kRow:Array zC:=rng 64 (fun j=>vw (kc.getD j 0))
def hRow:Array zC:=rng 8 (fun j=>vw (h0.list.getD j 0))
theorem Q7O:Q8C.length=64:=by simp [Q8C]
theorem Q83:Q8o.length=8:=by simp [Q8o]
theorem QaV:∀ v∈Q8C,v.oneCell'=true:=by intro v hv; obtain⟨j,_,rfl⟩:=List.mem_map.1 hv; rfl
theorem Qao:∀ v∈Q8o,v.oneCell'=true:=by intro v hv; obtain⟨j,_,rfl⟩:=List.mem_map.1 hv; rfl
def Q2e (n:Nat) (l:List W32) (j:Nat):Array zC:=rng n (fun q=>if q<j then vw (l.getD q 0) else .int .u32 0)
theorem Q4H (n:Nat) (l:List W32):Q2e n l 0=Array.replicate n (.int .u32 0):=by refine(Q3Q (by simp) fun j hj=>?_).symm;simp [hj]
theorem Q4D (n:Nat) (l:List W32) (j:Nat):(Q2e n l j).setIfInBounds j (vw (l.getD j 0))=Q2e n l (j+1):=by
 unfold Q2e;rw [Q1w];refine Q10 fun q hq=>?_
 by_cases h1:q=j
 ·subst h1; rw [if_pos rfl,if_pos (by omega)]
 rw [if_neg h1];by_cases h2:q<j
 ·rw [if_pos h2,if_pos (by omega)]
 rw [if_neg h2,if_neg (by omega)]
theorem Q6j (n:Nat) (l:List W32) (j:Nat) (h:j<n):(Q2e n l j)[j]?=some (.int .u32 0):=by unfold Q2e; rw [Q15 _ _ _ h,if_neg (by omega)]
theorem Q4I (n:Nat) (l:List W32):Q2e n l n=rng n (fun j=>vw (l.getD j 0)):=Q10 fun j hj=>by rw [if_pos hj]
theorem QaQ (w:zB):zO zS 161 #[] w fun e w'=>e=.returned (.agg kRow)/\zE w.heap.size w w':=by
 go_enter Tryz.func161,Tryz.ntmps161
 go_wp2_with fail
 generalize hW:w.alloc _=W;have hB:Blk W w.heap.size 220 (Q2e 64 kc 0):=by rw [Q4H,<- hW]; exact Blk.newAt rfl
 have hbel:zE w.heap.size w W:=by rw [<- hW]; exact(Below.refl _ _).alloc (zU _) _
 have hsz:W.heap.size=w.heap.size+1:=by rw [<- hW]; simp
 clear hW;refine(Q6x 64 310 pl_310 QaX (by omega) W).mono ?_;rintro _ w1 ⟨v,rfl,hown,hbel1⟩;obtain⟨g,c,rfl,hg,hg2,_,hcm,hcl⟩:=Q7G hown (by omega);have hB1:=hB.below hbel1 (by omega);have hbel2:=hbel.trans (hbel1.mono (by omega:w.heap.size<=W.heap.size));clear hB hbel hbel1 hown;unfold maxLen at hcm;have HC:=sH hcl;have HS:=sH hsz;clear hsz hcl
 go_wp2
 go_loopw [5] (fun i wr=>∃ j:Nat,j<=64/\i=.int .i64 j/\Blk wr w.heap.size 220 (Q2e 64 kc j)/\Q06 w.heap.size w1 wr) (fun i _=>64 - (intOf i).toNat)
 case atStart=>exact⟨0,by omega,rfl,hB1,Q06.refl _ _⟩
 obtain⟨j,hj,rfl,hBr,ht⟩:=hrel;clear hB1;by_cases hjl:j<64
 ·have hsrc:wr.cell? ⟨g,j,none⟩=some (.int .u64 (((pl 310).getD j 0:Nat):Int)):=(ht.cell (p:=⟨g,j,none⟩) (by have:=HS.out; simp; omega)).trans (HC.out j hjl);have hdst:=(hBr.cell j).trans (Q6j 64 kc j hjl);have hfz:=hBr.frozen j;have HR:=sH (Qbw j hjl);generalize hp:(pl 310).getD j 0=pv at hsrc HR;clear hp;go_wp2_with (go_at_call 173; refine(HR.out _).mono ?_; rintro _ _ ⟨rfl,rfl⟩)
  go_roundw
  case rel =>have h2:=hBr.set_ j (vw (kc.getD j 0));rw [Q4D] at h2;exact⟨j+1,by omega,by go_num,h2,ht.trans (Q06.setCell wr ⟨w.heap.size,j,none⟩ _)⟩
  case measure=>simp [intOf]; omega
 obtain rfl:j=64:=by omega
 rw [Q4I] at hBr;clear HC;have hu:=Tryz.underlying220;have hall:=QaI 64 kc;go_wp2_with (first | (refine Q01 rfl 220 _ rfl w.heap.size 0 64 rfl 220 _ (rng 64 (fun j=>vw (kc.getD j 0))) _ hBr hu rfl rfl (Q0q _ _) (fun _ _=>by rw [zY]) ?_) | (refine Q00 rfl 220 _ _ rfl w.heap.size 0 (rng 64 (fun j=>vw (kc.getD j 0))) rfl rfl 220 _ hBr (by rw [Q0q]; rfl) (by omega) hall ?_; intro W2 hT2 hB2; rw [Q0a _ _ rfl] at hB2))
 refine bodyPost_ret (Q0y rfl _ _ w.heap.size 64 220 _ _ rfl hB2 hu rfl rfl (Q0q _ _)) rfl ⟨rfl,hT2.below (ht.below hbel2 (zU _)) (zU _)⟩
theorem Qbi (w:zB):zO zS 162 #[] w fun e w'=>e=.returned (.agg hRow)/\zE w.heap.size w w':=by
 go_enter Tryz.func162,Tryz.ntmps162
 go_wp2_with fail
 generalize hW:w.alloc _=W;have hB:Blk W w.heap.size 221 (Q2e 8 h0.list 0):=by rw [Q4H,<- hW]; exact Blk.newAt rfl
 have hbel:zE w.heap.size w W:=by rw [<- hW]; exact(Below.refl _ _).alloc (zU _) _
 have hsz:W.heap.size=w.heap.size+1:=by rw [<- hW]; simp
 clear hW;refine(Q6x 8 18 pl_18 pl_18_lt (by omega) W).mono ?_;rintro _ w1 ⟨v,rfl,hown,hbel1⟩;obtain⟨g,c,rfl,hg,hg2,_,hcm,hcl⟩:=Q7G hown (by omega);have hB1:=hB.below hbel1 (by omega);have hbel2:=hbel.trans (hbel1.mono (by omega:w.heap.size<=W.heap.size));clear hB hbel hbel1 hown;unfold maxLen at hcm;have HC:=sH hcl;have HS:=sH hsz;clear hsz hcl
 go_wp2
 go_loopw [5] (fun i wr=>∃ j:Nat,j<=8/\i=.int .i64 j/\Blk wr w.heap.size 221 (Q2e 8 h0.list j)/\Q06 w.heap.size w1 wr) (fun i _=>8 - (intOf i).toNat)
 case atStart=>exact⟨0,by omega,rfl,hB1,Q06.refl _ _⟩
 obtain⟨j,hj,rfl,hBr,ht⟩:=hrel;clear hB1;by_cases hjl:j<8
 ·have hsrc:wr.cell? ⟨g,j,none⟩=some (.int .u64 (((pl 18).getD j 0:Nat):Int)):=(ht.cell (p:=⟨g,j,none⟩) (by have:=HS.out; simp; omega)).trans (HC.out j hjl);have hdst:=(hBr.cell j).trans (Q6j 8 h0.list j hjl);have hfz:=hBr.frozen j;have HR:=sH (Qbf j hjl);generalize hp:(pl 18).getD j 0=pv at hsrc HR;clear hp;go_wp2_with (go_at_call 173; refine(HR.out _).mono ?_; rintro _ _ ⟨rfl,rfl⟩)
  go_roundw
  case rel =>have h2:=hBr.set_ j (vw (h0.list.getD j 0));rw [Q4D] at h2;exact⟨j+1,by omega,by go_num,h2,ht.trans (Q06.setCell wr ⟨w.heap.size,j,none⟩ _)⟩
  case measure=>simp [intOf]; omega
 obtain rfl:j=8:=by omega
 rw [Q4I] at hBr;clear HC;have hu:=Tryz.underlying221;have hall:=QaI 8 h0.list;go_wp2_with (first | (refine Q01 rfl 221 _ rfl w.heap.size 0 8 rfl 221 _ (rng 8 (fun j=>vw (h0.list.getD j 0))) _ hBr hu rfl rfl (Q0q _ _) (fun _ _=>by rw [zY]) ?_) | (refine Q00 rfl 221 _ _ rfl w.heap.size 0 (rng 8 (fun j=>vw (h0.list.getD j 0))) rfl rfl 221 _ hBr (by rw [Q0q]; rfl) (by omega) hall ?_; intro W2 hT2 hB2; rw [Q0a _ _ rfl] at hB2))
 refine bodyPost_ret (Q0y rfl _ _ w.heap.size 8 221 _ _ rfl hB2 hu rfl rfl (Q0q _ _)) rfl ⟨rfl,hT2.below (ht.below hbel2 (zU _)) (zU _)⟩
end
section
open Go.RowKit
attribute [local irreducible] wpList
def Q41 (done mu:Int) (k s b:Nat->zC) (held all:Int) (j:Nat):zC :=if j=0 then .bool true else if j=1 then .int .u32 done else if j=2 then .int .i32 mu else if j=3 then .int .u32 0 else if j<68 then k (j - 4) else if j<76 then s (j - 68) else if j<140 then b (j - 76) else if j=140 then .int .i64 held else .int .i64 all
def Q08 (done mu:Int) (k s b:Nat->zC) (held all:Int):Array zC:=rng 142 (Q41 done mu k s b held all)
def z32:Nat->zC:=fun _=>.int .u32 0
def z8:Nat->zC:=fun _=>.int .u8 0
def kF:Nat->zC:=fun j=>vw (kc.getD j 0)
def sF (s:St):Nat->zC:=fun j=>vw (s.list.getD j 0)
theorem Q38 (d m:Int) (k s b:Nat->zC) (x y:Int):(Q08 d m k s b x y).size=142:=Q0q _ _
theorem Q1x (d m:Int) (k s b:Nat->zC) (x y:Int) (j:Nat) (h:j<142):(Q08 d m k s b x y)[j]?=some (Q41 d m k s b x y j):=Q15 _ _ _ h
theorem Q3d (d m:Int) (k s b:Nat->zC) (x y:Int):(Q08 d m k s b x y)[140]?=some (.int .i64 x):=Q1x _ _ _ _ _ _ _ 140 (by omega)
theorem Q7L (d m:Int) (k s b:Nat->zC) (x y:Int):(Q08 d m k s b x y)[141]?=some (.int .i64 y):=Q1x _ _ _ _ _ _ _ 141 (by omega)
theorem hash_k (d m:Int) (k s b:Nat->zC) (x y:Int) (j:Nat) (h:j<64):(Q08 d m k s b x y)[4+j]?=some (k j):=by rw [Q1x _ _ _ _ _ _ _ _ (by omega)]; unfold Q41;rw [if_neg (by omega),if_neg (by omega),if_neg (by omega),if_neg (by omega),if_pos (by omega),show 4+j - 4=j by omega]
theorem Q40 (d m:Int) (k s b:Nat->zC) (x y:Int) (j:Nat) (h:j<8):(Q08 d m k s b x y)[68+j]?=some (s j):=by rw [Q1x _ _ _ _ _ _ _ _ (by omega)]; unfold Q41;rw [if_neg (by omega),if_neg (by omega),if_neg (by omega),if_neg (by omega),if_neg (by omega),if_pos (by omega),show 68+j - 68=j by omega]
theorem hash_b (d m:Int) (k s b:Nat->zC) (x y:Int) (j:Nat) (h:j<64):(Q08 d m k s b x y)[76+j]?=some (b j):=by rw [Q1x _ _ _ _ _ _ _ _ (by omega)]; unfold Q41;rw [if_neg (by omega),if_neg (by omega),if_neg (by omega),if_neg (by omega),if_neg (by omega),if_neg (by omega),if_pos (by omega),show 76+j - 76=j by omega]
def putB (b:Nat->UInt8) (o:Nat) (vs:List UInt8) (j:Nat):UInt8:=if o<=j/\j<o+vs.length then vs.getD (j - o) 0 else b j
theorem Qaf (d m:Int) (k s:Nat->zC) (b:Nat->UInt8) (x y:Int) (o:Nat) (vs:List UInt8) (h:o+vs.length<=64) :
 spl (Q08 d m k s (fun j=>vb (b j)) x y) (76+o) (vs.map vb)=Q08 d m k s (fun j=>vb (putB b o vs j)) x y:=by
 unfold putB;unfold Q08;rw [Q5d (m:=vs.length) (g:=fun j=>vb (vs.getD j 0)) (by simp) (fun j hj=>by rw [zP,zV,zD hj]; rfl) (by omega)];refine Q10 fun j hj=>?_
 by_cases h1:76+o<=j/\j<76+o+vs.length
 ·rw [if_pos h1]; unfold Q41;rw [if_neg (by omega),if_neg (by omega),if_neg (by omega),if_neg (by omega),if_neg (by omega),if_neg (by omega),if_pos (by omega)];show vb _=vb (if o<=j - 76/\j - 76<o+vs.length then _ else _);rw [if_pos (by omega),show j - 76 - o=j - (76+o) by omega]
 rw [if_neg h1]; unfold Q41;by_cases h2:j<76
 ·repeat (first | rfl | (split <;> try omega))
 by_cases h3:j<140
 ·simp only [show ¬ j=0 by omega,show ¬ j=1 by omega,show ¬ j=2 by omega,show ¬ j=3 by omega,show ¬ j<68 by omega,h2,h3,if_true,if_false];show vb _=vb (if o<=j - 76/\j - 76<o+vs.length then _ else _);rw [if_neg (by omega)]
 repeat (first | rfl | (split <;> try omega))
theorem QaM (d m:Int) (k s s' b:Nat->zC) (x y:Int) (vs:List zC) (hl:vs.length=8) (hv:∀ j,j<8->vs[j]?=some (s' j)) :
 spl (Q08 d m k s b x y) 68 vs=Q08 d m k s' b x y:=by
 unfold Q08;rw [Q5d (m:=8) (g:=s') hl hv (by omega)];refine Q10 fun j hj=>?_
 by_cases h1:68<=j/\j<68+8
 ·rw [if_pos h1]; unfold Q41;rw [if_neg (by omega),if_neg (by omega),if_neg (by omega),if_neg (by omega),if_neg (by omega),if_pos (by omega)]
 rw [if_neg h1]; unfold Q41;by_cases h2:j<68
 ·repeat (first | rfl | (split <;> try omega))
 simp only [show ¬ j=0 by omega,show ¬ j=1 by omega,show ¬ j=2 by omega,show ¬ j=3 by omega,show ¬ j<68 by omega,show ¬ j<76 by omega,if_false]
theorem QaH (d d' m:Int) (k s b:Nat->zC) (x y:Int):(Q08 d m k s b x y).setIfInBounds 1 (.int .u32 d')=Q08 d' m k s b x y:=by
 unfold Q08; rw [Q1w]; refine Q10 fun j _=>?_
 by_cases h:j=1
 ·subst h; rfl
 rw [if_neg h]; simp [Q41,h]
theorem Q7J (d m m':Int) (k s b:Nat->zC) (x y:Int):(Q08 d m k s b x y).setIfInBounds 2 (.int .i32 m')=Q08 d m' k s b x y:=by
 unfold Q08; rw [Q1w]; refine Q10 fun j _=>?_
 by_cases h:j=2
 ·subst h; rfl
 rw [if_neg h]; simp [Q41,h]
theorem Q3J (d m:Int) (k s b:Nat->zC) (x x' y:Int):(Q08 d m k s b x y).setIfInBounds 140 (.int .i64 x')=Q08 d m k s b x' y:=by
 unfold Q08; rw [Q1w]; refine Q10 fun j _=>?_
 by_cases h:j=140
 ·subst h; rfl
 rw [if_neg h]; simp [Q41,h]
theorem Q8F (d m:Int) (k s b:Nat->zC) (x y y':Int):(Q08 d m k s b x y).setIfInBounds 141 (.int .i64 y')=Q08 d m k s b x y':=by
 unfold Q08; rw [Q1w]; refine Q10 fun j hj=>?_
 by_cases h:j=141
 ·subst h; rfl
 rw [if_neg h]; unfold Q41
 repeat (first | rfl | (split <;> try omega))
theorem new_any (w:zB):zO zS 141 #[] w fun e w'=>e=.returned (.pointer (some ⟨w.heap.size,0,none⟩))/\Blk w' w.heap.size 224 (Q08 0 0 z32 z32 z8 0 0)/\zE w.heap.size w w'/\w'.heap.size=w.heap.size+1:=by
 go_enter Tryz.func141,Tryz.ntmps141
 go_wp2
 go_ret
 exact⟨rfl,Blk.newAt (by simp),(Below.refl _ _).alloc (zU _) _,by simp⟩
theorem Q51 (w:zB):(callFunc 164 #[]).run zS w=.ok (.value (.tuple #[])) w:=run_call_mark0 Tryz.func164 (by kernel_rfl) (by kernel_rfl) (by kernel_rfl) .disable (by kernel_rfl) w
theorem Q6a (w:zB):(callFunc 166 #[]).run zS w=.ok (.value (.tuple #[])) w:=run_call_mark0 Tryz.func166 (by kernel_rfl) (by kernel_rfl) (by kernel_rfl) .enable (by kernel_rfl) w
theorem Q8D (a:zA) (w:zB):(callFunc 167 #[.pointer (some a)]).run zS w=.ok (.value (.tuple #[])) w:=run_call_marked Tryz.func167 (by kernel_rfl) (by kernel_rfl) (by kernel_rfl) .acquire (by kernel_rfl) a w
theorem Q4Q (a:zA) (w:zB):(callFunc 169 #[.pointer (some a)]).run zS w=.ok (.value (.tuple #[])) w:=run_call_marked Tryz.func169 (by kernel_rfl) (by kernel_rfl) (by kernel_rfl) .releaseMerge (by kernel_rfl) a w
theorem Q3E (a:zA) (x:zC) (u:FrameMode) (w:zB) (hc:w.cell? a=some x) (hz:w.frozen? a=false) :
 CallsD zS 147 #[.pointer (some a),.bool true] u w fun e u' w'=>u'=u/\(e=.returned (.tuple #[])/\w'=w.drew.setCell a (.int .u32 1)):=by
 have hc':w.drew.cell? a=some x:=by go_simp
 have hz':w.drew.frozen? a=false:=by go_simp
 have hst:=run_call_store (P:=zS) Tryz.func157 (by kernel_rfl) (by kernel_rfl) (by kernel_rfl) (by kernel_rfl) (k:=.u32) (y:=1) hc' hz'
 go_enter_d Tryz.func147,Tryz.ntmps147
 go_wp2
 go_region_calls
 all_goals (go_end0; exact⟨rfl,rfl⟩)
theorem Q3b (a:zA) (u:FrameMode) (w:zB) (hc:w.cell? a=some (.int .i32 1)) (hz:w.frozen? a=false) :
 CallsD zS 146 #[.pointer (some a)] u w fun e u' w'=>u'=u/\(e=.returned (.tuple #[])/\w'=w.setCell a (.int .i32 0)):=by
 have hd:=Q51;have he:=Q6a;have hr:=Q4Q;have hadd:=run_call_add (P:=zS) Tryz.func170 (by kernel_rfl) (by kernel_rfl) (by kernel_rfl) .i32 (by kernel_rfl) (y:=-1) (s:=0) hc hz (by simp [go_sem]; rfl);have hcv:=run_convert_to_unsafe (P:=zS) (src:=237) (dst:=241) Tryz.underlying237 Tryz.underlying241 (by kernel_rfl) hc
 go_enter_d Tryz.func146,Tryz.ntmps146
 go_wp2
 go_end0
 go_wp2
 go_end0
 exact⟨rfl,rfl⟩
theorem Q7Z (a:zA) (w:zB) (hc:w.cell? a=some (.int .i32 0)) (hz:w.frozen? a=false) :
 zO zS 145 #[.pointer (some a)] w fun e w'=>e=.returned (.tuple #[])/\w'=w.setCell a (.int .i32 1):=by
 have hd:=Q51;have he:=Q6a;have ha:=Q8D;have hcas:=run_call_cas_hit (P:=zS) Tryz.func165 (by kernel_rfl) (by kernel_rfl) (by kernel_rfl) .i32 (by kernel_rfl) (y:=1) hc hz;have hc':(w.setCell a (.int .i32 1)).cell? a=some (.int .i32 1):=World.cell?_setCell_same w a _ hc;have hcv:=run_convert_to_unsafe (P:=zS) (src:=237) (dst:=241) Tryz.underlying237 Tryz.underlying241 (by kernel_rfl) hc';go_enter Tryz.func145,Tryz.ntmps145
 go_wp2
 first | go_end0 | (simp only [Exit.inBlock,Exit.then]; refine bodyPost_ret (results_none rfl _ _ _) rfl ?_) | refine bodyPost_ret (results_none rfl _ _ _) rfl ?_
 go_wp2
 go_end0
 exact⟨rfl,rfl⟩
end
section
def Q7m (a:St×List UInt8) (c:UInt8):St×List UInt8 :=if a.2.length+1=64 then(Q0o a.1 (a.2++[c]),[]) else(a.1,a.2++[c])
def feed (a:St×List UInt8) (l:List UInt8):St×List UInt8:=l.foldl Q7m a
def acc (l:List UInt8):St×List UInt8:=feed (h0,[]) l
theorem Q5q (a:St×List UInt8) (x y:List UInt8):feed a (x++y)=feed (feed a x) y:=by simp [feed]
theorem Q9G (x y:List UInt8):acc (x++y)=feed (acc x) y:=Q5q _ _ _
theorem Q9m (a:St×List UInt8) (c:UInt8) (h:a.2.length<64):(Q7m a c).2.length<64:=by unfold Q7m; split <;> simp <;> omega
theorem feed_lt (a:St×List UInt8) (l:List UInt8) (h:a.2.length<64):(feed a l).2.length<64:=by
 induction l generalizing a with
 | nil=>exact h
 | cons c l ih=>exact ih (Q7m a c) (Q9m a c h)
theorem QaP (l:List UInt8):(acc l).2.length<64:=feed_lt _ _ (by simp)
theorem Q6F (s:St) (p l:List UInt8) (h:p.length+l.length<64):feed (s,p) l=(s,p++l):=by
 induction l generalizing p with
 | nil=>simp [feed]
 | cons c l ih =>
  simp only [feed,List.foldl_cons];have h1:Q7m (s,p) c=(s,p++[c]):=by unfold Q7m; rw [if_neg (by simp at h ⊢; omega)]
  rw [h1];have:=ih (p++[c]) (by simp at h ⊢; omega);rw [feed] at this;rw [this]; simp
theorem Qai (s:St) (p l:List UInt8) (h:p.length+l.length=64) (h0:p.length<64):feed (s,p) l=(Q0o s (p++l),[]):=by
 have hl:l≠[]:=by rintro rfl; simp at h; omega
 obtain⟨m,c,rfl⟩:∃ m c,l=m++[c]:=⟨l.dropLast,l.getLast hl,(List.dropLast_concat_getLast hl).symm⟩;rw [Q5q,Q6F s p m (by simp at h; omega)];simp only [feed,List.foldl_cons,List.foldl_nil,Q7m];rw [if_pos (by simp at h ⊢; omega)]
 simp
def be8 (n:Nat):List UInt8:=(zR 8).map fun i=>UInt8.ofNat (8*n / 2 ^ (8*(7 - i)))
theorem Q6S (n:Nat):(be8 n).length=8:=by simp [be8]
def outB (s:St):List UInt8:=(zR 32).map fun i=>w8 (s.list.getD (i / 4) 0 >>> (24 - 8*(i % 4)))
theorem Q4X (s:St):(outB s).length=32:=by simp [outB]
def Q22 (s:St) (p:List UInt8) (n:Nat):St :=
 if 56<=p.length then Q0o (Q0o s (p++[128]++zZ (63 - p.length) 0)) (zZ 56 0++be8 n)
 else Q0o s (p++[128]++zZ (55 - p.length) 0++be8 n)
def Q14 (l:List UInt8):List UInt8:=outB (Q22 (acc l).1 (acc l).2 l.length)
theorem Q3e (l:List UInt8):(Q14 l).length=32:=Q4X _
theorem acc_len (l:List UInt8):(acc l).2.length=l.length % 64:=by
 have key:∀ (l:List UInt8) (a:St×List UInt8),a.2.length<64->(feed a l).2.length=(a.2.length+l.length) % 64:=by
  intro l
  induction l with
  | nil=>intro a h; simp [feed]; omega
  | cons c l ih =>
   intro a h;have h1:=ih (Q7m a c) (Q9m a c h);simp only [feed,List.foldl_cons] at h1 ⊢;rw [h1];unfold Q7m;split
   ·simp; omega
   simp; congr 1; omega
 have:=key l (h0,[]) (by simp);simpa [acc] using this
end
end Go.Proofs.YtckjnbjiafgibaaGreat
