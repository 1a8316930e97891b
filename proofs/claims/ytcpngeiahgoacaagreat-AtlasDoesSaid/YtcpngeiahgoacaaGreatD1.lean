/- Parts of the proof, in one text: Base, Word, ShaMath, Roots, Primes, Row. -/
import Derived.WalkKit
import Derived.WalkSpells
import Derived.WalkLawsBesides
import Derived.Below
import Derived.Laws.OwnMore
import Derived.Deep.AppendLies
import Derived.Deep.Draws
import Derived.Laws.Rows
import Derived.Maps.AppendAt
import Derived.RegionTactic
import Derived.OwnWalk
import Derived.Deep.QuietTactic
import Derived.BigQuiet
import Derived.Deep.OwnRows
import Derived.Laws.AppendOwn
import Derived.Laws.MakeOwn
import Derived.Laws.Entries
import Derived.Laws.BitsAllLaws
import Derived.Laws.BitsLemmas
import Derived.ChangeSame
import Derived.Lib.Hide
import Derived.StillTailTactics
import Derived.Test.YtcpngeiahgoacaaGreatRows
import Derived.Lib.Mul64
import Derived.Laws.Bits64b
import Derived.Laws.Externs
import Derived.Shelf.Spec.BitsCarry
import Derived.Deep.LoopGhost
import Derived.Laws.CopyRow
import Derived.Laws.Tables
import Derived.Deep.MidRow
import Derived.Laws.ResultCell
import Derived.Deep.RegionHeld3
namespace Go.Proofs.YtcpngeiahgoacaaGreat
set_option linter.unusedVariables false
set_option linter.unusedSimpArgs false
set_option maxRecDepth 100000
set_option maxHeartbeats 16000000
section
theorem sA1 (l : List Value) (i : Nat) (a : Value) : l.toArray.setIfInBounds i a = (l.set i a).toArray := List.setIfInBounds_toArray ..
theorem sA2 (l : List Value) (a b : Value) : (a :: l).set 0 b = b :: l := List.set_cons_zero
theorem sA3 (l : List Value) (n : Nat) (a b : Value) : (a :: l).set (n + 1) b = a :: l.set n b := List.set_cons_succ
open Go.RowKit Go.WideShapes Go.ChangeShapes
theorem Q0e (a:Addr) (n:Nat):(a.add n).block=a.block:=by unfold Addr.add; split <;> rfl
theorem Q1L (a:Addr) (i j:Nat):(a.add i).add j=a.add (i+j):=by
 unfold Addr.add;by_cases hi:i=0 <;> by_cases hj:j=0 <;> simp [hi,hj,Nat.add_assoc]
def Q0d (w:World) (B size:Nat) (A:Option Addr) (n:Nat) (xs:List Value):Prop :=
 xs.length=n*size/\(0<n->∃ ad,A=some ad/\ad.block<B/\∀ j u,xs[j]?=some u->w.cell? (ad.add j)=some u)
section
variable {w w':World} {B B' size n:Nat} {A:Option Addr} {xs:List Value}
theorem Q0d.none_:Q0d w B size A 0 []:=⟨by simp,fun h=>absurd h (by omega)⟩
theorem Q0d.at_ {k:Nat} (h:Q0d w B 1 A n xs) (hk:k<n):∃ ad u,A=some ad/\ad.block<B/\xs[k]?=some u/\w.cell? (ad.add k)=some u:=by
 obtain⟨ad,e,hb,hc⟩:=h.2 (by omega);have hl:k<xs.length:=by have:=h.1; omega
 exact⟨ad,xs[k],e,hb,List.getElem?_eq_getElem hl,hc k _ (List.getElem?_eq_getElem hl)⟩
theorem Q0d.keep (h:Q0d w B size A n xs) (hk:∀ p:Addr,p.block<B->w'.cell? p=w.cell? p):Q0d w' B size A n xs :=
 ⟨h.1,fun hn=>by
  obtain⟨ad,e,hb,hc⟩:=h.2 hn;exact⟨ad,e,hb,fun j u hu=>(hk _ (by rw [Q0e]; exact hb)).trans (hc j u hu)⟩⟩
theorem Q0d.more (h:Q0d w B size A n xs) (hB:B<=B'):Q0d w B' size A n xs :=
 ⟨h.1,fun hn=>by
  obtain⟨ad,e,hb,hc⟩:=h.2 hn;exact⟨ad,e,by omega,hc⟩⟩
theorem Q0d.below (h:Q0d w B size A n xs) (hb:Below B w w'):Q0d w' B size A n xs:=h.keep fun _ hp=>hb.cell hp
theorem Q0d.drew (h:Q0d w B size A n xs):Q0d w.drew B size A n xs:=h
theorem Q0d.alloc (h:Q0d w B size A n xs) (hB:B<=w.heap.size) (o:Obj):Q0d (w.alloc o) B size A n xs:=h.keep fun p hp=>World.cell?_alloc_lt w o p (by omega)
theorem Q0d.of_own {base:Nat} {e:TypeId} {c:Nat} (h:w.ownsRow base e size (.slice A n c) n xs):Q0d w w.heap.size size A n xs:=by
 refine⟨h.1,fun hn=>?_⟩;obtain⟨g,cap,hv,_,hlt⟩:=h.form hn;have hA:A=some ⟨g,0,none⟩:=by injection hv
 subst hA;exact⟨_,rfl,hlt,h.cells (g:=g) rfl⟩
end
def Blk (w:World) (g:Nat) (t:TypeId) (cs:Array Value):Prop:=w.heap[g]?=some (.cells cs t (0,0))
section
variable {w w':World} {g:Nat} {t:TypeId} {cs:Array Value}
theorem Blk.lt (h:Blk w g t cs):g<w.heap.size:=by
 rcases Nat.lt_or_ge g w.heap.size with hlt | hge
 ·exact hlt
 ·unfold Blk at h; rw [Array.getElem?_eq_none hge] at h; cases h
theorem Blk.cell (h:Blk w g t cs) (i:Nat):w.cell? ⟨g,i,none⟩=cs[i]?:=cell_of_row w g i cs t (0,0) h
theorem Blk.frozen (h:Blk w g t cs) (i:Nat):w.frozen? ⟨g,i,none⟩=false:=by
 unfold Blk at h;simp [World.frozen?,h]
theorem Blk.new (w:World) (t:TypeId) (cs:Array Value):Blk (w.alloc (.cells cs t)) w.heap.size t cs:=heap_alloc_new w _
theorem Blk.newAt {w:World} {t:TypeId} {cs:Array Value} {g:Nat} (hg:g=w.heap.size):Blk (w.alloc (.cells cs t)) g t cs:=by subst hg; exact heap_alloc_new w _
theorem Blk.drew (h:Blk w g t cs):Blk w.drew g t cs:=h
theorem Blk.drewN (h:Blk w g t cs) (n:Nat):Blk (w.drewN n) g t cs:=h
theorem Blk.alloc (h:Blk w g t cs) (o:Obj):Blk (w.alloc o) g t cs:=(Below.heap_alloc w o g h.lt).trans h
theorem Blk.set_ (h:Blk w g t cs) (i:Nat) (u:Value):Blk (w.setCell ⟨g,i,none⟩ u) g t (cs.setIfInBounds i u):=by
 unfold Blk at h ⊢;simp [World.setCell,Array.getElem?_modify,h]
theorem Blk.far (h:Blk w g t cs) {p:Addr} (hp:g≠p.block) (u:Value):Blk (w.setCell p u) g t cs:=(Below.heap_setCell w p u g hp).trans h
theorem Blk.below {B:Nat} (h:Blk w g t cs) (hb:Below B w w') (hg:g<B):Blk w' g t cs:=(hb.block g hg).trans h
theorem Blk.grown {row:Option Nat} (h:Blk w g t cs) (hb:w.grownBy w' row) (hg:some g≠row):Blk w' g t cs:=(hb.block g h.lt hg).trans h
theorem Blk.ne_ {g':Nat} {t':TypeId} {cs':Array Value} (h:Blk w g t cs) (h':Blk w g' t' cs') (hne:t≠t'):g≠g':=by
 rintro rfl;unfold Blk at h h';rw [h] at h';injection h' with h'
 injection h' with _ ht
 exact hne ht
theorem Q09 {base:Nat} {e:TypeId} {size n:Nat} {v:Value} {xs:List Value} (h:w.ownsRow base e size v n xs) (hg:Blk w g t cs) (hne:e≠t):v.ownBlock≠some g:=by
 rcases h.2 with⟨rfl,_⟩ | ⟨g',cap,cur,rfl,_,hh,_⟩
 ·simp [Value.ownBlock]
 ·intro he;have:g'=g:=by simpa [Value.ownBlock] using he
  subst this;exact Blk.ne_ (t:=e) hh hg hne rfl
end
section
variable {P:Program} (w:World)
theorem Q5B (base:Nat) (t ty e:TypeId) (i:TypeInfo) (size:Nat) (ht:P.underlying t=some (.slice e)) (hi:P.info? e=some i)
 (v:Value) (n:Nat) (xs:List Value) (hown:w.ownsRow base e size v n xs) (c:Nat):(Builtin.append_ #[t,t] ty #[v,.slice none 0 c]).run P w=.ok v w:=by
 rcases hown.2 with⟨rfl,rfl⟩ | ⟨g,cap,cur,rfl,_,_,hnc,_⟩
 ·simp [Builtin.append_,run_underlying ht,sizeOf,typeInfo,hi,Builtin.lenOf,Builtin.firstCells]
 ·simp [Builtin.append_,run_underlying ht,sizeOf,typeInfo,hi,Builtin.lenOf,Builtin.firstCells,hnc,storeCells]
theorem Q4B (base:Nat) (t ty e:TypeId) (i:TypeInfo) (z:Value) (size bytes:Nat) (ht:P.underlying t=some (.slice e)) (hi:P.info? e=some i) (hz:i.zero=some z)
 (hsize:i.size=size) (hby:i.bytes=bytes) (hzs:z.cells.size=size) (hsz:0<size)
 (v:Value) (n:Nat) (xs:List Value) (hown:w.ownsRow base e size v n xs)
 (B:Nat) (A:Option Addr) (m c:Nat) (news:List Value) (hr:Q0d w B size A m news) (h1:∀ u∈news,u.oneCell'=true)
 (h63:n+m<=maxLen) (hbytes:(n+m)*bytes<=140737488355328) (hbase:base<=w.heap.size) :
 ∃ v' w',(Builtin.append_ #[t,t] ty #[v,.slice A m c]).run P w=.ok v' w'/\w'.ownsRow base e size v' (n+m) (xs++news)/\w.grownBy w' v.ownBlock /\
  (v'.ownBlock=v.ownBlock\/v'.ownBlock=some w.heap.size):=by
 rcases A with _ | ad
 ·have hm:m=0:=by
   rcases Nat.eq_zero_or_pos m with h0 | h0
   ·exact h0
   ·obtain⟨ad,h,_⟩:=hr.2 h0;cases h
  subst hm;have hn:news=[]:=List.eq_nil_of_length_eq_zero (by simpa using hr.1);subst hn;exact⟨v,w,Q5B w base t ty e i size ht hi v n xs hown c,by simpa using hown,World.grownBy.refl w _,.inl rfl⟩
 ·have hcells:∀ j u,news[j]?=some u->w.cell? (ad.add j)=some u:=by
   intro j u hu;rcases Nat.eq_zero_or_pos m with h0 | h0
   ·subst h0;have hn:news=[]:=List.eq_nil_of_length_eq_zero (by simpa using hr.1);subst hn;simp at hu
   ·obtain⟨ad',h,_,hc⟩:=hr.2 h0;injection h with h
    subst h;exact hc j u hu
  obtain⟨v',w',hrun,h2,h3,_,h5⟩:=run_append_own_at (P:=P) w base t ty e i z size bytes ht hi hz hsize hby hzs hsz v n xs hown ad m c news hr.1 hcells h1 h63 hbytes hbase;exact⟨v',w',hrun,h2,h3,h5⟩
theorem Q2K {o:Oper} {a:Act} {K:Act->World->Prop} {Q:Exit->Act->World->Prop} (s x:Operand) (t:TypeId)
 (ho:o.op=.call { callee:=.builtin .append,args:=#[s,x],argTypes:=#[t,t] })
 (base:Nat) (e:TypeId) (i:TypeInfo) (z:Value) (size bytes:Nat) (ht:P.underlying t=some (.slice e)) (hi:P.info? e=some i) (hz:i.zero=some z)
 (hsize:i.size=size) (hby:i.bytes=bytes) (hzs:z.cells.size=size) (hsz:0<size)
 (v:Value) (n:Nat) (xs:List Value) (hs:a.eval s=v) (hown:w.ownsRow base e size v n xs)
 (B:Nat) (A:Option Addr) (m c:Nat) (news:List Value) (hx:a.eval x=.slice A m c) (hr:Q0d w B size A m news) (h1:∀ u∈news,u.oneCell'=true)
 (h63:n+m<=maxLen) (hbytes:(n+m)*bytes<=140737488355328) (hbase:base<=w.heap.size)
 (h:∀ v' w',w'.ownsRow base e size v' (n+m) (xs++news)->w.grownBy w' v.ownBlock->(v'.ownBlock=v.ownBlock\/v'.ownBlock=some w.heap.size)->K (a.put o.dst v') w'):o.wp P a w K Q:=by
 obtain⟨v',w',hrun,h2,h3,h4⟩:=Q4B (P:=P) w base t o.type e i z size bytes ht hi hz hsize hby hzs hsz v n xs hown B A m c news hr h1 h63 hbytes hbase;unfold Oper.wp execOp;simp only [ho,resolve,invoke,builtin,Sem.run_bind,Sem.run_pure,Result.andThen_ok,List.map_toArray,List.map_cons,List.map_nil,hs,hx,hrun];exact h v' w' h2 h3 h4
theorem Q06 {ops:Array Oper} {rest:List Oper} {o:Oper} {a:Act} {Q:Exit->Act->World->Prop} (hgd:o.guard=none) (s x:Operand) (t:TypeId)
 (ho:o.op=.call { callee:=.builtin .append,args:=#[s,x],argTypes:=#[t,t] })
 (base:Nat) (e:TypeId) (i:TypeInfo) (z:Value) (size bytes:Nat) (ht:P.underlying t=some (.slice e)) (hi:P.info? e=some i) (hz:i.zero=some z)
 (hsize:i.size=size) (hby:i.bytes=bytes) (hzs:z.cells.size=size) (hsz:0<size)
 (v:Value) (n:Nat) (xs:List Value) (hs:a.eval s=v) (hown:w.ownsRow base e size v n xs)
 (B:Nat) (A:Option Addr) (m c:Nat) (news:List Value) (hx:a.eval x=.slice A m c) (hr:Q0d w B size A m news) (h1:∀ u∈news,u.oneCell'=true)
 (h63:n+m<=maxLen) (hbytes:(n+m)*bytes<=140737488355328) (hbase:base<=w.heap.size)
 (h:∀ v' w',w'.ownsRow base e size v' (n+m) (xs++news)->w.grownBy w' v.ownBlock->(v'.ownBlock=v.ownBlock\/v'.ownBlock=some w.heap.size)->wpList P ops Q rest (a.put o.dst v') w'):wpList P ops Q (o :: rest) a w :=
 wpList_plain hgd fun _ hK=>Q2K w s x t ho base e i z size bytes ht hi hz hsize hby hzs hsz v n xs hs hown B A m c news hx hr h1 h63 hbytes hbase fun v' w' h2 h3 h4=>hK _ _ (h v' w' h2 h3 h4)
theorem Q6G {ops:Array Oper} {o:Oper} {a:Act} {K:Act->World->Prop} {Q:Exit->Act->World->Prop} {E:Prop} (hgd:o.guard=none) (s x:Operand) (t:TypeId)
 (ho:o.op=.call { callee:=.builtin .append,args:=#[s,x],argTypes:=#[t,t] })
 (base:Nat) (e:TypeId) (i:TypeInfo) (z:Value) (size bytes:Nat) (ht:P.underlying t=some (.slice e)) (hi:P.info? e=some i) (hz:i.zero=some z)
 (hsize:i.size=size) (hby:i.bytes=bytes) (hzs:z.cells.size=size) (hsz:0<size)
 (v:Value) (n:Nat) (xs:List Value) (hs:a.eval s=v) (hown:w.ownsRow base e size v n xs)
 (B:Nat) (A:Option Addr) (m c:Nat) (news:List Value) (hx:a.eval x=.slice A m c) (hr:Q0d w B size A m news) (h1:∀ u∈news,u.oneCell'=true)
 (h63:n+m<=maxLen) (hbytes:(n+m)*bytes<=140737488355328) (hbase:base<=w.heap.size)
 (h:∀ v' w',w'.ownsRow base e size v' (n+m) (xs++news)->w.grownBy w' v.ownBlock->(v'.ownBlock=v.ownBlock\/v'.ownBlock=some w.heap.size)->K (a.put o.dst v') w') :
 if Region.wanted o (yielded ops a.tmps)=true then Oper.wp P o a w K Q else E:=by
 have hw:Region.wanted o (yielded ops a.tmps)=true:=by simp [Region.wanted,hgd]
 rw [if_pos hw];exact Q2K w s x t ho base e i z size bytes ht hi hz hsize hby hzs hsz v n xs hs hown B A m c news hx hr h1 h63 hbytes hbase h
end
theorem Qcm {P:Program} {f:FuncId} {args:Array Value} {w:World} {a n:Nat} {v:Value}
 (h:Calls P f args (w.drewN (a+n)) fun e w'=>e=.returned v/\∃ m,w'=(w.drewN (a+n)).drewN m) :
 Calls P f args (w.drewN (a+n)) fun e w''=>e=.returned v/\∃ m,w''=w.drewN (a+m) :=
 h.mono fun _ _ ⟨he,m,hm⟩=>⟨he,n+m,by rw [hm,World.drewN_drewN,Nat.add_assoc]⟩
theorem Q3f {P:Program} {f:FuncId} {args:Array Value} {w:World} {a n:Nat} {v:Value}
 (h:Calls P f args (w.drewN (a+n)) fun e w'=>e=.returned v/\w.drewN (a+n)=w') :
 Calls P f args (w.drewN (a+n)) fun e w''=>e=.returned v/\∃ m,w''=w.drewN (a+m) :=
 h.mono fun _ _ ⟨he,hm⟩=>⟨he,n,hm.symm⟩
theorem Q7z {P:Program} {f:FuncId} {args:Array Value} {w:World} {n:Nat} {v:Value}
 (h:Calls P f args (w.drewN n) fun e w'=>e=.returned v/\w.drewN n=w'):Calls P f args (w.drewN n) fun e w''=>e=.returned v/\∃ m,w''=w.drewN m :=
 h.mono fun _ _ ⟨he,hm⟩=>⟨he,n,hm.symm⟩
theorem Q0z {B:Nat} {a w:World} (h:Below B a w) (n:Nat):Below B a (w.drewN n):=⟨h.os,h.tape,h.output,h.size,h.block⟩
theorem Q5D {a w:World} {row:Option Nat} (h:a.grownBy w row) (n:Nat):a.grownBy (w.drewN n) row:=⟨h.os,h.tape,h.output,h.size,h.block⟩
theorem QcZ {a w:World} {row:Option Nat} (h:a.grownBy w row):a.grownBy w.drew row:=⟨h.os,h.tape,h.output,h.size,h.block⟩
theorem Q4p {a w:World} {row:Option Nat} (h:a.grownBy w row) (o:Obj):a.grownBy (w.alloc o) row :=
 ⟨h.os,h.tape,h.output,Nat.le_trans h.size (by simp),fun i hi hne=>(Below.heap_alloc w o i (Nat.lt_of_lt_of_le hi h.size)).trans (h.block i hi hne)⟩
theorem Q0O {a w:World} (h:Below a.heap.size a w) (row:Option Nat):a.grownBy w row:=⟨h.os,h.tape,h.output,h.size,fun i hi _=>h.block i hi⟩
theorem Q8t {P:Program} (t e:TypeId) (i:TypeInfo) (z:Value) (ht:P.underlying t=some (.slice e)) (hi:P.info? e=some i) (hz:i.zero=some z)
 (kl kc:IntKind) (n c:Nat) (hnc:n<=c) (hbytes:i.bytes*c<=281474976710656) (h63:c<=9223372036854775807) (w:World) :
 (Instr.makeSlice t (.int kl (n:Int)) (.int kc (c:Int))).run P w=.ok (.slice (some ⟨w.heap.size,0,none⟩) n c) (w.alloc (.cells (madeCells z.cells (c*i.size)) e)):=by
 have hb:(i.bytes:Int)*(c:Int)<=281474976710656:=by
  have h:((i.bytes*c:Nat):Int)<=281474976710656:=by omega
  rwa [Int.natCast_mul] at h
 have hr:=run_make (P:=P) w t e i z ht hi hz kl kc n c (by omega) (by omega) hb (by omega);simp only [Int.toNat_natCast] at hr;exact hr
section
variable {H:Type} {enc:TypeId×Value->H} {P:Program}
end
theorem Q9d {P:Program} {t e:TypeId} {n:Nat} (ht:P.underlying t=some (.array n e)) (hs:(P.info? e).map (·.size)=some 1) (a:Addr) (l h:Nat) (li hi:Int) (el:li=l) (eh:hi=h) (hlh:l<=h) (hn:h<=n) (hl:l<n) (W:World) :
 (Instr.sliceAt t (.pointer (some a)) (some (.int .i64 li)) (some (.int .i64 hi)) none).run P W=.ok (.slice (some (a.add l)) (h - l) (n - l)) W:=by
 subst el eh;obtain⟨i,hi,hsz⟩:∃ i,P.info? e=some i/\i.size=1:=by
  cases hh:P.info? e with
  | none=>rw [hh] at hs; cases hs
  | some i=>rw [hh] at hs; exact⟨i,rfl,by simpa using hs⟩
 have he:P.elem t=e:=by simp [Program.elem,ht]
 have hln:P.arrayLen t=n:=by simp [Program.arrayLen,ht]
 rw [run_sliceAt_array_lh W t a (by rw [he,hln]; exact ht) .i64 .i64 (l:Int) (h:Int) (by omega) (by omega) (by rw [hln]; omega)];simp [he,hln,sizeOf,typeInfo,hi,hsz,slicedAt,show ¬ n=l by omega]
end
section
open Go.RowKit
abbrev W32:=BitVec 32
def wi (x:W32):Int:=(x.toNat:Int)
def bi (b:UInt8):Int:=(b.toNat:Int)
def vw (x:W32):Value:=.int .u32 (wi x)
def vb (b:UInt8):Value:=.int .u8 (bi b)
def b32 (b:UInt8):W32:=BitVec.ofNat 32 b.toNat
def w8 (x:W32):UInt8:=UInt8.ofNat x.toNat
theorem wi_lo (x:W32):0<=wi x:=by unfold wi; omega
theorem wi_hi (x:W32):wi x<4294967296:=by unfold wi; have:=x.isLt; omega
theorem bi_lo (b:UInt8):0<=bi b:=by unfold bi; omega
theorem bi_hi (b:UInt8):bi b<256:=by unfold bi; have:=b.toNat_lt; omega
theorem bi_inj {x y:UInt8} (h:bi x=bi y):x=y:=by unfold bi at h; exact UInt8.toNat_inj.1 (by omega)
theorem vb_inj {x y:UInt8} (h:vb x=vb y):x=y:=by unfold vb at h; injection h with _ h; exact bi_inj h
theorem Q4o (x:W32):BitVec.ofInt 32 (wi x)=x:=by
 apply BitVec.eq_of_toNat_eq
 unfold wi;rw [BitVec.ofInt_natCast,BitVec.toNat_ofNat,Nat.mod_eq_of_lt x.isLt]
theorem QaB (x:W32):IntKind.u32.wrap (wi x)=wi x:=by
 rw [IntKind.wrap_u32']; have:=wi_lo x; have:=wi_hi x; omega
theorem Q8x (x y:W32):IntKind.u32.wrap (wi x+wi y)=wi (x+y):=by
 unfold wi;rw [IntKind.wrap_u32',BitVec.toNat_add]; have:=x.isLt; have:=y.isLt; omega
theorem Q8V (x y:W32):IntKind.u32.wrap (wi x - wi y)=wi (x - y):=by
 unfold wi;rw [IntKind.wrap_u32',BitVec.toNat_sub]; have:=x.isLt; have:=y.isLt; omega
theorem Q9G (x y:W32):bits .and .u32 (wi x) (wi y)=wi (x &&& y):=by
 show IntKind.u32.wrap ((BitVec.ofInt 32 (wi x) &&& BitVec.ofInt 32 (wi y)).toNat:Int)=_;rw [Q4o,Q4o]; exact QaB _
theorem w_or (x y:W32):bits .or .u32 (wi x) (wi y)=wi (x ||| y):=by
 show IntKind.u32.wrap ((BitVec.ofInt 32 (wi x) ||| BitVec.ofInt 32 (wi y)).toNat:Int)=_;rw [Q4o,Q4o]; exact QaB _
theorem Q8j (x y:W32):bits .xor .u32 (wi x) (wi y)=wi (x ^^^ y):=by
 show IntKind.u32.wrap ((BitVec.ofInt 32 (wi x) ^^^ BitVec.ofInt 32 (wi y)).toNat:Int)=_;rw [Q4o,Q4o]; exact QaB _
theorem Q96 (x:W32):bits .xor .u32 (4294967295:Int) (wi x)=wi (~~~x):=by
 have h:(4294967295:Int)=wi (BitVec.allOnes 32):=by decide
 rw [h,Q8j,BitVec.allOnes_xor]
theorem Q7n (x:W32) (n:Nat):wi x / 2 ^ n=wi (x >>> n):=by
 unfold wi;rw [BitVec.toNat_ushiftRight,Nat.shiftRight_eq_div_pow]
 norm_cast
theorem Q66 (x:W32) (n:Nat):IntKind.u32.wrap (wi x*2 ^ n)=wi (x <<< n):=by
 unfold wi;rw [IntKind.wrap_u32',BitVec.toNat_shiftLeft,Nat.shiftLeft_eq,Int.natCast_emod,Int.natCast_mul,Int.natCast_pow];rfl
theorem Q5X (x y:W32):(wi x+wi y) % 4294967296=wi (x+y):=by rw [<- IntKind.wrap_u32',Q8x]
theorem Q63 (x y:W32):(wi x - wi y) % 4294967296=wi (x - y):=by rw [<- IntKind.wrap_u32',Q8V]
theorem Q4e (x:W32) (n:Nat):(wi x*2 ^ n) % 4294967296=wi (x <<< n):=by rw [<- IntKind.wrap_u32',Q66]
theorem Q85 (x:W32):(wi x*(256:Int)) % 4294967296=wi (x <<< 8):=Q4e x 8
theorem Q5A (x:W32):IntKind.u32.wrap (wi x*(256:Int))=wi (x <<< 8):=Q66 x 8
theorem Q7u (x:W32):wi x / (8:Int)=wi (x >>> 3):=Q7n x 3
theorem Q5s (x:W32):wi x / (1024:Int)=wi (x >>> 10):=Q7n x 10
theorem Q3S (b:UInt8):IntKind.u32.wrap (bi b)=wi (b32 b):=by
 rw [IntKind.wrap_u32']; unfold wi b32 bi; rw [BitVec.toNat_ofNat]; have:=b.toNat_lt; omega
theorem Q3n (b:UInt8):bi b % 4294967296=wi (b32 b):=by rw [<- IntKind.wrap_u32',Q3S]
theorem Q4S (x:W32):IntKind.u8.wrap (wi x)=bi (w8 x):=by
 rw [IntKind.wrap_u8']; unfold wi w8 bi; rw [UInt8.toNat_ofNat']; omega
theorem Q4r (x:W32):wi x % 256=bi (w8 x):=by rw [<- IntKind.wrap_u8',Q4S]
theorem rot_and (n:Nat) (h:0<n) (h':n<32):bits .and .u64 (IntKind.u64.wrap (-(n:Int))) 31=((32 - n:Nat):Int):=by
 have e1:IntKind.u64.wrap (-(n:Int))=((18446744073709551616 - n:Nat):Int):=by
  rw [IntKind.wrap_u64]; omega
 rw [e1,show (31:Int)=((31:Nat):Int) from rfl,u64_and_nat _ _ (by omega) (by omega)];congr 1
 rw [show (31:Nat)=2 ^ 5 - 1 from rfl,Nat.and_two_pow_sub_one_eq_mod];omega
theorem ror_or' (x:W32) (n:Nat) (h':n<32):(x >>> n) ||| (x <<< (32 - n))=x.rotateRight n:=by
 rw [BitVec.rotateRight_def,Nat.mod_eq_of_lt h']
theorem sub_sub_ (n:Nat) (h':n<32):32 - (32 - n)=n:=by omega
theorem ror_or (x:W32) (n:Nat) (h':n<32):(x <<< (32 - n)) ||| (x >>> n)=x.rotateRight n:=by
 rw [BitVec.rotateRight_def,Nat.mod_eq_of_lt h',BitVec.or_comm]
theorem Qae {k:IntKind} {a b:Int} (h:a=b):Ending.returned (.int k a)=.returned (.int k b):=by rw [h]
theorem Q0N {a b:Bool} (h:a=b):Ending.returned (.bool a)=.returned (.bool b):=by rw [h]
theorem Q3B {xs:List UInt8} {k:Nat} {u:Value} (h:(xs.map vb)[k]?=some u):∃ (hk:k<xs.length),u=.int .u8 (bi xs[k]):=by
 rw [List.getElem?_map] at h;rcases Nat.lt_or_ge k xs.length with hk | hk
 ·refine⟨hk,?_⟩;rw [List.getElem?_eq_getElem hk] at h;simp only [Option.map_some,Option.some.injEq] at h;rw [<- h]; rfl
 ·rw [List.getElem?_eq_none hk] at h;simp at h
def rng (n:Nat) (f:Nat->Value):Array Value:=((List.range n).map f).toArray
theorem Q0C (n:Nat) (f:Nat->Value):(rng n f).size=n:=by simp [rng]
theorem Q1z (n:Nat) (f:Nat->Value) (j:Nat) (h:j<n):(rng n f)[j]?=some (f j):=by
 simp [rng,List.getElem?_range h]
theorem Q1n {n:Nat} {f g:Nat->Value} (h:∀ j,j<n->f j=g j):rng n f=rng n g:=by
 unfold rng; congr 1; exact List.map_congr_left fun j hj=>h j (List.mem_range.1 hj)
theorem Q40 {n:Nat} {f:Nat->Value} {a:Array Value} (hs:a.size=n) (h:∀ j,j<n->a[j]?=some (f j)):a=rng n f:=by
 apply Array.ext_getElem?
 intro i;rcases Nat.lt_or_ge i n with hi | hi
 ·rw [h i hi,Q1z n f i hi]
 ·rw [Array.getElem?_eq_none (by omega),Array.getElem?_eq_none (by rw [Q0C]; omega)]
theorem Q2f (n:Nat) (f:Nat->Value) (t:Nat) (v:Value):(rng n f).setIfInBounds t v=rng n (fun j=>if j=t then v else f j):=by
 refine Q40 (by simp [rng]) fun j hj=>?_
 rw [Array.getElem?_setIfInBounds];by_cases e:t=j
 ·subst e; rw [if_pos rfl,if_pos (by rw [Q0C]; exact hj),if_pos rfl]
 ·rw [if_neg e,Q1z n f j hj,if_neg (fun h=>e h.symm)]
theorem Q1q {P:Program} {id:Nat} {Q:Exit->Act->World->Prop} {a:Act} {w:World} {l:List Oper} (n:Nat) (hm:P.follows .mixedOrders=true) (hB:Region.lexTailB .any l.toArray n=true)
 (h:wpStill P l.toArray w.drew (fun a'=>wpList P l.toArray Q (l.drop n) a' w.drew) (l.take n) a):(Code.region id l.toArray true).wp P Q a w :=
 wp_region_still_tail n hm hB h
theorem Q81:IntKind.u32.signed=false:=rfl
theorem Qcd:IntKind.u32.max=4294967295:=rfl
theorem Q8T {P:Program} {t e:TypeId} {n:Nat} (ht:P.underlying t=some (.array n e)) (hs:(P.info? e).map (·.size)=some 1) (hagg:∀ w,(isAgg e).run P w=.ok false w) (cs:Array Value) (k:Nat) (v:Value) (hk:k<n) (hv:cs[k]?=some v) (w:World) :
 (Instr.index t (.agg cs) (.int .i64 (k:Int))).run P w=.ok v w:=by
 obtain⟨i,hi,hsz⟩:∃ i,P.info? e=some i/\i.size=1:=by
  cases hh:P.info? e with
  | none=>rw [hh] at hs; cases hs
  | some i=>rw [hh] at hs; exact⟨i,rfl,by simpa using hs⟩
 simp [Instr.index,run_underlying ht,sizeOf,typeInfo,hi,hsz,part,hagg,hv,asIntOf,hk]
end
section
structure St where
 a:W32
 b:W32
 c:W32
 d:W32
 e:W32
 f:W32
 g:W32
 h:W32
def St.list (s:St):List W32:=[s.a,s.b,s.c,s.d,s.e,s.f,s.g,s.h]
def St.vals (s:St):Array Value:=#[vw s.a,vw s.b,vw s.c,vw s.d,vw s.e,vw s.f,vw s.g,vw s.h]
def St.add (s r:St):St:=⟨s.a+r.a,s.b+r.b,s.c+r.c,s.d+r.d,s.e+r.e,s.f+r.f,s.g+r.g,s.h+r.h⟩
def kc:List W32:=[
 0x428A2F98#32,0x71374491#32,0xB5C0FBCF#32,0xE9B5DBA5#32,0x3956C25B#32,0x59F111F1#32,0x923F82A4#32,0xAB1C5ED5#32,
 0xD807AA98#32,0x12835B01#32,0x243185BE#32,0x550C7DC3#32,0x72BE5D74#32,0x80DEB1FE#32,0x9BDC06A7#32,0xC19BF174#32,
 0xE49B69C1#32,0xEFBE4786#32,0x0FC19DC6#32,0x240CA1CC#32,0x2DE92C6F#32,0x4A7484AA#32,0x5CB0A9DC#32,0x76F988DA#32,
 0x983E5152#32,0xA831C66D#32,0xB00327C8#32,0xBF597FC7#32,0xC6E00BF3#32,0xD5A79147#32,0x06CA6351#32,0x14292967#32,
 0x27B70A85#32,0x2E1B2138#32,0x4D2C6DFC#32,0x53380D13#32,0x650A7354#32,0x766A0ABB#32,0x81C2C92E#32,0x92722C85#32,
 0xA2BFE8A1#32,0xA81A664B#32,0xC24B8B70#32,0xC76C51A3#32,0xD192E819#32,0xD6990624#32,0xF40E3585#32,0x106AA070#32,
 0x19A4C116#32,0x1E376C08#32,0x2748774C#32,0x34B0BCB5#32,0x391C0CB3#32,0x4ED8AA4A#32,0x5B9CCA4F#32,0x682E6FF3#32,
 0x748F82EE#32,0x78A5636F#32,0x84C87814#32,0x8CC70208#32,0x90BEFFFA#32,0xA4506CEB#32,0xBEF9A3F7#32,0xC67178F2#32]
def h0:St:=⟨0x6A09E667#32,0xBB67AE85#32,0x3C6EF372#32,0xA54FF53A#32,0x510E527F#32,0x9B05688C#32,0x1F83D9AB#32,0x5BE0CD19#32⟩
def sml0 (x:W32):W32:=x.rotateRight 7 ^^^ x.rotateRight 18 ^^^ x >>> 3
def sml1 (x:W32):W32:=x.rotateRight 17 ^^^ x.rotateRight 19 ^^^ x >>> 10
def big0 (x:W32):W32:=x.rotateRight 2 ^^^ x.rotateRight 13 ^^^ x.rotateRight 22
def big1 (x:W32):W32:=x.rotateRight 6 ^^^ x.rotateRight 11 ^^^ x.rotateRight 25
def be4 (a b c d:UInt8):W32:=(((b32 a <<< 8 ||| b32 b) <<< 8) ||| b32 c) <<< 8 ||| b32 d
def Q5H (blk:List UInt8) (l:List W32) (t:Nat):W32 :=
 if t<16 then be4 (blk.getD (4*t) 0) (blk.getD (4*t+1) 0) (blk.getD (4*t+2) 0) (blk.getD (4*t+3) 0)
 else l.getD (t - 16) 0+sml0 (l.getD (t - 15) 0)+l.getD (t - 7) 0+sml1 (l.getD (t - 2) 0)
def Q0L (blk:List UInt8):Nat->List W32
 | 0=>[]
 | t+1=>Q0L blk t++[Q5H blk (Q0L blk t) t]
theorem Q7d (blk:List UInt8) (t:Nat):(Q0L blk t).length=t:=by
 induction t with
 | zero=>rfl
 | succ t ih=>simp [Q0L,ih]
def ch (e f g:W32):W32:=(e &&& f) ^^^ (~~~e &&& g)
def maj (a b c:W32):W32:=(a &&& b) ^^^ (a &&& c) ^^^ (b &&& c)
def rstep (s:St) (k w:W32):St :=
 ⟨(s.h+big1 s.e+ch s.e s.f s.g+k+w)+(big0 s.a+maj s.a s.b s.c),s.a,s.b,s.c,s.d+(s.h+big1 s.e+ch s.e s.f s.g+k+w),s.e,s.f,s.g⟩
def Q2J (s:St) (ws:List W32):Nat->St
 | 0=>s
 | t+1=>rstep (Q2J s ws t) (kc.getD t 0) (ws.getD t 0)
def Q0x (s:St) (blk:List UInt8):St:=s.add (Q2J s (Q0L blk 64) 64)
end
section
open Go.RowKit Go.Lib
theorem maskN (a:Nat) (ha:a<18446744073709551616):bits .and .u64 (a:Int) 4294967295=((a % 4294967296:Nat):Int):=by
 have h:=bits_and_u64_nat a 4294967295 ha (by omega);have e:a &&& 4294967295=a % 4294967296:=Nat.and_two_pow_sub_one_eq_mod a 32;rw [e] at h;exact h
theorem divN (a:Nat):(a:Int) / 4294967296=((a / 4294967296:Nat):Int):=by omega
theorem mulN (a b:Nat):(a:Int)*(b:Int)=((a*b:Nat):Int):=(Int.natCast_mul a b).symm
theorem addN (a b:Nat):(a:Int)+(b:Int)=((a+b:Nat):Int):=(Int.natCast_add a b).symm
theorem Q9Q (a:Nat) (ha:a<18446744073709551616):IntKind.u64.wrap (a:Int)=(a:Int):=by rw [IntKind.wrap_u64]; omega
theorem wrapM (a:Nat):IntKind.u64.wrap (a:Int)=((a % 18446744073709551616:Nat):Int):=by rw [IntKind.wrap_u64]; omega
theorem QcT (x y:Nat) (hx:x<18446744073709551616) (hy:y<18446744073709551616) (w:World) :
 Calls Tryz.prog 189 #[.int .u64 x,.int .u64 y] w fun e w'=>e=.returned (.tuple #[.int .u64 ((x*y / 18446744073709551616:Nat):Int),.int .u64 ((x*y % 18446744073709551616:Nat):Int)])/\w=w':=by
 obtain⟨bd,bt,bw,hhi⟩:=Lib.mul64_hi x y hx hy;have ba:=Lib.half_mul_le (a:=x / 4294967296) (b:=y / 4294967296) (by omega) (by omega);have bb:=Lib.half_mul_le (a:=x / 4294967296) (b:=y % 4294967296) (by omega) (by omega);have bc:=Lib.half_mul_le (a:=x % 4294967296) (b:=y / 4294967296) (by omega) (by omega);have ba':x / 4294967296*(y / 4294967296)<18446744073709551616:=by omega
 have bb':x / 4294967296*(y % 4294967296)<18446744073709551616:=by omega
 have bc':x % 4294967296*(y / 4294967296)<18446744073709551616:=by omega
 have bh1:x / 4294967296*(y / 4294967296)+(x / 4294967296*(y % 4294967296)+x % 4294967296*(y % 4294967296) / 4294967296) / 4294967296<18446744073709551616:=by omega
 have bh:x / 4294967296*(y / 4294967296)+(x / 4294967296*(y % 4294967296)+x % 4294967296*(y % 4294967296) / 4294967296) / 4294967296+((x / 4294967296*(y % 4294967296)+x % 4294967296*(y % 4294967296) / 4294967296) % 4294967296+x % 4294967296*(y / 4294967296)) / 4294967296<18446744073709551616:=by omega
 go_enter Tryz.func189,Tryz.ntmps189
 go_wp2
 simp only [maskN x hx,maskN y hy,divN,mulN,addN,Q9Q _ bd,Q9Q _ bb',Q9Q _ bt,maskN _ bt,Q9Q _ bc',Q9Q _ bw,Q9Q _ ba',Q9Q _ bh1,Q9Q _ bh,wrapM (x*y)];rw [hhi];go_ret2
 exact⟨rfl,rfl⟩
theorem Qd9 (x y:Nat) (w:World) :
 (callFunc 254 #[.int .u64 x,.int .u64 y,.int .u64 0]).run Tryz.prog w =
  .ok (.value (.tuple #[.int .u64 (((x+y) % 18446744073709551616:Nat):Int),.int .u64 (((x+y) / 18446744073709551616:Nat):Int)])) w:=by
 rw [run_callFunc_extern Tryz.func254 (by kernel_rfl) (by kernel_rfl) (by kernel_rfl) (e:=add64Entry) (by kernel_rfl)];have h:=run_add64 (P:=Tryz.prog) x y 0 (by omega) (by omega) (by omega) (by omega) w;rw [h];simp only [Result.andThen];congr 5 <;> omega
theorem Q8F (x y h l:Nat) (hx:x<18446744073709551616) (hy:y<18446744073709551616) (eh:x*y / 18446744073709551616=h) (el:x*y % 18446744073709551616=l) (w:World) :
 Calls Tryz.prog 189 #[.int .u64 x,.int .u64 y] w fun e w'=>e=.returned (.tuple #[.int .u64 (h:Int),.int .u64 (l:Int)])/\w=w':=by
 subst eh el; exact QcT x y hx hy w
theorem add64_as (x y s c:Nat) (es:(x+y) % 18446744073709551616=s) (ec:(x+y) / 18446744073709551616=c) (w:World) :
 (callFunc 254 #[.int .u64 x,.int .u64 y,.int .u64 0]).run Tryz.prog w=.ok (.value (.tuple #[.int .u64 (s:Int),.int .u64 (c:Int)])) w:=by
 subst es ec; exact Qd9 x y w
def Q8n (h l p:Nat):Bool:=decide (h<p\/(h=p/\l=0))
def Q8c (x p:Nat):Bool:=Q8n (x*x / 18446744073709551616) (x*x % 18446744073709551616) p
def Q8B (x p:Nat):Bool :=
 decide ((x*x / 18446744073709551616*x % 18446744073709551616+x*x % 18446744073709551616*x / 18446744073709551616) / 18446744073709551616=0) &&
  Q8n ((x*x / 18446744073709551616*x % 18446744073709551616+x*x % 18446744073709551616*x / 18446744073709551616) % 18446744073709551616)
   (x*x % 18446744073709551616*x % 18446744073709551616) (p*4294967296 % 18446744073709551616)
theorem Qao (x p:Nat) (hx:x<18446744073709551616) (w:World) :
 Calls Tryz.prog 253 #[.int .u64 x,.int .u64 p,.int .i64 2] w fun e w'=>e=.returned (.bool (Q8c x p))/\w=w':=by
 unfold Q8c;obtain⟨h,eh⟩:∃ h,x*x / 18446744073709551616=h:=⟨_,rfl⟩;obtain⟨l,el⟩:∃ l,x*x % 18446744073709551616=l:=⟨_,rfl⟩;rw [eh,el];have hm:=Q8F x x h l hx hx eh el;clear eh el;have HM:=Lib.hid hm;clear hm;go_enter Tryz.func253,Tryz.ntmps253
 go_wp2_with (go_at_call 189; refine(HM.out _).mono ?_; rintro _ _ ⟨rfl,rfl⟩)
 all_goals go_ret
 iterate 3 ·exact⟨Q0N (by unfold Q8n; rw [Bool.eq_iff_iff]; simp; omega),rfl⟩
theorem Qaz (x p:Nat) (hx:x<18446744073709551616) (hp:p<18446744073709551616) (w:World) :
 Calls Tryz.prog 253 #[.int .u64 x,.int .u64 p,.int .i64 3] w fun e w'=>e=.returned (.bool (Q8B x p))/\w=w':=by
 unfold Q8B;obtain⟨h,eh⟩:∃ h,x*x / 18446744073709551616=h:=⟨_,rfl⟩;obtain⟨l,el⟩:∃ l,x*x % 18446744073709551616=l:=⟨_,rfl⟩;rw [eh,el];have hl:l<18446744073709551616:=by rw [<- el]; exact Nat.mod_lt _ (by omega)
 obtain⟨h2,eh2⟩:∃ h2,l*x / 18446744073709551616=h2:=⟨_,rfl⟩;obtain⟨l2,el2⟩:∃ l2,l*x % 18446744073709551616=l2:=⟨_,rfl⟩;obtain⟨m,em⟩:∃ m,h*x % 18446744073709551616=m:=⟨_,rfl⟩;obtain⟨q,eq⟩:∃ q,p*4294967296 % 18446744073709551616=q:=⟨_,rfl⟩;rw [eh2,el2,em,eq];obtain⟨s,es⟩:∃ s,(m+h2) % 18446744073709551616=s:=⟨_,rfl⟩;obtain⟨c,ec⟩:∃ c,(m+h2) / 18446744073709551616=c:=⟨_,rfl⟩;rw [es,ec];have HM:=Lib.hid (Q8F x x h l hx hx eh el);have HM2:=Lib.hid (Q8F l x h2 l2 hl hx eh2 el2);have hadd:=add64_as m h2 s c es ec;have hmm:IntKind.u64.wrap ((h:Int)*(x:Int))=(m:Int):=by rw [IntKind.wrap_u64,<- em,Int.natCast_emod,Int.natCast_mul]; rfl
 have hqq:IntKind.u64.wrap ((p:Int)*4294967296)=(q:Int):=by rw [IntKind.wrap_u64,<- eq]; omega
 have hmm':((h:Int)*(x:Int)) % 18446744073709551616=(m:Int):=by rw [<- em,Int.natCast_emod,Int.natCast_mul]; rfl
 have hqq':((p:Int)*4294967296) % 18446744073709551616=(q:Int):=by rw [<- eq]; omega
 clear eh el eh2 el2 em eq es ec;go_enter Tryz.func253,Tryz.ntmps253
 go_wp2_with fail
 refine(HM.out _).mono ?_;rintro _ _ ⟨rfl,rfl⟩;go_wp2_with fail
 refine(HM2.out _).mono ?_;rintro _ _ ⟨rfl,rfl⟩;go_wp2_with fail
 all_goals go_ret
 all_goals exact⟨Q0N (by unfold Q8n; rw [Bool.eq_iff_iff]; simp; omega),rfl⟩
def Q7L (f:Nat->Bool):Nat->Nat->Nat->Nat
 | 0,_,x=>x
 | n+1,b,x=>Q7L f n (b / 2) (if f (x ||| b) then x ||| b else x)
def rootF (f:Nat->Bool):Nat:=Q7L f 37 68719476736 0 % 4294967296
theorem or_lt37 {x b:Nat} (hx:x<137438953472) (hb:b<137438953472):x ||| b<137438953472:=Nat.or_lt_two_pow (n:=37) hx hb
theorem QaT (f:Nat->Bool) (p:Nat) (pw:Int) (hf:∀ (x:Nat) (W:World),x<137438953472->Calls Tryz.prog 253 #[.int .u64 (x:Int),.int .u64 (p:Int),.int .i64 pw] W fun e w'=>e=.returned (.bool (f x))/\W=w') (w:World) :
 Calls Tryz.prog 244 #[.int .u64 (p:Int),.int .i64 pw] w fun e w'=>e=.returned (.int .u32 (rootF f:Nat))/\w=w':=by
 have HF:=Lib.hid hf;clear hf;go_enter Tryz.func244,Tryz.ntmps244
 go_wp2
 go_loop [5,6] (fun vx vb=>∃ (n x b:Nat),n<=37/\b=2 ^ n / 2/\x<137438953472/\vx=.int .u64 (x:Int)/\vb=.int .u64 (b:Int)/\Q7L f n b x=Q7L f 37 68719476736 0) (fun _ vb=>(intOf vb).toNat)
 case atStart=>exact⟨37,0,68719476736,by omega,by decide,by omega,rfl,rfl,rfl⟩
 case round =>
  obtain⟨n,x,b,hn,hb,hx,rfl,rfl,hr⟩:=hrel;have hb37:b<137438953472:=by
   rw [hb];have h1:2 ^ n<=2 ^ 37:=Nat.pow_le_pow_right (by omega) hn;have h2:2 ^ n / 2<=2 ^ 37 / 2:=Nat.div_le_div_right h1;omega
  by_cases hb0:b=0
  ·subst hb0;have HR:=Lib.hid (And.intro hb hr);clear hb hr
   go_wp2
   go_ret
   obtain⟨hb,hr⟩:=HR.out;have hn0:n=0:=by
    rcases Nat.eq_zero_or_pos n with h | h
    ·exact h
    ·obtain⟨m,rfl⟩:∃ m,n=m+1:=⟨n - 1,by omega⟩;rw [Nat.pow_succ,Nat.mul_div_cancel _ (by omega)] at hb;have:=Nat.two_pow_pos m;omega
   subst hn0;rw [Q7L] at hr;exact⟨Qae (by unfold rootF; rw [<- hr]; first | (rw [IntKind.wrap_u32']; omega) | omega),rfl⟩
  ·obtain⟨m,rfl⟩:∃ m,n=m+1:=by
    rcases Nat.eq_zero_or_pos n with h | h
    ·subst h; exact absurd hb hb0
    ·exact⟨n - 1,by omega⟩
   have hbm:b / 2=2 ^ m / 2:=by
    rw [hb,Nat.pow_succ,Nat.mul_div_cancel _ (by omega)]
   rw [Q7L] at hr;have hxb:=or_lt37 hx hb37;have hor:bits .or .u64 (x:Int) (b:Int)=((x ||| b:Nat):Int):=u64_or_nat x b (by omega) (by omega);have hbp:0<b:=by omega
   have hlt:b / 2<b:=by omega
   by_cases hfx:f (x ||| b)=true
   ·rw [if_pos hfx] at hr;have HR:=Lib.hid (And.intro hb (And.intro hr hbm));clear hb hr hbm;go_wp2_with (go_at_call 253; refine(HF.out _ _ hxb).mono ?_; rintro _ _ ⟨rfl,rfl⟩)
    go_round
    case rel=>exact⟨m,x ||| b,b / 2,by omega,HR.out.2.2,hxb,rfl,by go_num,HR.out.2.1⟩
    case measure=>simp [intOf]; omega
   ·rw [if_neg hfx] at hr;have hff:f (x ||| b)=false:=by simpa using hfx
    clear hfx;have HR:=Lib.hid (And.intro hb (And.intro hr hbm));clear hb hr hbm;go_wp2_with (go_at_call 253; refine(HF.out _ _ hxb).mono ?_; rintro _ _ ⟨rfl,rfl⟩)
    go_round
    case rel=>exact⟨m,x,b / 2,by omega,HR.out.2.2,hx,rfl,by go_num,HR.out.2.1⟩
    case measure=>simp [intOf]; omega
end
section
open Go.RowKit Go.Lib
theorem Q90 (k q:Nat):(((k+2) % q:Nat):Int)=((k:Int)+2) % (q:Int):=by rw [Int.natCast_emod]; rfl
def vu64 (n:Nat):Value:=.int .u64 (n:Int)
theorem u64_info:(Tryz.prog.info? 244).map (fun i=>(i.zero,i.size,i.bytes))=some (some (.int .u64 0),1,8):=by kernel_rfl
def Qaw (out:List Nat) (n:Nat):List Nat:=if out.any (fun p=>n % p == 0) then out else out++[n]
def pl:Nat->List Nat
 | 0=>[]
 | k+1=>Qaw (pl k) (k+2)
theorem Qcb (out:List Nat) (n:Nat):out.length<=(Qaw out n).length:=by unfold Qaw; split <;> simp
theorem QcG {a b:Nat} (h:a<=b):(pl a).length<=(pl b).length:=by
 induction b with
 | zero=>rw [show a=0 by omega]; exact Nat.le_refl _
 | succ b ih =>
  rcases Nat.lt_or_ge a (b+1) with h1 | h1
  ·exact Nat.le_trans (ih (by omega)) (Qcb _ _)
  ·rw [show a=b+1 by omega]; exact Nat.le_refl _
theorem pl_le (k:Nat):(pl k).length<=k:=by
 induction k with
 | zero=>simp [pl]
 | succ k ih =>
  simp only [pl,Qaw];split
  ·omega
  ·rw [List.length_append]; simp; omega
theorem pl_bd (k:Nat):∀ p∈pl k,2<=p/\p<k+2:=by
 induction k with
 | zero=>intro p hp; simp [pl] at hp
 | succ k ih =>
  intro p hp;simp only [pl,Qaw] at hp;split at hp
  ·have:=ih p hp; omega
  ·rcases List.mem_append.1 hp with h | h
   ·have:=ih p h; omega
   ·simp at h; omega
theorem Q3A {w:World} {B e size n:Nat} {v:Value} {xs:List Value} (h:w.ownsRow B e size v n xs):∃ A c,v=.slice A n c/\n<=c/\c<=maxLen:=by
 rcases h.2 with⟨rfl,rfl⟩ | ⟨g,cap,cur,rfl,_,_,h1,h2,_⟩
 ·exact⟨none,0,rfl,Nat.le_refl _,by unfold maxLen; omega⟩
 ·exact⟨_,cap,rfl,h1,h2⟩
theorem Q7D (many K:Nat) (hK:(pl K).length=many) (hlt:∀ k,k<K->(pl k).length<many) (hsm:K<1000) (w:World) :
 Calls Tryz.prog 243 #[.int .i64 (many:Int)] w fun e w'=>∃ v,e=.returned v/\w'.ownsRow w.heap.size 244 1 v many ((pl K).map vu64)/\Below w.heap.size w w':=by
 have hm:=pl_le K;rw [hK] at hm;have HL:=Lib.hid (And.intro hK hlt);clear hK hlt;go_enter Tryz.func243,Tryz.ntmps243
 go_wp2
 go_step3
 go_wp2
 go_step3
 go_wp2
 go_loopg [3,4] K (fun g v n wr=>∃ k,k+g=K/\n=.int .u64 ((k:Int)+2)/\wr.ownsRow w.heap.size 244 1 v (pl k).length ((pl k).map vu64)/\Below w.heap.size w wr)
 case atStart=>exact⟨0,by omega,rfl,⟨by simp [pl],.inl ⟨rfl,by simp [pl]⟩⟩,Below.refl _ _⟩
 case round =>
  obtain⟨k,hk,rfl,hown,hbel⟩:=hrel;obtain⟨A,c,rfl,hc1,hc2⟩:=Q3A hown;have hl:=pl_le k;unfold maxLen at hc2;have HK:=Lib.hid hk;have hkK:k<=K:=by omega
  clear hk;by_cases hlt:(pl k).length<many
  ·have hkg:0<gk:=by
    have:=HK.out;rcases Nat.eq_zero_or_pos gk with h | h
    ·have hkk:k=K:=by omega
     rw [hkk,HL.out.1] at hlt; omega
    ·exact h
   have hrd:=Q0d.of_own hown;have hpb:=pl_bd k;generalize hps:pl k=ps at *;have HPS:=Lib.hid hps;clear hps;have HPB:=Lib.hid hpb;clear hpb
   go_wp2
   obtain⟨wo,rfl⟩:∃ wo:World,wo=wr:=⟨_,rfl⟩;obtain⟨gO,hgO⟩:∃ g,g=gk:=⟨_,rfl⟩;have HGO:=Lib.hid hgO;clear hgO
   go_loopg [15] ps.length (fun g i wr'=>∃ j,j+g=ps.length/\i=.int .i64 (j:Int)/\Hid (∀ q,q<j->(k+2) % ps.getD q 0≠0)/\wo=wr')
   case atStart=>exact⟨0,by omega,rfl,by intro q hq; omega,rfl⟩
   case round =>
    obtain⟨j,hj,rfl,HJ,rfl⟩:=hrel;have HJJ:=Lib.hid hj;have hjl:j<=ps.length:=by omega
    clear hj;by_cases hjlt:j<ps.length
    ·obtain⟨ad,u,hAd,_,hx,hcx⟩:=hrd.at_ (k:=j) hjlt;obtain⟨q,hq,rfl⟩:∃ q,ps.getD j 0=q/\u=.int .u64 (q:Int):=by
      rw [List.getElem?_map,List.getElem?_eq_getElem hjlt] at hx;refine⟨ps[j],by rw [List.getD_eq_getElem?_getD,List.getElem?_eq_getElem hjlt]; rfl,?_⟩;simpa [vu64] using hx.symm
     have hqb:2<=q/\q<k+2:=by
      refine HPB.out q ?_;rw [<- hq,List.getD_eq_getElem?_getD,List.getElem?_eq_getElem hjlt];exact List.getElem_mem hjlt
     have hq2:=hqb.1;have hqk:=hqb.2;subst hAd;have HQ:=Lib.hid hq;clear hq hx hqb;by_cases hdv:(k+2) % q=0
     ·have hz:((((k:Int)+2) % (q:Int)) == 0)=true:=by
       rw [beq_iff_eq,<- Q90,hdv]; rfl
      have HDV:=Lib.hid hdv;clear hdv
      go_wp2
      go_roundg (gO - 1)
      case measure=>have:=HGO.out; omega
      case rel =>
       have hg:=HGO.out;have hk:=HK.out;have hps:=HPS.out;have hany:ps.any (fun p=>(k+2) % p == 0)=true:=by
        rw [List.any_eq_true];refine⟨q,?_,by rw [HDV.out]; rfl⟩;rw [<- HQ.out,List.getD_eq_getElem?_getD,List.getElem?_eq_getElem hjlt];exact List.getElem_mem hjlt
       have hpl:pl (k+1)=ps:=by rw [pl,Qaw,hps,if_pos hany]
       exact⟨k+1,by omega,by go_num,by rw [hpl]; exact hown,hbel⟩
     ·have hz:((((k:Int)+2) % (q:Int)) == 0)=false:=by
       rw [beq_eq_false_iff_ne,<- Q90]; omega
      have HDV:=Lib.hid hdv;clear hdv
      go_wp2
      go_roundg (gk - 1)
      case measure=>have:=HJJ.out; omega
      case rel =>
       have hj:=HJJ.out;refine⟨j+1,by omega,by go_num,?_,rfl⟩;intro r hr;rcases Nat.lt_or_ge r j with h | h
       ·exact HJ.out r h
       ·rw [show r=j by omega,HQ.out]; exact HDV.out
    ·obtain rfl:j=ps.length:=by omega
     obtain⟨i0,hi0,hz0,hz1,hz2⟩:=info_parts u64_info;go_wp2_with (at_builtin; go_must (refine wpList_append_own _ rfl (.tmp 24) (.tmp 26) _ rfl w.heap.size 244 i0 _ 1 8 Tryz.underlying299 hi0 hz0 hz1 hz2 rfl (by omega) _ _ _ rfl (hown.alloc _) ⟨wo.heap.size,0,none⟩ 1 1 [.int .u64 ((k:Int)+2)] rfl rfl ?c1 ?c2 ?c3 ?c4 ?c5 ?_))
     case c1=>exact cell_one_new _ _ _
     case c2=>intro u hu; simp at hu; subst hu; rfl
     case c3=>unfold maxLen; omega
     case c4=>omega
     case c5=>have:=hbel.size; simp; omega
     intro v1 w1 hown1 hg1 _
     go_wp2
     go_roundg (gO - 1)
     case measure=>have:=HGO.out; omega
     case rel =>
      have hg:=HGO.out;have hk:=HK.out;have hps:=HPS.out;have hany:ps.any (fun p=>(k+2) % p == 0)=false:=by
       rw [List.any_eq_false];intro q hq h;obtain⟨r,hr,rfl⟩:=List.getElem_of_mem hq;have h2:=HJ.out r hr;rw [List.getD_eq_getElem?_getD,List.getElem?_eq_getElem hr] at h2;exact h2 (by simpa using h)
      have hpl:pl (k+1)=ps++[k+2]:=by rw [pl,Qaw,hps,if_neg (by rw [hany]; simp)]
      refine⟨k+1,by omega,by go_num,?_,(hbel.alloc hbel.size _).grown hg1 (by have:=hbel.size; simp; omega) ?_⟩
      ·rw [hpl,List.map_append,List.length_append];exact hown1
      ·intro b hb;rcases hown.2 with⟨h1,_⟩ | ⟨g,cap,cur,h1,h2,_⟩
       ·injection h1 with h1; subst h1; simp [Value.ownBlock] at hb
       ·injection h1 with h1; subst h1; simp [Value.ownBlock] at hb; omega
  ·have hkk:k=K:=by
    rcases Nat.lt_or_ge k K with h | h
    ·exact absurd (HL.out.2 k h) hlt
    ·omega
   have HKK:=Lib.hid hkk;clear hkk
   go_wp2
   try rw [Exit.noGoto_ret]
   go_ret
   obtain rfl:=HKK.out;exact⟨_,rfl,by rw [<- HL.out.1]; exact hown,hbel⟩
end
section
open Go.RowKit
structure Q0c (g:Nat) (w w':World):Prop where
 os:w'.os=w.os
 tape:w'.tape=w.tape
 output:w'.output=w.output
 size:w'.heap.size=w.heap.size
 block:∀ k,k≠g->w'.heap[k]?=w.heap[k]?
theorem Q0c.refl (g:Nat) (w:World):Q0c g w w:=⟨rfl,rfl,rfl,rfl,fun _ _=>rfl⟩
theorem Q0c.trans {g:Nat} {a b c:World} (h:Q0c g a b) (k:Q0c g b c):Q0c g a c :=
 ⟨k.os.trans h.os,k.tape.trans h.tape,k.output.trans h.output,k.size.trans h.size,fun i hi=>(k.block i hi).trans (h.block i hi)⟩
theorem Q0c.setRow (w:World) (g:Nat) (cs:Array Value):Q0c g w (w.setRow g cs) :=
 ⟨rfl,rfl,rfl,by simp [World.setRow],fun k hk=>by
  simp only [World.setRow,Array.getElem?_modify]; rw [if_neg (fun h=>hk h.symm)]⟩
theorem Q0c.setCell (w:World) (p:Addr) (u:Value):Q0c p.block w (w.setCell p u) :=
 ⟨rfl,rfl,rfl,by simp [World.setCell],fun k hk=>Below.heap_setCell w p u k hk⟩
theorem Q0c.drewN {g:Nat} {w w':World} (h:Q0c g w w') (n:Nat):Q0c g w (w'.drewN n):=⟨h.os,h.tape,h.output,h.size,h.block⟩
theorem Q0c.blk {g k:Nat} {w w':World} {t:TypeId} {cs:Array Value} (h:Q0c g w w') (hb:Blk w k t cs) (hk:k≠g):Blk w' k t cs:=(h.block k hk).trans hb
theorem Q0c.below {B g:Nat} {a w w':World} (h:Q0c g w w') (hb:Below B a w) (hg:B<=g):Below B a w' :=
 hb.trans ⟨h.os,h.tape,h.output,by rw [h.size]; exact Nat.le_refl _,fun k hk=>h.block k (by omega)⟩
theorem Q0c.cell {g:Nat} {w w':World} (h:Q0c g w w') {p:Addr} (hp:p.block≠g):w'.cell? p=w.cell? p:=World.cell?_of_block (h.block p.block hp)
theorem Q0c.grown {g:Nat} {w w':World} (h:Q0c g w w'):w.grownBy w' (some g) :=
 ⟨h.os,h.tape,h.output,by rw [h.size]; exact Nat.le_refl _,fun k _ hk=>h.block k (fun e=>hk (by rw [e]))⟩
theorem Q60 {a w w':World} {row:Option Nat} {r:Nat} (h:a.grownBy w row) (ht:Q0c r w w') (hr:a.heap.size<=r):a.grownBy w' row :=
 ⟨ht.os.trans h.os,ht.tape.trans h.tape,ht.output.trans h.output,by rw [ht.size]; exact h.size,fun k hk hn=>(ht.block k (by omega)).trans (h.block k hk hn)⟩
def spl (cur:Array Value) (o:Nat) (vs:List Value):Array Value:=(cur.toList.take o++vs++cur.toList.drop (o+vs.length)).toArray
theorem Q3P {cur:Array Value} {o:Nat} {vs:List Value} (h:o+vs.length<=cur.size):(spl cur o vs).size=cur.size:=by
 simp [spl]; omega
theorem Q4I {cur:Array Value} {o:Nat} {vs:List Value} (h:o+vs.length<=cur.size) (j:Nat):(spl cur o vs)[j]?=if o<=j/\j<o+vs.length then vs[j - o]? else cur[j]?:=by
 unfold spl;rw [List.getElem?_toArray];by_cases h1:j<o
 ·rw [if_neg (by omega),List.append_assoc,List.getElem?_append_left (by simp; omega),List.getElem?_take,if_pos h1]; simp
 ·by_cases h2:j<o+vs.length
  ·rw [if_pos (by omega),List.append_assoc,List.getElem?_append_right (by simp; omega),List.getElem?_append_left (by simp; omega)];congr 1; simp; omega
  ·rw [if_neg (by omega),List.append_assoc,List.getElem?_append_right (by simp; omega),List.getElem?_append_right (by simp; omega),List.getElem?_drop]
   simp
   congr 1; omega
theorem Q6R {n o m:Nat} {f g:Nat->Value} {vs:List Value} (hm:vs.length=m) (hv:∀ j,j<m->vs[j]?=some (g j)) (h:o+m<=n):spl (rng n f) o vs=rng n (fun j=>if o<=j/\j<o+m then g (j - o) else f j):=by
 refine Q40 (by rw [Q3P (by rw [Q0C,hm]; exact h),Q0C]) fun j hj=>?_
 rw [Q4I (by rw [Q0C,hm]; exact h),hm];split
 ·exact hv _ (by omega)
 ·exact Q1z _ _ _ hj
theorem Q08 (cs vs:Array Value) (h:vs.size=cs.size):spl cs 0 vs.toList=vs:=by
 unfold spl;rw [List.take_zero,List.nil_append,Nat.zero_add,List.drop_eq_nil_of_le (by simp; omega),List.append_nil]
theorem Qai (n:Nat) (l:List W32):(rng n (fun j=>vw (l.getD j 0))).all (·.oneCell')=true:=by
 simp [rng,vw,Value.oneCell']
section
variable {P:Program}
theorem Q13 (g o j:Nat):(⟨g,o,none⟩:Addr).add j=⟨g,o+j,none⟩:=by unfold Addr.add; split <;> simp_all
theorem Q4E {t e:TypeId} {n:Nat} (ht:P.underlying t=some (.array n e)) (hs:(P.info? e).map (·.size)=some 1) (a:Addr) (l:Nat) (li:Int) (el:li=l) (hl:l<n) (W:World) :
 (Instr.sliceAt t (.pointer (some a)) (some (.int .i64 li)) none none).run P W=.ok (.slice (some (a.add l)) (n - l) (n - l)) W:=by
 subst el;obtain⟨i,hi,hsz⟩:∃ i,P.info? e=some i/\i.size=1:=by
  cases hh:P.info? e with
  | none=>rw [hh] at hs; cases hs
  | some i=>rw [hh] at hs; exact⟨i,rfl,by simpa using hs⟩
 have he:P.elem t=e:=by simp [Program.elem,ht]
 have hln:P.arrayLen t=n:=by simp [Program.arrayLen,ht]
 rw [run_sliceAt_array_l W t a (by rw [he,hln]; exact ht) .i64 (l:Int) (by omega) (by rw [hln]; omega)];simp [he,hln,sizeOf,typeInfo,hi,hsz,slicedAt,show ¬ n=l by omega]
theorem Q7c {t e:TypeId} (ht:P.underlying t=some (.slice e)) (hs:(P.info? e).map (·.size)=some 1) (A:Option Addr) (len cap l:Nat) (li:Int) (el:li=l) (hl:l<=len) (W:World) :
 (Instr.slice t (.slice A len cap) (some (.int .i64 li)) none none).run P W=.ok (.slice (if cap=l then A else A.map (·.add l)) (len - l) (cap - l)) W:=by
 subst el;obtain⟨i,hi,hsz⟩:∃ i,P.info? e=some i/\i.size=1:=by
  cases hh:P.info? e with
  | none=>rw [hh] at hs; cases hs
  | some i=>rw [hh] at hs; exact⟨i,rfl,by simpa using hs⟩
 have he:P.elem t=e:=by simp [Program.elem,ht]
 rw [run_slice_l W t A len cap (by rw [he]; exact ht) .i64 (l:Int) (by omega) (by omega)];simp [he,sizeOf,typeInfo,hi,hsz,sliced]
theorem Q20 (w:World) (g o n:Nat) (t ty:TypeId) (cs vs:Array Value) (d:TypeDesc) (hB:Blk w g t cs)
 (hu:P.underlying ty=some d) (hd:(match d with | .struct _ | .array _ _=>true | _=>false)=true) (hi:(P.info? ty).map (·.size)=some n)
 (hn:vs.size=n) (hv:∀ j,j<n->cs[o+j]?=vs[j]?) :
 (loadVar ty ⟨g,o,none⟩).run P w=.ok (.agg vs) w:=by
 have hl:(loadCells ⟨g,o,none⟩ vs.toList.length).run P w=.ok vs.toList.toArray w :=
  run_loadCells_list (P:=P) w ⟨g,o,none⟩ vs.toList (fun j v hj=>by
   have hjn:j<n:=by
    rcases Nat.lt_or_ge j vs.toList.length with h | h
    ·simpa [hn] using h
    ·rw [List.getElem?_eq_none h] at hj; cases hj
   rw [Q13,hB.cell,hv j hjn];simpa using hj)
 cases hq:P.info? ty with
 | none=>simp [hq] at hi
 | some i =>
  have hs:i.size=n:=by simpa [hq] using hi
  have hagg:(isAgg ty).run P w=.ok true w:=by
   unfold isAgg;rw [Sem.run_bind,run_underlying hu w];cases d <;> simp_all
  simp only [Array.length_toList,Array.toArray_toList,hn] at hl;simp [loadVar,Sem.run_bind,hagg,sizeOf,typeInfo,hq,hs,hl]
theorem Q4f {o:Oper} {a:Act} {w:World} {K:Act->World->Prop} {Q:Exit->Act->World->Prop} (ty:TypeId) (x:Operand) (ho:o.op=.load ty x)
 (g off n:Nat) (hx:a.eval x=.pointer (some ⟨g,off,none⟩)) (t:TypeId) (cs vs:Array Value) (d:TypeDesc) (hB:Blk w g t cs)
 (hu:P.underlying ty=some d) (hd:(match d with | .struct _ | .array _ _=>true | _=>false)=true) (hi:(P.info? ty).map (·.size)=some n)
 (hn:vs.size=n) (hv:∀ j,j<n->cs[off+j]?=vs[j]?)
 (h:K (a.put o.dst (.agg vs)) w):o.wp P a w K Q:=by
 unfold Oper.wp execOp;simp only [ho,hx,Instr.loadAt,Instr.sureAddr,Sem.run_bind,Sem.run_pure,Result.andThen_ok,Q20 w g off n t ty cs vs d hB hu hd hi hn hv];exact h
theorem Q03 {ops:Array Oper} {rest:List Oper} {o:Oper} {a:Act} {w:World} {Q:Exit->Act->World->Prop} (hgd:o.guard=none) (ty:TypeId) (x:Operand) (ho:o.op=.load ty x)
 (g off n:Nat) (hx:a.eval x=.pointer (some ⟨g,off,none⟩)) (t:TypeId) (cs vs:Array Value) (d:TypeDesc) (hB:Blk w g t cs)
 (hu:P.underlying ty=some d) (hd:(match d with | .struct _ | .array _ _=>true | _=>false)=true) (hi:(P.info? ty).map (·.size)=some n)
 (hn:vs.size=n) (hv:∀ j,j<n->cs[off+j]?=vs[j]?)
 (h:wpList P ops Q rest (a.put o.dst (.agg vs)) w):wpList P ops Q (o :: rest) a w :=
 wpList_plain hgd fun _ hK=>Q4f ty x ho g off n hx t cs vs d hB hu hd hi hn hv (hK _ _ h)
theorem Q5y (w:World) (g o:Nat) (t ty:TypeId) (cs vs:Array Value) (hB:Blk w g t cs) (hi:(P.info? ty).map (·.size)=some vs.size)
 (ho:o+vs.size<=cs.size) (h1:vs.all (·.oneCell')=true) :
 (storeVar ty ⟨g,o,none⟩ (.agg vs)).run P w=.ok () (w.setRow g (spl cs o vs.toList)):=by
 have:=run_storeCells_at P g o t vs.toList 0 cs w hB (by simpa using ho) (fun v hv=>(Array.all_eq_true_iff_forall_mem.1 h1) v (by simpa using hv));cases hq:P.info? ty with
 | none=>simp [hq] at hi
 | some i =>
  have hs:vs.size=i.size:=by simp [hq] at hi; omega
  simp only [Nat.add_zero] at this;simp [storeVar,sizeOf,typeInfo,hq,Value.cells,hs,this,spl]
theorem Q3Y {o:Oper} {a:Act} {w:World} {K:Act->World->Prop} {Q:Exit->Act->World->Prop} (ty:TypeId) (x y:Operand) (ho:o.op=.store ty x y)
 (g off:Nat) (vs:Array Value) (hx:a.eval x=.pointer (some ⟨g,off,none⟩)) (hy:a.eval y=.agg vs)
 (t:TypeId) (cs:Array Value) (hB:Blk w g t cs) (hi:(P.info? ty).map (·.size)=some vs.size)
 (hold:off+vs.size<=cs.size) (h1:vs.all (·.oneCell')=true)
 (h:∀ W',Q0c g w W'->Blk W' g t (spl cs off vs.toList)->K (a.put o.dst undef) W'):o.wp P a w K Q:=by
 unfold Oper.wp execOp;simp only [ho,hx,hy,Instr.storeAt,Instr.sureAddr,Sem.run_bind,Sem.run_pure,Result.andThen_ok,Q5y w g off t ty cs vs hB hi hold h1];exact h _ (Q0c.setRow w g _) (setRow_heap w g cs _ t _ hB)
theorem Q01 {ops:Array Oper} {rest:List Oper} {o:Oper} {a:Act} {w:World} {Q:Exit->Act->World->Prop} (hgd:o.guard=none) (ty:TypeId) (x y:Operand) (ho:o.op=.store ty x y)
 (g off:Nat) (vs:Array Value) (hx:a.eval x=.pointer (some ⟨g,off,none⟩)) (hy:a.eval y=.agg vs)
 (t:TypeId) (cs:Array Value) (hB:Blk w g t cs) (hi:(P.info? ty).map (·.size)=some vs.size)
 (hold:off+vs.size<=cs.size) (h1:vs.all (·.oneCell')=true)
 (h:∀ W',Q0c g w W'->Blk W' g t (spl cs off vs.toList)->wpList P ops Q rest (a.put o.dst undef) W'):wpList P ops Q (o :: rest) a w :=
 wpList_plain hgd fun _ hK=>Q3Y ty x y ho g off vs hx hy t cs hB hi hold h1 fun W' h2 h3=>hK _ _ (h W' h2 h3)
theorem Q69 {ops:Array Oper} {rest:List Oper} {o:Oper} {a:Act} {w:World} {Q:Exit->Act->World->Prop} (hgd:o.guard=none) (d s:Operand) (dT sT elem:TypeId)
 (ho:o.op=.call { callee:=.builtin .copy,args:=#[d,s],argTypes:=#[dT,sT] })
 (g off dLen dCap sLen sCap:Nat) (ad:Addr) (t:TypeId) (cs:Array Value) (vs:List Value)
 (hd:a.eval d=.slice (some ⟨g,off,none⟩) dLen dCap) (hs:a.eval s=.slice (some ad) sLen sCap)
 (hu:P.underlying dT=some (.slice elem)) (hsz:(P.info? elem).map (·.size)=some 1)
 (hB:Blk w g t cs) (hn:vs.length=Nat.min sLen dLen) (hsrc:∀ j v,vs[j]?=some v->w.cell? (ad.add j)=some v) (hfit:off+vs.length<=cs.size) (h1:∀ v∈vs,v.oneCell'=true)
 (h:∀ W',Q0c g w W'->Blk W' g t (spl cs off vs)->wpList P ops Q rest (a.put o.dst (.int .i64 (vs.length:Int))) W'):wpList P ops Q (o :: rest) a w :=
 wpList_plain hgd fun _ hK=>by
  unfold Oper.wp execOp;simp only [ho,resolve,invoke,builtin,Sem.run_bind,Sem.run_pure,Result.andThen_ok,List.map_toArray,List.map_cons,List.map_nil,hd,hs,run_copy_row (P:=P) w dT sT o.type elem g off dLen dCap ad sLen sCap cs t vs hu hsz hB hn hsrc hfit h1];exact hK _ _ (h _ (Q0c.setRow w g _) (setRow_heap w g cs _ t _ hB))
theorem Q8k (z:Value) (n:Nat):(Builtin.zeroCells #[z] n).toList=List.replicate n z:=by
 unfold Builtin.zeroCells;apply List.ext_getElem
 ·simp
 ·intro i h1 h2;simp [Nat.mod_one]
theorem Q3x {ops:Array Oper} {rest:List Oper} {o:Oper} {a:Act} {w:World} {Q:Exit->Act->World->Prop} (hgd:o.guard=none) (d:Operand) (dT elem:TypeId)
 (ho:o.op=.call { callee:=.builtin .clear,args:=#[d],argTypes:=#[dT] })
 (g off n cap:Nat) (t:TypeId) (cs:Array Value) (z:Value) (hd:a.eval d=.slice (some ⟨g,off,none⟩) (n+1) cap)
 (hu:P.underlying dT=some (.slice elem)) (hz:(zeroValue elem).run P w=.ok z w) (hzc:z.cells=#[z]) (hz1:z.oneCell'=true)
 (hB:Blk w g t cs) (hfit:off+(n+1)<=cs.size)
 (h:∀ W',Q0c g w W'->Blk W' g t (spl cs off (List.replicate (n+1) z))->wpList P ops Q rest (a.put o.dst (.tuple #[])) W'):wpList P ops Q (o :: rest) a w :=
 wpList_plain hgd fun _ hK=>by
  have hst:=run_storeCells_at P g off t (List.replicate (n+1) z) 0 cs w hB (by simpa using hfit) (fun v hv=>by rw [List.eq_of_mem_replicate hv]; exact hz1);have hrun:(Builtin.clear_ #[dT] o.type #[.slice (some ⟨g,off,none⟩) (n+1) cap]).run P w=.ok (.tuple #[]) (w.setRow g (spl cs off (List.replicate (n+1) z))):=by
   simp only [Nat.add_zero] at hst;simp only [spl];rw [<- Q8k z (n+1)] at hst ⊢;simp [Builtin.clear_,run_underlying hu,hz,hzc,hst]
  unfold Oper.wp execOp;simp only [ho,resolve,invoke,builtin,Sem.run_bind,Sem.run_pure,Result.andThen_ok,List.map_toArray,List.map_cons,List.map_nil,hd,hrun];exact hK _ _ (h _ (Q0c.setRow w g _) (setRow_heap w g cs _ t _ hB))
theorem Q0m {o:Oper} {a:Act} {w:World} (ty:TypeId) (x:Operand) (ho:o.op=.load ty x)
 (g off n:Nat) (hx:a.eval x=.pointer (some ⟨g,off,none⟩)) (t:TypeId) (cs vs:Array Value) (d:TypeDesc) (hB:Blk w g t cs)
 (hu:P.underlying ty=some d) (hd:(match d with | .struct _ | .array _ _=>true | _=>false)=true) (hi:(P.info? ty).map (·.size)=some n)
 (hn:vs.size=n) (hv:∀ j,j<n->cs[off+j]?=vs[j]?):(execOp a.eval o).run P w=.ok (.value (.agg vs)) w:=by
 unfold execOp;simp only [ho,hx,Instr.loadAt,Instr.sureAddr,Sem.run_bind,Sem.run_pure,Result.andThen_ok,Q20 w g off n t ty cs vs d hB hu hd hi hn hv]
theorem Q0b {fn:Func} {p u:Tmp} {ty:TypeId} (h:fn.results=#[.cell p ty,.tmp u]) (tmps:Array Value) (w:World) (g n:Nat) (t:TypeId) (cs:Array Value) (d:TypeDesc)
 (hp:tmps.getD p undef=.pointer (some ⟨g,0,none⟩)) (hB:Blk w g t cs)
 (hu:P.underlying ty=some d) (hd:(match d with | .struct _ | .array _ _=>true | _=>false)=true) (hi:(P.info? ty).map (·.size)=some n) (hn:cs.size=n) :
 (results fn tmps).run P w=.ok (.tuple #[.agg cs,tmps.getD u undef]) w:=by
 rw [results_cell_tmp h,hp];simp [asAddr,Q20 w g 0 n t ty cs cs d hB hu hd hi hn (fun j _=>by rw [Nat.zero_add])]
theorem QaV (cs:Array Value) (o:Nat) (v:Value) (vs:List Value) (h:o+(vs.length+1)<=cs.size):spl cs o (v :: vs)=spl (cs.setIfInBounds o v) (o+1) vs:=by
 apply Array.ext_getElem?
 intro j;rw [Q4I (by simpa using h),Q4I (by simp; omega),Array.getElem?_setIfInBounds];by_cases h1:j=o
 ·subst h1;rw [if_pos (by simp),if_neg (by omega),if_pos rfl,if_pos (by omega)]
  simp
 ·by_cases h2:o<=j/\j<o+(v :: vs).length
  ·simp only [List.length_cons] at h2;rw [if_pos (by simp; omega),if_pos (by omega),show j - o=(j - (o+1))+1 by omega,List.getElem?_cons_succ]
  ·rw [if_neg h2,if_neg (by simp at h2; omega),if_neg (fun e=>h1 e.symm)]
theorem Blk.setCells {w:World} {g:Nat} {t:TypeId} {cs:Array Value} (o:Nat) (vs:List Value) (hB:Blk w g t cs) (h:o+vs.length<=cs.size):Blk (w.setCells g o vs) g t (spl cs o vs)/\Q0c g w (w.setCells g o vs):=by
 induction vs generalizing o w cs with
 | nil =>
  refine⟨?_,Q0c.refl _ _⟩;have:spl cs o []=cs:=by unfold spl; simp
  rw [this]; exact hB
 | cons v vs ih =>
  simp only [World.setCells];have h1:=ih (w:=w.setCell ⟨g,o,none⟩ v) (cs:=cs.setIfInBounds o v) (o+1) (hB.set_ o v) (by simp at h ⊢; omega);rw [QaV cs o v vs (by simpa using h)];exact⟨h1.1,(Q0c.setCell w ⟨g,o,none⟩ v).trans h1.2⟩
theorem Blk.there {w:World} {g:Nat} {t:TypeId} {cs:Array Value} (hB:Blk w g t cs) (o n:Nat) (h:o+n<=cs.size):w.there g o n:=fun j hj =>
 ⟨by rw [hB.cell,Array.getElem?_eq_getElem (by omega)]; rfl,hB.frozen _⟩
theorem Q2d {ops:Array Oper} {o:Oper} {a:Act} {w:World} {K:Act->World->Prop} {Q:Exit->Act->World->Prop} {E:Prop} (hgd:o.guard=none) (ty:TypeId) (x y:Operand) (ho:o.op=.store ty x y)
 (g off:Nat) (vs:Array Value) (hx:a.eval x=.pointer (some ⟨g,off,none⟩)) (hy:a.eval y=.agg vs)
 (t:TypeId) (cs:Array Value) (hB:Blk w g t cs) (hi:(P.info? ty).map (·.size)=some vs.size)
 (hold:off+vs.size<=cs.size) (h1:vs.all (·.oneCell')=true)
 (h:∀ W',Q0c g w W'->Blk W' g t (spl cs off vs.toList)->K (a.put o.dst undef) W'):if Region.wanted o (yielded ops a.tmps)=true then Oper.wp P o a w K Q else E:=by
 have hw:Region.wanted o (yielded ops a.tmps)=true:=by simp [Region.wanted,hgd]
 rw [if_pos hw];exact Q3Y ty x y ho g off vs hx hy t cs hB hi hold h1 h
theorem Q0h {fn:Func} {p:Tmp} {ty:TypeId} (h:fn.results=#[.cell p ty]) (tmps:Array Value) (w:World) (g n:Nat) (t:TypeId) (cs:Array Value) (d:TypeDesc)
 (hp:tmps.getD p undef=.pointer (some ⟨g,0,none⟩)) (hB:Blk w g t cs)
 (hu:P.underlying ty=some d) (hd:(match d with | .struct _ | .array _ _=>true | _=>false)=true) (hi:(P.info? ty).map (·.size)=some n) (hn:cs.size=n) :
 (results fn tmps).run P w=.ok (.agg cs) w:=by
 have hp':tmps[p]?.getD undef=.pointer (some ⟨g,0,none⟩):=by simpa using hp
 simp [results,h,hp',asAddr,Q20 w g 0 n t ty cs cs d hB hu hd hi hn (fun j _=>by rw [Nat.zero_add])]
end
end
end Go.Proofs.YtcpngeiahgoacaaGreat
