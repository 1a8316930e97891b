/- Parts of the proof, in one text. -/
import Derived.Test.YtcpngeiahgoacaaGreatM4
import Derived.Test.YtcpngeiahgoacaaGreatM6
import Derived.Lib.SliceRun
namespace Go.Proofs.YtcpngeiahgoacaaGreat
set_option linter.unusedVariables false
set_option linter.unusedSimpArgs false
set_option maxRecDepth 100000
set_option maxHeartbeats 16000000
open _root_.Bool renaming and_eq_true->zN
open _root_.Go renaming World->zA,Calls->zC
open _root_.Go.IntKind renaming wrap_i64->zR
open _root_.Go.Proofs.Tryz renaming prog->zE,underlying77->zW
open _root_.Go.World renaming alloc->zT
open _root_.List renaming getElem?_eq_getElem->zB,getElem?_map->zD,length_append->zG,getElem_mem->zH,append_assoc->zI,getElem?_append_left->zJ,length_cons->zK,mem_cons_self->zL,mem_cons_of_mem->zM,length_set->zO,take_succ_eq_append_getElem->zP,length_take->zQ,drop_eq_getElem_cons->zS,mem_singleton->zU,mem_of_getElem?->zV
open _root_.Nat renaming le_refl->zF
section
def insL (z:Int):List Int->List Int
 | []=>[z]
 | x :: t=>if z<x then z :: x :: t else x :: insL z t
def Q28 (l:List Int) (o:Int):List Int:=l.filter (fun x=>!decide (x=o))
def Q1L (l:List Int) (o n:Int):List Int:=insL n (Q28 l o)
def nowL (l:List Int):List (Int×Int)->List Int
 | []=>l
 | m :: t=>nowL (Q1L l m.1 m.2) t
def Q12 (l:List Int):List (Int×Int)->List (List Int)
 | []=>[l]
 | m :: t=>l :: Q12 (Q1L l m.1 m.2) t
structure OkC (f:Nat) (l:List Int):Prop where
 faults:f<=2
 len:l.length=3*f+1
 up:Q1f 0 l=true
theorem Q3X:∀ (l:List Int) (a:Int),Q1f a l=true->l.Pairwise (· < ·)/\∀ x,x∈l->a<x/\x<=28
 | [],_,_=>⟨List.Pairwise.nil,fun x hx=>by cases hx⟩
 | y :: t,a,h=>by
  unfold Q1f at h;rw [zN] at h;have h1:=of_decide_eq_true h.1;have h2:=Q3X t y h.2;refine⟨List.Pairwise.cons (fun x hx=>(h2.2 x hx).1) h2.1,fun x hx=>?_⟩;rcases List.mem_cons.1 hx with rfl | hx
  ·exact h1
  have:=h2.2 x hx; omega
theorem Q8L:∀ (l:List Int) (a:Int),l.Pairwise (· < ·)->(∀ x,x∈l->a<x/\x<=28)->Q1f a l=true
 | [],_,_,_=>rfl
 | y :: t,a,h,hb=>by have hp:=List.pairwise_cons.1 h;have h1:=hb y (zL ..);unfold Q1f;rw [decide_eq_true ⟨h1.1,h1.2⟩,Bool.true_and];exact Q8L t y hp.2 fun x hx=>⟨hp.1 x hx,(hb x (zM _ hx)).2⟩
theorem OkC.pair {f:Nat} {l:List Int} (h:OkC f l):l.Pairwise (· < ·):=(Q3X l 0 h.up).1
theorem OkC.bound {f:Nat} {l:List Int} (h:OkC f l) {x:Int} (hx:x∈l):0<x/\x<=28:=(Q3X l 0 h.up).2 x hx
theorem OkC.short {f:Nat} {l:List Int} (h:OkC f l):1<=l.length/\l.length<=7:=by have:=h.faults; have:=h.len; omega
theorem OkC.crew {f:Nat} {l:List Int} (h:OkC f l):Q1C l=true:=by unfold Q1C;rw [h.up,Bool.and_true];have:=h.short;have:=h.len;exact decide_eq_true ⟨by omega,by omega⟩
theorem Qem (z:Int):∀ (a b:List Int),(∀ x,x∈a->¬ z<x)->(∀ x,b.head?=some x->z<x)->insL z (a++b)=a++z :: b
 | [],[],_,_=>rfl
 | [],x :: t,_,hb=>by show (if z<x then z :: x :: t else x :: insL z t)=z :: x :: t;rw [if_pos (hb x rfl)]
 | x :: a,b,ha,hb=>by show (if z<x then z :: x :: (a++b) else x :: insL z (a++b))=x :: (a++z :: b);rw [if_neg (ha x (zL ..)),Qem z a b (fun y hy=>ha y (zM _ hy)) hb]
theorem Q5k (z x:Int):∀ (l:List Int),x∈insL z l <-> x=z\/x∈l
 | []=>by simp [insL]
 | y :: t=>by
  unfold insL;split
  ·simp
  simp only [List.mem_cons];rw [Q5k z x t];constructor
  ·rintro (h | h | h)
   ·exact .inr (.inl h)
   ·exact .inl h
   exact .inr (.inr h)
  rintro (h | h | h)
  ·exact .inr (.inl h)
  ·exact .inl h
  exact .inr (.inr h)
theorem Q4g (z:Int):∀ (l:List Int),(insL z l).length=l.length+1
 | []=>rfl
 | y :: t=>by
  unfold insL;split
  ·rfl
  simp [Q4g z t]
theorem Qa3 (z:Int):∀ (l:List Int),l.Pairwise (· < ·)->¬ z∈l->(insL z l).Pairwise (· < ·)
 | [],_,_=>by simp [insL]
 | y :: t,h,hz=>by
  have hp:=List.pairwise_cons.1 h;unfold insL;split
  ·rename_i hlt;refine List.Pairwise.cons (fun x hx=>?_) h;rcases List.mem_cons.1 hx with rfl | hx
   ·exact hlt
   have:=hp.1 x hx; omega
  rename_i hlt;have hne:z≠y:=fun e=>hz (by rw [e]; exact zL ..)
  refine List.Pairwise.cons (fun x hx=>?_) (Qa3 z t hp.2 fun hm=>hz (zM _ hm));rcases(Q5k z x t).1 hx with rfl | hx
  ·omega
  exact hp.1 x hx
theorem Q4y {l:List Int} {o x:Int}:x∈Q28 l o <-> x∈l/\x≠o:=by
 unfold Q28;rw [List.mem_filter]
 simp
theorem Q8N {l:List Int} (o:Int) (h:l.Pairwise (· < ·)):(Q28 l o).Pairwise (· < ·):=h.filter _
theorem Q5E:∀ (l:List Int) (o:Int),l.Pairwise (· < ·)->o∈l->(Q28 l o).length+1=l.length
 | [],_,_,h=>by cases h
 | y :: t,o,h,hm=>by
  have hp:=List.pairwise_cons.1 h;unfold Q28;by_cases hy:y=o
  ·rw [List.filter_cons_of_neg (by simp [hy])];have:t.filter (fun x=>!decide (x=o))=t:=List.filter_eq_self.2 fun x hx=>by
    have:=hp.1 x hx
    simp
    omega
   rw [this]; rfl
  rw [List.filter_cons_of_pos (by simp [hy])];have:=Q5E t o hp.2 (by
   rcases List.mem_cons.1 hm with e | e
   ·exact absurd e.symm hy
   exact e)
  unfold Q28 at this;simp only [zK];omega
theorem OkC.repl {f:Nat} {l:List Int} (h:OkC f l) {o n:Int} (ho:o∈l) (hn:¬ n∈l) (h1:1<=n) (h2:n<=28):OkC f (Q1L l o n):=by
 have hl:=Q5E l o h.pair ho;have hnd:¬ n∈Q28 l o:=fun hm=>hn (Q4y.1 hm).1
 refine⟨h.faults,by unfold Q1L; rw [Q4g]; have:=h.len; omega,Q8L _ 0 (Qa3 n _ (Q8N o h.pair) hnd) fun x hx=>?_⟩;rcases(Q5k n x _).1 hx with rfl | hx
 ·omega
 exact h.bound (Q4y.1 hx).1
theorem Qap {l:List Int} {o n x:Int}:x∈Q1L l o n <-> x=n\/(x∈l/\x≠o):=by unfold Q1L;rw [Q5k,Q4y]
theorem Q41:∀ (l:List Int) (a:List (Int×Int)) (o n:Int),nowL l (a++[(o,n)])=Q1L (nowL l a) o n
 | _,[],_,_=>rfl
 | l,m :: t,o,n=>Q41 (Q1L l m.1 m.2) t o n
theorem Q46:∀ (l:List Int) (a:List (Int×Int)) (o n:Int),Q12 l (a++[(o,n)])=Q12 l a++[Q1L (nowL l a) o n]
 | _,[],_,_=>rfl
 | l,m :: t,o,n=>by show l :: Q12 _ (t++[(o,n)])=l :: (Q12 _ t++[_]);rw [Q46];rfl
theorem Q1J:∀ (l:List Int) (a:List (Int×Int)),(Q12 l a).length=a.length+1
 | _,[]=>rfl
 | l,m :: t=>by show (Q12 (Q1L l m.1 m.2) t).length+1=_;rw [Q1J];rfl
theorem Q5o:∀ (l:List Int) (a:List (Int×Int)) (i:Nat),i<=a.length->(Q12 l a)[i]?=some (nowL l (a.take i))
 | _,[],i,h=>by
  obtain rfl:i=0:=by simpa using h
  rfl
 | l,m :: t,0,_=>rfl
 | l,m :: t,i+1,h=>by show (Q12 (Q1L l m.1 m.2) t)[i]?=some (nowL (Q1L l m.1 m.2) (t.take i));exact Q5o _ t i (by simpa using h)
def Q1g (l:List Int):List (Int×Int)->Prop
 | []=>True
 | m :: t=>m.1∈l/\¬ m.2∈l/\1<=m.2/\m.2<=28/\Q1g (Q1L l m.1 m.2) t
theorem Q1g.now {f:Nat}:∀ {l:List Int} {a:List (Int×Int)},OkC f l->Q1g l a->OkC f (nowL l a)
 | _,[],h,_=>h
 | l,m :: t,h,hm=>Q1g.now (l:=Q1L l m.1 m.2) (a:=t) (h.repl hm.1 hm.2.1 hm.2.2.1 hm.2.2.2.1) hm.2.2.2.2
theorem Q1g.take:∀ {l:List Int} {a:List (Int×Int)} (i:Nat),Q1g l a->Q1g l (a.take i)
 | _,[],i,_=>by simp [Q1g]
 | _,_ :: _,0,_=>trivial
 | _,m :: t,i+1,h=>⟨h.1,h.2.1,h.2.2.1,h.2.2.2.1,Q1g.take i h.2.2.2.2⟩
theorem Q1g.app:∀ {l:List Int} {a:List (Int×Int)} {o n:Int},Q1g l a->o∈nowL l a->¬ n∈nowL l a->1<=n->n<=28->Q1g l (a++[(o,n)])
 | _,[],_,_,_,h1,h2,h3,h4=>⟨h1,h2,h3,h4,trivial⟩
 | _,m :: t,_,_,h,h1,h2,h3,h4=>⟨h.1,h.2.1,h.2.2.1,h.2.2.2.1,Q1g.app h.2.2.2.2 h1 h2 h3 h4⟩
theorem Q1g.mem_old:∀ {l:List Int} {a:List (Int×Int)} {f:Nat},OkC f l->Q1g l a->∀ m,m∈a->1<=m.1/\m.1<=28/\1<=m.2/\m.2<=28
 | _,[],_,_,_,_,hm=>by cases hm
 | _,m :: t,f,hc,h,x,hx=>by
  rcases List.mem_cons.1 hx with rfl | hx
  ·have:=hc.bound h.1;exact⟨by omega,by omega,h.2.2.1,h.2.2.2.1⟩
  exact Q1g.mem_old (hc.repl h.1 h.2.1 h.2.2.1 h.2.2.2.1) h.2.2.2.2 x hx
theorem Qc6:∀ {l:List Int} {a:List (Int×Int)} {x:Int},x∈nowL l a->x∈l\/∃ m,m∈a/\m.2=x
 | _,[],_,h=>.inl h
 | l,m :: t,x,h=>by
  rcases Qc6 (l:=Q1L l m.1 m.2) (a:=t) h with h | ⟨q,h1,h2⟩
  ·rcases Qap.1 h with h | h
   ·exact .inr ⟨m,zL ..,h.symm⟩
   exact .inl h.1
  exact .inr ⟨q,zM _ h1,h2⟩
structure Srv where
 f:Nat
 first:List Int
 moves:List (Int×Int)
structure AM where
 chunks:List Srv
 last:List (Nat×Ans)
def Srv.now (s:Srv):List Int:=nowL s.first s.moves
def Q2P (s:Srv) (z:Int):Bool:=decide (z∈s.first) || s.moves.any (fun m=>decide (m.2=z))
def Q0S (cs:List Srv) (f:Nat) (z:Int):Bool:=decide (z<=3*(f:Int)+1) || cs.any (fun s=>Q2P s z)
structure SOk (s:Srv):Prop where
 crew:OkC s.f s.first
 len:s.moves.length<=21
 mv:Q1g s.first s.moves
structure Q9p (a:Ans):Prop where
 err:a.err=0\/a.err=5\/a.err=180
 data:a.data=[]
 epoch:a.epoch<=21
 nodes:a.nodes=[]\/Q1C a.nodes=true
def Q1x (s:Srv):List Int:=s.first++s.moves.map (·.2)
def Q2t (cs:List Srv):List Int:=(cs.map Q1x).flatten
structure AOk (m:AM):Prop where
 one:1<=m.chunks.length/\m.chunks.length<=2
 srv:∀ s,s∈m.chunks->SOk s
 same:∃ f,∀ s,s∈m.chunks->s.f=f
 apart:(Q2t m.chunks).Nodup
 high:∀ s,s∈m.chunks->∀ x,x∈Q1x s->3*(s.f:Int)+1<x
 last:m.last.length=4
 ans:∀ x,x∈m.last->x.1<=maxN/\Q9p x.2/\(x.1=0->x.2=okA)
def Q0B (m:AM) (i:Nat):Nat×Ans:=m.last.getD i (0,okA)
def Q1m:List (Int×Int)->List Int
 | []=>[]
 | m :: t=>m.1 :: m.2 :: Q1m t
def Q3o (s:Srv):List Int:=(((s.moves.length+1:Nat):Int) :: (s.f:Int) :: s.first)++Q1m s.moves
def Q88 (x:Nat×Ans):List Int:=[(x.1:Int),(x.2.err:Int),(x.2.epoch:Int),(x.2.nodes.length:Int)]++x.2.nodes
def Q5H (m:AM) (i:Nat):List Int:=if i<2 then(match m.chunks[i]? with | some s=>Q3o s | none=>[0]) else Q88 (Q0B m (i - 2))
def Q1v (m:AM) (i:Nat):List UInt8:=Q0P (Q5H m i)
def Q0g (m:AM):LL:=(List.range 6).map (Q1v m)
theorem Q0z (m:AM):(Q0g m).length=6:=by simp [Q0g]
theorem Q1T (m:AM) (i:Nat) (h:i<6):(Q0g m)[i]?=some (Q1v m i):=by unfold Q0g;rw [zD,List.getElem?_range h]; rfl
def inQ (x:Wish):Bool:=mayB x && decide (x.kind=3\/x.kind=4)
def oldQ (m:AM) (x:Wish):Ans×Bool :=
 let y:=Q0B m (x.client - 31).toNat
 if x.stamp<(y.1:Int) then(errA 172 0,true) else if (y.1:Int)<x.stamp then(okA,false) else(y.2,true)
def Q1Z (s:Srv) (o n:Int):Srv:=⟨s.f,s.first,s.moves++[(o,n)]⟩
def Q0T (m:AM) (x:Wish):AM×Ans :=
 match m.chunks[(x.block - 1).toNat]? with
 | none=>(m,errA 180 0)
 | some s =>
  if x.kind=3 then(m,⟨0,[],s.moves.length,s.now⟩)
  else if x.client≠34 then(m,errA 180 0)
  else if ¬ x.old∈s.now\/Q0S m.chunks s.f x.new=true then(m,errA 180 s.moves.length)
  else if s.moves.length+1=22 then(m,errA 5 0)
  else(⟨m.chunks.set (x.block - 1).toNat (Q1Z s x.old x.new),m.last⟩,errA 0 (s.moves.length+1))
def didQ (m:AM) (x:Wish):AM :=if ((Q0B m (x.client - 31).toNat).1:Int)<x.stamp then⟨(Q0T m x).1.chunks,(Q0T m x).1.last.set (x.client - 31).toNat (x.stamp.toNat,(Q0T m x).2)⟩ else m
def doQ (m:AM) (x:Wish):AM×Ans×Nat:=if inQ x=true then(didQ m x,(oldQ (didQ m x) x).1,0) else(m,okA,2)
theorem SOk.now_ok {s:Srv} (h:SOk s):OkC s.f s.now:=h.mv.now h.crew
theorem Q3F:∀ l:List (Int×Int),(Q1m l).length=2*l.length
 | []=>rfl
 | m :: t=>by show (Q1m t).length+2=_;rw [Q3F t];simp only [zK];omega
theorem Q4f:∀ (a b:List (Int×Int)),Q1m (a++b)=Q1m a++Q1m b
 | [],_=>rfl
 | m :: t,b=>by show m.1 :: m.2 :: Q1m (t++b)=m.1 :: m.2 :: (Q1m t++Q1m b);rw [Q4f t b]
theorem Q64:∀ {l:List (Int×Int)} {x:Int},x∈Q1m l->∃ m,m∈l/\(x=m.1\/x=m.2)
 | [],_,h=>by cases h
 | m :: t,x,h=>by
  rcases List.mem_cons.1 h with h | h
  ·exact⟨m,zL ..,.inl h⟩
  rcases List.mem_cons.1 h with h | h
  ·exact⟨m,zL ..,.inr h⟩
  obtain⟨q,h1,h2⟩:=Q64 h;exact⟨q,zM _ h1,h2⟩
theorem Q4O {z:Int} (h1:0<=z) (h2:z<=255):NumI z:=by unfold NumI; omega
theorem numB_two {n:Nat} (h:n<256):(numB n).length<=2:=by
 have:∀ n:Fin 256,(numB n.1).length<=2:=by decide +kernel
 exact this ⟨n,h⟩
theorem Q4M:∀ (l:List Int),(∀ z,z∈l->0<=z/\z<=255)->(Q0P l).length<=2*l.length
 | [],_=>by simp [Q0P]
 | z :: t,h=>by
  have h1:=h z (zL ..);have h2:=Q4M t fun x hx=>h x (zM _ hx)
  have h3:=numB_two (n:=z.toNat) (by omega);show (numB z.toNat++Q0P t).length<=_;rw [zG,zK];omega
theorem SOk.chunk {s:Srv} (h:SOk s):∀ z,z∈Q3o s->0<=z/\z<=255:=by
 intro z hz;have hl:=h.len;have hf:=h.crew.faults;unfold Q3o at hz;rcases List.mem_append.1 hz with hz | hz
 ·rcases List.mem_cons.1 hz with rfl | hz
  ·omega
  rcases List.mem_cons.1 hz with rfl | hz
  ·omega
  have:=h.crew.bound hz; omega
 obtain⟨m,h1,h2⟩:=Q64 hz;have:=Q1g.mem_old h.crew h.mv m h1;omega
theorem SOk.chunk_len {s:Srv} (h:SOk s):(Q3o s).length<=51:=by have:=h.crew.short;have:=h.len;have:=Q3F s.moves;unfold Q3o;rw [zG];simp only [zK];omega
theorem QbG {l:List Int} (h:Q1C l=true):l.length<=7/\∀ z,z∈l->0<z/\z<=28:=by unfold Q1C at h;rw [zN] at h;exact⟨(of_decide_eq_true h.1).2,(Q3X l 0 h.2).2⟩
theorem Q9p.bound {a:Ans} (h:Q9p a):a.nodes.length<=7/\∀ z,z∈a.nodes->0<=z/\z<=28:=by
 rcases h.nodes with e | e
 ·rw [e]; exact⟨by simp,fun z hz=>by cases hz⟩
 have:=QbG e;exact⟨this.1,fun z hz=>by have:=this.2 z hz; omega⟩
theorem AOk.lst {m:AM} (h:AOk m) (i:Nat):(Q0B m i).1<=maxN/\Q9p (Q0B m i).2/\((Q0B m i).1=0->(Q0B m i).2=okA):=by
 unfold Q0B;rw [List.getD_eq_getElem?_getD];cases hx:m.last[i]? with
 | none=>exact⟨by unfold maxN; exact Nat.zero_le _,⟨.inl rfl,rfl,by show (0:Nat)<=21; omega,.inl rfl⟩,fun _=>rfl⟩
 | some x=>exact h.ans x (zV hx)
theorem QeI {m:AM} (h:AOk m) (i:Nat):∀ z,z∈Q5H m i->NumI z:=by
 intro z hz;unfold Q5H at hz;split at hz
 ·cases hs:m.chunks[i]? with
  | none =>rw [hs] at hz;rw [List.mem_singleton.1 hz];exact Q4O (by omega) (by omega)
  | some s =>rw [hs] at hz;have:=(h.srv s (zV hs)).chunk z hz;exact Q4O this.1 this.2
 have hl:=h.lst (i - 2);have hb:=hl.2.1.bound;have he:=hl.2.1.err;have hp:=hl.2.1.epoch;unfold Q88 at hz;simp only [List.cons_append,List.nil_append,List.mem_cons] at hz;rcases hz with rfl | rfl | rfl | rfl | hz
 ·have:=hl.1; unfold maxN at this; unfold NumI; omega
 iterate 3 ·unfold NumI; omega
 have:=hb.2 z hz; unfold NumI; omega
theorem Q3E {m:AM} (h:AOk m) (i:Nat):(Q1v m i).length<=120:=by
 unfold Q1v Q5H;split
 ·cases hs:m.chunks[i]? with
  | none =>have:=Q4M [0] (fun z hz=>by rw [List.mem_singleton.1 hz]; omega);exact Nat.le_trans this (by simp)
  | some s =>have hk:=h.srv s (zV hs);have h1:=Q4M (Q3o s) hk.chunk;have h2:=hk.chunk_len;show (Q0P (Q3o s)).length<=120;omega
 have hl:=h.lst (i - 2);have hb:=hl.2.1.bound;have he:=hl.2.1.err;have hp:=hl.2.1.epoch;have h1:=Q4M ([((Q0B m (i - 2)).2.err:Int),((Q0B m (i - 2)).2.epoch:Int),((Q0B m (i - 2)).2.nodes.length:Int)]++(Q0B m (i - 2)).2.nodes) (fun z hz=>by
  simp only [List.cons_append,List.nil_append,List.mem_cons] at hz;rcases hz with rfl | rfl | rfl | hz
  iterate 3 ·omega
  have:=hb.2 z hz; omega)
 have h2:=(Q2D (n:=(Q0B m (i - 2)).1) hl.1).2;show (numB (((Q0B m (i - 2)).1:Int)).toNat++Q0P ([((Q0B m (i - 2)).2.err:Int),((Q0B m (i - 2)).2.epoch:Int),((Q0B m (i - 2)).2.nodes.length:Int)]++(Q0B m (i - 2)).2.nodes)).length<=120;rw [zG,Int.toNat_natCast];rw [zG] at h1;simp only [zK,List.length_nil] at h1;omega
theorem Q5j (s:Srv) (o n:Int):Q1x (Q1Z s o n)=Q1x s++[n]:=by
 unfold Q1x Q1Z
 simp
theorem Q7T:∀ (cs:List Srv) (i:Nat) (s:Srv) (o n:Int),cs[i]?=some s->(Q2t (cs.set i (Q1Z s o n))).Perm (n :: Q2t cs)
 | [],_,_,_,_,h=>by simp at h
 | c :: t,0,s,o,n,h=>by
  obtain rfl:c=s:=by simpa using h
  show (Q1x (Q1Z c o n)++Q2t t).Perm (n :: (Q1x c++Q2t t));rw [Q5j,zI];exact List.perm_middle
 | c :: t,i+1,s,o,n,h=>by have h1:=Q7T t i s o n (by simpa using h);show (Q1x c++Q2t (t.set i (Q1Z s o n))).Perm (n :: (Q1x c++Q2t t));exact(h1.append_left (Q1x c)).trans List.perm_middle
theorem QbM {s:Srv} {z:Int} (h:Q2P s z=false):¬ z∈Q1x s:=by
 unfold Q2P at h;rw [Bool.or_eq_false_iff] at h;unfold Q1x;rw [List.mem_append];rintro (e | e)
 ·exact of_decide_eq_false h.1 e
 obtain⟨m,h1,h2⟩:=List.mem_map.1 e;have:=List.any_eq_false.1 h.2 m h1;simp [h2] at this
theorem QcL {s:Srv} {z:Int} (h:z∈Q1x s):Q2P s z=true:=by
 cases hu:Q2P s z with
 | true=>rfl
 | false=>exact absurd h (QbM hu)
theorem Q4e {cs:List Srv} {f:Nat} {z:Int} (h:Q0S cs f z=false):3*(f:Int)+1<z/\¬ z∈Q2t cs:=by unfold Q0S at h;rw [Bool.or_eq_false_iff] at h;refine⟨by have:=of_decide_eq_false h.1; omega,fun e=>?_⟩;unfold Q2t at e;obtain⟨l,h1,h2⟩:=List.mem_flatten.1 e;obtain⟨s,h3,rfl⟩:=List.mem_map.1 h1;have:=List.any_eq_false.1 h.2 s h3;exact this (QcL h2)
theorem Q7k {cs:List Srv} {s:Srv} {z:Int} (hs:s∈cs) (hz:z∈Q1x s):z∈Q2t cs:=List.mem_flatten.2 ⟨_,List.mem_map.2 ⟨s,hs,rfl⟩,hz⟩
theorem Q6d {s:Srv} {z:Int} (h:z∈s.now):z∈Q1x s:=by
 unfold Q1x;rw [List.mem_append];rcases Qc6 h with h | ⟨m,h1,h2⟩
 ·exact .inl h
 exact .inr (List.mem_map.2 ⟨m,h1,h2⟩)
theorem Q3I {α:Type} {l:List α} {i:Nat} {a x:α} (h:x∈l.set i a):x=a\/x∈l:=by
 obtain⟨k,hk,rfl⟩:=List.mem_iff_getElem.1 h;rw [List.getElem_set];split
 ·exact .inl rfl
 exact .inr (zH _)
theorem Q6S {x:Wish} (h:inQ x=true):31<=x.client/\x.client<=34/\1<=x.stamp/\x.stamp<=9007199254740991/\1<=x.block/\x.block<=2/\(x.kind=3\/(x.kind=4/\1<=x.old/\x.old<=28/\1<=x.new/\x.new<=28/\x.old≠x.new)):=by
 unfold inQ at h;rw [zN] at h;have h2:=of_decide_eq_true h.2;have h1:=of_decide_eq_true h.1;obtain⟨_,_,h1⟩:=h1;rcases h1 with h1 | h1
 ·omega
 obtain⟨_,c1,c2,s1,s2,_,h1⟩:=h1;rcases h1 with h1 | h1
 ·omega
 obtain⟨hk,_,_,b1,b2,_⟩:=h1;refine⟨c1,c2,s1,s2,b1,b2,?_⟩;rcases hk with hk | hk
 ·exact .inl hk.1
 exact .inr hk
theorem Q7i {e n:Nat} (he:e=0\/e=5\/e=180) (hn:n<=21):Q9p (errA e n):=⟨he,rfl,hn,.inl rfl⟩
structure COk (cs:List Srv):Prop where
 one:1<=cs.length/\cs.length<=2
 srv:∀ s,s∈cs->SOk s
 same:∃ f,∀ s,s∈cs->s.f=f
 apart:(Q2t cs).Nodup
 high:∀ s,s∈cs->∀ x,x∈Q1x s->3*(s.f:Int)+1<x
theorem AOk.cok {m:AM} (h:AOk m):COk m.chunks:=⟨h.one,h.srv,h.same,h.apart,h.high⟩
theorem COk.moved {cs:List Srv} {i:Nat} {s:Srv} {o n:Int} (h:COk cs) (hs:cs[i]?=some s) (ho:o∈s.now) (hn:Q0S cs s.f n=false) (h1:1<=n) (h2:n<=28) (hl:s.moves.length<=20):COk (cs.set i (Q1Z s o n)):=by
 have hm:=zV hs;have hk:=h.srv s hm;have hu:=Q4e hn;refine⟨by rw [zO]; exact h.one,fun q hq=>?_,?_,?_,fun q hq=>?_⟩
 ·rcases Q3I hq with rfl | hq
  ·exact⟨hk.crew,by show (s.moves++[(o,n)]).length<=21; simp; omega,Q1g.app hk.mv ho (fun e=>hu.2 (Q7k hm (Q6d e))) h1 h2⟩
  exact h.srv q hq
 ·obtain⟨f,hf⟩:=h.same;refine⟨f,fun q hq=>?_⟩;rcases Q3I hq with rfl | hq
  ·exact hf s hm
  exact hf q hq
 ·exact((Q7T cs i s o n hs).nodup_iff).2 (List.nodup_cons.2 ⟨hu.2,h.apart⟩)
 rcases Q3I hq with rfl | hq
 ·intro x hx;rw [Q5j,List.mem_append,zU] at hx;show 3*(s.f:Int)+1<x;rcases hx with hx | rfl
  ·exact h.high s hm x hx
  exact hu.1
 exact h.high q hq
theorem COk.answered {m:AM} (h:COk m.chunks) {x:Wish} (hx:inQ x=true):COk (Q0T m x).1.chunks/\(Q0T m x).1.last=m.last/\Q9p (Q0T m x).2:=by
 obtain⟨c1,c2,s1,s2,b1,b2,hk⟩:=Q6S hx;unfold Q0T;cases hs:m.chunks[(x.block - 1).toNat]? with
 | none=>exact⟨h,rfl,Q7i (.inr (.inr rfl)) (by omega)⟩
 | some s =>
  have hsk:=h.srv s (zV hs);have hl:=hsk.len;simp only;split
  ·exact⟨h,rfl,⟨.inl rfl,rfl,hl,.inr hsk.now_ok.crew⟩⟩
  rename_i hk3;split
  ·exact⟨h,rfl,Q7i (.inr (.inr rfl)) (by omega)⟩
  split
  ·exact⟨h,rfl,Q7i (.inr (.inr rfl)) hl⟩
  rename_i hu;split
  ·exact⟨h,rfl,Q7i (.inr (.inl rfl)) (by omega)⟩
  rename_i h22;have hu':x.old∈s.now/\Q0S m.chunks s.f x.new=false:=by
   refine⟨Decidable.byContradiction fun e=>hu (.inl e),?_⟩;cases hq:Q0S m.chunks s.f x.new with
   | false=>rfl
   | true=>exact absurd (.inr hq) hu
  have hk4:x.kind=4/\1<=x.old/\x.old<=28/\1<=x.new/\x.new<=28/\x.old≠x.new:=by
   rcases hk with e | e
   ·exact absurd e hk3
   exact e
  exact⟨h.moved hs hu'.1 hu'.2 hk4.2.2.2.1 hk4.2.2.2.2.1 (by omega),rfl,Q7i (.inl rfl) (by omega)⟩
theorem AOk.did {m:AM} (h:AOk m) {x:Wish} (hx:inQ x=true):AOk (didQ m x):=by
 obtain⟨c1,c2,s1,s2,b1,b2,hk⟩:=Q6S hx;have ha:=h.cok.answered hx;unfold didQ;split
 ·have hc:=ha.1;refine⟨hc.one,hc.srv,hc.same,hc.apart,hc.high,?_,fun y hy=>?_⟩
  ·show ((Q0T m x).1.last.set _ _).length=4;rw [zO,ha.2.1]; exact h.last
  rcases Q3I hy with rfl | hy
  ·exact⟨by show x.stamp.toNat<=maxN; unfold maxN; omega,ha.2.2,fun e=>by have:x.stamp.toNat=0:=e; omega⟩
  rw [ha.2.1] at hy; exact h.ans y hy
 exact h
def Q1K:List Srv->Int->List (Int×List Int)->Option (List Srv)
 | acc,_,[]=>some acc
 | acc,f0,c :: t=>if (0<=c.1/\c.1<=2/\(c.2.length:Int)=3*c.1+1/\Q1f 0 c.2=true)/\c.1=f0/\c.2.any (Q0S acc c.1.toNat)=false then Q1K (acc++[⟨c.1.toNat,c.2,[]⟩]) f0 t else none
def Q24 (cs:List (Int×List Int)):Option (List Srv):=match cs with
 | []=>none
 | c :: t=>if cs.length<=2 then Q1K [] c.1 cs else none
def Q0G (cs:List Srv):AM:=⟨cs,List.replicate 4 (0,okA)⟩
def newQ (cs:List (Int×List Int)):Option AM:=(Q24 cs).map Q0G
structure CPre (f0:Int) (cs:List Srv):Prop where
 srv:∀ s,s∈cs->SOk s/\(s.f:Int)=f0/\s.moves=[]
 apart:(Q2t cs).Nodup
 high:∀ s,s∈cs->∀ x,x∈Q1x s->3*(s.f:Int)+1<x
theorem CPre.nil (f0:Int):CPre f0 []:=⟨fun s hs=>(by cases hs),List.nodup_nil,fun s hs=>(by cases hs)⟩
theorem CPre.push {f0:Int} {acc:List Srv} {c:Int×List Int} (h:CPre f0 acc) (h1:0<=c.1/\c.1<=2/\(c.2.length:Int)=3*c.1+1/\Q1f 0 c.2=true) (h2:c.1=f0) (h3:c.2.any (Q0S acc c.1.toNat)=false):CPre f0 (acc++[⟨c.1.toNat,c.2,[]⟩]):=by
 have hc:OkC c.1.toNat c.2:=⟨by omega,by omega,h1.2.2.2⟩;have hse:Q1x ⟨c.1.toNat,c.2,[]⟩=c.2:=by unfold Q1x; simp
 have hu:∀ x,x∈c.2->3*((c.1.toNat:Nat):Int)+1<x/\¬ x∈Q2t acc:=fun x hx=>by have:=List.any_eq_false.1 h3 x hx;exact Q4e (by simpa using this)
 refine⟨fun s hs=>?_,?_,fun s hs=>?_⟩
 ·rcases List.mem_append.1 hs with hs | hs
  ·exact h.srv s hs
  rw [zU] at hs;subst hs;exact⟨⟨hc,by show 0<=21; omega,trivial⟩,by show ((c.1.toNat:Nat):Int)=f0; omega,rfl⟩
 ·unfold Q2t;rw [List.map_append,List.flatten_append];simp only [List.map_cons,List.map_nil,List.flatten_cons,List.flatten_nil,List.append_nil];rw [hse];refine List.nodup_append.2 ⟨h.apart,hc.pair.imp (fun {a b} e=>by omega),fun a ha b hb e=>?_⟩;subst e;exact(hu a hb).2 ha
 rcases List.mem_append.1 hs with hs | hs
 ·exact h.high s hs
 rw [zU] at hs;subst hs;intro x hx;rw [hse] at hx;exact(hu x hx).1
theorem Q91:∀ (t:List (Int×List Int)) (acc:List Srv) (f0:Int) (cs:List Srv),CPre f0 acc->Q1K acc f0 t=some cs->CPre f0 cs/\cs.length=acc.length+t.length
 | [],acc,f0,cs,h,e=>by obtain rfl:=Option.some.inj e;exact⟨h,by simp⟩
 | c :: t,acc,f0,cs,h,e=>by
  unfold Q1K at e;split at e
  ·rename_i hc;have:=Q91 t _ f0 cs (h.push hc.1 hc.2.1 hc.2.2) e;refine⟨this.1,?_⟩;rw [this.2,zG];simp only [zK,List.length_nil];omega
  cases e
theorem Q5n {l:List (Int×List Int)} {cs:List Srv} (h:Q24 l=some cs):COk cs/\(∀ s,s∈cs->s.moves=[])/\cs.length=l.length:=by
 unfold Q24 at h;split at h
 ·cases h
 rename_i c t;split at h
 ·rename_i hl;have:=Q91 _ _ _ _ (CPre.nil c.1) h;have hlen:cs.length=(c :: t).length:=by rw [this.2]; simp
  have hsrv:=this.1.srv;refine⟨⟨⟨by rw [hlen]; simp,by omega⟩,fun s hs=>(hsrv s hs).1,?_,this.1.apart,this.1.high⟩,fun s hs=>(hsrv s hs).2.2,hlen⟩;exact⟨c.1.toNat,fun s hs=>by have:=(hsrv s hs).2.1; omega⟩
 cases h
theorem okA_ok:Q9p okA:=⟨.inl rfl,rfl,by show (0:Nat)<=21; omega,.inl rfl⟩
theorem Q7Y {cs:List Srv} (h:COk cs):AOk (Q0G cs):=by refine⟨h.one,h.srv,h.same,h.apart,h.high,by simp [Q0G],fun x hx=>?_⟩;have:=List.eq_of_mem_replicate hx;rw [this];exact⟨Nat.zero_le _,okA_ok,fun _=>rfl⟩
end
section
open Go.RowKit Go.Maps
attribute [local irreducible] wpList Q0h
def crC (f:Int) (A:Option Addr) (n c:Nat):Array Value:=#[.int .i64 f,.slice A n c]
def okCB (f:Int) (l:List Int):Bool:=decide (0<=f/\f<=2/\(l.length:Int)=3*f+1) && Q1f 0 l
theorem Q4a {f:Nat} {l:List Int} (h:OkC f l):okCB (f:Int) l=true:=by unfold okCB;have:=h.faults;have:=h.len;rw [h.up,Bool.and_true];exact decide_eq_true ⟨by omega,by omega,by omega⟩
theorem okCB_to {f:Int} {l:List Int} (h:okCB f l=true):OkC f.toNat l/\0<=f:=by unfold okCB at h;rw [zN] at h;have h1:=of_decide_eq_true h.1;exact⟨⟨by omega,by omega,h.2⟩,h1.1⟩
theorem QbR (n:Int) (w:zA):zC zE 144 #[.int .i64 n] w fun e w'=>e=.returned (.bool (decide (1<=n/\n<=28)))/\w=w':=by
 by_cases h:1<=n
 ·by_cases h2:n<=28
  ·rw [decide_eq_true ⟨h,h2⟩];go_enter Tryz.func144,Tryz.ntmps144
   go_wp2
   go_ret
   exact⟨rfl,rfl⟩
  rw [decide_eq_false fun hh=>h2 hh.2];go_enter Tryz.func144,Tryz.ntmps144
  go_wp2
  go_ret
  exact⟨rfl,rfl⟩
 rw [decide_eq_false fun hh=>h hh.1];go_enter Tryz.func144,Tryz.ntmps144
 go_wp2
 go_ret
 exact⟨rfl,rfl⟩
theorem Q3j (f:Int) (A:Option Addr) (n c:Nat) (zs:List Int) (w:zA) (h:Q08 w w.heap.size 1 A n (zs.map vn)) (hn:n<=17592186044416) :
 zC zE 134 #[.agg (crC f A n c)] w fun e w'=>e=.returned (.int .i64 (if okCB f zs=true then 0 else 110))/\Below w.heap.size w w':=by
 have hzn:zs.length=n:=by have:=h.1; simpa using this
 have H:=sH h;have HZN:=sH hzn;have HX:=sH (Q04 w (.cells (crC f A n c) 77));have HK:=sH (Blk.newAt rfl:Blk (w.alloc (.cells (crC f A n c) 77)) w.heap.size 77 (crC f A n c));obtain⟨res,hres⟩:∃ b,b=okCB f zs:=⟨_,rfl⟩;rw [<- hres];have HRES:=sH hres;clear h hzn hres;obtain⟨g,hg⟩:∃ g,g=w.heap.size:=⟨_,rfl⟩;go_enter Tryz.func134,Tryz.ntmps134
 go_upto_region 1 with fail
 generalize zT w _=w1 at HX HK ⊢;rw [<- hg] at HK ⊢;clear hg;have hbad:¬ (0<=f/\f<=2/\(n:Int)=3*f+1)->res=false:=fun hb=>by rw [HRES.out]; unfold okCB; rw [HZN.out,decide_eq_false hb,Bool.false_and]
 have c0:w1.cell? ⟨g,0,none⟩=some (.int .i64 f):=(HK.out.cell 0).trans rfl;have c1:w1.cell? ⟨g,1,none⟩=some (.slice A n c):=(HK.out.cell 1).trans rfl;by_cases h0:f<0
 ·obtain rfl:=hbad (by omega);clear hbad;go_wp2_with fail
  go_ret
  exact⟨rfl,HX.out⟩
 by_cases h2:2<f
 ·obtain rfl:=hbad (by omega);clear hbad;go_wp2_with fail
  go_ret
  exact⟨rfl,HX.out⟩
 by_cases h3:(n:Int)=3*f+1
 ·have h3b:((n:Int) != 3*f+1)=false:=by simp [h3]
  have HR:=sH (show res=Q1f 0 zs by rw [HRES.out]; unfold okCB; rw [decide_eq_true (by rw [HZN.out]; exact⟨by omega,by omega,h3⟩),Bool.true_and]);have h3w:(IntKind.i64.wrap (IntKind.i64.wrap (3*f)+1))=3*f+1:=by rw [zR,zR]; omega
  clear hbad HRES;go_wp2_with fail
  go_loopw [3,27] (fun lv iv wr=>∃ (i:Nat) (last:Int),i<=n/\0<=last/\lv=.int .i64 last/\iv=.int .i64 i/\w1=wr/\res=Q1f last (zs.drop i)) (fun _ iv _=>n - (intOf iv).toNat)
  case atStart=>exact⟨0,0,by omega,by omega,rfl,rfl,rfl,HR.out⟩
  obtain⟨i,last,hi,hl0,rfl,rfl,rfl,hr⟩:=hrel;by_cases hin:i<n
  ·obtain⟨ad,u,hA,hadb,hxi,hcell⟩:=(H.out.below HX.out).at_ hin;subst hA;have hil:i<zs.length:=by have:=HZN.out; omega
   have hu:u=.int .i64 zs[i]:=by
    rw [zD,zB hil] at hxi;injection hxi with hxi
    exact hxi.symm
   subst hu;rw [zS hil] at hr;generalize zs[i]=z at hr hcell;simp only [Q1f] at hr;have HNO:=sH (QbR z w1);clear hxi;by_cases hz1:z<=last
   ·rw [decide_eq_false (by omega),Bool.false_and] at hr;subst hr;go_wp2_with fail
    go_ret
    exact⟨rfl,HX.out⟩
   by_cases hz2:z<=28
   ·rw [decide_eq_true ⟨by omega,hz2⟩,Bool.true_and] at hr;rw [decide_eq_true ⟨by omega,hz2⟩] at HNO;have HRR:=sH hr;clear hr;go_wp2_with fail
    refine HNO.out.mono ?_;rintro _ _ ⟨rfl,rfl⟩;go_wp2_with fail
    go_roundw
    case rel=>exact⟨i+1,z,by omega,by omega,rfl,by go_num,trivial,HRR.out⟩
    case measure=>simp [intOf]; omega
   rw [decide_eq_false (by omega),Bool.false_and] at hr;rw [decide_eq_false (by omega)] at HNO;subst hr;go_wp2_with fail
   refine HNO.out.mono ?_;rintro _ _ ⟨rfl,rfl⟩;go_wp2_with fail
   go_ret
   exact⟨rfl,HX.out⟩
  obtain rfl:i=n:=by omega
  rw [List.drop_of_length_le (by have:=HZN.out; omega)] at hr;subst hr;go_wp2_with fail
  go_ret
  exact⟨rfl,HX.out⟩
 have h3b:((n:Int) != 3*f+1)=true:=by simp [h3]
 obtain rfl:=hbad (by omega);clear hbad;go_wp2_with fail
 go_ret
 exact⟨rfl,HX.out⟩
theorem QdZ (x:Int) (w:zA):zC zE 181 #[.int .i64 x] w fun e w'=>e=.returned (.bool false)/\w=w':=by
 have hx:(x != x)=false:=by simp
 go_enter Tryz.func181,Tryz.ntmps181
 go_wp2
 go_ret
 exact⟨rfl,rfl⟩
theorem Qd9 (x:Int) (w:zA):zC zE 193 #[.int .i64 x] w fun e w'=>e=.returned (.bool false)/\w=w':=by
 have hx:(x != x)=false:=by simp
 go_enter Tryz.func193,Tryz.ntmps193
 go_wp2
 go_ret
 exact⟨rfl,rfl⟩
theorem Q9K (x y:Int) (w:zA):zC zE 180 #[.int .i64 x,.int .i64 y] w fun e w'=>e=.returned (.bool (decide (x<y)))/\w=w':=by
 have HN:=sH (Qd9 x w);go_enter Tryz.func180,Tryz.ntmps180
 go_wp2_with fail
 refine HN.out.mono ?_;rintro _ _ ⟨rfl,rfl⟩;go_wp2_with fail
 go_ret
 exact⟨rfl,rfl⟩
theorem Qbt (A:Option Addr) (n c:Nat) (zs:List Int) (t:Int) (w:zA) (B:Nat) (h:Q08 w B 1 A n (zs.map vn)) (hp:zs.Pairwise (· < ·)) (hn:n<=1000000) :
 zC zE 166 #[.slice A n c,.int .i64 t] w fun e w'=>∃ i:Nat,e=.returned (.tuple #[.int .i64 i,.bool (decide (t∈zs))])/\w=w':=by
 have hzn:zs.length=n:=by have:=h.1; simpa using this
 have H:=sH h;have HZN:=sH hzn;have HP:=sH (List.pairwise_iff_getElem.1 hp);obtain⟨res,hres⟩:∃ b,b=decide (t∈zs):=⟨_,rfl⟩;rw [<- hres];have HRES:=sH hres;clear h hzn hres hp;go_enter Tryz.func166,Tryz.ntmps166
 go_wp2_with fail
 go_loopw [7,8,9] (fun iv jv hv wr=>∃ (i j:Nat),i<=j/\j<=n/\iv=.int .i64 i/\jv=.int .i64 j/\w=wr/\(∀ (k:Nat) (hk:k<zs.length),k<i->zs[k]<t)/\(∀ (k:Nat) (hk:k<zs.length),j<=k->t<=zs[k])) (fun iv jv _ _=>(intOf jv).toNat - (intOf iv).toNat)
 case atStart=>exact⟨0,n,by omega,by omega,rfl,rfl,rfl,fun k hk h=>by omega,fun k hk h=>by have:=HZN.out; omega⟩
 obtain⟨i,j,hij,hj,rfl,rfl,rfl,hlo,hhi⟩:=hrel;have HLO:=sH hlo;have HHI:=sH hhi;clear hlo hhi;by_cases hlt:i<j
 ·have hltI:(i:Int)<(j:Int):=by omega
  have hm1:i<=(i+j) / 2:=by omega
  have hm2:(i+j) / 2<j:=by omega
  obtain⟨ad,u,hA,hadb,hxi,hcell⟩:=H.out.at_ (k:=(i+j) / 2) (by omega);subst hA;have hil:(i+j) / 2<zs.length:=by have:=HZN.out; omega
  have hu:u=.int .i64 zs[(i+j) / 2]:=by
   rw [zD,zB hil] at hxi;injection hxi with hxi
   exact hxi.symm
  subst hu;obtain⟨z,hz⟩:∃ z,z=zs[(i+j) / 2]:=⟨_,rfl⟩;rw [<- hz] at hcell;have HZ:=sH hz;have HLE:=sH (Q9K z t w);clear hxi hz;by_cases hzt:z<t
  ·rw [decide_eq_true hzt] at HLE;have HN:=sH (show ∀ (k:Nat) (hk:k<zs.length),k<(i+j) / 2+1->zs[k]<t from fun k hk h=>by
    rcases Nat.lt_or_ge k ((i+j) / 2) with e | e
    ·have:=HP.out k _ hk hil e; have:=HZ.out; omega
    obtain rfl:k=(i+j) / 2:=by omega
    have:=HZ.out; omega)
   go_wp2_with fail
   refine HLE.out.mono ?_;rintro _ _ ⟨rfl,rfl⟩;go_wp2_with fail
   go_roundw
   case rel=>exact⟨(i+j) / 2+1,j,by omega,hj,by go_num,rfl,trivial,HN.out,HHI.out⟩
   case measure=>simp [intOf]; omega
  rw [decide_eq_false hzt] at HLE;have HN:=sH (show ∀ (k:Nat) (hk:k<zs.length),(i+j) / 2<=k->t<=zs[k] from fun k hk h=>by
   rcases Nat.lt_or_ge ((i+j) / 2) k with e | e
   ·have:=HP.out _ k hil hk e; have:=HZ.out; omega
   obtain rfl:k=(i+j) / 2:=by omega
   have:=HZ.out; omega)
  go_wp2_with fail
  refine HLE.out.mono ?_;rintro _ _ ⟨rfl,rfl⟩;go_wp2_with fail
  go_roundw
  case rel=>exact⟨i,(i+j) / 2,by omega,by omega,rfl,by go_num,trivial,HLO.out,HN.out⟩
  case measure=>simp [intOf]; omega
 obtain rfl:i=j:=by omega
 have hno:∀ (k:Nat) (hk:k<zs.length),k≠i->zs[k]≠t:=fun k hk hne e=>by
  rcases Nat.lt_or_ge k i with q | q
  ·have:=HLO.out k hk q; omega
  have h1:i<zs.length:=by omega
  have:=HHI.out i h1 (zF _);have:=HP.out i k h1 hk (by omega);omega
 by_cases hin:i<n
 ·obtain⟨ad,u,hA,hadb,hxi,hcell⟩:=H.out.at_ hin;subst hA;have hil:i<zs.length:=by have:=HZN.out; omega
  have hu:u=.int .i64 zs[i]:=by
   rw [zD,zB hil] at hxi;injection hxi with hxi
   exact hxi.symm
  subst hu;have hinI:(i:Int)<(n:Int):=by omega
  by_cases hzt:zs[i]=t
  ·have hr:res=true:=by rw [HRES.out]; exact decide_eq_true (hzt▸zH hil)
   rw [hzt] at hcell;subst hr;clear hxi hno hzt;go_wp2_with fail
   go_ret2
   exact⟨i,rfl,rfl⟩
  have hr:res=false:=by
   rw [HRES.out];refine decide_eq_false fun hm=>?_
   obtain⟨k,hk,e⟩:=List.mem_iff_getElem.1 hm;rcases Nat.eq_or_lt_of_le (zF k) with _ | _
   ·by_cases hki:k=i
    ·subst hki; exact hzt e
    exact hno k hk hki e
   omega
  generalize zs[i]=z at hcell hzt;have hztb:(z == t)=false:=by simpa using hzt
  have HNA:=sH (QdZ z w);subst hr;clear hxi hno hzt;go_wp2_with fail
  refine HNA.out.mono ?_;rintro _ _ ⟨rfl,rfl⟩;go_wp2_with fail
  go_ret2
  exact⟨i,rfl,rfl⟩
 have hr:res=false:=by
  rw [HRES.out];refine decide_eq_false fun hm=>?_
  obtain⟨k,hk,e⟩:=List.mem_iff_getElem.1 hm;have:=HZN.out;exact hno k hk (by omega) e
 have hinI:¬ (i:Int)<(n:Int):=by omega
 subst hr;clear hno;go_wp2_with fail
 go_ret2
 exact⟨⟨i,rfl⟩,rfl⟩
theorem Q5J (f:Nat) (A:Option Addr) (n c:Nat) (zs:List Int) (t:Int) (w:zA) (h:Q08 w w.heap.size 1 A n (zs.map vn)) (hok:OkC f zs) :
 zC zE 141 #[.agg (crC f A n c),.int .i64 t] w fun e w'=>e=.returned (.bool (decide (t∈zs)))/\Below w.heap.size w w':=by
 have hzn:zs.length=n:=by have:=h.1; simpa using this
 have hs:=hok.short;have HX:=sH (Q04 w (.cells (crC f A n c) 77));have HK:=sH (Blk.newAt rfl:Blk (w.alloc (.cells (crC f A n c) 77)) w.heap.size 77 (crC f A n c));have hr1:=h.below HX.out;have HB:=sH (Qbt A n c zs t (w.alloc (.cells (crC f A n c) 77)) _ hr1 hok.pair (by omega));have HC:=sH (Q3j f A n c zs (w.alloc (.cells (crC f A n c) 77)) (hr1.more HX.out.size) (by omega));rw [Q4a hok,if_pos rfl] at HC;generalize decide (t∈zs)=res at HB ⊢;have hD:crC f A n c=#[.int .i64 (f:Int),.slice A n c]:=rfl;obtain⟨D,hDe⟩:∃ D,D=crC f A n c:=⟨_,rfl⟩;have hsz:D.size=2:=by rw [hDe]; rfl
 rw [<- hDe] at HX HK HB HC hD ⊢;clear h hr1 hok hDe;have HD:=sH hD;clear hD;obtain⟨g,hg⟩:∃ g,g=w.heap.size:=⟨_,rfl⟩;go_enter Tryz.func141,Tryz.ntmps141
 go_upto_region 1 with fail
 generalize zT w _=w1 at HX HK HB HC ⊢;rw [<- hg] at HK ⊢;clear hg;have c1:w1.cell? ⟨g,1,none⟩=some (.slice A n c):=(HK.out.cell 1).trans (by rw [HD.out]; rfl);go_wp2_with fail
 refine HB.out.mono ?_;rintro _ _ ⟨i,rfl,rfl⟩;clear HB;go_wp2_with (refine Q01 (o:=⟨some 14,_,_,_,_,_⟩) rfl 77 (.tmp 2) rfl g 0 2 rfl 77 _ D _ HK.out zW rfl rfl hsz (fun _ _=>by rw [Nat.zero_add]; try rfl) ?_)
 refine HC.out.mono ?_;rintro _ w2 ⟨rfl,hb2⟩;have HB2:=sH (HX.out.trans (hb2.mono HX.out.size));clear hb2 HC;go_wp2_with fail
 go_ret
 exact⟨rfl,HB2.out⟩
structure RowN (w:zA) (g cap:Nat) (zs:List Int):Prop where
 row:∃ cur:Array Value,Blk w g 3 cur/\cur.size=cap/\cur.toList.take zs.length=zs.map vn
 cap:zs.length<=cap/\cap<=maxLen
theorem RowN.of_own {w:zA} {B:Nat} {v:Value} {zs:List Int} (h:OwnN w B v zs) (h0:0<zs.length):∃ g cap,v=.slice (some ⟨g,0,none⟩) zs.length cap/\B<=g/\RowN w g cap zs:=by
 rcases h.2 with⟨_,h1⟩ | ⟨g,cap,cur,hv,h2,h3,h4,h5,h6,h7⟩
 ·omega
 exact⟨g,cap,hv,h2,⟨⟨cur,h3,by omega,by simpa using h7⟩,h4,h5⟩⟩
theorem RowN.lt {w:zA} {g cap:Nat} {zs:List Int} (h:RowN w g cap zs):g<w.heap.size:=by obtain⟨cur,h1,_⟩:=h.row;exact h1.lt
theorem RowN.keep {w w':zA} {g cap:Nat} {zs:List Int} (h:RowN w g cap zs) (hk:w'.heap[g]?=w.heap[g]?):RowN w' g cap zs:=by obtain⟨cur,h1,h2⟩:=h.row;exact⟨⟨cur,hk.trans h1,h2⟩,h.cap⟩
theorem RowN.below {w w':zA} {B g cap:Nat} {zs:List Int} (h:RowN w g cap zs) (hb:Below B w w') (hg:g<B):RowN w' g cap zs:=h.keep (hb.block g hg)
theorem RowN.own {w:zA} {B g cap:Nat} {zs:List Int} (h:RowN w g cap zs) (hB:B<=g):OwnN w B (.slice (some ⟨g,0,none⟩) zs.length cap) zs:=by obtain⟨cur,h1,h2,h3⟩:=h.row;exact⟨by simp,.inr ⟨g,cap,cur,rfl,hB,h1,h.cap.1,h.cap.2,by omega,by simpa using h3⟩⟩
theorem RowN.at_ {w:zA} {g cap:Nat} {zs:List Int} (h:RowN w g cap zs) {i:Nat} (hi:i<zs.length):w.cell? ⟨g,i,none⟩=some (.int .i64 zs[i]):=by
 obtain⟨cur,h1,h2,h3⟩:=h.row;rw [h1.cell,<- Array.getElem?_toList];have:(cur.toList.take zs.length)[i]?=some (.int .i64 zs[i]):=by rw [h3,zD,zB hi]; rfl
 rw [List.getElem?_take,if_pos hi] at this;exact this
theorem RowN.frozen {w:zA} {g cap:Nat} {zs:List Int} (h:RowN w g cap zs) (i:Nat):w.frozen? ⟨g,i,none⟩=false:=by obtain⟨cur,h1,_⟩:=h.row;exact h1.frozen i
theorem RowN.set_ {w:zA} {g cap:Nat} {zs:List Int} (h:RowN w g cap zs) {i:Nat} (hi:i<zs.length) (z:Int):RowN (w.setCell ⟨g,i,none⟩ (.int .i64 z)) g cap (zs.set i z):=by obtain⟨cur,h1,h2,h3⟩:=h.row;refine⟨⟨_,h1.set_ i _,by simp [h2],?_⟩,by rw [zO]; exact h.cap⟩;rw [zO,Array.toList_setIfInBounds,List.take_set,h3];rw [List.map_set];rfl
theorem RowN.reads {w:zA} {g cap:Nat} {zs:List Int} (h:RowN w g cap zs):Q08 w w.heap.size 1 (some ⟨g,0,none⟩) zs.length (zs.map vn):=(OwnN.reads' (h.own (Nat.zero_le _)))
where OwnN.reads' {w:zA} {B g cap:Nat} {zs:List Int} (h:OwnN w B (.slice (some ⟨g,0,none⟩) zs.length cap) zs):Q08 w w.heap.size 1 (some ⟨g,0,none⟩) zs.length (zs.map vn):=Q08.of_own h
theorem Q7s (b:Nat) (x o:Int) (w:zA) (hc:w.cell? ⟨b,0,none⟩=some (.int .i64 o)) :
 zC zE 169 #[.int .i64 x,.pointer (some ⟨b,0,none⟩)] w fun e w'=>e=.returned (.bool (decide (x=o)))/\w=w':=by
 by_cases h:x=o
 ·subst h;go_enter Tryz.func169,Tryz.ntmps169
  go_wp2
  go_ret
  exact⟨Q0C (by simp),rfl⟩
 have hx:(x == o)=false:=by simpa using h
 rw [decide_eq_false h];go_enter Tryz.func169,Tryz.ntmps169
 go_wp2
 go_ret
 exact⟨rfl,rfl⟩
theorem QcU (g cap b n:Nat) (p q:List Int) (o:Int) (w:zA) (h:RowN w g cap (p++o :: q)) (hn:n=(p++o :: q).length) (hp:¬ o∈p) (hb:w.cell? ⟨b,0,none⟩=some (.int .i64 o)) (hn2:n<=1000000) :
 zC zE 184 #[.slice (some ⟨g,0,none⟩) n cap,.func (.func 169) #[] #[.pointer (some ⟨b,0,none⟩)]] w fun e w'=>e=.returned (.int .i64 (p.length:Int))/\w=w':=by
 have HR:=sH h;have HN:=sH hn;have HO:=sH (fun x=>Q7s b x o w hb);have HP:=sH hp;have hpl:p.length<n:=by rw [hn,zG]; simp
 clear h hn hp hb;go_enter Tryz.func184,Tryz.ntmps184
 go_wp2_with fail
 go_loopw [5,8] (fun _ iv wr=>∃ i:Nat,i<=p.length/\iv=.int .i64 i/\w=wr) (fun _ iv _=>p.length - (intOf iv).toNat)
 case atStart=>exact⟨0,by omega,rfl,rfl⟩
 obtain⟨i,hi,rfl,rfl⟩:=hrel;have hin:i<n:=by omega
 have hinI:(i:Int)<(n:Int):=by omega
 have hil:i<(p++o :: q).length:=by have:=HN.out; omega
 have hcell:=HR.out.at_ hil;by_cases hlt:i<p.length
 ·have hz:(p++o :: q)[i]=p[i]:=List.getElem_append_left hlt;rw [hz] at hcell;have hne:¬ p[i]=o:=fun e=>HP.out (e▸zH hlt)
  generalize p[i]=z at hcell hne;have HC:=sH (HO.out z);rw [decide_eq_false hne] at HC;clear hz;go_wp2_with fail
  refine HC.out.mono ?_;rintro _ _ ⟨rfl,rfl⟩;go_wp2_with fail
  go_roundw
  case rel=>exact⟨i+1,by omega,by go_num,trivial⟩
  case measure=>simp [intOf]; omega
 obtain rfl:i=p.length:=by omega
 have hz:(p++o :: q)[p.length]=o:=by rw [List.getElem_append_right (zF _)]; simp
 rw [hz] at hcell;have HC:=sH (HO.out o);rw [decide_eq_true rfl] at HC;clear hz;go_wp2_with fail
 refine HC.out.mono ?_;rintro _ _ ⟨rfl,rfl⟩;go_wp2_with fail
 go_ret
 exact⟨rfl,rfl⟩
theorem Qb3 (g cap b n:Nat) (p q:List Int) (o:Int) (w:zA) (h:RowN w g cap (p++o :: q)) (hn:n=(p++o :: q).length) (hp:¬ o∈p) (hq:¬ o∈q) (hb:w.cell? ⟨b,0,none⟩=some (.int .i64 o)) (hbg:b≠g) (hn2:n<=1000000) :
 zC zE 168 #[.slice (some ⟨g,0,none⟩) n cap,.func (.func 169) #[] #[.pointer (some ⟨b,0,none⟩)]] w fun e w'=>e=.returned (.slice (some ⟨g,0,none⟩) (p++q).length cap)/\RowN w' g cap (p++q++[0])/\Only (fun b=>b=g) w w':=by
 have HI:=sH (QcU g cap b n p q o w h hn hp hb hn2);have HR:=sH h;have HN:=sH hn;have HB:=sH hb;have HQ:=sH hq;obtain⟨pl,hpl⟩:∃ k,k=p.length:=⟨_,rfl⟩;have hnl:n=pl+1+q.length:=by rw [hn,zG,zK,hpl]; omega
 rw [<- hpl] at HI;have HPL:=sH hpl;obtain⟨z0,hz0,hz1,hz2⟩:=info_parts Q3e;have hm1:((pl:Int) == -1)=false:=by rw [beq_eq_false_iff_ne]; omega
 have HNL:=sH hnl;have hnp:pl<n:=by omega
 obtain⟨pq,hpq⟩:∃ k,k=(p++q).length:=⟨_,rfl⟩;rw [<- hpq];have HPQ:=sH hpq;clear h hn hp hq hb hpl hnl hpq;go_enter Tryz.func168,Tryz.ntmps168
 go_wp2_with fail
 refine HI.out.mono ?_;rintro _ _ ⟨rfl,rfl⟩;clear HI;go_wp2_with fail
 go_loopw [5,6,7] (fun iv jv _ wr=>∃ (k m m2:Nat),m=pl+k/\m2=m+1/\k<=q.length/\iv=.int .i64 (m:Int)/\jv=.int .i64 (m2:Int)/\(∃ x,RowN wr g cap (p++q.take k++x :: q.drop k))/\Only (fun b=>b=g) w wr) (fun _ jv _ _=>n - (intOf jv).toNat)
 case atStart=>exact⟨0,pl,pl+1,by omega,by omega,by omega,rfl,by go_num,⟨o,by simpa using HR.out⟩,Only.refl _ _⟩
 obtain⟨k,m,m2,hm,hm2,hk,rfl,rfl,⟨x,hrow⟩,hon⟩:=hrel;have HROW:=sH hrow;have HON:=sH hon;have HPL1:=HPL.out;have hnl:=HNL.out;have htk:(q.take k).length=k:=by rw [zQ]; omega
 have hll:(p++q.take k++x :: q.drop k).length=n:=by rw [zG,zG,zK,List.length_drop,htk]; omega
 have hg:=hrow.lt;by_cases hlt:k<q.length
 ·have hjI:(m2:Int)<(n:Int):=by omega
  have h0I:(0:Int)<=(m2:Int):=by omega
  have hz:(p++q.take k++x :: q.drop k)[m2]'(by omega)=q[k]:=by
   rw [List.getElem_append_right (by rw [zG,htk]; omega)];have:m2 - (p++q.take k).length=1:=by rw [zG,htk]; omega
   simp only [this,List.getElem_cons_succ,List.getElem_drop]
   simp
  have hcell:=HROW.out.at_ (i:=m2) (by omega);rw [hz] at hcell;have hne:¬ q[k]=o:=fun e=>HQ.out (e▸zH hlt)
  have hset:=HROW.out.set_ (i:=m) (by omega) q[k];have hse:(p++q.take k++x :: q.drop k).set m q[k]=p++q.take (k+1)++q[k] :: q.drop (k+1):=by
   rw [List.set_append,if_neg (by rw [zG,htk]; omega)];have:m - (p++q.take k).length=0:=by rw [zG,htk]; omega
   rw [this,List.set_cons_zero,zS hlt,zP hlt];simp only [zI,List.singleton_append]
  rw [hse] at hset;have hfz:=HROW.out.frozen m;have hob:w.cell? ⟨b,0,none⟩=some (.int .i64 o):=HB.out;have hlb:=World.block_lt_of_cell? _ _ hob;have hcb:wr.cell? ⟨b,0,none⟩=some (.int .i64 o):=(HON.out.cell hlb hbg).trans hob;have HC:=sH (Q7s b q[k] o wr hcb);rw [decide_eq_false hne] at HC;have hmI:(m:Int)<(n:Int):=by omega
  have hm0:(0:Int)<=(m:Int):=by omega
  have hcm:=HROW.out.at_ (i:=m) (by omega);generalize (p++q.take k++x :: q.drop k)[m]=y at hcm;generalize hqk:q[k]=z at hcell hset HC;have HSET:=sH hset;have HON2:=sH (HON.out.trans (Only.of_turned (N:=fun b=>b=g) (Q0b.setCell wr ⟨g,m,none⟩ (.int .i64 z)) rfl));have HM:=sH hm;have HM2:=sH hm2;have hmn1:m2<=n:=by omega
  clear hrow hon hset hse hz hne hqk hob hcb hnl HPL1 htk hll hm hm2;go_wp2_with fail
  refine HC.out.mono ?_;rintro _ _ ⟨rfl,rfl⟩;clear HC;go_wp2_with fail
  go_roundw
  case rel=>exact⟨k+1,m+1,m2+1,by have:=HM.out; omega,by have:=HM2.out; omega,by omega,by go_num,by go_num,⟨z,HSET.out⟩,HON2.out⟩
  case measure=>simp [intOf]; omega
 obtain rfl:k=q.length:=by omega
 have hjI:¬ (m2:Int)<(n:Int):=by omega
 have hpq:(p++q.take q.length++x :: q.drop q.length)=(p++q)++[x]:=by simp
 rw [hpq] at hrow hll;have hcx:=hrow.at_ (i:=m) (by omega);have hfz:=hrow.frozen m;have hset:=hrow.set_ (i:=m) (by omega) 0;have hse:((p++q)++[x]).set m 0=(p++q)++[0]:=by
  rw [List.set_append,if_neg (by rw [zG]; omega)];have:m - (p++q).length=0:=by rw [zG]; omega
  rw [this]; rfl
 rw [hse] at hset;have HPRE:=sH hset;have hcap1:=hrow.cap.1;rw [hll] at hcap1;have hcap2:¬ cap=m:=by omega
 have hmn:n - m=1:=by omega
 have hnm:n=m+1:=by omega
 have hlen:pq=m:=by rw [HPQ.out,zG]; omega
 have HON2:=sH (HON.out.trans (Only.of_turned (N:=fun b=>b=g) (Q0b.setCell wr ⟨g,m,none⟩ (.int .i64 0)) rfl));have hcl:∀ ty,(Builtin.clear_ #[42] ty #[.slice (some ⟨g,m,none⟩) 1 (cap - m)]).run zE wr=.ok (.tuple #[]) (wr.setCell ⟨g,m,none⟩ (.int .i64 0)):=fun ty=>by
  have:=Lib.run_clear_slice (P:=zE) wr 42 3 ty (.int .i64 0) Tryz.underlying42 (fun w=>Tryz.zeroValue3 w) rfl rfl g m 1 (cap - m) (by omega) (fun j hj=>by
   obtain rfl:j=0:=by omega
   rw [Nat.add_zero,hcx]; rfl) (fun j hj=>by
   obtain rfl:j=0:=by omega
   rw [Nat.add_zero]; exact hfz)
  simpa [World.setCells] using this
 clear hrow hset hse hcx hpq hon hnl HPL1 htk hll hm hm2;subst hlen hnm;go_wp2_with fail
 go_ret
 exact⟨rfl,by first | exact HPRE.out | (rw [<- zI]; exact HPRE.out),HON2.out⟩
theorem Qb8 {zs:List Int} {o:Int} (hp:zs.Pairwise (· < ·)) (ho:o∈zs):∃ p q,zs=p++o :: q/\¬ o∈p/\¬ o∈q/\Q28 zs o=p++q:=by
 obtain⟨p,q,rfl⟩:=List.append_of_mem ho;have h:=List.pairwise_append.1 hp;have h2:=List.pairwise_cons.1 h.2.1;have hnp:¬ o∈p:=fun e=>by have:=h.2.2 o e o (zL ..); omega
 have hnq:¬ o∈q:=fun e=>by have:=h2.1 o e; omega
 refine⟨p,q,rfl,hnp,hnq,?_⟩;unfold Q28;rw [List.filter_append,List.filter_cons_of_neg (by simp)];rw [List.filter_eq_self.2 fun x hx=>by simp; exact fun e=>hnp (e▸hx),List.filter_eq_self.2 fun x hx=>by simp; exact fun e=>hnq (e▸hx)]
theorem Qdk (f:Nat) (A:Option Addr) (n c:Nat) (zs:List Int) (o:Int) (w:zA) (h:Q08 w w.heap.size 1 A n (zs.map vn)) (hok:OkC f zs) (ho:o∈zs) :
 zC zE 146 #[.agg (crC f A n c),.int .i64 o] w fun e w'=>∃ v,e=.returned v/\(∃ g cap,v=.slice (some ⟨g,0,none⟩) (Q28 zs o).length cap/\w.heap.size<=g/\RowN w' g cap (Q28 zs o++[0]))/\Below w.heap.size w w':=by
 have hmf:∀ (fn:Fn) (first cap:Array Value) (w:zA),(Instr.makeFunc fn first cap).run zE w=.ok (.func fn first cap) w:=fun _ _ _ _=>rfl
 have hzn:zs.length=n:=by have:=h.1; simpa using this
 have hs:=hok.short;have hX:=((Below.refl w.heap.size w).alloc (zF _) (.cells (crC f A n c) 77)).alloc (by simp) (.cells #[.int .i64 o] 3);have HK:=sH ((Blk.newAt rfl:Blk (w.alloc (.cells (crC f A n c) 77)) w.heap.size 77 (crC f A n c)).alloc (.cells #[.int .i64 o] 3));have HO:=sH (Blk.newAt (by simp):Blk ((w.alloc (.cells (crC f A n c) 77)).alloc (.cells #[.int .i64 o] 3)) (w.heap.size+1) 3 #[.int .i64 o]);have hr1:=h.below hX;have hs1:((w.alloc (.cells (crC f A n c) 77)).alloc (.cells #[.int .i64 o] 3)).heap.size=w.heap.size+2:=by simp
 have hn7:n<=1000000:=by omega
 have HC:=sH (Q3j f A n c zs _ (hr1.more hX.size) (by omega));rw [Q4a hok,if_pos rfl] at HC;obtain⟨p,q,hzs,hnp,hnq,hd⟩:=Qb8 hok.pair ho;have HX:=sH hX;have HR1:=sH hr1;have HZS:=sH hzs;have HNP:=sH hnp;have HNQ:=sH hnq;have HD:=sH hd;have HZN:=sH hzn;obtain⟨dl,hdl⟩:∃ k,k=(Q28 zs o).length:=⟨_,rfl⟩;rw [<- hdl];have HDL0:=sH hdl;clear hdl;obtain⟨D,hD⟩:∃ D,D=crC f A n c:=⟨_,rfl⟩;have hsz:D.size=2:=by rw [hD]; rfl
 have c1:D[1]?=some (.slice A n c):=by rw [hD]; rfl
 rw [<- hD] at HX HK HO HC HR1 hs1 ⊢;have C1:=sH c1;have HS1:=sH hs1;clear h hr1 hok hX hzs hnp hnq hd hD hzn c1 hs1;obtain⟨g,hg⟩:∃ g,g=w.heap.size:=⟨_,rfl⟩;obtain⟨g3,hg3⟩:∃ g,g=w.heap.size+1:=⟨_,rfl⟩;go_enter Tryz.func146,Tryz.ntmps146
 go_upto_region 1 with fail
 generalize zT (zT w _) _=w1 at HX HK HO HC HR1 HS1 ⊢;rw [<- hg3] at HO ⊢;rw [<- hg] at HK ⊢;have hs1:=HS1.out;have hg1:g<w1.heap.size:=by omega
 have hg31:g3<w1.heap.size:=by omega
 clear HS1 hs1 hg hg3;go_wp2_with (refine Q01 (o:=⟨some 5,_,_,_,_,_⟩) rfl 77 (.tmp 2) rfl g 0 2 rfl 77 _ D _ HK.out zW rfl rfl hsz (fun _ _=>by rw [Nat.zero_add]; try rfl) ?_)
 refine HC.out.mono ?_;rintro _ w2 ⟨rfl,hb2⟩;have HB2:=sH (HX.out.trans (hb2.mono HX.out.size));have hs2:=hb2.size;have c21:w2.cell? ⟨g,1,none⟩=some (.slice A n c):=((HK.out.below' hb2).cell 1).trans C1.out;have co2:w2.cell? ⟨g3,0,none⟩=some (.int .i64 o):=((HO.out.below' hb2).cell 0).trans rfl;have HCL:=sH (Q36 A n c zs w2 w.heap.size (HR1.out.below (hb2.mono HX.out.size)) HB2.out.size (by omega));have CO2:=sH co2;clear hb2 HC HR1 HK HO co2;go_wp2_with fail
 refine HCL.out.mono ?_;rintro _ w3 ⟨v,rfl,how,hb3⟩;have hzl:0<zs.length:=by have:=HZN.out; omega
 obtain⟨g4,cap,rfl,hg4,hrow⟩:=RowN.of_own how hzl;rw [HZN.out];rw [HZS.out] at hrow;have HDL:=sH (Qb3 g4 cap g3 n p q o w3 hrow (by rw [<- HZS.out]; exact HZN.out.symm) HNP.out HNQ.out ((hb3.cell (show g3<w2.heap.size by omega)).trans CO2.out) (by omega) (by omega));rw [<- HD.out,<- HDL0.out] at HDL;have HB3:=sH (HB2.out.trans (hb3.mono HB2.out.size));have hs3:=HB2.out.size;clear how hrow hb3 HCL hzl c21;go_wp2_with fail
 refine HDL.out.mono ?_;rintro _ w4 ⟨rfl,hrow,hon⟩;have HOW:=sH hrow;have hgw4:w.heap.size<=g4:=by omega
 have HB4:=sH (HB3.out.trans (hon.below HB3.out.size fun b hb e=>by omega));clear hrow hon HDL;go_wp2_with fail
 go_ret
 exact⟨_,rfl,⟨g4,cap,rfl,hgw4,HOW.out⟩,HB4.out⟩
def midL (l:List Int) (z:Int) (j:Nat):List Int:=l.take j++z :: l.drop j
theorem Q6V (l:List Int) (z:Int) (j:Nat) (hj:j<=l.length):(midL l z j).length=l.length+1:=by unfold midL;rw [zG,zQ,zK,List.length_drop]; omega
theorem Qcr (l:List Int) (z:Int):midL l z l.length=l++[z]:=by unfold midL; simp
theorem midL_at (l:List Int) (z:Int) (j:Nat) (hj:j<=l.length):(midL l z j)[j]?=some z:=by unfold midL;rw [List.getElem?_append_right (by rw [zQ]; omega),zQ,Nat.min_eq_left hj,Nat.sub_self];rfl
theorem Qbn (l:List Int) (z:Int) (p:Nat) (hp:p<l.length):(midL l z (p+1))[p]?=some l[p]:=by unfold midL;rw [zJ (by rw [zQ]; omega),List.getElem?_take,if_pos (by omega),zB hp]
theorem QdA (l:List Int) (z:Int) (p:Nat) (hp:p<l.length):((midL l z (p+1)).set (p+1) l[p]).set p z=midL l z p/\((midL l z (p+1)).set p z).set (p+1) l[p]=midL l z p:=by
 have e:midL l z (p+1)=l.take p++l[p] :: z :: l.drop (p+1):=by unfold midL;rw [zP hp,zI]; rfl
 have e2:midL l z p=l.take p++z :: l[p] :: l.drop (p+1):=by unfold midL;rw [zS hp]
 have ht:(l.take p).length=p:=by rw [zQ]; omega
 have s1:∀ (t:List Int) (v:Int),(l.take p++t).set p v=l.take p++t.set 0 v:=fun t v=>by rw [List.set_append,if_neg (by omega),ht,Nat.sub_self]
 have s2:∀ (t:List Int) (v:Int),(l.take p++t).set (p+1) v=l.take p++t.set 1 v:=fun t v=>by rw [List.set_append,if_neg (by omega),ht,show p+1 - p=1 by omega]
 rw [e,e2,s2,s1,s1,s2];exact⟨rfl,rfl⟩
theorem QaB (l:List Int) (z:Int) (j:Nat) (hp:l.Pairwise (· < ·)) (hj:j<=l.length) (hlo:∀ p,p+1=j->∀ h:p<l.length,¬ z<l[p]) (hhi:∀ x,x∈l.drop j->z<x):midL l z j=insL z l:=by
 have h:=Qem z (l.take j) (l.drop j) (fun x hx=>by
  obtain⟨i,hi,rfl⟩:=List.mem_iff_getElem.1 hx;rw [zQ] at hi;rw [List.getElem_take];have hj1:j - 1<l.length:=by omega
  have:=hlo (j - 1) (by omega) hj1;rcases Nat.lt_or_ge i (j - 1) with e | e
  ·have:=List.pairwise_iff_getElem.1 hp i (j - 1) (by omega) hj1 e;omega
  ·have e':i=j - 1:=by omega
   subst e';exact this) (fun x hx=>hhi x (by
  cases hd:l.drop j with
  | nil=>rw [hd] at hx; cases hx
  | cons y t =>rw [hd] at hx;obtain rfl:=Option.some.inj hx;exact zL ..))
 rw [List.take_append_drop] at h;exact h.symm
theorem RowN.got {w:zA} {g cap i:Nat} {zs:List Int} {z:Int} (h:RowN w g cap zs) (hz:zs[i]?=some z):w.cell? ⟨g,i,none⟩=some (.int .i64 z):=by obtain⟨hi,e⟩:=List.getElem?_eq_some_iff.1 hz;rw [h.at_ hi,e]
theorem Qew (g cap n:Nat) (l:List Int) (z:Int) (w:zA) (h:RowN w g cap (l++[z])) (hn:n=l.length+1) (hp:l.Pairwise (· < ·)) (hz:¬ z∈l) (hn2:n<=12) :
 zC zE 194 #[.slice (some ⟨g,0,none⟩) n cap,.int .i64 0,.int .i64 (n:Int)] w fun e w'=>e=.returned (.tuple #[])/\RowN w' g cap (insL z l)/\Only (fun b=>b=g) w w':=by
 have HR:=sH h;have HN:=sH hn;have HP:=sH hp;have hn1:1<=n:=by omega
 clear h hn hp;go_enter Tryz.func194,Tryz.ntmps194
 go_wp2_with fail
 go_loopw [6] (fun iv wr=>∃ i:Nat,1<=i/\i<=n/\iv=.int .i64 (i:Int)/\RowN wr g cap (if i<n then l++[z] else insL z l)/\Only (fun b=>b=g) w wr) (fun iv _=>n - (intOf iv).toNat)
 case atStart =>
  refine⟨1,by omega,hn1,rfl,?_,Only.refl _ _⟩;split
  ·exact HR.out
  have:l=[]:=List.eq_nil_of_length_eq_zero (by have:=HN.out; omega);subst this;exact HR.out
 obtain⟨i,hi1,hi,rfl,hrow,hon⟩:=hrel;by_cases hin:i<n
 ·rw [if_pos hin] at hrow;have hinI:(i:Int)<(n:Int):=by omega
  have HROW:=sH hrow;have HON:=sH hon;clear hrow hon;by_cases hlast:i+1<n
  ·obtain⟨p,hp⟩:∃ p,i=p+1:=⟨i - 1,by omega⟩;have hil:i<l.length:=by have:=HN.out; omega
   have hpl:p<l.length:=by omega
   have hci:=HROW.out.got (i:=i) (z:=l[i]) (by rw [zJ hil,zB hil]);have hcp:=HROW.out.got (i:=p) (z:=l[p]) (by rw [zJ hpl,zB hpl]);have hxy:¬ l[i]<l[p]:=by have:=List.pairwise_iff_getElem.1 HP.out p i hpl hil (by omega); omega
   have HLE:=sH (fun W=>Q9K l[i] l[p] W);rw [decide_eq_false hxy] at HLE;generalize l[i]=x at hci HLE;generalize l[p]=y at hcp HLE;have hip:(i:Int) - 1=(p:Int):=by omega
   have h0i:0<i:=by omega
   have hpI:p<n:=by omega
   have hpw:IntKind.i64.wrap (p:Int)=(p:Int):=by rw [zR]; omega
   clear hxy hp hpl hil;go_wp2_with fail
   go_loopw [7] (fun jv w2=>jv=.int .i64 (i:Int)/\∃ k,w2=wr.drewN k) (fun _ _=>0)
   case atStart=>exact⟨rfl,0,rfl⟩
   obtain⟨rfl,k,rfl⟩:=hrel;go_upto_region 4 with fail
   go_quiet ((go_at_call 180; exact Q3A (HLE.out _)))
   go_wp2_with fail
   go_roundw
   case rel=>exact⟨i+1,by omega,by omega,by go_num,by rw [if_pos hlast]; exact HROW.out.keep rfl,by first | exact HON.out.drewN _ | exact(HON.out.drewN _).drewN _⟩
   case measure=>simp [intOf]; omega
  obtain rfl:i=l.length:=by have:=HN.out; omega
  have hml:=Qcr l z;have HPP:=HP.out;go_wp2_with fail
  go_loopw [7] (fun jv w2=>∃ j:Nat,j<=l.length/\jv=.int .i64 (j:Int)/\RowN w2 g cap (midL l z j)/\(∀ x,x∈l.drop j->z<x)/\Only (fun b=>b=g) w w2) (fun jv _=>(intOf jv).toNat)
  case atStart=>exact⟨l.length,zF _,rfl,(by rw [Qcr]; exact HROW.out),(fun x hx=>by rw [List.drop_length] at hx; cases hx),HON.out⟩
  obtain⟨j,hj,rfl,hrj,hhi,hoj⟩:=hrel;have HRJ:=sH hrj;have HHI:=sH hhi;have HOJ:=sH hoj;clear hhi hoj;by_cases h0:j=0
  ·have hdone:=QaB l z j HPP hj (fun p hp _=>by omega) HHI.out;rw [hdone] at hrj;have HRD:=sH hrj;subst h0;clear hrj hdone;go_wp2_with fail
   go_upto_region 4 with fail
   go_quiet (fail)
   go_wp2_with fail
   go_roundw
   case rel=>exact⟨l.length+1,by omega,by omega,by go_num,by rw [if_neg (by have:=HN.out; omega)]; exact HRD.out.keep rfl,by first | exact HOJ.out.drewN _ | exact(HOJ.out.drewN _).drewN _⟩
   case measure=>simp [intOf]; omega
  obtain⟨p,hp⟩:∃ p,j=p+1:=⟨j - 1,by omega⟩;have hpl:p<l.length:=by omega
  have hcj:=hrj.got (midL_at l z j hj);have hcp:=hrj.got (i:=p) (z:=l[p]) (by rw [hp]; exact Qbn l z p hpl);have HLE:=sH (fun W=>Q9K z l[p] W);have hjn:j<n:=by have:=HN.out; omega
  have hjp:(j:Int) - 1=(p:Int):=by omega
  have h0j:0<j:=by omega
  have hpn:p<n:=by omega
  have hpw:IntKind.i64.wrap (p:Int)=(p:Int):=by rw [zR]; omega
  have hpz:l[p]≠z:=fun e=>hz (e▸zH hpl)
  by_cases hlt:z<l[p]
  ·rw [decide_eq_true hlt] at HLE;have hsw:=QdA l z p hpl;have hs1:=(hrj.set_ (i:=j) (by rw [Q6V l z j hj]; omega) l[p]).set_ (i:=p) (by rw [zO,Q6V l z j hj]; omega) z;have hs2:=(hrj.set_ (i:=p) (by rw [Q6V l z j hj]; omega) z).set_ (i:=j) (by rw [zO,Q6V l z j hj]; omega) l[p];rw [hp] at hs1 hs2;rw [hsw.1] at hs1;rw [hsw.2] at hs2;rw [<- hp] at hs1 hs2;have hdr:l.drop p=l[p] :: l.drop j:=by rw [zS hpl,hp]
   have hh2:∀ x,x∈l.drop p->z<x:=fun x hx=>by
    rw [hdr] at hx;rcases List.mem_cons.1 hx with rfl | hx
    ·exact hlt
    exact HHI.out x hx
   have HH2:=sH hh2;have HS1:=sH hs1;have HS2:=sH hs2;have hfj:=hrj.frozen j;have hfp:=hrj.frozen p;have hjp2:j≠p:=by omega
   have hpj2:p≠j:=by omega
   generalize l[p]=y at hcp HLE HS1 HS2;clear hrj hs1 hs2 hdr hh2 hsw hp hlt hpz;go_wp2_with fail
   go_upto_region 4 with fail
   go_quiet ((go_at_call 180; first | exact Q8O (HLE.out _) | exact Q3A (HLE.out _)))
   go_wp2_with fail
   go_upto_region 6 with fail
   go_region
   go_wp2_with fail
   go_roundw
   case rel=>exact⟨p,by omega,by go_num,HS1.out.keep rfl,HH2.out,(HOJ.out.drewN _).trans ((Only.of_turned (N:=fun b=>b=g) (Q0b.setCell _ ⟨g,j,none⟩ (.int .i64 y)) rfl).trans (Only.of_turned (N:=fun b=>b=g) (Q0b.setCell _ ⟨g,p,none⟩ (.int .i64 z)) rfl))⟩
   case measure=>simp [intOf]; omega
  have hdone:=QaB l z j HPP hj (fun q hq hql=>by
   obtain rfl:q=p:=by omega
   exact hlt) HHI.out
  rw [hdone] at hrj;have HRD:=sH hrj;rw [decide_eq_false hlt] at HLE;generalize l[p]=y at hcp HLE;clear hrj hdone hp hlt hpz;go_wp2_with fail
  go_upto_region 4 with fail
  go_quiet ((go_at_call 180; first | exact Q8O (HLE.out _) | exact Q3A (HLE.out _)))
  go_wp2_with fail
  go_roundw
  case rel=>exact⟨l.length+1,by omega,by omega,by go_num,by rw [if_neg (by have:=HN.out; omega)]; exact HRD.out.keep rfl,by first | exact HOJ.out.drewN _ | exact(HOJ.out.drewN _).drewN _⟩
  case measure=>simp [intOf]; omega
 obtain rfl:i=n:=by omega
 rw [if_neg hin] at hrow;have hinI:¬ (i:Int)<(i:Int):=by omega
 have HROW:=sH hrow;have HON:=sH hon;clear hrow hon;go_wp2_with fail
 first | go_end0 | (simp only [Exit.inBlock,Exit.then]; refine bodyPost_ret (results_none rfl _ _ _) rfl ?_) | refine bodyPost_ret (results_none rfl _ _ _) rfl ?_
 exact⟨rfl,HROW.out,HON.out⟩
theorem Qdz (n:Nat) (hn:n=1\/n=4\/n=7) (w:zA):zC zE 203 #[.int .u64 (n:Int)] w fun e w'=>∃ v:Int,e=.returned (.int .i64 v)/\w=w':=by
 rcases hn with rfl | rfl | rfl
 ·go_enter Tryz.func203,Tryz.ntmps203
  go_wp2_with fail
  go_ret
  exact⟨_,rfl,rfl⟩
 ·go_enter Tryz.func203,Tryz.ntmps203
  go_wp2_with fail
  go_ret
  exact⟨_,rfl,rfl⟩
 go_enter Tryz.func203,Tryz.ntmps203
 go_wp2_with fail
 go_ret
 exact⟨_,rfl,rfl⟩
theorem Qby (n:Nat) (hn:n=1\/n=4\/n=7) (w:zA):zC zE 183 #[.int .u64 (n:Int)] w fun e w'=>∃ v:Int,e=.returned (.int .i64 v)/\w=w':=by
 have HL:=sH (Qdz n hn w);clear hn;go_enter Tryz.func183,Tryz.ntmps183
 go_wp2_with fail
 refine HL.out.mono ?_;rintro _ _ ⟨v,rfl,rfl⟩;go_wp2_with fail
 go_ret
 exact⟨_,rfl,rfl⟩
theorem pdq_any (g cap n:Nat) (l:List Int) (z v:Int) (w:zA) (h:RowN w g cap (l++[z])) (hn:n=l.length+1) (hp:l.Pairwise (· < ·)) (hz:¬ z∈l) (hn2:n<=12) :
 zC zE 182 #[.slice (some ⟨g,0,none⟩) n cap,.int .i64 0,.int .i64 (n:Int),.int .i64 v] w fun e w'=>e=.returned (.tuple #[])/\RowN w' g cap (insL z l)/\Only (fun b=>b=g) w w':=by
 have HI:=sH (Qew g cap n l z w h hn hp hz hn2);clear h hn hp hz;go_enter Tryz.func182,Tryz.ntmps182
 go_wp2_with fail
 go_loopw [1,2] (fun av bv wr=>av=.int .i64 0/\bv=.int .i64 (n:Int)/\w=wr) (fun _ _ _=>0)
 case atStart=>exact⟨rfl,rfl,rfl⟩
 obtain⟨rfl,rfl,rfl⟩:=hrel;go_wp2_with fail
 refine HI.out.mono ?_;rintro _ w1 ⟨rfl,hr,ho⟩;have HR:=sH hr;have HO:=sH ho;clear hr ho HI;go_wp2_with fail
 first | go_end0 | (simp only [Exit.inBlock,Exit.then]; refine bodyPost_ret (results_none rfl _ _ _) rfl ?_) | refine bodyPost_ret (results_none rfl _ _ _) rfl ?_
 exact⟨rfl,HR.out,HO.out⟩
theorem sort_any (g cap n:Nat) (l:List Int) (z:Int) (w:zA) (h:RowN w g cap (l++[z])) (hn:n=l.length+1) (hp:l.Pairwise (· < ·)) (hz:¬ z∈l) (hn2:n=1\/n=4\/n=7) :
 zC zE 167 #[.slice (some ⟨g,0,none⟩) n cap] w fun e w'=>e=.returned (.tuple #[])/\RowN w' g cap (insL z l)/\Only (fun b=>b=g) w w':=by
 have HP:=sH (fun v=>pdq_any g cap n l z v w h hn hp hz (by omega));have HL:=sH (Qby n hn2 w);have hn7:n<=7:=by omega
 clear h hn hp hz hn2;go_enter Tryz.func167,Tryz.ntmps167
 go_wp2_with fail
 refine HL.out.mono ?_;rintro _ _ ⟨v,rfl,rfl⟩;clear HL;go_wp2_with fail
 refine(HP.out v).mono ?_;rintro _ w1 ⟨rfl,hr,ho⟩;have HR:=sH hr;have HO:=sH ho;clear hr ho HP;go_wp2_with fail
 first | go_end0 | (simp only [Exit.inBlock,Exit.then]; refine bodyPost_ret (results_none rfl _ _ _) rfl ?_) | refine bodyPost_ret (results_none rfl _ _ _) rfl ?_
 exact⟨rfl,HR.out,HO.out⟩
theorem crZ:crC 0 none 0 0=#[.int .i64 0,.slice none 0 0]:=rfl
theorem Q1M (f:Int) (A:Option Addr) (n c:Nat):(Tryz.prog.info? 77).map (·.size)=some (crC f A n c).size:=by kernel_rfl
theorem Q1h (f:Int) (A:Option Addr) (n c:Nat):(crC f A n c).all (·.oneCell')=true:=by simp [crC,Value.oneCell']
theorem Q3i (f f':Int) (A A':Option Addr) (n c n' c':Nat):spl (crC f A n c) 0 (crC f' A' n' c').toList=crC f' A' n' c':=Q0c _ _ rfl
theorem Qdn (f:Nat) (A:Option Addr) (n c:Nat) (l:List Int) (z:Int) (w:zA) (B:Nat) (h:Q08 w B 1 A n ((l++[z]).map vn)) (hB:B<=w.heap.size) (hp:l.Pairwise (· < ·)) (hz:¬ z∈l) (hok:OkC f (insL z l)) :
 zC zE 145 #[.int .i64 (f:Int),.slice A n c] w fun e w'=>∃ A' c',e=.returned (.tuple #[.agg (crC f A' n c'),.int .i64 0])/\OwnN w' w.heap.size (.slice A' n c') (insL z l)/\Below w.heap.size w w':=by
 have hzn:(l++[z]).length=n:=by have:=h.1; simpa using this
 have hs:=hok.len;have hf:=hok.faults;rw [Q4g] at hs;rw [zG,List.length_singleton] at hzn;have hn7:n=1\/n=4\/n=7:=by omega
 have hX:=Q04 w (.cells (crC 0 none 0 0) 77);have HX:=sH hX;have HK:=sH (Blk.newAt rfl:Blk (w.alloc (.cells (crC 0 none 0 0) 77)) w.heap.size 77 (crC 0 none 0 0));have HCL:=sH (Q36 A n c (l++[z]) (w.alloc (.cells (crC 0 none 0 0) 77)) B (h.below (hX.mono hB)) (Nat.le_trans hB hX.size) (by omega));have hs1:(w.alloc (.cells (crC 0 none 0 0) 77)).heap.size=w.heap.size+1:=by simp
 have HOK:=sH hok;have HZN:=sH hzn;have HN7:=sH hn7;have HP:=sH hp;have HZ:=sH hz;have HSZ:=sH hs1;clear h hX hs hzn hok hn7 hp hz hs1;obtain⟨g,hg⟩:∃ g,g=w.heap.size:=⟨_,rfl⟩;go_enter Tryz.func145,Tryz.ntmps145
 go_upto_region 1 with fail
 rw [<- crZ];generalize zT w _=w1 at HX HK HCL HSZ ⊢;rw [<- hg] at HK ⊢;have hgw:w.heap.size<=g:=by omega
 have hgl:=HK.out.lt;clear hg HSZ;go_wp2_with fail
 refine HCL.out.mono ?_;rintro _ w2 ⟨v,rfl,how,hb2⟩;obtain⟨g2,cap,hv,hg2,hrow⟩:=RowN.of_own how (by simp);have hle:(l++[z]).length=n:=by rw [zG]; exact HZN.out
 rw [hle] at hv;subst hv;have HROW:=sH hrow;have hs2:=hb2.size;have HK2:=sH (HK.out.below' hb2);have HB2:=sH (HX.out.trans (hb2.mono HX.out.size));clear how hrow hb2 HCL HK hle;go_upto_region 2 with(refine Q00 (o:=⟨none,_,_,_,_,_⟩) rfl 77 (.tmp 6) (.tmp 10) rfl w2.heap.size 0 (crC f (some ⟨g2,0,none⟩) n cap) rfl rfl 77 (crC 0 none 0 0) (Blk.newAt rfl) (Q1M _ _ _ _) (by simp [crC]) (Q1h _ _ _ _) ?_; intro w3 hT3 hD3; rw [Q3i] at hD3)
 have hb3:Below w2.heap.size w2 w3:=hT3.below (Q04 w2 _) (zF _);have hs3:=hb3.size;obtain⟨g6,hg6⟩:∃ g,g=w2.heap.size:=⟨_,rfl⟩;rw [<- hg6] at hD3 ⊢;have HD3:=sH hD3;have hrl:=HROW.out.lt;have HROW3:=sH (HROW.out.below hb3 hrl);have HK3:=sH (HK2.out.below' hb3);have HB3:=sH (HB2.out.trans (hb3.mono HB2.out.size));have hg26:g2≠g6:=by omega
 have hgg2:g≠g2:=by omega
 have hgg6:g≠g6:=by omega
 have hg6w:w.heap.size<=g6:=by have:=HB2.out.size; omega
 have hg2w:w.heap.size<=g2:=by have:=HX.out.size; omega
 have c61:w3.cell? ⟨g6,1,none⟩=some (.slice (some ⟨g2,0,none⟩) n cap):=(HD3.out.cell 1).trans rfl;have HSO:=sH (sort_any g2 cap n l z w3 HROW3.out HZN.out.symm HP.out HZ.out HN7.out);clear hT3 hD3 hb3 hg6 HROW HK2 HB2 hs2 hs3;go_wp2_with fail
 refine HSO.out.mono ?_;rintro _ w4 ⟨rfl,hrow4,hon4⟩;have HB4:=sH (HB3.out.trans (hon4.below (B:=w.heap.size) HB3.out.size fun b hb e=>by omega));have HD4:=sH (hon4.blk HD3.out (fun e=>hg26 e.symm));have HK4:=sH (hon4.blk HK3.out hgg2);have HROW4:=sH hrow4;have hle4:(insL z l).length=n:=by rw [Q4g]; exact HZN.out
 have hre4:=hrow4.reads;rw [hle4] at hre4;have HCK:=sH (Q3j f (some ⟨g2,0,none⟩) n cap (insL z l) w4 hre4 (by rcases HN7.out with e | e | e <;> omega));rw [Q4a HOK.out,if_pos rfl] at HCK;have HLE4:=sH hle4;obtain⟨D,hD⟩:∃ D,D=crC f (some ⟨g2,0,none⟩) n cap:=⟨_,rfl⟩;have hsz:D.size=2:=by rw [hD]; rfl
 have hone:D.all (·.oneCell')=true:=by rw [hD]; exact Q1h _ _ _ _
 rw [<- hD] at HD4 HCK;have HD:=sH hD;have HSZ:=sH hsz;have HONE:=sH hone;clear hrow4 hon4 hre4 hle4 HSO HROW3 HD3 HK3 HB3 hD hsz hone;go_wp2_with (refine Q01 (o:=⟨some 14,_,_,_,_,_⟩) rfl 77 (.tmp 6) rfl g6 0 2 rfl 77 _ D _ HD4.out zW rfl rfl HSZ.out (fun _ _=>by rw [Nat.zero_add]; try rfl) ?_)
 refine HCK.out.mono ?_;rintro _ w5 ⟨rfl,hb5⟩;have hs5:=hb5.size;have hs4:=HB4.out.size;have HB5:=sH (HB4.out.trans (hb5.mono hs4));have HD5:=sH (HD4.out.below' hb5);have HK5:=sH (HK4.out.below' hb5);have HROW5:=sH (HROW4.out.below hb5 HROW4.out.lt);clear hb5 HB4 HD4 HK4 HCK;go_wp2_with (first
  | (refine Q01 (o:=⟨some 18,_,_,_,_,_⟩) rfl 77 (.tmp 6) rfl g6 0 2 rfl 77 _ D _ HD5.out zW rfl rfl HSZ.out (fun _ _=>by rw [Nat.zero_add]; try rfl) ?_)
  | (refine Q00 (o:=⟨none,_,_,_,_,_⟩) rfl 77 (.tmp 4) (.tmp 18) rfl g 0 D rfl rfl 77 _ HK5.out (by rw [HSZ.out]; rfl) (by rw [HSZ.out]; simp [crC]) HONE.out ?_; intro w6 hT6 hD6; rw [Q0c _ _ (by rw [HSZ.out]; rfl)] at hD6))
 refine bodyPost_ret (Q09 rfl _ _ g 2 77 _ _ rfl hD6 zW rfl rfl HSZ.out) rfl ⟨some ⟨g2,0,none⟩,cap,by rw [HD.out]; rfl,?_,?_⟩
 ·have:=(HROW5.out.keep (hT6.block g2 (fun e=>hgg2 e.symm))).own (B:=w.heap.size) hg2w;rw [HLE4.out] at this;exact this
 exact hT6.below HB5.out hgw
end
end Go.Proofs.YtcpngeiahgoacaaGreat
