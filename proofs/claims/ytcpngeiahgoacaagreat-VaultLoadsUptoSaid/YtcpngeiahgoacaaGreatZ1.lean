/- Parts of the proof, in one text: Base, Word, ShaMath, Roots, Primes. -/
import Derived.WalkKit
import Derived.WalkSpells
import Derived.WalkLawsBesides
import Derived.Below
import Derived.Laws.OwnMore
import Derived.Deep.AppendLies
import Derived.Deep.Draws
import Derived.Laws.Rows
import Derived.Maps.AppendAt
import Derived.RegionTactic
import Derived.OwnWalk
import Derived.Deep.QuietTactic
import Derived.BigQuiet
import Derived.Deep.OwnRows
import Derived.Laws.AppendOwn
import Derived.Laws.MakeOwn
import Derived.Laws.Entries
import Derived.Laws.BitsAllLaws
import Derived.Laws.BitsLemmas
import Derived.ChangeSame
import Derived.Lib.Hide
import Derived.StillTailTactics
import Derived.Test.YtcpngeiahgoacaaGreatRows
import Derived.Lib.Mul64
import Derived.Laws.Bits64b
import Derived.Laws.Externs
import Derived.Shelf.Spec.BitsCarry
import Derived.Deep.LoopGhost

/- Words for memory: a slice that reads as a list, a block that is known whole, an append onto an owned row, small lemmas. No program is named. (Turned from the guide's blocks that are laid out for copying.) -/
namespace Go.Proofs.YtcpngeiahgoacaaGreat
set_option linter.unusedVariables false
open Go.RowKit Go.WideShapes Go.ChangeShapes

theorem block_of_add (a : Addr) (n : Nat) : (a.add n).block = a.block := by unfold Addr.add; split <;> rfl
theorem add_of_add (a : Addr) (i j : Nat) : (a.add i).add j = a.add (i + j) := by
  unfold Addr.add
  by_cases hi : i = 0 <;> by_cases hj : j = 0 <;> simp [hi, hj, Nat.add_assoc]

def Reads (w : World) (B size : Nat) (A : Option Addr) (n : Nat) (xs : List Value) : Prop :=
  xs.length = n * size ∧ (0 < n → ∃ ad, A = some ad ∧ ad.block < B ∧ ∀ j u, xs[j]? = some u → w.cell? (ad.add j) = some u)

section
variable {w w' : World} {B B' size n : Nat} {A : Option Addr} {xs : List Value}
theorem Reads.none_ : Reads w B size A 0 [] := ⟨by simp, fun h => absurd h (by omega)⟩
theorem Reads.at_ {k : Nat} (h : Reads w B 1 A n xs) (hk : k < n) : ∃ ad u, A = some ad ∧ ad.block < B ∧ xs[k]? = some u ∧ w.cell? (ad.add k) = some u := by
  obtain ⟨ad, e, hb, hc⟩ := h.2 (by omega)
  have hl : k < xs.length := by have := h.1; omega
  exact ⟨ad, xs[k], e, hb, List.getElem?_eq_getElem hl, hc k _ (List.getElem?_eq_getElem hl)⟩
theorem Reads.keep (h : Reads w B size A n xs) (hk : ∀ p : Addr, p.block < B → w'.cell? p = w.cell? p) : Reads w' B size A n xs :=
  ⟨h.1, fun hn => by
    obtain ⟨ad, e, hb, hc⟩ := h.2 hn
    exact ⟨ad, e, hb, fun j u hu => (hk _ (by rw [block_of_add]; exact hb)).trans (hc j u hu)⟩⟩
theorem Reads.more (h : Reads w B size A n xs) (hB : B ≤ B') : Reads w B' size A n xs :=
  ⟨h.1, fun hn => by
    obtain ⟨ad, e, hb, hc⟩ := h.2 hn
    exact ⟨ad, e, by omega, hc⟩⟩
theorem Reads.below (h : Reads w B size A n xs) (hb : Below B w w') : Reads w' B size A n xs := h.keep fun _ hp => hb.cell hp
theorem Reads.drew (h : Reads w B size A n xs) : Reads w.drew B size A n xs := h
theorem Reads.drewN (h : Reads w B size A n xs) (k : Nat) : Reads (w.drewN k) B size A n xs := h
theorem Reads.alloc (h : Reads w B size A n xs) (hB : B ≤ w.heap.size) (o : Obj) : Reads (w.alloc o) B size A n xs := h.keep fun p hp => World.cell?_alloc_lt w o p (by omega)
theorem Reads.setCell (h : Reads w B size A n xs) {p : Addr} (hB : B ≤ p.block) (u : Value) : Reads (w.setCell p u) B size A n xs :=
  h.keep fun q hq => World.cell?_setCell_other w p q u (fun e => by subst e; omega)
theorem Reads.grown (h : Reads w B size A n xs) {row : Option Nat} (hg : w.grownBy w' row) (hB : B ≤ w.heap.size) (hr : ∀ g, row = some g → B ≤ g) : Reads w' B size A n xs :=
  h.keep fun p hp => World.cell?_of_block (hg.block p.block (by omega) (fun e => by have := hr _ e.symm; omega))
theorem Reads.cut (h : Reads w B size A n xs) {k cap : Nat} (hk : k ≤ n) (hc : n ≤ cap) :
    Reads w B size (if cap = k then A else A.map (·.add (k * size))) (n - k) (xs.drop (k * size)) := by
  refine ⟨by rw [List.length_drop, h.1, Nat.sub_mul], fun hn => ?_⟩
  obtain ⟨ad, rfl, hb, hcell⟩ := h.2 (by omega)
  rw [if_neg (by omega)]
  refine ⟨ad.add (k * size), rfl, by rw [block_of_add]; exact hb, fun j u hu => ?_⟩
  rw [add_of_add]
  exact hcell _ u (by rw [← hu, List.getElem?_drop])
theorem Reads.of_own {base : Nat} {e : TypeId} {c : Nat} (h : w.ownsRow base e size (.slice A n c) n xs) : Reads w w.heap.size size A n xs := by
  refine ⟨h.1, fun hn => ?_⟩
  obtain ⟨g, cap, hv, _, hlt⟩ := h.form hn
  have hA : A = some ⟨g, 0, none⟩ := by injection hv
  subst hA
  exact ⟨_, rfl, hlt, h.cells (g := g) rfl⟩
end

def Blk (w : World) (g : Nat) (t : TypeId) (cs : Array Value) : Prop := w.heap[g]? = some (.cells cs t (0, 0))

section
variable {w w' : World} {g : Nat} {t : TypeId} {cs : Array Value}
theorem Blk.lt (h : Blk w g t cs) : g < w.heap.size := by
  rcases Nat.lt_or_ge g w.heap.size with hlt | hge
  · exact hlt
  · unfold Blk at h; rw [Array.getElem?_eq_none hge] at h; cases h
theorem Blk.cell (h : Blk w g t cs) (i : Nat) : w.cell? ⟨g, i, none⟩ = cs[i]? := cell_of_row w g i cs t (0, 0) h
theorem Blk.frozen (h : Blk w g t cs) (i : Nat) : w.frozen? ⟨g, i, none⟩ = false := by
  unfold Blk at h
  simp [World.frozen?, h]
theorem Blk.new (w : World) (t : TypeId) (cs : Array Value) : Blk (w.alloc (.cells cs t)) w.heap.size t cs := heap_alloc_new w _
theorem Blk.newAt {w : World} {t : TypeId} {cs : Array Value} {g : Nat} (hg : g = w.heap.size) : Blk (w.alloc (.cells cs t)) g t cs := by subst hg; exact heap_alloc_new w _
theorem Blk.drew (h : Blk w g t cs) : Blk w.drew g t cs := h
theorem Blk.drewN (h : Blk w g t cs) (n : Nat) : Blk (w.drewN n) g t cs := h
theorem Blk.alloc (h : Blk w g t cs) (o : Obj) : Blk (w.alloc o) g t cs := (Below.heap_alloc w o g h.lt).trans h
theorem Blk.set_ (h : Blk w g t cs) (i : Nat) (u : Value) : Blk (w.setCell ⟨g, i, none⟩ u) g t (cs.setIfInBounds i u) := by
  unfold Blk at h ⊢
  simp [World.setCell, Array.getElem?_modify, h]
theorem Blk.far (h : Blk w g t cs) {p : Addr} (hp : g ≠ p.block) (u : Value) : Blk (w.setCell p u) g t cs := (Below.heap_setCell w p u g hp).trans h
theorem Blk.below {B : Nat} (h : Blk w g t cs) (hb : Below B w w') (hg : g < B) : Blk w' g t cs := (hb.block g hg).trans h
theorem Blk.grown {row : Option Nat} (h : Blk w g t cs) (hb : w.grownBy w' row) (hg : some g ≠ row) : Blk w' g t cs := (hb.block g h.lt hg).trans h
theorem Blk.ne_ {g' : Nat} {t' : TypeId} {cs' : Array Value} (h : Blk w g t cs) (h' : Blk w g' t' cs') (hne : t ≠ t') : g ≠ g' := by
  rintro rfl
  unfold Blk at h h'
  rw [h] at h'
  injection h' with h'
  injection h' with _ ht
  exact hne ht
theorem own_blk_ne {base : Nat} {e : TypeId} {size n : Nat} {v : Value} {xs : List Value} (h : w.ownsRow base e size v n xs) (hg : Blk w g t cs) (hne : e ≠ t) : v.ownBlock ≠ some g := by
  rcases h.2 with ⟨rfl, _⟩ | ⟨g', cap, cur, rfl, _, hh, _⟩
  · simp [Value.ownBlock]
  · intro he
    have : g' = g := by simpa [Value.ownBlock] using he
    subst this
    exact Blk.ne_ (t := e) hh hg hne rfl
end

section
variable {P : Program} (w : World)

theorem run_append_of_nil (base : Nat) (t ty e : TypeId) (i : TypeInfo) (size : Nat) (ht : P.underlying t = some (.slice e)) (hi : P.info? e = some i)
    (v : Value) (n : Nat) (xs : List Value) (hown : w.ownsRow base e size v n xs) (c : Nat) : (Builtin.append_ #[t, t] ty #[v, .slice none 0 c]).run P w = .ok v w := by
  rcases hown.2 with ⟨rfl, rfl⟩ | ⟨g, cap, cur, rfl, _, _, hnc, _⟩
  · simp [Builtin.append_, run_underlying ht, sizeOf, typeInfo, hi, Builtin.lenOf, Builtin.firstCells]
  · simp [Builtin.append_, run_underlying ht, sizeOf, typeInfo, hi, Builtin.lenOf, Builtin.firstCells, hnc, storeCells]

theorem run_append_any (base : Nat) (t ty e : TypeId) (i : TypeInfo) (z : Value) (size bytes : Nat) (ht : P.underlying t = some (.slice e)) (hi : P.info? e = some i) (hz : i.zero = some z)
    (hsize : i.size = size) (hby : i.bytes = bytes) (hzs : z.cells.size = size) (hsz : 0 < size)
    (v : Value) (n : Nat) (xs : List Value) (hown : w.ownsRow base e size v n xs)
    (B : Nat) (A : Option Addr) (m c : Nat) (news : List Value) (hr : Reads w B size A m news) (h1 : ∀ u ∈ news, u.oneCell' = true)
    (h63 : n + m ≤ maxLen) (hbytes : (n + m) * bytes ≤ 140737488355328) (hbase : base ≤ w.heap.size) :
    ∃ v' w', (Builtin.append_ #[t, t] ty #[v, .slice A m c]).run P w = .ok v' w' ∧ w'.ownsRow base e size v' (n + m) (xs ++ news) ∧ w.grownBy w' v.ownBlock ∧
      (v'.ownBlock = v.ownBlock ∨ v'.ownBlock = some w.heap.size) := by
  rcases A with _ | ad
  · have hm : m = 0 := by
      rcases Nat.eq_zero_or_pos m with h0 | h0
      · exact h0
      · obtain ⟨ad, h, _⟩ := hr.2 h0
        cases h
    subst hm
    have hn : news = [] := List.eq_nil_of_length_eq_zero (by simpa using hr.1)
    subst hn
    exact ⟨v, w, run_append_of_nil w base t ty e i size ht hi v n xs hown c, by simpa using hown, World.grownBy.refl w _, .inl rfl⟩
  · have hcells : ∀ j u, news[j]? = some u → w.cell? (ad.add j) = some u := by
      intro j u hu
      rcases Nat.eq_zero_or_pos m with h0 | h0
      · subst h0
        have hn : news = [] := List.eq_nil_of_length_eq_zero (by simpa using hr.1)
        subst hn
        simp at hu
      · obtain ⟨ad', h, _, hc⟩ := hr.2 h0
        injection h with h
        subst h
        exact hc j u hu
    obtain ⟨v', w', hrun, h2, h3, _, h5⟩ := run_append_own_at (P := P) w base t ty e i z size bytes ht hi hz hsize hby hzs hsz v n xs hown ad m c news hr.1 hcells h1 h63 hbytes hbase
    exact ⟨v', w', hrun, h2, h3, h5⟩

theorem wp_append_any {o : Oper} {a : Act} {K : Act → World → Prop} {Q : Exit → Act → World → Prop} (s x : Operand) (t : TypeId)
    (ho : o.op = .call { callee := .builtin .append, args := #[s, x], argTypes := #[t, t] })
    (base : Nat) (e : TypeId) (i : TypeInfo) (z : Value) (size bytes : Nat) (ht : P.underlying t = some (.slice e)) (hi : P.info? e = some i) (hz : i.zero = some z)
    (hsize : i.size = size) (hby : i.bytes = bytes) (hzs : z.cells.size = size) (hsz : 0 < size)
    (v : Value) (n : Nat) (xs : List Value) (hs : a.eval s = v) (hown : w.ownsRow base e size v n xs)
    (B : Nat) (A : Option Addr) (m c : Nat) (news : List Value) (hx : a.eval x = .slice A m c) (hr : Reads w B size A m news) (h1 : ∀ u ∈ news, u.oneCell' = true)
    (h63 : n + m ≤ maxLen) (hbytes : (n + m) * bytes ≤ 140737488355328) (hbase : base ≤ w.heap.size)
    (h : ∀ v' w', w'.ownsRow base e size v' (n + m) (xs ++ news) → w.grownBy w' v.ownBlock → (v'.ownBlock = v.ownBlock ∨ v'.ownBlock = some w.heap.size) → K (a.put o.dst v') w') : o.wp P a w K Q := by
  obtain ⟨v', w', hrun, h2, h3, h4⟩ := run_append_any (P := P) w base t o.type e i z size bytes ht hi hz hsize hby hzs hsz v n xs hown B A m c news hr h1 h63 hbytes hbase
  unfold Oper.wp execOp
  simp only [ho, resolve, invoke, builtin, Sem.run_bind, Sem.run_pure, Result.andThen_ok, List.map_toArray, List.map_cons, List.map_nil, hs, hx, hrun]
  exact h v' w' h2 h3 h4

theorem wpList_append_any {ops : Array Oper} {rest : List Oper} {o : Oper} {a : Act} {Q : Exit → Act → World → Prop} (hgd : o.guard = none) (s x : Operand) (t : TypeId)
    (ho : o.op = .call { callee := .builtin .append, args := #[s, x], argTypes := #[t, t] })
    (base : Nat) (e : TypeId) (i : TypeInfo) (z : Value) (size bytes : Nat) (ht : P.underlying t = some (.slice e)) (hi : P.info? e = some i) (hz : i.zero = some z)
    (hsize : i.size = size) (hby : i.bytes = bytes) (hzs : z.cells.size = size) (hsz : 0 < size)
    (v : Value) (n : Nat) (xs : List Value) (hs : a.eval s = v) (hown : w.ownsRow base e size v n xs)
    (B : Nat) (A : Option Addr) (m c : Nat) (news : List Value) (hx : a.eval x = .slice A m c) (hr : Reads w B size A m news) (h1 : ∀ u ∈ news, u.oneCell' = true)
    (h63 : n + m ≤ maxLen) (hbytes : (n + m) * bytes ≤ 140737488355328) (hbase : base ≤ w.heap.size)
    (h : ∀ v' w', w'.ownsRow base e size v' (n + m) (xs ++ news) → w.grownBy w' v.ownBlock → (v'.ownBlock = v.ownBlock ∨ v'.ownBlock = some w.heap.size) → wpList P ops Q rest (a.put o.dst v') w') : wpList P ops Q (o :: rest) a w :=
  wpList_plain hgd fun _ hK => wp_append_any w s x t ho base e i z size bytes ht hi hz hsize hby hzs hsz v n xs hs hown B A m c news hx hr h1 h63 hbytes hbase fun v' w' h2 h3 h4 => hK _ _ (h v' w' h2 h3 h4)

theorem step_append_any {ops : Array Oper} {o : Oper} {a : Act} {K : Act → World → Prop} {Q : Exit → Act → World → Prop} {E : Prop} (hgd : o.guard = none) (s x : Operand) (t : TypeId)
    (ho : o.op = .call { callee := .builtin .append, args := #[s, x], argTypes := #[t, t] })
    (base : Nat) (e : TypeId) (i : TypeInfo) (z : Value) (size bytes : Nat) (ht : P.underlying t = some (.slice e)) (hi : P.info? e = some i) (hz : i.zero = some z)
    (hsize : i.size = size) (hby : i.bytes = bytes) (hzs : z.cells.size = size) (hsz : 0 < size)
    (v : Value) (n : Nat) (xs : List Value) (hs : a.eval s = v) (hown : w.ownsRow base e size v n xs)
    (B : Nat) (A : Option Addr) (m c : Nat) (news : List Value) (hx : a.eval x = .slice A m c) (hr : Reads w B size A m news) (h1 : ∀ u ∈ news, u.oneCell' = true)
    (h63 : n + m ≤ maxLen) (hbytes : (n + m) * bytes ≤ 140737488355328) (hbase : base ≤ w.heap.size)
    (h : ∀ v' w', w'.ownsRow base e size v' (n + m) (xs ++ news) → w.grownBy w' v.ownBlock → (v'.ownBlock = v.ownBlock ∨ v'.ownBlock = some w.heap.size) → K (a.put o.dst v') w') :
    if Region.wanted o (yielded ops a.tmps) = true then Oper.wp P o a w K Q else E := by
  have hw : Region.wanted o (yielded ops a.tmps) = true := by simp [Region.wanted, hgd]
  rw [if_pos hw]
  exact wp_append_any w s x t ho base e i z size bytes ht hi hz hsize hby hzs hsz v n xs hs hown B A m c news hx hr h1 h63 hbytes hbase h
end

theorem quiet_add {P : Program} {f : FuncId} {args : Array Value} {w : World} {a n : Nat} {v : Value}
    (h : Calls P f args (w.drewN (a + n)) fun e w' => e = .returned v ∧ ∃ m, w' = (w.drewN (a + n)).drewN m) :
    Calls P f args (w.drewN (a + n)) fun e w'' => e = .returned v ∧ ∃ m, w'' = w.drewN (a + m) :=
  h.mono fun _ _ ⟨he, m, hm⟩ => ⟨he, n + m, by rw [hm, World.drewN_drewN, Nat.add_assoc]⟩
theorem below_drewN {B : Nat} {a w : World} (h : Below B a w) (n : Nat) : Below B a (w.drewN n) := ⟨h.os, h.tape, h.output, h.size, h.block⟩
theorem only_drewN {a w : World} {row : Option Nat} (h : a.grownBy w row) (n : Nat) : a.grownBy (w.drewN n) row := ⟨h.os, h.tape, h.output, h.size, h.block⟩
theorem only_drew {a w : World} {row : Option Nat} (h : a.grownBy w row) : a.grownBy w.drew row := ⟨h.os, h.tape, h.output, h.size, h.block⟩
theorem only_alloc {a w : World} {row : Option Nat} (h : a.grownBy w row) (o : Obj) : a.grownBy (w.alloc o) row :=
  ⟨h.os, h.tape, h.output, Nat.le_trans h.size (by simp), fun i hi hne => (Below.heap_alloc w o i (Nat.lt_of_lt_of_le hi h.size)).trans (h.block i hi hne)⟩
theorem only_of_below {a w : World} (h : Below a.heap.size a w) (row : Option Nat) : a.grownBy w row := ⟨h.os, h.tape, h.output, h.size, fun i hi _ => h.block i hi⟩

theorem run_make_rowN {P : Program} (t e : TypeId) (i : TypeInfo) (z : Value) (ht : P.underlying t = some (.slice e)) (hi : P.info? e = some i) (hz : i.zero = some z)
    (kl kc : IntKind) (n c : Nat) (hnc : n ≤ c) (hbytes : i.bytes * c ≤ 281474976710656) (h63 : c ≤ 9223372036854775807) (w : World) :
    (Instr.makeSlice t (.int kl (n : Int)) (.int kc (c : Int))).run P w = .ok (.slice (some ⟨w.heap.size, 0, none⟩) n c) (w.alloc (.cells (madeCells z.cells (c * i.size)) e)) := by
  have hb : (i.bytes : Int) * (c : Int) ≤ 281474976710656 := by
    have h : ((i.bytes * c : Nat) : Int) ≤ 281474976710656 := by omega
    rwa [Int.natCast_mul] at h
  have hr := run_make (P := P) w t e i z ht hi hz kl kc n c (by omega) (by omega) hb (by omega)
  simp only [Int.toNat_natCast] at hr
  exact hr
section
variable {H : Type} {enc : TypeId × Value → H} {P : Program}
end

/-- 'arr[l:h]' of an array behind a pointer, one cell an element, not at its end -/
theorem run_sliceArr {P : Program} {t e : TypeId} {n : Nat} (ht : P.underlying t = some (.array n e)) (hs : (P.info? e).map (·.size) = some 1) (a : Addr) (l h : Nat) (li hi : Int) (el : li = l) (eh : hi = h) (hlh : l ≤ h) (hn : h ≤ n) (hl : l < n) (W : World) :
    (Instr.sliceAt t (.pointer (some a)) (some (.int .i64 li)) (some (.int .i64 hi)) none).run P W = .ok (.slice (some (a.add l)) (h - l) (n - l)) W := by
  subst el eh
  obtain ⟨i, hi, hsz⟩ : ∃ i, P.info? e = some i ∧ i.size = 1 := by
    cases hh : P.info? e with
    | none => rw [hh] at hs; cases hs
    | some i => rw [hh] at hs; exact ⟨i, rfl, by simpa using hs⟩
  have he : P.elem t = e := by simp [Program.elem, ht]
  have hln : P.arrayLen t = n := by simp [Program.arrayLen, ht]
  rw [run_sliceAt_array_lh W t a (by rw [he, hln]; exact ht) .i64 .i64 (l : Int) (h : Int) (by omega) (by omega) (by rw [hln]; omega)]
  simp [he, hln, sizeOf, typeInfo, hi, hsz, slicedAt, show ¬ n = l by omega]

end Go.Proofs.YtcpngeiahgoacaaGreat

/- Words of 32 bits and bytes as values; the model's integer operations on them, folded back into words. No program is named. -/
namespace Go.Proofs.YtcpngeiahgoacaaGreat
set_option linter.unusedVariables false
open Go.RowKit

abbrev W32 := BitVec 32
/-- a word as an integer: kept closed, so that the walk does not open it -/
def wi (x : W32) : Int := (x.toNat : Int)
/-- a byte as an integer -/
def bi (b : UInt8) : Int := (b.toNat : Int)
/-- as values -/
def vw (x : W32) : Value := .int .u32 (wi x)
def vb (b : UInt8) : Value := .int .u8 (bi b)
/-- a byte as a word, a word's lowest byte -/
def b32 (b : UInt8) : W32 := BitVec.ofNat 32 b.toNat
def w8 (x : W32) : UInt8 := UInt8.ofNat x.toNat

theorem wi_lo (x : W32) : 0 ≤ wi x := by unfold wi; omega
theorem wi_hi (x : W32) : wi x < 4294967296 := by unfold wi; have := x.isLt; omega
theorem bi_lo (b : UInt8) : 0 ≤ bi b := by unfold bi; omega
theorem bi_hi (b : UInt8) : bi b < 256 := by unfold bi; have := b.toNat_lt; omega
theorem bi_inj {x y : UInt8} (h : bi x = bi y) : x = y := by unfold bi at h; exact UInt8.toNat_inj.1 (by omega)
theorem vb_inj {x y : UInt8} (h : vb x = vb y) : x = y := by unfold vb at h; injection h with _ h; exact bi_inj h
theorem ofInt_wi (x : W32) : BitVec.ofInt 32 (wi x) = x := by
  apply BitVec.eq_of_toNat_eq
  unfold wi
  rw [BitVec.ofInt_natCast, BitVec.toNat_ofNat, Nat.mod_eq_of_lt x.isLt]
theorem wrap_wi (x : W32) : IntKind.u32.wrap (wi x) = wi x := by
  rw [IntKind.wrap_u32']; have := wi_lo x; have := wi_hi x; omega
theorem w_add (x y : W32) : IntKind.u32.wrap (wi x + wi y) = wi (x + y) := by
  unfold wi
  rw [IntKind.wrap_u32', BitVec.toNat_add]; have := x.isLt; have := y.isLt; omega
theorem w_sub (x y : W32) : IntKind.u32.wrap (wi x - wi y) = wi (x - y) := by
  unfold wi
  rw [IntKind.wrap_u32', BitVec.toNat_sub]; have := x.isLt; have := y.isLt; omega
theorem w_and (x y : W32) : bits .and .u32 (wi x) (wi y) = wi (x &&& y) := by
  show IntKind.u32.wrap ((BitVec.ofInt 32 (wi x) &&& BitVec.ofInt 32 (wi y)).toNat : Int) = _
  rw [ofInt_wi, ofInt_wi]; exact wrap_wi _
theorem w_or (x y : W32) : bits .or .u32 (wi x) (wi y) = wi (x ||| y) := by
  show IntKind.u32.wrap ((BitVec.ofInt 32 (wi x) ||| BitVec.ofInt 32 (wi y)).toNat : Int) = _
  rw [ofInt_wi, ofInt_wi]; exact wrap_wi _
theorem w_xor (x y : W32) : bits .xor .u32 (wi x) (wi y) = wi (x ^^^ y) := by
  show IntKind.u32.wrap ((BitVec.ofInt 32 (wi x) ^^^ BitVec.ofInt 32 (wi y)).toNat : Int) = _
  rw [ofInt_wi, ofInt_wi]; exact wrap_wi _
theorem w_not (x : W32) : bits .xor .u32 (4294967295 : Int) (wi x) = wi (~~~x) := by
  have h : (4294967295 : Int) = wi (BitVec.allOnes 32) := by decide
  rw [h, w_xor, BitVec.allOnes_xor]
theorem w_shr (x : W32) (n : Nat) : wi x / 2 ^ n = wi (x >>> n) := by
  unfold wi
  rw [BitVec.toNat_ushiftRight, Nat.shiftRight_eq_div_pow]
  norm_cast
theorem w_shl (x : W32) (n : Nat) : IntKind.u32.wrap (wi x * 2 ^ n) = wi (x <<< n) := by
  unfold wi
  rw [IntKind.wrap_u32', BitVec.toNat_shiftLeft, Nat.shiftLeft_eq, Int.natCast_emod, Int.natCast_mul, Int.natCast_pow]
  rfl
theorem w_add' (x y : W32) : (wi x + wi y) % 4294967296 = wi (x + y) := by rw [← IntKind.wrap_u32', w_add]
theorem w_sub' (x y : W32) : (wi x - wi y) % 4294967296 = wi (x - y) := by rw [← IntKind.wrap_u32', w_sub]
theorem w_shl' (x : W32) (n : Nat) : (wi x * 2 ^ n) % 4294967296 = wi (x <<< n) := by rw [← IntKind.wrap_u32', w_shl]
-- shifts by literals, as the walk leaves them
theorem w_shl8 (x : W32) : (wi x * (256 : Int)) % 4294967296 = wi (x <<< 8) := w_shl' x 8
theorem w_shl8' (x : W32) : IntKind.u32.wrap (wi x * (256 : Int)) = wi (x <<< 8) := w_shl x 8
theorem w_shr3 (x : W32) : wi x / (8 : Int) = wi (x >>> 3) := w_shr x 3
theorem w_shr10 (x : W32) : wi x / (1024 : Int) = wi (x >>> 10) := w_shr x 10
theorem b32_wrap (b : UInt8) : IntKind.u32.wrap (bi b) = wi (b32 b) := by
  rw [IntKind.wrap_u32']; unfold wi b32 bi; rw [BitVec.toNat_ofNat]; have := b.toNat_lt; omega
theorem b32_wrap' (b : UInt8) : bi b % 4294967296 = wi (b32 b) := by rw [← IntKind.wrap_u32', b32_wrap]
theorem w8_wrap (x : W32) : IntKind.u8.wrap (wi x) = bi (w8 x) := by
  rw [IntKind.wrap_u8']; unfold wi w8 bi; rw [UInt8.toNat_ofNat']; omega
theorem w8_wrap' (x : W32) : wi x % 256 = bi (w8 x) := by rw [← IntKind.wrap_u8', w8_wrap]
theorem rot_and (n : Nat) (h : 0 < n) (h' : n < 32) : bits .and .u64 (IntKind.u64.wrap (-(n : Int))) 31 = ((32 - n : Nat) : Int) := by
  have e1 : IntKind.u64.wrap (-(n : Int)) = ((18446744073709551616 - n : Nat) : Int) := by
    rw [IntKind.wrap_u64]; omega
  rw [e1, show (31 : Int) = ((31 : Nat) : Int) from rfl, u64_and_nat _ _ (by omega) (by omega)]
  congr 1
  rw [show (31 : Nat) = 2 ^ 5 - 1 from rfl, Nat.and_two_pow_sub_one_eq_mod]
  omega
theorem ror_or' (x : W32) (n : Nat) (h' : n < 32) : (x >>> n) ||| (x <<< (32 - n)) = x.rotateRight n := by
  rw [BitVec.rotateRight_def, Nat.mod_eq_of_lt h']
theorem sub_sub_ (n : Nat) (h' : n < 32) : 32 - (32 - n) = n := by omega
theorem ror_or (x : W32) (n : Nat) (h' : n < 32) : (x <<< (32 - n)) ||| (x >>> n) = x.rotateRight n := by
  rw [BitVec.rotateRight_def, Nat.mod_eq_of_lt h', BitVec.or_comm]

theorem ret_int {k : IntKind} {a b : Int} (h : a = b) : Ending.returned (.int k a) = .returned (.int k b) := by rw [h]
theorem ret_bool {a b : Bool} (h : a = b) : Ending.returned (.bool a) = .returned (.bool b) := by rw [h]
theorem getElem?_vb {xs : List UInt8} {k : Nat} {u : Value} (h : (xs.map vb)[k]? = some u) : ∃ (hk : k < xs.length), u = .int .u8 (bi xs[k]) := by
  rw [List.getElem?_map] at h
  rcases Nat.lt_or_ge k xs.length with hk | hk
  · refine ⟨hk, ?_⟩
    rw [List.getElem?_eq_getElem hk] at h
    simp only [Option.map_some, Option.some.injEq] at h
    rw [← h]; rfl
  · rw [List.getElem?_eq_none hk] at h
    simp at h

/-- a row of n cells, cell j holding f j -/
def rng (n : Nat) (f : Nat → Value) : Array Value := ((List.range n).map f).toArray
theorem rng_size (n : Nat) (f : Nat → Value) : (rng n f).size = n := by simp [rng]
theorem rng_get (n : Nat) (f : Nat → Value) (j : Nat) (h : j < n) : (rng n f)[j]? = some (f j) := by
  simp [rng, List.getElem?_range h]
theorem rng_ext {n : Nat} {f g : Nat → Value} (h : ∀ j, j < n → f j = g j) : rng n f = rng n g := by
  unfold rng; congr 1; exact List.map_congr_left fun j hj => h j (List.mem_range.1 hj)
theorem rng_of {n : Nat} {f : Nat → Value} {a : Array Value} (hs : a.size = n) (h : ∀ j, j < n → a[j]? = some (f j)) : a = rng n f := by
  apply Array.ext_getElem?
  intro i
  rcases Nat.lt_or_ge i n with hi | hi
  · rw [h i hi, rng_get n f i hi]
  · rw [Array.getElem?_eq_none (by omega), Array.getElem?_eq_none (by rw [rng_size]; omega)]
theorem rng_set (n : Nat) (f : Nat → Value) (t : Nat) (v : Value) : (rng n f).setIfInBounds t v = rng n (fun j => if j = t then v else f j) := by
  refine rng_of (by simp [rng]) fun j hj => ?_
  rw [Array.getElem?_setIfInBounds]
  by_cases e : t = j
  · subst e; rw [if_pos rfl, if_pos (by rw [rng_size]; exact hj), if_pos rfl]
  · rw [if_neg e, rng_get n f j hj, if_neg (fun h => e h.symm)]

/-- the kit's law on a region of reads and still calls ahead of a tail, its world spelled as a draw -/
theorem wp_region_still_drew {P : Program} {id : Nat} {Q : Exit → Act → World → Prop} {a : Act} {w : World} {l : List Oper} (n : Nat) (hm : P.follows .mixedOrders = true) (hB : Region.lexTailB .any l.toArray n = true)
    (h : wpStill P l.toArray w.drew (fun a' => wpList P l.toArray Q (l.drop n) a' w.drew) (l.take n) a) : (Code.region id l.toArray true).wp P Q a w :=
  wp_region_still_tail n hm hB h

theorem u32_signed : IntKind.u32.signed = false := rfl
theorem u32_max : IntKind.u32.max = 4294967295 := rfl
/-- an array value's k-th element, one cell an element -/
theorem run_index_arr {P : Program} {t e : TypeId} {n : Nat} (ht : P.underlying t = some (.array n e)) (hs : (P.info? e).map (·.size) = some 1) (hagg : ∀ w, (isAgg e).run P w = .ok false w) (cs : Array Value) (k : Nat) (v : Value) (hk : k < n) (hv : cs[k]? = some v) (w : World) :
    (Instr.index t (.agg cs) (.int .i64 (k : Int))).run P w = .ok v w := by
  obtain ⟨i, hi, hsz⟩ : ∃ i, P.info? e = some i ∧ i.size = 1 := by
    cases hh : P.info? e with
    | none => rw [hh] at hs; cases hs
    | some i => rw [hh] at hs; exact ⟨i, rfl, by simpa using hs⟩
  simp [Instr.index, run_underlying ht, sizeOf, typeInfo, hi, hsz, part, hagg, hv, asIntOf, hk]

end Go.Proofs.YtcpngeiahgoacaaGreat

/- SHA-256 in plain terms: schedule, round, compression, padding, digest. No program is named. -/
namespace Go.Proofs.YtcpngeiahgoacaaGreat
set_option linter.unusedVariables false

/-- the eight numbers of a state -/
structure St where
  a : W32
  b : W32
  c : W32
  d : W32
  e : W32
  f : W32
  g : W32
  h : W32

def St.list (s : St) : List W32 := [s.a, s.b, s.c, s.d, s.e, s.f, s.g, s.h]
def St.vals (s : St) : Array Value := #[vw s.a, vw s.b, vw s.c, vw s.d, vw s.e, vw s.f, vw s.g, vw s.h]
def St.add (s r : St) : St := ⟨s.a + r.a, s.b + r.b, s.c + r.c, s.d + r.d, s.e + r.e, s.f + r.f, s.g + r.g, s.h + r.h⟩

def kc : List W32 := [
  0x428A2F98#32, 0x71374491#32, 0xB5C0FBCF#32, 0xE9B5DBA5#32, 0x3956C25B#32, 0x59F111F1#32, 0x923F82A4#32, 0xAB1C5ED5#32,
  0xD807AA98#32, 0x12835B01#32, 0x243185BE#32, 0x550C7DC3#32, 0x72BE5D74#32, 0x80DEB1FE#32, 0x9BDC06A7#32, 0xC19BF174#32,
  0xE49B69C1#32, 0xEFBE4786#32, 0x0FC19DC6#32, 0x240CA1CC#32, 0x2DE92C6F#32, 0x4A7484AA#32, 0x5CB0A9DC#32, 0x76F988DA#32,
  0x983E5152#32, 0xA831C66D#32, 0xB00327C8#32, 0xBF597FC7#32, 0xC6E00BF3#32, 0xD5A79147#32, 0x06CA6351#32, 0x14292967#32,
  0x27B70A85#32, 0x2E1B2138#32, 0x4D2C6DFC#32, 0x53380D13#32, 0x650A7354#32, 0x766A0ABB#32, 0x81C2C92E#32, 0x92722C85#32,
  0xA2BFE8A1#32, 0xA81A664B#32, 0xC24B8B70#32, 0xC76C51A3#32, 0xD192E819#32, 0xD6990624#32, 0xF40E3585#32, 0x106AA070#32,
  0x19A4C116#32, 0x1E376C08#32, 0x2748774C#32, 0x34B0BCB5#32, 0x391C0CB3#32, 0x4ED8AA4A#32, 0x5B9CCA4F#32, 0x682E6FF3#32,
  0x748F82EE#32, 0x78A5636F#32, 0x84C87814#32, 0x8CC70208#32, 0x90BEFFFA#32, 0xA4506CEB#32, 0xBEF9A3F7#32, 0xC67178F2#32]

def h0 : St := ⟨0x6A09E667#32, 0xBB67AE85#32, 0x3C6EF372#32, 0xA54FF53A#32, 0x510E527F#32, 0x9B05688C#32, 0x1F83D9AB#32, 0x5BE0CD19#32⟩

def sml0 (x : W32) : W32 := x.rotateRight 7 ^^^ x.rotateRight 18 ^^^ x >>> 3
def sml1 (x : W32) : W32 := x.rotateRight 17 ^^^ x.rotateRight 19 ^^^ x >>> 10
def big0 (x : W32) : W32 := x.rotateRight 2 ^^^ x.rotateRight 13 ^^^ x.rotateRight 22
def big1 (x : W32) : W32 := x.rotateRight 6 ^^^ x.rotateRight 11 ^^^ x.rotateRight 25

/-- a word of four bytes, the highest first -/
def be4 (a b c d : UInt8) : W32 := (((b32 a <<< 8 ||| b32 b) <<< 8) ||| b32 c) <<< 8 ||| b32 d

/-- the next word of a schedule, of those ahead of it -/
def nextW (blk : List UInt8) (l : List W32) (t : Nat) : W32 :=
  if t < 16 then be4 (blk.getD (4 * t) 0) (blk.getD (4 * t + 1) 0) (blk.getD (4 * t + 2) 0) (blk.getD (4 * t + 3) 0)
  else l.getD (t - 16) 0 + sml0 (l.getD (t - 15) 0) + l.getD (t - 7) 0 + sml1 (l.getD (t - 2) 0)

def schedTo (blk : List UInt8) : Nat → List W32
  | 0 => []
  | t + 1 => schedTo blk t ++ [nextW blk (schedTo blk t) t]

theorem schedTo_length (blk : List UInt8) (t : Nat) : (schedTo blk t).length = t := by
  induction t with
  | zero => rfl
  | succ t ih => simp [schedTo, ih]

def ch (e f g : W32) : W32 := (e &&& f) ^^^ (~~~e &&& g)
def maj (a b c : W32) : W32 := (a &&& b) ^^^ (a &&& c) ^^^ (b &&& c)

/-- one of the 64 steps -/
def rstep (s : St) (k w : W32) : St :=
  ⟨(s.h + big1 s.e + ch s.e s.f s.g + k + w) + (big0 s.a + maj s.a s.b s.c), s.a, s.b, s.c, s.d + (s.h + big1 s.e + ch s.e s.f s.g + k + w), s.e, s.f, s.g⟩

def roundsTo (s : St) (ws : List W32) : Nat → St
  | 0 => s
  | t + 1 => rstep (roundsTo s ws t) (kc.getD t 0) (ws.getD t 0)

/-- a block is taken into a state -/
def compress (s : St) (blk : List UInt8) : St := s.add (roundsTo s (schedTo blk 64) 64)

end Go.Proofs.YtcpngeiahgoacaaGreat

/- Contracts of math/bits.Mul64, sha.within, sha.root, sha.primes, sha.roots, sha.start. -/
namespace Go.Proofs.YtcpngeiahgoacaaGreat
set_option linter.unusedVariables false
open Go.RowKit Go.Lib

theorem maskN (a : Nat) (ha : a < 18446744073709551616) : bits .and .u64 (a : Int) 4294967295 = ((a % 4294967296 : Nat) : Int) := by
  have h := bits_and_u64_nat a 4294967295 ha (by omega)
  have e : a &&& 4294967295 = a % 4294967296 := Nat.and_two_pow_sub_one_eq_mod a 32
  rw [e] at h
  exact h
theorem divN (a : Nat) : (a : Int) / 4294967296 = ((a / 4294967296 : Nat) : Int) := by omega
theorem mulN (a b : Nat) : (a : Int) * (b : Int) = ((a * b : Nat) : Int) := (Int.natCast_mul a b).symm
theorem addN (a b : Nat) : (a : Int) + (b : Int) = ((a + b : Nat) : Int) := (Int.natCast_add a b).symm
theorem wrapN (a : Nat) (ha : a < 18446744073709551616) : IntKind.u64.wrap (a : Int) = (a : Int) := by rw [IntKind.wrap_u64]; omega
theorem wrapM (a : Nat) : IntKind.u64.wrap (a : Int) = ((a % 18446744073709551616 : Nat) : Int) := by rw [IntKind.wrap_u64]; omega

set_option maxHeartbeats 1000000 in
theorem mul64_any (x y : Nat) (hx : x < 18446744073709551616) (hy : y < 18446744073709551616) (w : World) :
    Calls Tryz.prog 189 #[.int .u64 x, .int .u64 y] w fun e w' => e = .returned (.tuple #[.int .u64 ((x * y / 18446744073709551616 : Nat) : Int), .int .u64 ((x * y % 18446744073709551616 : Nat) : Int)]) ∧ w = w' := by
  obtain ⟨bd, bt, bw, hhi⟩ := Lib.mul64_hi x y hx hy
  have ba := Lib.half_mul_le (a := x / 4294967296) (b := y / 4294967296) (by omega) (by omega)
  have bb := Lib.half_mul_le (a := x / 4294967296) (b := y % 4294967296) (by omega) (by omega)
  have bc := Lib.half_mul_le (a := x % 4294967296) (b := y / 4294967296) (by omega) (by omega)
  have ba' : x / 4294967296 * (y / 4294967296) < 18446744073709551616 := by omega
  have bb' : x / 4294967296 * (y % 4294967296) < 18446744073709551616 := by omega
  have bc' : x % 4294967296 * (y / 4294967296) < 18446744073709551616 := by omega
  have bh1 : x / 4294967296 * (y / 4294967296) + (x / 4294967296 * (y % 4294967296) + x % 4294967296 * (y % 4294967296) / 4294967296) / 4294967296 < 18446744073709551616 := by omega
  have bh : x / 4294967296 * (y / 4294967296) + (x / 4294967296 * (y % 4294967296) + x % 4294967296 * (y % 4294967296) / 4294967296) / 4294967296 + ((x / 4294967296 * (y % 4294967296) + x % 4294967296 * (y % 4294967296) / 4294967296) % 4294967296 + x % 4294967296 * (y / 4294967296)) / 4294967296 < 18446744073709551616 := by omega
  go_enter Tryz.func189, Tryz.ntmps189
  go_wp2
  simp only [maskN x hx, maskN y hy, divN, mulN, addN, wrapN _ bd, wrapN _ bb', wrapN _ bt, maskN _ bt, wrapN _ bc', wrapN _ bw, wrapN _ ba', wrapN _ bh1, wrapN _ bh, wrapM (x * y)]
  rw [hhi]
  go_ret2
  exact ⟨rfl, rfl⟩

theorem add64_run (x y : Nat) (w : World) :
    (callFunc 254 #[.int .u64 x, .int .u64 y, .int .u64 0]).run Tryz.prog w =
      .ok (.value (.tuple #[.int .u64 (((x + y) % 18446744073709551616 : Nat) : Int), .int .u64 (((x + y) / 18446744073709551616 : Nat) : Int)])) w := by
  rw [run_callFunc_extern Tryz.func254 (by kernel_rfl) (by kernel_rfl) (by kernel_rfl) (e := add64Entry) (by kernel_rfl)]
  have h := run_add64 (P := Tryz.prog) x y 0 (by omega) (by omega) (by omega) (by omega) w
  rw [h]
  simp only [Result.andThen]
  congr 5 <;> omega

theorem mul64_as (x y h l : Nat) (hx : x < 18446744073709551616) (hy : y < 18446744073709551616) (eh : x * y / 18446744073709551616 = h) (el : x * y % 18446744073709551616 = l) (w : World) :
    Calls Tryz.prog 189 #[.int .u64 x, .int .u64 y] w fun e w' => e = .returned (.tuple #[.int .u64 (h : Int), .int .u64 (l : Int)]) ∧ w = w' := by
  subst eh el; exact mul64_any x y hx hy w
theorem add64_as (x y s c : Nat) (es : (x + y) % 18446744073709551616 = s) (ec : (x + y) / 18446744073709551616 = c) (w : World) :
    (callFunc 254 #[.int .u64 x, .int .u64 y, .int .u64 0]).run Tryz.prog w = .ok (.value (.tuple #[.int .u64 (s : Int), .int .u64 (c : Int)])) w := by
  subst es ec; exact add64_run x y w

def less128 (h l p : Nat) : Bool := decide (h < p ∨ (h = p ∧ l = 0))
def within2 (x p : Nat) : Bool := less128 (x * x / 18446744073709551616) (x * x % 18446744073709551616) p
def within3 (x p : Nat) : Bool :=
  decide ((x * x / 18446744073709551616 * x % 18446744073709551616 + x * x % 18446744073709551616 * x / 18446744073709551616) / 18446744073709551616 = 0) &&
    less128 ((x * x / 18446744073709551616 * x % 18446744073709551616 + x * x % 18446744073709551616 * x / 18446744073709551616) % 18446744073709551616)
      (x * x % 18446744073709551616 * x % 18446744073709551616) (p * 4294967296 % 18446744073709551616)

set_option maxHeartbeats 400000 in
theorem within2_any (x p : Nat) (hx : x < 18446744073709551616) (w : World) :
    Calls Tryz.prog 253 #[.int .u64 x, .int .u64 p, .int .i64 2] w fun e w' => e = .returned (.bool (within2 x p)) ∧ w = w' := by
  unfold within2
  obtain ⟨h, eh⟩ : ∃ h, x * x / 18446744073709551616 = h := ⟨_, rfl⟩
  obtain ⟨l, el⟩ : ∃ l, x * x % 18446744073709551616 = l := ⟨_, rfl⟩
  rw [eh, el]
  have hm := mul64_as x x h l hx hx eh el
  clear eh el
  have HM := Lib.hid hm
  clear hm
  go_enter Tryz.func253, Tryz.ntmps253
  go_wp2_with (go_at_call 189; refine (HM.out _).mono ?_; rintro _ _ ⟨rfl, rfl⟩)
  all_goals go_ret
  · exact ⟨ret_bool (by unfold less128; rw [Bool.eq_iff_iff]; simp; omega), rfl⟩
  · exact ⟨ret_bool (by unfold less128; rw [Bool.eq_iff_iff]; simp; omega), rfl⟩
  · exact ⟨ret_bool (by unfold less128; rw [Bool.eq_iff_iff]; simp; omega), rfl⟩

set_option maxHeartbeats 400000 in
theorem within3_any (x p : Nat) (hx : x < 18446744073709551616) (hp : p < 18446744073709551616) (w : World) :
    Calls Tryz.prog 253 #[.int .u64 x, .int .u64 p, .int .i64 3] w fun e w' => e = .returned (.bool (within3 x p)) ∧ w = w' := by
  unfold within3
  obtain ⟨h, eh⟩ : ∃ h, x * x / 18446744073709551616 = h := ⟨_, rfl⟩
  obtain ⟨l, el⟩ : ∃ l, x * x % 18446744073709551616 = l := ⟨_, rfl⟩
  rw [eh, el]
  have hl : l < 18446744073709551616 := by rw [← el]; exact Nat.mod_lt _ (by omega)
  obtain ⟨h2, eh2⟩ : ∃ h2, l * x / 18446744073709551616 = h2 := ⟨_, rfl⟩
  obtain ⟨l2, el2⟩ : ∃ l2, l * x % 18446744073709551616 = l2 := ⟨_, rfl⟩
  obtain ⟨m, em⟩ : ∃ m, h * x % 18446744073709551616 = m := ⟨_, rfl⟩
  obtain ⟨q, eq⟩ : ∃ q, p * 4294967296 % 18446744073709551616 = q := ⟨_, rfl⟩
  rw [eh2, el2, em, eq]
  obtain ⟨s, es⟩ : ∃ s, (m + h2) % 18446744073709551616 = s := ⟨_, rfl⟩
  obtain ⟨c, ec⟩ : ∃ c, (m + h2) / 18446744073709551616 = c := ⟨_, rfl⟩
  rw [es, ec]
  have HM := Lib.hid (mul64_as x x h l hx hx eh el)
  have HM2 := Lib.hid (mul64_as l x h2 l2 hl hx eh2 el2)
  have hadd := add64_as m h2 s c es ec
  have hmm : IntKind.u64.wrap ((h : Int) * (x : Int)) = (m : Int) := by rw [IntKind.wrap_u64, ← em, Int.natCast_emod, Int.natCast_mul]; rfl
  have hqq : IntKind.u64.wrap ((p : Int) * 4294967296) = (q : Int) := by rw [IntKind.wrap_u64, ← eq]; omega
  have hmm' : ((h : Int) * (x : Int)) % 18446744073709551616 = (m : Int) := by rw [← em, Int.natCast_emod, Int.natCast_mul]; rfl
  have hqq' : ((p : Int) * 4294967296) % 18446744073709551616 = (q : Int) := by rw [← eq]; omega
  clear eh el eh2 el2 em eq es ec
  go_enter Tryz.func253, Tryz.ntmps253
  go_wp2_with fail
  refine (HM.out _).mono ?_
  rintro _ _ ⟨rfl, rfl⟩
  go_wp2_with fail
  refine (HM2.out _).mono ?_
  rintro _ _ ⟨rfl, rfl⟩
  go_wp2_with fail
  all_goals go_ret
  all_goals exact ⟨ret_bool (by unfold less128; rw [Bool.eq_iff_iff]; simp; omega), rfl⟩

/-- the root's bits, from the one at 'b' on, 'n' of them -/
def rootGo (f : Nat → Bool) : Nat → Nat → Nat → Nat
  | 0, _, x => x
  | n + 1, b, x => rootGo f n (b / 2) (if f (x ||| b) then x ||| b else x)
def rootF (f : Nat → Bool) : Nat := rootGo f 37 68719476736 0 % 4294967296

theorem or_lt37 {x b : Nat} (hx : x < 137438953472) (hb : b < 137438953472) : x ||| b < 137438953472 := Nat.or_lt_two_pow (n := 37) hx hb

set_option maxHeartbeats 400000 in
theorem root_any (f : Nat → Bool) (p : Nat) (pw : Int) (hf : ∀ (x : Nat) (W : World), x < 137438953472 → Calls Tryz.prog 253 #[.int .u64 (x : Int), .int .u64 (p : Int), .int .i64 pw] W fun e w' => e = .returned (.bool (f x)) ∧ W = w') (w : World) :
    Calls Tryz.prog 244 #[.int .u64 (p : Int), .int .i64 pw] w fun e w' => e = .returned (.int .u32 (rootF f : Nat)) ∧ w = w' := by
  have HF := Lib.hid hf
  clear hf
  go_enter Tryz.func244, Tryz.ntmps244
  go_wp2
  go_loop [5, 6] (fun vx vb => ∃ (n x b : Nat), n ≤ 37 ∧ b = 2 ^ n / 2 ∧ x < 137438953472 ∧ vx = .int .u64 (x : Int) ∧ vb = .int .u64 (b : Int) ∧ rootGo f n b x = rootGo f 37 68719476736 0) (fun _ vb => (intOf vb).toNat)
  case atStart => exact ⟨37, 0, 68719476736, by omega, by decide, by omega, rfl, rfl, rfl⟩
  case round =>
    obtain ⟨n, x, b, hn, hb, hx, rfl, rfl, hr⟩ := hrel
    have hb37 : b < 137438953472 := by
      rw [hb]
      have h1 : 2 ^ n ≤ 2 ^ 37 := Nat.pow_le_pow_right (by omega) hn
      have h2 : 2 ^ n / 2 ≤ 2 ^ 37 / 2 := Nat.div_le_div_right h1
      omega
    by_cases hb0 : b = 0
    · subst hb0
      have HR := Lib.hid (And.intro hb hr)
      clear hb hr
      go_wp2
      go_ret
      obtain ⟨hb, hr⟩ := HR.out
      have hn0 : n = 0 := by
        rcases Nat.eq_zero_or_pos n with h | h
        · exact h
        · obtain ⟨m, rfl⟩ : ∃ m, n = m + 1 := ⟨n - 1, by omega⟩
          rw [Nat.pow_succ, Nat.mul_div_cancel _ (by omega)] at hb
          have := Nat.two_pow_pos m
          omega
      subst hn0
      rw [rootGo] at hr
      exact ⟨ret_int (by unfold rootF; rw [← hr]; first | (rw [IntKind.wrap_u32']; omega) | omega), rfl⟩
    · obtain ⟨m, rfl⟩ : ∃ m, n = m + 1 := by
        rcases Nat.eq_zero_or_pos n with h | h
        · subst h; exact absurd hb hb0
        · exact ⟨n - 1, by omega⟩
      have hbm : b / 2 = 2 ^ m / 2 := by
        rw [hb, Nat.pow_succ, Nat.mul_div_cancel _ (by omega)]
      rw [rootGo] at hr
      have hxb := or_lt37 hx hb37
      have hor : bits .or .u64 (x : Int) (b : Int) = ((x ||| b : Nat) : Int) := u64_or_nat x b (by omega) (by omega)
      have hbp : 0 < b := by omega
      have hlt : b / 2 < b := by omega
      by_cases hfx : f (x ||| b) = true
      · rw [if_pos hfx] at hr
        have HR := Lib.hid (And.intro hb (And.intro hr hbm))
        clear hb hr hbm
        go_wp2_with (go_at_call 253; refine (HF.out _ _ hxb).mono ?_; rintro _ _ ⟨rfl, rfl⟩)
        go_round
        case rel => exact ⟨m, x ||| b, b / 2, by omega, HR.out.2.2, hxb, rfl, by go_num, HR.out.2.1⟩
        case measure => simp [intOf]; omega
      · rw [if_neg hfx] at hr
        have hff : f (x ||| b) = false := by simpa using hfx
        clear hfx
        have HR := Lib.hid (And.intro hb (And.intro hr hbm))
        clear hb hr hbm
        go_wp2_with (go_at_call 253; refine (HF.out _ _ hxb).mono ?_; rintro _ _ ⟨rfl, rfl⟩)
        go_round
        case rel => exact ⟨m, x, b / 2, by omega, HR.out.2.2, hx, rfl, by go_num, HR.out.2.1⟩
        case measure => simp [intOf]; omega

end Go.Proofs.YtcpngeiahgoacaaGreat

/- Contracts of sha.primes, sha.roots, sha.start. -/
namespace Go.Proofs.YtcpngeiahgoacaaGreat
set_option linter.unusedVariables false
open Go.RowKit Go.Lib

theorem mod2_cast (k q : Nat) : (((k + 2) % q : Nat) : Int) = ((k : Int) + 2) % (q : Int) := by rw [Int.natCast_emod]; rfl
def vu64 (n : Nat) : Value := .int .u64 (n : Int)
theorem u64_info : (Tryz.prog.info? 244).map (fun i => (i.zero, i.size, i.bytes)) = some (some (.int .u64 0), 1, 8) := by kernel_rfl

/-- the primes below k + 2 -/
def pstep (out : List Nat) (n : Nat) : List Nat := if out.any (fun p => n % p == 0) then out else out ++ [n]
def pl : Nat → List Nat
  | 0 => []
  | k + 1 => pstep (pl k) (k + 2)
theorem pstep_len (out : List Nat) (n : Nat) : out.length ≤ (pstep out n).length := by unfold pstep; split <;> simp
theorem pl_mono {a b : Nat} (h : a ≤ b) : (pl a).length ≤ (pl b).length := by
  induction b with
  | zero => rw [show a = 0 by omega]; exact Nat.le_refl _
  | succ b ih =>
    rcases Nat.lt_or_ge a (b + 1) with h1 | h1
    · exact Nat.le_trans (ih (by omega)) (pstep_len _ _)
    · rw [show a = b + 1 by omega]; exact Nat.le_refl _
theorem pl_le (k : Nat) : (pl k).length ≤ k := by
  induction k with
  | zero => simp [pl]
  | succ k ih =>
    simp only [pl, pstep]
    split
    · omega
    · rw [List.length_append]; simp; omega
theorem pl_bd (k : Nat) : ∀ p ∈ pl k, 2 ≤ p ∧ p < k + 2 := by
  induction k with
  | zero => intro p hp; simp [pl] at hp
  | succ k ih =>
    intro p hp
    simp only [pl, pstep] at hp
    split at hp
    · have := ih p hp; omega
    · rcases List.mem_append.1 hp with h | h
      · have := ih p h; omega
      · simp at h; omega

theorem own_slice {w : World} {B e size n : Nat} {v : Value} {xs : List Value} (h : w.ownsRow B e size v n xs) : ∃ A c, v = .slice A n c ∧ n ≤ c ∧ c ≤ maxLen := by
  rcases h.2 with ⟨rfl, rfl⟩ | ⟨g, cap, cur, rfl, _, _, h1, h2, _⟩
  · exact ⟨none, 0, rfl, Nat.le_refl _, by unfold maxLen; omega⟩
  · exact ⟨_, cap, rfl, h1, h2⟩

set_option maxHeartbeats 400000 in
theorem primes_any (many K : Nat) (hK : (pl K).length = many) (hlt : ∀ k, k < K → (pl k).length < many) (hsm : K < 1000) (w : World) :
    Calls Tryz.prog 243 #[.int .i64 (many : Int)] w fun e w' => ∃ v, e = .returned v ∧ w'.ownsRow w.heap.size 244 1 v many ((pl K).map vu64) ∧ Below w.heap.size w w' := by
  have hm := pl_le K
  rw [hK] at hm
  have HL := Lib.hid (And.intro hK hlt)
  clear hK hlt
  go_enter Tryz.func243, Tryz.ntmps243
  go_wp2
  go_step3
  go_wp2
  go_step3
  go_wp2
  go_loopg [3, 4] K (fun g v n wr => ∃ k, k + g = K ∧ n = .int .u64 ((k : Int) + 2) ∧ wr.ownsRow w.heap.size 244 1 v (pl k).length ((pl k).map vu64) ∧ Below w.heap.size w wr)
  case atStart => exact ⟨0, by omega, rfl, ⟨by simp [pl], .inl ⟨rfl, by simp [pl]⟩⟩, Below.refl _ _⟩
  case round =>
    obtain ⟨k, hk, rfl, hown, hbel⟩ := hrel
    obtain ⟨A, c, rfl, hc1, hc2⟩ := own_slice hown
    have hl := pl_le k
    unfold maxLen at hc2
    have HK := Lib.hid hk
    have hkK : k ≤ K := by omega
    clear hk
    by_cases hlt : (pl k).length < many
    · have hkg : 0 < gk := by
        have := HK.out
        rcases Nat.eq_zero_or_pos gk with h | h
        · have hkk : k = K := by omega
          rw [hkk, HL.out.1] at hlt; omega
        · exact h
      have hrd := Reads.of_own hown
      have hpb := pl_bd k
      generalize hps : pl k = ps at *
      have HPS := Lib.hid hps
      clear hps
      have HPB := Lib.hid hpb
      clear hpb
      go_wp2
      obtain ⟨wo, rfl⟩ : ∃ wo : World, wo = wr := ⟨_, rfl⟩
      obtain ⟨gO, hgO⟩ : ∃ g, g = gk := ⟨_, rfl⟩
      have HGO := Lib.hid hgO
      clear hgO
      go_loopg [15] ps.length (fun g i wr' => ∃ j, j + g = ps.length ∧ i = .int .i64 (j : Int) ∧ Hid (∀ q, q < j → (k + 2) % ps.getD q 0 ≠ 0) ∧ wo = wr')
      case atStart => exact ⟨0, by omega, rfl, by intro q hq; omega, rfl⟩
      case round =>
        obtain ⟨j, hj, rfl, HJ, rfl⟩ := hrel
        have HJJ := Lib.hid hj
        have hjl : j ≤ ps.length := by omega
        clear hj
        by_cases hjlt : j < ps.length
        · obtain ⟨ad, u, hAd, _, hx, hcx⟩ := hrd.at_ (k := j) hjlt
          obtain ⟨q, hq, rfl⟩ : ∃ q, ps.getD j 0 = q ∧ u = .int .u64 (q : Int) := by
            rw [List.getElem?_map, List.getElem?_eq_getElem hjlt] at hx
            refine ⟨ps[j], by rw [List.getD_eq_getElem?_getD, List.getElem?_eq_getElem hjlt]; rfl, ?_⟩
            simpa [vu64] using hx.symm
          have hqb : 2 ≤ q ∧ q < k + 2 := by
            refine HPB.out q ?_
            rw [← hq, List.getD_eq_getElem?_getD, List.getElem?_eq_getElem hjlt]
            exact List.getElem_mem hjlt
          have hq2 := hqb.1
          have hqk := hqb.2
          subst hAd
          have HQ := Lib.hid hq
          clear hq hx hqb
          by_cases hdv : (k + 2) % q = 0
          · have hz : ((((k : Int) + 2) % (q : Int)) == 0) = true := by
              rw [beq_iff_eq, ← mod2_cast, hdv]; rfl
            have HDV := Lib.hid hdv
            clear hdv
            go_wp2
            go_roundg (gO - 1)
            case measure => have := HGO.out; omega
            case rel =>
              have hg := HGO.out
              have hk := HK.out
              have hps := HPS.out
              have hany : ps.any (fun p => (k + 2) % p == 0) = true := by
                rw [List.any_eq_true]
                refine ⟨q, ?_, by rw [HDV.out]; rfl⟩
                rw [← HQ.out, List.getD_eq_getElem?_getD, List.getElem?_eq_getElem hjlt]
                exact List.getElem_mem hjlt
              have hpl : pl (k + 1) = ps := by rw [pl, pstep, hps, if_pos hany]
              exact ⟨k + 1, by omega, by go_num, by rw [hpl]; exact hown, hbel⟩
          · have hz : ((((k : Int) + 2) % (q : Int)) == 0) = false := by
              rw [beq_eq_false_iff_ne, ← mod2_cast]; omega
            have HDV := Lib.hid hdv
            clear hdv
            go_wp2
            go_roundg (gk - 1)
            case measure => have := HJJ.out; omega
            case rel =>
              have hj := HJJ.out
              refine ⟨j + 1, by omega, by go_num, ?_, rfl⟩
              intro r hr
              rcases Nat.lt_or_ge r j with h | h
              · exact HJ.out r h
              · rw [show r = j by omega, HQ.out]; exact HDV.out
        · obtain rfl : j = ps.length := by omega
          obtain ⟨i0, hi0, hz0, hz1, hz2⟩ := info_parts u64_info
          go_wp2_with (at_builtin; go_must (refine wpList_append_own _ rfl (.tmp 24) (.tmp 26) _ rfl w.heap.size 244 i0 _ 1 8 Tryz.underlying299 hi0 hz0 hz1 hz2 rfl (by omega) _ _ _ rfl (hown.alloc _) ⟨wo.heap.size, 0, none⟩ 1 1 [.int .u64 ((k : Int) + 2)] rfl rfl ?c1 ?c2 ?c3 ?c4 ?c5 ?_))
          case c1 => exact cell_one_new _ _ _
          case c2 => intro u hu; simp at hu; subst hu; rfl
          case c3 => unfold maxLen; omega
          case c4 => omega
          case c5 => have := hbel.size; simp; omega
          intro v1 w1 hown1 hg1 _
          go_wp2
          go_roundg (gO - 1)
          case measure => have := HGO.out; omega
          case rel =>
            have hg := HGO.out
            have hk := HK.out
            have hps := HPS.out
            have hany : ps.any (fun p => (k + 2) % p == 0) = false := by
              rw [List.any_eq_false]
              intro q hq h
              obtain ⟨r, hr, rfl⟩ := List.getElem_of_mem hq
              have h2 := HJ.out r hr
              rw [List.getD_eq_getElem?_getD, List.getElem?_eq_getElem hr] at h2
              exact h2 (by simpa using h)
            have hpl : pl (k + 1) = ps ++ [k + 2] := by rw [pl, pstep, hps, if_neg (by rw [hany]; simp)]
            refine ⟨k + 1, by omega, by go_num, ?_, (hbel.alloc hbel.size _).grown hg1 (by have := hbel.size; simp; omega) ?_⟩
            · rw [hpl, List.map_append, List.length_append]
              exact hown1
            · intro b hb
              rcases hown.2 with ⟨h1, _⟩ | ⟨g, cap, cur, h1, h2, _⟩
              · injection h1 with h1; subst h1; simp [Value.ownBlock] at hb
              · injection h1 with h1; subst h1; simp [Value.ownBlock] at hb; omega
    · have hkk : k = K := by
        rcases Nat.lt_or_ge k K with h | h
        · exact absurd (HL.out.2 k h) hlt
        · omega
      have HKK := Lib.hid hkk
      clear hkk
      go_wp2
      try rw [Exit.noGoto_ret]
      go_ret
      obtain rfl := HKK.out
      exact ⟨_, rfl, by rw [← HL.out.1]; exact hown, hbel⟩

end Go.Proofs.YtcpngeiahgoacaaGreat
