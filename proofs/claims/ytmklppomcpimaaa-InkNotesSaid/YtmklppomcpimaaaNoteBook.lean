/-
  The document's book (bastideref03): a list of copies, and how often it was asked.
-/
import Derived.Test.YtmklppomcpimaaaCopy
import Derived.Test.YtmklppomcpimaaaRefE
import Derived.Test.YtmklppomcpimaaaEqDig
import Derived.Test.YtmklppomcpimaaaEq
import Derived.Test.YtmklppomcpimaaaNoted
import Derived.Test.YtmklppomcpimaaaInkAll
namespace Go.Proofs.Ytmklppomcpimaaa
set_option linter.unusedVariables false
open Go.RowKit Go.Maps

def Held (lv : Value) (vs : List Value) (b : Nat) : Prop := lv.ownBlock = some b ∨ ∃ v, v ∈ vs ∧ v.ownBlock = some b
def noteCells (lv : Value) (many : Nat) : Array Value := #[lv, .int .i64 (many : Int)]
structure NoteAt (w : World) (r B : Nat) (lv : Value) (vs : List Value) (l : List (List UInt8)) (many : Nat) : Prop where
  lt : r < B
  cells : Blk w r 53 (noteCells lv many)
  row : w.ownsRow B 32 1 lv l.length vs
  each : ∀ (j : Nat) (x : List UInt8), l[j]? = some x → ∃ v, vs[j]? = some v ∧ OwnB w B v x ∧ (∀ b, v.ownBlock = some b → lv.ownBlock ≠ some b)

theorem NoteAt.len {w : World} {r B many : Nat} {lv : Value} {vs : List Value} {l : List (List UInt8)} (h : NoteAt w r B lv vs l many) : vs.length = l.length := by have := h.row.1; omega
theorem NoteAt.row_lt {w : World} {r B many : Nat} {lv : Value} {vs : List Value} {l : List (List UInt8)} (h : NoteAt w r B lv vs l many) {b : Nat} (hb : lv.ownBlock = some b) : B ≤ b ∧ b < w.heap.size := by
  rcases h.row.2 with ⟨rfl, _⟩ | ⟨g, cap, cur, rfl, hg, hh, _⟩
  · simp [Value.ownBlock] at hb
  · simp [Value.ownBlock] at hb; subst hb
    refine ⟨hg, ?_⟩
    rcases Nat.lt_or_ge g w.heap.size with h | h
    · exact h
    · rw [Array.getElem?_eq_none h] at hh; cases hh
theorem NoteAt.held {w : World} {r B many : Nat} {lv : Value} {vs : List Value} {l : List (List UInt8)} (h : NoteAt w r B lv vs l many) {b : Nat} (hb : Held lv vs b) : B ≤ b ∧ b < w.heap.size := by
  rcases hb with hb | ⟨v, hv, hb⟩
  · exact h.row_lt hb
  · obtain ⟨j, hj, hj2⟩ := List.getElem_of_mem hv
    have hl := h.len
    obtain ⟨v', hv', ho, _⟩ := h.each j l[j] (List.getElem?_eq_getElem (by omega))
    rw [List.getElem?_eq_getElem hj, hj2] at hv'
    injection hv' with hv'
    subst hv'
    exact ⟨ho.ge hb, ho.lt hb⟩
theorem row_keep {w w' : World} {B : Nat} {e : TypeId} {s n : Nat} {lv : Value} {vs : List Value} (h : w.ownsRow B e s lv n vs) (hk : ∀ b, lv.ownBlock = some b → w'.heap[b]? = w.heap[b]?) : w'.ownsRow B e s lv n vs := by
  refine ⟨h.1, ?_⟩
  rcases h.2 with h0 | ⟨g, cap, cur, rfl, hg, hh, h1⟩
  · exact .inl h0
  · exact .inr ⟨g, cap, cur, rfl, hg, (hk g rfl).trans hh, h1⟩
theorem NoteAt.keep {w w' : World} {r B many : Nat} {lv : Value} {vs : List Value} {l : List (List UInt8)} (h : NoteAt w r B lv vs l many) (hr : w'.heap[r]? = w.heap[r]?) (hk : ∀ b, Held lv vs b → w'.heap[b]? = w.heap[b]?) : NoteAt w' r B lv vs l many :=
  ⟨h.lt, hr.trans h.cells, row_keep h.row fun b hb => hk b (.inl hb), fun j x hx => by
    obtain ⟨v, h1, h2, h3⟩ := h.each j x hx
    exact ⟨v, h1, h2.keep fun b hb => hk b (.inr ⟨v, List.mem_of_getElem? h1, hb⟩), h3⟩⟩
theorem NoteAt.below {w w' : World} {r B many : Nat} {lv : Value} {vs : List Value} {l : List (List UInt8)} (h : NoteAt w r B lv vs l many) (hb : Below w.heap.size w w') : NoteAt w' r B lv vs l many :=
  h.keep (hb.block r h.cells.lt) fun b hh => hb.block b (h.held hh).2
theorem NoteAt.only {w w' : World} {r B many : Nat} {lv : Value} {vs : List Value} {l : List (List UInt8)} {k : Book} (h : NoteAt w r B lv vs l many) (ho : OnlyBook k w w') (hr : ¬ k.has r) (hk : ∀ b, Held lv vs b → ¬ k.has b) : NoteAt w' r B lv vs l many :=
  h.keep (ho.block r h.cells.lt hr) fun b hh => ho.block b (h.held hh).2 (hk b hh)
/-- the input j, as the walk finds it -/
theorem NoteAt.at_ {w : World} {r B many : Nat} {lv : Value} {vs : List Value} {l : List (List UInt8)} (h : NoteAt w r B lv vs l many) {j : Nat} {x : List UInt8} (hj : l[j]? = some x) :
    ∃ ad cap A m c, lv = .slice (some ad) l.length cap ∧ w.cell? (ad.add j) = some (.slice A m c) ∧ m ≤ c ∧ c ≤ maxLen ∧ Reads w w.heap.size 1 A m (x.map vb) ∧ ad.block < w.heap.size := by
  have hlt : j < l.length := by
    rcases Nat.lt_or_ge j l.length with h | h
    · exact h
    · rw [List.getElem?_eq_none h] at hj; cases hj
  obtain ⟨v, hv, ho, _⟩ := h.each j x hj
  obtain ⟨g, cap, hlv, hg, hgl⟩ := h.row.form (by omega)
  obtain ⟨A, c, rfl, h1, h2, h3, h4⟩ := own_slice_b ho
  have hrow := h.row
  rw [hlv] at hrow
  exact ⟨_, cap, A, x.length, c, hlv, hrow.cells (g := g) rfl j _ hv, h1, h2, h3, hgl⟩

/-- of what was there, the book and its list alone may have turned -/
structure OnlyNote (r : Nat) (lv : Value) (w w' : World) : Prop where
  os : w'.os = w.os
  tape : w'.tape = w.tape
  output : w'.output = w.output
  size : w.heap.size ≤ w'.heap.size
  block : ∀ i, i < w.heap.size → i ≠ r → lv.ownBlock ≠ some i → w'.heap[i]? = w.heap[i]?
theorem OnlyNote.trans_below {r : Nat} {lv : Value} {a b c : World} (h : OnlyNote r lv a b) (h' : Below b.heap.size b c) : OnlyNote r lv a c :=
  ⟨h'.os.trans h.os, h'.tape.trans h.tape, h'.output.trans h.output, Nat.le_trans h.size h'.size, fun i hi h1 h2 => (h'.block i (Nat.lt_of_lt_of_le hi h.size)).trans (h.block i hi h1 h2)⟩
theorem OnlyNote.of_below {r : Nat} {lv : Value} {b c : World} (h' : Below b.heap.size b c) : OnlyNote r lv b c :=
  ⟨h'.os, h'.tape, h'.output, h'.size, fun i hi h1 h2 => h'.block i hi⟩
theorem OnlyNote.set {r : Nat} {lv : Value} {a b : World} (h : OnlyNote r lv a b) (i : Nat) (u : Value) : OnlyNote r lv a (b.setCell ⟨r, i, none⟩ u) :=
  ⟨h.os, h.tape, h.output, by simpa [World.setCell] using h.size, fun j hj h1 h2 => (Below.heap_setCell b ⟨r, i, none⟩ u j h1).trans (h.block j hj h1 h2)⟩
theorem OnlyNote.grown {r : Nat} {lv : Value} {a b c : World} (h : OnlyNote r lv a b) (h' : b.grownBy c lv.ownBlock) : OnlyNote r lv a c :=
  ⟨h'.os.trans h.os, h'.tape.trans h.tape, h'.output.trans h.output, Nat.le_trans h.size h'.size, fun i hi h1 h2 => (h'.block i (Nat.lt_of_lt_of_le hi h.size) (fun e => h2 e.symm)).trans (h.block i hi h1 h2)⟩
theorem OnlyNote.later {r g : Nat} {lv : Value} {a b c : World} (h : OnlyNote r lv a b) (h' : Turned g b c) (hg : a.heap.size ≤ g) : OnlyNote r lv a c :=
  ⟨h'.os.trans h.os, h'.tape.trans h.tape, h'.output.trans h.output, by have := h'.size; have := h.size; omega, fun i hi h1 h2 => (h'.block i (by omega)).trans (h.block i hi h1 h2)⟩
theorem OnlyNote.below {r : Nat} {lv : Value} {w0 w w' : World} {B : Nat} (h : OnlyNote r lv w w') (hb : Below B w0 w) (hB : B ≤ w.heap.size) (hr : B ≤ r) (hl : ∀ b, lv.ownBlock = some b → B ≤ b) : Below B w0 w' :=
  hb.trans ⟨h.os, h.tape, h.output, h.size, fun i hi => h.block i (by omega) (by omega) (fun e => by have := hl i e; omega)⟩

set_option maxRecDepth 100000 in
theorem noteNew_any (w : World) : Calls Try.prog 11 #[] w fun e w' => ∃ r, e = .returned (.pointer (some ⟨r, 0, none⟩)) ∧ w.heap.size ≤ r ∧ r < w'.heap.size ∧ Blk w' r 53 (noteCells (.slice none 0 0) 0) ∧ Below w.heap.size w w' := by
  go_enter Try.func11, Try.ntmps11
  go_wp2
  go_ret
  exact ⟨w.heap.size, rfl, Nat.le_refl _, by simp, Blk.newAt rfl, (Below.refl _ _).alloc (Nat.le_refl _) _⟩
theorem NoteAt.start {w : World} {r B : Nat} (h : Blk w r 53 (noteCells (.slice none 0 0) 0)) (hB : r < B) : NoteAt w r B (.slice none 0 0) [] [] 0 :=
  ⟨hB, h, ⟨rfl, .inl ⟨rfl, rfl⟩⟩, fun j x hx => by simp at hx⟩

theorem NoteAt.shape {w : World} {r B many : Nat} {lv : Value} {vs : List Value} {l : List (List UInt8)} (h : NoteAt w r B lv vs l many) : ∃ A cap, lv = .slice A l.length cap := by
  rcases h.row.2 with ⟨rfl, h0⟩ | ⟨g, cap, cur, rfl, _⟩
  · exact ⟨none, 0, by rw [h0]⟩
  · exact ⟨_, cap, rfl⟩
theorem noteLen_any (w : World) {r B many : Nat} {lv : Value} {vs : List Value} {l : List (List UInt8)} (h : NoteAt w r B lv vs l many) :
    Calls Try.prog 17 #[.pointer (some ⟨r, 0, none⟩)] w fun e w' => e = .returned (.int .i64 (l.length : Int)) ∧ w = w' := by
  obtain ⟨A, cap, rfl⟩ := h.shape
  have c0 : w.cell? ⟨r, 0, none⟩ = some (.slice A l.length cap) := (h.cells.cell 0).trans rfl
  clear h
  go_enter Try.func17, Try.ntmps17
  go_wp2
  go_ret
  exact ⟨rfl, rfl⟩
theorem noteAsked_any (w : World) {r B many : Nat} {lv : Value} {vs : List Value} {l : List (List UInt8)} (h : NoteAt w r B lv vs l many) :
    Calls Try.prog 19 #[.pointer (some ⟨r, 0, none⟩)] w fun e w' => e = .returned (.int .i64 (many : Int)) ∧ w = w' := by
  have c1 : w.cell? ⟨r, 1, none⟩ = some (.int .i64 (many : Int)) := (h.cells.cell 1).trans rfl
  clear h
  go_enter Try.func19, Try.ntmps19
  go_wp2
  go_ret
  exact ⟨rfl, rfl⟩

set_option maxRecDepth 100000 in
set_option maxHeartbeats 1000000 in
theorem noteOf_big (r : Nat) (A : Option Addr) (n c : Nat) (w : World) (hn : 65536 < n) (hc : n ≤ c) (hcm : c ≤ maxLen) :
    Calls Try.prog 14 #[.pointer (some ⟨r, 0, none⟩), .slice A n c] w fun e w' => e = .returned (.tuple #[.agg inkZ, .int .i64 5]) ∧ Below w.heap.size w w' := by
  have hz : inkZ.size = 32 := by simp [inkZ, bRow]
  have ho : inkZ.all (·.oneCell') = true := bRow_one _
  have he : inkZ = #[.int .u8 0, .int .u8 0, .int .u8 0, .int .u8 0, .int .u8 0, .int .u8 0, .int .u8 0, .int .u8 0, .int .u8 0, .int .u8 0, .int .u8 0, .int .u8 0, .int .u8 0, .int .u8 0, .int .u8 0, .int .u8 0, .int .u8 0, .int .u8 0, .int .u8 0, .int .u8 0, .int .u8 0, .int .u8 0, .int .u8 0, .int .u8 0, .int .u8 0, .int .u8 0, .int .u8 0, .int .u8 0, .int .u8 0, .int .u8 0, .int .u8 0, .int .u8 0] := by kernel_rfl
  have HZ := Lib.hid hz
  have HO := Lib.hid ho
  have HE := Lib.hid he
  clear hz ho he
  generalize inkZ = zd at HZ HO HE ⊢
  have hX : Below w.heap.size w (w.alloc (.cells zd 28)) := (Below.refl _ _).alloc (Nat.le_refl _) _
  have HX := Lib.hid hX
  unfold maxLen at hcm
  clear hX
  go_enter Try.func14, Try.ntmps14
  go_wp2_with (refine wpList_store_part rfl 28 (.tmp 4) _ rfl w.heap.size 0 zd rfl (by rw [HE.out]; rfl) 28 zd (by rw [HE.out]; exact Blk.newAt rfl) (by rw [HZ.out]; rfl) (by rw [HZ.out]; simp) HO.out ?_; intro W5 hT5 hB5; rw [spl_self _ _ rfl] at hB5)
  refine bodyPost_ret (results_part2 rfl _ _ w.heap.size 32 28 _ _ rfl hB5 Try.underlying28 rfl rfl HZ.out) rfl ⟨rfl, ?_⟩
  have := HX.out
  rw [HE.out] at this
  exact hT5.below this (Nat.le_refl _)

theorem row_later {wr w6 : World} {B : Nat} {e : TypeId} {s n : Nat} {lv : Value} {vs : List Value} (h : wr.ownsRow B e s lv n vs) (hb : Below wr.heap.size wr w6) (o : Obj) : (w6.alloc o).ownsRow B e s lv n vs :=
  row_keep h fun b hv => by
    have hlt : b < wr.heap.size := by
      rcases h.2 with ⟨rfl, _⟩ | ⟨g, cap, cur, rfl, hg, hh, _⟩
      · simp [Value.ownBlock] at hv
      · simp [Value.ownBlock] at hv; subst hv
        rcases Nat.lt_or_ge g wr.heap.size with h | h
        · exact h
        · rw [Array.getElem?_eq_none h] at hh; cases hh
    exact (Below.heap_alloc w6 o b (by have := hb.size; omega)).trans (hb.block b hlt)
theorem reads_one (w : World) (x : Value) (t : TypeId) : Reads (w.alloc (.cells #[x] t)) (w.heap.size + 1) 1 (some ⟨w.heap.size, 0, none⟩) 1 [x] :=
  ⟨rfl, fun _ => ⟨_, rfl, Nat.lt_succ_self _, cell_one_new w x t⟩⟩
theorem row_shape {w : World} {B : Nat} {e : TypeId} {s n : Nat} {v : Value} {vs : List Value} (h : w.ownsRow B e s v n vs) : ∃ A c, v = .slice A n c := by
  rcases h.2 with ⟨rfl, h0⟩ | ⟨g, cap, cur, rfl, _⟩
  · exact ⟨none, 0, by rw [h0]⟩
  · exact ⟨_, cap, rfl⟩
theorem NoteAt.row_ne {w : World} {r B many : Nat} {lv : Value} {vs : List Value} {l : List (List UInt8)} (h : NoteAt w r B lv vs l many) : lv.ownBlock ≠ some r := fun e => by have := h.row_lt e; have := h.lt; omega
theorem NoteAt.snoc {wr w6 w8 : World} {r B many : Nat} {lv v v8 : Value} {vs : List Value} {l : List (List UInt8)} {xs : List UInt8} {o : Obj} (h : NoteAt wr r B lv vs l many) (hb6 : Below wr.heap.size wr w6) (hov : OwnB w6 wr.heap.size v xs)
    (hown8 : w8.ownsRow B 32 1 v8 (l.length + 1) (vs ++ [v])) (hg8 : (w6.alloc o).grownBy w8 lv.ownBlock) (hor8 : v8.ownBlock = lv.ownBlock ∨ v8.ownBlock = some (w6.alloc o).heap.size) (hB : B ≤ wr.heap.size) :
    NoteAt (w8.setCell ⟨r, 0, none⟩ v8) r B v8 (vs ++ [v]) (l ++ [xs]) many := by
  have hs6 := hb6.size
  have hsa : (w6.alloc o).heap.size = w6.heap.size + 1 := by simp
  have hbo := fun b (hb : v8.ownBlock = some b) => (show (lv.ownBlock = some b ∨ b = w6.heap.size + 1) by
    rcases hor8 with e | e
    · exact .inl (e ▸ hb)
    · rw [e, hsa] at hb; injection hb with hb; exact .inr hb.symm)
  have hrs := h.cells.lt
  have hlt := h.lt
  have hne : v8.ownBlock ≠ some r := fun e => by
    rcases hbo r e with e | e
    · exact h.row_ne e
    · omega
  refine ⟨hlt, ?_, ?_, fun j x hj => ?_⟩
  · exact ((((h.cells.below' hb6).alloc o).grown hg8 (fun e => h.row_ne e.symm)).set_ 0 v8)
  · rw [List.length_append]
    exact row_keep hown8 fun b hb => Below.heap_setCell w8 ⟨r, 0, none⟩ v8 b (fun e => hne (by rw [hb]; exact congrArg some e))
  · rcases Nat.lt_or_ge j l.length with hjl | hjl
    · rw [List.getElem?_append_left hjl] at hj
      obtain ⟨u, hu, ho, hd⟩ := h.each j x hj
      have hul : j < vs.length := by rw [h.len]; exact hjl
      refine ⟨u, by rw [List.getElem?_append_left hul]; exact hu, ?_, fun b hb e => ?_⟩
      · refine ho.keep fun b hb => ?_
        have h1 := ho.lt hb
        have h2 := ho.ge hb
        exact (Below.heap_setCell w8 ⟨r, 0, none⟩ v8 b (by show b ≠ r; omega)).trans ((hg8.block b (by omega) (fun e => hd b hb e.symm)).trans ((Below.heap_alloc w6 o b (by omega)).trans (hb6.block b h1)))
      · have h1 := ho.lt hb
        rcases hbo b e with e | e
        · exact hd b hb e
        · omega
    · rw [List.getElem?_append_right hjl] at hj
      have hj0 : j - l.length = 0 := by
        rcases Nat.eq_zero_or_pos (j - l.length) with h | h
        · exact h
        · rw [List.getElem?_eq_none (by simp; omega)] at hj; cases hj
      rw [hj0] at hj
      simp at hj
      subst hj
      have hul : vs.length ≤ j := by rw [h.len]; exact hjl
      refine ⟨v, by rw [List.getElem?_append_right hul, h.len, hj0]; rfl, ?_, fun b hb e => ?_⟩
      · refine (hov.more hB).keep fun b hb => ?_
        have h1 := hov.lt hb
        have h2 := hov.ge hb
        exact (Below.heap_setCell w8 ⟨r, 0, none⟩ v8 b (by show b ≠ r; omega)).trans ((hg8.block b (by omega) (fun e => by have := h.row_lt e.symm; omega)).trans (Below.heap_alloc w6 o b (by omega)))
      · have h1 := hov.lt hb
        have h2 := hov.ge hb
        rcases hbo b e with e | e
        · have := h.row_lt e; omega
        · omega
theorem NoteAt.snoc_held {wr w6 : World} {r B many : Nat} {lv v v8 : Value} {vs : List Value} {l : List (List UInt8)} {xs : List UInt8} {o : Obj} (h : NoteAt wr r B lv vs l many) (hb6 : Below wr.heap.size wr w6) (hov : OwnB w6 wr.heap.size v xs)
    (hor8 : v8.ownBlock = lv.ownBlock ∨ v8.ownBlock = some (w6.alloc o).heap.size) : ∀ b, Held v8 (vs ++ [v]) b → Held lv vs b ∨ wr.heap.size ≤ b := by
  have hs6 := hb6.size
  have hsa : (w6.alloc o).heap.size = w6.heap.size + 1 := by simp
  rintro b (hb | ⟨u, hu, hb⟩)
  · rcases hor8 with e | e
    · exact .inl (.inl (e ▸ hb))
    · rw [e, hsa] at hb; injection hb with hb; exact .inr (by omega)
  · rcases List.mem_append.1 hu with hu | hu
    · exact .inl (.inr ⟨u, hu, hb⟩)
    · rw [List.mem_singleton] at hu
      subst hu
      exact .inr (hov.ge hb)
theorem addInk_mem' {l : List (List UInt8)} {x : List UInt8} (h : x ∈ l) : addInk l x = l := by unfold addInk; rw [if_pos h]
theorem addInk_new {l : List (List UInt8)} {x : List UInt8} (h : x ∉ l) : addInk l x = l ++ [x] := by unfold addInk; rw [if_neg h]
theorem NoteAt.asked {w : World} {r B many : Nat} {lv : Value} {vs : List Value} {l : List (List UInt8)} (h : NoteAt w r B lv vs l many) : NoteAt (w.setCell ⟨r, 1, none⟩ (.int .i64 ((many + 1 : Nat) : Int))) r B lv vs l (many + 1) :=
  ⟨h.lt, h.cells.set_ 1 _, row_keep h.row fun b hb => Below.heap_setCell w ⟨r, 1, none⟩ _ b (by have := h.row_lt hb; have := h.lt; show b ≠ r; omega), fun j x hx => by
    obtain ⟨v, h1, h2, h3⟩ := h.each j x hx
    exact ⟨v, h1, h2.keep fun b hb => Below.heap_setCell w ⟨r, 1, none⟩ _ b (by have := h2.ge hb; have := h.lt; show b ≠ r; omega), h3⟩⟩

set_option maxRecDepth 100000 in
set_option maxHeartbeats 2000000 in
theorem noteOf_any (r B many : Nat) (lv : Value) (vs : List Value) (l : List (List UInt8)) (A : Option Addr) (n c : Nat) (xs : List UInt8) (w : World) (Bx : Nat) (h : NoteAt w r B lv vs l many) (hr : Reads w Bx 1 A n (xs.map vb)) (hB : Bx ≤ w.heap.size)
    (hBB : B ≤ w.heap.size) (hx : ∀ a, 0 < n → A = some a → a.block ≠ r) (hn : n ≤ 65536) (hl : l.length ≤ 1000000) (hm : many ≤ 1000000) :
    Calls Try.prog 14 #[.pointer (some ⟨r, 0, none⟩), .slice A n c] w fun e w' => ∃ lv' vs', e = .returned (.tuple #[.agg (bRow (shaOf xs)), .int .i64 0]) ∧ NoteAt w' r B lv' vs' (addInk l xs) (many + 1) ∧ (∀ b, Held lv' vs' b → Held lv vs b ∨ w.heap.size ≤ b) ∧ OnlyNote r lv w w' := by
  have hxn : xs.length = n := by have := hr.1; simpa using this
  have HXN := Lib.hid hxn
  have HK := Lib.hid hx
  have HN := Lib.hid h
  have HRD := Lib.hid hr
  have hrs := h.cells.lt
  clear h hr hxn hx
  go_enter Try.func14, Try.ntmps14
  go_upto_region 3 with fail
  have hW := Blk.new w 28 (Array.replicate 32 (.int .u8 0))
  have hX1 : Below w.heap.size w (w.alloc (.cells (Array.replicate 32 (.int .u8 0)) 28)) := (Below.refl _ _).alloc (Nat.le_refl _) _
  have hS1 : (w.alloc (.cells (Array.replicate 32 (.int .u8 0)) 28)).heap.size = w.heap.size + 1 := by simp
  have HN1 := Lib.hid (HN.out.below hX1)
  have HRD1 := Lib.hid (HRD.out.below (hX1.mono hB))
  rw [zeros32a] at hW hX1 hS1 HN1 HRD1
  obtain ⟨gd, hgd⟩ : ∃ g, g = w.heap.size := ⟨_, rfl⟩
  rw [← hgd] at hW hS1 ⊢
  generalize w.alloc _ = W1 at hW hX1 hS1 HN1 HRD1 ⊢
  have HGD := Lib.hid hgd
  rw [← hgd] at hrs
  have hgB : Bx ≤ gd := by omega
  have hgBB : B ≤ gd := by omega
  clear hgd
  have HD1 := Lib.hid hW
  have HX1 := Lib.hid hX1
  clear hW hX1
  have c1 : W1.cell? ⟨r, 1, none⟩ = some (.int .i64 (many : Int)) := (HN1.out.cells.cell 1).trans rfl
  have f1 := HN1.out.cells.frozen 1
  go_wp2_with fail
  rw [show ((many : Int) + 1) = ((many + 1 : Nat) : Int) by omega]
  have HT2 := Lib.hid (Turned.setCell W1 ⟨r, 1, none⟩ (.int .i64 ((many + 1 : Nat) : Int)))
  have HN2 := Lib.hid HN1.out.asked
  have HO2 := Lib.hid ((OnlyNote.of_below (r := r) (lv := lv) HX1.out).set 1 (.int .i64 ((many + 1 : Nat) : Int)))
  generalize W1.setCell _ _ = W2 at HT2 HN2 HO2 ⊢
  have hs2 := HT2.out.size
  clear c1 f1
  have hrd2 : Reads W2 Bx 1 A n (xs.map vb) := HRD1.out.keepAt (fun a h0 ha p hp => HT2.out.cell (by have := HK.out a h0 ha; show p.block ≠ r; omega))
  refine (refOf_any A n c xs W2 Bx hrd2 (by omega) (by omega)).mono ?_
  rintro _ W3 ⟨rfl, hb3⟩
  have HN3 := Lib.hid (HN2.out.below hb3)
  have HRD3 := Lib.hid (hrd2.below (hb3.mono (by omega)))
  have HD3 := Lib.hid ((HT2.out.blk HD1.out (by show gd ≠ r; omega)).below hb3 (by omega))
  have HO3 := Lib.hid (HO2.out.trans_below hb3)
  have hs3 := hb3.size
  clear hb3 hrd2
  have hdl := shaOf_len xs
  have hds : (bRow (shaOf xs)).size = 32 := by rw [bRow_size, hdl]
  have HDS := Lib.hid hds
  have HDO := Lib.hid (bRow_one (shaOf xs))
  clear hdl hds
  generalize hd : bRow (shaOf xs) = D at HDS HDO ⊢
  have HDD := Lib.hid hd
  clear hd
  go_upto_region 5 with (refine wpList_store_part rfl 28 (.tmp 6) (.tmp 21) rfl W3.heap.size 0 D rfl rfl 28 _ (Blk.newAt rfl) (by rw [HDS.out]; rfl) (by rw [HDS.out]; simp) HDO.out ?_; intro W4 hT4 hB4; rw [spl_self _ _ (by rw [HDS.out]; simp)] at hB4)
  have hX4 : Below W3.heap.size W3 W4 := hT4.below ((Below.refl _ _).alloc (Nat.le_refl _) _) (Nat.le_refl _)
  have HN4 := Lib.hid (HN3.out.below hX4)
  have HRD4 := Lib.hid (HRD3.out.below (hX4.mono (by omega)))
  have HD4 := Lib.hid (HD3.out.below' hX4)
  have HO4 := Lib.hid (HO3.out.trans_below hX4)
  have hs4 := hX4.size
  obtain ⟨ge, hge⟩ : ∃ g, g = W3.heap.size := ⟨_, rfl⟩
  rw [← hge] at hB4 ⊢
  have hgel : gd < ge := by omega
  have HB4 := Lib.hid hB4
  clear hT4 hX4 hB4 hge
  go_wp2_with fail
  go_loopw [7] (fun jv wr => ∃ j : Nat, j ≤ l.length ∧ jv = .int .i64 j ∧ (∀ k y, k < j → l[k]? = some y → y ≠ xs) ∧ Below W4.heap.size W4 wr) (fun jv _ => l.length - (intOf jv).toNat)
  case atStart => exact ⟨0, by omega, rfl, by omega, Below.refl _ _⟩
  case round =>
    obtain ⟨j, hj, rfl, hno, hE⟩ := hrel
    have HNO := Lib.hid hno
    have HE := Lib.hid hE
    have hse := hE.size
    clear hE hno
    have HNE := Lib.hid (HN4.out.below HE.out)
    obtain ⟨LA, Lc, hlv⟩ := HNE.out.shape
    have c0 : wr.cell? ⟨r, 0, none⟩ = some (.slice LA l.length Lc) := by rw [← hlv]; exact (HNE.out.cells.cell 0).trans rfl
    by_cases hjl : j < l.length
    · obtain ⟨ad, cap, Aj, mj, cj, hlv', hcell, hmc, hcm, hrj, hadb⟩ := HNE.out.at_ (List.getElem?_eq_getElem hjl)
      rw [hlv] at hlv'
      injection hlv' with h1 h2 h3
      subst h1
      subst h3
      have hrde := HRD4.out.below (HE.out.mono (by omega))
      have hmj : l[j].length = mj := by have := hrj.1; simpa using this
      have heq := eqBytes_any Aj A mj n cj c l[j] xs wr _ _ hrj hrde (by unfold maxLen at hcm ⊢; omega) (by unfold maxLen; omega)
      by_cases hyx : l[j] = xs
      · rw [decide_eq_true hyx] at heq
        have hadd : addInk l xs = l := addInk_mem' (hyx ▸ List.getElem_mem hjl)
        have HAD := Lib.hid hadd
        clear hadd
        go_wp2_with fail
        refine heq.mono ?_
        rintro _ W5 ⟨rfl, q, hq⟩
        have hb5 : Below wr.heap.size wr W5 := hq ▸ below_drewN (Below.refl _ _) q
        have HN5 := Lib.hid (HNE.out.below hb5)
        have hEb := HE.out.trans (hb5.mono hse)
        have HD5 := Lib.hid (HD4.out.below' hEb)
        have HB5 := Lib.hid (HB4.out.below' hEb)
        have HO5 := Lib.hid (HO4.out.trans_below hEb)
        clear hq hb5 hEb
        go_wp2_with (first
          | (refine wpList_load_part rfl 28 (.tmp 6) rfl ge 0 32 rfl 28 _ D _ HB5.out Try.underlying28 rfl rfl HDS.out (fun _ _ => by rw [Nat.zero_add]) ?_)
          | (refine wpList_store_part rfl 28 (.tmp 4) (.tmp 40) rfl gd 0 D rfl rfl 28 _ HD5.out (by rw [HDS.out]; rfl) (by rw [HDS.out]; simp) HDO.out ?_; intro W8 hT8 hB8; rw [spl_self _ _ (by rw [HDS.out]; rfl)] at hB8))
        refine bodyPost_ret (results_part2 rfl _ _ gd 32 28 _ _ rfl hB8 Try.underlying28 rfl rfl HDS.out) rfl ⟨lv, vs, by rw [HDD.out]; rfl, ?_, fun b hb => .inl hb, ?_⟩
        · rw [HAD.out]
          exact HN5.out.keep (hT8.block r (by omega)) fun b hb => hT8.block b (by have := HN4.out.held hb; have := HN.out.held hb; have := HGD.out; omega)
        · exact HO5.out.later hT8 (by have := HGD.out; omega)
      · rw [decide_eq_false hyx] at heq
        go_wp2_with fail
        refine heq.mono ?_
        rintro _ W5 ⟨rfl, q, hq⟩
        have hb5 : Below wr.heap.size wr W5 := hq ▸ below_drewN (Below.refl _ _) q
        have HE5 := Lib.hid (HE.out.trans (hb5.mono hse))
        clear hq hb5
        go_wp2_with fail
        go_roundw
        case rel =>
          refine ⟨j + 1, by omega, by go_num, fun k y hk hy => ?_, HE5.out⟩
          rcases Nat.lt_or_ge k j with h | h
          · exact HNO.out k y h hy
          · obtain rfl : k = j := by omega
            rw [List.getElem?_eq_getElem hjl] at hy
            injection hy with hy
            exact hy ▸ hyx
        case measure => simp [intOf]; omega
    · obtain rfl : j = l.length := by omega
      have hadd : addInk l xs = l ++ [xs] := addInk_new (fun hm => by obtain ⟨k, hk, hk2⟩ := List.getElem_of_mem hm; exact HNO.out k _ hk (List.getElem?_eq_getElem hk) hk2)
      have HAD := Lib.hid hadd
      have HCB := Lib.hid (copyBytes_any A n c xs wr.drew Bx (HRD4.out.below (HE.out.mono (by omega))).drew (by show Bx ≤ wr.heap.size; omega) (by omega))
      clear hadd
      have HRW := Lib.hid (fun W (hb : Below wr.heap.size wr W) => (HNE.out.below hb))
      obtain ⟨i0, hi0, hz0, hz1, hz2⟩ := info_parts (show (Try.prog.info? 32).map (fun i => (i.zero, i.size, i.bytes)) = some (some (.slice none 0 0), 1, 24) by kernel_rfl)
      go_upto_region 10 with fail
      go_region_law (first
        | (go_simp; go_at_call 13; refine HCB.out.mono ?_; rintro _ w6 ⟨v, rfl, hov, hb6'⟩; have hb6 : Below wr.heap.size wr w6 := ⟨hb6'.os, hb6'.tape, hb6'.output, hb6'.size, hb6'.block⟩; clear hb6'; obtain ⟨Av, cv, rfl, hvc, hvm, hvr, hvB⟩ := own_slice_b hov; have c6 := (hb6.cell (show (⟨r, 0, none⟩ : Addr).block < wr.heap.size from HNE.out.cells.lt)).trans c0; have c7 := fun o => (World.cell?_alloc_lt w6 o ⟨r, 0, none⟩ (by have := hb6.size; have := HNE.out.cells.lt; show r < _; omega)).trans c6)
        | (refine step_append_any _ rfl (.tmp 45) (.tmp 48) 22 rfl B 32 i0 _ 1 24 Try.underlying22 hi0 hz0 hz1 hz2 rfl (by omega) (.slice LA l.length Lc) l.length vs (rfl) (by rw [← hlv]; exact row_later HNE.out.row hb6 _) (w6.heap.size + 1) (some ⟨w6.heap.size, 0, none⟩) 1 1 [.slice Av xs.length cv] (rfl) (reads_one _ _ _) (by simp [Value.oneCell']) (by unfold maxLen; omega) (by omega) (by have := hb6.size; simp; have : wr.drew.heap.size = wr.heap.size := rfl; omega) ?_; intro v8 w8 hown8 hg8 hor8; obtain ⟨A8, C8, rfl⟩ := row_shape hown8; have HB8 := ((HNE.out.cells.below' hb6).alloc _).grown hg8 (by rw [← hlv]; exact fun e => HNE.out.row_ne e.symm); have c8 : w8.cell? ⟨r, 0, none⟩ = some lv := (HB8.cell 0).trans rfl; have f8 := HB8.frozen 0))
      all_goals
        have hrw : (w6.alloc (.cells #[.slice Av xs.length cv] 32)).grownBy w8 lv.ownBlock := hlv ▸ hg8
        have hor : (Value.slice A8 (l.length + 1) C8).ownBlock = lv.ownBlock ∨ (Value.slice A8 (l.length + 1) C8).ownBlock = some (w6.alloc (.cells #[.slice Av xs.length cv] 32)).heap.size := hlv ▸ hor8
        have hB6 : B ≤ wr.heap.size := by omega
        have HN9 := Lib.hid (HNE.out.snoc hb6 (hov.more (Nat.le_refl wr.heap.size)) hown8 hrw hor hB6)
        have HH9 := Lib.hid (HNE.out.snoc_held hb6 (hov.more (Nat.le_refl wr.heap.size)) hor)
        have HO9 := Lib.hid ((((HO4.out.trans_below HE.out).trans_below hb6).trans_below ((Below.refl _ w6).alloc (Nat.le_refl _) (.cells #[.slice Av xs.length cv] 32))).grown hrw |>.set 0 (.slice A8 (l.length + 1) C8))
        have hB6 := HE.out.trans (hb6.mono hse)
        have HD9 := Lib.hid ((((HD4.out.below' hB6).alloc (.cells #[.slice Av xs.length cv] 32)).grown hrw (fun e => by have := HN4.out.row_lt e.symm; have := HN.out.row_lt e.symm; have := HGD.out; omega)).far (p := ⟨r, 0, none⟩) (by show gd ≠ r; omega) (.slice A8 (l.length + 1) C8))
        have HB9 := Lib.hid ((((HB4.out.below' hB6).alloc (.cells #[.slice Av xs.length cv] 32)).grown hrw (fun e => by have := HN.out.row_lt e.symm; have := HGD.out; omega)).far (p := ⟨r, 0, none⟩) (by show ge ≠ r; omega) (.slice A8 (l.length + 1) C8))
        clear hrw hor hB6 hov hb6 hown8 hg8 hor8 c8 f8 HB8 c6 c7 hvc hvm hvr hvB
        generalize w8.setCell _ _ = W9 at HN9 HO9 HD9 HB9 ⊢
        go_wp2_with (first
          | (refine wpList_load_part rfl 28 (.tmp 6) rfl ge 0 32 rfl 28 _ D _ HB9.out Try.underlying28 rfl rfl HDS.out (fun _ _ => by rw [Nat.zero_add]) ?_)
          | (refine wpList_store_part rfl 28 (.tmp 4) (.tmp 52) rfl gd 0 D rfl rfl 28 _ HD9.out (by rw [HDS.out]; rfl) (by rw [HDS.out]; simp) HDO.out ?_; intro W10 hT10 hB10; rw [spl_self _ _ (by rw [HDS.out]; rfl)] at hB10))
        refine bodyPost_ret (results_part2 rfl _ _ gd 32 28 _ _ rfl hB10 Try.underlying28 rfl rfl HDS.out) rfl ⟨.slice A8 (l.length + 1) C8, vs ++ [.slice Av xs.length cv], by rw [HDD.out]; rfl, ?_, ?_, HO9.out.later hT10 (by have := HGD.out; omega)⟩
        · rw [HAD.out]
          exact HN9.out.keep (hT10.block r (by omega)) fun b hb => hT10.block b (by
            rcases HH9.out b hb with h | h
            · have := HN.out.held h; have := HGD.out; omega
            · omega)
        · intro b hb
          rcases HH9.out b hb with h | h
          · exact .inl h
          · exact .inr (by have := HGD.out; omega)

theorem OnlyNote.refl (r : Nat) (lv : Value) (w : World) : OnlyNote r lv w w := ⟨rfl, rfl, rfl, Nat.le_refl _, fun _ _ _ _ => rfl⟩
theorem noteOf_all (r B many : Nat) (lv : Value) (vs : List Value) (l : List (List UInt8)) (A : Option Addr) (n c : Nat) (xs : List UInt8) (w : World) (Bx : Nat) (h : NoteAt w r B lv vs l many) (hr : Reads w Bx 1 A n (xs.map vb)) (hB : Bx ≤ w.heap.size)
    (hBB : B ≤ w.heap.size) (hx : ∀ a, 0 < n → A = some a → a.block ≠ r) (hc : n ≤ c) (hcm : c ≤ maxLen) (hl : l.length ≤ 1000000) (hm : many ≤ 1000000) :
    Calls Try.prog 14 #[.pointer (some ⟨r, 0, none⟩), .slice A n c] w fun e w' => ∃ D code lv' vs', e = .returned (.tuple #[.agg D, .int .i64 code]) ∧ OfAns D code xs ∧ NoteAt w' r B lv' vs' (noteInk l xs) (noteN many xs) ∧ (∀ b, Held lv' vs' b → Held lv vs b ∨ w.heap.size ≤ b) ∧ OnlyNote r lv w w' := by
  have hxn : xs.length = n := by have := hr.1; simpa using this
  by_cases hn : n ≤ 65536
  · refine (noteOf_any r B many lv vs l A n c xs w Bx h hr hB hBB hx hn hl hm).mono ?_
    rintro e w' ⟨lv', vs', rfl, h1, h2, h3⟩
    have hx : xs.length ≤ 65536 := by omega
    refine ⟨_, _, lv', vs', rfl, ⟨by rw [bRow_size, shaOf_len], bRow_one _, fun _ => ⟨rfl, rfl⟩, fun hh => absurd hh (by omega)⟩, ?_, h2, h3⟩
    unfold noteInk noteN
    rw [if_pos hx, if_pos hx]
    exact h1
  · refine (noteOf_big r A n c w (by omega) hc hcm).mono ?_
    rintro e w' ⟨rfl, hb⟩
    have hx : ¬ xs.length ≤ 65536 := by omega
    refine ⟨_, _, lv, vs, rfl, ⟨by simp [inkZ, bRow], bRow_one _, fun hh => absurd hh hx, fun _ => ⟨rfl, rfl⟩⟩, ?_, fun b hb => .inl hb, OnlyNote.of_below hb⟩
    unfold noteInk noteN
    rw [if_neg hx, if_neg hx]
    exact h.below hb

end Go.Proofs.Ytmklppomcpimaaa
