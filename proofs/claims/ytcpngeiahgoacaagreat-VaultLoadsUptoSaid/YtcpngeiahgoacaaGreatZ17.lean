/- Parts of the proof, in one text: NoteBook, RkA, RkB, RkC. -/
import Derived.Test.YtcpngeiahgoacaaGreatZ4
import Derived.Test.YtcpngeiahgoacaaGreatZ16
import Derived.Test.YtcpngeiahgoacaaGreatZ11
import Derived.Test.YtcpngeiahgoacaaGreatZ6
import Derived.Test.YtcpngeiahgoacaaGreatZ14
import Derived.Test.YtcpngeiahgoacaaGreatZ9

/- The document's book (bastideref03): a list of copies, and how often it was asked. -/
namespace Go.Proofs.YtcpngeiahgoacaaGreat
set_option linter.unusedVariables false
open Go.RowKit Go.Maps

def Held (lv : Value) (vs : List Value) (b : Nat) : Prop := lv.ownBlock = some b ∨ ∃ v, v ∈ vs ∧ v.ownBlock = some b
def noteCells (lv : Value) (many : Nat) : Array Value := #[lv, .int .i64 (many : Int)]
structure NoteAt (w : World) (r B : Nat) (lv : Value) (vs : List Value) (l : List (List UInt8)) (many : Nat) : Prop where
  lt : r < B
  cells : Blk w r 186 (noteCells lv many)
  row : w.ownsRow B 22 1 lv l.length vs
  each : ∀ (j : Nat) (x : List UInt8), l[j]? = some x → ∃ v, vs[j]? = some v ∧ OwnB w B v x ∧ (∀ b, v.ownBlock = some b → lv.ownBlock ≠ some b)

theorem NoteAt.len {w : World} {r B many : Nat} {lv : Value} {vs : List Value} {l : List (List UInt8)} (h : NoteAt w r B lv vs l many) : vs.length = l.length := by have := h.row.1; omega
theorem NoteAt.row_lt {w : World} {r B many : Nat} {lv : Value} {vs : List Value} {l : List (List UInt8)} (h : NoteAt w r B lv vs l many) {b : Nat} (hb : lv.ownBlock = some b) : B ≤ b ∧ b < w.heap.size := by
  rcases h.row.2 with ⟨rfl, _⟩ | ⟨g, cap, cur, rfl, hg, hh, _⟩
  · simp [Value.ownBlock] at hb
  · simp [Value.ownBlock] at hb; subst hb
    refine ⟨hg, ?_⟩
    rcases Nat.lt_or_ge g w.heap.size with h | h
    · exact h
    · rw [Array.getElem?_eq_none h] at hh; cases hh
theorem NoteAt.held {w : World} {r B many : Nat} {lv : Value} {vs : List Value} {l : List (List UInt8)} (h : NoteAt w r B lv vs l many) {b : Nat} (hb : Held lv vs b) : B ≤ b ∧ b < w.heap.size := by
  rcases hb with hb | ⟨v, hv, hb⟩
  · exact h.row_lt hb
  · obtain ⟨j, hj, hj2⟩ := List.getElem_of_mem hv
    have hl := h.len
    obtain ⟨v', hv', ho, _⟩ := h.each j l[j] (List.getElem?_eq_getElem (by omega))
    rw [List.getElem?_eq_getElem hj, hj2] at hv'
    injection hv' with hv'
    subst hv'
    exact ⟨ho.ge hb, ho.lt hb⟩
theorem row_keep {w w' : World} {B : Nat} {e : TypeId} {s n : Nat} {lv : Value} {vs : List Value} (h : w.ownsRow B e s lv n vs) (hk : ∀ b, lv.ownBlock = some b → w'.heap[b]? = w.heap[b]?) : w'.ownsRow B e s lv n vs := by
  refine ⟨h.1, ?_⟩
  rcases h.2 with h0 | ⟨g, cap, cur, rfl, hg, hh, h1⟩
  · exact .inl h0
  · exact .inr ⟨g, cap, cur, rfl, hg, (hk g rfl).trans hh, h1⟩
theorem NoteAt.keep {w w' : World} {r B many : Nat} {lv : Value} {vs : List Value} {l : List (List UInt8)} (h : NoteAt w r B lv vs l many) (hr : w'.heap[r]? = w.heap[r]?) (hk : ∀ b, Held lv vs b → w'.heap[b]? = w.heap[b]?) : NoteAt w' r B lv vs l many :=
  ⟨h.lt, hr.trans h.cells, row_keep h.row fun b hb => hk b (.inl hb), fun j x hx => by
    obtain ⟨v, h1, h2, h3⟩ := h.each j x hx
    exact ⟨v, h1, h2.keep fun b hb => hk b (.inr ⟨v, List.mem_of_getElem? h1, hb⟩), h3⟩⟩
theorem NoteAt.below {w w' : World} {r B many : Nat} {lv : Value} {vs : List Value} {l : List (List UInt8)} (h : NoteAt w r B lv vs l many) (hb : Below w.heap.size w w') : NoteAt w' r B lv vs l many :=
  h.keep (hb.block r h.cells.lt) fun b hh => hb.block b (h.held hh).2
theorem NoteAt.only {w w' : World} {r B many : Nat} {lv : Value} {vs : List Value} {l : List (List UInt8)} {k : Book} (h : NoteAt w r B lv vs l many) (ho : OnlyBook k w w') (hr : ¬ k.has r) (hk : ∀ b, Held lv vs b → ¬ k.has b) : NoteAt w' r B lv vs l many :=
  h.keep (ho.block r h.cells.lt hr) fun b hh => ho.block b (h.held hh).2 (hk b hh)
/-- the input j, as the walk finds it -/
theorem NoteAt.at_ {w : World} {r B many : Nat} {lv : Value} {vs : List Value} {l : List (List UInt8)} (h : NoteAt w r B lv vs l many) {j : Nat} {x : List UInt8} (hj : l[j]? = some x) :
    ∃ ad cap A m c, lv = .slice (some ad) l.length cap ∧ w.cell? (ad.add j) = some (.slice A m c) ∧ m ≤ c ∧ c ≤ maxLen ∧ Reads w w.heap.size 1 A m (x.map vb) ∧ ad.block < w.heap.size := by
  have hlt : j < l.length := by
    rcases Nat.lt_or_ge j l.length with h | h
    · exact h
    · rw [List.getElem?_eq_none h] at hj; cases hj
  obtain ⟨v, hv, ho, _⟩ := h.each j x hj
  obtain ⟨g, cap, hlv, hg, hgl⟩ := h.row.form (by omega)
  obtain ⟨A, c, rfl, h1, h2, h3, h4⟩ := own_slice_b ho
  have hrow := h.row
  rw [hlv] at hrow
  exact ⟨_, cap, A, x.length, c, hlv, hrow.cells (g := g) rfl j _ hv, h1, h2, h3, hgl⟩

/-- of what was there, the book and its list alone may have turned -/
structure OnlyNote (r : Nat) (lv : Value) (w w' : World) : Prop where
  os : w'.os = w.os
  tape : w'.tape = w.tape
  output : w'.output = w.output
  size : w.heap.size ≤ w'.heap.size
  block : ∀ i, i < w.heap.size → i ≠ r → lv.ownBlock ≠ some i → w'.heap[i]? = w.heap[i]?
theorem OnlyNote.trans_below {r : Nat} {lv : Value} {a b c : World} (h : OnlyNote r lv a b) (h' : Below b.heap.size b c) : OnlyNote r lv a c :=
  ⟨h'.os.trans h.os, h'.tape.trans h.tape, h'.output.trans h.output, Nat.le_trans h.size h'.size, fun i hi h1 h2 => (h'.block i (Nat.lt_of_lt_of_le hi h.size)).trans (h.block i hi h1 h2)⟩
theorem OnlyNote.of_below {r : Nat} {lv : Value} {b c : World} (h' : Below b.heap.size b c) : OnlyNote r lv b c :=
  ⟨h'.os, h'.tape, h'.output, h'.size, fun i hi h1 h2 => h'.block i hi⟩
theorem OnlyNote.set {r : Nat} {lv : Value} {a b : World} (h : OnlyNote r lv a b) (i : Nat) (u : Value) : OnlyNote r lv a (b.setCell ⟨r, i, none⟩ u) :=
  ⟨h.os, h.tape, h.output, by simpa [World.setCell] using h.size, fun j hj h1 h2 => (Below.heap_setCell b ⟨r, i, none⟩ u j h1).trans (h.block j hj h1 h2)⟩
theorem OnlyNote.grown {r : Nat} {lv : Value} {a b c : World} (h : OnlyNote r lv a b) (h' : b.grownBy c lv.ownBlock) : OnlyNote r lv a c :=
  ⟨h'.os.trans h.os, h'.tape.trans h.tape, h'.output.trans h.output, Nat.le_trans h.size h'.size, fun i hi h1 h2 => (h'.block i (Nat.lt_of_lt_of_le hi h.size) (fun e => h2 e.symm)).trans (h.block i hi h1 h2)⟩
theorem OnlyNote.later {r g : Nat} {lv : Value} {a b c : World} (h : OnlyNote r lv a b) (h' : Turned g b c) (hg : a.heap.size ≤ g) : OnlyNote r lv a c :=
  ⟨h'.os.trans h.os, h'.tape.trans h.tape, h'.output.trans h.output, by have := h'.size; have := h.size; omega, fun i hi h1 h2 => (h'.block i (by omega)).trans (h.block i hi h1 h2)⟩
theorem OnlyNote.below {r : Nat} {lv : Value} {w0 w w' : World} {B : Nat} (h : OnlyNote r lv w w') (hb : Below B w0 w) (hB : B ≤ w.heap.size) (hr : B ≤ r) (hl : ∀ b, lv.ownBlock = some b → B ≤ b) : Below B w0 w' :=
  hb.trans ⟨h.os, h.tape, h.output, h.size, fun i hi => h.block i (by omega) (by omega) (fun e => by have := hl i e; omega)⟩

set_option maxRecDepth 100000 in
theorem noteNew_any (w : World) : Calls Tryz.prog 74 #[] w fun e w' => ∃ r, e = .returned (.pointer (some ⟨r, 0, none⟩)) ∧ w.heap.size ≤ r ∧ r < w'.heap.size ∧ Blk w' r 186 (noteCells (.slice none 0 0) 0) ∧ Below w.heap.size w w' := by
  go_enter Tryz.func74, Tryz.ntmps74
  go_wp2
  go_ret
  exact ⟨w.heap.size, rfl, Nat.le_refl _, by simp, Blk.newAt rfl, (Below.refl _ _).alloc (Nat.le_refl _) _⟩
theorem NoteAt.start {w : World} {r B : Nat} (h : Blk w r 186 (noteCells (.slice none 0 0) 0)) (hB : r < B) : NoteAt w r B (.slice none 0 0) [] [] 0 :=
  ⟨hB, h, ⟨rfl, .inl ⟨rfl, rfl⟩⟩, fun j x hx => by simp at hx⟩

theorem NoteAt.shape {w : World} {r B many : Nat} {lv : Value} {vs : List Value} {l : List (List UInt8)} (h : NoteAt w r B lv vs l many) : ∃ A cap, lv = .slice A l.length cap := by
  rcases h.row.2 with ⟨rfl, h0⟩ | ⟨g, cap, cur, rfl, _⟩
  · exact ⟨none, 0, by rw [h0]⟩
  · exact ⟨_, cap, rfl⟩
set_option maxRecDepth 100000 in
set_option maxHeartbeats 1000000 in
theorem noteOf_big (r : Nat) (A : Option Addr) (n c : Nat) (w : World) (hn : 65536 < n) (hc : n ≤ c) (hcm : c ≤ maxLen) :
    Calls Tryz.prog 192 #[.pointer (some ⟨r, 0, none⟩), .slice A n c] w fun e w' => e = .returned (.tuple #[.agg inkZ, .int .i64 5]) ∧ Below w.heap.size w w' := by
  have hz : inkZ.size = 32 := by simp [inkZ, bRow]
  have ho : inkZ.all (·.oneCell') = true := bRow_one _
  have he : inkZ = #[.int .u8 0, .int .u8 0, .int .u8 0, .int .u8 0, .int .u8 0, .int .u8 0, .int .u8 0, .int .u8 0, .int .u8 0, .int .u8 0, .int .u8 0, .int .u8 0, .int .u8 0, .int .u8 0, .int .u8 0, .int .u8 0, .int .u8 0, .int .u8 0, .int .u8 0, .int .u8 0, .int .u8 0, .int .u8 0, .int .u8 0, .int .u8 0, .int .u8 0, .int .u8 0, .int .u8 0, .int .u8 0, .int .u8 0, .int .u8 0, .int .u8 0, .int .u8 0] := by kernel_rfl
  have HZ := Lib.hid hz
  have HO := Lib.hid ho
  have HE := Lib.hid he
  clear hz ho he
  generalize inkZ = zd at HZ HO HE ⊢
  have hX : Below w.heap.size w (w.alloc (.cells zd 60)) := (Below.refl _ _).alloc (Nat.le_refl _) _
  have HX := Lib.hid hX
  unfold maxLen at hcm
  clear hX
  go_enter Tryz.func192, Tryz.ntmps192
  go_wp2_with (refine wpList_store_part rfl 60 (.tmp 4) _ rfl w.heap.size 0 zd rfl (by rw [HE.out]; rfl) 60 zd (by rw [HE.out]; exact Blk.newAt rfl) (by rw [HZ.out]; rfl) (by rw [HZ.out]; simp) HO.out ?_; intro W5 hT5 hB5; rw [spl_self _ _ rfl] at hB5)
  refine bodyPost_ret (results_part2 rfl _ _ w.heap.size 32 60 _ _ rfl hB5 Tryz.underlying60 rfl rfl HZ.out) rfl ⟨rfl, ?_⟩
  have := HX.out
  rw [HE.out] at this
  exact hT5.below this (Nat.le_refl _)

theorem row_later {wr w6 : World} {B : Nat} {e : TypeId} {s n : Nat} {lv : Value} {vs : List Value} (h : wr.ownsRow B e s lv n vs) (hb : Below wr.heap.size wr w6) (o : Obj) : (w6.alloc o).ownsRow B e s lv n vs :=
  row_keep h fun b hv => by
    have hlt : b < wr.heap.size := by
      rcases h.2 with ⟨rfl, _⟩ | ⟨g, cap, cur, rfl, hg, hh, _⟩
      · simp [Value.ownBlock] at hv
      · simp [Value.ownBlock] at hv; subst hv
        rcases Nat.lt_or_ge g wr.heap.size with h | h
        · exact h
        · rw [Array.getElem?_eq_none h] at hh; cases hh
    exact (Below.heap_alloc w6 o b (by have := hb.size; omega)).trans (hb.block b hlt)
theorem reads_one (w : World) (x : Value) (t : TypeId) : Reads (w.alloc (.cells #[x] t)) (w.heap.size + 1) 1 (some ⟨w.heap.size, 0, none⟩) 1 [x] :=
  ⟨rfl, fun _ => ⟨_, rfl, Nat.lt_succ_self _, cell_one_new w x t⟩⟩
theorem row_shape {w : World} {B : Nat} {e : TypeId} {s n : Nat} {v : Value} {vs : List Value} (h : w.ownsRow B e s v n vs) : ∃ A c, v = .slice A n c := by
  rcases h.2 with ⟨rfl, h0⟩ | ⟨g, cap, cur, rfl, _⟩
  · exact ⟨none, 0, by rw [h0]⟩
  · exact ⟨_, cap, rfl⟩
theorem NoteAt.row_ne {w : World} {r B many : Nat} {lv : Value} {vs : List Value} {l : List (List UInt8)} (h : NoteAt w r B lv vs l many) : lv.ownBlock ≠ some r := fun e => by have := h.row_lt e; have := h.lt; omega
theorem NoteAt.snoc {wr w6 w8 : World} {r B many : Nat} {lv v v8 : Value} {vs : List Value} {l : List (List UInt8)} {xs : List UInt8} {o : Obj} (h : NoteAt wr r B lv vs l many) (hb6 : Below wr.heap.size wr w6) (hov : OwnB w6 wr.heap.size v xs)
    (hown8 : w8.ownsRow B 22 1 v8 (l.length + 1) (vs ++ [v])) (hg8 : (w6.alloc o).grownBy w8 lv.ownBlock) (hor8 : v8.ownBlock = lv.ownBlock ∨ v8.ownBlock = some (w6.alloc o).heap.size) (hB : B ≤ wr.heap.size) :
    NoteAt (w8.setCell ⟨r, 0, none⟩ v8) r B v8 (vs ++ [v]) (l ++ [xs]) many := by
  have hs6 := hb6.size
  have hsa : (w6.alloc o).heap.size = w6.heap.size + 1 := by simp
  have hbo := fun b (hb : v8.ownBlock = some b) => (show (lv.ownBlock = some b ∨ b = w6.heap.size + 1) by
    rcases hor8 with e | e
    · exact .inl (e ▸ hb)
    · rw [e, hsa] at hb; injection hb with hb; exact .inr hb.symm)
  have hrs := h.cells.lt
  have hlt := h.lt
  have hne : v8.ownBlock ≠ some r := fun e => by
    rcases hbo r e with e | e
    · exact h.row_ne e
    · omega
  refine ⟨hlt, ?_, ?_, fun j x hj => ?_⟩
  · exact ((((h.cells.below' hb6).alloc o).grown hg8 (fun e => h.row_ne e.symm)).set_ 0 v8)
  · rw [List.length_append]
    exact row_keep hown8 fun b hb => Below.heap_setCell w8 ⟨r, 0, none⟩ v8 b (fun e => hne (by rw [hb]; exact congrArg some e))
  · rcases Nat.lt_or_ge j l.length with hjl | hjl
    · rw [List.getElem?_append_left hjl] at hj
      obtain ⟨u, hu, ho, hd⟩ := h.each j x hj
      have hul : j < vs.length := by rw [h.len]; exact hjl
      refine ⟨u, by rw [List.getElem?_append_left hul]; exact hu, ?_, fun b hb e => ?_⟩
      · refine ho.keep fun b hb => ?_
        have h1 := ho.lt hb
        have h2 := ho.ge hb
        exact (Below.heap_setCell w8 ⟨r, 0, none⟩ v8 b (by show b ≠ r; omega)).trans ((hg8.block b (by omega) (fun e => hd b hb e.symm)).trans ((Below.heap_alloc w6 o b (by omega)).trans (hb6.block b h1)))
      · have h1 := ho.lt hb
        rcases hbo b e with e | e
        · exact hd b hb e
        · omega
    · rw [List.getElem?_append_right hjl] at hj
      have hj0 : j - l.length = 0 := by
        rcases Nat.eq_zero_or_pos (j - l.length) with h | h
        · exact h
        · rw [List.getElem?_eq_none (by simp; omega)] at hj; cases hj
      rw [hj0] at hj
      simp at hj
      subst hj
      have hul : vs.length ≤ j := by rw [h.len]; exact hjl
      refine ⟨v, by rw [List.getElem?_append_right hul, h.len, hj0]; rfl, ?_, fun b hb e => ?_⟩
      · refine (hov.more hB).keep fun b hb => ?_
        have h1 := hov.lt hb
        have h2 := hov.ge hb
        exact (Below.heap_setCell w8 ⟨r, 0, none⟩ v8 b (by show b ≠ r; omega)).trans ((hg8.block b (by omega) (fun e => by have := h.row_lt e.symm; omega)).trans (Below.heap_alloc w6 o b (by omega)))
      · have h1 := hov.lt hb
        have h2 := hov.ge hb
        rcases hbo b e with e | e
        · have := h.row_lt e; omega
        · omega
theorem NoteAt.snoc_held {wr w6 : World} {r B many : Nat} {lv v v8 : Value} {vs : List Value} {l : List (List UInt8)} {xs : List UInt8} {o : Obj} (h : NoteAt wr r B lv vs l many) (hb6 : Below wr.heap.size wr w6) (hov : OwnB w6 wr.heap.size v xs)
    (hor8 : v8.ownBlock = lv.ownBlock ∨ v8.ownBlock = some (w6.alloc o).heap.size) : ∀ b, Held v8 (vs ++ [v]) b → Held lv vs b ∨ wr.heap.size ≤ b := by
  have hs6 := hb6.size
  have hsa : (w6.alloc o).heap.size = w6.heap.size + 1 := by simp
  rintro b (hb | ⟨u, hu, hb⟩)
  · rcases hor8 with e | e
    · exact .inl (.inl (e ▸ hb))
    · rw [e, hsa] at hb; injection hb with hb; exact .inr (by omega)
  · rcases List.mem_append.1 hu with hu | hu
    · exact .inl (.inr ⟨u, hu, hb⟩)
    · rw [List.mem_singleton] at hu
      subst hu
      exact .inr (hov.ge hb)
theorem addInk_mem' {l : List (List UInt8)} {x : List UInt8} (h : x ∈ l) : addInk l x = l := by unfold addInk; rw [if_pos h]
theorem addInk_put {l : List (List UInt8)} {x : List UInt8} (h : x ∉ l) : addInk l x = l ++ [x] := by unfold addInk; rw [if_neg h]
theorem NoteAt.asked {w : World} {r B many : Nat} {lv : Value} {vs : List Value} {l : List (List UInt8)} (h : NoteAt w r B lv vs l many) : NoteAt (w.setCell ⟨r, 1, none⟩ (.int .i64 ((many + 1 : Nat) : Int))) r B lv vs l (many + 1) :=
  ⟨h.lt, h.cells.set_ 1 _, row_keep h.row fun b hb => Below.heap_setCell w ⟨r, 1, none⟩ _ b (by have := h.row_lt hb; have := h.lt; show b ≠ r; omega), fun j x hx => by
    obtain ⟨v, h1, h2, h3⟩ := h.each j x hx
    exact ⟨v, h1, h2.keep fun b hb => Below.heap_setCell w ⟨r, 1, none⟩ _ b (by have := h2.ge hb; have := h.lt; show b ≠ r; omega), h3⟩⟩

set_option maxRecDepth 100000 in
set_option maxHeartbeats 2000000 in
theorem noteOf_any (r B many : Nat) (lv : Value) (vs : List Value) (l : List (List UInt8)) (A : Option Addr) (n c : Nat) (xs : List UInt8) (w : World) (Bx : Nat) (h : NoteAt w r B lv vs l many) (hr : Reads w Bx 1 A n (xs.map vb)) (hB : Bx ≤ w.heap.size)
    (hBB : B ≤ w.heap.size) (hx : ∀ a, 0 < n → A = some a → a.block ≠ r) (hn : n ≤ 65536) (hl : l.length ≤ 1000000) (hm : many ≤ 1000000) :
    Calls Tryz.prog 192 #[.pointer (some ⟨r, 0, none⟩), .slice A n c] w fun e w' => ∃ lv' vs', e = .returned (.tuple #[.agg (bRow (shaOf xs)), .int .i64 0]) ∧ NoteAt w' r B lv' vs' (addInk l xs) (many + 1) ∧ (∀ b, Held lv' vs' b → Held lv vs b ∨ w.heap.size ≤ b) ∧ OnlyNote r lv w w' := by
  have hxn : xs.length = n := by have := hr.1; simpa using this
  have HXN := Lib.hid hxn
  have HK := Lib.hid hx
  have HN := Lib.hid h
  have HRD := Lib.hid hr
  have hrs := h.cells.lt
  clear h hr hxn hx
  go_enter Tryz.func192, Tryz.ntmps192
  go_upto_region 3 with fail
  have hW := Blk.new w 60 (Array.replicate 32 (.int .u8 0))
  have hX1 : Below w.heap.size w (w.alloc (.cells (Array.replicate 32 (.int .u8 0)) 60)) := (Below.refl _ _).alloc (Nat.le_refl _) _
  have hS1 : (w.alloc (.cells (Array.replicate 32 (.int .u8 0)) 60)).heap.size = w.heap.size + 1 := by simp
  have HN1 := Lib.hid (HN.out.below hX1)
  have HRD1 := Lib.hid (HRD.out.below (hX1.mono hB))
  rw [zeros32a] at hW hX1 hS1 HN1 HRD1
  obtain ⟨gd, hgd⟩ : ∃ g, g = w.heap.size := ⟨_, rfl⟩
  rw [← hgd] at hW hS1 ⊢
  generalize w.alloc _ = W1 at hW hX1 hS1 HN1 HRD1 ⊢
  have HGD := Lib.hid hgd
  rw [← hgd] at hrs
  have hgB : Bx ≤ gd := by omega
  have hgBB : B ≤ gd := by omega
  clear hgd
  have HD1 := Lib.hid hW
  have HX1 := Lib.hid hX1
  clear hW hX1
  have c1 : W1.cell? ⟨r, 1, none⟩ = some (.int .i64 (many : Int)) := (HN1.out.cells.cell 1).trans rfl
  have f1 := HN1.out.cells.frozen 1
  go_wp2_with fail
  rw [show ((many : Int) + 1) = ((many + 1 : Nat) : Int) by omega]
  have HT2 := Lib.hid (Turned.setCell W1 ⟨r, 1, none⟩ (.int .i64 ((many + 1 : Nat) : Int)))
  have HN2 := Lib.hid HN1.out.asked
  have HO2 := Lib.hid ((OnlyNote.of_below (r := r) (lv := lv) HX1.out).set 1 (.int .i64 ((many + 1 : Nat) : Int)))
  generalize W1.setCell _ _ = W2 at HT2 HN2 HO2 ⊢
  have hs2 := HT2.out.size
  clear c1 f1
  have hrd2 : Reads W2 Bx 1 A n (xs.map vb) := HRD1.out.keepAt (fun a h0 ha p hp => HT2.out.cell (by have := HK.out a h0 ha; show p.block ≠ r; omega))
  refine (refOf_any A n c xs W2 Bx hrd2 (by omega) (by omega)).mono ?_
  rintro _ W3 ⟨rfl, hb3⟩
  have HN3 := Lib.hid (HN2.out.below hb3)
  have HRD3 := Lib.hid (hrd2.below (hb3.mono (by omega)))
  have HD3 := Lib.hid ((HT2.out.blk HD1.out (by show gd ≠ r; omega)).below hb3 (by omega))
  have HO3 := Lib.hid (HO2.out.trans_below hb3)
  have hs3 := hb3.size
  clear hb3 hrd2
  have hdl := shaOf_len xs
  have hds : (bRow (shaOf xs)).size = 32 := by rw [bRow_size, hdl]
  have HDS := Lib.hid hds
  have HDO := Lib.hid (bRow_one (shaOf xs))
  clear hdl hds
  generalize hd : bRow (shaOf xs) = D at HDS HDO ⊢
  have HDD := Lib.hid hd
  clear hd
  go_upto_region 5 with (refine wpList_store_part rfl 60 (.tmp 6) (.tmp 21) rfl W3.heap.size 0 D rfl rfl 60 _ (Blk.newAt rfl) (by rw [HDS.out]; rfl) (by rw [HDS.out]; simp) HDO.out ?_; intro W4 hT4 hB4; rw [spl_self _ _ (by rw [HDS.out]; simp)] at hB4)
  have hX4 : Below W3.heap.size W3 W4 := hT4.below ((Below.refl _ _).alloc (Nat.le_refl _) _) (Nat.le_refl _)
  have HN4 := Lib.hid (HN3.out.below hX4)
  have HRD4 := Lib.hid (HRD3.out.below (hX4.mono (by omega)))
  have HD4 := Lib.hid (HD3.out.below' hX4)
  have HO4 := Lib.hid (HO3.out.trans_below hX4)
  have hs4 := hX4.size
  obtain ⟨ge, hge⟩ : ∃ g, g = W3.heap.size := ⟨_, rfl⟩
  rw [← hge] at hB4 ⊢
  have hgel : gd < ge := by omega
  have HB4 := Lib.hid hB4
  clear hT4 hX4 hB4 hge
  go_wp2_with fail
  go_loopw [7] (fun jv wr => ∃ j : Nat, j ≤ l.length ∧ jv = .int .i64 j ∧ (∀ k y, k < j → l[k]? = some y → y ≠ xs) ∧ Below W4.heap.size W4 wr) (fun jv _ => l.length - (intOf jv).toNat)
  case atStart => exact ⟨0, by omega, rfl, by omega, Below.refl _ _⟩
  case round =>
    obtain ⟨j, hj, rfl, hno, hE⟩ := hrel
    have HNO := Lib.hid hno
    have HE := Lib.hid hE
    have hse := hE.size
    clear hE hno
    have HNE := Lib.hid (HN4.out.below HE.out)
    obtain ⟨LA, Lc, hlv⟩ := HNE.out.shape
    have c0 : wr.cell? ⟨r, 0, none⟩ = some (.slice LA l.length Lc) := by rw [← hlv]; exact (HNE.out.cells.cell 0).trans rfl
    by_cases hjl : j < l.length
    · obtain ⟨ad, cap, Aj, mj, cj, hlv', hcell, hmc, hcm, hrj, hadb⟩ := HNE.out.at_ (List.getElem?_eq_getElem hjl)
      rw [hlv] at hlv'
      injection hlv' with h1 h2 h3
      subst h1
      subst h3
      have hrde := HRD4.out.below (HE.out.mono (by omega))
      have hmj : l[j].length = mj := by have := hrj.1; simpa using this
      have heq := eqBytes_any Aj A mj n cj c l[j] xs wr _ _ hrj hrde (by unfold maxLen at hcm ⊢; omega) (by unfold maxLen; omega)
      by_cases hyx : l[j] = xs
      · rw [decide_eq_true hyx] at heq
        have hadd : addInk l xs = l := addInk_mem' (hyx ▸ List.getElem_mem hjl)
        have HAD := Lib.hid hadd
        clear hadd
        go_wp2_with fail
        refine heq.mono ?_
        rintro _ W5 ⟨rfl, q, hq⟩
        have hb5 : Below wr.heap.size wr W5 := hq ▸ below_drewN (Below.refl _ _) q
        have HN5 := Lib.hid (HNE.out.below hb5)
        have hEb := HE.out.trans (hb5.mono hse)
        have HD5 := Lib.hid (HD4.out.below' hEb)
        have HB5 := Lib.hid (HB4.out.below' hEb)
        have HO5 := Lib.hid (HO4.out.trans_below hEb)
        clear hq hb5 hEb
        go_wp2_with (first
          | (refine wpList_load_part rfl 60 (.tmp 6) rfl ge 0 32 rfl 60 _ D _ HB5.out Tryz.underlying60 rfl rfl HDS.out (fun _ _ => by rw [Nat.zero_add]) ?_)
          | (refine wpList_store_part rfl 60 (.tmp 4) (.tmp 40) rfl gd 0 D rfl rfl 60 _ HD5.out (by rw [HDS.out]; rfl) (by rw [HDS.out]; simp) HDO.out ?_; intro W8 hT8 hB8; rw [spl_self _ _ (by rw [HDS.out]; rfl)] at hB8))
        refine bodyPost_ret (results_part2 rfl _ _ gd 32 60 _ _ rfl hB8 Tryz.underlying60 rfl rfl HDS.out) rfl ⟨lv, vs, by rw [HDD.out]; rfl, ?_, fun b hb => .inl hb, ?_⟩
        · rw [HAD.out]
          exact HN5.out.keep (hT8.block r (by omega)) fun b hb => hT8.block b (by have := HN4.out.held hb; have := HN.out.held hb; have := HGD.out; omega)
        · exact HO5.out.later hT8 (by have := HGD.out; omega)
      · rw [decide_eq_false hyx] at heq
        go_wp2_with fail
        refine heq.mono ?_
        rintro _ W5 ⟨rfl, q, hq⟩
        have hb5 : Below wr.heap.size wr W5 := hq ▸ below_drewN (Below.refl _ _) q
        have HE5 := Lib.hid (HE.out.trans (hb5.mono hse))
        clear hq hb5
        go_wp2_with fail
        go_roundw
        case rel =>
          refine ⟨j + 1, by omega, by go_num, fun k y hk hy => ?_, HE5.out⟩
          rcases Nat.lt_or_ge k j with h | h
          · exact HNO.out k y h hy
          · obtain rfl : k = j := by omega
            rw [List.getElem?_eq_getElem hjl] at hy
            injection hy with hy
            exact hy ▸ hyx
        case measure => simp [intOf]; omega
    · obtain rfl : j = l.length := by omega
      have hadd : addInk l xs = l ++ [xs] := addInk_put (fun hm => by obtain ⟨k, hk, hk2⟩ := List.getElem_of_mem hm; exact HNO.out k _ hk (List.getElem?_eq_getElem hk) hk2)
      have HAD := Lib.hid hadd
      have HCB := Lib.hid (copyBytes_any A n c xs wr.drew Bx (HRD4.out.below (HE.out.mono (by omega))).drew (by show Bx ≤ wr.heap.size; omega) (by omega))
      clear hadd
      have HRW := Lib.hid (fun W (hb : Below wr.heap.size wr W) => (HNE.out.below hb))
      obtain ⟨i0, hi0, hz0, hz1, hz2⟩ := info_parts (show (Tryz.prog.info? 22).map (fun i => (i.zero, i.size, i.bytes)) = some (some (.slice none 0 0), 1, 24) by kernel_rfl)
      go_upto_region 10 with fail
      go_region_law (first
        | (go_simp; go_at_call 8; refine HCB.out.mono ?_; rintro _ w6 ⟨v, rfl, hov, hb6'⟩; have hb6 : Below wr.heap.size wr w6 := ⟨hb6'.os, hb6'.tape, hb6'.output, hb6'.size, hb6'.block⟩; clear hb6'; obtain ⟨Av, cv, rfl, hvc, hvm, hvr, hvB⟩ := own_slice_b hov; have c6 := (hb6.cell (show (⟨r, 0, none⟩ : Addr).block < wr.heap.size from HNE.out.cells.lt)).trans c0; have c7 := fun o => (World.cell?_alloc_lt w6 o ⟨r, 0, none⟩ (by have := hb6.size; have := HNE.out.cells.lt; show r < _; omega)).trans c6)
        | (refine step_append_any _ rfl (.tmp 45) (.tmp 48) 23 rfl B 22 i0 _ 1 24 Tryz.underlying23 hi0 hz0 hz1 hz2 rfl (by omega) (.slice LA l.length Lc) l.length vs (rfl) (by rw [← hlv]; exact row_later HNE.out.row hb6 _) (w6.heap.size + 1) (some ⟨w6.heap.size, 0, none⟩) 1 1 [.slice Av xs.length cv] (rfl) (reads_one _ _ _) (by simp [Value.oneCell']) (by unfold maxLen; omega) (by omega) (by have := hb6.size; simp; have : wr.drew.heap.size = wr.heap.size := rfl; omega) ?_; intro v8 w8 hown8 hg8 hor8; obtain ⟨A8, C8, rfl⟩ := row_shape hown8; have HB8 := ((HNE.out.cells.below' hb6).alloc _).grown hg8 (by rw [← hlv]; exact fun e => HNE.out.row_ne e.symm); have c8 : w8.cell? ⟨r, 0, none⟩ = some lv := (HB8.cell 0).trans rfl; have f8 := HB8.frozen 0))
      all_goals
        have hrw : (w6.alloc (.cells #[.slice Av xs.length cv] 22)).grownBy w8 lv.ownBlock := hlv ▸ hg8
        have hor : (Value.slice A8 (l.length + 1) C8).ownBlock = lv.ownBlock ∨ (Value.slice A8 (l.length + 1) C8).ownBlock = some (w6.alloc (.cells #[.slice Av xs.length cv] 22)).heap.size := hlv ▸ hor8
        have hB6 : B ≤ wr.heap.size := by omega
        have HN9 := Lib.hid (HNE.out.snoc hb6 (hov.more (Nat.le_refl wr.heap.size)) hown8 hrw hor hB6)
        have HH9 := Lib.hid (HNE.out.snoc_held hb6 (hov.more (Nat.le_refl wr.heap.size)) hor)
        have HO9 := Lib.hid ((((HO4.out.trans_below HE.out).trans_below hb6).trans_below ((Below.refl _ w6).alloc (Nat.le_refl _) (.cells #[.slice Av xs.length cv] 22))).grown hrw |>.set 0 (.slice A8 (l.length + 1) C8))
        have hB6 := HE.out.trans (hb6.mono hse)
        have HD9 := Lib.hid ((((HD4.out.below' hB6).alloc (.cells #[.slice Av xs.length cv] 22)).grown hrw (fun e => by have := HN4.out.row_lt e.symm; have := HN.out.row_lt e.symm; have := HGD.out; omega)).far (p := ⟨r, 0, none⟩) (by show gd ≠ r; omega) (.slice A8 (l.length + 1) C8))
        have HB9 := Lib.hid ((((HB4.out.below' hB6).alloc (.cells #[.slice Av xs.length cv] 22)).grown hrw (fun e => by have := HN.out.row_lt e.symm; have := HGD.out; omega)).far (p := ⟨r, 0, none⟩) (by show ge ≠ r; omega) (.slice A8 (l.length + 1) C8))
        clear hrw hor hB6 hov hb6 hown8 hg8 hor8 c8 f8 HB8 c6 c7 hvc hvm hvr hvB
        generalize w8.setCell _ _ = W9 at HN9 HO9 HD9 HB9 ⊢
        go_wp2_with (first
          | (refine wpList_load_part rfl 60 (.tmp 6) rfl ge 0 32 rfl 60 _ D _ HB9.out Tryz.underlying60 rfl rfl HDS.out (fun _ _ => by rw [Nat.zero_add]) ?_)
          | (refine wpList_store_part rfl 60 (.tmp 4) (.tmp 52) rfl gd 0 D rfl rfl 60 _ HD9.out (by rw [HDS.out]; rfl) (by rw [HDS.out]; simp) HDO.out ?_; intro W10 hT10 hB10; rw [spl_self _ _ (by rw [HDS.out]; rfl)] at hB10))
        refine bodyPost_ret (results_part2 rfl _ _ gd 32 60 _ _ rfl hB10 Tryz.underlying60 rfl rfl HDS.out) rfl ⟨.slice A8 (l.length + 1) C8, vs ++ [.slice Av xs.length cv], by rw [HDD.out]; rfl, ?_, ?_, HO9.out.later hT10 (by have := HGD.out; omega)⟩
        · rw [HAD.out]
          exact HN9.out.keep (hT10.block r (by omega)) fun b hb => hT10.block b (by
            rcases HH9.out b hb with h | h
            · have := HN.out.held h; have := HGD.out; omega
            · omega)
        · intro b hb
          rcases HH9.out b hb with h | h
          · exact .inl h
          · exact .inr (by have := HGD.out; omega)

theorem OnlyNote.refl (r : Nat) (lv : Value) (w : World) : OnlyNote r lv w w := ⟨rfl, rfl, rfl, Nat.le_refl _, fun _ _ _ _ => rfl⟩
theorem noteOf_all (r B many : Nat) (lv : Value) (vs : List Value) (l : List (List UInt8)) (A : Option Addr) (n c : Nat) (xs : List UInt8) (w : World) (Bx : Nat) (h : NoteAt w r B lv vs l many) (hr : Reads w Bx 1 A n (xs.map vb)) (hB : Bx ≤ w.heap.size)
    (hBB : B ≤ w.heap.size) (hx : ∀ a, 0 < n → A = some a → a.block ≠ r) (hc : n ≤ c) (hcm : c ≤ maxLen) (hl : l.length ≤ 1000000) (hm : many ≤ 1000000) :
    Calls Tryz.prog 192 #[.pointer (some ⟨r, 0, none⟩), .slice A n c] w fun e w' => ∃ D code lv' vs', e = .returned (.tuple #[.agg D, .int .i64 code]) ∧ OfAns D code xs ∧ NoteAt w' r B lv' vs' (noteInk l xs) (noteN many xs) ∧ (∀ b, Held lv' vs' b → Held lv vs b ∨ w.heap.size ≤ b) ∧ OnlyNote r lv w w' := by
  have hxn : xs.length = n := by have := hr.1; simpa using this
  by_cases hn : n ≤ 65536
  · refine (noteOf_any r B many lv vs l A n c xs w Bx h hr hB hBB hx hn hl hm).mono ?_
    rintro e w' ⟨lv', vs', rfl, h1, h2, h3⟩
    have hx : xs.length ≤ 65536 := by omega
    refine ⟨_, _, lv', vs', rfl, ⟨by rw [bRow_size, shaOf_len], bRow_one _, fun _ => ⟨rfl, rfl⟩, fun hh => absurd hh (by omega)⟩, ?_, h2, h3⟩
    unfold noteInk noteN
    rw [if_pos hx, if_pos hx]
    exact h1
  · refine (noteOf_big r A n c w (by omega) hc hcm).mono ?_
    rintro e w' ⟨rfl, hb⟩
    have hx : ¬ xs.length ≤ 65536 := by omega
    refine ⟨_, _, lv, vs, rfl, ⟨by simp [inkZ, bRow], bRow_one _, fun hh => absurd hh hx, fun _ => ⟨rfl, rfl⟩⟩, ?_, fun b hb => .inl hb, OnlyNote.of_below hb⟩
    unfold noteInk noteN
    rw [if_neg hx, if_neg hx]
    exact h.below hb

end Go.Proofs.YtcpngeiahgoacaaGreat

/- bastideref09 (trees) over a book of bastideref03: the book, a leaf's digest. -/
namespace Go.Proofs.YtcpngeiahgoacaaGreat
set_option linter.unusedVariables false
set_option linter.unusedSimpArgs false
open Go.RowKit Go.Maps

attribute [local irreducible] wpList wpCalm
/-- a document's book that holds no block of N in its lists -/
structure RBk (w : World) (r : Nat) (N : Nat → Prop) (k : Nat) : Prop where
  ex : ∃ B lv vs l many, NoteAt w r B lv vs l many ∧ B ≤ w.heap.size ∧ (∀ b, Held lv vs b → ¬ N b) ∧ l.length ≤ k ∧ many ≤ k
/-- what a call of the book may turn -/
def RM (r : Nat) (N : Nat → Prop) (b : Nat) : Prop := b = r ∨ ¬ N b
theorem RBk.below {w w' : World} {r k : Nat} {N : Nat → Prop} (h : RBk w r N k) (hb : Below w.heap.size w w') : RBk w' r N k := by
  obtain ⟨B, lv, vs, l, many, h1, h2, h3, h4, h5⟩ := h.ex
  exact ⟨B, lv, vs, l, many, h1.below hb, by have := hb.size; omega, h3, h4, h5⟩
theorem RBk.later {w w' : World} {r k : Nat} {N : Nat → Prop} (h : RBk w r N k) (hb : Below w.heap.size w w') : RBk w' r (fun b => N b ∨ (w.heap.size ≤ b ∧ b < w'.heap.size)) k := by
  obtain ⟨B, lv, vs, l, many, h1, h2, h3, h4, h5⟩ := h.ex
  exact ⟨B, lv, vs, l, many, h1.below hb, by have := hb.size; omega, fun b hb hn => by
    have := (h1.held hb).2
    rcases hn with hn | hn
    · exact h3 b hb hn
    · omega, h4, h5⟩
theorem RBk.less {w : World} {r k k' : Nat} {N N' : Nat → Prop} (h : RBk w r N k) (hk : k ≤ k') (hN : ∀ b, N' b → N b) : RBk w r N' k' := by
  obtain ⟨B, lv, vs, l, many, h1, h2, h3, h4, h5⟩ := h.ex
  exact ⟨B, lv, vs, l, many, h1, h2, fun b hb hn => h3 b hb (hN b hn), by omega, by omega⟩
theorem RBk.start {w : World} {r : Nat} (h : Blk w r 186 (noteCells (.slice none 0 0) 0)) (N : Nat → Prop) : RBk w r N 0 :=
  ⟨w.heap.size, _, _, _, _, NoteAt.start h h.lt, Nat.le_refl _, (fun b hb => by
    rcases hb with e | ⟨v, hv, _⟩
    · cases e
    · cases hv), by simp, Nat.le_refl _⟩
theorem RBk.lt {w : World} {r k : Nat} {N : Nat → Prop} (h : RBk w r N k) : r < w.heap.size := by
  obtain ⟨B, lv, vs, l, many, h1, _⟩ := h.ex
  exact h1.cells.lt
theorem RBk.blk {w : World} {r k : Nat} {N : Nat → Prop} (h : RBk w r N k) : ∃ cs, Blk w r 186 cs := by
  obtain ⟨B, lv, vs, l, many, h1, _⟩ := h.ex
  exact ⟨_, h1.cells⟩
theorem RM.mono {r : Nat} {N N' : Nat → Prop} (h : ∀ b, N b → N' b) {b : Nat} (hb : RM r N' b) : RM r N b := hb.imp id fun hn e => hn (h b e)
theorem rbOf_any (w : World) (r k : Nat) (N : Nat → Prop) (A : Option Addr) (n c : Nat) (xs : List UInt8) (h : RBk w r N k) (hk : k ≤ 900000) (hr : Reads w w.heap.size 1 A n (xs.map vb)) (hx : ∀ a, 0 < n → A = some a → a.block ≠ r) (hN : ∀ b, N b → b < w.heap.size) (hc : n ≤ c) (hcm : c ≤ maxLen) (hn : n ≤ 65536) :
    Calls Tryz.prog 192 #[.pointer (some ⟨r, 0, none⟩), .slice A n c] w fun e w' => e = .returned (.tuple #[.agg (bRow (shaOf xs)), .int .i64 0]) ∧ RBk w' r N (k + 1) ∧ Only (RM r N) w w' := by
  obtain ⟨B, lv, vs, l, many, h1, h2, h3, h4, h5⟩ := h.ex
  have hxl : xs.length = n := by have := hr.1; simpa using this
  refine (noteOf_all r B many lv vs l A n c xs w w.heap.size h1 hr (Nat.le_refl _) h2 hx hc hcm (by omega) (by omega)).mono ?_
  rintro e w' ⟨D, code, lv', vs', rfl, ha, hn', hh, ho⟩
  obtain ⟨hc0, rfl⟩ := ha.small (by omega)
  subst hc0
  refine ⟨rfl, ⟨B, lv', vs', _, _, hn', by have := ho.size; omega, fun b hb hn => ?_, ?_, ?_⟩, ho.os, ho.tape, ho.output, ho.size, fun i hi hm => ho.block i hi (fun e => hm (.inl e)) fun e => ?_⟩
  · rcases hh b hb with q | q
    · exact h3 b q hn
    · have := hN b hn; omega
  · unfold noteInk
    split
    · have := addInk_len l xs; omega
    · omega
  · have := noteN_le many xs; omega
  · exact hm (.inr (h3 i (.inl e)))
theorem RBk.kept {w w' : World} {r k : Nat} {N : Nat → Prop} (h : RBk w r N k) (hs : w.heap.size ≤ w'.heap.size) (hk : ∀ b, b < w.heap.size → RM r N b → w'.heap[b]? = w.heap[b]?) : RBk w' r N k := by
  obtain ⟨B, lv, vs, l, many, h1, h2, h3, h4, h5⟩ := h.ex
  exact ⟨B, lv, vs, l, many, h1.keep (hk r h1.cells.lt (.inl rfl)) fun b hb => hk b (h1.held hb).2 (.inr (h3 b hb)), by omega, h3, h4, h5⟩
theorem RBk.turned {w w' : World} {r k g : Nat} {N : Nat → Prop} (h : RBk w r N k) (hT : Turned g w w') (hg : N g) (hr : g ≠ r) : RBk w' r N k :=
  h.kept (by rw [hT.size]; exact Nat.le_refl _) fun b _ hb => hT.block b fun e => by
    subst e
    rcases hb with e | e
    · exact hr e
    · exact e hg
theorem Blk.type_eq {w : World} {g : Nat} {t t' : TypeId} {cs cs' : Array Value} (h : Blk w g t cs) (h' : Blk w g t' cs') : t = t' := by
  refine Classical.byContradiction fun hne => ?_
  exact (Blk.ne_ (t := t) h h' hne) rfl
/-- blocks of other types are never in the book's lists -/
theorem RBk.hold {w : World} {r k : Nat} {N N' : Nat → Prop} (h : RBk w r N k) (hN : ∀ b, N' b → N b ∨ w.heap.size ≤ b ∨ ∃ t cs, Blk w b t cs ∧ t ≠ 22 ∧ t ≠ 5) : RBk w r N' k := by
  obtain ⟨B, lv, vs, l, many, h1, h2, h3, h4, h5⟩ := h.ex
  refine ⟨B, lv, vs, l, many, h1, h2, fun b hb hn => ?_, h4, h5⟩
  have hbl := h1.held hb
  rcases hN b hn with q | q | ⟨t, cs, q, q1, q2⟩
  · exact h3 b hb q
  · omega
  rcases hb with e | ⟨v, hv, e⟩
  · rcases h1.row.2 with ⟨rfl, _⟩ | ⟨g, cap, cur, rfl, hg, hh', _⟩
    · cases e
    · have : b = g := by simpa [Value.ownBlock] using e.symm
      subst this
      exact q1 (q.type_eq hh')
  · obtain ⟨j, hj, hj2⟩ := List.getElem_of_mem hv
    have hl := h1.len
    obtain ⟨v', hv', ho, _⟩ := h1.each j l[j] (List.getElem?_eq_getElem (by omega))
    rw [List.getElem?_eq_getElem hj, hj2] at hv'
    injection hv' with hv'
    subst hv'
    obtain ⟨cur, hcur⟩ := ownB_blk ho e
    exact q2 (q.type_eq hcur)
theorem own_one (w : World) (u : UInt8) (B : Nat) (hB : B ≤ w.heap.size) : (w.alloc (.cells #[vb u] 5)).ownsRow B 5 1 (.slice (some ⟨w.heap.size, 0, none⟩) 1 1) 1 [vb u] :=
  ⟨rfl, .inr ⟨w.heap.size, 1, #[vb u], rfl, hB, Blk.newAt rfl, Nat.le_refl _, by unfold maxLen; omega, rfl, rfl⟩⟩

set_option maxRecDepth 100000 in
set_option maxHeartbeats 4000000 in
theorem refLeaf_any (w : World) (r k : Nat) (N : Nat → Prop) (A : Option Addr) (n c : Nat) (xs : List UInt8) (h : RBk w r N k) (hk : k ≤ 900000) (hr : Reads w w.heap.size 1 A n (xs.map vb)) (hN : ∀ b, N b → b < w.heap.size) (hn : n < 65536) :
    Calls Tryz.prog 176 #[.pointer (some ⟨r, 0, none⟩), .slice A n c] w fun e w' => e = .returned (.tuple #[.agg (bRow (leafD xs)), .int .i64 0]) ∧ RBk w' r N (k + 1) ∧ Only (RM r N) w w' := by
  have hxl : xs.length = n := by have := hr.1; simpa using this
  have hX := below_lit w (.cells inkZ 60)
  have hk0 : Blk (w.alloc (.cells inkZ 60)) w.heap.size 60 inkZ := Blk.newAt rfl
  have HX := Lib.hid hX
  have HK := Lib.hid hk0
  have HB := Lib.hid h
  have HR := Lib.hid hr
  have HNN := Lib.hid hN
  have HXL := Lib.hid hxl
  have HZ := Lib.hid treeZ_eq
  have HZS := Lib.hid (show inkZ.size = 32 by simp [inkZ, bRow])
  have hds : (bRow (leafD xs)).size = 32 := bRow_size32 (leafD_len xs)
  have hdo := bRow_one (leafD xs)
  obtain ⟨D, hD⟩ : ∃ D, D = bRow (leafD xs) := ⟨_, rfl⟩
  rw [← hD] at hds hdo ⊢
  have HDE := Lib.hid hD
  have HDS := Lib.hid hds
  have HDO := Lib.hid hdo
  obtain ⟨g4, hg4⟩ : ∃ g, g = w.heap.size := ⟨_, rfl⟩
  have hgw : w.heap.size ≤ g4 := by omega
  have hnI : ¬ (65536 : Int) ≤ (n : Int) := by omega
  obtain ⟨i0, hi0, hz0, hz1, hz2⟩ := info_parts u8_info
  have hrl := h.lt
  clear h hr hN hX hk0 hxl hds hdo hD
  go_enter Tryz.func176, Tryz.ntmps176
  go_upto_region 1 with fail
  rw [← HZ.out]
  generalize World.alloc w _ = w1 at HX HK ⊢
  rw [← hg4] at HK ⊢
  have hl4 := HK.out.lt
  have hs1 := HX.out.size
  clear hg4
  have hal := below_lit w1 (.cells #[vb 0] 5)
  have HOW := Lib.hid (own_one w1 0 w1.heap.size (Nat.le_refl _))
  have HR1 := Lib.hid (((HR.out.below HX.out).more hs1).below hal)
  have HAL := Lib.hid hal
  clear hal
  go_wp2_with (at_builtin; go_must (refine wpList_append_any _ rfl (.tmp 11) (.tmp 12) 22 rfl w1.heap.size 5 i0 _ 1 1 Tryz.underlying22 hi0 hz0 hz1 hz2 rfl (by omega) _ 1 [vb 0] rfl HOW.out w1.heap.size A n c (xs.map vb) rfl HR1.out ?c1 ?c2 ?c3 ?c4 ?_))
  case c1 => intro z hz; rfl
  case c2 => unfold maxLen; omega
  case c3 => omega
  intro v3 w3 hown3 hg3 hor3
  have hb3 : Below w1.heap.size w1 w3 := grown_below HAL.out (by simp) hg3 (fun b hb => by simp [Value.ownBlock] at hb; omega)
  have ho3 : OwnB w3 w1.heap.size v3 (leafIn xs) := by
    unfold OwnB leafIn
    rw [List.length_cons, HXL.out, List.map_cons, Nat.add_comm]
    exact hown3
  obtain ⟨A3, c3, hv, q1, q2, q3, q4⟩ := own_slice_b ho3
  obtain ⟨n3, hn3⟩ : ∃ k, k = (leafIn xs).length := ⟨_, rfl⟩
  have hn3b : n3 ≤ 65536 := by rw [hn3]; unfold leafIn; rw [List.length_cons, HXL.out]; omega
  rw [← hn3] at hv q1 q3
  subst hv
  have hs3 := hb3.size
  have hx3 : Below w.heap.size w w3 := HX.out.trans (hb3.mono hs1)
  have hg4 : g4 < w3.heap.size := by omega
  have HOF := Lib.hid (rbOf_any w3 r k (fun b => N b ∨ (w.heap.size ≤ b ∧ b < w3.heap.size)) A3 n3 c3 (leafIn xs) (HB.out.later hx3) hk q3 (fun a _ ha e => by have := q4 a ha; omega) (fun b hb => by
    rcases hb with hb | hb
    · have := HNN.out b hb; omega
    · exact hb.2) q1 q2 hn3b)
  rw [show bRow (shaOf (leafIn xs)) = D from HDE.out.symm] at HOF
  have HK3 := Lib.hid (HK.out.below' hb3)
  have HX3 := Lib.hid hx3
  clear hown3 hg3 hor3 hb3 ho3 hn3 q1 q2 q3 q4 HOW HR1 HAL hx3
  go_wp2_with fail
  refine HOF.out.mono ?_
  rintro _ w4 ⟨rfl, hb4, ho4⟩
  have h4k : ¬ RM r (fun b => N b ∨ (w.heap.size ≤ b ∧ b < w3.heap.size)) g4 := by
    rintro (e | h)
    · omega
    · exact h (.inr ⟨hgw, hg4⟩)
  have HK4 := Lib.hid (ho4.blk HK3.out h4k)
  have HB4 := Lib.hid hb4
  have HO4 := Lib.hid ((Only.of_below HX3.out).trans (ho4.mono fun b _ => RM.mono (N := N) fun b => .inl))
  have hs4 := ho4.size
  clear hb4 ho4 h4k HOF
  go_wp2_with (refine wpList_store_part (o := ⟨none, _, _, _, _, _⟩) rfl 60 (.tmp 4) (.tmp 15) rfl g4 0 D rfl rfl 60 inkZ HK4.out (by rw [HDS.out]; rfl) (by rw [HDS.out, HZS.out]; omega) HDO.out ?_; intro w5 hT5 hD5; rw [spl_self _ _ (by rw [HDS.out, HZS.out])] at hD5)
  refine bodyPost_ret (results_part2 rfl _ _ g4 32 60 _ _ rfl hD5 Tryz.underlying60 rfl rfl HDS.out) rfl ⟨rfl, ?_, ?_⟩
  · exact (HB4.out.turned hT5 (.inr ⟨hgw, hg4⟩) (by omega)).less (Nat.le_refl _) fun b => .inl
  · exact ⟨hT5.os.trans HO4.out.os, hT5.tape.trans HO4.out.tape, hT5.output.trans HO4.out.output, by rw [hT5.size]; exact HO4.out.size, fun i hi hn => (hT5.block i (by omega)).trans (HO4.out.block i hi hn)⟩

end Go.Proofs.YtcpngeiahgoacaaGreat

/- bastideref09.Up over a book of bastideref03. -/
namespace Go.Proofs.YtcpngeiahgoacaaGreat
set_option linter.unusedVariables false
set_option linter.unusedSimpArgs false
open Go.RowKit Go.Maps

attribute [local irreducible] wpList wpCalm

theorem reads_u8 (w : World) (u : UInt8) : Reads (w.alloc (.cells #[vb u] 5)) (w.heap.size + 1) 1 (some ⟨w.heap.size, 0, none⟩) 1 [vb u] := reads_first _ _ _

set_option maxRecDepth 100000 in
set_option maxHeartbeats 4000000 in
theorem refUp_any (w : World) (r k : Nat) (N : Nat → Prop) (A : Option Addr) (n c : Nat) (ds : List (List UInt8)) (h : RBk w r N k) (hk : k ≤ 900000) (hr : Reads w w.heap.size 32 A n (digRow ds)) (hd : Digs ds) (hN : ∀ b, N b → b < w.heap.size) (h1 : 1 ≤ n) (h4 : n ≤ 4) :
    Calls Tryz.prog 177 #[.pointer (some ⟨r, 0, none⟩), .slice A n c] w fun e w' => e = .returned (.tuple #[.agg (bRow (upD ds)), .int .i64 0]) ∧ RBk w' r N (k + 1) ∧ Only (RM r N) w w' := by
  have hxn : ds.length = n := by have h2 := hr.1; rw [digRow_len hd] at h2; omega
  obtain ⟨ad, rfl, hadb, hcell⟩ := hr.2 (by omega)
  have hX := below_lit w (.cells inkZ 60)
  have hk0 : Blk (w.alloc (.cells inkZ 60)) w.heap.size 60 inkZ := Blk.newAt rfl
  have HX := Lib.hid hX
  have HK := Lib.hid hk0
  have HBK := Lib.hid h
  have HNN := Lib.hid hN
  have HXN := Lib.hid hxn
  have HDS := Lib.hid hd
  have HC := Lib.hid hcell
  have HZ := Lib.hid treeZ_eq
  have HZS := Lib.hid (show inkZ.size = 32 by simp [inkZ, bRow])
  have hul := upD_len ds
  have hds := bRow_size32 hul
  have hdo := bRow_one (upD ds)
  obtain ⟨D, hD⟩ : ∃ D, D = bRow (upD ds) := ⟨_, rfl⟩
  rw [← hD] at hds hdo ⊢
  have HDE := Lib.hid hD
  have HDZ := Lib.hid hds
  have HDO := Lib.hid hdo
  obtain ⟨g4, hg4⟩ : ∃ g, g = w.heap.size := ⟨_, rfl⟩
  have hgw : w.heap.size ≤ g4 := by omega
  have hnn : ¬ (n : Int) < 1 := by omega
  have hnn4 : ¬ (4 : Int) < (n : Int) := by omega
  obtain ⟨i0, hi0, hz0, hz1, hz2⟩ := info_parts u8_info
  have hrl := h.lt
  clear h hr hN hX hk0 hxn hds hdo hD hd hcell hul
  go_enter Tryz.func177, Tryz.ntmps177
  go_upto_region 1 with fail
  rw [← HZ.out]
  generalize World.alloc w _ = w1 at HX HK ⊢
  rw [← hg4] at HK ⊢
  have hl4 := HK.out.lt
  have hs1 := HX.out.size
  clear hg4
  have hal := below_lit w1 (.cells #[vb 1] 5)
  have HO1 := Lib.hid (show OwnB (w1.alloc (.cells #[vb 1] 5)) w1.heap.size (.slice (some ⟨w1.heap.size, 0, none⟩) 1 1) (upIn (ds.take 0)) from own_one w1 1 w1.heap.size (Nat.le_refl _))
  have HX1 := Lib.hid (HX.out.trans (hal.mono hs1))
  have HA1 := Lib.hid hal
  have hsz1 := hal.size
  have HSZ := Lib.hid hsz1
  clear hal hsz1
  go_wp2_with fail
  go_loopw [6, 7] (fun ov iv wr => ∃ i : Nat, i ≤ n ∧ iv = .int .i64 i ∧ OwnB wr w1.heap.size ov (upIn (ds.take i)) ∧ Below w1.heap.size w1 wr) (fun _ iv _ => n - (intOf iv).toNat)
  case atStart => exact ⟨0, by omega, rfl, HO1.out, HA1.out⟩
  case round =>
    obtain ⟨i, hi, rfl, hov, hbel⟩ := hrel
    have HOV := Lib.hid hov
    have HB := Lib.hid hbel
    have hsz := hbel.size
    clear hov hbel
    by_cases hin : i < n
    · have hil : i < ds.length := by have := HXN.out; omega
      have hcs := digRow_at HDS.out hil HC.out
      have hlen : (upIn (ds.take i)).length = 1 + i * 32 := by
        rw [upIn_len (fun d hd => HDS.out d (List.mem_of_mem_take hd)), List.length_take, Nat.min_eq_left (by omega)]
        omega
      have htk : upIn (ds.take (i + 1)) = upIn (ds.take i) ++ ds[i] := by
        unfold upIn
        rw [List.take_succ_eq_append_getElem hil, List.flatten_append]
        simp
      have hdl : ds[i].length = 32 := HDS.out _ (List.getElem_mem hil)
      obtain ⟨d, hdd⟩ : ∃ d, d = ds[i] := ⟨_, rfl⟩
      rw [← hdd] at hcs htk hdl
      obtain ⟨xb, hxb⟩ : ∃ xb, xb = upIn (ds.take i) := ⟨_, rfl⟩
      rw [← hxb] at hlen htk HOV
      have HCS := Lib.hid hcs
      have HTK := Lib.hid htk
      have HLN := Lib.hid hlen
      have HDL := Lib.hid hdl
      clear hcs htk hdd hdl hxb hlen
      have hinI : (i : Int) < (n : Int) := by omega
      go_wp2_with fail
      go_loopw [6, 8] (fun ov jv wr => ∃ j : Nat, j ≤ 32 ∧ jv = .int .i64 j ∧ OwnB wr w1.heap.size ov (xb ++ d.take j) ∧ Below w1.heap.size w1 wr) (fun _ jv _ => 32 - (intOf jv).toNat)
      case atStart => exact ⟨0, by omega, rfl, (by rw [List.take_zero, List.append_nil]; exact HOV.out), HB.out⟩
      case round =>
        obtain ⟨j, hj, rfl, hoj, hbj⟩ := hrel
        have HOJ := Lib.hid hoj
        have HBJ := Lib.hid hbj
        have hszj := hbj.size
        clear hoj hbj
        by_cases hjn : j < 32
        · have hjl : j < d.length := by have := HDL.out; omega
          have hcl : wr.cell? ((ad.add (i * 32)).add j) = some (vb d[j]) := by
            have h2 : ((ad.add (i * 32)).add j).block < w.heap.size := by rw [block_of_add, block_of_add]; omega
            have h3 := HCS.out j (vb d[j]) (by simp [bRow, hjl])
            exact (HBJ.out.cell (by have := HX.out.size; omega)).trans ((HX.out.cell h2).trans h3)
          have hnext : xb ++ d.take (j + 1) = (xb ++ d.take j) ++ [d[j]] := by rw [List.take_succ_eq_append_getElem hjl, List.append_assoc]
          have hlx : (xb ++ d.take j).length = 1 + i * 32 + j := by rw [List.length_append, List.length_take, HLN.out, HDL.out, Nat.min_eq_left (by omega)]
          obtain ⟨u, hu⟩ : ∃ u, u = d[j] := ⟨_, rfl⟩
          rw [← hu] at hcl hnext
          obtain ⟨xc, hxc⟩ : ∃ xc, xc = xb ++ d.take j := ⟨_, rfl⟩
          rw [← hxc] at hnext hlx HOJ
          have HNX := Lib.hid hnext
          have HLX := Lib.hid hlx
          have HWN := Lib.hid (show wr.ownsRow w1.heap.size 5 1 _ xc.length (xc.map vb) from HOJ.out)
          have HR1 := Lib.hid (reads_u8 wr u)
          have hjI : (j : Int) < 32 := by omega
          unfold vb at hcl
          clear hnext hlx hu hxc
          go_wp2_with (at_builtin; go_must (refine wpList_append_any _ rfl (.tmp 29) (.tmp 36) 22 rfl w1.heap.size 5 i0 _ 1 1 Tryz.underlying22 hi0 hz0 hz1 hz2 rfl (by omega) _ _ _ rfl (HWN.out.alloc _) (wr.heap.size + 1) (some ⟨wr.heap.size, 0, none⟩) 1 1 [.int .u8 (u.toNat : Int)] rfl HR1.out (by simp [Value.oneCell']) ?c1 ?c2 ?c3 ?_))
          case c1 => have := HLX.out; unfold maxLen; omega
          case c2 => have := HLX.out; omega
          case c3 => simp; omega
          intro v3 w3 hown3 hg3 hor3
          have hb3 := grown_below (HBJ.out.trans ((below_lit wr (.cells #[vb u] 5)).mono hszj)) (by simp; omega) hg3 (fun b hb => HOJ.out.ge hb)
          have HB3 := Lib.hid hb3
          have HO3 := Lib.hid (show OwnB w3 w1.heap.size v3 (xb ++ d.take (j + 1)) by
            unfold OwnB
            rw [HNX.out, List.length_append, List.map_append, List.length_singleton, List.map_singleton]
            exact hown3)
          clear hb3 hown3 hg3 hor3
          go_wp2_with fail
          go_roundw
          case rel => exact ⟨j + 1, by omega, by go_num, HO3.out, HB3.out⟩
          case measure => simp [intOf]; omega
        · obtain rfl : j = 32 := by omega
          have hjI : ¬ ((32 : Nat) : Int) < 32 := by omega
          have HF := Lib.hid (show OwnB wr w1.heap.size _ (upIn (ds.take (i + 1))) by
            have := HOJ.out
            rw [List.take_of_length_le (by have := HDL.out; omega), ← HTK.out] at this
            exact this)
          go_wp2_with fail
          go_roundw
          case rel => exact ⟨i + 1, by omega, by go_num, HF.out, HBJ.out⟩
          case measure => simp [intOf]; omega
    · obtain rfl : i = n := by omega
      have hinI : ¬ (i : Int) < (i : Int) := by omega
      have hov := HOV.out
      rw [List.take_of_length_le (by have := HXN.out; omega)] at hov
      obtain ⟨A3, c3, hv, q1, q2, q3, q4⟩ := own_slice_b hov
      have hul := upIn_len HDS.out
      obtain ⟨n3, hn3⟩ : ∃ k, k = (upIn ds).length := ⟨_, rfl⟩
      have hn3b : n3 ≤ 65536 := by rw [hn3, hul]; have := HXN.out; omega
      rw [← hn3] at hv q1 q3
      subst hv
      have hs3 := HB.out.size
      have hx3 : Below w.heap.size w wr := HX.out.trans (HB.out.mono hs1)
      have hg4 : g4 < wr.heap.size := by omega
      have HOF := Lib.hid (rbOf_any wr r k (fun b => N b ∨ (w.heap.size ≤ b ∧ b < wr.heap.size)) A3 n3 c3 (upIn ds) (HBK.out.later hx3) hk q3 (fun a _ ha e => by have := q4 a ha; omega) (fun b hb => by
        rcases hb with hb | hb
        · have := HNN.out b hb; omega
        · exact hb.2) q1 q2 hn3b)
      rw [show bRow (shaOf (upIn ds)) = D from HDE.out.symm] at HOF
      have HK3 := Lib.hid (HK.out.below' HB.out)
      have HX3 := Lib.hid hx3
      clear hov hn3 q1 q2 q3 q4 hul hx3
      go_wp2_with fail
      refine HOF.out.mono ?_
      rintro _ w4 ⟨rfl, hb4, ho4⟩
      have h4k : ¬ RM r (fun b => N b ∨ (w.heap.size ≤ b ∧ b < wr.heap.size)) g4 := by
        rintro (e | h)
        · omega
        · exact h (.inr ⟨hgw, hg4⟩)
      have HK4 := Lib.hid (ho4.blk HK3.out h4k)
      have HB4 := Lib.hid hb4
      have HO4 := Lib.hid ((Only.of_below HX3.out).trans (ho4.mono fun b _ => RM.mono (N := N) fun b => .inl))
      have hs4 := ho4.size
      clear hb4 ho4 h4k HOF
      go_wp2_with (refine wpList_store_part (o := ⟨none, _, _, _, _, _⟩) rfl 60 (.tmp 4) (.tmp 41) rfl g4 0 D rfl rfl 60 inkZ HK4.out (by rw [HDZ.out]; rfl) (by rw [HDZ.out, HZS.out]; omega) HDO.out ?_; intro w5 hT5 hD5; rw [spl_self _ _ (by rw [HDZ.out, HZS.out])] at hD5)
      refine bodyPost_ret (results_part2 rfl _ _ g4 32 60 _ _ rfl hD5 Tryz.underlying60 rfl rfl HDZ.out) rfl ⟨rfl, ?_, ?_⟩
      · exact (HB4.out.turned hT5 (.inr ⟨hgw, hg4⟩) (by omega)).less (Nat.le_refl _) fun b => .inl
      · exact ⟨hT5.os.trans HO4.out.os, hT5.tape.trans HO4.out.tape, hT5.output.trans HO4.out.output, by rw [hT5.size]; exact HO4.out.size, fun i hi hn => (hT5.block i (by omega)).trans (HO4.out.block i hi hn)⟩

end Go.Proofs.YtcpngeiahgoacaaGreat

/- bastideref09.Levels over a book of bastideref03, of 5 to 16 leaves. -/
namespace Go.Proofs.YtcpngeiahgoacaaGreat
set_option linter.unusedVariables false
set_option linter.unusedSimpArgs false
open Go.RowKit Go.Maps

attribute [local irreducible] wpList wpCalm

theorem row_blk {w : World} {B n s : Nat} {e : TypeId} {v : Value} {vs : List Value} (h : w.ownsRow B e s v n vs) {b : Nat} (hb : v.ownBlock = some b) : ∃ cur, Blk w b e cur := by
  rcases h.2 with ⟨rfl, _⟩ | ⟨g, cap, cur, rfl, hg, hh, _⟩
  · cases hb
  · have : b = g := by simpa [Value.ownBlock] using hb.symm
    subst this
    exact ⟨cur, hh⟩
/-- what keeps rows readable -/
def KeptRows (w : World) (r : Nat) (N : Nat → Prop) (A : Option Addr) (n : Nat) (ls : List (List UInt8)) : Prop :=
  ∀ W, w.heap.size ≤ W.heap.size → (∀ b, b < w.heap.size → ¬ RM r N b → W.heap[b]? = w.heap[b]?) → RowsB W W.heap.size A n ls

structure LoSt (w wr : World) (r k : Nat) (N : Nat → Prop) (ls : List (List UInt8)) (i : Nat) (ov : Value) : Prop where
  row : wr.ownsRow w.heap.size 60 32 ov i (digRow ((ls.take i).map leafD))
  book : RBk wr r N (k + i)
  only : Only (RM r N) w wr
theorem LoSt.call {w wr : World} {r k i : Nat} {N : Nat → Prop} {ls : List (List UInt8)} {ov : Value} (h : LoSt w wr r k N ls i ov) (hN : ∀ b, N b → b < w.heap.size) :
    RBk wr r (fun b => N b ∨ ov.ownBlock = some b) (k + i) ∧ ∀ b, N b ∨ ov.ownBlock = some b → b < wr.heap.size :=
  ⟨h.book.hold fun b hb => hb.imp id fun e => by
    obtain ⟨cur, hc⟩ := row_blk h.row e
    exact .inr ⟨_, cur, hc, by decide, by decide⟩, fun b hb => by
    rcases hb with hb | hb
    · have := hN b hb; have := h.only.size; omega
    · exact (rowD_lt h.row hb).2⟩
theorem LoSt.called {w wr w3 : World} {r k i : Nat} {N : Nat → Prop} {ls : List (List UInt8)} {ov : Value} (h : LoSt w wr r k N ls i ov) (hr : r < w.heap.size) (hb : RBk w3 r (fun b => N b ∨ ov.ownBlock = some b) (k + i + 1)) (ho : Only (RM r (fun b => N b ∨ ov.ownBlock = some b)) wr w3) :
    w3.ownsRow w.heap.size 60 32 ov i (digRow ((ls.take i).map leafD)) ∧ RBk w3 r N (k + (i + 1)) ∧ Only (RM r N) w w3 :=
  ⟨rowD_keep h.row fun b hb => by
    have := rowD_lt h.row hb
    exact ho.block b this.2 (by
      rintro (e | e)
      · omega
      · exact e (.inr hb)), hb.less (by omega) fun b => .inl, h.only.trans (ho.mono fun b _ => RM.mono fun b => .inl)⟩
theorem lo_pushed {w w3 w4 w6 : World} {r k i : Nat} {N : Nat → Prop} {ls : List (List UInt8)} {ov v6 : Value} {x : List UInt8} {D : Array Value} (hx : ls[i]? = some x) (hD : D.toList = (leafD x).map vb) (hr : r < w.heap.size) (hb : RBk w4 r N (k + (i + 1))) (ho : Only (RM r N) w w4) (hrow : w4.ownsRow w.heap.size 60 32 ov i (digRow ((ls.take i).map leafD)))
    (hown : w6.ownsRow w.heap.size 60 32 v6 (i + 1) (digRow ((ls.take i).map leafD) ++ D.toList)) (hg : (w4.alloc (.cells D 60)).grownBy w6 ov.ownBlock) (hN : ∀ b, N b → b < w.heap.size) : LoSt w w6 r k N ls (i + 1) v6 := by
  have hal : Below w4.heap.size w4 (w4.alloc (.cells D 60)) := (Below.refl _ _).alloc (Nat.le_refl _) _
  have hfar : ∀ b, b < w4.heap.size → ov.ownBlock ≠ some b → w6.heap[b]? = w4.heap[b]? := fun b hb hne => (hg.block b (by have := hal.size; omega) (fun e => hne e.symm)).trans (hal.block b hb)
  have hs6 := hg.size
  have hs4 := hal.size
  have hs := ho.size
  refine ⟨?_, ?_, ?_⟩
  · have hil := (List.getElem?_eq_some_iff.1 hx).1
    have he : ls[i] = x := (List.getElem?_eq_some_iff.1 hx).2
    have e : (ls.take (i + 1)).map leafD = (ls.take i).map leafD ++ [leafD x] := by rw [List.take_succ_eq_append_getElem hil, List.map_append, he]; rfl
    rw [e, digRow_app]
    have e2 : digRow [leafD x] = D.toList := by rw [hD]; simp [digRow]
    rw [e2]
    exact hown
  · have hb' : RBk w4 r (fun b => N b ∨ ov.ownBlock = some b) (k + (i + 1)) := hb.hold fun b hb => hb.imp id fun e => by
      obtain ⟨cur, hc⟩ := row_blk hrow e
      exact .inr ⟨_, cur, hc, by decide, by decide⟩
    refine (hb'.kept (w' := w6) (by omega) fun b hbl hm => hfar b hbl fun e => ?_).less (Nat.le_refl _) fun b => .inl
    rcases hm with hm | hm
    · have := rowD_lt hrow e; omega
    · exact hm (.inr e)
  · exact ⟨hg.os.trans (hal.os.trans ho.os), hg.tape.trans (hal.tape.trans ho.tape), hg.output.trans (hal.output.trans ho.output), by omega, fun b hb hn => (hfar b (by omega) (fun e => by have := rowD_lt hrow e; omega)).trans (ho.block b hb hn)⟩

/-- the levels so far -/
structure ReSt (w wr : World) (r k : Nat) (N : Nat → Prop) (ls : List (List UInt8)) (s g c m : Nat) (us : List Value) (ov : Value) : Prop where
  row : wr.ownsRow w.heap.size 189 1 ov (s + 1) (us ++ [.slice (some ⟨g, 0, none⟩) m c])
  len : us.length = s
  dig : DigAt wr g c (lv ls s)
  new : w.heap.size ≤ g
  m : m = (lv ls s).length
  book : RBk wr r N (k + 16 + 4 * s)
  only : Only (RM r N) w wr

/-- within one level -/
structure UpSt (w wo wr : World) (r k : Nat) (N : Nat → Prop) (ds : List (List UInt8)) (g c j : Nat) (ov nv : Value) : Prop where
  row : wr.ownsRow wo.heap.size 60 32 nv j (digRow (abovePre ds j))
  book : RBk wr r (fun b => N b ∨ b = g ∨ ov.ownBlock = some b) (k + j)
  only : Only (RM r (fun b => N b ∨ b = g ∨ ov.ownBlock = some b)) wo wr
theorem UpSt.call {w wo wr : World} {r k g c j : Nat} {N : Nat → Prop} {ds : List (List UInt8)} {ov nv : Value} (h : UpSt w wo wr r k N ds g c j ov nv) (hN : ∀ b, (N b ∨ b = g ∨ ov.ownBlock = some b) → b < wo.heap.size) :
    RBk wr r (fun b => (N b ∨ b = g ∨ ov.ownBlock = some b) ∨ nv.ownBlock = some b) (k + j) ∧ ∀ b, (N b ∨ b = g ∨ ov.ownBlock = some b) ∨ nv.ownBlock = some b → b < wr.heap.size :=
  ⟨h.book.hold fun b hb => hb.imp id fun e => by
    obtain ⟨cur, hc⟩ := row_blk h.row e
    exact .inr ⟨_, cur, hc, by decide, by decide⟩, fun b hb => by
    rcases hb with hb | hb
    · have := hN b hb; have := h.only.size; omega
    · exact (rowD_lt h.row hb).2⟩
theorem UpSt.called {w wo wr w3 : World} {r k g c j : Nat} {N : Nat → Prop} {ds : List (List UInt8)} {ov nv : Value} (h : UpSt w wo wr r k N ds g c j ov nv) (hr : r < wo.heap.size) (hb : RBk w3 r (fun b => (N b ∨ b = g ∨ ov.ownBlock = some b) ∨ nv.ownBlock = some b) (k + j + 1)) (ho : Only (RM r (fun b => (N b ∨ b = g ∨ ov.ownBlock = some b) ∨ nv.ownBlock = some b)) wr w3) :
    w3.ownsRow wo.heap.size 60 32 nv j (digRow (abovePre ds j)) ∧ RBk w3 r (fun b => N b ∨ b = g ∨ ov.ownBlock = some b) (k + (j + 1)) ∧ Only (RM r (fun b => N b ∨ b = g ∨ ov.ownBlock = some b)) wo w3 :=
  ⟨rowD_keep h.row fun b hb => by
    have := rowD_lt h.row hb
    exact ho.block b this.2 (by
      rintro (e | e)
      · omega
      · exact e (.inr hb)), hb.less (by omega) fun b => .inl, h.only.trans (ho.mono fun b _ => RM.mono fun b => .inl)⟩
theorem up_pushed {w wo w3 w4 w6 : World} {r k g c j : Nat} {N : Nat → Prop} {ds : List (List UInt8)} {ov nv v6 : Value} {D : Array Value} (hD : D.toList = (upD (grp ds j)).map vb) (hr : r < wo.heap.size) (hb : RBk w4 r (fun b => N b ∨ b = g ∨ ov.ownBlock = some b) (k + (j + 1))) (ho : Only (RM r (fun b => N b ∨ b = g ∨ ov.ownBlock = some b)) wo w4) (hrow : w4.ownsRow wo.heap.size 60 32 nv j (digRow (abovePre ds j)))
    (hown : w6.ownsRow wo.heap.size 60 32 v6 (j + 1) (digRow (abovePre ds j) ++ D.toList)) (hg : (w4.alloc (.cells D 60)).grownBy w6 nv.ownBlock) : UpSt w wo w6 r k N ds g c (j + 1) ov v6 := by
  have hal : Below w4.heap.size w4 (w4.alloc (.cells D 60)) := (Below.refl _ _).alloc (Nat.le_refl _) _
  have hfar : ∀ b, b < w4.heap.size → nv.ownBlock ≠ some b → w6.heap[b]? = w4.heap[b]? := fun b hb hne => (hg.block b (by have := hal.size; omega) (fun e => hne e.symm)).trans (hal.block b hb)
  have hs6 := hg.size
  have hs4 := hal.size
  have hs := ho.size
  refine ⟨?_, ?_, ?_⟩
  · rw [abovePre_next, digRow_app]
    have e2 : digRow [upD (grp ds j)] = D.toList := by rw [hD]; simp [digRow]
    rw [e2]
    exact hown
  · have hb' : RBk w4 r (fun b => (N b ∨ b = g ∨ ov.ownBlock = some b) ∨ nv.ownBlock = some b) (k + (j + 1)) := hb.hold fun b hb => hb.imp id fun e => by
      obtain ⟨cur, hc⟩ := row_blk hrow e
      exact .inr ⟨_, cur, hc, by decide, by decide⟩
    refine (hb'.kept (w' := w6) (by omega) fun b hbl hm => hfar b hbl fun e => ?_).less (Nat.le_refl _) fun b => .inl
    rcases hm with hm | hm
    · have := rowD_lt hrow e; omega
    · exact hm (.inr e)
  · exact ⟨hg.os.trans (hal.os.trans ho.os), hg.tape.trans (hal.tape.trans ho.tape), hg.output.trans (hal.output.trans ho.output), by omega, fun b hb hn => (hfar b (by omega) (fun e => by have := rowD_lt hrow e; omega)).trans (ho.block b hb hn)⟩

end Go.Proofs.YtcpngeiahgoacaaGreat
