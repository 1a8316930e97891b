/-
  Arguments that are lists of wishes, opened.
-/
import Derived.Test.YtcmbmimmfgfefaaOpenWish
import Derived.Test.YtcmbmimmfgfefaaBatch
namespace Go.Proofs.Ytcmbmimmfgfefaa
set_option linter.unusedVariables false
open Go.RowKit Go.WideShapes Go.ChangeShapes

instance wishInh : Inhabited Wish := ⟨zeroW⟩
def WAt (w : World) (a : Addr) (i : Nat) (y : Wish × (Option Addr × Nat × Nat) × (Option Addr × Nat × Nat)) : Prop := (∀ (j : Nat) (v : Value), (wCells y.1 y.2.1.1 y.2.1.2.1 y.2.1.2.2 y.2.2.1 y.2.2.2.1 y.2.2.2.2)[j]? = some v → w.cell? (a.add (10 * i + j)) = some v) ∧ WishIn w w.heap.size y.1 y.2.1.1 y.2.1.2.1 y.2.1.2.2 y.2.2.1 y.2.2.2.1 y.2.2.2.2

section
variable {H : Type} {enc : TypeId × Value → H} {w : World} {held : Bool}

set_option maxRecDepth 100000 in
set_option maxHeartbeats 1000000 in
theorem open_wishes' {fuel : Nat} {cs : List Value} {x : DataW H × List MemPlace}
    (h : DataW.trod enc Try.prog w 0 (fun _ => true) held fuel 34 cs = some x) (hw : Light Try.prog 34 x.1) :
    ∃ (A : Option Addr) (n c : Nat) (l : List Wish), cs = [.slice A n c] ∧ WishesIn w w.heap.size A n l ∧ n ≤ c ∧ n ≤ 1256584717421 := by
  have hC : Try.prog.cellsOf 26 = 10 := by kernel_rfl
  have hBy : Try.prog.bytesOf 26 = 112 := by kernel_rfl
  rcases Deep.open_slice Try.underlying34 h with ⟨rfl, rfl⟩ | ⟨a, len, cap, m, n, D, Pl, rfl, _, hl, hm, hmm, rfl, hx⟩
  · exact ⟨none, 0, 0, [], rfl, ⟨rfl, fun h => absurd h (by omega)⟩, Nat.le_refl _, Nat.zero_le _⟩
  · simp only [if_true] at hmm
    subst hmm
    have hlight := light_slice Try.underlying34 hw
    have hlt := hlight.1
    rw [hBy] at hlt
    simp only [List.length_map, List.length_range] at hlt
    unfold reachBytes at hlt
    rw [hC] at hx
    have each : ∀ i, i < len → ∃ y : Wish × (Option Addr × Nat × Nat) × (Option Addr × Nat × Nat), WAt w a i y := by
      intro i hi
      obtain ⟨cs', h1, h2⟩ := hx i (by omega)
      obtain ⟨_, hcl, hat⟩ := World.cells?_some h1
      obtain ⟨y, A, n1, c1, A', n2, c2, hcs, hwi⟩ := open_wish h2 (hlight.2 _ (.inl (List.mem_map.2 ⟨i, List.mem_range.2 hi, rfl⟩)))
      refine ⟨(y, (A, n1, c1), (A', n2, c2)), fun j v hv => ?_, hwi⟩
      have hj : j < 10 := by
        rcases Nat.lt_or_ge j 10 with h | h
        · exact h
        · rw [Array.getElem?_eq_none (by rw [show (wCells y A n1 c1 A' n2 c2).size = 10 from rfl]; exact h)] at hv; cases hv
      have hc := hat j hj
      rw [hcs, Array.getElem?_toList, hv] at hc
      rw [show 10 * i + j = i * 10 + j by omega, ← add_of_add]
      exact hc
    obtain ⟨y, hy⟩ := Go.Deep.choose_lt (α := Wish × (Option Addr × Nat × Nat) × (Option Addr × Nat × Nat)) (p := fun i y => WAt w a i y) each
    refine ⟨some a, len, m, (List.range len).map fun i => (y i).1, rfl, ⟨by simp, fun hn => ⟨a, rfl, ?_, fun j x hj => ?_⟩⟩, hl, by omega⟩
    · have := (hy 0 hn).1 0 _ rfl
      have hb := World.block_lt_of_cell? _ _ this
      rwa [block_of_add] at hb
    · rw [List.getElem?_map] at hj
      rcases Nat.lt_or_ge j len with hjl | hjl
      · rw [List.getElem?_range hjl] at hj
        simp only [Option.map_some, Option.some.injEq] at hj
        subst hj
        obtain ⟨h1, h2⟩ := hy j hjl
        exact ⟨_, _, _, _, _, _, h1, h2⟩
      · rw [List.getElem?_eq_none (by simpa using hjl)] at hj
        simp at hj
theorem open_wishes {fuel : Nat} {cs : List Value} {x : DataW H × List MemPlace}
    (h : DataW.trod enc Try.prog w 0 (fun _ => true) held fuel 34 cs = some x) (hw : Light Try.prog 34 x.1) :
    ∃ (A : Option Addr) (n c : Nat) (l : List Wish), cs = [.slice A n c] ∧ WishesIn w w.heap.size A n l ∧ n ≤ c ∧ n ≤ 2000000000000 := by
  obtain ⟨A, n, c, l, h1, h2, h3, h4⟩ := open_wishes' h hw
  exact ⟨A, n, c, l, h1, h2, h3, by omega⟩

end

end Go.Proofs.Ytcmbmimmfgfefaa
