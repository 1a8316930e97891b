/-
  When a book has a clash.
-/
import Derived.Test.YtmklppomcpimaaaInkFill
namespace Go.Proofs.Ytmklppomcpimaaa
set_option linter.unusedVariables false

theorem firstOf_isSome (l : List (List UInt8)) (d : List UInt8) : (firstOf l d).isSome = true ↔ ∃ x, x ∈ l ∧ shaOf x = d := by
  unfold firstOf
  rw [List.find?_isSome]
  constructor
  · rintro ⟨x, hx, he⟩; exact ⟨x, hx, by simpa using he⟩
  · rintro ⟨x, hx, he⟩; exact ⟨x, hx, by simpa using he⟩
theorem clashB_iff (l : List (List UInt8)) : clashB l = true ↔ (∃ x, x ∈ l ∧ shaOf x = List.replicate 32 0) ∨ ∃ x y, x ∈ l ∧ y ∈ l ∧ x ≠ y ∧ shaOf x = shaOf y := by
  unfold clashB
  rw [Bool.or_eq_true, firstOf_isSome, decide_eq_true_iff]
  refine or_congr Iff.rfl ?_
  constructor
  · intro h
    obtain ⟨x, hx⟩ := List.exists_mem_of_length_pos h
    unfold moreOf at hx
    rw [List.mem_filter] at hx
    obtain ⟨h1, h2⟩ := hx
    obtain ⟨y, hy⟩ := firstOf_mem h1
    rw [hy] at h2
    obtain ⟨h3, h4⟩ := firstOf_some hy
    refine ⟨x, y, h1, h3, fun e => ?_, h4.symm⟩
    subst e
    simp at h2
  · rintro ⟨x, y, hx, hy, hne, he⟩
    have key : ∀ z, z ∈ l → firstOf l (shaOf z) ≠ some z → 0 < (moreOf l).length := fun z hz h => by
      apply List.length_pos_of_mem (a := z)
      unfold moreOf
      rw [List.mem_filter]
      exact ⟨hz, by simpa using h⟩
    by_cases h1 : firstOf l (shaOf x) = some x
    · refine key y hy fun h2 => hne ?_
      rw [he, h2] at h1
      injection h1 with h1
      exact h1.symm
    · exact key x hx h1
theorem noteInk_iff {l : List (List UInt8)} {x : List UInt8} (hx : x.length ≤ 65536) (y : List UInt8) : y ∈ noteInk l x ↔ y ∈ l ∨ y = x := by
  unfold noteInk addInk
  rw [if_pos hx]
  split
  · rename_i h
    constructor
    · exact .inl
    · rintro (h' | rfl)
      · exact h'
      · exact h
  · simp
theorem clash_step {l : List (List UInt8)} {x : List UInt8} (hx : x.length ≤ 65536) :
    clashB (noteInk l x) = true ↔ clashB l = true ∨ shaOf x = List.replicate 32 0 ∨ ∃ y, y ∈ l ∧ y ≠ x ∧ shaOf y = shaOf x := by
  rw [clashB_iff, clashB_iff]
  simp only [noteInk_iff hx]
  constructor
  · rintro (⟨y, hy | rfl, h⟩ | ⟨y, z, hy | rfl, hz | rfl, hne, h⟩)
    · exact .inl (.inl ⟨y, hy, h⟩)
    · exact .inr (.inl h)
    · exact .inl (.inr ⟨y, z, hy, hz, hne, h⟩)
    · exact .inr (.inr ⟨y, hy, hne, h⟩)
    · exact .inr (.inr ⟨z, hz, Ne.symm hne, h.symm⟩)
    · exact absurd rfl hne
  · rintro ((⟨y, hy, h⟩ | ⟨y, z, hy, hz, hne, h⟩) | h | ⟨y, hy, hne, h⟩)
    · exact .inl ⟨y, .inl hy, h⟩
    · exact .inr ⟨y, z, .inl hy, .inl hz, hne, h⟩
    · exact .inl ⟨x, .inr rfl, h⟩
    · exact .inr ⟨y, x, .inl hy, .inr rfl, hne, h⟩
theorem inkL_iff (xss : List (List UInt8)) (m : Nat) (x : List UInt8) : x ∈ inkL xss m ↔ x.length ≤ 65536 ∧ ∃ k, k < m ∧ xss[k]? = some x := by
  constructor
  · induction m with
    | zero => intro hx; simp [inkL] at hx
    | succ m ih =>
      intro hx
      rcases Nat.lt_or_ge m xss.length with hm | hm
      · rw [inkL_next xss m hm] at hx
        have old : x ∈ inkL xss m → x.length ≤ 65536 ∧ ∃ k, k < m + 1 ∧ xss[k]? = some x := fun h => by
          obtain ⟨h0, k, hk, he⟩ := ih h
          exact ⟨h0, k, by omega, he⟩
        unfold noteInk addInk at hx
        split at hx
        · split at hx
          · exact old hx
          · rcases List.mem_append.1 hx with h | h
            · exact old h
            · obtain rfl : x = xss[m] := by simpa using h
              rename_i h0 _
              exact ⟨h0, m, by omega, List.getElem?_eq_getElem hm⟩
        · exact old hx
      · have e : inkL xss (m + 1) = inkL xss m := by
          unfold inkL
          rw [List.take_of_length_le (by omega), List.take_of_length_le (by omega)]
        rw [e] at hx
        obtain ⟨h0, k, hk, he⟩ := ih hx
        exact ⟨h0, k, by omega, he⟩
  · rintro ⟨h0, k, hk, he⟩
    obtain ⟨hk2, he2⟩ := List.getElem?_eq_some_iff.1 he
    subst he2
    exact inkL_mem xss m k hk hk2 h0
/-- is one of the first j unlike x and of the same digest? -/
def sameB (x y : List UInt8) : Bool := decide (y.length ≤ 65536) && (!decide (y = x) && (shaOf y == shaOf x))
def anyB (xss : List (List UInt8)) (x : List UInt8) (j : Nat) : Bool := (xss.take j).any (sameB x)
theorem anyB_next (xss : List (List UInt8)) (x : List UInt8) (j : Nat) (h : j < xss.length) : anyB xss x (j + 1) = (anyB xss x j || sameB x xss[j]) := by
  unfold anyB
  rw [List.take_succ_eq_append_getElem h, List.any_append]; simp
theorem clash_next (xss : List (List UInt8)) (k : Nat) (h : k < xss.length) (hx : xss[k].length ≤ 65536) :
    clashB (inkL xss (k + 1)) = ((clashB (inkL xss k) || (shaOf xss[k] == List.replicate 32 0)) || anyB xss xss[k] k) := by
  rw [Bool.eq_iff_iff, inkL_next xss k h, clash_step hx, Bool.or_eq_true, Bool.or_eq_true, or_assoc]
  refine or_congr Iff.rfl (or_congr (by rw [beq_iff_eq]) ?_)
  unfold anyB sameB
  rw [List.any_eq_true]
  constructor
  · rintro ⟨y, hy, hne, he⟩
    obtain ⟨h0, j, hj, hg⟩ := (inkL_iff xss k y).1 hy
    obtain ⟨hj2, hg2⟩ := List.getElem?_eq_some_iff.1 hg
    refine ⟨y, List.mem_take_iff_getElem.2 ⟨j, by omega, hg2⟩, ?_⟩
    rw [decide_eq_true h0, decide_eq_false hne, he]; simp
  · rintro ⟨y, hy, he⟩
    rw [List.mem_take_iff_getElem] at hy
    obtain ⟨j, hj, hg⟩ := hy
    have hj2 : j < xss.length := by omega
    rw [Bool.and_eq_true, Bool.and_eq_true, decide_eq_true_iff, Bool.not_eq_true', decide_eq_false_iff_not, beq_iff_eq] at he
    exact ⟨y, (inkL_iff xss k y).2 ⟨he.1, j, by omega, by rw [List.getElem?_eq_getElem hj2, hg]⟩, he.2.1, he.2.2⟩

end Go.Proofs.Ytmklppomcpimaaa
