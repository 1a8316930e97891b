/-
  What a book has of the first k of a list.
-/
import Derived.Test.YtedhgfblgechhaaInkEvery
namespace Go.Proofs.Ytedhgfblgechhaa
set_option linter.unusedVariables false
open Go.RowKit Go.Maps

def inkL (xss : List (List UInt8)) (k : Nat) : List (List UInt8) := (xss.take k).foldl noteInk []
def inkN (xss : List (List UInt8)) (k : Nat) : Nat := (xss.take k).foldl noteN 0
theorem inkL_next (xss : List (List UInt8)) (k : Nat) (h : k < xss.length) : inkL xss (k + 1) = noteInk (inkL xss k) (xss[k]) := by
  unfold inkL
  rw [List.take_succ_eq_append_getElem h, List.foldl_append]; rfl
theorem inkN_next (xss : List (List UInt8)) (k : Nat) (h : k < xss.length) : inkN xss (k + 1) = noteN (inkN xss k) (xss[k]) := by
  unfold inkN
  rw [List.take_succ_eq_append_getElem h, List.foldl_append]; rfl
theorem inkN_le (xss : List (List UInt8)) (k : Nat) : inkN xss k ≤ k := by
  induction k with
  | zero => exact Nat.le_refl _
  | succ k ih =>
    rcases Nat.lt_or_ge k xss.length with h | h
    · rw [inkN_next xss k h]
      have := noteN_le (inkN xss k) (xss[k])
      omega
    · have : inkN xss (k + 1) = inkN xss k := by
        unfold inkN
        rw [List.take_of_length_le (by omega), List.take_of_length_le (by omega)]
      omega
theorem noteInk_mem {l : List (List UInt8)} {x y : List UInt8} (h : y ∈ l) : y ∈ noteInk l x := by
  unfold noteInk addInk
  split
  · split
    · exact h
    · exact List.mem_append_left _ h
  · exact h
theorem inkL_mem (xss : List (List UInt8)) (m : Nat) : ∀ k, k < m → ∀ h : k < xss.length, xss[k].length ≤ 65536 → xss[k] ∈ inkL xss m := by
  induction m with
  | zero => exact fun k hk => absurd hk (Nat.not_lt_zero k)
  | succ m ih =>
    intro k hk h hx
    rcases Nat.lt_or_ge m xss.length with hm | hm
    · rw [inkL_next xss m hm]
      rcases Nat.lt_or_ge k m with hkm | hkm
      · exact noteInk_mem (ih k hkm h hx)
      · obtain rfl : k = m := by omega
        unfold noteInk addInk
        rw [if_pos hx]
        split
        · assumption
        · simp
    · have e : inkL xss (m + 1) = inkL xss m := by
        unfold inkL
        rw [List.take_of_length_le (by omega), List.take_of_length_le (by omega)]
      rw [e]
      exact ih k (by omega) h hx
theorem addInk_mem {l : List (List UInt8)} {x : List UInt8} (h : x ∈ l) : addInk l x = l := by unfold addInk; rw [if_pos h]
/-- no clash: unlike ones have unlike digests -/
theorem clash_inj {l : List (List UInt8)} (h : clashB l = false) {x y : List UInt8} (hx : x ∈ l) (hy : y ∈ l) (he : shaOf x = shaOf y) : x = y := by
  unfold clashB at h
  rw [Bool.or_eq_false_iff] at h
  have hm : moreOf l = [] := by
    have := h.2
    simp at this
    exact this
  have hf : ∀ z, z ∈ l → firstOf l (shaOf z) = some z := fun z hz => by
    have := List.filter_eq_nil_iff.1 hm z hz
    simpa using this
  have h1 := hf x hx
  have h2 := hf y hy
  rw [he, h2] at h1
  injection h1 with h1
  exact h1.symm

end Go.Proofs.Ytedhgfblgechhaa
