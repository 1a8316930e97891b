/-
  The last blocks, as the code makes them. No program is named.
-/
import Derived.Test.YtcmbmimmfgfefaaGreatShaPlain
namespace Go.Proofs.YtcmbmimmfgfefaaGreat
set_option linter.unusedVariables false

def blkOf (f : Nat → UInt8) : List UInt8 := (List.range 64).map f
theorem blkOf_len (f : Nat → UInt8) : (blkOf f).length = 64 := by simp [blkOf]
theorem blkOf_get (f : Nat → UInt8) (j : Nat) (h : j < (blkOf f).length) : (blkOf f)[j] = f j := by simp [blkOf]
theorem blkOf_eq (f : Nat → UInt8) (l : List UInt8) (hl : l.length = 64) (h : ∀ j, j < 64 → l[j]? = some (f j)) : l = blkOf f := by
  apply List.ext_getElem?
  intro i
  rcases Nat.lt_or_ge i 64 with hi | hi
  · rw [h i hi, List.getElem?_eq_getElem (by rw [blkOf_len]; exact hi), blkOf_get]
  · rw [List.getElem?_eq_none (by omega), List.getElem?_eq_none (by rw [blkOf_len]; exact hi)]

/-- what is held, the bit behind it, noughts -/
def padF (p : List UInt8) (j : Nat) : UInt8 := if j < p.length then p.getD j 0 else if j = p.length then 128 else 0
/-- a block whose last 8 bytes are the length's -/
def lenF (base : Nat → UInt8) (n j : Nat) : UInt8 := if 56 ≤ j then (be8 n).getD (j - 56) 0 else base j

theorem pad_eq (p : List UInt8) (h : p.length < 64) : p ++ [128] ++ List.replicate (63 - p.length) 0 = blkOf (padF p) := by
  refine blkOf_eq _ _ (by simp; omega) fun j hj => ?_
  unfold padF
  by_cases h1 : j < p.length
  · rw [if_pos h1, List.append_assoc, List.getElem?_append_left h1, List.getD_eq_getElem?_getD, List.getElem?_eq_getElem h1]; rfl
  · rw [if_neg h1, List.append_assoc, List.getElem?_append_right (by omega)]
    by_cases h2 : j = p.length
    · subst h2; simp
    · rw [if_neg h2, List.getElem?_append_right (by simp; omega), List.getElem?_replicate, if_pos (by simp; omega)]
theorem getD_some (l : List UInt8) (j : Nat) (h : j < l.length) : l[j]? = some (l.getD j 0) := by
  rw [List.getD_eq_getElem?_getD, List.getElem?_eq_getElem h]; rfl
theorem len_eq0 (n : Nat) : List.replicate 56 0 ++ be8 n = blkOf (lenF (fun _ => 0) n) := by
  refine blkOf_eq _ _ (by simp [be8_len]) fun j hj => ?_
  unfold lenF
  by_cases h1 : 56 ≤ j
  · rw [if_pos h1, List.getElem?_append_right (by simpa using h1), List.length_replicate]
    exact getD_some _ _ (by rw [be8_len]; omega)
  · rw [if_neg h1, List.getElem?_append_left (by simp; omega), List.getElem?_replicate, if_pos (by omega)]
theorem len_eq1 (p : List UInt8) (n : Nat) (h : p.length < 56) : p ++ [128] ++ List.replicate (55 - p.length) 0 ++ be8 n = blkOf (lenF (padF p) n) := by
  refine blkOf_eq _ _ (by simp [be8_len]; omega) fun j hj => ?_
  unfold lenF
  have hl : (p ++ [128] ++ List.replicate (55 - p.length) 0).length = 56 := by simp; omega
  by_cases h1 : 56 ≤ j
  · rw [if_pos h1, List.getElem?_append_right (by rw [hl]; exact h1), hl]
    exact getD_some _ _ (by rw [be8_len]; omega)
  · rw [if_neg h1, List.getElem?_append_left (by rw [hl]; omega)]
    unfold padF
    by_cases h1 : j < p.length
    · rw [if_pos h1, List.append_assoc, List.getElem?_append_left h1, List.getD_eq_getElem?_getD, List.getElem?_eq_getElem h1]; rfl
    · rw [if_neg h1, List.append_assoc, List.getElem?_append_right (by omega)]
      by_cases h2 : j = p.length
      · subst h2; simp
      · rw [if_neg h2, List.getElem?_append_right (by simp; omega), List.getElem?_replicate, if_pos (by simp; omega)]
theorem last_hi (s : St) (p : List UInt8) (n : Nat) (h : 56 ≤ p.length) (h' : p.length < 64) :
    lastSt s p n = compress (compress s (blkOf (padF p))) (blkOf (lenF (fun _ => 0) n)) := by
  rw [lastSt, if_pos h, pad_eq p h', len_eq0]
theorem last_lo (s : St) (p : List UInt8) (n : Nat) (h : p.length < 56) :
    lastSt s p n = compress s (blkOf (lenF (padF p) n)) := by
  rw [lastSt, if_neg (by omega), len_eq1 p n h]
theorem be8_get (n i : Nat) (h : i < 8) : (be8 n).getD (7 - i) 0 = UInt8.ofNat (8 * n / 2 ^ (8 * i)) := by
  unfold be8
  rw [List.getD_eq_getElem?_getD, List.getElem?_map, List.getElem?_range (by omega)]
  simp only [Option.map_some, Option.getD_some]
  rw [show 7 - (7 - i) = i by omega]
theorem outB_get (s : St) (i : Nat) (h : i < 32) : (outB s).getD i 0 = w8 (s.list.getD (i / 4) 0 >>> (24 - 8 * (i % 4))) := by
  unfold outB
  rw [List.getD_eq_getElem?_getD, List.getElem?_map, List.getElem?_range h]; rfl

end Go.Proofs.YtcmbmimmfgfefaaGreat
