/-
  Wishes as bytes, there and back: the plain law.
-/
import Derived.Test.YtcmbmimmfgfefaaGreatParse
namespace Go.Proofs.YtcmbmimmfgfefaaGreat
set_option linter.unusedVariables false

theorem stN_shift (s : RdS) : ∀ i, stN s (i + 1) = stN (rdN s).2 i
  | 0 => rfl
  | i + 1 => by
    show (rdN (stN s (i + 1))).2 = (rdN (stN (rdN s).2 i)).2
    rw [stN_shift s i]
theorem vlN_shift (s : RdS) (i : Nat) : vlN s (i + 1) = vlN (rdN s).2 i := by
  unfold vlN
  rw [stN_shift]
theorem rdN_num {n : Nat} (h : n ≤ maxN) (r : List UInt8) : rdN (numB n ++ r, 0) = (n, (r, 0)) := by
  unfold rdN
  rw [if_pos rfl]
  unfold tn
  simp only
  rw [takeN_num h]
theorem numsI_cons (z : Int) (t : List Int) : numsI (z :: t) = numB z.toNat ++ numsI t := rfl
theorem NumI.max {z : Int} (h : NumI z) : z.toNat ≤ maxN := by unfold NumI at h; unfold maxN; omega
theorem stN_nums (r : List UInt8) : ∀ (l : List Int), (∀ z, z ∈ l → NumI z) → stN (numsI l ++ r, 0) l.length = (r, 0)
  | [], _ => rfl
  | z :: t, h => by
    rw [List.length_cons, stN_shift, numsI_cons, List.append_assoc, rdN_num (h z (by simp)).max]
    exact stN_nums r t fun y hy => h y (by simp [hy])
theorem vlN_nums (r : List UInt8) : ∀ (l : List Int), (∀ z, z ∈ l → NumI z) → ∀ i, i < l.length → (vlN (numsI l ++ r, 0) i : Int) = l.getD i 0
  | [], _, i, hi => by simp at hi
  | z :: t, h, 0, hi => by
    unfold vlN
    show ((rdN (numsI (z :: t) ++ r, 0)).1 : Int) = _
    rw [numsI_cons, List.append_assoc, rdN_num (h z (by simp)).max]
    have := h z (by simp)
    unfold NumI at this
    simp
    omega
  | z :: t, h, i + 1, hi => by
    rw [vlN_shift, numsI_cons, List.append_assoc, rdN_num (h z (by simp)).max]
    have := vlN_nums r t (fun y hy => h y (by simp [hy])) i (by simpa using hi)
    simpa using this
theorem parse_back {x : Wish} (h : mayB x = true) : parseW (wishB x) = x ∧ parseE (wishB x) = 0 := by
  obtain ⟨h6, h3, hn, hd, hl⟩ := may_nums h
  obtain ⟨client, stamp, group, epoch, kind, block, data, old, new, next⟩ := x
  simp only at h6 h3 hn hd hl
  obtain ⟨r3, hr3⟩ : ∃ r, r = numsI next := ⟨_, rfl⟩
  obtain ⟨r2, hr2⟩ : ∃ r, r = numsI [old, new, (next.length : Int)] ++ r3 := ⟨_, rfl⟩
  have hw : wishB ⟨client, stamp, group, epoch, kind, block, data, old, new, next⟩ = numsI [kind, client, stamp, group, epoch, block] ++ (strB data ++ r2) := by
    unfold wishB
    simp only [List.append_assoc, hr2, hr3]
  have s6 : stN (wishB ⟨client, stamp, group, epoch, kind, block, data, old, new, next⟩, 0) 6 = (strB data ++ r2, 0) := by
    rw [hw]
    exact stN_nums _ [kind, client, stamp, group, epoch, block] h6
  have hD : pD (wishB ⟨client, stamp, group, epoch, kind, block, data, old, new, next⟩) = (data, (r2, 0)) := by
    unfold pD
    rw [s6]
    unfold rdT
    rw [if_pos rfl]
    unfold ts
    simp only
    rw [takeS_str (by omega)]
  have h2 : ∀ z, z ∈ [old, new] → NumI z := fun z hz => h3 z (by simp at hz ⊢; omega)
  have e2 : r2 = numsI [old, new] ++ (numB next.length ++ r3) := by rw [hr2]; simp only [numsI, List.flatMap_cons, List.flatMap_nil, List.append_nil, Int.toNat_natCast, List.append_assoc]
  have s9 : stN (r2, 0) 2 = (numB next.length ++ r3, 0) := by
    rw [e2]
    exact stN_nums _ [old, new] h2
  have hM : pM (wishB ⟨client, stamp, group, epoch, kind, block, data, old, new, next⟩) = (next.length, (r3, 0)) := by
    unfold pM
    rw [hD]
    simp only
    rw [s9]
    unfold rdM
    rw [rdN_num (by unfold maxN; omega)]
    simp only
    rw [if_pos trivial, if_neg (by omega)]
  have e3 : r3 = numsI next ++ [] := by rw [hr3, List.append_nil]
  have s11 : stN (r3, 0) next.length = ([], 0) := by
    rw [e3]
    exact stN_nums _ next hn
  refine ⟨?_, ?_⟩
  · unfold parseW
    rw [hM, hD]
    simp only
    have v := fun i hi => vlN_nums (strB data ++ r2) [kind, client, stamp, group, epoch, block] h6 i hi
    rw [← hw] at v
    have v2 := fun i hi => vlN_nums (numB next.length ++ r3) [old, new] h2 i hi
    rw [← e2] at v2
    have v3 := fun i hi => vlN_nums [] next hn i hi
    rw [← e3] at v3
    have hx : ((List.range next.length).map fun i => (vlN (r3, 0) i : Int)) = next := by
      apply List.ext_getElem
      · simp
      · intro i h1 h2
        simp only [List.getElem_map, List.getElem_range]
        rw [v3 i h2, List.getD_eq_getElem?_getD, List.getElem?_eq_getElem h2]
        rfl
    rw [hx, v 0 (by simp), v 1 (by simp), v 2 (by simp), v 3 (by simp), v 4 (by simp), v 5 (by simp), v2 0 (by simp), v2 1 (by simp)]
    rfl
  · unfold parseE
    rw [hM]
    simp only
    rw [s11]
    rfl
theorem parse_of {x : Wish} (h : mayB x = true) : parse (wishB x) = (x, 0) := by
  obtain ⟨h1, h2⟩ := parse_back h
  have := (parse_ways (wishB x) ()).2.1 h2 (by rw [h1]; exact h)
  rw [this, h1]

theorem numB_zero : numB 0 = [0] := by unfold numB; rw [nd_zero]; rfl
theorem numB_small {n : Nat} (h0 : 0 < n) (h : n < 256) : numB n = [1, UInt8.ofNat n] := by
  have h1 : nd n = 1 := by rw [nd_pos (by omega), Nat.div_eq_of_lt h, nd_zero]
  unfold numB
  rw [h1]
  show [UInt8.ofNat 1, UInt8.ofNat (n / 256 ^ 0 % 256)] = _
  rw [Nat.pow_zero, Nat.div_one, Nat.mod_eq_of_lt h]
  rfl
def readW : Wish := ⟨31, 5, 1, 0, 1, 3, [], 0, 0, []⟩
def sealW : Wish := ⟨0, 0, 2, 1, 5, 0, [], 0, 0, [1, 2, 3, 4]⟩
theorem read_may : mayB readW = true := by decide
theorem seal_may : mayB sealW = true := by decide
theorem read_bytes : wishB readW = [1, 1, 1, 31, 1, 5, 1, 1, 0, 1, 3, 0, 0, 0, 0] := by
  simp [wishB, numsI, strB, readW, numB_zero, numB_small]
theorem seal_bytes : wishB sealW = [1, 5, 0, 0, 1, 2, 1, 1, 0, 0, 0, 0, 1, 4, 1, 1, 1, 2, 1, 3, 1, 4] := by
  simp [wishB, numsI, strB, sealW, numB_zero, numB_small]

end Go.Proofs.YtcmbmimmfgfefaaGreat
