/-
  Numbers as bytes: how many digits, which.
-/
import Derived.Test.YtcmbmimmfgfefaaGreatWord
namespace Go.Proofs.YtcmbmimmfgfefaaGreat
set_option linter.unusedVariables false

/-- how many digits of 256 a number has -/
def nd (n : Nat) : Nat := if h : n = 0 then 0 else nd (n / 256) + 1
theorem nd_zero : nd 0 = 0 := by unfold nd; simp
theorem nd_pos {n : Nat} (h : n ≠ 0) : nd n = nd (n / 256) + 1 := by rw [nd]; simp [h]
theorem nd_gt (n : Nat) : ∀ j, (0 < n / 256 ^ j ↔ j < nd n) := by
  induction n using Nat.strongRecOn with
  | _ n ih =>
    intro j
    by_cases h : n = 0
    · subst h; simp [nd_zero]
    · rw [nd_pos h]
      cases j with
      | zero => simp; omega
      | succ j =>
        rw [Nat.pow_succ, Nat.mul_comm, ← Nat.div_div_eq_div_mul, ih (n / 256) (by omega) j]
        omega
theorem nd_le {n k : Nat} (h : n < 256 ^ k) : nd n ≤ k := by
  rcases Nat.lt_or_ge k (nd n) with h1 | h1
  · have := (nd_gt n k).2 h1
    rw [Nat.div_eq_of_lt h] at this
    omega
  · exact h1
/-- digit i of k, the highest first -/
def dig (n k i : Nat) : UInt8 := UInt8.ofNat (n / 256 ^ (k - 1 - i) % 256)
def digs (n k : Nat) : List UInt8 := (List.range k).map (dig n k)
theorem digs_len (n k : Nat) : (digs n k).length = k := by simp [digs]
theorem digs_succ (n k : Nat) : digs n (k + 1) = digs (n / 256) k ++ [UInt8.ofNat (n % 256)] := by
  unfold digs
  rw [List.range_succ, List.map_append]
  congr 1
  · apply List.map_congr_left
    intro i hi
    have hi := List.mem_range.1 hi
    unfold dig
    rw [show k + 1 - 1 - i = (k - 1 - i) + 1 by omega, Nat.pow_succ, Nat.mul_comm, ← Nat.div_div_eq_div_mul]
  · simp [dig]
/-- the bytes of a number -/
def numB (n : Nat) : List UInt8 := UInt8.ofNat (nd n) :: digs n (nd n)
def valB (l : List UInt8) : Nat := l.foldl (fun a b => a * 256 + b.toNat) 0
theorem valB_snoc (l : List UInt8) (b : UInt8) : valB (l ++ [b]) = valB l * 256 + b.toNat := by simp [valB, List.foldl_append]
theorem split_last (l : List UInt8) (k : Nat) (h : l.length = k + 1) : l = l.take k ++ [l[k]'(by omega)] := by
  rw [List.take_append_getElem (by omega), ← h, List.take_length]
theorem valB_lt (k : Nat) : ∀ l : List UInt8, l.length = k → valB l < 256 ^ k := by
  induction k with
  | zero => intro l h; rw [List.eq_nil_of_length_eq_zero h]; decide
  | succ k ih =>
    intro l h
    rw [split_last l k h, valB_snoc, Nat.pow_succ]
    have h1 := ih (l.take k) (by simp; omega)
    have h2 := (l[k]'(by omega)).toNat_lt
    omega
theorem valB_digs (k : Nat) : ∀ n, valB (digs n k) = n % 256 ^ k := by
  induction k with
  | zero => intro n; simp [digs, valB, Nat.mod_one]
  | succ k ih =>
    intro n
    have e : 256 ^ (k + 1) = 256 * 256 ^ k := by rw [Nat.pow_succ, Nat.mul_comm]
    rw [digs_succ, valB_snoc, ih, UInt8.toNat_ofNat', e, Nat.mod_mul]
    generalize n / 256 % 256 ^ k = y
    omega
theorem lt_nd (n : Nat) : n < 256 ^ nd n := by
  have h := nd_gt n (nd n)
  rcases Nat.lt_or_ge n (256 ^ nd n) with h1 | h1
  · exact h1
  · have : 0 < n / 256 ^ nd n := Nat.div_pos h1 (Nat.pow_pos (by omega))
    exact absurd (h.1 this) (by omega)
theorem valB_numB (n : Nat) : valB (digs n (nd n)) = n := by rw [valB_digs, Nat.mod_eq_of_lt (lt_nd n)]
theorem digs_zero (n k : Nat) (h : 0 < k) : (digs n k).head? = some (UInt8.ofNat (n / 256 ^ (k - 1) % 256)) := by
  unfold digs
  cases k with
  | zero => omega
  | succ k => simp [List.range_succ_eq_map, dig]
theorem digs_head (n : Nat) (h : 0 < nd n) : (digs n (nd n)).head? ≠ some 0 := by
  rw [digs_zero n _ h]
  intro he
  injection he with he
  have h1 := (nd_gt n (nd n - 1)).2 (by omega)
  have h2 := lt_nd n
  have h3 : n / 256 ^ (nd n - 1) < 256 := by
    have e : 256 ^ nd n = 256 ^ (nd n - 1) * 256 := by rw [← Nat.pow_succ]; congr 1; omega
    rw [Nat.div_lt_iff_lt_mul (Nat.pow_pos (by omega)), Nat.mul_comm, ← e]
    exact h2
  have h4 := congrArg UInt8.toNat he
  rw [UInt8.toNat_ofNat', Nat.mod_eq_of_lt h3, Nat.mod_eq_of_lt (by omega)] at h4
  have h5 : (0 : UInt8).toNat = 0 := rfl
  omega
theorem digs_back (k : Nat) : ∀ l : List UInt8, l.length = k → digs (valB l) k = l := by
  induction k with
  | zero => intro l h; rw [List.eq_nil_of_length_eq_zero h]; rfl
  | succ k ih =>
    intro l h
    have hl := split_last l k h
    have hb := (l[k]'(by omega)).toNat_lt
    have hv : valB l = valB (l.take k) * 256 + (l[k]'(by omega)).toNat := by rw [← valB_snoc, ← hl]
    rw [digs_succ, hv, show (valB (l.take k) * 256 + (l[k]'(by omega)).toNat) / 256 = valB (l.take k) by omega, show (valB (l.take k) * 256 + (l[k]'(by omega)).toNat) % 256 = (l[k]'(by omega)).toNat by omega, ih _ (by simp; omega)]
    rw [UInt8.ofNat_toNat]
    exact hl.symm
theorem valB_ge (l : List UInt8) (k : Nat) (h : l.length = k + 1) (h0 : l.head? ≠ some 0) : 256 ^ k ≤ valB l := by
  induction k generalizing l with
  | zero =>
    match l, h with
    | [b], _ =>
      have : b.toNat ≠ 0 := fun e => h0 (by simp; exact UInt8.toNat_inj.1 e)
      simp [valB]; omega
  | succ k ih =>
    have hl := split_last l (k + 1) h
    have hv : valB l = valB (l.take (k + 1)) * 256 + (l[k + 1]'(by omega)).toNat := by rw [← valB_snoc, ← hl]
    have h1 := ih (l.take (k + 1)) (by simp; omega) (by rw [List.head?_take]; simpa using h0)
    rw [hv, Nat.pow_succ]
    omega
theorem nd_back (l : List UInt8) (h0 : 0 < l.length → l.head? ≠ some 0) : nd (valB l) = l.length := by
  have h1 : nd (valB l) ≤ l.length := nd_le (valB_lt _ l rfl)
  cases hk : l.length with
  | zero => omega
  | succ k =>
    have h2 := valB_ge l k hk (h0 (by omega))
    have h3 : 0 < valB l / 256 ^ k := Nat.div_pos h2 (Nat.pow_pos (by omega))
    have := (nd_gt (valB l) k).1 h3
    omega
theorem numB_back (m : UInt8) (l : List UInt8) (hm : m.toNat = l.length) (h0 : 0 < l.length → l.head? ≠ some 0) : numB (valB l) = m :: l := by
  unfold numB
  rw [nd_back l h0, digs_back _ l rfl, ← hm, UInt8.ofNat_toNat]
def maxN : Nat := 9007199254740991
theorem nd_max {n : Nat} (h : n ≤ maxN) : nd n ≤ 7 := nd_le (by unfold maxN at h; omega)

/-- a number is taken off -/
def takeN (b : List UInt8) : Except Nat (Nat × List UInt8) :=
  match b with
  | [] => .error 3
  | m :: r =>
    if 7 < m.toNat then .error 4
    else if r.length < m.toNat then .error 3
    else if 0 < m.toNat ∧ r.head? = some 0 then .error 4
    else if maxN < valB (r.take m.toNat) then .error 9
    else .ok (valB (r.take m.toNat), r.drop m.toNat)
theorem nd_byte {n : Nat} (h : n ≤ maxN) : (UInt8.ofNat (nd n)).toNat = nd n := by
  have := nd_max h
  rw [UInt8.toNat_ofNat', Nat.mod_eq_of_lt (by omega)]
theorem takeN_num {n : Nat} (h : n ≤ maxN) (r : List UInt8) : takeN (numB n ++ r) = .ok (n, r) := by
  have h7 := nd_max h
  unfold takeN numB
  simp only [List.cons_append, nd_byte h]
  rw [if_neg (by omega), if_neg (by simp [digs_len]), if_neg, List.take_left' (digs_len _ _), List.drop_left' (digs_len _ _), valB_numB, if_neg (by omega)]
  rintro ⟨h1, h2⟩
  refine digs_head n h1 ?_
  cases hd : digs n (nd n) with
  | nil => have := digs_len n (nd n); rw [hd] at this; simp at this; omega
  | cons a t => rw [hd] at h2; simpa using h2
theorem takeN_back {b r : List UInt8} {n : Nat} (h : takeN b = .ok (n, r)) : b = numB n ++ r ∧ n ≤ maxN := by
  unfold takeN at h
  match b, h with
  | m :: t, h =>
    simp only at h
    split at h
    · cases h
    · split at h
      · cases h
      · split at h
        · cases h
        · rename_i h1 h2 h3
          split at h
          · cases h
          · rename_i h4
            injection h with h
            injection h with h5 h6
            subst h5 h6
            refine ⟨?_, by omega⟩
            have hl : (t.take m.toNat).length = m.toNat := by simp; omega
            rw [numB_back m (t.take m.toNat) hl.symm (fun hp => by
              rw [List.head?_take, if_neg (by omega)]
              exact fun e => h3 ⟨by omega, e⟩), List.cons_append, List.take_append_drop]
theorem numB_len {n : Nat} (h : n ≤ maxN) : 1 ≤ (numB n).length ∧ (numB n).length ≤ 8 := by
  have := nd_max h
  unfold numB
  simp [digs_len]
  omega
theorem takeN_cut {n : Nat} (h : n ≤ maxN) {k : Nat} (hk : k < (numB n).length) : takeN ((numB n).take k) = .error 3 := by
  have h7 := nd_max h
  cases k with
  | zero => rfl
  | succ k =>
    unfold numB at hk ⊢
    simp only [List.length_cons, digs_len] at hk
    unfold takeN
    simp only [List.take_succ_cons, nd_byte h]
    rw [if_neg (by omega), if_pos (by simp [digs_len]; omega)]

/-- so many bytes are taken off -/
def takeF (b : List UInt8) (n : Nat) : Except Nat (List UInt8 × List UInt8) := if b.length < n then .error 3 else .ok (b.take n, b.drop n)
/-- a text is taken off -/
def takeS (b : List UInt8) (most : Nat) : Except Nat (List UInt8 × List UInt8) :=
  match takeN b with
  | .error e => .error e
  | .ok (n, r) => if min most 65536 < n then .error 5 else takeF r n
def strB (s : List UInt8) : List UInt8 := numB s.length ++ s
theorem takeS_str {s : List UInt8} {most : Nat} (h : s.length ≤ min most 65536) (r : List UInt8) : takeS (strB s ++ r) most = .ok (s, r) := by
  unfold takeS strB
  rw [List.append_assoc, takeN_num (by unfold maxN; omega)]
  simp only
  rw [if_neg (by omega)]
  unfold takeF
  rw [if_neg (by simp), List.take_left, List.drop_left]
theorem takeS_back {b s r : List UInt8} {most : Nat} (h : takeS b most = .ok (s, r)) : b = strB s ++ r ∧ s.length ≤ min most 65536 := by
  unfold takeS at h
  cases hn : takeN b with
  | error e => rw [hn] at h; cases h
  | ok p =>
    obtain ⟨n, t⟩ := p
    rw [hn] at h
    simp only at h
    split at h
    · cases h
    · rename_i h1
      unfold takeF at h
      split at h
      · cases h
      · rename_i h2
        injection h with h
        injection h with h3 h4
        subst h3 h4
        have hl : (t.take n).length = n := by simp; omega
        refine ⟨?_, by rw [hl]; omega⟩
        unfold strB
        rw [hl, List.append_assoc, List.take_append_drop]
        exact (takeN_back hn).1
theorem takeS_cut {s : List UInt8} {most : Nat} (h : s.length ≤ min most 65536) {k : Nat} (hk : k < (strB s).length) : takeS ((strB s).take k) most = .error 3 := by
  have hm : s.length ≤ maxN := by unfold maxN; omega
  unfold takeS strB
  unfold strB at hk
  rcases Nat.lt_or_ge k (numB s.length).length with h1 | h1
  · rw [List.take_append_of_le_length (by omega), takeN_cut hm h1]
  · rw [List.take_append, List.take_of_length_le h1, takeN_num hm]
    simp only
    rw [if_neg (by omega)]
    unfold takeF
    rw [if_pos (by simp at hk ⊢; omega)]

end Go.Proofs.YtcmbmimmfgfefaaGreat
