/-
  What a hash takes, byte by byte; the digest; the padded bytes. No program is named.
-/
import Derived.Test.YtcmbmimmfgfefaaGreatShaMath
namespace Go.Proofs.YtcmbmimmfgfefaaGreat
set_option linter.unusedVariables false

/-- one byte is taken: a state, and the bytes of a block that is not full -/
def take1 (a : St × List UInt8) (c : UInt8) : St × List UInt8 :=
  if a.2.length + 1 = 64 then (compress a.1 (a.2 ++ [c]), []) else (a.1, a.2 ++ [c])
def feed (a : St × List UInt8) (l : List UInt8) : St × List UInt8 := l.foldl take1 a
/-- what bytes come to -/
def acc (l : List UInt8) : St × List UInt8 := feed (h0, []) l

theorem feed_append (a : St × List UInt8) (x y : List UInt8) : feed a (x ++ y) = feed (feed a x) y := by simp [feed]
theorem acc_append (x y : List UInt8) : acc (x ++ y) = feed (acc x) y := feed_append _ _ _
theorem take1_lt (a : St × List UInt8) (c : UInt8) (h : a.2.length < 64) : (take1 a c).2.length < 64 := by
  unfold take1; split <;> simp <;> omega
theorem feed_lt (a : St × List UInt8) (l : List UInt8) (h : a.2.length < 64) : (feed a l).2.length < 64 := by
  induction l generalizing a with
  | nil => exact h
  | cons c l ih => exact ih (take1 a c) (take1_lt a c h)
theorem acc_lt (l : List UInt8) : (acc l).2.length < 64 := feed_lt _ _ (by simp)
theorem feed_short (s : St) (p l : List UInt8) (h : p.length + l.length < 64) : feed (s, p) l = (s, p ++ l) := by
  induction l generalizing p with
  | nil => simp [feed]
  | cons c l ih =>
    simp only [feed, List.foldl_cons]
    have h1 : take1 (s, p) c = (s, p ++ [c]) := by unfold take1; rw [if_neg (by simp at h ⊢; omega)]
    rw [h1]
    have := ih (p ++ [c]) (by simp at h ⊢; omega)
    rw [feed] at this
    rw [this]; simp
theorem feed_full (s : St) (p l : List UInt8) (h : p.length + l.length = 64) (h0 : p.length < 64) : feed (s, p) l = (compress s (p ++ l), []) := by
  have hl : l ≠ [] := by rintro rfl; simp at h; omega
  obtain ⟨m, c, rfl⟩ : ∃ m c, l = m ++ [c] := ⟨l.dropLast, l.getLast hl, (List.dropLast_concat_getLast hl).symm⟩
  rw [feed_append, feed_short s p m (by simp at h; omega)]
  simp only [feed, List.foldl_cons, List.foldl_nil, take1]
  rw [if_pos (by simp at h ⊢; omega)]
  simp

/-- a length's 8 bytes, the highest first -/
def be8 (n : Nat) : List UInt8 := (List.range 8).map fun i => UInt8.ofNat (8 * n / 2 ^ (8 * (7 - i)))
theorem be8_len (n : Nat) : (be8 n).length = 8 := by simp [be8]
/-- the 32 bytes of a state -/
def outB (s : St) : List UInt8 := (List.range 32).map fun i => w8 (s.list.getD (i / 4) 0 >>> (24 - 8 * (i % 4)))
theorem outB_len (s : St) : (outB s).length = 32 := by simp [outB]

/-- the last blocks -/
def lastSt (s : St) (p : List UInt8) (n : Nat) : St :=
  if 56 ≤ p.length then compress (compress s (p ++ [128] ++ List.replicate (63 - p.length) 0)) (List.replicate 56 0 ++ be8 n)
  else compress s (p ++ [128] ++ List.replicate (55 - p.length) 0 ++ be8 n)
/-- the digest of bytes -/
def shaOf (l : List UInt8) : List UInt8 := outB (lastSt (acc l).1 (acc l).2 l.length)
theorem shaOf_len (l : List UInt8) : (shaOf l).length = 32 := outB_len _

/-- bytes, as they are taken in -/
def padN (n : Nat) : Nat := (119 - n % 64) % 64
def padded (l : List UInt8) : List UInt8 := l ++ [128] ++ List.replicate (padN l.length) 0 ++ be8 l.length

theorem acc_len (l : List UInt8) : (acc l).2.length = l.length % 64 := by
  have key : ∀ (l : List UInt8) (a : St × List UInt8), a.2.length < 64 → (feed a l).2.length = (a.2.length + l.length) % 64 := by
    intro l
    induction l with
    | nil => intro a h; simp [feed]; omega
    | cons c l ih =>
      intro a h
      have h1 := ih (take1 a c) (take1_lt a c h)
      simp only [feed, List.foldl_cons] at h1 ⊢
      rw [h1]
      unfold take1
      split
      · simp; omega
      · simp; congr 1; omega
  have := key l (h0, []) (by simp)
  simpa [acc] using this

/-- to take the padded bytes leaves the digest's state -/
theorem acc_padded (l : List UInt8) : acc (padded l) = (lastSt (acc l).1 (acc l).2 l.length, []) := by
  have hlen := acc_len l
  have hlt := acc_lt l
  have hm : l.length % 64 < 64 := Nat.mod_lt _ (by omega)
  unfold padded
  rw [List.append_assoc, List.append_assoc, acc_append]
  generalize hA : acc l = A at *
  obtain ⟨s, p⟩ := A
  simp only at hlen hlt ⊢
  unfold lastSt padN
  by_cases h : 56 ≤ p.length
  · rw [if_pos h]
    have e1 : List.replicate ((119 - l.length % 64) % 64) (0 : UInt8) = List.replicate (63 - p.length) 0 ++ List.replicate 56 0 := by
      rw [List.replicate_append_replicate]; congr 1; omega
    rw [e1, show [128] ++ (List.replicate (63 - p.length) (0 : UInt8) ++ List.replicate 56 0 ++ be8 l.length) = ([128] ++ List.replicate (63 - p.length) 0) ++ (List.replicate 56 0 ++ be8 l.length) by simp, feed_append,
      feed_full s p _ (by simp; omega) hlt, feed_full _ [] _ (by simp [be8_len]) (by simp)]
    simp
  · rw [if_neg h]
    have e1 : (119 - l.length % 64) % 64 = 55 - p.length := by omega
    rw [e1, feed_full s p _ (by simp [be8_len]; omega) hlt]
    simp
theorem padded_len (l : List UInt8) : (padded l).length % 64 = 0 := by
  have : (padded l).length = l.length + 1 + (119 - l.length % 64) % 64 + 8 := by simp [padded, padN, be8_len]; omega
  omega

end Go.Proofs.YtcmbmimmfgfefaaGreat
