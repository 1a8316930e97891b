/-
  When a wish may be, as the reference says it: the plain law.
-/
import Derived.Test.YtcmbmimmfgfefaaGreatRefOwn
import Derived.Test.YtcmbmimmfgfefaaGreatRefNext
namespace Go.Proofs.YtcmbmimmfgfefaaGreat
set_option linter.unusedVariables false

def may1 (x : Wish) : Bool := decide (0 ≤ x.epoch ∧ x.epoch ≤ 1048576) && sameW x (ownW x)
def may2 (x : Wish) : Bool := if x.kind = 5 then may1 x else may1 x && decide (31 ≤ x.client ∧ x.client ≤ 34) && decide (1 ≤ x.stamp ∧ x.stamp ≤ 9007199254740991)
def chB (x : Wish) : Bool := decide (1 ≤ x.group ∧ x.group ≤ 2)
def dirB (x : Wish) : Bool := decide (x.group = 0) && decide (x.epoch = 0) && decide (1 ≤ x.block ∧ x.block ≤ 2)
theorem may_k1 {x : Wish} (h : x.kind = 1) : mayB x = (may2 x && chB x && decide (0 ≤ x.block ∧ x.block ≤ 7)) := by
  obtain ⟨client, stamp, group, epoch, kind, block, data, old, new, next⟩ := x
  simp only at h
  subst h
  rw [Bool.eq_iff_iff]
  simp [mayB, MayP, may2, may1, chB, sameW, ownW]
  by_cases hd : data = [] <;> by_cases hn : next = [] <;> simp [hd, hn] <;> omega
theorem may_k2 {x : Wish} (h : x.kind = 2) : mayB x = (may2 x && chB x && decide (0 ≤ x.block ∧ x.block ≤ 7) && decide (x.data.length = 16)) := by
  obtain ⟨client, stamp, group, epoch, kind, block, data, old, new, next⟩ := x
  simp only at h
  subst h
  rw [Bool.eq_iff_iff]
  simp [mayB, MayP, may2, may1, chB, sameW, ownW]
  by_cases hd : data = [] <;> by_cases hn : next = [] <;> simp [hd, hn] <;> omega
theorem may_k3 {x : Wish} (h : x.kind = 3) : mayB x = (may2 x && dirB x) := by
  obtain ⟨client, stamp, group, epoch, kind, block, data, old, new, next⟩ := x
  simp only at h
  subst h
  rw [Bool.eq_iff_iff]
  simp [mayB, MayP, may2, may1, dirB, sameW, ownW]
  by_cases hd : data = [] <;> by_cases hn : next = [] <;> simp [hd, hn] <;> omega
theorem may_k4 {x : Wish} (h : x.kind = 4) : mayB x = (may2 x && dirB x && decide (1 ≤ x.old ∧ x.old ≤ 28) && decide (1 ≤ x.new ∧ x.new ≤ 28) && !decide (x.old = x.new)) := by
  obtain ⟨client, stamp, group, epoch, kind, block, data, old, new, next⟩ := x
  simp only at h
  subst h
  rw [Bool.eq_iff_iff]
  simp [mayB, MayP, may2, may1, dirB, sameW, ownW]
  by_cases hd : data = [] <;> by_cases hn : next = [] <;> simp [hd, hn] <;> omega
theorem may_k5 {x : Wish} (h : x.kind = 5) : mayB x = (may2 x && chB x && crewB x.next) := by
  obtain ⟨client, stamp, group, epoch, kind, block, data, old, new, next⟩ := x
  simp only at h
  subst h
  rw [Bool.eq_iff_iff]
  simp [mayB, MayP, may2, may1, chB, sameW, ownW]
  by_cases hc : crewB next = true
  · simp [hc]
    by_cases hd : data = [] <;> simp [hd] <;> omega
  · simp [hc]
theorem may_ko {x : Wish} (h : ¬ x.kind = 1 ∧ ¬ x.kind = 2 ∧ ¬ x.kind = 3 ∧ ¬ x.kind = 4 ∧ ¬ x.kind = 5) : mayB x = false := by
  refine decide_eq_false ?_
  unfold MayP
  rintro ⟨_, _, h1 | h1⟩
  · exact h.2.2.2.2 h1.1
  · obtain ⟨_, _, _, _, _, _, h2 | h2⟩ := h1
    · rcases h2.1 with h3 | h3
      · exact h.1 h3.1
      · exact h.2.1 h3.1
    · rcases h2.1 with h3 | h3
      · exact h.2.2.1 h3.1
      · exact h.2.2.2.1 h3.1
theorem own_in (x : Wish) (A : Option Addr) (n c : Nat) (A' : Option Addr) (n' c' : Nat) : ∃ D m d D' m' d', ownSl x A n c A' n' c' = .agg (wCells (ownW x) D m d D' m' d') ∧ ∀ w B, WishIn w B x A n c A' n' c' → WishIn w B (ownW x) D m d D' m' d' := by
  by_cases h5 : x.kind = 5
  · refine ⟨none, 0, 0, A', n', c', by unfold ownSl; rw [if_pos h5], fun w B h => ?_⟩
    have h2 : ¬ x.kind = 2 := by omega
    have h4 : ¬ x.kind = 4 := by omega
    obtain ⟨r1, r2, r3, r4, r5, r6, r7, r8, r9⟩ := h.rng
    refine ⟨?_, Nat.le_refl _, by omega, ?_, h.nc, h.nm, ?_⟩
    · simp [ownW, h2]; exact Reads.none_
    · simp only [ownW, if_pos h5]; exact h.next
    · simp only [ownW, if_pos h5, if_neg h4]
      exact ⟨by unfold I64; omega, by unfold I64; omega, r3, r4, r5, by unfold I64; omega, by unfold I64; omega, by unfold I64; omega, r9⟩
  · by_cases h2 : x.kind = 2
    · refine ⟨A, n, c, none, 0, 0, by unfold ownSl; rw [if_neg h5, if_pos h2], fun w B h => ?_⟩
      have h4 : ¬ x.kind = 4 := by omega
      obtain ⟨r1, r2, r3, r4, r5, r6, r7, r8, r9⟩ := h.rng
      refine ⟨?_, h.dc, h.dm, ?_, Nat.le_refl _, by omega, ?_⟩
      · simp only [ownW, if_pos h2]; exact h.data
      · simp [ownW, h5]; exact Reads.none_
      · simp only [ownW, if_neg h5, if_neg h4]
        exact ⟨r1, r2, r3, r4, r5, r6, by unfold I64; omega, by unfold I64; omega, fun z hz => by cases hz⟩
    · refine ⟨none, 0, 0, none, 0, 0, by unfold ownSl; rw [if_neg h5, if_neg h2], fun w B h => ?_⟩
      obtain ⟨r1, r2, r3, r4, r5, r6, r7, r8, r9⟩ := h.rng
      refine ⟨?_, Nat.le_refl _, by omega, ?_, Nat.le_refl _, by omega, ?_⟩
      · simp [ownW, h2]; exact Reads.none_
      · simp [ownW, h5]; exact Reads.none_
      · simp only [ownW, if_neg h5]
        refine ⟨r1, r2, r3, r4, r5, r6, ?_, ?_, fun z hz => by cases hz⟩
        · split
          · exact r7
          · unfold I64; omega
        · split
          · exact r8
          · unfold I64; omega

end Go.Proofs.YtcmbmimmfgfefaaGreat
