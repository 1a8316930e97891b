/-
  Batches as bytes, there and back; bytes that end too early, and those behind: the plain law.
-/
import Derived.Test.YtcmbmimmfgfefaaUnbatch
import Derived.Test.YtcmbmimmfgfefaaWishMathB
namespace Go.Proofs.Ytcmbmimmfgfefaa
set_option linter.unusedVariables false

theorem rdT_str {s : List UInt8} {most : Nat} (h : s.length ≤ min most 65536) (r : List UInt8) : rdT (strB s ++ r, 0) most = (s, (r, 0)) := by
  unfold rdT
  rw [if_pos rfl]
  unfold ts
  simp only
  rw [takeS_str h]
theorem rdM_num {n most : Nat} (h : n ≤ maxN) (hm : n ≤ most) (r : List UInt8) : rdM (numB n ++ r, 0) most = (n, (r, 0)) := by
  unfold rdM
  rw [rdN_num h]
  simp only
  rw [if_pos trivial, if_neg (by omega)]
theorem rdE_zero (s : RdS) (h : s.2 = 0) (h1 : s.1 = []) : rdE s = 0 := by
  unfold rdE
  rw [h1, h]; simp

section
attribute [local irreducible] parse
theorem ubGo_back : ∀ (k : Nat) (s : RdS) (acc : List Wish), (ubGo k s acc).2 = 0 → s.2 = 0 ∧ ∃ l : List Wish, l.length = k ∧ (∀ x, x ∈ l → mayB x = true) ∧ s.1 = (l.flatMap fun x => strB (wishB x)) ∧ (ubGo k s acc).1 = acc ++ l
  | 0, s, acc, h => by
    unfold ubGo at h ⊢
    by_cases he : rdE s = 0
    · rw [if_pos he]
      have := rdE_ok he
      exact ⟨this.1, [], rfl, by simp, by simpa using this.2, by simp⟩
    · rw [if_neg he] at h
      exact absurd h he
  | k + 1, s, acc, h => by
    by_cases h1 : (rdT s 256).2.2 = 0
    · by_cases h2 : (parse (rdT s 256).1).2 = 0
      · rw [ub_next h1 h2] at h ⊢
        obtain ⟨hs, l, hl, hm, hb, hr⟩ := ubGo_back k _ _ h
        have ht := rdT_ok h1
        obtain ⟨hp1, hp2⟩ := parse_fact h2
        refine ⟨ht.1, (parse (rdT s 256).1).1 :: l, by simp [hl], ?_, ?_, ?_⟩
        · intro x hx
          rcases List.mem_cons.1 hx with e | e
          · rw [e]; exact hp1
          · exact hm x e
        · rw [List.flatMap_cons, hp2, ← hb]; exact ht.2
        · rw [hr]; simp
      · rw [ub_bad2 h1 h2] at h
        exact absurd h h2
    · rw [ub_bad1 h1] at h
      exact absurd h h1
theorem ubGo_bad : ∀ (k : Nat) (s : RdS) (acc : List Wish), (ubGo k s acc).2 ≠ 0 → (ubGo k s acc).1 = []
  | 0, s, acc, h => by
    unfold ubGo at h ⊢
    by_cases he : rdE s = 0
    · rw [if_pos he] at h; exact absurd rfl h
    · rw [if_neg he]
  | k + 1, s, acc, h => by
    by_cases h1 : (rdT s 256).2.2 = 0
    · by_cases h2 : (parse (rdT s 256).1).2 = 0
      · rw [ub_next h1 h2] at h ⊢
        exact ubGo_bad k _ _ h
      · rw [ub_bad2 h1 h2]
    · rw [ub_bad1 h1]
theorem ubGo_of : ∀ (l acc : List Wish) (r : List UInt8), (∀ x, x ∈ l → mayB x = true) → ubGo l.length ((l.flatMap fun x => strB (wishB x)) ++ r, 0) acc = if r.length = 0 then (acc ++ l, 0) else ([], 4)
  | [], acc, r, _ => by
    show (if rdE (r, 0) = 0 then (acc, 0) else ([], rdE (r, 0))) = _
    by_cases h : r.length = 0
    · rw [rdE_zero _ rfl (List.eq_nil_of_length_eq_zero h), if_pos rfl, if_pos h, List.append_nil]
    · have : rdE (r, 0) = 4 := by unfold rdE; rw [if_pos ⟨rfl, by show 0 < r.length; omega⟩]
      rw [this, if_neg (by omega), if_neg h]
  | x :: l, acc, r, h => by
    have hx := h x (by simp)
    have hlt := wishB_lt hx
    have e : rdT (((x :: l).flatMap fun x => strB (wishB x)) ++ r, 0) 256 = (wishB x, ((l.flatMap fun x => strB (wishB x)) ++ r, 0)) := by
      rw [List.flatMap_cons, List.append_assoc, rdT_str (by omega)]
    have hp := parse_of hx
    rw [List.length_cons, ub_next (by rw [e]) (by rw [e]; simp only; rw [hp]), e]
    simp only
    rw [hp]
    have := ubGo_of l (acc ++ [x]) r (fun y hy => h y (by simp [hy]))
    rw [this]
    simp
end
theorem all_may {l : List Wish} : l.all mayB = true ↔ ∀ x, x ∈ l → mayB x = true := by simp
theorem unb_of {l : List Wish} (h4 : l.length ≤ 4) (h : l.all mayB = true) : unbatch (batchOf l) = (l, 0) := by
  unfold unbatch batchOf
  rw [rdM_num (by unfold maxN; omega) h4]
  simp only
  have := ubGo_of l [] [] (all_may.1 h)
  rw [List.append_nil] at this
  rw [this, if_pos List.length_nil, List.nil_append]
theorem unb_behind {l : List Wish} (h4 : l.length ≤ 4) (h : l.all mayB = true) (r : List UInt8) (hr : r.length ≠ 0) : unbatch (batchOf l ++ r) = ([], 4) := by
  unfold unbatch batchOf
  rw [List.append_assoc, rdM_num (by unfold maxN; omega) h4]
  simp only
  rw [ubGo_of l [] r (all_may.1 h), if_neg hr]
theorem unb_fact {b : List UInt8} (h : (unbatch b).2 = 0) : (unbatch b).1.all mayB = true ∧ (unbatch b).1.length ≤ 4 ∧ batchOf (unbatch b).1 = b := by
  unfold unbatch at h ⊢
  obtain ⟨hs, l, hl, hm, hb, hr⟩ := ubGo_back _ _ _ h
  have h1 := rdM_ok hs
  rw [hr, List.nil_append]
  refine ⟨all_may.2 hm, by omega, ?_⟩
  unfold batchOf
  rw [← hb, hl]
  exact h1.2.1.symm
theorem unb_bad {b : List UInt8} (h : (unbatch b).2 ≠ 0) : (unbatch b).1 = [] := ubGo_bad _ _ _ h
theorem batch_bad {l : List Wish} (h : (batch l).2 ≠ 0) : (batch l).1 = [] ∧ ((batch l).2 = 5 ↔ 4 < l.length) := by
  unfold batch at h ⊢
  by_cases h1 : 4 < l.length
  · simp [h1]
  · rw [if_neg h1] at h ⊢
    by_cases h2 : l.all mayB = true
    · rw [if_pos h2] at h; simp at h
    · rw [if_neg h2]; simp; omega
theorem batch_ok {l : List Wish} (h : (batch l).2 = 0) : l.length ≤ 4 ∧ l.all mayB = true ∧ (batch l).1 = batchOf l := by
  unfold batch at h ⊢
  by_cases h1 : 4 < l.length
  · rw [if_pos h1] at h; simp at h
  · rw [if_neg h1] at h ⊢
    by_cases h2 : l.all mayB = true
    · rw [if_pos h2]; exact ⟨by omega, h2, rfl⟩
    · rw [if_neg h2] at h; simp at h
theorem batch_of {l : List Wish} (h1 : l.length ≤ 4) (h2 : l.all mayB = true) : batch l = (batchOf l, 0) := by
  unfold batch
  rw [if_neg (by omega), if_pos h2]

/- bytes that end too early -/
theorem rdN_cut {n : Nat} (h : n ≤ maxN) (r : List UInt8) (k : Nat) : rdN ((numB n ++ r).take k, 0) = if k < (numB n).length then (0, ((rdN ((numB n ++ r).take k, 0)).2.1, 3)) else (n, (r.take (k - (numB n).length), 0)) := by
  by_cases hk : k < (numB n).length
  · rw [if_pos hk]
    unfold rdN
    rw [if_pos rfl, List.take_append_of_le_length (by omega)]
    unfold tn
    simp only
    rw [takeN_cut h hk]
  · rw [if_neg hk, List.take_append, List.take_of_length_le (by omega), rdN_num h]
theorem rdT_cut {s : List UInt8} {most : Nat} (h : s.length ≤ min most 65536) (r : List UInt8) (k : Nat) : rdT ((strB s ++ r).take k, 0) most = if k < (strB s).length then ([], ((rdT ((strB s ++ r).take k, 0) most).2.1, 3)) else (s, (r.take (k - (strB s).length), 0)) := by
  by_cases hk : k < (strB s).length
  · rw [if_pos hk]
    unfold rdT
    rw [if_pos rfl, List.take_append_of_le_length (by omega)]
    unfold ts
    simp only
    rw [takeS_cut h hk]
  · rw [if_neg hk, List.take_append, List.take_of_length_le (by omega), rdT_str h]
theorem rdN_stays (s : RdS) (h : s.2 ≠ 0) : rdN s = (0, s) := by unfold rdN; rw [if_neg h]
theorem rdT_stays (s : RdS) (m : Nat) (h : s.2 ≠ 0) : rdT s m = ([], s) := by unfold rdT; rw [if_neg h]
theorem rdM_stays (s : RdS) (m : Nat) (h : s.2 ≠ 0) : rdM s m = (0, s) := by unfold rdM; rw [rdN_stays s h]; simp only; rw [if_neg h]
theorem rdE_stays (s : RdS) (h : s.2 ≠ 0) : rdE s = s.2 := by unfold rdE; rw [if_neg (by simp [h])]
theorem stN_stays (s : RdS) (h : s.2 ≠ 0) : ∀ k, stN s k = s
  | 0 => rfl
  | k + 1 => by
    show (rdN (stN s k)).2 = s
    rw [stN_stays s h k, rdN_stays s h]
/-- the state of a reader of a part of what it should read: the rest is a part, or the error stands -/
def CutAt (s : RdS) (r : List UInt8) (k : Nat) : Prop := s.2 = 3 ∨ (s.2 = 0 ∧ s.1 = r.take k ∧ k < r.length)
theorem CutAt.num {s : RdS} {n : Nat} {r : List UInt8} {k : Nat} (hn : n ≤ maxN) (h : CutAt s (numB n ++ r) k) : (rdN s).2.2 = 3 ∨ ((rdN s).1 = n ∧ ∃ j, (rdN s).2.2 = 0 ∧ (rdN s).2.1 = r.take j ∧ j < r.length) := by
  rcases h with h | ⟨h1, h2, h3⟩
  · left; rw [rdN_stays s (by omega)]; exact h
  · obtain ⟨b, e⟩ := s
    simp only at h1 h2
    subst h1 h2
    have := rdN_cut hn r k
    by_cases hk : k < (numB n).length
    · rw [if_pos hk] at this
      left; rw [this]
    · rw [if_neg hk] at this
      right; rw [this]
      rw [List.length_append] at h3
      exact ⟨rfl, _, rfl, rfl, by omega⟩
theorem CutAt.next {s : RdS} {n : Nat} {r : List UInt8} {k : Nat} (hn : n ≤ maxN) (h : CutAt s (numB n ++ r) k) : ∃ j, CutAt (rdN s).2 r j := by
  rcases h.num hn with h | ⟨_, j, h1, h2, h3⟩
  · exact ⟨0, .inl h⟩
  · exact ⟨j, .inr ⟨h1, h2, h3⟩⟩
theorem CutAt.str {s : RdS} {t r : List UInt8} {k m : Nat} (hn : t.length ≤ min m 65536) (h : CutAt s (strB t ++ r) k) : (rdT s m).2.2 = 3 ∨ ((rdT s m).1 = t ∧ ∃ j, (rdT s m).2.2 = 0 ∧ (rdT s m).2.1 = r.take j ∧ j < r.length) := by
  rcases h with h | ⟨h1, h2, h3⟩
  · left; rw [rdT_stays s m (by omega)]; exact h
  · obtain ⟨b, e⟩ := s
    simp only at h1 h2
    subst h1 h2
    have := rdT_cut hn r k
    by_cases hk : k < (strB t).length
    · rw [if_pos hk] at this
      left; rw [this]
    · rw [if_neg hk] at this
      right; rw [this]
      rw [List.length_append] at h3
      exact ⟨rfl, _, rfl, rfl, by omega⟩
theorem CutAt.nextT {s : RdS} {t r : List UInt8} {k m : Nat} (hn : t.length ≤ min m 65536) (h : CutAt s (strB t ++ r) k) : ∃ j, CutAt (rdT s m).2 r j := by
  rcases h.str hn with h | ⟨_, j, h1, h2, h3⟩
  · exact ⟨0, .inl h⟩
  · exact ⟨j, .inr ⟨h1, h2, h3⟩⟩
theorem CutAt.many {s : RdS} {n : Nat} {r : List UInt8} {k m : Nat} (hn : n ≤ maxN) (hm : n ≤ m) (h : CutAt s (numB n ++ r) k) : ((rdM s m).1 = 0 ∧ (rdM s m).2.2 = 3) ∨ ((rdM s m).1 = n ∧ ∃ j, CutAt (rdM s m).2 r j) := by
  rcases h.num hn with h | ⟨h0, j, h1, h2, h3⟩
  · left
    unfold rdM
    rw [if_neg (by omega)]
    exact ⟨rfl, h⟩
  · right
    unfold rdM
    rw [if_pos h1, h0, if_neg (by omega)]
    exact ⟨rfl, j, .inr ⟨h1, h2, h3⟩⟩
theorem CutAt.nums {r : List UInt8} : ∀ (l : List Int) (s : RdS) (k : Nat), (∀ z, z ∈ l → NumI z) → CutAt s (numsI l ++ r) k → ∃ j, CutAt (stN s l.length) r j
  | [], s, k, _, h => ⟨k, h⟩
  | z :: t, s, k, hz, h => by
    rw [numsI_cons, List.append_assoc] at h
    obtain ⟨j, hj⟩ := h.next (hz z (by simp)).max
    rw [List.length_cons, stN_shift]
    exact CutAt.nums t _ j (fun y hy => hz y (by simp [hy])) hj
theorem parse_cutE {x : Wish} (h : mayB x = true) (k : Nat) (hk : k < (wishB x).length) : parseE ((wishB x).take k) = 3 := by
  obtain ⟨h6, h3, hn, hd, hl⟩ := may_nums h
  obtain ⟨client, stamp, group, epoch, kind, block, data, old, new, next⟩ := x
  simp only at h6 h3 hn hd hl
  obtain ⟨r3, hr3⟩ : ∃ r, r = numsI next := ⟨_, rfl⟩
  obtain ⟨r2, hr2⟩ : ∃ r, r = numsI [old, new, (next.length : Int)] ++ r3 := ⟨_, rfl⟩
  have hw : wishB ⟨client, stamp, group, epoch, kind, block, data, old, new, next⟩ = numsI [kind, client, stamp, group, epoch, block] ++ (strB data ++ r2) := by
    unfold wishB
    simp only [List.append_assoc, hr2, hr3]
  rw [hw] at hk ⊢
  obtain ⟨b, hb⟩ : ∃ b, b = (numsI [kind, client, stamp, group, epoch, block] ++ (strB data ++ r2)).take k := ⟨_, rfl⟩
  rw [← hb]
  have c0 : CutAt (b, 0) (numsI [kind, client, stamp, group, epoch, block] ++ (strB data ++ r2)) k := .inr ⟨rfl, hb, hk⟩
  obtain ⟨j6, c6⟩ := CutAt.nums _ _ _ h6 c0
  rw [show ([kind, client, stamp, group, epoch, block] : List Int).length = 6 from rfl] at c6
  obtain ⟨jD, cD⟩ := c6.nextT (m := 16) (by omega)
  have e2 : r2 = numsI [old, new] ++ (numB next.length ++ r3) := by rw [hr2]; simp only [numsI, List.flatMap_cons, List.flatMap_nil, List.append_nil, Int.toNat_natCast, List.append_assoc]
  rw [e2] at cD
  obtain ⟨j9, c9⟩ := CutAt.nums _ _ _ (fun z hz => h3 z (by simp at hz ⊢; omega)) cD
  rw [show ([old, new] : List Int).length = 2 from rfl] at c9
  unfold parseE
  have hMe : pM b = rdM (stN (rdT (stN (b, 0) 6) 16).2 2) 7 := rfl
  rw [hMe]
  rcases c9.many (m := 7) (by unfold maxN; omega) (by omega) with hM | ⟨hM, jM, cM⟩
  · rw [hM.1]
    show rdE (rdM (stN (rdT (stN (b, 0) 6) 16).2 2) 7).2 = 3
    rw [rdE_stays _ (by omega)]
    exact hM.2
  · rw [hM]
    have cM' : CutAt (rdM (stN (rdT (stN (b, 0) 6) 16).2 2) 7).2 (numsI next ++ []) jM := by rw [List.append_nil, ← hr3]; exact cM
    obtain ⟨jE, cE⟩ := CutAt.nums _ _ _ hn cM'
    rcases cE with h | ⟨h1, h2, h3⟩
    · rw [rdE_stays _ (by omega)]; exact h
    · simp at h3
theorem parse_cut {x : Wish} (h : mayB x = true) (k : Nat) (hk : k < (wishB x).length) : (parse ((wishB x).take k)).2 = 3 := by
  have := (parse_ways ((wishB x).take k) ()).1 (by rw [parse_cutE h k hk]; omega)
  rw [this, parse_cutE h k hk]
theorem parse_behind {x : Wish} (h : mayB x = true) (r : List UInt8) (hr : r.length ≠ 0) : (parse (wishB x ++ r)).2 = 4 := by
  have hE : parseE (wishB x ++ r) = 4 := by
    obtain ⟨h6, h3, hn, hd, hl⟩ := may_nums h
    obtain ⟨client, stamp, group, epoch, kind, block, data, old, new, next⟩ := x
    simp only at h6 h3 hn hd hl
    have hw : wishB ⟨client, stamp, group, epoch, kind, block, data, old, new, next⟩ ++ r = numsI [kind, client, stamp, group, epoch, block] ++ (strB data ++ (numsI [old, new] ++ (numB next.length ++ (numsI next ++ r)))) := by
      unfold wishB
      simp only [numsI, List.flatMap_cons, List.flatMap_nil, List.append_nil, Int.toNat_natCast, List.append_assoc]
    rw [hw]
    have s6 := stN_nums (strB data ++ (numsI [old, new] ++ (numB next.length ++ (numsI next ++ r)))) [kind, client, stamp, group, epoch, block] h6
    unfold parseE pM pD
    rw [show (6 : Nat) = [kind, client, stamp, group, epoch, block].length from rfl, s6, rdT_str (by omega)]
    simp only
    have s9 := stN_nums (numB next.length ++ (numsI next ++ r)) [old, new] (fun z hz => h3 z (by simp at hz ⊢; omega))
    rw [show (2 : Nat) = [old, new].length from rfl, s9, rdM_num (by unfold maxN; omega) (by omega)]
    simp only
    rw [stN_nums r next hn]
    unfold rdE
    rw [if_pos ⟨rfl, by simp only; omega⟩]
  have := (parse_ways (wishB x ++ r) ()).1 (by rw [hE]; omega)
  rw [this, hE]
theorem unb_cut {x : Wish} (h : mayB x = true) (k : Nat) (hk : k < (batchOf [x]).length) : (unbatch ((batchOf [x]).take k)).2 = 3 := by
  have hlt := wishB_lt h
  have hb : batchOf [x] = numB 1 ++ (strB (wishB x) ++ []) := rfl
  rw [hb] at hk ⊢
  obtain ⟨b, hbb⟩ : ∃ b, b = (numB 1 ++ (strB (wishB x) ++ [])).take k := ⟨_, rfl⟩
  rw [← hbb]
  have c0 : CutAt (b, 0) (numB 1 ++ (strB (wishB x) ++ [])) k := .inr ⟨rfl, hbb, hk⟩
  unfold unbatch
  rcases c0.many (m := 4) (by unfold maxN; omega) (by omega) with hM | ⟨hM, jM, cM⟩
  · rw [hM.1]
    show (if rdE _ = 0 then _ else _ : List Wish × Nat).2 = 3
    rw [rdE_stays _ (by omega), if_neg (by omega)]
    exact hM.2
  · rw [hM]
    rcases cM.str (m := 256) (by omega) with h1 | ⟨_, j, _, _, h1⟩
    · rw [ub_bad1 (by omega)]; exact h1
    · simp at h1

end Go.Proofs.Ytcmbmimmfgfefaa
