/-
  What is read is written so: the plain law, the other way.
-/
import Derived.Test.YtcmbmimmfgfefaaWishMath
namespace Go.Proofs.Ytcmbmimmfgfefaa
set_option linter.unusedVariables false

theorem takeN_err (b : List UInt8) (e : Nat) (h : takeN b = .error e) : e ≠ 0 := by
  unfold takeN at h
  match b, h with
  | [], h => injection h with h; omega
  | m :: r, h =>
    simp only at h
    split at h
    · injection h with h; omega
    · split at h
      · injection h with h; omega
      · split at h
        · injection h with h; omega
        · split at h
          · injection h with h; omega
          · cases h
theorem tn_ok {b : List UInt8} (h : (tn b).2.2 = 0) : b = numB (tn b).1 ++ (tn b).2.1 ∧ (tn b).1 ≤ maxN := by
  unfold tn at h ⊢
  cases hb : takeN b with
  | error e => rw [hb] at h; exact absurd h (takeN_err b e hb)
  | ok p => exact takeN_back (r := p.2) (n := p.1) hb
theorem ts_ok {b : List UInt8} {m : Nat} (h : (ts b m).2.2 = 0) : b = strB (ts b m).1 ++ (ts b m).2.1 := by
  unfold ts at h ⊢
  cases hb : takeS b m with
  | error e =>
    rw [hb] at h
    exfalso
    unfold takeS at hb
    cases hn : takeN b with
    | error e' => rw [hn] at hb; injection hb with hb; exact takeN_err b e' hn (hb.trans h)
    | ok p =>
      rw [hn] at hb
      simp only at hb h
      split at hb
      · injection hb with hb; omega
      · unfold takeF at hb
        split at hb
        · injection hb with hb; omega
        · cases hb
  | ok p => exact (takeS_back (s := p.1) (r := p.2) hb).1
theorem rdN_ok {s : RdS} (h : (rdN s).2.2 = 0) : s.2 = 0 ∧ s.1 = numB (rdN s).1 ++ (rdN s).2.1 ∧ (rdN s).1 ≤ maxN := by
  unfold rdN at h ⊢
  by_cases h0 : s.2 = 0
  · rw [if_pos h0] at h ⊢
    have := tn_ok h
    exact ⟨h0, this.1, this.2⟩
  · rw [if_neg h0] at h
    exact absurd h h0
theorem rdT_ok {s : RdS} {m : Nat} (h : (rdT s m).2.2 = 0) : s.2 = 0 ∧ s.1 = strB (rdT s m).1 ++ (rdT s m).2.1 := by
  unfold rdT at h ⊢
  by_cases h0 : s.2 = 0
  · rw [if_pos h0] at h ⊢
    exact ⟨h0, ts_ok h⟩
  · rw [if_neg h0] at h
    exact absurd h h0
theorem rdM_ok {s : RdS} {m : Nat} (h : (rdM s m).2.2 = 0) : s.2 = 0 ∧ s.1 = numB (rdM s m).1 ++ (rdM s m).2.1 ∧ (rdM s m).1 ≤ m := by
  unfold rdM at h ⊢
  by_cases h0 : (rdN s).2.2 = 0
  · rw [if_pos h0] at h ⊢
    by_cases h1 : m < (rdN s).1
    · rw [if_pos h1] at h; simp at h
    · rw [if_neg h1] at h ⊢
      have := rdN_ok h0
      exact ⟨this.1, this.2.1, by show (rdN s).1 ≤ m; omega⟩
  · rw [if_neg h0] at h
    exact absurd h h0
theorem stN_ok {s : RdS} : ∀ {k : Nat}, (stN s k).2 = 0 → s.2 = 0 ∧ s.1 = ((List.range k).map (vlN s)).flatMap numB ++ (stN s k).1
  | 0, h => ⟨h, rfl⟩
  | k + 1, h => by
    have h1 := rdN_ok (s := stN s k) h
    have h2 := stN_ok h1.1
    refine ⟨h2.1, ?_⟩
    rw [h2.2, h1.2.1, List.range_succ, List.map_append, List.flatMap_append, List.append_assoc]
    simp only [List.map_cons, List.map_nil, List.flatMap_cons, List.flatMap_nil, List.append_nil]
    rfl
theorem rdE_ok {s : RdS} (h : rdE s = 0) : s.2 = 0 ∧ s.1 = [] := by
  unfold rdE at h
  by_cases h0 : s.2 = 0 ∧ 0 < s.1.length
  · rw [if_pos h0] at h; cases h
  · rw [if_neg h0] at h
    refine ⟨h, List.eq_nil_of_length_eq_zero ?_⟩
    rcases Nat.eq_zero_or_pos s.1.length with h1 | h1
    · exact h1
    · exact absurd ⟨h, h1⟩ h0
theorem parse_fwd {b : List UInt8} (h : parseE b = 0) : wishB (parseW b) = b := by
  unfold parseE at h
  have h1 := rdE_ok h
  have h2 := stN_ok h1.1
  have eM : pM b = rdM (stN (pD b).2 2) 7 := rfl
  have eD : pD b = rdT (stN (b, 0) 6) 16 := rfl
  have h3 := rdM_ok (s := stN (pD b).2 2) (m := 7) (by rw [← eM]; exact h2.1)
  rw [← eM] at h3
  have h4 := stN_ok h3.1
  have h5 := rdT_ok (s := stN (b, 0) 6) (m := 16) (by rw [← eD]; exact h4.1)
  rw [← eD] at h5
  have h6 := stN_ok h5.1
  have e6 : b = ((List.range 6).map (vlN (b, 0))).flatMap numB ++ (stN (b, 0) 6).1 := h6.2
  have e5 : (stN (b, 0) 6).1 = strB (pD b).1 ++ (pD b).2.1 := h5.2
  have e4 : (pD b).2.1 = ((List.range 2).map (vlN (pD b).2)).flatMap numB ++ (stN (pD b).2 2).1 := h4.2
  have e3 : (stN (pD b).2 2).1 = numB (pM b).1 ++ (pM b).2.1 := h3.2.1
  have e2 : (pM b).2.1 = ((List.range (pM b).1).map (vlN (pM b).2)).flatMap numB ++ (stN (pM b).2 (pM b).1).1 := h2.2
  rw [h1.2, List.append_nil] at e2
  rw [e2] at e3
  rw [e3] at e4
  rw [e4] at e5
  rw [e5] at e6
  have hn : numsI (parseW b).next = ((List.range (pM b).1).map (vlN (pM b).2)).flatMap numB := by
    rw [parse_next b _ rfl]
    unfold numsI
    rw [List.flatMap_map, List.flatMap_map]
    rfl
  have hl : (parseW b).next.length = (pM b).1 := by rw [parse_next b _ rfl]; simp
  unfold wishB
  rw [hn, hl]
  refine Eq.trans ?_ e6.symm
  simp only [List.range_succ_eq_map, List.range_zero, List.map_cons, List.map_nil, List.flatMap_cons, List.flatMap_nil, List.append_nil, List.append_assoc, numsI, Int.toNat_natCast]
  rfl
section
attribute [local irreducible] parseE parseW
theorem parse_fact {b : List UInt8} (h : (parse b).2 = 0) : mayB (parse b).1 = true ∧ wishB (parse b).1 = b := by
  obtain ⟨w1, w2, w3⟩ := parse_ways b ()
  by_cases he : parseE b = 0
  · cases hm : mayB (parseW b) with
    | true => rw [w2 he hm]; exact ⟨hm, parse_fwd he⟩
    | false => rw [w3 he hm] at h; cases h
  · rw [w1 he] at h
    exact absurd h he
theorem parse_bad {b : List UInt8} (h : (parse b).2 ≠ 0) : (parse b).1 = zeroW := by
  obtain ⟨w1, w2, w3⟩ := parse_ways b ()
  by_cases he : parseE b = 0
  · cases hm : mayB (parseW b) with
    | true => rw [w2 he hm] at h; exact absurd rfl h
    | false => rw [w3 he hm]
  · rw [w1 he]
end
theorem wishB_lt {x : Wish} (h : mayB x = true) : (wishB x).length < 128 := by
  obtain ⟨h6, h3, hn, hd, hl⟩ := may_nums h
  have e1 := numsI_len h6
  have e2 := numsI_len h3
  have e4 := (numB_len (n := x.data.length) (by unfold maxN; omega)).2
  have hsm : ∀ z, z ∈ x.next → 1 ≤ z ∧ z ≤ 28 := by
    have hm : MayP x := of_decide_eq_true h
    unfold MayP at hm
    rcases hm.2.2 with h1 | h1
    · have hc := h1.2.2.2.2.2.2.2.2.2
      unfold crewB at hc
      rw [Bool.and_eq_true] at hc
      exact rising_num _ 0 (by omega) hc.2
    · intro z hz
      rw [List.eq_nil_of_length_eq_zero h1.2.2.2.2.2.1] at hz
      cases hz
  have e3 : (numsI x.next).length ≤ 2 * x.next.length := by
    unfold numsI
    generalize x.next = l at hsm
    induction l with
    | nil => simp
    | cons a t ih =>
      have h1 := hsm a (by simp)
      have h2 := ih (fun z hz => hsm z (by simp [hz]))
      rw [List.flatMap_cons, List.length_append, List.length_cons, numB_small (by omega) (by omega)]
      simp only [List.length_cons, List.length_nil]
      omega
  unfold wishB strB
  simp only [List.length_append, List.length_cons, List.length_nil] at *
  omega

end Go.Proofs.Ytcmbmimmfgfefaa
