/- Parts of the proof, in one text: AlM. -/
import Derived.Test.YtdpoedgjehofiaaGreatZ28

/- Plain facts of a run of wishes. -/
namespace Go.Proofs.YtdpoedgjehofiaaGreat
set_option linter.unusedVariables false
set_option linter.unusedSimpArgs false
open Go.RowKit Go.Maps

theorem answerQ_len (m : AM) (x : Wish) : (answerQ m x).1.chunks.length = m.chunks.length ∧ (answerQ m x).1.last = m.last := by
  unfold answerQ
  split
  · exact ⟨rfl, rfl⟩
  · split
    · exact ⟨rfl, rfl⟩
    · split
      · exact ⟨rfl, rfl⟩
      · split
        · exact ⟨rfl, rfl⟩
        · split
          · exact ⟨rfl, rfl⟩
          · exact ⟨by simp, rfl⟩
theorem didQ_len (m : AM) (x : Wish) : (didQ m x).chunks.length = m.chunks.length := by
  unfold didQ
  split
  · exact (answerQ_len m x).1
  · rfl
theorem doQ_len (m : AM) (x : Wish) : (doQ m x).1.chunks.length = m.chunks.length := by
  unfold doQ
  split
  · exact didQ_len m x
  · rfl
theorem lastQ_put (l : List (Nat × Ans)) (cs : List Srv) (j i : Nat) (v : Nat × Ans) : lastQ ⟨cs, l.set j v⟩ i = if i = j ∧ j < l.length then v else lastQ ⟨cs, l⟩ i := by
  unfold lastQ
  rw [List.getD_eq_getElem?_getD, List.getD_eq_getElem?_getD, List.getElem?_set]
  by_cases h : j = i
  · subst h
    by_cases h2 : j < l.length
    · rw [if_pos rfl, if_pos h2, if_pos ⟨rfl, h2⟩]; rfl
    · rw [if_pos rfl, if_neg h2, if_neg (fun e => h2 e.2), List.getElem?_eq_none (by show l.length ≤ j; omega)]
  · rw [if_neg h, if_neg (fun e => h e.1.symm)]
theorem doQ_last {m : AM} {x : Wish} {k : Nat} (h : ∀ j, (lastQ m j).1 ≤ k) (hx : x.stamp ≤ (k : Int) + 1) : ∀ j, (lastQ (doQ m x).1 j).1 ≤ k + 1 := by
  intro j
  have hb := h j
  unfold doQ
  split
  · unfold didQ
    split
    · show (lastQ ⟨(answerQ m x).1.chunks, (answerQ m x).1.last.set (x.client - 31).toNat (x.stamp.toNat, (answerQ m x).2)⟩ j).1 ≤ k + 1
      rw [(answerQ_len m x).2, lastQ_put]
      split
      · show x.stamp.toNat ≤ k + 1; omega
      · have : (lastQ ⟨(answerQ m x).1.chunks, m.last⟩ j).1 = (lastQ m j).1 := rfl
        omega
    · show (lastQ m j).1 ≤ k + 1; omega
  · show (lastQ m j).1 ≤ k + 1; omega
/-- who asks for a chunk -/
theorem doQ_query {m : AM} {s : Srv} {c st : Nat} {i : Nat} (hm : AOk m) (hs : m.chunks[i]? = some s) (hi : i < 2) (hc : 31 ≤ c ∧ c ≤ 34) (hst : (lastQ m (c - 31)).1 < st) (h1 : st ≤ 1000000) :
    (doQ m (queryQ (c : Int) (st : Int) ((i : Int) + 1))).2.2 = 0 ∧ (doQ m (queryQ (c : Int) (st : Int) ((i : Int) + 1))).2.1 = ⟨0, [], s.moves.length, s.now⟩ := by
  obtain ⟨x, hx⟩ : ∃ x, x = queryQ (c : Int) (st : Int) ((i : Int) + 1) := ⟨_, rfl⟩
  have x1 : x.client = (c : Int) := by rw [hx]; rfl
  have x2 : x.stamp = (st : Int) := by rw [hx]; rfl
  have x3 : x.block = (i : Int) + 1 := by rw [hx]; rfl
  have x4 : x.kind = 3 := by rw [hx]; rfl
  have hin : inQ x = true := by
    unfold inQ
    rw [Bool.and_eq_true]
    refine ⟨?_, by rw [decide_eq_true]; exact .inl x4⟩
    rw [hx]
    have c1 : (31 : Int) ≤ (c : Int) := by omega
    have c2 : (c : Int) ≤ 34 := by omega
    have s1 : (1 : Int) ≤ (st : Int) := by omega
    have s2 : (st : Int) ≤ 9007199254740991 := by omega
    have b1 : (1 : Int) ≤ (i : Int) + 1 := by omega
    have b2 : (i : Int) + 1 ≤ 2 := by omega
    exact decide_eq_true (show MayP (queryQ (c : Int) (st : Int) ((i : Int) + 1)) from ⟨show (0 : Int) ≤ 0 by decide, show (0 : Int) ≤ 1048576 by decide, .inr ⟨show (3 : Int) ≠ 5 by decide, c1, c2, s1, s2, rfl, .inr ⟨.inl ⟨rfl, rfl, rfl⟩, rfl, rfl, b1, b2, rfl⟩⟩⟩)
  have hj : (x.client - 31).toNat = c - 31 := by rw [x1]; omega
  have hans : answerQ m x = (m, ⟨0, [], s.moves.length, s.now⟩) := by
    unfold answerQ
    rw [show (x.block - 1).toNat = i by rw [x3]; omega, hs]
    simp only
    rw [if_pos x4]
  have hdid : didQ m x = ⟨m.chunks, m.last.set (c - 31) (st, ⟨0, [], s.moves.length, s.now⟩)⟩ := by
    unfold didQ
    rw [hj, if_pos (by rw [x2]; omega), hans, x2]
    rfl
  have hold : oldQ (didQ m x) x = (⟨0, [], s.moves.length, s.now⟩, true) := by
    unfold oldQ
    rw [hj, hdid, lastQ_put, if_pos (show c - 31 = c - 31 ∧ c - 31 < m.last.length from ⟨rfl, by rw [hm.last]; omega⟩)]
    simp only
    rw [if_neg (by rw [x2]; omega), if_neg (by rw [x2]; omega)]
  rw [← hx]
  unfold doQ
  rw [if_pos hin]
  exact ⟨rfl, by show (oldQ (didQ m x) x).1 = _; rw [hold]⟩
theorem wishS_stamp (now : List Int) (n stamp : Int) : (wishS now n stamp).stamp = stamp := by
  unfold wishS
  split <;> rfl
theorem wishS_in {w : World} {now : List Int} {n stamp : Int} (h : ∀ z, z ∈ now → 0 < z ∧ z ≤ 28) (h0 : 0 ≤ stamp) (h1 : stamp ≤ 1000000) : WishIn w w.heap.size (wishS now n stamp) none 0 0 none 0 0 := by
  have hc := clientW_le n
  have hb := bringF_lt (n / 64) 2 (by omega)
  have h9 := bringF_lt (n / 512) 16 (by omega)
  have hg : 0 ≤ now.getD (bringF (n / 128) now.length) 0 ∧ now.getD (bringF (n / 128) now.length) 0 ≤ 28 := by
    rw [List.getD_eq_getElem?_getD]
    cases hq : now[bringF (n / 128) now.length]? with
    | none => simp
    | some z => have := h z (List.mem_of_getElem? hq); simp; omega
  unfold wishS
  generalize now.getD (bringF (n / 128) now.length) 0 = o at hg ⊢
  split
  · exact queryIn ⟨by unfold I64; omega, by unfold I64; omega, by unfold I64; omega⟩
  · refine replIn ⟨?_, by unfold I64; omega, by unfold I64; omega, ?_, ?_⟩
    · split <;> (unfold I64; omega)
    · split
      · unfold I64; omega
      · split <;> (unfold I64; omega)
    · split <;> (unfold I64; omega)
/-- a law's run -/
structure ARun (m : AM) (k : Nat) : Prop where
  two : m.chunks.length = 2
  last : ∀ j, (lastQ m j).1 ≤ k
theorem ARun.step {m : AM} {k : Nat} (h : ARun m k) {x : Wish} (hx : x.stamp ≤ (k : Int) + 1) : ARun (doQ m x).1 (k + 1) := ⟨by rw [doQ_len]; exact h.two, doQ_last h.last hx⟩
theorem ARun.fresh : ARun ak0 0 := ⟨rfl, fun j => by
  unfold ak0
  rw [lastQ_fresh]
  exact Nat.le_refl _⟩

end Go.Proofs.YtdpoedgjehofiaaGreat
