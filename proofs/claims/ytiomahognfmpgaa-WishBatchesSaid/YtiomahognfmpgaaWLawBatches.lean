/-
  WishBatches: the law's walk.
-/
import Derived.Test.YtiomahognfmpgaaAlike
import Derived.Test.YtiomahognfmpgaaUnbMath
namespace Go.Proofs.Ytiomahognfmpgaa
set_option linter.unusedVariables false
open Go.RowKit

set_option maxRecDepth 100000 in
set_option maxHeartbeats 4000000 in
theorem wishBatches_law (A : Option Addr) (n c : Nat) (l : List Wish) (w : World) (B : Nat) (h : WishesIn w B A n l) (hB : B ≤ w.heap.size) (hn : n ≤ 2000000000000) :
    Calls Try.prog 7 #[.slice A n c] w fun e w' => e = .returned (.bool true) ∧ Below w.heap.size w w' := by
  have H := Lib.hid h
  have HBT := Lib.hid (fun W (hb : Below w.heap.size w W) => batch_any A n c l W B (h.below (hb.mono hB)) (by have := hb.size; omega) hn)
  have HBAD := Lib.hid (fun (hh : (batch l).2 ≠ 0) => (show (batch l).1 = [] ∧ ((batch l).2 = 5 ↔ 4 < n) by rw [← h.1]; exact batch_bad hh))
  have HOK := Lib.hid (fun (hh : (batch l).2 = 0) => (show unbatch (batch l).1 = (l, 0) ∧ (batch l).1.length ≤ 2000 by
    obtain ⟨h1, h2, h3⟩ := batch_ok hh
    rw [h3]
    refine ⟨unb_of h1 h2, ?_⟩
    have := outs_len (n := l.length) (k := 4) (all_may.1 h2) h1 h1
    unfold batchOf
    omega))
  clear h
  obtain ⟨p, hp⟩ : ∃ p, p = batch l := ⟨_, rfl⟩
  rw [← hp] at HBT HBAD HOK
  clear hp
  obtain ⟨bs, e⟩ := p
  simp only at HBT HBAD HOK
  go_enter Try.func7, Try.ntmps7
  go_wp2_with fail
  refine (worksW_any _).mono ?_
  rintro _ w1 ⟨rfl, hb1⟩
  have HB1 := Lib.hid hb1
  have hs1 := hb1.size
  clear hb1
  go_wp2_with fail
  refine (HBT.out w1 HB1.out).mono ?_
  rintro _ w2 ⟨bv, rfl, hob, hb2⟩
  have HB2 := Lib.hid (HB1.out.trans (hb2.mono hs1))
  have hs2 := HB2.out.size
  obtain ⟨Ab, cb, rfl, hbc, hbm, hbr, hbB⟩ := own_slice_b hob
  have HBR := Lib.hid hbr
  clear hob hb2 hbr
  by_cases he : e = 0
  · subst he
    obtain ⟨hu, hlen⟩ := HOK.out rfl
    have hub := unbatch_any Ab bs.length cb bs w2 _ HBR.out (Nat.le_refl _) hbc (by omega)
    rw [hu] at hub
    have HUB := Lib.hid hub
    clear hu hub
    go_wp2_with fail
    refine HUB.out.mono ?_
    rintro _ w3 ⟨A1, n1, c1, rfl, hn1, hc1, hk, hb3⟩
    have hWI := hk w3 (Nat.le_refl _) (fun _ _ _ => rfl)
    have HB3 := Lib.hid (HB2.out.trans (hb3.mono hs2))
    have hs3 := HB3.out.size
    have hal := alike_any A A1 n c n1 c1 l l w3 w3.heap.size ((H.out.below (HB3.out.mono hB)).more (by omega)) hWI (Nat.le_refl _) hn (by rw [← hWI.1, H.out.1]; exact hn)
    rw [decide_eq_true rfl] at hal
    have HAL := Lib.hid hal
    clear hn1 hk hb3 hWI hal hc1
    go_wp2_with fail
    refine HAL.out.mono ?_
    rintro _ w4 ⟨rfl, hb4⟩
    have HB4 := Lib.hid (HB3.out.trans (hb4.mono hs3))
    clear hb4
    go_wp2_with fail
    go_ret
    exact ⟨rfl, HB4.out⟩
  · obtain ⟨h1, h2⟩ := HBAD.out he
    subst h1
    have he' : ¬ (e : Int) = 0 := by omega
    by_cases h5 : 4 < n
    · have h5e := h2.2 h5
      subst h5e
      have hd4 : (4 : Int) < n := by omega
      clear h2
      go_wp2_with fail
      go_ret
      exact ⟨rfl, HB2.out⟩
    · have h5e : ¬ e = 5 := fun h => h5 (h2.1 h)
      have h5i : ((e : Int) == 5) = false := by
        rw [beq_eq_false_iff_ne]; omega
      have hd4 : ¬ (4 : Int) < n := by omega
      clear h2
      go_wp2_with fail
      go_ret
      refine ⟨?_, HB2.out⟩
      show Ending.returned (.bool (!decide ((4 : Int) < n))) = _
      rw [decide_eq_false (by omega)]
      rfl

end Go.Proofs.Ytiomahognfmpgaa
