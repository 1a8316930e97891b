/-
  WishUnbatched: the law's walk.
-/
import Derived.Test.YtiomahognfmpgaaPSame
import Derived.Test.YtiomahognfmpgaaUnbMath
namespace Go.Proofs.Ytiomahognfmpgaa
set_option linter.unusedVariables false
open Go.RowKit

set_option maxRecDepth 100000 in
set_option maxHeartbeats 4000000 in
theorem wishUnbatched_law (A : Option Addr) (n c : Nat) (xs : List UInt8) (w : World) (B : Nat) (h : Reads w B 1 A n (xs.map vb)) (hB : B ≤ w.heap.size) (hc : n ≤ c) (hn : n ≤ 140737488355328) :
    Calls Try.prog 8 #[.slice A n c] w fun e w' => e = .returned (.bool true) ∧ Below w.heap.size w w' := by
  have H := Lib.hid h
  have hxn : xs.length = n := by have := h.1; simpa using this
  have HXN := Lib.hid hxn
  have HUB := Lib.hid (fun W (hb : Below w.heap.size w W) => unbatch_any A n c xs W B (h.below (hb.mono hB)) (by have := hb.size; omega) hc hn)
  have HOK := Lib.hid (fun (hh : (unbatch xs).2 = 0) => (show batch (unbatch xs).1 = (xs, 0) ∧ (unbatch xs).1.length ≤ 4 by
    obtain ⟨h1, h2, h3⟩ := unb_fact hh
    rw [batch_of h2 h1, h3]
    exact ⟨rfl, h2⟩))
  have HBAD := Lib.hid (fun (hh : (unbatch xs).2 ≠ 0) => unb_bad hh)
  clear h hxn
  obtain ⟨p, hp⟩ : ∃ p, p = unbatch xs := ⟨_, rfl⟩
  rw [← hp] at HUB HBAD HOK
  clear hp
  obtain ⟨l, e⟩ := p
  simp only at HUB HBAD HOK
  go_enter Try.func8, Try.ntmps8
  go_wp2_with fail
  refine (worksW_any _).mono ?_
  rintro _ w1 ⟨rfl, hb1⟩
  have HB1 := Lib.hid hb1
  have hs1 := hb1.size
  clear hb1
  go_wp2_with fail
  refine (HUB.out w1 HB1.out).mono ?_
  rintro _ w2 ⟨A1, n1, c1, rfl, hn1, hc1, hk, hb2⟩
  have hWI := hk w2 (Nat.le_refl _) (fun _ _ _ => rfl)
  have HWI := Lib.hid hWI
  have HN1 := Lib.hid hn1
  have HB2 := Lib.hid (HB1.out.trans (hb2.mono hs1))
  have hs2 := HB2.out.size
  clear hn1 hk hb2 hWI
  by_cases he : e = 0
  · subst he
    obtain ⟨hu, hlen⟩ := HOK.out rfl
    have hn4 : n1 ≤ 4 := by have := HN1.out; omega
    have hba := batch_any A1 n1 c1 l w2 _ HWI.out (Nat.le_refl _) (by omega)
    rw [hu] at hba
    have HBA := Lib.hid hba
    clear hu hba hlen
    go_wp2_with fail
    refine HBA.out.mono ?_
    rintro _ w3 ⟨bv, rfl, hob, hb3⟩
    have HB3 := Lib.hid (HB2.out.trans (hb3.mono hs2))
    have hs3 := HB3.out.size
    obtain ⟨Ab, cb, rfl, hbc, hbm, hbr, hbB⟩ := own_slice_b hob
    have heq := eqBytes_any Ab A xs.length n cb c xs xs w3 _ _ hbr (H.out.below (HB3.out.mono hB)) (by have := HXN.out; unfold maxLen; omega) (by unfold maxLen; omega)
    rw [decide_eq_true rfl] at heq
    have HEQ := Lib.hid heq
    clear hob hb3 hbr heq
    go_wp2_with fail
    refine HEQ.out.mono ?_
    rintro _ w4 ⟨rfl, q, hq⟩
    have HB4 := Lib.hid (HB3.out.trans ((hq ▸ below_drewN (Below.refl _ _) q : Below w3.heap.size w3 w4).mono hs3))
    clear hq
    go_wp2_with fail
    go_ret
    refine ⟨?_, HB4.out⟩
    show Ending.returned (.bool (decide ((n1 : Int) ≤ 4))) = _
    rw [decide_eq_true (by omega)]
  · have h1 := HBAD.out he
    subst h1
    have hn0 : n1 = 0 := HN1.out
    subst hn0
    have he' : ¬ (e : Int) = 0 := by omega
    go_wp2_with fail
    go_ret
    exact ⟨rfl, HB2.out⟩

end Go.Proofs.Ytiomahognfmpgaa
