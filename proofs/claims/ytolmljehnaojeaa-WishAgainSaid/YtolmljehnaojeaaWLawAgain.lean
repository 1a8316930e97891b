/-
  WishAgain: the law's walk.
-/
import Derived.Test.YtolmljehnaojeaaPSame
import Derived.Test.YtolmljehnaojeaaWishMathB
namespace Go.Proofs.Ytolmljehnaojeaa
set_option linter.unusedVariables false
open Go.RowKit

set_option maxRecDepth 100000 in
set_option maxHeartbeats 4000000 in
theorem wishAgain_law (A : Option Addr) (n c : Nat) (xs : List UInt8) (w : World) (B : Nat) (h : Reads w B 1 A n (xs.map vb)) (hB : B ≤ w.heap.size) (hc : n ≤ c) (hn : n ≤ 140737488355328) :
    Calls Try.prog 6 #[.slice A n c] w fun e w' => e = .returned (.bool true) ∧ Below w.heap.size w w' := by
  have H := Lib.hid h
  have hxn : xs.length = n := by have := h.1; simpa using this
  have HXN := Lib.hid hxn
  clear h hxn
  obtain ⟨p, hp⟩ : ∃ p, p = parse xs := ⟨_, rfl⟩
  have HPF := Lib.hid (fun (h0 : p.2 = 0) => (show mayB p.1 = true ∧ wishB p.1 = xs by rw [hp] at h0 ⊢; exact parse_fact h0))
  have HPB := Lib.hid (fun (h0 : p.2 ≠ 0) => (show p.1 = zeroW by rw [hp] at h0 ⊢; exact parse_bad h0))
  have HPA := Lib.hid (fun W (hb : Below w.heap.size w W) => (parse_any A n c xs W B (H.out.below (hb.mono hB)) (by have := hb.size; omega) hc hn))
  rw [← hp] at HPA
  clear hp
  obtain ⟨x, e⟩ := p
  simp only at HPF HPB HPA
  go_enter Try.func6, Try.ntmps6
  go_wp2_with fail
  refine (worksW_any _).mono ?_
  rintro _ w1 ⟨rfl, hb1⟩
  have HB1 := Lib.hid hb1
  have hs1 := hb1.size
  clear hb1
  go_wp2_with fail
  refine (HPA.out w1 HB1.out).mono ?_
  rintro _ w3 ⟨A1, n1, c1, A2, n2, c2, rfl, hwi, hb3⟩
  have HW3 := Lib.hid hwi
  have HB3 := Lib.hid (HB1.out.trans (hb3.mono hs1))
  have hs3 := HB3.out.size
  clear hwi hb3
  go_upto_region 4 with (refine wpList_store_part rfl 25 (.tmp 3) (.tmp 12) rfl w3.heap.size 0 (wCells x A1 n1 c1 A2 n2 c2) rfl rfl 25 (wCells zeroW none 0 0 none 0 0) (Blk.newAt rfl) (wCells_info _ _ _ _ _ _ _) (by simp [wCells]) (wCells_one _ _ _ _ _ _ _) ?_; intro w4 hT4 hD4; rw [spl_self _ _ (by simp [wCells])] at hD4)
  have hb4 : Below w3.heap.size w3 w4 := hT4.below ((Below.refl _ _).alloc (Nat.le_refl _) _) (Nat.le_refl _)
  have HB4 := Lib.hid (HB3.out.trans (hb4.mono hs3))
  have HD4 := Lib.hid hD4
  have HW4 := Lib.hid ((HW3.out.below hb4).more hb4.size)
  have hs4 := HB4.out.size
  clear hT4 hD4 hb4
  by_cases he : e = 0
  · subst he
    obtain ⟨hmx, hwx⟩ := HPF.out rfl
    have hby := bytes_any x A1 n1 c1 A2 n2 c2 w4 w4.heap.size HW4.out (Nat.le_refl _)
    rw [if_pos hmx, if_pos hmx, hwx] at hby
    have HBY := Lib.hid hby
    have HMX := Lib.hid hmx
    clear hmx hwx hby
    go_wp2_with (refine wpList_load_part rfl 25 (.tmp 3) rfl w3.heap.size 0 10 rfl 25 _ (wCells x A1 n1 c1 A2 n2 c2) _ HD4.out Try.underlying25 rfl rfl rfl (fun _ _ => by rw [Nat.zero_add]) ?_)
    refine HBY.out.mono ?_
    rintro _ w5 ⟨bv, rfl, hob, hb5⟩
    have HB5 := Lib.hid (HB4.out.trans (hb5.mono hs4))
    have HD5 := Lib.hid (HD4.out.under hb5)
    have HW5 := Lib.hid ((HW4.out.below hb5).more hb5.size)
    have hs5 := HB5.out.size
    obtain ⟨Ab, cb, rfl, hbc, hbm, hbr, hbB⟩ := own_slice_b hob
    have heq := eqBytes_any Ab A xs.length n cb c xs xs w5 _ _ hbr (H.out.below (HB5.out.mono hB)) (by have := HXN.out; unfold maxLen; omega) (by unfold maxLen; omega)
    rw [decide_eq_true rfl] at heq
    have HEQ := Lib.hid heq
    clear hob hb5 hbr heq
    go_wp2_with fail
    refine HEQ.out.mono ?_
    rintro _ w6 ⟨rfl, q, hq⟩
    have hb6 : Below w5.heap.size w5 w6 := hq ▸ below_drewN (Below.refl _ _) q
    have HB6 := Lib.hid (HB5.out.trans (hb6.mono hs5))
    have HD6 := Lib.hid (HD5.out.under hb6)
    have hck := check_any x A1 n1 c1 A2 n2 c2 w6 _ ((HW5.out.below hb6).more hb6.size) (Nat.le_refl _)
    rw [if_pos HMX.out] at hck
    have HCK := Lib.hid hck
    have hs6 := HB6.out.size
    clear hq hb6 hck
    go_wp2_with (refine wpList_load_guarded rfl 25 (.tmp 3) rfl w3.heap.size 0 10 rfl 25 _ (wCells x A1 n1 c1 A2 n2 c2) _ HD6.out Try.underlying25 rfl rfl rfl (fun _ _ => by rw [Nat.zero_add]) ?_)
    refine HCK.out.mono ?_
    rintro _ w7 ⟨rfl, hb7⟩
    have HB7 := Lib.hid (HB6.out.trans (hb7.mono hs6))
    clear hb7
    go_wp2_with fail
    go_ret
    exact ⟨rfl, HB7.out⟩
  · have hx0 := HPB.out he
    subst hx0
    have he' : ¬ (e : Int) = 0 := by omega
    have hsm := refSame_any zeroW zeroW A1 n1 c1 A2 n2 c2 none 0 0 none 0 0 w4 w4.heap.size HW4.out (wishIn_zero _ _) (Nat.le_refl _)
    rw [(sameW_iff zeroW zeroW).2 rfl] at hsm
    have HSM := Lib.hid hsm
    clear hsm
    go_wp2_with (refine wpList_load_part rfl 25 (.tmp 3) rfl w3.heap.size 0 10 rfl 25 _ (wCells zeroW A1 n1 c1 A2 n2 c2) _ HD4.out Try.underlying25 rfl rfl rfl (fun _ _ => by rw [Nat.zero_add]) ?_)
    refine HSM.out.mono ?_
    rintro _ w5 ⟨rfl, hb5⟩
    have HB5 := Lib.hid (HB4.out.trans (hb5.mono hs4))
    clear hb5
    go_wp2_with fail
    go_ret
    exact ⟨rfl, HB5.out⟩

end Go.Proofs.Ytolmljehnaojeaa
