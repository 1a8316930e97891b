/-
  WishParse: the law's walk.
-/
import Derived.Test.YtcmbmimmfgfefaaRefParse
import Derived.Test.YtcmbmimmfgfefaaUnbatch
import Derived.Test.YtcmbmimmfgfefaaBump
namespace Go.Proofs.Ytcmbmimmfgfefaa
set_option linter.unusedVariables false
open Go.RowKit

set_option maxRecDepth 100000 in
set_option maxHeartbeats 8000000 in
theorem wishParse_law (A : Option Addr) (n c : Nat) (xs : List UInt8) (w : World) (B : Nat) (h : Reads w B 1 A n (xs.map vb)) (hB : B ≤ w.heap.size) (hc : n ≤ c) (hn : n ≤ 140737488355328) :
    Calls Try.prog 3 #[.slice A n c] w fun e w' => e = .returned (.bool true) ∧ Below w.heap.size w w' := by
  have hxn : xs.length = n := by have := h.1; simpa using this
  have H := Lib.hid h
  have HXN := Lib.hid hxn
  have HPR := Lib.hid (fun (W : World) (hb : Below w.heap.size w W) => refParse_fresh A n c xs W B (h.below (hb.mono hB)) (by have := hb.size; omega) hc hn)
  have HPP := Lib.hid (fun (Ai : Option Addr) (ci : Nat) (W : World) (hr : Reads W W.heap.size 1 Ai xs.length (xs.map vb)) (hci : xs.length ≤ ci) => parse_fresh Ai xs.length ci xs W _ hr (Nat.le_refl _) hci (by omega))
  obtain ⟨p, hp⟩ : ∃ p, p = parse xs := ⟨_, rfl⟩
  rw [← hp] at HPR HPP
  clear hp h hxn
  obtain ⟨x, e⟩ := p
  simp only at HPR HPP
  obtain ⟨t, ht⟩ : ∃ t, t = xs.length := ⟨_, rfl⟩
  rw [← ht] at HPP
  have HT := Lib.hid ht
  have htn : t ≤ 140737488355328 := by have := HXN.out; omega
  go_enter Try.func3, Try.ntmps3
  go_wp2_with fail
  refine (copyBytes_any A n c xs w B H.out hB (by omega)).mono ?_
  rintro _ w1 ⟨iv, rfl, hov, hb1⟩
  obtain ⟨Ai, ci, rfl, hci, hcm, hri, hiB⟩ := own_slice_b hov
  rw [← ht] at hci hri ⊢
  have HB1 := Lib.hid hb1
  have HO1 := Lib.hid hov
  have HRI := Lib.hid hri
  have hs1 := hb1.size
  have hil : ∀ b, (Value.slice Ai t ci).ownBlock = some b → w.heap.size ≤ b ∧ b < w1.heap.size := fun b hb => ⟨hov.ge (by rw [← ht]; exact hb), hov.lt (by rw [← ht]; exact hb)⟩
  have HIL := Lib.hid hil
  clear hb1 hov hri ht hil
  go_wp2_with fail
  refine (HPP.out Ai ci w1 HRI.out hci).mono ?_
  rintro _ w2 ⟨A1, n1, c1, A2, n2, c2, rfl, hwi, hb2, hf1, hf2⟩
  have HB2 := Lib.hid (HB1.out.trans (hb2.mono hs1))
  have HO2 := Lib.hid (HO1.out.below hb2)
  have HX2 := Lib.hid (show WishApart w2 (fun b => (Value.slice Ai t ci).ownBlock = some b) x A1 n1 c1 A2 n2 c2 from ⟨hwi, fun a h0 ha hb => by have := hf1 a h0 ha; have := (HIL.out _ hb).2; omega, fun a h0 ha hb => by have := hf2 a h0 ha; have := (HIL.out _ hb).2; omega⟩)
  have hs2 := HB2.out.size
  have hs12 := hb2.size
  clear hwi hb2 hf1 hf2 HO1 HRI HPP
  go_upto_region 3 with (refine wpList_store_part (o := ⟨none, _, _, _, _, _⟩) rfl 26 (.tmp 4) (.tmp 14) rfl w2.heap.size 0 (wCells x A1 n1 c1 A2 n2 c2) rfl rfl 26 (wCells zeroW none 0 0 none 0 0) (Blk.newAt rfl) (wCells_info _ _ _ _ _ _ _) (by simp [wCells]) (wCells_one _ _ _ _ _ _ _) ?_; intro w3 hT3 hD3; rw [spl_self _ _ (by simp [wCells])] at hD3)
  have hb3 : Below w2.heap.size w2 w3 := hT3.below ((Below.refl _ _).alloc (Nat.le_refl _) _) (Nat.le_refl _)
  have HB3 := Lib.hid (HB2.out.trans (hb3.mono hs2))
  have HO3 := Lib.hid (HO2.out.below hb3)
  have HX3 := Lib.hid (HX2.out.keep hb3.size fun i hi _ => hb3.block i hi)
  have hs3 := HB3.out.size
  have hs23 := hb3.size
  obtain ⟨g4, hg4⟩ : ∃ g, g = w2.heap.size := ⟨_, rfl⟩
  rw [← hg4] at hD3 ⊢
  have hg4w : w1.heap.size ≤ g4 := by omega
  have HD3 := Lib.hid hD3
  clear hT3 hD3 hb3 hg4 HO2 HX2
  go_wp2_with fail
  refine (HPR.out w3 HB3.out).mono ?_
  rintro _ w4 ⟨A3, n3, c3, A4, n4, c4, rfl, hwi, hb4, hf1, hf2⟩
  have HB4 := Lib.hid (HB3.out.trans (hb4.mono hs3))
  have HO4 := Lib.hid (HO3.out.below hb4)
  have HX4 := Lib.hid (HX3.out.keep hb4.size fun i hi _ => hb4.block i hi)
  have HD4 := Lib.hid (HD3.out.under hb4)
  have HY4 := Lib.hid (show WishApart w4 (fun b => (Value.slice Ai t ci).ownBlock = some b) x A3 n3 c3 A4 n4 c4 from ⟨hwi, fun a h0 ha hb => by have := hf1 a h0 ha; have := (HIL.out _ hb).2; omega, fun a h0 ha hb => by have := hf2 a h0 ha; have := (HIL.out _ hb).2; omega⟩)
  have hs4 := HB4.out.size
  have hs34 := hb4.size
  clear hwi hb4 hf1 hf2 HO3 HX3 HD3 HPR
  go_upto_region 4 with (refine wpList_store_part (o := ⟨none, _, _, _, _, _⟩) rfl 26 (.tmp 6) (.tmp 19) rfl w4.heap.size 0 (wCells x A3 n3 c3 A4 n4 c4) rfl rfl 26 (wCells zeroW none 0 0 none 0 0) (Blk.newAt rfl) (wCells_info _ _ _ _ _ _ _) (by simp [wCells]) (wCells_one _ _ _ _ _ _ _) ?_; intro w5 hT5 hD5; rw [spl_self _ _ (by simp [wCells])] at hD5)
  have hb5 : Below w4.heap.size w4 w5 := hT5.below ((Below.refl _ _).alloc (Nat.le_refl _) _) (Nat.le_refl _)
  have HB5 := Lib.hid (HB4.out.trans (hb5.mono hs4))
  have HO5 := Lib.hid (HO4.out.below hb5)
  have HX5 := Lib.hid (HX4.out.keep hb5.size fun i hi _ => hb5.block i hi)
  have HY5 := Lib.hid (HY4.out.keep hb5.size fun i hi _ => hb5.block i hi)
  have HD5 := Lib.hid (HD4.out.under hb5)
  have hs5 := HB5.out.size
  have hs45 := hb5.size
  obtain ⟨g6, hg6⟩ : ∃ g, g = w4.heap.size := ⟨_, rfl⟩
  rw [← hg6] at hD5 ⊢
  have hg6w : w1.heap.size ≤ g6 := by omega
  have HE5 := Lib.hid hD5
  clear hT5 hD5 hb5 hg6 HO4 HX4 HY4 HD4
  have hsm := refSame_any x x A1 n1 c1 A2 n2 c2 A3 n3 c3 A4 n4 c4 w5 _ HX5.out.is HY5.out.is (Nat.le_refl _)
  rw [(sameW_iff x x).2 rfl] at hsm
  have HSM := Lib.hid hsm
  clear hsm
  go_wp2_with (first
    | (refine wpList_load_part (o := ⟨some 21, _, _, _, _, _⟩) rfl 26 (.tmp 4) rfl g4 0 10 rfl 26 _ (wCells x A1 n1 c1 A2 n2 c2) _ HD5.out Try.underlying26 rfl rfl rfl (fun _ _ => by rw [Nat.zero_add]) ?_)
    | (refine wpList_load_part (o := ⟨some 22, _, _, _, _, _⟩) rfl 26 (.tmp 6) rfl g6 0 10 rfl 26 _ (wCells x A3 n3 c3 A4 n4 c4) _ HE5.out Try.underlying26 rfl rfl rfl (fun _ _ => by rw [Nat.zero_add]) ?_))
  refine HSM.out.mono ?_
  rintro _ w6 ⟨rfl, hb6⟩
  have HB6 := Lib.hid (HB5.out.trans (hb6.mono hs5))
  have HO6 := Lib.hid (HO5.out.below hb6)
  have HX6 := Lib.hid (HX5.out.keep hb6.size fun i hi _ => hb6.block i hi)
  have HY6 := Lib.hid (HY5.out.keep hb6.size fun i hi _ => hb6.block i hi)
  have HD6 := Lib.hid (HD5.out.under hb6)
  have HE6 := Lib.hid (HE5.out.under hb6)
  have hs6 := HB6.out.size
  have hs56 := hb6.size
  clear hb6 HO5 HX5 HY5 HD5 HE5 HSM
  have hr6 : Reads w6 w6.heap.size 1 Ai t (xs.map vb) := by have := HO6.out; rw [← HT.out] at this; exact this.reads.2.2.2.1
  have heq := eqBytes_any Ai A t n ci c xs xs w6 _ _ hr6 (H.out.below (HB6.out.mono hB)) (by unfold maxLen; omega) (by unfold maxLen; omega)
  rw [decide_eq_true rfl] at heq
  have HEQ := Lib.hid heq
  clear hr6 heq
  go_wp2_with fail
  refine HEQ.out.mono ?_
  rintro _ w7 ⟨rfl, q, hq⟩
  have hb7 : Below w6.heap.size w6 w7 := hq ▸ below_drewN (Below.refl _ _) q
  have HB7 := Lib.hid (HB6.out.trans (hb7.mono hs6))
  have HO7 := Lib.hid (HO6.out.below hb7)
  have HX7 := Lib.hid (HX6.out.keep hb7.size fun i hi _ => hb7.block i hi)
  have HY7 := Lib.hid (HY6.out.keep hb7.size fun i hi _ => hb7.block i hi)
  have HD7 := Lib.hid (HD6.out.under hb7)
  have HE7 := Lib.hid (HE6.out.under hb7)
  have hs7 := HB7.out.size
  have hs67 := hb7.size
  have hI7 := InB.of_own HO7.out
  rw [← HT.out] at hI7
  have HI7 := Lib.hid hI7
  clear hb7 hq hI7 HO6 HX6 HY6 HD6 HE6 HEQ HO7
  go_wp2_with fail
  go_loopw [8] (fun i wr => ∃ j : Nat, j ≤ t ∧ i = .int .i64 j ∧ InB wr (.slice Ai t ci) t ∧ w7.grownBy wr (Value.ownBlock (.slice Ai t ci))) (fun i _ => t - (intOf i).toNat)
  case atStart => exact ⟨0, by omega, rfl, HI7.out, World.grownBy.refl _ _⟩
  case round =>
    obtain ⟨j, hj, rfl, hI, hgr⟩ := hrel
    by_cases hj1 : j < t
    · rcases hI with h0 | ⟨gi, cap, cur, hv, hBk, hcur⟩
      · omega
      injection hv with hv1 _ hv3
      subst hv1 hv3
      obtain ⟨u, hu⟩ := hcur j hj1
      have hcell := (hBk.cell j).trans hu
      have hfz := hBk.frozen j
      unfold vb at hcell
      have hv : (bi u + 1) % 256 = bi (u + 1) := bump_byte u
      have HBk := Lib.hid hBk
      have HC := Lib.hid hcur
      have HGR := Lib.hid hgr
      clear hBk hcur hgr hu
      go_wp2
      go_roundw
      case rel => exact ⟨j + 1, by omega, by go_num, .inr ⟨gi, ci, _, rfl, HBk.out.set_ j (vb (u + 1)), bump_set HC.out _⟩, HGR.out.trans (Turned.setCell _ ⟨gi, j, none⟩ _).grown⟩
      case measure => simp [intOf]; omega
    · obtain rfl : j = t := by omega
      have hgs := hgr.size
      have HB8 := Lib.hid (grown_below HB7.out hs7 hgr (fun b hb => (HIL.out b hb).1))
      have HX8 := Lib.hid (HX7.out.keep hgr.size fun i hi hni => hgr.block i hi (fun e => hni e.symm))
      have HY8 := Lib.hid (HY7.out.keep hgr.size fun i hi hni => hgr.block i hi (fun e => hni e.symm))
      have HD8 := Lib.hid (HD7.out.grown hgr (fun e => by have := (HIL.out g4 e.symm).2; omega))
      have HE8 := Lib.hid (HE7.out.grown hgr (fun e => by have := (HIL.out g6 e.symm).2; omega))
      have hs8 := HB8.out.size
      clear hI hgr HB7 HX7 HY7 HD7 HE7 HI7
      have hsm := refSame_any x x A1 n1 c1 A2 n2 c2 A3 n3 c3 A4 n4 c4 wr _ HX8.out.is HY8.out.is (Nat.le_refl _)
      rw [(sameW_iff x x).2 rfl] at hsm
      have HSM := Lib.hid hsm
      clear hsm
      go_wp2_with (first
        | (refine wpList_load_part (o := ⟨some 50, _, _, _, _, _⟩) rfl 26 (.tmp 4) rfl g4 0 10 rfl 26 _ (wCells x A1 n1 c1 A2 n2 c2) _ HD8.out Try.underlying26 rfl rfl rfl (fun _ _ => by rw [Nat.zero_add]) ?_)
        | (refine wpList_load_part (o := ⟨some 51, _, _, _, _, _⟩) rfl 26 (.tmp 6) rfl g6 0 10 rfl 26 _ (wCells x A3 n3 c3 A4 n4 c4) _ HE8.out Try.underlying26 rfl rfl rfl (fun _ _ => by rw [Nat.zero_add]) ?_))
      refine HSM.out.mono ?_
      rintro _ w9 ⟨rfl, hb9⟩
      have HB9 := Lib.hid (HB8.out.trans (hb9.mono hs8))
      have hs9 := HB9.out.size
      clear hb9
      go_wp2_with fail
      refine (worksW_any _).mono ?_
      rintro _ w10 ⟨rfl, hb10⟩
      have HB10 := Lib.hid (HB9.out.trans (hb10.mono hs9))
      clear hb10
      go_wp2_with fail
      go_ret
      exact ⟨rfl, HB10.out⟩

end Go.Proofs.Ytcmbmimmfgfefaa
