/-
  WishBytes: the law's walk.
-/
import Derived.Test.YtiomahognfmpgaaRefBytes
import Derived.Test.YtiomahognfmpgaaRefCopy
namespace Go.Proofs.Ytiomahognfmpgaa
set_option linter.unusedVariables false
open Go.RowKit
attribute [local irreducible] wpCalm

set_option maxRecDepth 100000 in
set_option maxHeartbeats 4000000 in
theorem wishBytes_law (x : Wish) (A : Option Addr) (n c : Nat) (A' : Option Addr) (n' c' : Nat) (w : World) (B : Nat) (hx : WishIn w B x A n c A' n' c') (hB : B ≤ w.heap.size) :
    Calls Try.prog 3 #[.agg (wCells x A n c A' n' c')] w fun e w' => e = .returned (.bool true) ∧ Below w.heap.size w w' := by
  have hX : Below w.heap.size w (w.alloc (.cells (wCells x A n c A' n' c') 25)) := (Below.refl _ _).alloc (Nat.le_refl _) _
  have hk0 : Blk (w.alloc (.cells (wCells x A n c A' n' c') 25)) w.heap.size 25 (wCells x A n c A' n' c') := Blk.newAt rfl
  have HWX := Lib.hid (fun W (hb : Below w.heap.size w W) => hx.below (hb.mono hB))
  have HX := Lib.hid hX
  have HK0 := Lib.hid hk0
  have hs0 : w.heap.size ≤ (w.alloc (.cells (wCells x A n c A' n' c') 25)).heap.size := by simp
  clear hx hX hk0
  obtain ⟨rc, hrc⟩ : ∃ rc : Int, rc = if mayB x = true then 0 else 2 := ⟨_, rfl⟩
  obtain ⟨bs, hbs⟩ : ∃ bs, bs = if mayB x = true then wishB x else [] := ⟨_, rfl⟩
  have hbl : bs.length ≤ 200 := by
    rw [hbs]
    split
    · exact wishB_len (by assumption)
    · simp
  have HRC := Lib.hid hrc
  have HBS := Lib.hid hbs
  clear hrc hbs
  go_enter Try.func3, Try.ntmps3
  go_wp2_with (refine wpList_load_part (o := ⟨some 8, _, _, _, _, _⟩) rfl 25 (.tmp 1) rfl w.heap.size 0 10 rfl 25 _ (wCells x A n c A' n' c') _ HK0.out Try.underlying25 rfl rfl rfl (fun _ _ => by rw [Nat.zero_add]) ?_)
  refine (refCopy_any x A n c A' n' c' _ B (HWX.out _ HX.out) (by omega)).mono ?_
  rintro _ w1 ⟨A1, n1, c1, A2, n2, c2, rfl, how, hb1⟩
  have HB1 := Lib.hid (HX.out.trans (hb1.mono hs0))
  have HK1 := Lib.hid (HK0.out.under hb1)
  have HO1 := Lib.hid how.is
  have hs1 := HB1.out.size
  clear hb1 how
  go_upto_region 2 with (refine wpList_store_part (o := ⟨none, _, _, _, _, _⟩) rfl 25 (.tmp 3) (.tmp 9) rfl w1.heap.size 0 (wCells x A1 n1 c1 A2 n2 c2) rfl rfl 25 (wCells zeroW none 0 0 none 0 0) (Blk.newAt rfl) (wCells_info _ _ _ _ _ _ _) (by simp [wCells]) (wCells_one _ _ _ _ _ _ _) ?_; intro w2 hT2 hD2; rw [spl_self _ _ (by simp [wCells])] at hD2)
  have hb2 : Below w1.heap.size w1 w2 := hT2.below ((Below.refl _ _).alloc (Nat.le_refl _) _) (Nat.le_refl _)
  have HB2 := Lib.hid (HB1.out.trans (hb2.mono hs1))
  have HK2 := Lib.hid (HK1.out.under hb2)
  have HO2 := Lib.hid ((HO1.out.below hb2).more hb2.size)
  have hs2 := HB2.out.size
  obtain ⟨g3, hg3⟩ : ∃ g, g = w1.heap.size := ⟨_, rfl⟩
  rw [← hg3] at hD2 ⊢
  have HD2 := Lib.hid hD2
  clear hT2 hD2 hb2 hg3 HK1 HO1
  have hby := bytes_any x A1 n1 c1 A2 n2 c2 w2 _ HO2.out (Nat.le_refl _)
  rw [← HRC.out, ← HBS.out] at hby
  have HBY := Lib.hid hby
  clear hby
  go_wp2_with (refine wpList_load_part (o := ⟨some 11, _, _, _, _, _⟩) rfl 25 (.tmp 3) rfl g3 0 10 rfl 25 _ (wCells x A1 n1 c1 A2 n2 c2) _ HD2.out Try.underlying25 rfl rfl rfl (fun _ _ => by rw [Nat.zero_add]) ?_)
  refine HBY.out.mono ?_
  rintro _ w3 ⟨bv, rfl, hob, hb3⟩
  have HB3 := Lib.hid (HB2.out.trans (hb3.mono hs2))
  have HK3 := Lib.hid (HK2.out.under hb3)
  have HD3 := Lib.hid (HD2.out.under hb3)
  have HO3 := Lib.hid ((HO2.out.below hb3).more hb3.size)
  have hs3 := HB3.out.size
  obtain ⟨Ab, cb, rfl, hbc, hbm, hbr, hbB⟩ := own_slice_b hob
  have HBR3 := Lib.hid hbr
  clear hob hb3 hbr HBY HK2 HD2 HO2
  have hby := refBytes_any x A n c A' n' c' w3 B (HWX.out w3 HB3.out) (by omega)
  rw [← HRC.out, ← HBS.out] at hby
  have HBY := Lib.hid hby
  clear hby
  go_wp2_with (refine wpList_load_part (o := ⟨some 16, _, _, _, _, _⟩) rfl 25 (.tmp 1) rfl w.heap.size 0 10 rfl 25 _ (wCells x A n c A' n' c') _ HK3.out Try.underlying25 rfl rfl rfl (fun _ _ => by rw [Nat.zero_add]) ?_)
  refine HBY.out.mono ?_
  rintro _ w5 ⟨dv, rfl, hod, hb5⟩
  have HB5 := Lib.hid (HB3.out.trans (hb5.mono hs3))
  have HK5 := Lib.hid (HK3.out.under hb5)
  have HD5 := Lib.hid (HD3.out.under hb5)
  have HO5 := Lib.hid ((HO3.out.below hb5).more hb5.size)
  have HBR5 := Lib.hid ((HBR3.out.below hb5).more hb5.size)
  have hs5 := HB5.out.size
  obtain ⟨Ad, cd, rfl, hdc, hdm, hdr, hdB⟩ := own_slice_b hod
  have HDR5 := Lib.hid hdr
  clear hod hb5 hdr HBY HK3 HD3 HO3 HBR3
  have HC1 := Lib.hid (fun W (hb : Below w5.heap.size w5 W) => (show Calls Try.prog 17 #[.agg (wCells x A1 n1 c1 A2 n2 c2)] W (fun e w' => e = .returned (.int .i64 rc) ∧ Below W.heap.size W w') by rw [HRC.out]; exact check_any x A1 n1 c1 A2 n2 c2 W _ ((HO5.out.below hb).more hb.size) (Nat.le_refl _)))
  have HC2 := Lib.hid (fun W (hb : Below w5.heap.size w5 W) => (show Calls Try.prog 18 #[.agg (wCells x A n c A' n' c')] W (fun e w' => e = .returned (.int .i64 rc) ∧ Below W.heap.size W w') by rw [HRC.out]; exact refCheck_any x A n c A' n' c' W B (HWX.out W (HB5.out.trans (hb.mono hs5))) (by have := hb.size; omega)))
  have HEQ := Lib.hid (fun W (hb : Below w5.heap.size w5 W) => (show Calls Try.prog 19 #[.slice Ab bs.length cb, .slice Ad bs.length cd] W (fun e w' => e = .returned (.bool true) ∧ Below W.heap.size W w') by
    have h := eqBytes_any Ab Ad bs.length bs.length cb cd bs bs W _ _ (HBR5.out.below hb) (HDR5.out.below hb) (by unfold maxLen; omega) (by unfold maxLen; omega)
    rw [decide_eq_true rfl] at h
    exact h.mono fun e w' ⟨he, z, hz⟩ => ⟨he, hz ▸ below_drewN (Below.refl _ _) z⟩))
  have HSM := Lib.hid (fun W (hb : Below w5.heap.size w5 W) => (show Calls Try.prog 20 #[.agg (wCells x A1 n1 c1 A2 n2 c2), .agg (wCells x A n c A' n' c')] W (fun e w' => e = .returned (.bool true) ∧ Below W.heap.size W w') by
    have h := refSame_any x x A1 n1 c1 A2 n2 c2 A n c A' n' c' W W.heap.size ((HO5.out.below hb).more hb.size) ((HWX.out W (HB5.out.trans (hb.mono hs5))).more (by have := hb.size; omega)) (Nat.le_refl _)
    rw [(sameW_iff x x).2 rfl] at h
    exact h))
  go_upto_region 4 with fail
  refine wp_region_calm0 23 43 (by kernel_rfl) (by kernel_rfl) (by kernel_rfl) (by simp) ?_
  simp only [List.take_succ_cons, List.take_zero, List.drop_succ_cons, List.drop_zero]
  refine wpCalm_load_part rfl 25 (.tmp 3) rfl g3 0 10 rfl 25 _ (wCells x A1 n1 c1 A2 n2 c2) _ HD5.out Try.underlying25 rfl rfl rfl (fun _ _ => by rw [Nat.zero_add]) ?_
  try simp only [Act.put, List.setIfInBounds_toArray, List.set_cons_zero, List.set_cons_succ]
  refine wpCalm_call rfl rfl 17 #[.agg (wCells x A1 n1 c1 A2 n2 c2)] (fun W => by go_simp) (.int .i64 rc) (fun W hb => HC1.out W hb) ?_
  try simp only [Act.put, List.setIfInBounds_toArray, List.set_cons_zero, List.set_cons_succ]
  refine wpCalm_load_part rfl 25 (.tmp 1) rfl w.heap.size 0 10 rfl 25 _ (wCells x A n c A' n' c') _ HK5.out Try.underlying25 rfl rfl rfl (fun _ _ => by rw [Nat.zero_add]) ?_
  try simp only [Act.put, List.setIfInBounds_toArray, List.set_cons_zero, List.set_cons_succ]
  refine wpCalm_call rfl rfl 18 #[.agg (wCells x A n c A' n' c')] (fun W => by go_simp) (.int .i64 rc) (fun W hb => HC2.out W hb) ?_
  try simp only [Act.put, List.setIfInBounds_toArray, List.set_cons_zero, List.set_cons_succ]
  refine wpCalm_value rfl rfl (.bool true) (fun W _ => by go_simp) ?_
  try simp only [Act.put, List.setIfInBounds_toArray, List.set_cons_zero, List.set_cons_succ]
  refine wpCalm_value rfl rfl (.bool true) (fun W _ => rfl) ?_
  try simp only [Act.put, List.setIfInBounds_toArray, List.set_cons_zero, List.set_cons_succ]
  refine wpCalm_value rfl rfl (.slice Ab bs.length cb) (fun W _ => rfl) ?_
  try simp only [Act.put, List.setIfInBounds_toArray, List.set_cons_zero, List.set_cons_succ]
  refine wpCalm_value rfl rfl (.slice Ad bs.length cd) (fun W _ => rfl) ?_
  try simp only [Act.put, List.setIfInBounds_toArray, List.set_cons_zero, List.set_cons_succ]
  refine wpCalm_call rfl rfl 19 #[.slice Ab bs.length cb, .slice Ad bs.length cd] (fun W => by go_simp) (.bool true) (fun W hb => HEQ.out W hb) ?_
  try simp only [Act.put, List.setIfInBounds_toArray, List.set_cons_zero, List.set_cons_succ]
  refine wpCalm_value rfl rfl (.bool true) (fun W _ => by go_simp) ?_
  try simp only [Act.put, List.setIfInBounds_toArray, List.set_cons_zero, List.set_cons_succ]
  refine wpCalm_value rfl rfl (.bool true) (fun W _ => rfl) ?_
  try simp only [Act.put, List.setIfInBounds_toArray, List.set_cons_zero, List.set_cons_succ]
  refine wpCalm_value rfl rfl (.int .i64 rc) (fun W _ => rfl) ?_
  try simp only [Act.put, List.setIfInBounds_toArray, List.set_cons_zero, List.set_cons_succ]
  refine wpCalm_value rfl rfl (.int .i64 rc) (fun W _ => rfl) ?_
  try simp only [Act.put, List.setIfInBounds_toArray, List.set_cons_zero, List.set_cons_succ]
  refine wpCalm_value rfl rfl (.bool true) (fun W _ => by go_simp) ?_
  try simp only [Act.put, List.setIfInBounds_toArray, List.set_cons_zero, List.set_cons_succ]
  refine wpCalm_value rfl rfl (.bool true) (fun W _ => by go_simp) ?_
  try simp only [Act.put, List.setIfInBounds_toArray, List.set_cons_zero, List.set_cons_succ]
  refine wpCalm_value rfl rfl (.bool true) (fun W _ => rfl) ?_
  try simp only [Act.put, List.setIfInBounds_toArray, List.set_cons_zero, List.set_cons_succ]
  refine wpCalm_load_part rfl 25 (.tmp 3) rfl g3 0 10 rfl 25 _ (wCells x A1 n1 c1 A2 n2 c2) _ HD5.out Try.underlying25 rfl rfl rfl (fun _ _ => by rw [Nat.zero_add]) ?_
  try simp only [Act.put, List.setIfInBounds_toArray, List.set_cons_zero, List.set_cons_succ]
  refine wpCalm_load_part rfl 25 (.tmp 1) rfl w.heap.size 0 10 rfl 25 _ (wCells x A n c A' n' c') _ HK5.out Try.underlying25 rfl rfl rfl (fun _ _ => by rw [Nat.zero_add]) ?_
  try simp only [Act.put, List.setIfInBounds_toArray, List.set_cons_zero, List.set_cons_succ]
  refine wpCalm_call rfl rfl 20 #[.agg (wCells x A1 n1 c1 A2 n2 c2), .agg (wCells x A n c A' n' c')] (fun W => by go_simp) (.bool true) (fun W hb => HSM.out W hb) ?_
  try simp only [Act.put, List.setIfInBounds_toArray, List.set_cons_zero, List.set_cons_succ]
  refine wpCalm_value rfl rfl (.bool true) (fun W _ => by go_simp) ?_
  try simp only [Act.put, List.setIfInBounds_toArray, List.set_cons_zero, List.set_cons_succ]
  refine wpCalm_value rfl rfl (.bool true) (fun W _ => rfl) ?_
  try simp only [Act.put, List.setIfInBounds_toArray, List.set_cons_zero, List.set_cons_succ]
  refine wpCalm_call rfl rfl 21 #[] (fun W => by go_simp) (.bool true) (fun W hb => worksW_any W) ?_
  try simp only [Act.put, List.setIfInBounds_toArray, List.set_cons_zero, List.set_cons_succ]
  refine wpCalm_value rfl rfl (.bool true) (fun W _ => by go_simp) ?_
  try simp only [Act.put, List.setIfInBounds_toArray, List.set_cons_zero, List.set_cons_succ]
  refine wpCalm_nil ?_
  intro w6 hb6
  have HB6 := Lib.hid (HB5.out.trans (hb6.mono hs5))
  clear hb6
  go_wp2_with fail
  go_ret
  exact ⟨rfl, HB6.out⟩

end Go.Proofs.Ytiomahognfmpgaa
