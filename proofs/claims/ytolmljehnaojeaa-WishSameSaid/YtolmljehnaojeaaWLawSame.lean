/-
  WishSame: the law's walk.
-/
import Derived.Test.YtolmljehnaojeaaPSame
namespace Go.Proofs.Ytolmljehnaojeaa
set_option linter.unusedVariables false
open Go.RowKit
attribute [local irreducible] wpCalm

set_option maxRecDepth 100000 in
set_option maxHeartbeats 4000000 in
theorem wishSame_law (x y : Wish) (A : Option Addr) (n c : Nat) (A' : Option Addr) (n' c' : Nat) (D : Option Addr) (m d : Nat) (D' : Option Addr) (m' d' : Nat) (w : World) (B : Nat) (hx : WishIn w B x A n c A' n' c') (hy : WishIn w B y D m d D' m' d') (hB : B ≤ w.heap.size) :
    Calls Try.prog 11 #[.agg (wCells x A n c A' n' c'), .agg (wCells y D m d D' m' d')] w fun e w' => e = .returned (.bool true) ∧ Below w.heap.size w w' := by
  have hX : Below w.heap.size w ((w.alloc (.cells (wCells x A n c A' n' c') 25)).alloc (.cells (wCells y D m d D' m' d') 25)) := ((Below.refl _ _).alloc (Nat.le_refl _) _).alloc (by simp) _
  have k1 : Blk ((w.alloc (.cells (wCells x A n c A' n' c') 25)).alloc (.cells (wCells y D m d D' m' d') 25)) w.heap.size 25 (wCells x A n c A' n' c') := (Blk.new w _ _).alloc _
  have k2 : Blk ((w.alloc (.cells (wCells x A n c A' n' c') 25)).alloc (.cells (wCells y D m d D' m' d') 25)) (w.heap.size + 1) 25 (wCells y D m d D' m' d') := Blk.newAt (by simp)
  have HX := Lib.hid hX
  have K1 := Lib.hid k1
  have K2 := Lib.hid k2
  have HWX := Lib.hid (fun W (hb : Below w.heap.size w W) => hx.below (hb.mono hB))
  have HWY := Lib.hid (fun W (hb : Below w.heap.size w W) => hy.below (hb.mono hB))
  clear hx hy hX k1 k2
  go_enter Try.func11, Try.ntmps11
  go_upto_region 1 with fail
  generalize World.alloc _ _ = w1 at HX K1 K2 ⊢
  have hs1 := HX.out.size
  have HP := Lib.hid (fun W (hb : Below w1.heap.size w1 W) => wishSame_any x y A n c A' n' c' D m d D' m' d' W B (HWX.out W (HX.out.trans (hb.mono hs1))) (HWY.out W (HX.out.trans (hb.mono hs1))) (by have := hb.size; omega))
  have HR := Lib.hid (fun W (hb : Below w1.heap.size w1 W) => refSame_any x y A n c A' n' c' D m d D' m' d' W B (HWX.out W (HX.out.trans (hb.mono hs1))) (HWY.out W (HX.out.trans (hb.mono hs1))) (by have := hb.size; omega))
  refine wp_region_calm0 10 15 (by kernel_rfl) (by kernel_rfl) (by kernel_rfl) (by simp) ?_
  simp only [List.take_succ_cons, List.take_zero, List.drop_succ_cons, List.drop_zero]
  refine wpCalm_load_part rfl 25 (.tmp 2) rfl w.heap.size 0 10 rfl 25 _ (wCells x A n c A' n' c') _ K1.out Try.underlying25 rfl rfl rfl (fun _ _ => by rw [Nat.zero_add]) ?_
  try simp only [Act.put, List.setIfInBounds_toArray, List.set_cons_zero, List.set_cons_succ]
  refine wpCalm_load_part rfl 25 (.tmp 3) rfl (w.heap.size + 1) 0 10 rfl 25 _ (wCells y D m d D' m' d') _ K2.out Try.underlying25 rfl rfl rfl (fun _ _ => by rw [Nat.zero_add]) ?_
  try simp only [Act.put, List.setIfInBounds_toArray, List.set_cons_zero, List.set_cons_succ]
  refine wpCalm_call rfl rfl 34 #[.agg (wCells x A n c A' n' c'), .agg (wCells y D m d D' m' d')] (fun W => by go_simp) (.bool (sameW x y)) (fun W hb => HP.out W hb) ?_
  try simp only [Act.put, List.setIfInBounds_toArray, List.set_cons_zero, List.set_cons_succ]
  refine wpCalm_load_part rfl 25 (.tmp 2) rfl w.heap.size 0 10 rfl 25 _ (wCells x A n c A' n' c') _ K1.out Try.underlying25 rfl rfl rfl (fun _ _ => by rw [Nat.zero_add]) ?_
  try simp only [Act.put, List.setIfInBounds_toArray, List.set_cons_zero, List.set_cons_succ]
  refine wpCalm_load_part rfl 25 (.tmp 3) rfl (w.heap.size + 1) 0 10 rfl 25 _ (wCells y D m d D' m' d') _ K2.out Try.underlying25 rfl rfl rfl (fun _ _ => by rw [Nat.zero_add]) ?_
  try simp only [Act.put, List.setIfInBounds_toArray, List.set_cons_zero, List.set_cons_succ]
  refine wpCalm_call rfl rfl 20 #[.agg (wCells x A n c A' n' c'), .agg (wCells y D m d D' m' d')] (fun W => by go_simp) (.bool (sameW x y)) (fun W hb => HR.out W hb) ?_
  try simp only [Act.put, List.setIfInBounds_toArray, List.set_cons_zero, List.set_cons_succ]
  refine wpCalm_value rfl rfl (.bool true) (fun W _ => by go_simp) ?_
  try simp only [Act.put, List.setIfInBounds_toArray, List.set_cons_zero, List.set_cons_succ]
  refine wpCalm_value rfl rfl (.bool true) (fun W _ => rfl) ?_
  try simp only [Act.put, List.setIfInBounds_toArray, List.set_cons_zero, List.set_cons_succ]
  refine wpCalm_call rfl rfl 21 #[] (fun W => by go_simp) (.bool true) (fun W hb => worksW_any W) ?_
  try simp only [Act.put, List.setIfInBounds_toArray, List.set_cons_zero, List.set_cons_succ]
  refine wpCalm_value rfl rfl (.bool true) (fun W _ => by go_simp) ?_
  try simp only [Act.put, List.setIfInBounds_toArray, List.set_cons_zero, List.set_cons_succ]
  refine wpCalm_nil ?_
  intro W1 hb1
  have HB4 := Lib.hid (HX.out.trans (hb1.mono hs1))
  clear hb1
  go_wp2_with fail
  go_ret
  exact ⟨rfl, HB4.out⟩

end Go.Proofs.Ytolmljehnaojeaa
