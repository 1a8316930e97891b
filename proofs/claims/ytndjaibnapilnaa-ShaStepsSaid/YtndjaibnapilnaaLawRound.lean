/-
  ShaRound: the law's walk.
-/
import Derived.Test.YtndjaibnapilnaaRefC
import Derived.Test.YtndjaibnapilnaaEqState
import Derived.Test.YtndjaibnapilnaaHex
namespace Go.Proofs.Ytndjaibnapilnaa
set_option linter.unusedVariables false
open Go.RowKit

attribute [local go_sem] calmOp calmAt calmUpon

set_option maxRecDepth 100000 in
set_option maxHeartbeats 1000000 in
theorem round_law (S : St) (blk : List UInt8) (hbl : blk.length = 64) (w : World) :
    Calls Try.prog 6 #[.agg S.vals, .agg (bRow blk)] w fun e w' => e = .returned (.bool true) ∧ Below w.heap.size w w' := by
  have hbs : (bRow blk).size = 64 := by rw [bRow_size, hbl]
  have HBS := Lib.hid hbs
  have HVZ := Lib.hid (vals_size S)
  have H1 := Lib.hid (fun W => shaRound_any S blk hbl W)
  have H2 := Lib.hid (fun W => refRound_any S blk hbl W)
  have heq := eql_state (compress S blk) (compress S blk)
  rw [(stEq_iff _ _).2 rfl] at heq
  have HEQ := Lib.hid heq
  clear hbs heq
  generalize bRow blk = br at HBS H1 H2 ⊢
  generalize S.vals = sv at HVZ H1 H2 ⊢
  generalize (compress S blk).vals = cv at H1 H2 HEQ
  go_enter Try.func6, Try.ntmps6
  go_wp2_with fail
  have hA1 := ((Blk.new w 37 sv).alloc (.cells br 38))
  have hA2 : Blk ((w.alloc (.cells sv 37)).alloc (.cells br 38)) (w.heap.size + 1) 38 br := Blk.newAt (by simp)
  have hAb : Below w.heap.size w ((w.alloc (.cells sv 37)).alloc (.cells br 38)) := ((Below.refl _ _).alloc (Nat.le_refl _) _).alloc (by simp) _
  generalize (w.alloc _).alloc _ = W at hA1 hA2 hAb ⊢
  refine wp_region_calm 10 15 (fun t => #[]) (by kernel_rfl) (by kernel_rfl) (by simp) ?_ ?_
  · intro i o d t hi ho ha a w
    match i, hi with
    | 0, _ | 1, _ | 2, _ | 3, _ | 4, _ | 5, _ | 6, _ | 7, _ | 8, _ | 9, _ => simp only [List.getElem?_toArray, List.getElem?_cons_zero, List.getElem?_cons_succ] at ho; injection ho with ho; subst ho; simp [isAlloc] at ha
  simp only [List.take_succ_cons, List.take_zero, List.drop_succ_cons, List.drop_zero]
  refine wpCalm_load_part rfl 37 (.tmp 2) rfl w.heap.size 0 8 rfl 37 _ sv _ hA1 Try.underlying37 rfl rfl HVZ.out (fun _ _ => by rw [Nat.zero_add]) ?_
  refine wpCalm_load_part rfl 38 (.tmp 3) rfl (w.heap.size + 1) 0 64 rfl 38 _ br _ hA2 Try.underlying38 rfl rfl HBS.out (fun _ _ => by rw [Nat.zero_add]) ?_
  try simp only [Act.put, List.setIfInBounds_toArray, List.set_cons_zero, List.set_cons_succ]
  refine wpCalm_call rfl rfl 21 #[.agg sv, .agg br] (fun W => by go_simp) (.agg cv) (fun W _ => H1.out W) ?_
  refine wpCalm_load_part rfl 37 (.tmp 2) rfl w.heap.size 0 8 rfl 37 _ sv _ hA1 Try.underlying37 rfl rfl HVZ.out (fun _ _ => by rw [Nat.zero_add]) ?_
  refine wpCalm_load_part rfl 38 (.tmp 3) rfl (w.heap.size + 1) 0 64 rfl 38 _ br _ hA2 Try.underlying38 rfl rfl HBS.out (fun _ _ => by rw [Nat.zero_add]) ?_
  try simp only [Act.put, List.setIfInBounds_toArray, List.set_cons_zero, List.set_cons_succ]
  refine wpCalm_call rfl rfl 22 #[.agg sv, .agg br] (fun W => by go_simp) (.agg cv) (fun W _ => H2.out W) ?_
  try simp only [Act.put, List.setIfInBounds_toArray, List.set_cons_zero, List.set_cons_succ]
  refine wpCalm_value rfl rfl (.bool true) (fun W _ => exec_eql_agg 37 (.tmp 7) (.tmp 10) _ rfl cv cv rfl rfl eqg_state _ (HEQ.out W)) ?_
  refine wpCalm_value rfl rfl (.bool true) (fun W _ => rfl) ?_
  try simp only [Act.put, List.setIfInBounds_toArray, List.set_cons_zero, List.set_cons_succ]
  refine wpCalm_call rfl rfl 17 #[] (fun W => by go_simp) (.bool true) (fun W _ => works_any W) ?_
  try simp only [Act.put, List.setIfInBounds_toArray, List.set_cons_zero, List.set_cons_succ]
  refine wpCalm_value rfl rfl (.bool true) (fun W _ => by go_simp) ?_
  try simp only [Act.put, List.setIfInBounds_toArray, List.set_cons_zero, List.set_cons_succ]
  refine wpCalm_nil ?_
  intro W1 hb1 _
  have HB1 := Lib.hid (hAb.trans (hb1.mono hAb.size))
  clear hb1 hA1 hA2 hAb
  go_wp2_with fail
  go_ret
  exact ⟨rfl, HB1.out⟩

end Go.Proofs.Ytndjaibnapilnaa
