/- For every two states of eight uint32 and every block of 64 bytes, ShaSteps returns true and its arguments read afterwards as they read before: what a round of a block adds to a state is another one for each state. No condition. -/
import Derived.Test.YtndjaibnapilnaaRows
import Derived.Test.YtndjaibnapilnaaLawSteps
import Derived.WalkKit
import Derived.ProofKit
import Derived.OpenShut
import Derived.ShutString
import Derived.ChangeOld
import Derived.Below
import Derived.SizedLaws
namespace Go.Proofs.Ytndjaibnapilnaa.shaSteps
open Go.ChangeShapes Go.WideShapes Go.ChangeAt Go.RowKit Go.Proofs.Ytndjaibnapilnaa
set_option linter.unusedVariables false

theorem own : ownKnob Try.prog.godebug = none := by kernel_rfl
theorem laidOut : laidOutB Try.prog = true := by kernel_rfl


set_option maxRecDepth 100000 in
theorem lifted (os : Os) (started : os.Started) (H : Type) (enc : TypeId × Value → H) :
    ReturnsInHanded {} Try.checked os 8 .any (Rows.shaStepsSpec.pre6 enc Try.prog Try.f8 Rows.shaStepsRow.domain false) (Rows.shaStepsSpec.post enc Try.prog Try.f8 false true false false) := by
  refine returnsInHanded_of_change_sized (C := Try.checked) own started (by kernel_rfl) Try.func8
    (ChangeSpec.witness6 (enc := enc) (C := Try.checked) false ⟨#[], #[.agg (Array.replicate 8 (.int .u32 0)), .agg (Array.replicate 8 (.int .u32 0)), .agg (Array.replicate 64 (.int .u8 0))], []⟩ 8 (by kernel_rfl) (by kernel_rfl) (by kernel_rfl) (by kernel_rfl)) ?_
  intro W base args ds gs before hval0 hW hcnd hsz0 _
  have hval : ∀ (j : Nat) t v, Try.f8.params[j]? = some t → args[j]? = some v → Value.okWide Try.prog W .any base t v := hval0
  have hW' := hW
  obtain ⟨p, q, hA0, hV, rfl, hfz, hnd⟩ := hW
  have hA : DataW.TrodAll enc Try.prog W 0 (fun _ => true) true Try.f8.params.toList args.toList ds p := hA0
  rw [Try.params8] at hA hval
  obtain ⟨v0, vs0, d0, ds0, p0, q0, hargs, rfl, rfl, h0, r0⟩ := trodAll_cons hA
  obtain ⟨v1, vs1, d1, ds1, p1, q1, rfl, rfl, rfl, h1, r1⟩ := trodAll_cons r0
  obtain ⟨v2, vs2, d2, ds2, p2, q2, rfl, rfl, rfl, h2, r2⟩ := trodAll_cons r1
  obtain ⟨rfl, rfl, rfl⟩ := trodAll_nil r2
  obtain rfl : args = #[v0, v1, v2] := by cases args; simp_all
  obtain ⟨rfl, rfl⟩ := trodVars_none hV
  have lt0 : ∀ x ∈ p0, x.block < W.heap.size := by obtain ⟨m, hm⟩ := h0; exact DataW.trod_lt m _ _ _ hm
  have ok0 := hval 0 37 v0 rfl rfl
  have z0 : Light Try.prog 37 d0 := light_of (show (DataW.weightsEach Try.prog (Try.f8.params.toList ++ Rows.shaStepsSpec.plain.varTypes Try.prog) ([d0, d1, d2] ++ [])).all (· ≤ reachBytes) = true from hsz0) 0 (by kernel_rfl) rfl
  have lt1 : ∀ x ∈ p1, x.block < W.heap.size := by obtain ⟨m, hm⟩ := h1; exact DataW.trod_lt m _ _ _ hm
  have ok1 := hval 1 37 v1 rfl rfl
  have z1 : Light Try.prog 37 d1 := light_of (show (DataW.weightsEach Try.prog (Try.f8.params.toList ++ Rows.shaStepsSpec.plain.varTypes Try.prog) ([d0, d1, d2] ++ [])).all (· ≤ reachBytes) = true from hsz0) 1 (by kernel_rfl) rfl
  have lt2 : ∀ x ∈ p2, x.block < W.heap.size := by obtain ⟨m, hm⟩ := h2; exact DataW.trod_lt m _ _ _ hm
  have ok2 := hval 2 38 v2 rfl rfl
  have z2 : Light Try.prog 38 d2 := light_of (show (DataW.weightsEach Try.prog (Try.f8.params.toList ++ Rows.shaStepsSpec.plain.varTypes Try.prog) ([d0, d1, d2] ++ [])).all (· ≤ reachBytes) = true from hsz0) 2 (by kernel_rfl) rfl
  have hwalk : Calls Try.prog 8 #[v0, v1, v2] W (fun e w' => e = .returned (.bool true) ∧ Below W.heap.size W w') := by
    obtain ⟨c0, rfl, _⟩ := okWide_arr Try.underlying37 ok0
    obtain ⟨c1, rfl, _⟩ := okWide_arr Try.underlying37 ok1
    obtain ⟨c2, rfl, _⟩ := okWide_arr Try.underlying38 ok2
    obtain ⟨f0, hf0⟩ := h0
    obtain ⟨f1, hf1⟩ := h1
    obtain ⟨f2, hf2⟩ := h2
    have a0 := open_array Try.underlying37 Try.underlying36 (by kernel_rfl) (by kernel_rfl) hf0
    have a1 := open_array Try.underlying37 Try.underlying36 (by kernel_rfl) (by kernel_rfl) hf1
    have a2 := open_array Try.underlying38 Try.underlying5 (by kernel_rfl) (by kernel_rfl) hf2
    obtain ⟨S, hS⟩ := state_of a0.1 a0.2
    obtain ⟨R, hR⟩ := state_of a1.1 a1.2
    obtain ⟨blk, hbl, hB⟩ := block_of a2.1 a2.2
    obtain rfl : c0 = S.vals := Array.toList_inj.1 hS
    obtain rfl : c1 = R.vals := Array.toList_inj.1 hR
    obtain rfl : c2 = bRow blk := Array.toList_inj.1 hB
    exact steps_law S R blk hbl W
  refine hwalk.mono fun e W' ⟨he, bel⟩ => ?_
  subst he
  exact ⟨_, rfl, _, _, _, [], _, [], hW', trodAll_mk1 (shut_bool Try.underlying4 _), (trodAll_cons_mk (Below.trod laidOut (by kernel_rfl) (of_decide_eq_true (by kernel_rfl)) h0 bel lt0) (trodAll_cons_mk (Below.trod laidOut (by kernel_rfl) (of_decide_eq_true (by kernel_rfl)) h1 bel lt1) (trodAll_cons_mk (Below.trod laidOut (by kernel_rfl) (of_decide_eq_true (by kernel_rfl)) h2 bel lt2) trodAll_mk0))), rfl, bel.frame _, fun h => by cases h⟩

theorem over : Rows.shaStepsRow.holds Try.pinned (OpenSpec.ofChange Rows.shaStepsSpec) :=
  OpenClaim.holds_of_wide 8 Try.f8 rfl rfl rfl rfl rfl rfl rfl ⟨rfl, rfl, rfl, rfl, rfl⟩ rfl rfl rfl rfl rfl (by kernel_rfl) Try.func8 (by kernel_rfl)
    (of_decide_eq_true (by kernel_rfl)) (by unfold Func.isWrapper; first | (rw [if_pos (by decide +kernel)]; kernel_rfl) | (rw [if_neg (by decide +kernel)]; exact ⟨rfl, rfl⟩))
    (fun os started H enc _ => lifted os started H enc)

theorem proved : Rows.ShaStepsSaid := over
#print axioms proved
end Go.Proofs.Ytndjaibnapilnaa.shaSteps
