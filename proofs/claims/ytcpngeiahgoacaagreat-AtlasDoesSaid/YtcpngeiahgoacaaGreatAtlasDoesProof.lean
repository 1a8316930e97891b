/- For every list of crews and every list of wishes, AtlasDoes returns true and its arguments read afterwards as they read before: the program's atlas does, of all first crews and wishes, what the document's does, and keeps nothing of what it is handed. No condition. -/
import Derived.Test.YtcpngeiahgoacaaGreatRows
import Derived.Test.YtcpngeiahgoacaaGreatD28
import Derived.Test.YtcpngeiahgoacaaGreatD29
import Derived.WalkKit
import Derived.ProofKit
import Derived.OpenShut
import Derived.ShutString
import Derived.ChangeOld
import Derived.Below
import Derived.SizedLaws
namespace Go.Proofs.YtcpngeiahgoacaaGreat.atlasDoes
open Go.ChangeShapes Go.WideShapes Go.ChangeAt Go.RowKit Go.Proofs.YtcpngeiahgoacaaGreat
set_option linter.unusedVariables false

theorem own : ownKnob Tryz.prog.godebug = none := by kernel_rfl
theorem laidOut : laidOutB Tryz.prog = true := by kernel_rfl


set_option maxRecDepth 100000 in
theorem lifted (os : Os) (started : os.Started) (H : Type) (enc : TypeId × Value → H) :
    ReturnsInHanded {} Tryz.checked os 5 .any (Rows.atlasDoesSpec.pre6 enc Tryz.prog Tryz.f5 Rows.atlasDoesRow.domain false) (Rows.atlasDoesSpec.post enc Tryz.prog Tryz.f5 false true false false) := by
  refine returnsInHanded_of_change_sized (C := Tryz.checked) own started (by kernel_rfl) Tryz.func5
    (ChangeSpec.witness6 (enc := enc) (C := Tryz.checked) false ⟨#[], #[.slice none 0 0, .slice none 0 0], []⟩ 8 (by kernel_rfl) (by kernel_rfl) (by kernel_rfl) (by kernel_rfl)) ?_
  intro W base args ds gs before hval0 hW hcnd hsz0 _
  have hval : ∀ (j : Nat) t v, Tryz.f5.params[j]? = some t → args[j]? = some v → Value.okWide Tryz.prog W .any base t v := hval0
  have hW' := hW
  obtain ⟨p, q, hA0, hV, rfl, hfz, hnd⟩ := hW
  have hA : DataW.TrodAll enc Tryz.prog W 0 (fun _ => true) true Tryz.f5.params.toList args.toList ds p := hA0
  rw [Tryz.params5] at hA hval
  obtain ⟨v0, vs0, d0, ds0, p0, q0, hargs, rfl, rfl, h0, r0⟩ := trodAll_cons hA
  obtain ⟨v1, vs1, d1, ds1, p1, q1, rfl, rfl, rfl, h1, r1⟩ := trodAll_cons r0
  obtain ⟨rfl, rfl, rfl⟩ := trodAll_nil r1
  obtain rfl : args = #[v0, v1] := by cases args; simp_all
  obtain ⟨rfl, rfl⟩ := trodVars_none hV
  have lt0 : ∀ x ∈ p0, x.block < W.heap.size := by obtain ⟨m, hm⟩ := h0; exact DataW.trod_lt m _ _ _ hm
  have ok0 := hval 0 74 v0 rfl rfl
  have z0 : Light Tryz.prog 74 d0 := light_of (show (DataW.weightsEach Tryz.prog (Tryz.f5.params.toList ++ Rows.atlasDoesSpec.plain.varTypes Tryz.prog) ([d0, d1] ++ [])).all (· ≤ reachBytes) = true from hsz0) 0 (by kernel_rfl) rfl
  have lt1 : ∀ x ∈ p1, x.block < W.heap.size := by obtain ⟨m, hm⟩ := h1; exact DataW.trod_lt m _ _ _ hm
  have ok1 := hval 1 75 v1 rfl rfl
  have z1 : Light Tryz.prog 75 d1 := light_of (show (DataW.weightsEach Tryz.prog (Tryz.f5.params.toList ++ Rows.atlasDoesSpec.plain.varTypes Tryz.prog) ([d0, d1] ++ [])).all (· ≤ reachBytes) = true from hsz0) 1 (by kernel_rfl) rfl
  have hwalk : Calls Tryz.prog 5 #[v0, v1] W (fun e w' => e = .returned (.bool true) ∧ Below W.heap.size W w') := by
    obtain ⟨a0, len0, cap0, rfl⟩ := okWide_slice (P := Tryz.prog) Tryz.underlying74 ok0
    obtain ⟨fuel0, hf0⟩ := h0
    obtain ⟨A, n, c, cs, hcs, hr, hc, hm⟩ := open_crews hf0 z0
    simp [Value.cells] at hcs
    obtain ⟨rfl, rfl, rfl⟩ := hcs
    obtain ⟨a1, len1, cap1, rfl⟩ := okWide_slice (P := Tryz.prog) Tryz.underlying75 ok1
    obtain ⟨fuel1, hf1⟩ := h1
    obtain ⟨A2, n2, c2, l, hcs, hr2, hc2, hm2⟩ := open_wishes hf1 z1
    simp [Value.cells] at hcs
    obtain ⟨rfl, rfl, rfl⟩ := hcs
    exact atlasDoes_law _ _ _ cs _ _ _ l W hr hm hr2 hm2
  refine hwalk.mono fun e W' ⟨he, bel⟩ => ?_
  subst he
  exact ⟨_, rfl, _, _, _, [], _, [], hW', trodAll_mk1 (shut_bool Tryz.underlying4 _), (trodAll_cons_mk (Below.trod laidOut (by kernel_rfl) (of_decide_eq_true (by kernel_rfl)) h0 bel lt0) (trodAll_cons_mk (Below.trod laidOut (by kernel_rfl) (of_decide_eq_true (by kernel_rfl)) h1 bel lt1) trodAll_mk0)), rfl, bel.frame _, fun h => by cases h⟩

theorem over : Rows.atlasDoesRow.holds Tryz.pinned (OpenSpec.ofChange Rows.atlasDoesSpec) :=
  OpenClaim.holds_of_wide 5 Tryz.f5 rfl rfl rfl rfl rfl rfl rfl ⟨rfl, rfl, rfl, rfl, rfl⟩ rfl rfl rfl rfl rfl (by kernel_rfl) Tryz.func5 (by kernel_rfl)
    (of_decide_eq_true (by kernel_rfl)) (by unfold Func.isWrapper; first | (rw [if_pos (by decide +kernel)]; kernel_rfl) | (rw [if_neg (by decide +kernel)]; exact ⟨rfl, rfl⟩))
    (fun os started H enc _ => lifted os started H enc)

theorem proved : Rows.AtlasDoesSaid := over
#print axioms proved
end Go.Proofs.YtcpngeiahgoacaaGreat.atlasDoes
