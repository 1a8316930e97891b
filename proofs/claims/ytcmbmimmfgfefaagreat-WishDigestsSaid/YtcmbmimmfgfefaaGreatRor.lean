/-
  Contracts of sha.ror and math/bits.RotateLeft32.
-/
import Derived.Test.YtcmbmimmfgfefaaGreatRows
import Derived.Test.YtcmbmimmfgfefaaGreatWord
namespace Go.Proofs.YtcmbmimmfgfefaaGreat
set_option linter.unusedVariables false
open Go.RowKit

attribute [local go_sem] w_add w_add' w_sub w_sub' w_and w_or w_xor w_not w_shr w_shl w_shl'

set_option maxHeartbeats 400000 in
theorem shaRor_any (x : W32) (n : Nat) (h : 0 < n) (h' : n < 32) (w : World) :
    Calls Tryz.prog 77 #[vw x, .int .i64 (n : Int)] w fun e w' => e = .returned (vw (x.rotateRight n)) ∧ w = w' := by
  unfold vw
  have hr := rot_and n h h'
  go_enter Tryz.func77, Tryz.ntmps77
  go_wp2
  go_ret
  exact ⟨ret_int (by rw [sub_sub_ n h', ror_or x n h']), rfl⟩

/-- the same, as a region that draws wants it -/
theorem shaRor_still (x : W32) (n : Int) (h : 0 < n) (h' : n < 32) (w : World) :
    Calls Tryz.prog 77 #[.int .u32 (wi x), .int .i64 n] w fun e w' => e = .returned (.int .u32 (wi (x.rotateRight n.toNat))) ∧ w' = w := by
  obtain ⟨m, rfl⟩ := Int.eq_ofNat_of_zero_le (show 0 ≤ n by omega)
  exact (shaRor_any x m (by omega) (by omega) w).mono fun _ _ ⟨h1, h2⟩ => ⟨by rw [h1]; rfl, h2.symm⟩

end Go.Proofs.YtcmbmimmfgfefaaGreat
