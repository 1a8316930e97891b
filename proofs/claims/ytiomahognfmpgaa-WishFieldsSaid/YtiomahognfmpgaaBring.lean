/-
  Contract of the helper Bring.
-/
import Derived.Test.YtiomahognfmpgaaRows
import Derived.Test.YtiomahognfmpgaaRow
namespace Go.Proofs.Ytiomahognfmpgaa
set_option linter.unusedVariables false
open Go.RowKit

/-- Bring's number -/
def bringF (i : Int) (n : Nat) : Nat := if i.tmod n < 0 then (i.tmod n + n).toNat else (i.tmod n).toNat
theorem bringF_lt (i : Int) (n : Nat) (hn : 0 < n) : bringF i n < n := by
  have h1 := Int.tmod_lt_of_pos i (show (0 : Int) < n by omega)
  have h2 := Int.lt_tmod_of_pos i (show (0 : Int) < n by omega)
  unfold bringF; split <;> omega

set_option maxHeartbeats 400000 in
theorem bring_any (i : Int) (n : Nat) (hn : 0 < n) (hm : n ≤ maxLen) (h1 : -9223372036854775808 ≤ i) (h2 : i ≤ 9223372036854775807) (w : World) :
    Calls Try.prog 31 #[.int .i64 i, .int .i64 (n : Int)] w fun e w' => e = .returned (.int .i64 (bringF i n : Int)) ∧ w = w' := by
  unfold maxLen at hm
  have hmod := Int.tmod_lt_of_pos i (show (0 : Int) < n by omega)
  have hmod2 := Int.lt_tmod_of_pos i (show (0 : Int) < n by omega)
  go_enter Try.func31, Try.ntmps31
  go_wp2
  all_goals go_ret
  · rename_i h; exact ⟨ret_int (by unfold bringF; rw [if_pos (by omega)]; omega), rfl⟩
  · rename_i h; exact ⟨ret_int (by unfold bringF; rw [if_neg (by omega)]; omega), rfl⟩


end Go.Proofs.Ytiomahognfmpgaa
