/-
  '==' and '!=' of digests.
-/
import Derived.Test.YtcmbmimmfgfefaaGreatSum
import Derived.Stop.BytesEq
import Derived.Laws.StructEq
namespace Go.Proofs.YtcmbmimmfgfefaaGreat
set_option linter.unusedVariables false
open Go.RowKit

/-- '==' of two digests -/
theorem eql_digest (xs ys : List UInt8) (hx : xs.length = 32) (hy : ys.length = 32) (w : World) :
    (binOp .eql 32 (.agg (bRow xs)) (.agg (bRow ys))).run Tryz.prog w = .ok (.bool (xs == ys)) w :=
  run_eql_bytes (P := Tryz.prog) w 32 5 32 Tryz.underlying32 Tryz.underlying5 (fun _ => by kernel_rfl) xs ys hx hy

theorem neq_digest (xs ys : List UInt8) (hx : xs.length = 32) (hy : ys.length = 32) (w : World) :
    (binOp .neq 32 (.agg (bRow xs)) (.agg (bRow ys))).run Tryz.prog w = .ok (.bool (xs != ys)) w := by
  have h := eql_digest xs ys hx hy w
  rw [run_eql_struct] at h
  rw [run_neq_struct]
  cases hh : (Op.equalIn 10000 32 (.agg (bRow xs)) (.agg (bRow ys))).run Tryz.prog w with
  | ok b w' =>
    rw [hh] at h
    simp at h
    simp [h, bne]
  | halt x w' => rw [hh] at h; cases h

theorem eqg_digest : Tryz.prog.eqGuardType Tryz.prog.depth 32 = false := by kernel_rfl

end Go.Proofs.YtcmbmimmfgfefaaGreat
