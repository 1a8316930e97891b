/-
  Contract of (*Hash).Len.
-/
import Derived.Test.YtndjaibnapilnaaSum
namespace Go.Proofs.Ytndjaibnapilnaa
set_option linter.unusedVariables false
open Go.RowKit

theorem len_any (g : Nat) (l : List UInt8) (w : World) (h : HashAt w g l) :
    Calls Try.prog 25 #[.pointer (some ⟨g, 0, none⟩)] w fun e w' => e = .returned (.int .i64 (l.length : Int)) ∧ w = w' := by
  have c141 : w.cell? ⟨g, 141, none⟩ = some (.int .i64 (l.length : Int)) := by
    rcases h with ⟨b, h1, _⟩ | ⟨rfl, h1⟩ <;> exact (h1.cell 141).trans (hash_c141 _ _ _ _ _ _ _)
  clear h
  go_enter Try.func25, Try.ntmps25
  go_wp2
  go_ret
  exact ⟨rfl, rfl⟩

end Go.Proofs.Ytndjaibnapilnaa
