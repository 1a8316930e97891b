/-
  ShaOf: the law's walk.
-/
import Derived.Test.YtndjaibnapilnaaRefE
import Derived.Test.YtndjaibnapilnaaHex
import Derived.Test.YtndjaibnapilnaaOpen
namespace Go.Proofs.Ytndjaibnapilnaa
set_option linter.unusedVariables false
open Go.RowKit

set_option maxRecDepth 100000 in
set_option maxHeartbeats 1000000 in
theorem of_law (A : Option Addr) (n c : Nat) (xs : List UInt8) (w : World) (B : Nat) (h : Reads w B 1 A n (xs.map vb)) (hB : B ≤ w.heap.size) (hc : n ≤ c) (hcm : c ≤ reachBytes) :
    Calls Try.prog 3 #[.slice A n c] w fun e w' => e = .returned (.bool true) ∧ Below w.heap.size w w' := by
  have hxn : xs.length = n := by have := h.1; simpa using this
  have HXN := Lib.hid hxn
  have HEQ := Lib.hid (eql_digest (shaOf xs) (shaOf xs) (shaOf_len _) (shaOf_len _))
  clear hxn
  unfold reachBytes at hcm
  go_enter Try.func3, Try.ntmps3
  go_wp2_with fail
  refine (copyBytes_any A n c xs w B h hB (by omega)).mono ?_
  rintro _ w1 ⟨v1, rfl, hO1, hb1⟩
  obtain ⟨A1, c1, rfl, hc1, hc2, hrd, hge⟩ := own_slice_b hO1
  have HRD := Lib.hid hrd
  have HB1 := Lib.hid hb1
  have hs1 := hb1.size
  have hr1 := h.below (hb1.mono hB)
  have HR1 := Lib.hid hr1
  rw [HXN.out] at hc1 HRD ⊢
  clear hO1 hge hrd hb1 hr1
  go_wp2_with fail
  refine (shaOf_any A1 n c1 xs w1 w1.heap.size HRD.out (Nat.le_refl _) hc1 hc2).mono ?_
  rintro _ w2 ⟨rfl, hb2⟩
  have hs2 := hb2.size
  have HR2 := Lib.hid (HR1.out.below (hb2.mono (by omega)))
  have HRD2 := Lib.hid (HRD.out.below hb2)
  have HB2 := Lib.hid (HB1.out.trans (hb2.mono hs1))
  clear hb2
  generalize hD : bRow (shaOf xs) = D at HEQ ⊢
  have HD := Lib.hid hD
  clear hD
  go_wp2_with fail
  refine (refOf_any A n c xs w2 B HR2.out (by omega) (by omega)).mono ?_
  rintro _ w3 ⟨rfl, hb3⟩
  rw [HD.out]
  have hs3 := hb3.size
  have HR3 := Lib.hid (HR2.out.below (hb3.mono (by omega)))
  have HRD3 := Lib.hid (HRD2.out.below (hb3.mono hs2))
  have HB3 := Lib.hid (HB2.out.trans (hb3.mono (by omega)))
  clear hb3
  have heq := HEQ.out
  rw [beq_self_eq_true] at heq
  go_wp2_with fail
  refine (eqBytes_any A1 A n n c1 c xs xs w3 w1.heap.size B HRD3.out HR3.out (by unfold maxLen; omega) (by unfold maxLen; omega)).mono ?_
  rintro _ w4 ⟨rfl, k, rfl⟩
  clear heq
  have hdt : decide (xs = xs) = true := by simp
  go_wp2_with fail
  refine (works_any _).mono ?_
  rintro _ w5 ⟨rfl, hb5⟩
  go_wp2_with fail
  go_ret
  exact ⟨rfl, (below_drewN HB3.out k).trans (hb5.mono (by have := HB3.out.size; exact this))⟩

end Go.Proofs.Ytndjaibnapilnaa
