/-
  Contracts of the helpers EqBytes and CopyBytes.
-/
import Derived.Test.YtcmbmimmfgfefaaGreatRows
import Derived.Test.YtcmbmimmfgfefaaGreatWord
namespace Go.Proofs.YtcmbmimmfgfefaaGreat
set_option linter.unusedVariables false
open Go.RowKit

set_option maxHeartbeats 400000 in
theorem eqBytes_any (A B : Option Addr) (n m c d : Nat) (xs ys : List UInt8) (w : World) (Bx By : Nat) (ha : Reads w Bx 1 A n (xs.map vb)) (hb : Reads w By 1 B m (ys.map vb)) (hn : n ≤ maxLen) (hm : m ≤ maxLen) :
    Calls Tryz.prog 27 #[.slice A n c, .slice B m d] w fun e w' => e = .returned (.bool (decide (xs = ys))) ∧ ∃ k, w' = w.drewN k := by
  have hlx : xs.length = n := by have := ha.1; simpa using this
  have hly : ys.length = m := by have := hb.1; simpa using this
  unfold maxLen at hn hm
  by_cases hnm : n = m
  · subst hnm
    go_enter Tryz.func27, Tryz.ntmps27
    go_wp2
    go_loopw [5] (fun i wr => ∃ k q : Nat, k ≤ n ∧ i = .int .i64 k ∧ xs.take k = ys.take k ∧ wr = w.drewN q) (fun i _ => n - (intOf i).toNat)
    case atStart => exact ⟨0, 0, Nat.zero_le _, rfl, by simp, rfl⟩
    case round =>
      obtain ⟨k, q, hk, rfl, heq, rfl⟩ := hrel
      have HE := Lib.hid heq
      clear heq
      by_cases hlt : k < n
      · obtain ⟨ad, u, rfl, _, hx, hcx⟩ := ha.at_ hlt
        obtain ⟨bd, v, rfl, _, hy, hcy⟩ := hb.at_ hlt
        obtain ⟨hk1, rfl⟩ := getElem?_vb hx
        obtain ⟨hk2, rfl⟩ := getElem?_vb hy
        clear hx hy ha hb
        by_cases hne : xs[k] = ys[k]
        · have hz : (bi xs[k] != bi ys[k]) = false := by simp [hne]
          have HN := Lib.hid hne
          clear hne
          go_wp2
          go_quiet (fail)
          go_wp2
          go_roundw
          case rel => exact ⟨k + 1, _, by omega, by go_num, by rw [List.take_succ_eq_append_getElem hk1, List.take_succ_eq_append_getElem hk2, HE.out, HN.out], rfl⟩
          case measure => simp [intOf]; omega
        · have hz : (bi xs[k] != bi ys[k]) = true := by
            rw [bne_iff_ne]; intro e; exact hne (bi_inj e)
          have HN := Lib.hid hne
          clear hne
          go_wp2
          go_quiet (fail)
          go_wp2
          go_ret
          exact ⟨ret_bool (by have := HN.out; symm; rw [decide_eq_false_iff_not]; rintro rfl; exact this rfl), _, World.drewN_drewN _ _ _⟩
      · have hkn : k = n := by omega
        have HK := Lib.hid hkn
        clear hkn
        go_wp2
        go_ret
        exact ⟨ret_bool (by symm; rw [decide_eq_true_iff]; have h1 := HE.out; rw [HK.out] at h1; rwa [List.take_of_length_le (by omega), List.take_of_length_le (by omega)] at h1), q, rfl⟩
  · have h0 : ((n : Int) != (m : Int)) = true := by rw [bne_iff_ne]; omega
    have HN := Lib.hid hnm
    clear hnm
    go_enter Tryz.func27, Tryz.ntmps27
    go_wp2
    go_ret
    exact ⟨ret_bool (by symm; rw [decide_eq_false_iff_not]; rintro rfl; exact HN.out (by omega)), 0, rfl⟩

end Go.Proofs.YtcmbmimmfgfefaaGreat
