/-
  Contracts of bastideref02: First, Roots, Schedule.
-/
import Derived.Test.YtcmbmimmfgfefaaGreatSum
import Derived.Test.YtcmbmimmfgfefaaGreatQuietTail
namespace Go.Proofs.YtcmbmimmfgfefaaGreat
set_option linter.unusedVariables false
open Go.RowKit

theorem w_shl16' (x : W32) : (wi x * (65536 : Int)) % 4294967296 = wi (x <<< 16) := w_shl' x 16
theorem w_shl24' (x : W32) : (wi x * (16777216 : Int)) % 4294967296 = wi (x <<< 24) := w_shl' x 24
theorem w_shl16 (x : W32) : IntKind.u32.wrap (wi x * (65536 : Int)) = wi (x <<< 16) := w_shl x 16
theorem w_shl24 (x : W32) : IntKind.u32.wrap (wi x * (16777216 : Int)) = wi (x <<< 24) := w_shl x 24

theorem or8 (x : W32) (b : UInt8) (h : x.toNat < 16777216) : (x <<< 8 ||| b32 b).toNat = x.toNat * 256 + b.toNat := by
  have hb := b.toNat_lt
  unfold b32
  rw [BitVec.toNat_or, BitVec.toNat_shiftLeft, BitVec.toNat_ofNat, Nat.mod_eq_of_lt (by omega : b.toNat < 2 ^ 32), Nat.shiftLeft_eq, Nat.mod_eq_of_lt (by omega)]
  have := Nat.shiftLeft_add_eq_or_of_lt (show b.toNat < 2 ^ 8 by omega) x.toNat
  rw [Nat.shiftLeft_eq] at this
  rw [← this]
theorem b32_toNat (b : UInt8) : (b32 b).toNat = b.toNat := by
  have hb := b.toNat_lt
  unfold b32
  rw [BitVec.toNat_ofNat, Nat.mod_eq_of_lt (by omega)]
theorem be4_sum (a b c d : UInt8) : b32 a <<< 24 + b32 b <<< 16 + b32 c <<< 8 + b32 d = be4 a b c d := by
  have ha := a.toNat_lt
  have hb := b.toNat_lt
  have hc := c.toNat_lt
  have hd := d.toNat_lt
  have h1 := or8 (b32 a) b (by rw [b32_toNat]; omega)
  have h2 := or8 (b32 a <<< 8 ||| b32 b) c (by rw [h1, b32_toNat]; omega)
  have h3 := or8 ((b32 a <<< 8 ||| b32 b) <<< 8 ||| b32 c) d (by rw [h2, h1, b32_toNat]; omega)
  apply BitVec.eq_of_toNat_eq
  unfold be4
  rw [h3, h2, h1, BitVec.toNat_add, BitVec.toNat_add, BitVec.toNat_add, BitVec.toNat_shiftLeft, BitVec.toNat_shiftLeft, BitVec.toNat_shiftLeft, b32_toNat, b32_toNat, b32_toNat, b32_toNat, Nat.shiftLeft_eq, Nat.shiftLeft_eq, Nat.shiftLeft_eq]
  omega

attribute [local go_sem] w_add w_add' w_sub w_sub' w_and w_or w_xor w_not w_shr w_shl w_shl' w_shl8 w_shl8' w_shr3 w_shr10 b32_wrap b32_wrap' w8_wrap w8_wrap' w_shl16' w_shl24' w_shl16 w_shl24

section
attribute [local go_sem] w_add w_add' w_sub w_sub' w_and w_or w_xor w_not w_shr w_shl w_shl'
set_option maxHeartbeats 400000 in
theorem refRor_any (x : W32) (n : Nat) (h : 0 < n) (h' : n < 32) (w : World) :
    Calls Tryz.prog 70 #[vw x, .int .i64 (n : Int)] w fun e w' => e = .returned (vw (x.rotateRight n)) ∧ ∃ k, w' = w.drewN k := by
  unfold vw
  go_enter Tryz.func70, Tryz.ntmps70
  go_wp2
  go_quiet (fail)
  go_wp2
  go_ret
  exact ⟨ret_int (by rw [ror_or' x n h']), _, rfl⟩
end
theorem refRor_quiet (x : W32) (n : Int) (h : 0 < n) (h' : n < 32) (w : World) (m : Nat) :
    Calls Tryz.prog 70 #[.int .u32 (wi x), .int .i64 n] (w.drewN m) fun e w' => e = .returned (.int .u32 (wi (x.rotateRight n.toNat))) ∧ ∃ k, w' = w.drewN k := by
  obtain ⟨k, rfl⟩ := Int.eq_ofNat_of_zero_le (show 0 ≤ n by omega)
  exact Calls.quiet_of (refRor_any x k (by omega) (by omega) _)

theorem refRor_quietA (x : W32) (n : Int) (h : 0 < n) (h' : n < 32) (w : World) (a m : Nat) :
    Calls Tryz.prog 70 #[.int .u32 (wi x), .int .i64 n] (w.drewN (a + m)) fun e w' => e = .returned (.int .u32 (wi (x.rotateRight n.toNat))) ∧ ∃ k, w' = w.drewN (a + k) := by
  obtain ⟨k, rfl⟩ := Int.eq_ofNat_of_zero_le (show 0 ≤ n by omega)
  exact quiet_add (refRor_any x k (by omega) (by omega) _)

theorem refRor_w (x : W32) (n : Int) (h : 0 < n) (h' : n < 32) (w : World) :
    Calls Tryz.prog 70 #[.int .u32 (wi x), .int .i64 n] w fun e w' => e = .returned (.int .u32 (wi (x.rotateRight n.toNat))) ∧ ∃ k, w' = w.drewN k := by
  obtain ⟨k, rfl⟩ := Int.eq_ofNat_of_zero_le (show 0 ≤ n by omega)
  exact refRor_any x k (by omega) (by omega) _

theorem first_lit : h0.vals = #[.int .u32 1779033703, .int .u32 3144134277, .int .u32 1013904242, .int .u32 2773480762, .int .u32 1359893119, .int .u32 2600822924, .int .u32 528734635, .int .u32 1541459225] := by kernel_rfl

set_option maxRecDepth 100000 in
theorem refFirst_any (w : World) : Calls Tryz.prog 58 #[] w fun e w' => e = .returned (.agg h0.vals) ∧ Below w.heap.size w w' := by
  have hall := vals_all h0
  have hsz := vals_size h0
  rw [first_lit] at hall hsz ⊢
  go_enter Tryz.func58, Tryz.ntmps58
  go_wp2_with (refine wpList_store_part rfl 95 (.tmp 0) (.tmp 1) rfl w.heap.size 0 #[.int .u32 1779033703, .int .u32 3144134277, .int .u32 1013904242, .int .u32 2773480762, .int .u32 1359893119, .int .u32 2600822924, .int .u32 528734635, .int .u32 1541459225] rfl rfl 95 _ (Blk.newAt rfl) rfl (by simp) hall ?_; intro W4 hT4 hB4; rw [spl_self _ _ (by simp)] at hB4)
  refine bodyPost_ret (results_part rfl _ _ w.heap.size 8 95 _ _ rfl hB4 Tryz.underlying95 rfl rfl rfl) rfl ⟨rfl, hT4.below ((Below.refl _ _).alloc (Nat.le_refl _) _) (Nat.le_refl _)⟩

set_option maxRecDepth 100000 in
set_option maxHeartbeats 1000000 in
theorem refRoots_any (w : World) : Calls Tryz.prog 68 #[] w fun e w' => e = .returned (.agg kRow) ∧ Below w.heap.size w w' := by
  have hk : ∃ k, k = kRow := ⟨_, rfl⟩
  obtain ⟨k, hk⟩ := hk
  have hks : k.size = 64 := by rw [hk]; exact kRow_size
  have hko : k.all (·.oneCell') = true := by rw [hk]; exact kRow_one
  have HK := Lib.hid hk
  have HKS := Lib.hid hks
  have HKO := Lib.hid hko
  rw [← hk]
  clear hk hks hko
  go_enter Tryz.func68, Tryz.ntmps68
  go_wp2_with (refine wpList_store_part rfl 113 (.tmp 0) (.tmp 1) rfl w.heap.size 0 k rfl (by rw [HK.out]; kernel_rfl) 113 _ (Blk.newAt rfl) (by rw [HKS.out]; rfl) (by rw [HKS.out]; simp) HKO.out ?_; intro W4 hT4 hB4; rw [spl_self _ _ (by rw [HKS.out]; simp)] at hB4)
  refine bodyPost_ret (results_part rfl _ _ w.heap.size 64 113 _ _ rfl hB4 Tryz.underlying113 rfl rfl HKS.out) rfl ⟨rfl, hT4.below ((Below.refl _ _).alloc (Nat.le_refl _) _) (Nat.le_refl _)⟩

end Go.Proofs.YtcmbmimmfgfefaaGreat
