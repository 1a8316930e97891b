/-
  Contract of bin.Num.
-/
import Derived.Test.YtcmbmimmfgfefaaGreatNumMath
import Derived.Test.YtcmbmimmfgfefaaGreatCopy
namespace Go.Proofs.YtcmbmimmfgfefaaGreat
set_option linter.unusedVariables false
open Go.RowKit

theorem reads_first (w : World) (x : Value) (t : TypeId) : Reads (w.alloc (.cells #[x] t)) (w.heap.size + 1) 1 (some ⟨w.heap.size, 0, none⟩) 1 [x] :=
  ⟨rfl, fun _ => ⟨_, rfl, Nat.lt_succ_self _, cell_one_new w x t⟩⟩

theorem shr_nat (n j : Nat) : (n : Int) / 2 ^ (8 * j) = ((n / 256 ^ j : Nat) : Int) := by
  rw [Nat.pow_mul 2 8 j |> fun h => (show (2 : Int) ^ (8 * j) = ((2 ^ (8 * j) : Nat) : Int) by simp)]
  rw [Nat.pow_mul]
  simp
set_option maxRecDepth 100000 in
set_option maxHeartbeats 1000000 in
theorem binNum_any (n : Nat) (hn : n ≤ maxN) (w : World) :
    Calls Tryz.prog 47 #[.int .i64 (n : Int)] w fun e w' => ∃ v, e = .returned (.tuple #[v, .int .i64 0]) ∧ OwnB w' w.heap.size v (numB n) ∧ Below w.heap.size w w' := by
  have h7 := nd_max hn
  unfold maxN at hn
  obtain ⟨i0, hi0, hz0, hz1, hz2⟩ := info_parts u8_info
  go_enter Tryz.func47, Tryz.ntmps47
  go_wp2_with fail
  go_loopw [4] (fun mv wr => ∃ j : Nat, j ≤ nd n ∧ mv = .int .i64 j ∧ w = wr) (fun mv _ => 8 - (intOf mv).toNat)
  case atStart => exact ⟨0, by omega, rfl, rfl⟩
  case round =>
    obtain ⟨j, hj, rfl, rfl⟩ := hrel
    by_cases hjn : j < nd n
    · have hsh : (0 : Int) < (n : Int) / 2 ^ (8 * j) := by rw [shr_nat]; have := (nd_gt n j).2 hjn; omega
      go_wp2_with fail
      go_roundw
      case rel => exact ⟨j + 1, by omega, by go_num, trivial⟩
      case measure => simp [intOf]; omega
    · obtain rfl : j = nd n := by omega
      have hsh : ¬ (0 : Int) < (n : Int) / 2 ^ (8 * nd n) := by rw [shr_nat]; have := (nd_gt n (nd n)); omega
      go_wp2_with fail
      clear hsh
      have hX : Below w.heap.size w (w.alloc (.cells #[.int .u8 (nd n : Int)] 5)) := (Below.refl _ _).alloc (Nat.le_refl _) _
      have hb0 : vb (UInt8.ofNat (nd n)) = .int .u8 (nd n : Int) := by unfold vb bi; rw [nd_byte hn]
      have ho : OwnB (w.alloc (.cells #[.int .u8 (nd n : Int)] 5)) w.heap.size (.slice (some ⟨w.heap.size, 0, none⟩) 1 1) ((numB n).take 1) := by
        rw [← hb0]
        exact ⟨rfl, .inr ⟨w.heap.size, 1, _, rfl, Nat.le_refl _, heap_alloc_new w _, Nat.le_refl _, by unfold maxLen; omega, rfl, rfl⟩⟩
      have HO := Lib.hid ho
      have HX := Lib.hid hX
      clear ho hX hb0
      go_loopw [5, 24] (fun ov iv w2 => ∃ (i : Nat), i ≤ nd n ∧ iv = .int .i64 i ∧ OwnB w2 w.heap.size ov ((numB n).take (i + 1)) ∧ Below w.heap.size w w2) (fun _ iv _ => nd n - (intOf iv).toNat)
      case atStart => exact ⟨0, by omega, rfl, HO.out, HX.out⟩
      case round =>
        obtain ⟨i, hi, rfl, hov, hbel⟩ := hrel
        have hown := hov
        unfold OwnB at hown
        have HOV := Lib.hid hov
        have HWN := Lib.hid hown
        have HB := Lib.hid hbel
        have hsz := hbel.size
        clear hov hown hbel
        have hlen : (numB n).length = nd n + 1 := by simp [numB, digs_len]
        by_cases hin : i < nd n
        · have hd : vb (dig n (nd n) i) = .int .u8 ((n : Int) / 2 ^ (8 * (nd n - 1 - i)) % 256) := by
            rw [shr_nat]; unfold vb bi dig; rw [UInt8.toNat_ofNat']; congr 1; omega
          have hnext : (numB n).take (i + 1 + 1) = (numB n).take (i + 1) ++ [dig n (nd n) i] := by
            rw [List.take_succ_eq_append_getElem (by omega)]
            simp [numB, digs]
          have HD := Lib.hid hd
          have HNX := Lib.hid hnext
          have hti : ((numB n).take (i + 1)).length = i + 1 := by rw [List.length_take]; omega
          have HTI := Lib.hid hti
          clear hd hnext hlen hti
          go_wp2_with (at_builtin; go_must (refine wpList_append_any _ rfl (.tmp 27) (.tmp 36) 22 rfl w.heap.size 5 i0 _ 1 1 Tryz.underlying22 hi0 hz0 hz1 hz2 rfl (by omega) _ _ _ rfl (HWN.out.alloc _) (wr.heap.size + 1) (some ⟨wr.heap.size, 0, none⟩) 1 1 [.int .u8 ((n : Int) / 2 ^ (8 * (nd n - 1 - i)) % 256)] rfl (reads_first _ _ _) (by simp [Value.oneCell']) ?c1 ?c2 ?c3 ?_))
          case c1 => have := HTI.out; unfold maxLen; omega
          case c2 => have := HTI.out; omega
          case c3 => simp; omega
          intro v3 w3 hown3 hg3 hor3
          have hb3 := grown_below (HB.out.trans ((Below.refl _ _).alloc (Nat.le_refl _) (.cells #[.int .u8 ((n : Int) / 2 ^ (8 * (nd n - 1 - i)) % 256)] 5) |>.mono hsz)) (by simp; omega) hg3 (fun b hb => HOV.out.ge hb)
          have HB3 := Lib.hid hb3
          have HO3 := Lib.hid (show OwnB w3 w.heap.size v3 ((numB n).take (i + 1 + 1)) by
            unfold OwnB
            rw [HNX.out, List.length_append, List.map_append, List.length_singleton, List.map_singleton, HD.out]
            simpa [List.map_take] using hown3)
          clear hb3 hown3 hg3 hor3
          go_wp2_with fail
          go_roundw
          case rel => exact ⟨i + 1, by omega, by go_num, HO3.out, HB3.out⟩
          case measure => simp [intOf]; omega
        · obtain rfl : i = nd n := by omega
          go_wp2_with fail
          go_ret2
          refine ⟨_, rfl, ?_, HB.out⟩
          have := HOV.out
          rw [List.take_of_length_le (by omega)] at this
          exact this

end Go.Proofs.YtcmbmimmfgfefaaGreat
