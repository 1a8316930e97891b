/-
  Contract of bastideref02.Padded.
-/
import Derived.Test.YtcmbmimmfgfefaaGreatRefC
import Derived.Test.YtcmbmimmfgfefaaGreatCopy
namespace Go.Proofs.YtcmbmimmfgfefaaGreat
set_option linter.unusedVariables false
open Go.RowKit

theorem pad_more (n k : Nat) (h : k < padN n) : (((n + 1 + k : Nat) : Int) % 64 != 56) = true := by
  unfold padN at h
  rw [bne_iff_ne]; omega
theorem pad_end (n : Nat) : (((n + 1 + padN n : Nat) : Int) % 64 != 56) = false := by
  unfold padN
  rw [bne_eq_false_iff_eq]; omega
theorem padN_lt (n : Nat) : padN n < 64 := by unfold padN; omega
theorem be8_at (n j : Nat) (h : j < 8) : (be8 n).take (j + 1) = (be8 n).take j ++ [UInt8.ofNat (8 * n / 2 ^ (8 * (7 - j)))] := by
  rw [List.take_succ_eq_append_getElem (by rw [be8_len]; exact h)]
  congr 2
  simp [be8]

set_option maxRecDepth 100000 in
set_option maxHeartbeats 1000000 in
theorem refPadded_any (A : Option Addr) (n c : Nat) (xs : List UInt8) (w : World) (B : Nat) (h : Reads w B 1 A n (xs.map vb)) (hB : B ≤ w.heap.size) (hn : n ≤ 140737488355200) :
    Calls Tryz.prog 57 #[.slice A n c] w fun e w' => ∃ v, e = .returned v ∧ OwnB w' w.heap.size v (padded xs) ∧ Below w.heap.size w w' := by
  have hxn : xs.length = n := by have := h.1; simpa using this
  have HXN := Lib.hid hxn
  have hp1 := padN_lt n
  clear hxn
  go_enter Tryz.func57, Tryz.ntmps57
  obtain ⟨i0, hi0, hz0, hz1, hz2⟩ := info_parts u8_info
  have HI0 := Lib.hid hi0
  have HZ0 := Lib.hid hz0
  have HZ1 := Lib.hid hz1
  have HZ2 := Lib.hid hz2
  clear hi0 hz0 hz1 hz2
  go_wp2_with fail
  refine (copyBytes_any A n c xs w B h hB (by omega)).mono ?_
  rintro _ w1 ⟨v1, rfl, hO1, hb1⟩
  have hs1 := hb1.size
  have HO1 := Lib.hid hO1
  have HB1 := Lib.hid hb1
  clear hO1 hb1
  go_wp2_with (at_builtin; go_must (refine wpList_append_any _ rfl (.tmp 7) (.tmp 8) 22 rfl w.heap.size 5 i0 _ 1 1 Tryz.underlying22 HI0.out HZ0.out HZ1.out HZ2.out rfl (by omega) v1 xs.length (xs.map vb) rfl (HO1.out.below ((Below.refl _ _).alloc (Nat.le_refl _) _)) (w1.heap.size + 1) (some ⟨w1.heap.size, 0, none⟩) 1 1 [.int .u8 128] rfl ⟨rfl, fun _ => ⟨_, rfl, by simp, fun j u hu => ?d1⟩⟩ ?c1 ?c2 ?c3 ?c4 ?_))
  case d1 =>
    rw [add_off, Nat.zero_add]
    simp
    simpa using hu
  case c1 => intro u hu; simp at hu; subst hu; rfl
  case c2 => rw [HXN.out]; unfold maxLen; omega
  case c3 => rw [HXN.out]; omega
  case c4 => simp; omega
  intro v2 w2 hown2 hg2 hor2
  have hO2 : OwnB w2 w.heap.size v2 (xs ++ [128]) := by
    unfold OwnB
    rw [List.map_append, List.length_append]
    exact hown2
  have hb2 : Below w.heap.size w w2 := grown_below (HB1.out.alloc hs1 _) (by simp; omega) hg2 (fun b hb => HO1.out.ge hb)
  have HO2 := Lib.hid hO2
  have HB2 := Lib.hid hb2
  clear hown2 hg2 hor2 hO2 hb2
  go_wp2
  go_loopg [3] (padN n) (fun g v wr => ∃ k, k + g = padN n ∧ OwnB wr w.heap.size v (xs ++ [128] ++ List.replicate k 0) ∧ Below w.heap.size w wr)
  case atStart => exact ⟨0, by omega, by simpa using HO2.out, HB2.out⟩
  case round =>
    obtain ⟨k, hk, hO, hbel⟩ := hrel
    have hlen : (xs ++ [128] ++ List.replicate k 0).length = n + 1 + k := by have := HXN.out; simp; omega
    have hO' := hO
    obtain ⟨A1, c1, rfl, hc1, hc2, _, _⟩ := own_slice_b hO
    rw [hlen] at hc1 ⊢
    unfold maxLen at hc2
    have HO := Lib.hid hO'
    have HK := Lib.hid hk
    have HBE := Lib.hid hbel
    have HLE := Lib.hid hlen
    have hsz := hbel.size
    clear hO hO' hlen hbel
    by_cases hlt : k < padN n
    · have ht := pad_more n k hlt
      have hkg : 0 < gk := by omega
      clear hk
      go_wp2_with (at_builtin; go_must (refine wpList_append_any _ rfl (.tmp 14) (.tmp 15) 22 rfl w.heap.size 5 i0 _ 1 1 Tryz.underlying22 HI0.out HZ0.out HZ1.out HZ2.out rfl (by omega) _ (n + 1 + k) ((xs ++ [128] ++ List.replicate k 0).map vb) rfl (by have := HO.out.below ((Below.refl _ _).alloc (Nat.le_refl _) (.cells #[.int .u8 0] 5)); unfold OwnB at this; rw [HLE.out] at this; exact this) (wr.heap.size + 1) (some ⟨wr.heap.size, 0, none⟩) 1 1 [.int .u8 0] rfl ⟨rfl, fun _ => ⟨_, rfl, by simp, fun j u hu => ?d1⟩⟩ ?c1 ?c2 ?c3 ?c4 ?_))
      case d1 =>
        rw [add_off, Nat.zero_add]
        simp
        simpa using hu
      case c1 => intro u hu; simp at hu; subst hu; rfl
      case c2 => unfold maxLen; omega
      case c3 => omega
      case c4 => simp; omega
      intro v3 w3 hown3 hg3 hor3
      go_wp2
      go_roundg (gk - 1)
      case measure => omega
      case rel =>
        have hk := HK.out
        refine ⟨k + 1, by omega, ?_, grown_below (HBE.out.alloc hsz _) (by simp; omega) hg3 (fun b hb => HO.out.ge (by rw [HLE.out]; exact hb))⟩
        have e1 : (xs ++ [128] ++ List.replicate (k + 1) 0).length = n + 1 + k + 1 := by have := HXN.out; simp; omega
        have e2 : (xs ++ [128] ++ List.replicate (k + 1) 0).map vb = List.map vb xs ++ vb 128 :: (List.replicate k (vb 0) ++ [Value.int IntKind.u8 0]) := by
          rw [List.replicate_succ']; simp; rfl
        unfold OwnB
        rw [e1, e2]
        exact hown3
    · obtain rfl : k = padN n := by omega
      have ht := pad_end n
      generalize hP : xs ++ [128] ++ List.replicate (padN n) 0 = P at HO HLE
      have HP := Lib.hid hP
      clear hP
      obtain ⟨m, hm⟩ : ∃ m, m = n + 1 + padN n := ⟨_, rfl⟩
      rw [← hm] at HLE hc1 ht ⊢
      have HM := Lib.hid hm
      have hm2 : m ≤ n + 64 := by omega
      clear hm hk HK
      go_wp2
      go_loopg [3, 5] 8 (fun g v i wr => ∃ j : Nat, j + g = 8 ∧ i = .int .i64 (7 - (j : Int)) ∧ OwnB wr w.heap.size v (P ++ (be8 n).take j) ∧ Below w.heap.size w wr)
      case atStart => exact ⟨0, by omega, rfl, by rw [List.take_zero, List.append_nil]; have := HO.out; rw [HLE.out] at this; exact this, HBE.out⟩
      case round =>
        obtain ⟨j, hj, rfl, hO, hbel⟩ := hrel
        have hlen : (P ++ (be8 n).take j).length = m + j := by have := HLE.out; have := be8_len n; simp; omega
        have hO' := hO
        obtain ⟨A1, c1, rfl, hc1, hc2, _, _⟩ := own_slice_b hO
        rw [hlen] at hc1 ⊢
        unfold maxLen at hc2
        have HO := Lib.hid hO'
        have HJ := Lib.hid hj
        have HBE := Lib.hid hbel
        have HLJ := Lib.hid hlen
        have hsz := hbel.size
        clear hO hO' hlen hbel
        by_cases hlt : j < 8
        · have e1 : ((8 : Int) * (7 - (j : Int))).toNat = 8 * (7 - j) := by omega
          have hv := len_val n (7 - j) (by omega)
          have hw : IntKind.u64.wrap (8 * (n : Int)) = 8 * (n : Int) := by rw [IntKind.wrap_u64]; omega
          rw [hw] at hv
          clear hw
          generalize hx : UInt8.ofNat (8 * n / 2 ^ (8 * (7 - j))) = x at hv
          have HX := Lib.hid hx
          clear hx hj
          have hjj : (j : Int) ≤ 7 := by omega
          go_wp2_with (at_builtin; go_must (refine wpList_append_any _ rfl (.tmp 25) (.tmp 31) 22 rfl w.heap.size 5 i0 _ 1 1 Tryz.underlying22 HI0.out HZ0.out HZ1.out HZ2.out rfl (by omega) _ (m + j) ((P ++ (be8 n).take j).map vb) rfl (by have := HO.out.below ((Below.refl _ _).alloc (Nat.le_refl _) (.cells #[.int .u8 (bi x)] 5)); unfold OwnB at this; rw [HLJ.out] at this; exact this) (wr.heap.size + 1) (some ⟨wr.heap.size, 0, none⟩) 1 1 [.int .u8 (bi x)] rfl ⟨rfl, fun _ => ⟨_, rfl, by simp, fun j u hu => ?d1⟩⟩ ?c1 ?c2 ?c3 ?c4 ?_))
          case d1 =>
            rw [add_off, Nat.zero_add]
            simp
            simpa using hu
          case c1 => intro u hu; simp at hu; subst hu; rfl
          case c2 => unfold maxLen; omega
          case c3 => omega
          case c4 => simp; omega
          intro v3 w3 hown3 hg3 hor3
          go_wp2
          go_roundg (gk - 1)
          case measure => have := HJ.out; omega
          case rel =>
            have hj := HJ.out
            refine ⟨j + 1, by omega, by go_num, ?_, grown_below (HBE.out.alloc hsz _) (by simp; omega) hg3 (fun b hb => HO.out.ge (by rw [HLJ.out]; exact hb))⟩
            have e1 : (P ++ (be8 n).take (j + 1)).length = m + j + 1 := by have := HLE.out; have := be8_len n; simp; omega
            have e2 : (P ++ (be8 n).take (j + 1)).map vb = (P ++ (be8 n).take j).map vb ++ [Value.int IntKind.u8 (bi x)] := by
              rw [be8_at n j hlt, ← List.append_assoc, List.map_append (l₂ := [_]), HX.out]; rfl
            unfold OwnB
            rw [e1, e2]
            simpa using hown3
        · obtain rfl : j = 8 := by omega
          go_wp2
          go_ret
          refine ⟨_, rfl, ?_, HBE.out⟩
          have h1 := HO.out
          have h2 := HLJ.out
          rw [h2] at h1
          rw [List.take_of_length_le (by rw [be8_len]; omega), ← HP.out] at h1
          unfold padded
          rw [HXN.out]
          exact h1

end Go.Proofs.YtcmbmimmfgfefaaGreat
