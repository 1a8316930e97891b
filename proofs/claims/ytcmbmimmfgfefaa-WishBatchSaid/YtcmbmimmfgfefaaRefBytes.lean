/-
  Contract of bastideref11.Bytes.
-/
import Derived.Test.YtcmbmimmfgfefaaRefCheck
import Derived.Test.YtcmbmimmfgfefaaRefNum
import Derived.Test.YtcmbmimmfgfefaaWishBytes
namespace Go.Proofs.Ytcmbmimmfgfefaa
set_option linter.unusedVariables false
open Go.RowKit

theorem nums_six (x : Wish) : [numB (x.kind).toNat, numB (x.client).toNat, numB (x.stamp).toNat, numB (x.group).toNat, numB (x.epoch).toNat, numB (x.block).toNat].flatten = numsI [x.kind, x.client, x.stamp, x.group, x.epoch, x.block] := by
  simp [numsI]

set_option maxRecDepth 100000 in
set_option maxHeartbeats 8000000 in
theorem refBytes_any (x : Wish) (A : Option Addr) (n c : Nat) (A' : Option Addr) (n' c' : Nat) (w : World) (B : Nat) (h : WishIn w B x A n c A' n' c') (hB : B ≤ w.heap.size) :
    Calls Try.prog 41 #[.agg (wCells x A n c A' n' c')] w fun e w' => ∃ v, e = .returned (.tuple #[v, .int .i64 (if mayB x = true then 0 else 2)]) ∧ OwnB w' w.heap.size v (if mayB x = true then wishB x else []) ∧ Below w.heap.size w w' := by
  have hX : Below w.heap.size w (w.alloc (.cells (wCells x A n c A' n' c') 26)) := (Below.refl _ _).alloc (Nat.le_refl _) _
  have hk0 : Blk (w.alloc (.cells (wCells x A n c A' n' c') 26)) w.heap.size 26 (wCells x A n c A' n' c') := Blk.newAt rfl
  have HWX := Lib.hid (fun W (hb : Below w.heap.size w W) => h.below (hb.mono hB))
  have hdl := h.dlen
  have hnl := h.nlen
  have HDL := Lib.hid hdl
  have HNL := Lib.hid hnl
  obtain ⟨mb, hmb⟩ : ∃ mb, mb = mayB x := ⟨_, rfl⟩
  have HCK := Lib.hid (fun W (hb : Below w.heap.size w W) => refCheck_any x A n c A' n' c' W B (h.below (hb.mono hB)) (by have := hb.size; omega))
  rw [← hmb] at HCK ⊢
  have HMB := Lib.hid (fun (_ : Unit) => hmb)
  clear h hdl hnl hmb
  obtain ⟨i0, hi0, hz0, hz1, hz2⟩ := info_parts u8_info
  go_enter Try.func41, Try.ntmps41
  go_upto_region 1 with fail
  generalize hW : World.alloc w _ = w1
  have hW' : w.alloc (.cells (wCells x A n c A' n' c') 26) = w1 := hW
  rw [hW'] at hX hk0
  clear hW hW'
  obtain ⟨g, hg⟩ : ∃ g, g = w.heap.size := ⟨_, rfl⟩
  rw [← hg] at hk0 ⊢
  have hgw : w.heap.size ≤ g := by omega
  clear hg
  have hs1 := hX.size
  have HK1 := Lib.hid hk0
  have HX := Lib.hid hX
  clear hk0 hX
  go_wp2_with (refine wpList_load_part (o := ⟨some 7, _, _, _, _, _⟩) rfl 26 (.tmp 1) rfl g 0 10 rfl 26 _ (wCells x A n c A' n' c') _ HK1.out Try.underlying26 rfl rfl rfl (fun _ _ => by rw [Nat.zero_add]) ?_)
  refine (HCK.out w1 HX.out).mono ?_
  rintro _ w2 ⟨rfl, hb2⟩
  have HW := Lib.hid (HX.out.trans (hb2.mono hs1))
  have HK2 := Lib.hid (HK1.out.under hb2)
  have hs2 := HW.out.size
  clear hb2 HCK HK1 HX
  cases mb with
  | false =>
    go_wp2_with fail
    go_ret2
    exact ⟨_, rfl, OwnB.nil _ _, HW.out⟩
  | true =>
    obtain ⟨hn6, hn3, hnx, hd16, hnx7⟩ := may_nums (HMB.out ()).symm
    have HN6 := Lib.hid hn6
    have HN3 := Lib.hid hn3
    have HNN := Lib.hid hnx
    have hn7 : n' ≤ 7 := by have := HNL.out; omega
    have hn16 : n ≤ 16 := by have := HDL.out; omega
    have HNL3 := Lib.hid (show NumI (n' : Int) by unfold NumI; omega)
    have HNUM := Lib.hid (show ∀ (z : Int) (W : World), NumI z → Calls Try.prog 40 #[.int .i64 z] W (fun e w' => ∃ v, e = .returned v ∧ OwnB w' W.heap.size v (numB z.toNat) ∧ Below W.heap.size W w') from fun z W hz => by
      have h := refWNum_any z.toNat hz.max W
      rw [show ((z.toNat : Nat) : Int) = z by unfold NumI at hz; omega] at h
      exact h)
    have HSTR := Lib.hid (fun W (hb : Below w.heap.size w W) => refWStr_any A n c x.data W B (HWX.out W hb).data (by have := hb.size; omega) (by omega))
    have HBK := Lib.hid (fun W (hb : Below w2.heap.size w2 W) => HK2.out.under hb)
    obtain ⟨wB, hwB⟩ : ∃ b, b = w.heap.size := ⟨_, rfl⟩
    have hwB1 : wB ≤ w.heap.size := by omega
    have hwB2 : w.heap.size ≤ wB := by omega
    clear hwB hn6 hn3 hnx
    go_upto_region 3 with fail
    refine wp_region_rel' 18 62 (fun j W v => match j with
      | 0 => v = .pointer (some ⟨g, 4, none⟩)
      | 1 => v = .int .i64 x.kind
      | 2 => OwnB W wB v (numB (x.kind).toNat)
      | 3 => v = .pointer (some ⟨g, 0, none⟩)
      | 4 => v = .int .i64 x.client
      | 5 => OwnB W wB v (numB (x.client).toNat)
      | 6 => v = .pointer (some ⟨g, 1, none⟩)
      | 7 => v = .int .i64 x.stamp
      | 8 => OwnB W wB v (numB (x.stamp).toNat)
      | 9 => v = .pointer (some ⟨g, 2, none⟩)
      | 10 => v = .int .i64 x.group
      | 11 => OwnB W wB v (numB (x.group).toNat)
      | 12 => v = .pointer (some ⟨g, 3, none⟩)
      | 13 => v = .int .i64 x.epoch
      | 14 => OwnB W wB v (numB (x.epoch).toNat)
      | 15 => v = .pointer (some ⟨g, 5, none⟩)
      | 16 => v = .int .i64 x.block
      | _ => OwnB W wB v (numB (x.block).toNat)) [10, 11, 12, 13, 14, 15, 16, 17, 18, 19, 20, 21, 22, 23, 24, 25, 26, 27] (by kernel_rfl) (by kernel_rfl) (by kernel_rfl) (by simp) (by kernel_rfl) (fun j => ?lastA) ?headsA ?_
    case lastA =>
      match j with
      | 0 => exact Lasts.pure _
      | 1 => exact Lasts.pure _
      | 2 => exact lasts_own _ _
      | 3 => exact Lasts.pure _
      | 4 => exact Lasts.pure _
      | 5 => exact lasts_own _ _
      | 6 => exact Lasts.pure _
      | 7 => exact Lasts.pure _
      | 8 => exact lasts_own _ _
      | 9 => exact Lasts.pure _
      | 10 => exact Lasts.pure _
      | 11 => exact lasts_own _ _
      | 12 => exact Lasts.pure _
      | 13 => exact Lasts.pure _
      | 14 => exact lasts_own _ _
      | 15 => exact Lasts.pure _
      | 16 => exact Lasts.pure _
      | j + 17 => exact lasts_own _ _
    case headsA =>
      simp only [List.take_succ_cons, List.take_zero]
      refine ⟨fun a W hb hkp hd => ?_, fun a W hb hkp hd => ?_, fun a W hb hkp hd => ?_, fun a W hb hkp hd => ?_, fun a W hb hkp hd => ?_, fun a W hb hkp hd => ?_, fun a W hb hkp hd => ?_, fun a W hb hkp hd => ?_, fun a W hb hkp hd => ?_, fun a W hb hkp hd => ?_, fun a W hb hkp hd => ?_, fun a W hb hkp hd => ?_, fun a W hb hkp hd => ?_, fun a W hb hkp hd => ?_, fun a W hb hkp hd => ?_, fun a W hb hkp hd => ?_, fun a W hb hkp hd => ?_, fun a W hb hkp hd => ?_, trivial⟩
      · have e0 : a.tmps[1]?.getD undef = .pointer (some ⟨g, 0, none⟩) := hkp.get (by kernel_rfl) rfl
        exact rel_value rfl (.pointer (some ⟨g, 4, none⟩)) (by go_simp) rfl
      · have e0 : a.tmps[10]?.getD undef = .pointer (some ⟨g, 4, none⟩) := (hd 0 (by kernel_rfl)).get 10 rfl rfl
        have cc := (HBK.out W hb).cell 4 |>.trans (show (wCells x A n c A' n' c')[4]? = some (.int .i64 x.kind) from rfl)
        exact rel_value rfl (.int .i64 x.kind) (by go_simp) rfl
      · have e0 : a.tmps[11]?.getD undef = .int .i64 (x.kind) := (hd 1 (by kernel_rfl)).get 11 rfl rfl
        refine rel_call rfl 40 #[.int .i64 (x.kind)] (by go_simp) ((HNUM.out (x.kind) W (HN6.out _ (by simp))).mono ?_)
        rintro e w' ⟨v, rfl, ho, hb'⟩
        exact ⟨v, rfl, hb', ho.more (by have := hb.size; have := HW.out.size; omega)⟩
      · have e0 : a.tmps[1]?.getD undef = .pointer (some ⟨g, 0, none⟩) := hkp.get (by kernel_rfl) rfl
        exact rel_value rfl (.pointer (some ⟨g, 0, none⟩)) (by go_simp) rfl
      · have e0 : a.tmps[13]?.getD undef = .pointer (some ⟨g, 0, none⟩) := (hd 3 (by kernel_rfl)).get 13 rfl rfl
        have cc := (HBK.out W hb).cell 0 |>.trans (show (wCells x A n c A' n' c')[0]? = some (.int .i64 x.client) from rfl)
        exact rel_value rfl (.int .i64 x.client) (by go_simp) rfl
      · have e0 : a.tmps[14]?.getD undef = .int .i64 (x.client) := (hd 4 (by kernel_rfl)).get 14 rfl rfl
        refine rel_call rfl 40 #[.int .i64 (x.client)] (by go_simp) ((HNUM.out (x.client) W (HN6.out _ (by simp))).mono ?_)
        rintro e w' ⟨v, rfl, ho, hb'⟩
        exact ⟨v, rfl, hb', ho.more (by have := hb.size; have := HW.out.size; omega)⟩
      · have e0 : a.tmps[1]?.getD undef = .pointer (some ⟨g, 0, none⟩) := hkp.get (by kernel_rfl) rfl
        exact rel_value rfl (.pointer (some ⟨g, 1, none⟩)) (by go_simp) rfl
      · have e0 : a.tmps[16]?.getD undef = .pointer (some ⟨g, 1, none⟩) := (hd 6 (by kernel_rfl)).get 16 rfl rfl
        have cc := (HBK.out W hb).cell 1 |>.trans (show (wCells x A n c A' n' c')[1]? = some (.int .i64 x.stamp) from rfl)
        exact rel_value rfl (.int .i64 x.stamp) (by go_simp) rfl
      · have e0 : a.tmps[17]?.getD undef = .int .i64 (x.stamp) := (hd 7 (by kernel_rfl)).get 17 rfl rfl
        refine rel_call rfl 40 #[.int .i64 (x.stamp)] (by go_simp) ((HNUM.out (x.stamp) W (HN6.out _ (by simp))).mono ?_)
        rintro e w' ⟨v, rfl, ho, hb'⟩
        exact ⟨v, rfl, hb', ho.more (by have := hb.size; have := HW.out.size; omega)⟩
      · have e0 : a.tmps[1]?.getD undef = .pointer (some ⟨g, 0, none⟩) := hkp.get (by kernel_rfl) rfl
        exact rel_value rfl (.pointer (some ⟨g, 2, none⟩)) (by go_simp) rfl
      · have e0 : a.tmps[19]?.getD undef = .pointer (some ⟨g, 2, none⟩) := (hd 9 (by kernel_rfl)).get 19 rfl rfl
        have cc := (HBK.out W hb).cell 2 |>.trans (show (wCells x A n c A' n' c')[2]? = some (.int .i64 x.group) from rfl)
        exact rel_value rfl (.int .i64 x.group) (by go_simp) rfl
      · have e0 : a.tmps[20]?.getD undef = .int .i64 (x.group) := (hd 10 (by kernel_rfl)).get 20 rfl rfl
        refine rel_call rfl 40 #[.int .i64 (x.group)] (by go_simp) ((HNUM.out (x.group) W (HN6.out _ (by simp))).mono ?_)
        rintro e w' ⟨v, rfl, ho, hb'⟩
        exact ⟨v, rfl, hb', ho.more (by have := hb.size; have := HW.out.size; omega)⟩
      · have e0 : a.tmps[1]?.getD undef = .pointer (some ⟨g, 0, none⟩) := hkp.get (by kernel_rfl) rfl
        exact rel_value rfl (.pointer (some ⟨g, 3, none⟩)) (by go_simp) rfl
      · have e0 : a.tmps[22]?.getD undef = .pointer (some ⟨g, 3, none⟩) := (hd 12 (by kernel_rfl)).get 22 rfl rfl
        have cc := (HBK.out W hb).cell 3 |>.trans (show (wCells x A n c A' n' c')[3]? = some (.int .i64 x.epoch) from rfl)
        exact rel_value rfl (.int .i64 x.epoch) (by go_simp) rfl
      · have e0 : a.tmps[23]?.getD undef = .int .i64 (x.epoch) := (hd 13 (by kernel_rfl)).get 23 rfl rfl
        refine rel_call rfl 40 #[.int .i64 (x.epoch)] (by go_simp) ((HNUM.out (x.epoch) W (HN6.out _ (by simp))).mono ?_)
        rintro e w' ⟨v, rfl, ho, hb'⟩
        exact ⟨v, rfl, hb', ho.more (by have := hb.size; have := HW.out.size; omega)⟩
      · have e0 : a.tmps[1]?.getD undef = .pointer (some ⟨g, 0, none⟩) := hkp.get (by kernel_rfl) rfl
        exact rel_value rfl (.pointer (some ⟨g, 5, none⟩)) (by go_simp) rfl
      · have e0 : a.tmps[25]?.getD undef = .pointer (some ⟨g, 5, none⟩) := (hd 15 (by kernel_rfl)).get 25 rfl rfl
        have cc := (HBK.out W hb).cell 5 |>.trans (show (wCells x A n c A' n' c')[5]? = some (.int .i64 x.block) from rfl)
        exact rel_value rfl (.int .i64 x.block) (by go_simp) rfl
      · have e0 : a.tmps[26]?.getD undef = .int .i64 (x.block) := (hd 16 (by kernel_rfl)).get 26 rfl rfl
        refine rel_call rfl 40 #[.int .i64 (x.block)] (by go_simp) ((HNUM.out (x.block) W (HN6.out _ (by simp))).mono ?_)
        rintro e w' ⟨v, rfl, ho, hb'⟩
        exact ⟨v, rfl, hb', ho.more (by have := hb.size; have := HW.out.size; omega)⟩
    intro f W hb hd
    have q0 : OwnB W wB (f 12) (numB (x.kind).toNat) := hd 2 (by omega) _ 12 rfl rfl
    obtain ⟨B0, k0, e0, _, _, r0, _⟩ := own_slice_b q0
    have q1 : OwnB W wB (f 15) (numB (x.client).toNat) := hd 5 (by omega) _ 15 rfl rfl
    obtain ⟨B1, k1, e1, _, _, r1, _⟩ := own_slice_b q1
    have q2 : OwnB W wB (f 18) (numB (x.stamp).toNat) := hd 8 (by omega) _ 18 rfl rfl
    obtain ⟨B2, k2, e2, _, _, r2, _⟩ := own_slice_b q2
    have q3 : OwnB W wB (f 21) (numB (x.group).toNat) := hd 11 (by omega) _ 21 rfl rfl
    obtain ⟨B3, k3, e3, _, _, r3, _⟩ := own_slice_b q3
    have q4 : OwnB W wB (f 24) (numB (x.epoch).toNat) := hd 14 (by omega) _ 24 rfl rfl
    obtain ⟨B4, k4, e4, _, _, r4, _⟩ := own_slice_b q4
    have q5 : OwnB W wB (f 27) (numB (x.block).toNat) := hd 17 (by omega) _ 27 rfl rfl
    obtain ⟨B5, k5, e5, _, _, r5, _⟩ := own_slice_b q5
    have hrow := rowsB_lit W 22 [(B0, (numB (x.kind).toNat).length, k0, numB (x.kind).toNat), (B1, (numB (x.client).toNat).length, k1, numB (x.client).toNat), (B2, (numB (x.stamp).toNat).length, k2, numB (x.stamp).toNat), (B3, (numB (x.group).toNat).length, k3, numB (x.group).toNat), (B4, (numB (x.epoch).toNat).length, k4, numB (x.epoch).toNat), (B5, (numB (x.block).toNat).length, k5, numB (x.block).toNat)] (by
      intro p hp
      simp only [List.mem_cons, List.not_mem_nil, or_false] at hp
      rcases hp with rfl | rfl | rfl | rfl | rfl | rfl
      · exact r0
      · exact r1
      · exact r2
      · exact r3
      · exact r4
      · exact r5)
    simp only [List.map_cons, List.map_nil, List.length_cons, List.length_nil] at hrow
    have hl6 := numsI_len HN6.out
    simp only [List.length_cons, List.length_nil] at hl6
    have hjoin := refJoin_any _ 6 6 _ _ _ hrow (by simp) (by omega) (by rw [nums_six]; omega)
    rw [nums_six] at hjoin
    have HJ := Lib.hid hjoin
    have HW3 := Lib.hid (HW.out.trans (hb.mono hs2))
    have hs3 := HW3.out.size
    have hX3 := Lib.hid ((Below.refl W.heap.size W).alloc (Nat.le_refl _) (.cells #[.slice B0 (numB (x.kind).toNat).length k0, .slice B1 (numB (x.client).toNat).length k1, .slice B2 (numB (x.stamp).toNat).length k2, .slice B3 (numB (x.group).toNat).length k3, .slice B4 (numB (x.epoch).toNat).length k4, .slice B5 (numB (x.block).toNat).length k5] 22))
    have HK3 := Lib.hid (HK2.out.under hb)
    clear r0 r1 r2 r3 r4 r5 q0 q1 q2 q3 q4 q5 hrow hjoin hd hb HBK
    simp only [putAll, List.drop_succ_cons, List.drop_zero]
    try simp only [Act.put, List.setIfInBounds_toArray, List.set_cons_zero, List.set_cons_succ]
    simp only [e0, e1, e2, e3, e4, e5]
    clear e0 e1 e2 e3 e4 e5
    go_wp2_with fail
    refine HJ.out.mono ?_
    rintro _ w4 ⟨hv, rfl, ho4, hb4⟩
    have hb34 := hX3.out.trans (hb4.mono (by simp))
    have HW4 := Lib.hid (HW3.out.trans (hb34.mono hs3))
    have HK4 := Lib.hid (HK3.out.under hb34)
    have hs4 := HW4.out.size
    obtain ⟨A4, c4, rfl, hc4, _, hr4, hB4⟩ := own_slice_b ho4
    obtain ⟨hdB, hhd⟩ : ∃ l, l = numsI [x.kind, x.client, x.stamp, x.group, x.epoch, x.block] := ⟨_, rfl⟩
    rw [← hhd] at hc4 hr4 hl6 ⊢
    have HHD := Lib.hid hhd
    obtain ⟨hl, hhl⟩ : ∃ l, l = hdB.length := ⟨_, rfl⟩
    rw [← hhl] at hc4 hr4 hl6 ⊢
    have HHL := Lib.hid hhl
    have HR4 := Lib.hid hr4
    clear ho4 hb4 hb34 hr4 hhd hhl HJ hX3 HK3 HW HW3
    have HW := HW4
    have HBK := Lib.hid (fun W (hb : Below w4.heap.size w4 W) => HK4.out.under hb)
    go_upto_region 4 with fail
    refine wp_region_rel' 14 62 (fun j W v => match j with
      | 0 => v = .slice A4 hl c4
      | 1 => v = .pointer (some ⟨g, 6, none⟩)
      | 2 => v = .slice A n c
      | 3 => OwnB W wB v (strB x.data)
      | 4 => v = .pointer (some ⟨g, 7, none⟩)
      | 5 => v = .int .i64 x.old
      | 6 => OwnB W wB v (numB (x.old).toNat)
      | 7 => v = .pointer (some ⟨g, 8, none⟩)
      | 8 => v = .int .i64 x.new
      | 9 => OwnB W wB v (numB (x.new).toNat)
      | 10 => v = .pointer (some ⟨g, 9, none⟩)
      | 11 => v = .slice A' n' c'
      | 12 => v = .int .i64 (n' : Int)
      | _ => OwnB W wB v (numB ((n' : Int)).toNat)) [30, 31, 32, 33, 34, 35, 36, 37, 38, 39, 40, 41, 42, 43] (by kernel_rfl) (by kernel_rfl) (by kernel_rfl) (by simp) (by kernel_rfl) (fun j => ?lastB) ?headsB ?_
    case lastB =>
      match j with
      | 0 => exact Lasts.pure _
      | 1 => exact Lasts.pure _
      | 2 => exact Lasts.pure _
      | 3 => exact lasts_own _ _
      | 4 => exact Lasts.pure _
      | 5 => exact Lasts.pure _
      | 6 => exact lasts_own _ _
      | 7 => exact Lasts.pure _
      | 8 => exact Lasts.pure _
      | 9 => exact lasts_own _ _
      | 10 => exact Lasts.pure _
      | 11 => exact Lasts.pure _
      | 12 => exact Lasts.pure _
      | j + 13 => exact lasts_own _ _
    case headsB =>
      simp only [List.take_succ_cons, List.take_zero]
      refine ⟨fun a W hb hkp hd => ?_, fun a W hb hkp hd => ?_, fun a W hb hkp hd => ?_, fun a W hb hkp hd => ?_, fun a W hb hkp hd => ?_, fun a W hb hkp hd => ?_, fun a W hb hkp hd => ?_, fun a W hb hkp hd => ?_, fun a W hb hkp hd => ?_, fun a W hb hkp hd => ?_, fun a W hb hkp hd => ?_, fun a W hb hkp hd => ?_, fun a W hb hkp hd => ?_, fun a W hb hkp hd => ?_, trivial⟩
      · have e0 : a.tmps[4]?.getD undef = .slice A4 hl c4 := hkp.get (by kernel_rfl) rfl
        exact rel_value rfl (.slice A4 hl c4) (by go_simp) rfl
      · have e0 : a.tmps[1]?.getD undef = .pointer (some ⟨g, 0, none⟩) := hkp.get (by kernel_rfl) rfl
        exact rel_value rfl (.pointer (some ⟨g, 6, none⟩)) (by go_simp) rfl
      · have e0 : a.tmps[31]?.getD undef = .pointer (some ⟨g, 6, none⟩) := (hd 1 (by kernel_rfl)).get 31 rfl rfl
        have cc := (HBK.out W hb).cell 6 |>.trans (show (wCells x A n c A' n' c')[6]? = some (.slice A n c) from rfl)
        exact rel_value rfl (.slice A n c) (by go_simp) rfl
      · have e0 : a.tmps[32]?.getD undef = .slice A n c := (hd 2 (by kernel_rfl)).get 32 rfl rfl
        refine rel_call rfl 42 #[.slice A n c] (by go_simp) ((HSTR.out W (HW.out.trans (hb.mono HW.out.size))).mono ?_)
        rintro e w' ⟨v, rfl, ho, hb'⟩
        exact ⟨v, rfl, hb', ho.more (by have := hb.size; have := HW.out.size; omega)⟩
      · have e0 : a.tmps[1]?.getD undef = .pointer (some ⟨g, 0, none⟩) := hkp.get (by kernel_rfl) rfl
        exact rel_value rfl (.pointer (some ⟨g, 7, none⟩)) (by go_simp) rfl
      · have e0 : a.tmps[34]?.getD undef = .pointer (some ⟨g, 7, none⟩) := (hd 4 (by kernel_rfl)).get 34 rfl rfl
        have cc := (HBK.out W hb).cell 7 |>.trans (show (wCells x A n c A' n' c')[7]? = some (.int .i64 x.old) from rfl)
        exact rel_value rfl (.int .i64 x.old) (by go_simp) rfl
      · have e0 : a.tmps[35]?.getD undef = .int .i64 (x.old) := (hd 5 (by kernel_rfl)).get 35 rfl rfl
        refine rel_call rfl 40 #[.int .i64 (x.old)] (by go_simp) ((HNUM.out (x.old) W (HN3.out _ (by simp))).mono ?_)
        rintro e w' ⟨v, rfl, ho, hb'⟩
        exact ⟨v, rfl, hb', ho.more (by have := hb.size; have := HW.out.size; omega)⟩
      · have e0 : a.tmps[1]?.getD undef = .pointer (some ⟨g, 0, none⟩) := hkp.get (by kernel_rfl) rfl
        exact rel_value rfl (.pointer (some ⟨g, 8, none⟩)) (by go_simp) rfl
      · have e0 : a.tmps[37]?.getD undef = .pointer (some ⟨g, 8, none⟩) := (hd 7 (by kernel_rfl)).get 37 rfl rfl
        have cc := (HBK.out W hb).cell 8 |>.trans (show (wCells x A n c A' n' c')[8]? = some (.int .i64 x.new) from rfl)
        exact rel_value rfl (.int .i64 x.new) (by go_simp) rfl
      · have e0 : a.tmps[38]?.getD undef = .int .i64 (x.new) := (hd 8 (by kernel_rfl)).get 38 rfl rfl
        refine rel_call rfl 40 #[.int .i64 (x.new)] (by go_simp) ((HNUM.out (x.new) W (HN3.out _ (by simp))).mono ?_)
        rintro e w' ⟨v, rfl, ho, hb'⟩
        exact ⟨v, rfl, hb', ho.more (by have := hb.size; have := HW.out.size; omega)⟩
      · have e0 : a.tmps[1]?.getD undef = .pointer (some ⟨g, 0, none⟩) := hkp.get (by kernel_rfl) rfl
        exact rel_value rfl (.pointer (some ⟨g, 9, none⟩)) (by go_simp) rfl
      · have e0 : a.tmps[40]?.getD undef = .pointer (some ⟨g, 9, none⟩) := (hd 10 (by kernel_rfl)).get 40 rfl rfl
        have cc := (HBK.out W hb).cell 9 |>.trans (show (wCells x A n c A' n' c')[9]? = some (.slice A' n' c') from rfl)
        exact rel_value rfl (.slice A' n' c') (by go_simp) rfl
      · have e0 : a.tmps[41]?.getD undef = .slice A' n' c' := (hd 11 (by kernel_rfl)).get 41 rfl rfl
        exact rel_value rfl (.int .i64 (n' : Int)) (by go_simp) rfl
      · have e0 : a.tmps[42]?.getD undef = .int .i64 ((n' : Int)) := (hd 12 (by kernel_rfl)).get 42 rfl rfl
        refine rel_call rfl 40 #[.int .i64 ((n' : Int))] (by go_simp) ((HNUM.out ((n' : Int)) W (HNL3.out)).mono ?_)
        rintro e w' ⟨v, rfl, ho, hb'⟩
        exact ⟨v, rfl, hb', ho.more (by have := hb.size; have := HW.out.size; omega)⟩
    intro f W hb hd
    have q9 : f 30 = .slice A4 hl c4 := hd 0 (by omega) _ 30 rfl rfl
    have q0 : OwnB W wB (f 33) (strB x.data) := hd 3 (by omega) _ 33 rfl rfl
    obtain ⟨B0, k0, e0, _, _, r0, _⟩ := own_slice_b q0
    have q1 : OwnB W wB (f 36) (numB (x.old).toNat) := hd 6 (by omega) _ 36 rfl rfl
    obtain ⟨B1, k1, e1, _, _, r1, _⟩ := own_slice_b q1
    have q2 : OwnB W wB (f 39) (numB (x.new).toNat) := hd 9 (by omega) _ 39 rfl rfl
    obtain ⟨B2, k2, e2, _, _, r2, _⟩ := own_slice_b q2
    have q3 : OwnB W wB (f 43) (numB ((n' : Int)).toNat) := hd 13 (by omega) _ 43 rfl rfl
    obtain ⟨B3, k3, e3, _, _, r3, _⟩ := own_slice_b q3
    have hrow := rowsB_lit W 22 [(A4, hl, c4, hdB), (B0, (strB x.data).length, k0, strB x.data), (B1, (numB (x.old).toNat).length, k1, numB (x.old).toNat), (B2, (numB (x.new).toNat).length, k2, numB (x.new).toNat), (B3, (numB ((n' : Int)).toNat).length, k3, numB ((n' : Int)).toNat)] (by
      intro p hp
      simp only [List.mem_cons, List.not_mem_nil, or_false] at hp
      rcases hp with rfl | rfl | rfl | rfl | rfl
      · exact (HR4.out.below hb).more hb.size
      · exact r0
      · exact r1
      · exact r2
      · exact r3)
    simp only [List.map_cons, List.map_nil, List.length_cons, List.length_nil] at hrow
    obtain ⟨pre, hpre⟩ : ∃ l, l = hdB ++ strB x.data ++ numsI [x.old, x.new, (n' : Int)] := ⟨_, rfl⟩
    have hfl : [hdB, strB x.data, numB (x.old).toNat, numB (x.new).toNat, numB ((n' : Int)).toNat].flatten = pre := by rw [hpre]; simp [numsI]
    have hpl : pre.length ≤ 200 := by
      have h3 := numsI_len HN3.out
      rw [HNL.out] at h3
      have h2 := (numB_len (n := x.data.length) (by rw [HDL.out]; unfold maxN; omega)).2
      have h5 : (strB x.data).length ≤ 24 := by unfold strB; rw [List.length_append, HDL.out]; rw [HDL.out] at h2; omega
      simp only [List.length_cons, List.length_nil] at h3
      rw [hpre, List.length_append, List.length_append, ← HHL.out]
      omega
    have hjoin := refJoin_any _ 5 5 _ _ _ hrow (by simp) (by omega) (by rw [hfl]; omega)
    rw [hfl] at hjoin
    have HPRE := Lib.hid hpre
    have HJ := Lib.hid hjoin
    have HW5 := Lib.hid (HW.out.trans (hb.mono HW.out.size))
    have hs5 := HW5.out.size
    have hX5 := Lib.hid ((Below.refl W.heap.size W).alloc (Nat.le_refl _) (.cells #[.slice A4 hl c4, .slice B0 (strB x.data).length k0, .slice B1 (numB (x.old).toNat).length k1, .slice B2 (numB (x.new).toNat).length k2, .slice B3 (numB ((n' : Int)).toNat).length k3] 22))
    have HK5 := Lib.hid (HK4.out.under hb)
    clear r0 r1 r2 r3 q0 q1 q2 q3 hrow hjoin hd hb HBK hpre hfl
    simp only [putAll, List.drop_succ_cons, List.drop_zero]
    try simp only [Act.put, List.setIfInBounds_toArray, List.set_cons_zero, List.set_cons_succ]
    simp only [q9, e0, e1, e2, e3]
    clear q9 e0 e1 e2 e3
    go_wp2_with fail
    refine HJ.out.mono ?_
    rintro _ w6 ⟨pv, rfl, ho6, hb6⟩
    have hb56 := hX5.out.trans (hb6.mono (by simp))
    have HW6 := Lib.hid (HW5.out.trans (hb56.mono hs5))
    have HK6 := Lib.hid (HK5.out.under hb56)
    have HO6 := Lib.hid (ho6.more (B' := w.heap.size) (by simp; omega))
    clear ho6 hb6 hb56 HJ hX5 HK5 HW5 HW HW4 HR4
    go_wp2_with fail
    go_loopw [5, 6] (fun ov iv wr => ∃ i : Nat, i ≤ n' ∧ iv = .int .i64 i ∧ OwnB wr w.heap.size ov (pre ++ numsI (x.next.take i)) ∧ Below w.heap.size w wr ∧ Blk wr g 26 (wCells x A n c A' n' c')) (fun _ iv _ => n' - (intOf iv).toNat)
    case atStart => exact ⟨0, by omega, rfl, by simpa [numsI] using HO6.out, HW6.out, HK6.out⟩
    case round =>
      obtain ⟨i, hi, rfl, hov, hbel, hkk⟩ := hrel
      have HOV := Lib.hid hov
      have HB := Lib.hid hbel
      have HKK := Lib.hid hkk
      have hsz := hbel.size
      have c9 := (hkk.cell 9).trans (show (wCells x A n c A' n' c')[9]? = some (.slice A' n' c') from rfl)
      clear hov hbel hkk
      by_cases hin : i < n'
      · obtain ⟨ad, hA, hadb, hcell⟩ := (HWX.out wr HB.out).next.2 (by omega)
        subst hA
        have hil : i < x.next.length := by have := HNL.out; omega
        have hcz : wr.cell? (ad.add i) = some (.int .i64 x.next[i]) := hcell i _ (by rw [List.getElem?_map, List.getElem?_eq_getElem hil]; rfl)
        have hnm := HNN.out x.next[i] (List.getElem_mem hil)
        have htk : numsI (x.next.take (i + 1)) = numsI (x.next.take i) ++ numB (x.next[i]).toNat := by rw [List.take_succ_eq_append_getElem hil]; unfold numsI; rw [List.flatMap_append]; simp
        have hlt : (numsI (x.next.take i)).length ≤ 60 := by
          have h := numsI_len (l := x.next.take i) (fun z hz => HNN.out z (List.mem_of_mem_take hz))
          rw [List.length_take] at h
          have : min i x.next.length ≤ 7 := by omega
          omega
        generalize x.next[i] = z at hcz hnm htk
        have hnl8 := (numB_len hnm.max).2
        have HTK := Lib.hid htk
        have HNM := Lib.hid (HNUM.out z wr hnm)
        obtain ⟨ys, hys⟩ : ∃ ys, ys = pre ++ numsI (x.next.take i) := ⟨_, rfl⟩
        have hyl : ys.length ≤ 300 := by rw [hys, List.length_append]; omega
        rw [← hys] at HOV
        have HYS := Lib.hid hys
        clear hcell htk hnm hys
        go_wp2_with fail
        refine HNM.out.mono ?_
        rintro _ w8 ⟨v8, rfl, ho8, hb8⟩
        obtain ⟨A8, c8, rfl, hc8, _, hr8, _⟩ := own_slice_b ho8
        have HWN := Lib.hid (HOV.out.below hb8).row
        have HGE := Lib.hid (fun b (hb : _) => HOV.out.ge (b := b) hb)
        have HR8 := Lib.hid hr8
        have HB8 := Lib.hid (HB.out.trans (hb8.mono hsz))
        have HK8 := Lib.hid (HKK.out.under hb8)
        have hs8 := HB8.out.size
        obtain ⟨zb, hzb⟩ : ∃ zb, zb = numB z.toNat := ⟨_, rfl⟩
        rw [← hzb] at HR8 hnl8 HTK hc8 ⊢
        clear ho8 hb8 hr8 hzb HNM
        go_wp2_with (at_builtin; go_must (refine wpList_append_any _ rfl (.tmp 53) (.tmp 59) 22 rfl w.heap.size 5 i0 _ 1 1 Try.underlying22 hi0 hz0 hz1 hz2 rfl (by omega) _ _ _ rfl HWN.out w8.heap.size A8 zb.length c8 (zb.map vb) rfl HR8.out ?c1 ?c2 ?c3 ?c4 ?_))
        case c1 => intro u hu; obtain ⟨y, _, rfl⟩ := List.mem_map.1 hu; rfl
        case c2 => unfold maxLen; omega
        case c3 => omega
        case c4 => omega
        intro v9 w9 hown9 hg9 hor9
        have HB9 := Lib.hid (grown_below HB8.out hs8 hg9 (fun b hb => HGE.out b hb))
        have HO9 := Lib.hid (show OwnB w9 w.heap.size v9 (pre ++ numsI (x.next.take (i + 1))) by
          unfold OwnB
          rw [HTK.out, ← List.append_assoc, ← HYS.out, List.length_append, List.map_append]
          exact hown9)
        have HK9 := Lib.hid (HK8.out.grown hg9 (fun e => absurd e.symm (own_blk_ne HWN.out HK8.out (by decide))))
        clear hown9 hg9 hor9
        go_wp2_with fail
        go_roundw
        case rel => exact ⟨i + 1, by omega, by go_num, HO9.out, HB9.out, HK9.out⟩
        case measure => simp [intOf]; omega
      · obtain rfl : i = n' := by omega
        go_wp2_with fail
        go_ret2
        refine ⟨_, rfl, ?_, HB.out⟩
        have := HOV.out
        rw [List.take_of_length_le (by have := HNL.out; omega), HPRE.out, HHD.out] at this
        show OwnB wr w.heap.size _ (wishB x)
        unfold wishB
        rw [HNL.out]
        exact this

end Go.Proofs.Ytcmbmimmfgfefaa
