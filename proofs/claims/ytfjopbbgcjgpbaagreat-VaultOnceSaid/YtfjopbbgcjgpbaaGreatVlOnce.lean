/-
  VaultOnce: the law's walk.
-/
import Derived.Test.YtfjopbbgcjgpbaaGreatZ18
import Derived.Test.YtfjopbbgcjgpbaaGreatZ4
import Derived.Deep.DeepCutAuto
namespace Go.Proofs.YtfjopbbgcjgpbaaGreat
set_option linter.unusedVariables false
open Go.RowKit Go.Maps

attribute [local irreducible] wpList wpCalm
structure OnSt (w0 : World) (V : VLoc) (i : Nat) (W : World) : Prop where
  ex : ∃ m, RunOk m 0 i ∧ LSt w0 V V.all m (48 + 20 * i) W

set_option maxRecDepth 100000 in
set_option maxHeartbeats 16000000 in
theorem vaultOnce_law (A : Option Addr) (n c : Nat) (xs : List Int) (w : World) (hr : Reads w w.heap.size 1 A n (xs.map vn)) (hxs : ∀ z, z ∈ xs → -9223372036854775808 ≤ z ∧ z ≤ 9223372036854775807) (hn : n ≤ 1000000000000000000) :
    Calls Tryz.prog 5 #[.slice A n c] w fun e w' => e = .returned (.bool true) ∧ Below w.heap.size w w' := by
  have hxl : xs.length = n := by have := hr.1; simpa using this
  have HR := Lib.hid hr
  have HXS := Lib.hid hxs
  have HXL := Lib.hid hxl
  clear hr hxs hxl
  go_enter Tryz.func5, Tryz.ntmps5
  go_wp2_with fail
  refine (vworks_any w).mono ?_
  rintro _ wa ⟨rfl, hba⟩
  have HBA := Lib.hid hba
  clear hba
  go_wp2_with fail
  refine (inkNew_any wa).mono ?_
  rintro _ w1 ⟨k, rfl, hbk, hkn, hb1⟩
  have hsa := HBA.out.size
  have HNW := Lib.hid (vNew_at k [] 0 1 w1 hbk (by omega) (by omega))
  have HB1 := Lib.hid (HBA.out.trans (hb1.mono hsa))
  have HKN := Lib.hid (show w.heap.size ≤ k.g ∧ w.heap.size ≤ k.b1 ∧ w.heap.size ≤ k.b2 by omega)
  clear hb1 hkn hbk HBA
  go_wp2_with fail
  refine (HNW.out _ rfl).mono ?_
  rintro _ w2 ⟨V, rfl, hna⟩
  have hkk := hna.kk
  subst hkk
  have HLS := Lib.hid (LSt.start HB1.out HKN.out hna)
  clear hna HNW HB1
  go_wp2_with fail
  go_loopw [5] (fun iv wr => ∃ i : Nat, i ≤ n ∧ i ≤ 40 ∧ iv = .int .i64 i ∧ OnSt w V i wr) (fun iv _ => n - (intOf iv).toNat)
  case atStart => exact ⟨0, by omega, by omega, rfl, ⟨_, RunOk.new, HLS.out.more (by omega)⟩⟩
  case round =>
    obtain ⟨i, hi, hi60, rfl, hst⟩ := hrel
    obtain ⟨m, hrun, hls⟩ := hst.ex
    have HRUN := Lib.hid hrun
    have HL := Lib.hid hls
    clear hst hrun hls
    go_upto_region 7 with fail
    go_cut [36] (fun s36 wx => s36 = .bool (decide (i < n ∧ i < 40)) ∧ wx = wr)
    case first =>
      by_cases hin : i < n
      · go_wp2_with fail
        go_meet
        exact ⟨by simp [hin]; omega, rfl⟩
      · go_wp2_with fail
        go_meet
        exact ⟨by simp [hin], rfl⟩
    case rest =>
      obtain ⟨rfl, rfl⟩ := hcut
      by_cases hlt : i < n ∧ i < 40
      · rw [decide_eq_true hlt]
        obtain ⟨ad, hA, hadb, hcell⟩ := HR.out.2 (by omega)
        subst hA
        have hxi : i < xs.length := by have := HXL.out; omega
        obtain ⟨z, hz⟩ : ∃ z, z = xs[i] := ⟨_, rfl⟩
        have hzb : -9223372036854775808 ≤ z ∧ z ≤ 9223372036854775807 := by rw [hz]; exact HXS.out _ (List.getElem_mem hxi)
        have hcz := hcell i (.int .i64 z) (by rw [List.getElem?_map, List.getElem?_eq_getElem hxi, hz]; rfl)
        have CZ := Lib.hid (fun (W : World) (hb : Below w.heap.size w W) => (hb.cell (show (ad.add i).block < w.heap.size by rw [block_of_add]; omega)).trans hcz)
        have hz1 := hzb.1
        have hz2 := hzb.2
        have hcz2 := CZ.out wc HL.out.low
        have hlow := (HL.out.low).size
        have hiI : (i : Int) < (n : Int) := by omega
        have h0I : (0 : Int) ≤ (i : Int) := by omega
        clear hcell hzb hcz hz
        obtain ⟨x, hx⟩ : ∃ x, x = wishV m.epoch z ((i + 1 : Nat) : Int) := ⟨_, rfl⟩
        have HWI := Lib.hid (fun (s : Int) (hs : s = ((i + 1 : Nat) : Int)) => (show Calls Tryz.prog 15 #[.pointer (some ⟨V.g, 0, none⟩), .int .i64 z, .int .i64 s] wc (WishPost wc x) from hs ▸ hx ▸ vwish_any wc V _ m HL.out.vat z ((i + 1 : Nat) : Int) hz1 hz2 (by omega) (by omega)))
        have hstep := HRUN.out.step z (k := i + 1) (by omega) (by omega)
        have hag := fun h5 he => doV_again HRUN.out (by omega) z (k := i + 1) (by omega) (by omega) h5 he
        have hmay := wishV_may (ep := m.epoch) (n := z) (stamp := ((i + 1 : Nat) : Int)) HRUN.out.ok.epoch (by omega) (by omega)
        have hgrp := wishV_group m.epoch z ((i + 1 : Nat) : Int)
        have hepx : x.kind ≠ 5 → 0 ≤ x.epoch ∧ x.epoch ≤ 1048576 := fun h => by
          have h1 := (wishV_of (ep := m.epoch) (n := z) (stamp := ((i + 1 : Nat) : Int)) (by rw [← hx]; exact h)).2.2.2.1
          rw [← hx] at h1
          have h2 := epochW_le m.epoch z
          have h3 := HRUN.out.epoch
          omega
        rw [← hx] at hstep hag hmay hgrp
        obtain ⟨p, hp⟩ : ∃ p, p = doV m x := ⟨_, rfl⟩
        rw [← hp] at hstep hag
        have hdl : p.2.1.data.length ≤ 16 := by rw [hp]; exact doV_len HRUN.out.ok x
        have HP := Lib.hid hp
        have HSTEP := Lib.hid hstep
        have HAG := Lib.hid hag
        have HMAY := Lib.hid hmay
        have HGRP := Lib.hid hgrp
        have HEPX := Lib.hid hepx
        have HMUT := Lib.hid HL.out.mut
        clear hx hstep hag hp hmay hgrp hepx HRUN
        go_wp2_with fail
        refine (HWI.out _ (by omega)).mono ?_
        rintro _ w4 ⟨Ax, qx, Ay, qy, rfl, hwi, hAx, hAy, hb4⟩
        have HL4 := Lib.hid (HL.out.below hb4)
        have HWIN := Lib.hid hwi
        have HAX := Lib.hid hAx
        have HAY := Lib.hid hAy
        have hs4 := hb4.size
        obtain ⟨dl, hdle⟩ : ∃ k, k = x.data.length := ⟨_, rfl⟩
        obtain ⟨nl, hnle⟩ : ∃ k, k = x.next.length := ⟨_, rfl⟩
        rw [← hdle, ← hnle] at HWIN ⊢
        clear hwi hAx hAy hb4 hcz2 HL HWI hdle hnle
        go_upto_region 10 with (refine wpList_store_part (o := ⟨none, _, _, _, _, _⟩) rfl 37 (.tmp 6) (.tmp 46) rfl w4.heap.size 0 (wCells x Ax dl qx Ay nl qy) rfl rfl 37 (wCells zeroW none 0 0 none 0 0) (Blk.newAt rfl) (wCells_info _ _ _ _ _ _ _) (by simp [wCells]) (wCells_one _ _ _ _ _ _ _) ?_; intro w5 hT5 hD5; rw [wC_spl] at hD5)
        have hb5 : Below w4.heap.size w4 w5 := hT5.below ((Below.refl _ _).alloc (Nat.le_refl _) _) (Nat.le_refl _)
        have hs5 := hb5.size
        have HL5 := Lib.hid (HL4.out.below hb5)
        have HWIN5 := Lib.hid ((HWIN.out.below hb5).more hs5)
        obtain ⟨g6, hg6⟩ : ∃ g, g = w4.heap.size := ⟨_, rfl⟩
        rw [← hg6] at hD5 ⊢
        have HGK6 := Lib.hid (show ¬ V.has g6 from fun hv => by have := HMUT.out _ hv; omega)
        have HGRX := Lib.hid (show ∀ a, Ax = some a → ¬ V.has a.block from fun a ha hv => by have := HAX.out a ha; have := HMUT.out _ hv; omega)
        have HGRY := Lib.hid (show ∀ a, Ay = some a → ¬ V.has a.block from fun a ha hv => by have := HAY.out a ha; have := HMUT.out _ hv; omega)
        have HNOX := Lib.hid (show ∀ ad, 0 < dl → Ax = some ad → ad.block ≠ V.g from fun ad h0 ha he => HGRX.out ad ha (he ▸ .inl rfl))
        have HDO := Lib.hid (HL5.out.do_ (by omega) x Ax dl qx Ay nl qy w5.heap.size HWIN5.out (Nat.le_refl _) HNOX.out)
        rw [← HP.out] at HDO
        have K6_1 := Lib.hid (hD5)
        have RX_2 := Lib.hid (HWIN5.out.data)
        have RY_3 := Lib.hid (HWIN5.out.next)
        have HWI0 := Lib.hid (fun (W : World) (h1 : Reads W W.heap.size 1 Ax dl (x.data.map vb)) (h2 : Reads W W.heap.size 1 Ay nl (x.next.map vn)) => (⟨h1, HWIN5.out.dc, HWIN5.out.dm, h2, HWIN5.out.nc, HWIN5.out.nm, HWIN5.out.rng⟩ : WishIn W W.heap.size x Ax dl qx Ay nl qy))
        clear hT5 hb5 hD5 HL4 hg6 HWIN HWIN5
        go_wp2_with (refine wpList_load_part (o := ⟨some 49, _, _, _, _, _⟩) rfl 37 (.tmp 6) rfl g6 0 10 rfl 37 _ (wCells x Ax dl qx Ay nl qy) _ K6_1.out Tryz.underlying37 rfl rfl rfl (fun _ _ => by rw [Nat.zero_add]) ?_)
        refine HDO.out.mono ?_
        rintro _ w6 ⟨A3, q3, rfl, ho3, hl6, hon⟩
        have HL6 := Lib.hid hl6
        have hs6 := hon.size
        obtain ⟨q31, q32, q33, q34, q35⟩ := ho3.reads
        have HGRA := Lib.hid (show ∀ a, A3 = some a → ¬ V.has a.block from fun a ha hv => by have := q35 a ha; have := HMUT.out _ hv; omega)
        have K6_4 := Lib.hid ((hon).blk K6_1.out HGK6.out)
        have RX_5 := Lib.hid ((hon).reads RX_2.out (fun a _ ha => HGRX.out a ha))
        have RY_6 := Lib.hid ((hon).reads RY_3.out (fun a _ ha => HGRY.out a ha))
        clear K6_1 RX_2 RY_3 
        have RA_7 := Lib.hid (q34)
        have h00 : ((p.2.2 : Nat) : Int) = 0 := by rw [HSTEP.out.1]; rfl
        rw [h00]
        obtain ⟨er, her⟩ : ∃ e, e = p.2.1.err := ⟨_, rfl⟩
        obtain ⟨al, hal⟩ : ∃ e, e = p.2.1.data.length := ⟨_, rfl⟩
        obtain ⟨pe, hpe⟩ : ∃ e, e = p.2.1.epoch := ⟨_, rfl⟩
        rw [← her, ← hal, ← hpe]
        rw [← hal] at RA_7 hdl
        have HER := Lib.hid her
        have HAL := Lib.hid hal
        have HPE := Lib.hid hpe
        clear h00 hl6 ho3 hon HDO HL5 q31 q32 q33 q34 q35 her hal hpe
        go_upto_region 11 with (refine wpList_store_part (o := ⟨none, _, _, _, _, _⟩) rfl 33 (.tmp 7) (.tmp 51) rfl w6.heap.size 0 (aC er A3 al q3 pe) rfl rfl 33 (aC 0 none 0 0 0) (Blk.newAt rfl) (aC_info _ _ _ _ _) (by simp [aC]) (aC_one _ _ _ _ _) ?_; intro w7 hT7 hD7; rw [aC_spl] at hD7)
        have hb7 : Below w6.heap.size w6 w7 := hT7.below ((Below.refl _ _).alloc (Nat.le_refl _) _) (Nat.le_refl _)
        have hs7 := hb7.size
        have HL7 := Lib.hid (HL6.out.below hb7)
        obtain ⟨g7, hg7⟩ : ∃ g, g = w6.heap.size := ⟨_, rfl⟩
        rw [← hg7] at hD7 ⊢
        have HGK7 := Lib.hid (show ¬ V.has g7 from fun hv => by have := HMUT.out _ hv; omega)
        have K6_8 := Lib.hid (((Only.of_below hb7 : Only V.has w6 w7)).blk K6_4.out HGK6.out)
        have RX_9 := Lib.hid (((Only.of_below hb7 : Only V.has w6 w7)).reads RX_5.out (fun a _ ha => HGRX.out a ha))
        have RY_10 := Lib.hid (((Only.of_below hb7 : Only V.has w6 w7)).reads RY_6.out (fun a _ ha => HGRY.out a ha))
        have RA_11 := Lib.hid (((Only.of_below hb7 : Only V.has w6 w7)).reads RA_7.out (fun a _ ha => HGRA.out a ha))
        clear K6_4 RX_5 RY_6 RA_7 
        have K7_12 := Lib.hid (hD7)
        clear hT7 hb7 hD7 hg7 HL6
        have ck : w7.cell? ⟨g6, 4, none⟩ = some (.int .i64 x.kind) := (K6_8.out.cell 4).trans rfl
        have ce : w7.cell? ⟨g7, 0, none⟩ = some (.int .i64 (er : Int)) := (K7_12.out.cell 0).trans rfl
        by_cases hk5 : x.kind = 5
        · have hkb : (x.kind == 5) = true := by simpa using hk5
          go_wp2_with fail
          go_roundw
          case rel => exact ⟨i + 1, by omega, by omega, by go_num, ⟨_, HSTEP.out.2, HL7.out.more (by omega)⟩⟩
          case measure => simp [intOf]; omega
        · have hkb : (x.kind == 5) = false := by simpa using hk5
          by_cases he : er = 0
          · have heb : ((er : Int) != 0) = false := by simp [he]
            have hag := HAG.out hk5 (by rw [← HER.out]; exact he)
            have hex := HEPX.out hk5
            have hex1 := hex.1
            have hex2 := hex.2
            subst he
            go_upto_region 14 with fail
            clear ck ce hkb heb hex
            obtain ⟨ho1, ho2, ho4, ho5, ho6⟩ := hag
            have HOLD := Lib.hid ho1
            have HD1 := Lib.hid ho2
            have HD2 := Lib.hid ho4
            have HPG := Lib.hid ho6
            clear ho1 ho2 ho4 ho5 ho6
            have hln := leavesV_len p.1
            have HRL := Lib.hid (show (rootL (leavesV p.1)).length = 32 from (lv_one (leavesV p.1) (by omega) (by omega)).2)
            have HRT := Lib.hid (fun (W : World) (h : VAt W V V.all p.1) => vrootL_any W V V.all p.1 h)
            unfold RootPost at HRT
            have hds : (bRow (rootL (leavesV p.1))).size = 32 := bRow_size32 HRL.out
            have hdo := bRow_one (rootL (leavesV p.1))
            have HNQ := Lib.hid (fun (W : World) => neq_digest (rootL (leavesV p.1)) (rootL (leavesV p.1)) HRL.out HRL.out W)
            rw [show (rootL (leavesV p.1) != rootL (leavesV p.1)) = false by simp] at HNQ
            obtain ⟨D, hD⟩ : ∃ D, D = bRow (rootL (leavesV p.1)) := ⟨_, rfl⟩
            rw [← hD] at HRT hds hdo HNQ
            have HDS := Lib.hid hds
            have HDO := Lib.hid hdo
            have HZ := Lib.hid treeZ_eq
            have HZS := Lib.hid (show inkZ.size = 32 by simp [inkZ, bRow])
            clear hds hdo hD hln
            go_wp2_with fail
            refine (HRT.out w7 HL7.out.vat).mono ?_
            rintro _ w8 ⟨rfl, hb8⟩
            have hs8 := hb8.size
            have HL8 := Lib.hid (HL7.out.below hb8)
            have K6_13 := Lib.hid (((Only.of_below hb8 : Only V.has w7 w8)).blk K6_8.out HGK6.out)
            have K7_14 := Lib.hid (((Only.of_below hb8 : Only V.has w7 w8)).blk K7_12.out HGK7.out)
            have RX_15 := Lib.hid (((Only.of_below hb8 : Only V.has w7 w8)).reads RX_9.out (fun a _ ha => HGRX.out a ha))
            have RY_16 := Lib.hid (((Only.of_below hb8 : Only V.has w7 w8)).reads RY_10.out (fun a _ ha => HGRY.out a ha))
            have RA_17 := Lib.hid (((Only.of_below hb8 : Only V.has w7 w8)).reads RA_11.out (fun a _ ha => HGRA.out a ha))
            clear K6_8 K7_12 RX_9 RY_10 RA_11 hb8 HL7
            go_upto_region 15 with (refine wpList_store_part (o := ⟨none, _, _, _, _, _⟩) rfl 56 (.tmp 9) (.tmp 66) rfl w8.heap.size 0 D rfl rfl 56 inkZ (by rw [HZ.out]; exact Blk.newAt rfl) (by rw [HDS.out]; rfl) (by rw [HDS.out, HZS.out]; omega) HDO.out ?_; intro w9 hT hD3; rw [spl_self _ _ (by rw [HDS.out, HZS.out])] at hD3)
            have hb : Below w8.heap.size w8 w9 := hT.below ((Below.refl _ _).alloc (Nat.le_refl _) _) (Nat.le_refl _)
            have hs_w9 := hb.size
            have HL9 := Lib.hid (HL8.out.below hb)
            obtain ⟨g9, hg⟩ : ∃ g, g = w8.heap.size := ⟨_, rfl⟩
            rw [← hg] at hD3 ⊢
            have HGK9 := Lib.hid (show ¬ V.has g9 from fun hv => by have := HMUT.out _ hv; omega)
            have K6_18 := Lib.hid (((Only.of_below hb : Only V.has w8 w9)).blk K6_13.out HGK6.out)
            have K7_19 := Lib.hid (((Only.of_below hb : Only V.has w8 w9)).blk K7_14.out HGK7.out)
            have RX_20 := Lib.hid (((Only.of_below hb : Only V.has w8 w9)).reads RX_15.out (fun a _ ha => HGRX.out a ha))
            have RY_21 := Lib.hid (((Only.of_below hb : Only V.has w8 w9)).reads RY_16.out (fun a _ ha => HGRY.out a ha))
            have RA_22 := Lib.hid (((Only.of_below hb : Only V.has w8 w9)).reads RA_17.out (fun a _ ha => HGRA.out a ha))
            clear K6_13 K7_14 RX_15 RY_16 RA_17 
            have K9_23 := Lib.hid (hD3)
            clear hT hb hg hD3 HL8
            have c60 : w9.cell? ⟨g6, 0, none⟩ = some (.int .i64 x.client) := (K6_18.out.cell 0).trans rfl
            have c61 : w9.cell? ⟨g6, 1, none⟩ = some (.int .i64 x.stamp) := (K6_18.out.cell 1).trans rfl
            have c63 : w9.cell? ⟨g6, 3, none⟩ = some (.int .i64 x.epoch) := (K6_18.out.cell 3).trans rfl
            have HRV := Lib.hid (fun (c s e b : Int) (W : World) => vread_any c s e b W)
            go_wp2_with fail
            refine (HRV.out _ _ _ _ w9).mono ?_
            rintro _ w10 ⟨rfl, hb10⟩
            have hs10 := hb10.size
            have HL10 := Lib.hid (HL9.out.below hb10)
            have K6_24 := Lib.hid (((Only.of_below hb10 : Only V.has w9 w10)).blk K6_18.out HGK6.out)
            have K7_25 := Lib.hid (((Only.of_below hb10 : Only V.has w9 w10)).blk K7_19.out HGK7.out)
            have K9_26 := Lib.hid (((Only.of_below hb10 : Only V.has w9 w10)).blk K9_23.out HGK9.out)
            have RX_27 := Lib.hid (((Only.of_below hb10 : Only V.has w9 w10)).reads RX_20.out (fun a _ ha => HGRX.out a ha))
            have RY_28 := Lib.hid (((Only.of_below hb10 : Only V.has w9 w10)).reads RY_21.out (fun a _ ha => HGRY.out a ha))
            have RA_29 := Lib.hid (((Only.of_below hb10 : Only V.has w9 w10)).reads RA_22.out (fun a _ ha => HGRA.out a ha))
            clear K6_18 K7_19 K9_23 RX_20 RY_21 RA_22 hb10 HL9 c60 c61 c63
            obtain ⟨y, hy⟩ : ∃ y, y = readV x.client x.stamp (x.epoch + 1) 0 := ⟨_, rfl⟩
            rw [← hy] at HD2 ⊢
            have HY := Lib.hid hy
            clear hy
            go_upto_region 16 with (refine wpList_store_part (o := ⟨none, _, _, _, _, _⟩) rfl 37 (.tmp 11) (.tmp 75) rfl w10.heap.size 0 (wCells y none 0 0 none 0 0) rfl rfl 37 (wCells zeroW none 0 0 none 0 0) (Blk.newAt rfl) (wCells_info _ _ _ _ _ _ _) (by simp [wCells]) (wCells_one _ _ _ _ _ _ _) ?_; intro w11 hT hD3; rw [wC_spl] at hD3)
            have hb : Below w10.heap.size w10 w11 := hT.below ((Below.refl _ _).alloc (Nat.le_refl _) _) (Nat.le_refl _)
            have hs_w11 := hb.size
            have HL11 := Lib.hid (HL10.out.below hb)
            obtain ⟨g11, hg⟩ : ∃ g, g = w10.heap.size := ⟨_, rfl⟩
            rw [← hg] at hD3 ⊢
            have HGK11 := Lib.hid (show ¬ V.has g11 from fun hv => by have := HMUT.out _ hv; omega)
            have K6_30 := Lib.hid (((Only.of_below hb : Only V.has w10 w11)).blk K6_24.out HGK6.out)
            have K7_31 := Lib.hid (((Only.of_below hb : Only V.has w10 w11)).blk K7_25.out HGK7.out)
            have K9_32 := Lib.hid (((Only.of_below hb : Only V.has w10 w11)).blk K9_26.out HGK9.out)
            have RX_33 := Lib.hid (((Only.of_below hb : Only V.has w10 w11)).reads RX_27.out (fun a _ ha => HGRX.out a ha))
            have RY_34 := Lib.hid (((Only.of_below hb : Only V.has w10 w11)).reads RY_28.out (fun a _ ha => HGRY.out a ha))
            have RA_35 := Lib.hid (((Only.of_below hb : Only V.has w10 w11)).reads RA_29.out (fun a _ ha => HGRA.out a ha))
            clear K6_24 K7_25 K9_26 RX_27 RY_28 RA_29 
            have K11_36 := Lib.hid (hD3)
            clear hT hb hg hD3 HL10
            have HHD := Lib.hid (vHeard_any w11 V V.all p.1 HL11.out.vat x Ax dl qx Ay nl qy w11.heap.size (HWI0.out w11 RX_33.out RY_34.out) (Nat.le_refl _) HMAY.out (by rw [HGRP.out, HPG.out]; rfl) hk5)
            rw [HOLD.out] at HHD
            go_wp2_with (refine wpList_load_part (o := ⟨some 78, _, _, _, _, _⟩) rfl 37 (.tmp 6) rfl g6 0 10 rfl 37 _ (wCells x Ax dl qx Ay nl qy) _ K6_30.out Tryz.underlying37 rfl rfl rfl (fun _ _ => by rw [Nat.zero_add]; try rfl) ?_)
            refine HHD.out.mono ?_
            rintro _ w12 ⟨D4, rfl, ⟨A4, q4, hD4, ho4⟩, hb12⟩
            simp only [Option.getD_some, Option.isSome_some] at hD4 ho4 ⊢
            rw [← HER.out, ← HAL.out, ← HPE.out] at hD4
            rw [← HAL.out] at ho4
            subst hD4
            obtain ⟨q41, q42, q43, q44, q45⟩ := ho4.reads
            have HGRB := Lib.hid (show ∀ a, A4 = some a → ¬ V.has a.block from fun a ha hv => by have := q45 a ha; have := HMUT.out _ hv; omega)
            have hs12 := hb12.size
            have HL12 := Lib.hid (HL11.out.below hb12)
            have K6_37 := Lib.hid (((Only.of_below hb12 : Only V.has w11 w12)).blk K6_30.out HGK6.out)
            have K7_38 := Lib.hid (((Only.of_below hb12 : Only V.has w11 w12)).blk K7_31.out HGK7.out)
            have K9_39 := Lib.hid (((Only.of_below hb12 : Only V.has w11 w12)).blk K9_32.out HGK9.out)
            have K11_40 := Lib.hid (((Only.of_below hb12 : Only V.has w11 w12)).blk K11_36.out HGK11.out)
            have RX_41 := Lib.hid (((Only.of_below hb12 : Only V.has w11 w12)).reads RX_33.out (fun a _ ha => HGRX.out a ha))
            have RY_42 := Lib.hid (((Only.of_below hb12 : Only V.has w11 w12)).reads RY_34.out (fun a _ ha => HGRY.out a ha))
            have RA_43 := Lib.hid (((Only.of_below hb12 : Only V.has w11 w12)).reads RA_35.out (fun a _ ha => HGRA.out a ha))
            clear K6_30 K7_31 K9_32 K11_36 RX_33 RY_34 RA_35 hb12 HL11 HHD
            have RB_44 := Lib.hid (q44)
            clear ho4 q41 q42 q43 q44 q45
            go_upto_region 17 with (refine wpList_store_part (o := ⟨none, _, _, _, _, _⟩) rfl 33 (.tmp 12) (.tmp 80) rfl w12.heap.size 0 (aC (0 : Nat) A4 al q4 pe) rfl rfl 33 (aC 0 none 0 0 0) (Blk.newAt rfl) (aC_info _ _ _ _ _) (by simp [aC]) (aC_one _ _ _ _ _) ?_; intro w13 hT hD3; rw [aC_spl] at hD3)
            have hb : Below w12.heap.size w12 w13 := hT.below ((Below.refl _ _).alloc (Nat.le_refl _) _) (Nat.le_refl _)
            have hs_w13 := hb.size
            have HL13 := Lib.hid (HL12.out.below hb)
            obtain ⟨g12, hg⟩ : ∃ g, g = w12.heap.size := ⟨_, rfl⟩
            rw [← hg] at hD3 ⊢
            have HGK12 := Lib.hid (show ¬ V.has g12 from fun hv => by have := HMUT.out _ hv; omega)
            have K6_45 := Lib.hid (((Only.of_below hb : Only V.has w12 w13)).blk K6_37.out HGK6.out)
            have K7_46 := Lib.hid (((Only.of_below hb : Only V.has w12 w13)).blk K7_38.out HGK7.out)
            have K9_47 := Lib.hid (((Only.of_below hb : Only V.has w12 w13)).blk K9_39.out HGK9.out)
            have K11_48 := Lib.hid (((Only.of_below hb : Only V.has w12 w13)).blk K11_40.out HGK11.out)
            have RX_49 := Lib.hid (((Only.of_below hb : Only V.has w12 w13)).reads RX_41.out (fun a _ ha => HGRX.out a ha))
            have RY_50 := Lib.hid (((Only.of_below hb : Only V.has w12 w13)).reads RY_42.out (fun a _ ha => HGRY.out a ha))
            have RA_51 := Lib.hid (((Only.of_below hb : Only V.has w12 w13)).reads RA_43.out (fun a _ ha => HGRA.out a ha))
            have RB_52 := Lib.hid (((Only.of_below hb : Only V.has w12 w13)).reads RB_44.out (fun a _ ha => HGRB.out a ha))
            clear K6_37 K7_38 K9_39 K11_40 RX_41 RY_42 RA_43 RB_44 
            have K12_53 := Lib.hid (hD3)
            clear hT hb hg hD3 HL12
            have HSA := Lib.hid (sameAnswer_any ((0 : Nat) : Int) ((0 : Nat) : Int) pe pe A3 al q3 none 0 0 A4 al q4 none 0 0 p.2.1.data p.2.1.data [] [] w13 w13.heap.size RA_51.out Reads.none_ RB_52.out Reads.none_ (Nat.le_refl _) (by unfold maxLen; omega) (by unfold maxLen; omega) (by unfold maxLen; omega) (by unfold maxLen; omega))
            rw [decide_eq_true ⟨rfl, rfl, rfl, rfl⟩] at HSA
            go_wp2_with (first
              | (refine wpList_load_guarded (o := ⟨some 85, _, _, _, _, _⟩) rfl 33 (.tmp 7) rfl g7 0 4 rfl 33 _ (anC ((0 : Nat) : Int) A3 al q3 pe none 0 0) _ K7_46.out Tryz.underlying33 rfl rfl rfl (fun _ _ => by rw [Nat.zero_add]; try rfl) ?_)
              | (refine wpList_load_guarded (o := ⟨some 86, _, _, _, _, _⟩) rfl 33 (.tmp 12) rfl g12 0 4 rfl 33 _ (anC ((0 : Nat) : Int) A4 al q4 pe none 0 0) _ K12_53.out Tryz.underlying33 rfl rfl rfl (fun _ _ => by rw [Nat.zero_add]; try rfl) ?_))
            refine HSA.out.mono ?_
            rintro _ w14 ⟨rfl, hb14⟩
            have hs14 := hb14.size
            have HL14 := Lib.hid (HL13.out.below hb14)
            have K6_54 := Lib.hid (((Only.of_below hb14 : Only V.has w13 w14)).blk K6_45.out HGK6.out)
            have K7_55 := Lib.hid (((Only.of_below hb14 : Only V.has w13 w14)).blk K7_46.out HGK7.out)
            have K9_56 := Lib.hid (((Only.of_below hb14 : Only V.has w13 w14)).blk K9_47.out HGK9.out)
            have K11_57 := Lib.hid (((Only.of_below hb14 : Only V.has w13 w14)).blk K11_48.out HGK11.out)
            have K12_58 := Lib.hid (((Only.of_below hb14 : Only V.has w13 w14)).blk K12_53.out HGK12.out)
            have RX_59 := Lib.hid (((Only.of_below hb14 : Only V.has w13 w14)).reads RX_49.out (fun a _ ha => HGRX.out a ha))
            have RY_60 := Lib.hid (((Only.of_below hb14 : Only V.has w13 w14)).reads RY_50.out (fun a _ ha => HGRY.out a ha))
            have RA_61 := Lib.hid (((Only.of_below hb14 : Only V.has w13 w14)).reads RA_51.out (fun a _ ha => HGRA.out a ha))
            have RB_62 := Lib.hid (((Only.of_below hb14 : Only V.has w13 w14)).reads RB_52.out (fun a _ ha => HGRB.out a ha))
            clear K6_45 K7_46 K9_47 K11_48 K12_53 RX_49 RY_50 RA_51 RB_52 hb14 HL13 HSA
            go_upto_region 19 with fail
            have HDA := Lib.hid (HL14.out.do_ (by omega) x Ax dl qx Ay nl qy w14.heap.size (HWI0.out w14 RX_59.out RY_60.out) (Nat.le_refl _) HNOX.out)
            rw [HD1.out] at HDA
            unfold DidP at HDA
            simp only at HDA
            rw [← HER.out, ← HAL.out, ← HPE.out] at HDA
            go_wp2_with (refine wpList_load_part (o := ⟨some 92, _, _, _, _, _⟩) rfl 37 (.tmp 6) rfl g6 0 10 rfl 37 _ (wCells x Ax dl qx Ay nl qy) _ K6_54.out Tryz.underlying37 rfl rfl rfl (fun _ _ => by rw [Nat.zero_add]; try rfl) ?_)
            refine HDA.out.mono ?_
            rintro _ w15 ⟨A5, q5, rfl, ho5, hl15, hon⟩
            obtain ⟨q51, q52, q53, q54, q55⟩ := ho5.reads
            have HGRC := Lib.hid (show ∀ a, A5 = some a → ¬ V.has a.block from fun a ha hv => by have := q55 a ha; have := HMUT.out _ hv; omega)
            have hs15 := hon.size
            have HL15 := Lib.hid hl15
            have K6_63 := Lib.hid ((hon).blk K6_54.out HGK6.out)
            have K7_64 := Lib.hid ((hon).blk K7_55.out HGK7.out)
            have K9_65 := Lib.hid ((hon).blk K9_56.out HGK9.out)
            have K11_66 := Lib.hid ((hon).blk K11_57.out HGK11.out)
            have K12_67 := Lib.hid ((hon).blk K12_58.out HGK12.out)
            have RX_68 := Lib.hid ((hon).reads RX_59.out (fun a _ ha => HGRX.out a ha))
            have RY_69 := Lib.hid ((hon).reads RY_60.out (fun a _ ha => HGRY.out a ha))
            have RA_70 := Lib.hid ((hon).reads RA_61.out (fun a _ ha => HGRA.out a ha))
            have RB_71 := Lib.hid ((hon).reads RB_62.out (fun a _ ha => HGRB.out a ha))
            clear K6_54 K7_55 K9_56 K11_57 K12_58 RX_59 RY_60 RA_61 RB_62 HL14 HDA
            have RC_72 := Lib.hid (q54)
            clear ho5 q51 q52 q53 q54 q55 hl15 hon
            rw [show (((0 : Nat) : Int)) = 0 from rfl]
            go_upto_region 20 with (refine wpList_store_part (o := ⟨none, _, _, _, _, _⟩) rfl 33 (.tmp 14) (.tmp 94) rfl w15.heap.size 0 (aC 0 A5 al q5 pe) rfl rfl 33 (aC 0 none 0 0 0) (Blk.newAt rfl) (aC_info _ _ _ _ _) (by simp [aC]) (aC_one _ _ _ _ _) ?_; intro w16 hT hD3; rw [aC_spl] at hD3)
            have hb : Below w15.heap.size w15 w16 := hT.below ((Below.refl _ _).alloc (Nat.le_refl _) _) (Nat.le_refl _)
            have hs_w16 := hb.size
            have HL16 := Lib.hid (HL15.out.below hb)
            obtain ⟨g14, hg⟩ : ∃ g, g = w15.heap.size := ⟨_, rfl⟩
            rw [← hg] at hD3 ⊢
            have HGK14 := Lib.hid (show ¬ V.has g14 from fun hv => by have := HMUT.out _ hv; omega)
            have K6_73 := Lib.hid (((Only.of_below hb : Only V.has w15 w16)).blk K6_63.out HGK6.out)
            have K7_74 := Lib.hid (((Only.of_below hb : Only V.has w15 w16)).blk K7_64.out HGK7.out)
            have K9_75 := Lib.hid (((Only.of_below hb : Only V.has w15 w16)).blk K9_65.out HGK9.out)
            have K11_76 := Lib.hid (((Only.of_below hb : Only V.has w15 w16)).blk K11_66.out HGK11.out)
            have K12_77 := Lib.hid (((Only.of_below hb : Only V.has w15 w16)).blk K12_67.out HGK12.out)
            have RX_78 := Lib.hid (((Only.of_below hb : Only V.has w15 w16)).reads RX_68.out (fun a _ ha => HGRX.out a ha))
            have RY_79 := Lib.hid (((Only.of_below hb : Only V.has w15 w16)).reads RY_69.out (fun a _ ha => HGRY.out a ha))
            have RA_80 := Lib.hid (((Only.of_below hb : Only V.has w15 w16)).reads RA_70.out (fun a _ ha => HGRA.out a ha))
            have RB_81 := Lib.hid (((Only.of_below hb : Only V.has w15 w16)).reads RB_71.out (fun a _ ha => HGRB.out a ha))
            have RC_82 := Lib.hid (((Only.of_below hb : Only V.has w15 w16)).reads RC_72.out (fun a _ ha => HGRC.out a ha))
            clear K6_63 K7_64 K9_65 K11_66 K12_67 RX_68 RY_69 RA_70 RB_71 RC_72 
            have K14_83 := Lib.hid (hD3)
            clear hT hb hg hD3 HL15
            have HDB := Lib.hid (HL16.out.do_ (by omega) y none 0 0 none 0 0 w16.heap.size (by
              rw [HY.out]
              exact wishIn_read ⟨(HWI0.out w16 RX_78.out RY_79.out).rng.1, (HWI0.out w16 RX_78.out RY_79.out).rng.2.1, by unfold I64; omega, by unfold I64; omega⟩) (Nat.le_refl _) (fun ad h0 => by omega))
            rw [HD2.out] at HDB
            unfold DidP at HDB
            simp only at HDB
            rw [← HER.out, ← HAL.out, ← HPE.out] at HDB
            go_wp2_with (refine wpList_load_part (o := ⟨some 98, _, _, _, _, _⟩) rfl 37 (.tmp 11) rfl g11 0 10 rfl 37 _ (wCells y none 0 0 none 0 0) _ K11_76.out Tryz.underlying37 rfl rfl rfl (fun _ _ => by rw [Nat.zero_add]; try rfl) ?_)
            refine HDB.out.mono ?_
            rintro _ w17 ⟨A6, q6, rfl, ho5, hl17, hon⟩
            obtain ⟨q51, q52, q53, q54, q55⟩ := ho5.reads
            have HGRD := Lib.hid (show ∀ a, A6 = some a → ¬ V.has a.block from fun a ha hv => by have := q55 a ha; have := HMUT.out _ hv; omega)
            have hs17 := hon.size
            have HL17 := Lib.hid hl17
            have K6_84 := Lib.hid ((hon).blk K6_73.out HGK6.out)
            have K7_85 := Lib.hid ((hon).blk K7_74.out HGK7.out)
            have K9_86 := Lib.hid ((hon).blk K9_75.out HGK9.out)
            have K11_87 := Lib.hid ((hon).blk K11_76.out HGK11.out)
            have K12_88 := Lib.hid ((hon).blk K12_77.out HGK12.out)
            have K14_89 := Lib.hid ((hon).blk K14_83.out HGK14.out)
            have RX_90 := Lib.hid ((hon).reads RX_78.out (fun a _ ha => HGRX.out a ha))
            have RY_91 := Lib.hid ((hon).reads RY_79.out (fun a _ ha => HGRY.out a ha))
            have RA_92 := Lib.hid ((hon).reads RA_80.out (fun a _ ha => HGRA.out a ha))
            have RB_93 := Lib.hid ((hon).reads RB_81.out (fun a _ ha => HGRB.out a ha))
            have RC_94 := Lib.hid ((hon).reads RC_82.out (fun a _ ha => HGRC.out a ha))
            clear K6_73 K7_74 K9_75 K11_76 K12_77 K14_83 RX_78 RY_79 RA_80 RB_81 RC_82 HL16 HDB
            have RD_95 := Lib.hid (q54)
            clear ho5 q51 q52 q53 q54 q55 hl17 hon
            rw [show (((0 : Nat) : Int)) = 0 from rfl]
            go_upto_region 21 with (refine wpList_store_part (o := ⟨none, _, _, _, _, _⟩) rfl 33 (.tmp 16) (.tmp 100) rfl w17.heap.size 0 (aC 0 A6 al q6 pe) rfl rfl 33 (aC 0 none 0 0 0) (Blk.newAt rfl) (aC_info _ _ _ _ _) (by simp [aC]) (aC_one _ _ _ _ _) ?_; intro w18 hT hD3; rw [aC_spl] at hD3)
            have hb : Below w17.heap.size w17 w18 := hT.below ((Below.refl _ _).alloc (Nat.le_refl _) _) (Nat.le_refl _)
            have hs_w18 := hb.size
            have HL18 := Lib.hid (HL17.out.below hb)
            obtain ⟨g16, hg⟩ : ∃ g, g = w17.heap.size := ⟨_, rfl⟩
            rw [← hg] at hD3 ⊢
            have HGK16 := Lib.hid (show ¬ V.has g16 from fun hv => by have := HMUT.out _ hv; omega)
            have K6_96 := Lib.hid (((Only.of_below hb : Only V.has w17 w18)).blk K6_84.out HGK6.out)
            have K7_97 := Lib.hid (((Only.of_below hb : Only V.has w17 w18)).blk K7_85.out HGK7.out)
            have K9_98 := Lib.hid (((Only.of_below hb : Only V.has w17 w18)).blk K9_86.out HGK9.out)
            have K11_99 := Lib.hid (((Only.of_below hb : Only V.has w17 w18)).blk K11_87.out HGK11.out)
            have K12_100 := Lib.hid (((Only.of_below hb : Only V.has w17 w18)).blk K12_88.out HGK12.out)
            have K14_101 := Lib.hid (((Only.of_below hb : Only V.has w17 w18)).blk K14_89.out HGK14.out)
            have RX_102 := Lib.hid (((Only.of_below hb : Only V.has w17 w18)).reads RX_90.out (fun a _ ha => HGRX.out a ha))
            have RY_103 := Lib.hid (((Only.of_below hb : Only V.has w17 w18)).reads RY_91.out (fun a _ ha => HGRY.out a ha))
            have RA_104 := Lib.hid (((Only.of_below hb : Only V.has w17 w18)).reads RA_92.out (fun a _ ha => HGRA.out a ha))
            have RB_105 := Lib.hid (((Only.of_below hb : Only V.has w17 w18)).reads RB_93.out (fun a _ ha => HGRB.out a ha))
            have RC_106 := Lib.hid (((Only.of_below hb : Only V.has w17 w18)).reads RC_94.out (fun a _ ha => HGRC.out a ha))
            have RD_107 := Lib.hid (((Only.of_below hb : Only V.has w17 w18)).reads RD_95.out (fun a _ ha => HGRD.out a ha))
            clear K6_84 K7_85 K9_86 K11_87 K12_88 K14_89 RX_90 RY_91 RA_92 RB_93 RC_94 RD_95 
            have K16_108 := Lib.hid (hD3)
            clear hT hb hg hD3 HL17
            go_wp2_with fail
            refine (HRT.out w18 HL18.out.vat).mono ?_
            rintro _ w19 ⟨rfl, hb19⟩
            have hs19 := hb19.size
            have HL19 := Lib.hid (HL18.out.below hb19)
            have K6_109 := Lib.hid (((Only.of_below hb19 : Only V.has w18 w19)).blk K6_96.out HGK6.out)
            have K7_110 := Lib.hid (((Only.of_below hb19 : Only V.has w18 w19)).blk K7_97.out HGK7.out)
            have K9_111 := Lib.hid (((Only.of_below hb19 : Only V.has w18 w19)).blk K9_98.out HGK9.out)
            have K11_112 := Lib.hid (((Only.of_below hb19 : Only V.has w18 w19)).blk K11_99.out HGK11.out)
            have K12_113 := Lib.hid (((Only.of_below hb19 : Only V.has w18 w19)).blk K12_100.out HGK12.out)
            have K14_114 := Lib.hid (((Only.of_below hb19 : Only V.has w18 w19)).blk K14_101.out HGK14.out)
            have K16_115 := Lib.hid (((Only.of_below hb19 : Only V.has w18 w19)).blk K16_108.out HGK16.out)
            have RX_116 := Lib.hid (((Only.of_below hb19 : Only V.has w18 w19)).reads RX_102.out (fun a _ ha => HGRX.out a ha))
            have RY_117 := Lib.hid (((Only.of_below hb19 : Only V.has w18 w19)).reads RY_103.out (fun a _ ha => HGRY.out a ha))
            have RA_118 := Lib.hid (((Only.of_below hb19 : Only V.has w18 w19)).reads RA_104.out (fun a _ ha => HGRA.out a ha))
            have RB_119 := Lib.hid (((Only.of_below hb19 : Only V.has w18 w19)).reads RB_105.out (fun a _ ha => HGRB.out a ha))
            have RC_120 := Lib.hid (((Only.of_below hb19 : Only V.has w18 w19)).reads RC_106.out (fun a _ ha => HGRC.out a ha))
            have RD_121 := Lib.hid (((Only.of_below hb19 : Only V.has w18 w19)).reads RD_107.out (fun a _ ha => HGRD.out a ha))
            clear K6_96 K7_97 K9_98 K11_99 K12_100 K14_101 K16_108 RX_102 RY_103 RA_104 RB_105 RC_106 RD_107 hb19 HL18
            go_upto_region 22 with (refine wpList_store_part (o := ⟨none, _, _, _, _, _⟩) rfl 56 (.tmp 18) (.tmp 105) rfl w19.heap.size 0 D rfl rfl 56 inkZ (by rw [HZ.out]; exact Blk.newAt rfl) (by rw [HDS.out]; rfl) (by rw [HDS.out, HZS.out]; omega) HDO.out ?_; intro w20 hT hD3; rw [spl_self _ _ (by rw [HDS.out, HZS.out])] at hD3)
            have hb : Below w19.heap.size w19 w20 := hT.below ((Below.refl _ _).alloc (Nat.le_refl _) _) (Nat.le_refl _)
            have hs_w20 := hb.size
            have HL20 := Lib.hid (HL19.out.below hb)
            obtain ⟨g18, hg⟩ : ∃ g, g = w19.heap.size := ⟨_, rfl⟩
            rw [← hg] at hD3 ⊢
            have HGK18 := Lib.hid (show ¬ V.has g18 from fun hv => by have := HMUT.out _ hv; omega)
            have K6_122 := Lib.hid (((Only.of_below hb : Only V.has w19 w20)).blk K6_109.out HGK6.out)
            have K7_123 := Lib.hid (((Only.of_below hb : Only V.has w19 w20)).blk K7_110.out HGK7.out)
            have K9_124 := Lib.hid (((Only.of_below hb : Only V.has w19 w20)).blk K9_111.out HGK9.out)
            have K11_125 := Lib.hid (((Only.of_below hb : Only V.has w19 w20)).blk K11_112.out HGK11.out)
            have K12_126 := Lib.hid (((Only.of_below hb : Only V.has w19 w20)).blk K12_113.out HGK12.out)
            have K14_127 := Lib.hid (((Only.of_below hb : Only V.has w19 w20)).blk K14_114.out HGK14.out)
            have K16_128 := Lib.hid (((Only.of_below hb : Only V.has w19 w20)).blk K16_115.out HGK16.out)
            have RX_129 := Lib.hid (((Only.of_below hb : Only V.has w19 w20)).reads RX_116.out (fun a _ ha => HGRX.out a ha))
            have RY_130 := Lib.hid (((Only.of_below hb : Only V.has w19 w20)).reads RY_117.out (fun a _ ha => HGRY.out a ha))
            have RA_131 := Lib.hid (((Only.of_below hb : Only V.has w19 w20)).reads RA_118.out (fun a _ ha => HGRA.out a ha))
            have RB_132 := Lib.hid (((Only.of_below hb : Only V.has w19 w20)).reads RB_119.out (fun a _ ha => HGRB.out a ha))
            have RC_133 := Lib.hid (((Only.of_below hb : Only V.has w19 w20)).reads RC_120.out (fun a _ ha => HGRC.out a ha))
            have RD_134 := Lib.hid (((Only.of_below hb : Only V.has w19 w20)).reads RD_121.out (fun a _ ha => HGRD.out a ha))
            clear K6_109 K7_110 K9_111 K11_112 K12_113 K14_114 K16_115 RX_116 RY_117 RA_118 RB_119 RC_120 RD_121 
            have K18_135 := Lib.hid (hD3)
            clear hT hb hg hD3 HL19
            have HSA := Lib.hid (sameAnswer_any ((0 : Nat) : Int) ((0 : Nat) : Int) pe pe A3 al q3 none 0 0 A5 al q5 none 0 0 p.2.1.data p.2.1.data [] [] w20 w20.heap.size RA_131.out Reads.none_ RC_133.out Reads.none_ (Nat.le_refl _) (by unfold maxLen; omega) (by unfold maxLen; omega) (by unfold maxLen; omega) (by unfold maxLen; omega))
            rw [decide_eq_true ⟨rfl, rfl, rfl, rfl⟩] at HSA
            go_wp2_with (first
              | (refine wpList_load_guarded (o := ⟨some 122, _, _, _, _, _⟩) rfl 56 (.tmp 9) rfl g9 0 32 rfl 56 _ D _ K9_124.out Tryz.underlying56 rfl rfl HDS.out (fun _ _ => by rw [Nat.zero_add]; try rfl) ?_)
              | (refine wpList_load_guarded (o := ⟨some 123, _, _, _, _, _⟩) rfl 56 (.tmp 18) rfl g18 0 32 rfl 56 _ D _ K18_135.out Tryz.underlying56 rfl rfl HDS.out (fun _ _ => by rw [Nat.zero_add]; try rfl) ?_)
              | (refine wpList_exec_want (o := ⟨some 124, _, _, _, _, _⟩) rfl (.bool false) (exec_neq_agg 56 (.tmp 122) (.tmp 123) _ rfl D D rfl rfl eqg_digest _ (HNQ.out _)) ?_)
              | (refine wpList_load_guarded (o := ⟨some 127, _, _, _, _, _⟩) rfl 33 (.tmp 7) rfl g7 0 4 rfl 33 _ (anC ((0 : Nat) : Int) A3 al q3 pe none 0 0) _ K7_123.out Tryz.underlying33 rfl rfl rfl (fun _ _ => by rw [Nat.zero_add]; try rfl) ?_)
              | (refine wpList_load_guarded (o := ⟨some 128, _, _, _, _, _⟩) rfl 33 (.tmp 14) rfl g14 0 4 rfl 33 _ (anC ((0 : Nat) : Int) A5 al q5 pe none 0 0) _ K14_127.out Tryz.underlying33 rfl rfl rfl (fun _ _ => by rw [Nat.zero_add]; try rfl) ?_))
            refine HSA.out.mono ?_
            rintro _ w21 ⟨rfl, hb21⟩
            have hs21 := hb21.size
            have HL21 := Lib.hid (HL20.out.below hb21)
            have K6_136 := Lib.hid (((Only.of_below hb21 : Only V.has w20 w21)).blk K6_122.out HGK6.out)
            have K7_137 := Lib.hid (((Only.of_below hb21 : Only V.has w20 w21)).blk K7_123.out HGK7.out)
            have K9_138 := Lib.hid (((Only.of_below hb21 : Only V.has w20 w21)).blk K9_124.out HGK9.out)
            have K11_139 := Lib.hid (((Only.of_below hb21 : Only V.has w20 w21)).blk K11_125.out HGK11.out)
            have K12_140 := Lib.hid (((Only.of_below hb21 : Only V.has w20 w21)).blk K12_126.out HGK12.out)
            have K14_141 := Lib.hid (((Only.of_below hb21 : Only V.has w20 w21)).blk K14_127.out HGK14.out)
            have K16_142 := Lib.hid (((Only.of_below hb21 : Only V.has w20 w21)).blk K16_128.out HGK16.out)
            have K18_143 := Lib.hid (((Only.of_below hb21 : Only V.has w20 w21)).blk K18_135.out HGK18.out)
            have RX_144 := Lib.hid (((Only.of_below hb21 : Only V.has w20 w21)).reads RX_129.out (fun a _ ha => HGRX.out a ha))
            have RY_145 := Lib.hid (((Only.of_below hb21 : Only V.has w20 w21)).reads RY_130.out (fun a _ ha => HGRY.out a ha))
            have RA_146 := Lib.hid (((Only.of_below hb21 : Only V.has w20 w21)).reads RA_131.out (fun a _ ha => HGRA.out a ha))
            have RB_147 := Lib.hid (((Only.of_below hb21 : Only V.has w20 w21)).reads RB_132.out (fun a _ ha => HGRB.out a ha))
            have RC_148 := Lib.hid (((Only.of_below hb21 : Only V.has w20 w21)).reads RC_133.out (fun a _ ha => HGRC.out a ha))
            have RD_149 := Lib.hid (((Only.of_below hb21 : Only V.has w20 w21)).reads RD_134.out (fun a _ ha => HGRD.out a ha))
            clear K6_122 K7_123 K9_124 K11_125 K12_126 K14_127 K16_128 K18_135 RX_129 RY_130 RA_131 RB_132 RC_133 RD_134 hb21 HL20 HSA
            have HSA := Lib.hid (sameAnswer_any ((0 : Nat) : Int) ((0 : Nat) : Int) pe pe A3 al q3 none 0 0 A6 al q6 none 0 0 p.2.1.data p.2.1.data [] [] w21 w21.heap.size RA_146.out Reads.none_ RD_149.out Reads.none_ (Nat.le_refl _) (by unfold maxLen; omega) (by unfold maxLen; omega) (by unfold maxLen; omega) (by unfold maxLen; omega))
            rw [decide_eq_true ⟨rfl, rfl, rfl, rfl⟩] at HSA
            go_wp2_with (first
              | (refine wpList_load_guarded (o := ⟨some 133, _, _, _, _, _⟩) rfl 33 (.tmp 7) rfl g7 0 4 rfl 33 _ (anC ((0 : Nat) : Int) A3 al q3 pe none 0 0) _ K7_137.out Tryz.underlying33 rfl rfl rfl (fun _ _ => by rw [Nat.zero_add]; try rfl) ?_)
              | (refine wpList_load_guarded (o := ⟨some 134, _, _, _, _, _⟩) rfl 33 (.tmp 16) rfl g16 0 4 rfl 33 _ (anC ((0 : Nat) : Int) A6 al q6 pe none 0 0) _ K16_142.out Tryz.underlying33 rfl rfl rfl (fun _ _ => by rw [Nat.zero_add]; try rfl) ?_))
            refine HSA.out.mono ?_
            rintro _ w22 ⟨rfl, hb22⟩
            have HL22 := Lib.hid (HL21.out.below hb22)
            clear hb22 HSA
            go_wp2_with fail
            go_roundw
            case rel => exact ⟨i + 1, by omega, by omega, by go_num, ⟨_, HSTEP.out.2, HL22.out.more (by omega)⟩⟩
            case measure => simp [intOf]; omega
          · have heb : ((er : Int) != 0) = true := by simpa using he
            go_wp2_with fail
            go_roundw
            case rel => exact ⟨i + 1, by omega, by omega, by go_num, ⟨_, HSTEP.out.2, HL7.out.more (by omega)⟩⟩
            case measure => simp [intOf]; omega
      · rw [decide_eq_false hlt]
        clear hlt HRUN
        go_wp2_with fail
        go_ret
        exact ⟨rfl, HL.out.low⟩

end Go.Proofs.YtfjopbbgcjgpbaaGreat
