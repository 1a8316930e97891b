/-
  VaultAgain: the law's walk.
-/
import Derived.Test.YtfjopbbgcjgpbaaGreatY3
import Derived.Test.YtfjopbbgcjgpbaaGreatZ4
import Derived.Deep.DeepCutAuto
namespace Go.Proofs.YtfjopbbgcjgpbaaGreat
set_option linter.unusedVariables false
open Go.RowKit Go.Maps

attribute [local irreducible] wpList wpCalm

set_option maxRecDepth 100000 in
set_option maxHeartbeats 16000000 in
theorem vaultAgain_law (A : Option Addr) (n c : Nat) (xs : List Int) (t : Int) (bb : Bool) (w : World) (hr : Reads w w.heap.size 1 A n (xs.map vn)) (hxs : ∀ z, z ∈ xs → -9223372036854775808 ≤ z ∧ z ≤ 9223372036854775807) (hn : n ≤ 1000000000000000000) (ht1 : -9223372036854775808 ≤ t) (ht2 : t ≤ 9223372036854775807) :
    Calls Tryz.prog 7 #[.slice A n c, .int .i64 t, .bool bb] w fun e w' => e = .returned (.bool true) ∧ Below w.heap.size w w' := by
  have hxl : xs.length = n := by have := hr.1; simpa using this
  have HR := Lib.hid hr
  have HXS := Lib.hid hxs
  have HXL := Lib.hid hxl
  clear hr hxs hxl
  have HBT := Lib.hid (fun (W : World) => bring_any t 41 (by omega) (by unfold maxLen; omega) ht1 ht2 W)
  obtain ⟨at_, hat⟩ : ∃ k, k = bringF t 41 := ⟨_, rfl⟩
  rw [← hat] at HBT
  clear ht1 ht2 hat
  go_enter Tryz.func7, Tryz.ntmps7
  go_wp2_with fail
  refine (vworks_any w).mono ?_
  rintro _ wa ⟨rfl, hba⟩
  have HBA := Lib.hid hba
  clear hba
  go_wp2_with fail
  refine (inkNew_any wa).mono ?_
  rintro _ w1 ⟨k, rfl, hbk, hkn, hb1⟩
  have hsa := HBA.out.size
  have HNW := Lib.hid (vNew_at k [] 0 1 w1 hbk (by omega) (by omega))
  have HB1 := Lib.hid (HBA.out.trans (hb1.mono hsa))
  have HKN := Lib.hid (show w.heap.size ≤ k.g ∧ w.heap.size ≤ k.b1 ∧ w.heap.size ≤ k.b2 by omega)
  have HKL := Lib.hid hbk.lt
  clear hb1 hkn hbk HBA
  go_wp2_with fail
  refine (HNW.out _ rfl).mono ?_
  rintro _ w2 ⟨Va, rfl, hna⟩
  obtain ⟨La, aa, hbka, haa, _, hina⟩ := hna.book
  have HNW2 := Lib.hid (vNew_at k La aa 1 w2 hbka (by omega) (by omega))
  have HNA := Lib.hid hna
  have HINA := Lib.hid hina
  clear hna hina hbka HNW
  go_wp2_with fail
  refine (HNW2.out _ rfl).mono ?_
  rintro _ w3 ⟨Vb, rfl, hnb⟩
  have HLS := Lib.hid (show AgSt w Va Vb 0 0 w3 from ⟨_, _, RunOk.new, (LSt2.start HB1.out HKN.out HKL.out HNA.out HINA.out hnb).more (show aa + 48 ≤ 200 + 200 * 0 + 0 by omega), fun b hb => .inl hb⟩)
  have hka := HNA.out.kk
  clear hnb HNA HINA HNW2 HB1 HKN HKL
  subst hka
  have HBR0 := Lib.hid (show Calls Tryz.prog 13 #[.int .i64 t, .int .i64 41] w3 fun e w' => e = .returned (.int .i64 (at_ : Int)) ∧ w3 = w' from HBT.out w3)
  clear HBT
  go_wp2_with fail
  refine HBR0.out.mono ?_
  rintro _ _ ⟨rfl, rfl⟩
  clear HBR0
  go_wp2_with fail
  go_loopw [10, 12] (fun bv iv wr => ∃ (i : Nat) (Vb : VLoc), i ≤ n ∧ i ≤ 40 ∧ bv = .pointer (some ⟨Vb.g, 0, none⟩) ∧ iv = .int .i64 i ∧ AgSt w Va Vb i 0 wr) (fun _ iv _ => n - (intOf iv).toNat)
  case atStart => exact ⟨0, Vb, by omega, by omega, rfl, rfl, HLS.out⟩
  case round =>
    clear HLS
    obtain ⟨i, Vb, hi, hi60, rfl, rfl, hst⟩ := hrel
    have HST := Lib.hid hst
    clear hst
    go_upto_region 10 with fail
    go_cut [54] (fun s54 wx => s54 = .bool (decide (i < n ∧ i < 40)) ∧ wx = wr)
    case first =>
      by_cases hin : i < n
      · go_wp2_with fail
        go_meet
        exact ⟨by simp [hin]; omega, rfl⟩
      · go_wp2_with fail
        go_meet
        exact ⟨by simp [hin], rfl⟩
    case rest =>
      obtain ⟨rfl, rfl⟩ := hcut
      by_cases hlt : i < n ∧ i < 40
      · rw [decide_eq_true hlt]
        go_upto_if 59 with (fail)
        go_cut [10] (fun bv wx => ∃ V : VLoc, bv = .pointer (some ⟨V.g, 0, none⟩) ∧ AgSt w Va V i 100 wx)
        case first =>
          by_cases hia : i = at_
          · have hiab : ((i : Int) == (at_ : Int)) = true := by simp [hia]
            obtain ⟨N, m, hrun, hls, hN⟩ := HST.out.ex
            obtain ⟨L, a', hbk, ha', hin, _⟩ := hls.book
            have hok := hrun.ok
            have HRUN := Lib.hid hrun
            have HL := Lib.hid hls
            have HN := Lib.hid hN
            have HLV := Lib.hid (vLeaves_any wc Vb N m hls.vatb)
            have HBK := Lib.hid hbk
            have HIN := Lib.hid hin
            have HOL := Lib.hid (openV_leaves hok)
            have HLD := Lib.hid (loadV_bytes hok)
            have hlen := leavesV_len m
            have hbl : ∀ x, x ∈ leavesV m → x.length ≤ 120 := fun x hx => by
              obtain ⟨i, _, rfl⟩ := List.mem_map.1 hx
              exact leafV_len hok i
            have hfl := flatB_le _ hbl
            rw [hlen] at hfl
            have HFL := Lib.hid (show (bytesV m).length ≤ 128 * 13 from hfl)
            have HLN := Lib.hid hlen
            have HBL := Lib.hid hbl
            have ha2 : a' ≤ 200 + 200 * i := by omega
            clear hrun hls hN hbk hin hok hlen hbl hfl ha' hia
            unfold LvPost at HLV
            go_wp2_with fail
            refine HLV.out.mono ?_
            rintro _ w4 ⟨v, vs, rfl, how, hb4⟩
            obtain ⟨A4, c4, hv4, hc4, hrows⟩ := how.rowsC
            rw [HLN.out] at hv4 hrows
            subst hv4
            have hs4 := hb4.size
            have HL4 := Lib.hid (HL.out.below hb4)
            have HOP := Lib.hid (vOpen_any Va.k L a' A4 13 c4 (leavesV m) w4 (HBK.out.below hb4) (by omega) hrows (by omega) (fun x hx => by have := HBL.out x hx; omega))
            rw [HOL.out] at HOP
            clear how hb4 hc4 hrows HLV HL
            go_wp2_with fail
            refine HOP.out.mono ?_
            rintro _ w5 ⟨_, hso⟩
            obtain ⟨V1, rfl, hn1⟩ := hso m rfl
            have HL5 := Lib.hid (HL4.out.again HN.out hn1 HIN.out)
            have HV5 := Lib.hid (HL4.out.stands hn1)
            obtain ⟨L5, a5, hbk5, ha5, hsub5, _⟩ := hn1.book
            have HBK5 := Lib.hid hbk5
            have HIN5 := Lib.hid (HIN.out.more hsub5)
            clear hso hn1 hbk5 hsub5 HOP HL4 HIN
            cases bb with
            | false =>
              have HFIN := Lib.hid (show AgSt w Va V1 i 100 w5 from ⟨_, m, HRUN.out, HL5.out.more (by omega), fun b hb => .inl hb⟩)
              go_wp2_with fail
              go_meet
              exact ⟨V1, rfl, HFIN.out⟩
            | true =>
              have HBY := Lib.hid (vBytes_any w5 Vb N m HV5.out)
              unfold BytesPost at HBY
              go_wp2_with fail
              refine HBY.out.mono ?_
              rintro _ w6 ⟨v, rfl, ho6, hb6⟩
              obtain ⟨A6, c6, hv6, hc6, _, hr6, _⟩ := own_slice_b ho6
              subst hv6
              have HL6 := Lib.hid (HL5.out.below hb6)
              have HLO := Lib.hid (vLoad_any Va.k L5 a5 A6 (bytesV m).length c6 (bytesV m) w6 (HBK5.out.below hb6) (by omega) hr6 hc6 (by have := HFL.out; omega))
              rw [HLD.out] at HLO
              obtain ⟨n6, hn6⟩ : ∃ k, k = (bytesV m).length := ⟨_, rfl⟩
              rw [← hn6] at HLO ⊢
              have HLO2 := Lib.hid (show Calls Tryz.prog 34 #[.pointer (some ⟨Va.k.g, 0, none⟩), .slice A6 n6 c6] w6 (LoadPost w6 Va.k L5 a5 (some m) 0) from HLO.out)
              clear ho6 hb6 hc6 hr6 HBY HL5 HV5 HLO hn6
              go_wp2_with fail
              refine HLO2.out.mono ?_
              rintro _ w7 ⟨_, hso⟩
              obtain ⟨V2, rfl, hn2⟩ := hso m rfl
              have HL7 := Lib.hid (HL6.out.again (fun b hb => .inl hb) hn2 HIN5.out)
              have HFIN := Lib.hid (show AgSt w Va V2 i 100 w7 from ⟨_, m, HRUN.out, HL7.out.more (by omega), fun b hb => .inl hb⟩)
              clear hso hn2 HLO2 HL6 HL7
              go_wp2_with fail
              go_meet
              exact ⟨V2, rfl, HFIN.out⟩
          · have hiab : ((i : Int) == (at_ : Int)) = false := by rw [beq_eq_false_iff_ne]; omega
            have HFIN := Lib.hid (show AgSt w Va Vb i 100 wc from by
              obtain ⟨N, m, h1, h2, h3⟩ := HST.out.ex
              exact ⟨N, m, h1, h2.more (by omega), h3⟩)
            go_wp2_with fail
            go_meet
            exact ⟨Vb, rfl, HFIN.out⟩
        case rest =>
          clear HST
          obtain ⟨Vb, rfl, hst⟩ := hcut
          obtain ⟨N, m, hrun, hls, hN⟩ := hst.ex
          have HRUN := Lib.hid hrun
          have HL := Lib.hid hls
          have HN := Lib.hid hN
          clear hst hrun hls hN
          obtain ⟨ad, hA, hadb, hcell⟩ := HR.out.2 (by omega)
          subst hA
          have hxi : i < xs.length := by have := HXL.out; omega
          obtain ⟨z, hz⟩ : ∃ z, z = xs[i] := ⟨_, rfl⟩
          have hzb : -9223372036854775808 ≤ z ∧ z ≤ 9223372036854775807 := by rw [hz]; exact HXS.out _ (List.getElem_mem hxi)
          have hcz := hcell i (.int .i64 z) (by rw [List.getElem?_map, List.getElem?_eq_getElem hxi, hz]; rfl)
          have CZ := Lib.hid (fun (W : World) (hb : Below w.heap.size w W) => (hb.cell (show (ad.add i).block < w.heap.size by rw [block_of_add]; omega)).trans hcz)
          have hz1 := hzb.1
          have hz2 := hzb.2
          have hcz2 := CZ.out wc HL.out.low
          have hlow := (HL.out.low).size
          have hiI : (i : Int) < (n : Int) := by omega
          have h0I : (0 : Int) ≤ (i : Int) := by omega
          clear hcell hzb hcz hz
          obtain ⟨x, hx⟩ : ∃ x, x = wishV m.epoch z ((i + 1 : Nat) : Int) := ⟨_, rfl⟩
          have HWI := Lib.hid (fun (s : Int) (hs : s = ((i + 1 : Nat) : Int)) => (show Calls Tryz.prog 15 #[.pointer (some ⟨Va.g, 0, none⟩), .int .i64 z, .int .i64 s] wc (WishPost wc x) from hs ▸ hx ▸ vwish_any wc Va _ m HL.out.vata z ((i + 1 : Nat) : Int) hz1 hz2 (by omega) (by omega)))
          have hstep := HRUN.out.step z (k := i + 1) (by omega) (by omega)
          rw [← hx] at hstep
          obtain ⟨p, hp⟩ : ∃ p, p = doV m x := ⟨_, rfl⟩
          rw [← hp] at hstep
          have hdl : p.2.1.data.length ≤ 16 := by rw [hp]; exact doV_len HRUN.out.ok x
          have HP := Lib.hid hp
          have HSTEP := Lib.hid hstep
          have HMUT := Lib.hid HL.out.both
          clear hx hstep hp HRUN
          go_wp2_with fail
          refine (HWI.out _ (by omega)).mono ?_
          rintro _ w4 ⟨Ax, qx, Ay, qy, rfl, hwi, hAx, hAy, hb4⟩
          have HL4 := Lib.hid (HL.out.below hb4)
          have HWIN := Lib.hid hwi
          have HAX := Lib.hid hAx
          have HAY := Lib.hid hAy
          have hs4 := hb4.size
          obtain ⟨dl, hdle⟩ : ∃ k, k = x.data.length := ⟨_, rfl⟩
          obtain ⟨nl, hnle⟩ : ∃ k, k = x.next.length := ⟨_, rfl⟩
          rw [← hdle, ← hnle] at HWIN ⊢
          clear hwi hAx hAy hb4 hcz2 HL HWI hdle hnle
          go_upto_region 23 with (refine wpList_store_part (o := ⟨none, _, _, _, _, _⟩) rfl 37 (.tmp 17) (.tmp 91) rfl w4.heap.size 0 (wCells x Ax dl qx Ay nl qy) rfl rfl 37 (wCells zeroW none 0 0 none 0 0) (Blk.newAt rfl) (wCells_info _ _ _ _ _ _ _) (by simp [wCells]) (wCells_one _ _ _ _ _ _ _) ?_; intro w5 hT5 hD5; rw [wC_spl] at hD5)
          have hb5 : Below w4.heap.size w4 w5 := hT5.below ((Below.refl _ _).alloc (Nat.le_refl _) _) (Nat.le_refl _)
          have hs5 := hb5.size
          have HL5 := Lib.hid (HL4.out.below hb5)
          have HWIN5 := Lib.hid ((HWIN.out.below hb5).more hs5)
          obtain ⟨g6, hg6⟩ : ∃ g, g = w4.heap.size := ⟨_, rfl⟩
          rw [← hg6] at hD5 ⊢
          have HGK6 := Lib.hid (show ¬ Both Va Vb g6 from fun hv => by have := HMUT.out _ hv; omega)
          have HGRX := Lib.hid (show ∀ a, Ax = some a → ¬ Both Va Vb a.block from fun a ha hv => by have := HAX.out a ha; have := HMUT.out _ hv; omega)
          have HGRY := Lib.hid (show ∀ a, Ay = some a → ¬ Both Va Vb a.block from fun a ha hv => by have := HAY.out a ha; have := HMUT.out _ hv; omega)
          have HNOX := Lib.hid (show ∀ ad, 0 < dl → Ax = some ad → ad.block ≠ Va.g from fun ad h0 ha he => HGRX.out ad ha (he ▸ .inl (.inl rfl)))
          have HNOX2 := Lib.hid (show ∀ ad, 0 < dl → Ax = some ad → ad.block ≠ Vb.g from fun ad h0 ha he => HGRX.out ad ha (he ▸ .inr (.inl rfl)))
          have HDO := Lib.hid (HL5.out.do_ (by omega) x Ax dl qx Ay nl qy w5.heap.size HWIN5.out (Nat.le_refl _) HNOX.out)
          rw [← HP.out] at HDO
          have K6_1 := Lib.hid (hD5)
          have RX_2 := Lib.hid (HWIN5.out.data)
          have RY_3 := Lib.hid (HWIN5.out.next)
          have HWI0 := Lib.hid (fun (W : World) (h1 : Reads W W.heap.size 1 Ax dl (x.data.map vb)) (h2 : Reads W W.heap.size 1 Ay nl (x.next.map vn)) => (⟨h1, HWIN5.out.dc, HWIN5.out.dm, h2, HWIN5.out.nc, HWIN5.out.nm, HWIN5.out.rng⟩ : WishIn W W.heap.size x Ax dl qx Ay nl qy))
          clear hT5 hb5 hD5 HL4 hg6 HWIN HWIN5
          go_wp2_with (refine wpList_load_part (o := ⟨some 94, _, _, _, _, _⟩) rfl 37 (.tmp 17) rfl g6 0 10 rfl 37 _ (wCells x Ax dl qx Ay nl qy) _ K6_1.out Tryz.underlying37 rfl rfl rfl (fun _ _ => by rw [Nat.zero_add]; try rfl) ?_)
          refine HDO.out.mono ?_
          rintro _ w6 ⟨A3, q3, rfl, ho3, hl6, hon⟩
          have HL6 := Lib.hid hl6
          have hs6 := hon.size
          obtain ⟨q31, q32, q33, q34, q35⟩ := ho3.reads
          have HGRA := Lib.hid (show ∀ a, A3 = some a → ¬ Both Va Vb a.block from fun a ha hv => by have := q35 a ha; have := HMUT.out _ hv; omega)
          have K6_4 := Lib.hid (((hon.botha : Only (Both Va Vb) w5 w6)).blk K6_1.out HGK6.out)
          have RX_5 := Lib.hid (((hon.botha : Only (Both Va Vb) w5 w6)).reads RX_2.out (fun a _ ha => HGRX.out a ha))
          have RY_6 := Lib.hid (((hon.botha : Only (Both Va Vb) w5 w6)).reads RY_3.out (fun a _ ha => HGRY.out a ha))
          clear K6_1 RX_2 RY_3 
          have RA_7 := Lib.hid (q34)
          obtain ⟨er, her⟩ : ∃ e, e = p.2.1.err := ⟨_, rfl⟩
          obtain ⟨al, hal⟩ : ∃ e, e = p.2.1.data.length := ⟨_, rfl⟩
          obtain ⟨pe, hpe⟩ : ∃ e, e = p.2.1.epoch := ⟨_, rfl⟩
          have HER := Lib.hid her
          have HAL := Lib.hid hal
          have HPE := Lib.hid hpe
          have h00 : ((p.2.2 : Nat) : Int) = 0 := by rw [HSTEP.out.1]; rfl
          have H00 := Lib.hid h00
          rw [h00, ← her, ← hal, ← hpe]
          rw [← hal] at RA_7 hdl
          clear hl6 ho3 hon HDO HL5 q31 q32 q33 q34 q35 her hal hpe h00
          go_upto_region 24 with (refine wpList_store_part (o := ⟨none, _, _, _, _, _⟩) rfl 33 (.tmp 18) (.tmp 96) rfl w6.heap.size 0 (aC er A3 al q3 pe) rfl rfl 33 (aC 0 none 0 0 0) (Blk.newAt rfl) (aC_info _ _ _ _ _) (by simp [aC]) (aC_one _ _ _ _ _) ?_; intro w7 hT hD3; rw [aC_spl] at hD3)
          have hb : Below w6.heap.size w6 w7 := hT.below ((Below.refl _ _).alloc (Nat.le_refl _) _) (Nat.le_refl _)
          have hs_w7 := hb.size
          have HL7 := Lib.hid (HL6.out.below hb)
          obtain ⟨g7, hg⟩ : ∃ g, g = w6.heap.size := ⟨_, rfl⟩
          rw [← hg] at hD3 ⊢
          have HGK7 := Lib.hid (show ¬ Both Va Vb g7 from fun hv => by have := HMUT.out _ hv; omega)
          have K6_8 := Lib.hid (((Only.of_below hb : Only (Both Va Vb) w6 w7)).blk K6_4.out HGK6.out)
          have RX_9 := Lib.hid (((Only.of_below hb : Only (Both Va Vb) w6 w7)).reads RX_5.out (fun a _ ha => HGRX.out a ha))
          have RY_10 := Lib.hid (((Only.of_below hb : Only (Both Va Vb) w6 w7)).reads RY_6.out (fun a _ ha => HGRY.out a ha))
          have RA_11 := Lib.hid (((Only.of_below hb : Only (Both Va Vb) w6 w7)).reads RA_7.out (fun a _ ha => HGRA.out a ha))
          clear K6_4 RX_5 RY_6 RA_7 
          have K7_12 := Lib.hid (hD3)
          clear hT hb hg hD3 HL6
          have HDB := Lib.hid (HL7.out.swap.do_ (by omega) x Ax dl qx Ay nl qy w7.heap.size (HWI0.out w7 RX_9.out RY_10.out) (Nat.le_refl _) HNOX2.out)
          rw [← HP.out] at HDB
          unfold DidP2 at HDB
          rw [← HER.out, ← HAL.out, ← HPE.out, H00.out] at HDB
          go_wp2_with (refine wpList_load_part (o := ⟨some 100, _, _, _, _, _⟩) rfl 37 (.tmp 17) rfl g6 0 10 rfl 37 _ (wCells x Ax dl qx Ay nl qy) _ K6_8.out Tryz.underlying37 rfl rfl rfl (fun _ _ => by rw [Nat.zero_add]; try rfl) ?_)
          refine HDB.out.mono ?_
          rintro _ w8 ⟨A5, q5, rfl, ho5, hl8, hon⟩
          have HL8 := Lib.hid hl8.swap
          have hs8 := hon.size
          obtain ⟨q51, q52, q53, q54, q55⟩ := ho5.reads
          have HGRB := Lib.hid (show ∀ a, A5 = some a → ¬ Both Va Vb a.block from fun a ha hv => by have := q55 a ha; have := HMUT.out _ hv; omega)
          have K6_13 := Lib.hid (((hon.bothb : Only (Both Va Vb) w7 w8)).blk K6_8.out HGK6.out)
          have K7_14 := Lib.hid (((hon.bothb : Only (Both Va Vb) w7 w8)).blk K7_12.out HGK7.out)
          have RX_15 := Lib.hid (((hon.bothb : Only (Both Va Vb) w7 w8)).reads RX_9.out (fun a _ ha => HGRX.out a ha))
          have RY_16 := Lib.hid (((hon.bothb : Only (Both Va Vb) w7 w8)).reads RY_10.out (fun a _ ha => HGRY.out a ha))
          have RA_17 := Lib.hid (((hon.bothb : Only (Both Va Vb) w7 w8)).reads RA_11.out (fun a _ ha => HGRA.out a ha))
          clear K6_8 K7_12 RX_9 RY_10 RA_11 HL7 HDB
          have RB_18 := Lib.hid (q54)
          clear hl8 ho5 hon q51 q52 q53 q54 q55
          go_upto_region 25 with (refine wpList_store_part (o := ⟨none, _, _, _, _, _⟩) rfl 33 (.tmp 20) (.tmp 102) rfl w8.heap.size 0 (aC er A5 al q5 pe) rfl rfl 33 (aC 0 none 0 0 0) (Blk.newAt rfl) (aC_info _ _ _ _ _) (by simp [aC]) (aC_one _ _ _ _ _) ?_; intro w9 hT hD3; rw [aC_spl] at hD3)
          have hb : Below w8.heap.size w8 w9 := hT.below ((Below.refl _ _).alloc (Nat.le_refl _) _) (Nat.le_refl _)
          have hs_w9 := hb.size
          have HL9 := Lib.hid (HL8.out.below hb)
          obtain ⟨g9, hg⟩ : ∃ g, g = w8.heap.size := ⟨_, rfl⟩
          rw [← hg] at hD3 ⊢
          have HGK9 := Lib.hid (show ¬ Both Va Vb g9 from fun hv => by have := HMUT.out _ hv; omega)
          have K6_19 := Lib.hid (((Only.of_below hb : Only (Both Va Vb) w8 w9)).blk K6_13.out HGK6.out)
          have K7_20 := Lib.hid (((Only.of_below hb : Only (Both Va Vb) w8 w9)).blk K7_14.out HGK7.out)
          have RX_21 := Lib.hid (((Only.of_below hb : Only (Both Va Vb) w8 w9)).reads RX_15.out (fun a _ ha => HGRX.out a ha))
          have RY_22 := Lib.hid (((Only.of_below hb : Only (Both Va Vb) w8 w9)).reads RY_16.out (fun a _ ha => HGRY.out a ha))
          have RA_23 := Lib.hid (((Only.of_below hb : Only (Both Va Vb) w8 w9)).reads RA_17.out (fun a _ ha => HGRA.out a ha))
          have RB_24 := Lib.hid (((Only.of_below hb : Only (Both Va Vb) w8 w9)).reads RB_18.out (fun a _ ha => HGRB.out a ha))
          clear K6_13 K7_14 RX_15 RY_16 RA_17 RB_18 
          have K9_25 := Lib.hid (hD3)
          clear hT hb hg hD3 HL8
          have HSA := Lib.hid (sameAnswer_any (er : Int) (er : Int) pe pe A3 al q3 none 0 0 A5 al q5 none 0 0 p.2.1.data p.2.1.data [] [] w9 w9.heap.size RA_23.out Reads.none_ RB_24.out Reads.none_ (Nat.le_refl _) (by unfold maxLen; omega) (by unfold maxLen; omega) (by unfold maxLen; omega) (by unfold maxLen; omega))
          rw [decide_eq_true ⟨rfl, rfl, rfl, rfl⟩] at HSA
          have HL90 := Lib.hid HL9.out
          clear HL9
          go_wp2_with (first
            | (refine wpList_load_guarded (o := ⟨some 108, _, _, _, _, _⟩) rfl 33 (.tmp 18) rfl g7 0 4 rfl 33 _ (anC (er : Int) A3 al q3 pe none 0 0) _ K7_20.out Tryz.underlying33 rfl rfl rfl (fun _ _ => by rw [Nat.zero_add]; try rfl) ?_)
            | (refine wpList_load_guarded (o := ⟨some 109, _, _, _, _, _⟩) rfl 33 (.tmp 20) rfl g9 0 4 rfl 33 _ (anC (er : Int) A5 al q5 pe none 0 0) _ K9_25.out Tryz.underlying33 rfl rfl rfl (fun _ _ => by rw [Nat.zero_add]; try rfl) ?_))
          refine HSA.out.mono ?_
          rintro _ wd ⟨rfl, hbd⟩
          have hsd := hbd.size
          have HLD := Lib.hid (HL90.out.below hbd)
          clear hbd HL90 HSA K6_19 K7_20 K9_25 RX_21 RY_22 RA_23 RB_24
          have hcz3 := CZ.out wd HLD.out.low
          have hbr := bring_any (z / 4096) 2 (by omega) (by unfold maxLen; omega) (by omega) (by omega) wd
          have HBR := Lib.hid (show Calls Tryz.prog 13 #[.int .i64 (z / 4096), .int .i64 2] wd fun e w' => e = .returned (.int .i64 (bringF (z / 4096) 2 : Int)) ∧ wd = w' from hbr)
          have HTN := Lib.hid (HLD.out.turn_ (by omega))
          obtain ⟨bq, hbq⟩ : ∃ k, k = bringF (z / 4096) 2 := ⟨_, rfl⟩
          rw [← hbq] at HBR
          clear hbr hbq
          go_upto_region 27 with fail
          go_wp2_with fail
          refine HBR.out.mono ?_
          rintro _ _ ⟨rfl, rfl⟩
          by_cases hb0 : bq = 0
          · have hbb : ((bq : Int) == 0) = true := by simp [hb0]
            obtain ⟨tn_, htn⟩ : ∃ k, k = (turnV p.1).2 := ⟨_, rfl⟩
            rw [← htn] at HTN
            have HTNE := Lib.hid htn
            clear htn
            go_wp2_with fail
            refine HTN.out.mono ?_
            rintro _ wt ⟨rfl, hlt2, hont⟩
            have HLT := Lib.hid hlt2
            have HTB := Lib.hid (hlt2.swap.turn_ (by omega))
            rw [← HTNE.out] at HTB
            clear hlt2 hont HTN HLD
            go_wp2_with fail
            refine HTB.out.mono ?_
            rintro _ wu ⟨rfl, hlt3, hont⟩
            have HFIN := Lib.hid (show AgSt w Va Vb (i + 1) 0 wu from ⟨N, _, HSTEP.out.2.turn.more (by omega) (by omega), hlt3.swap.more (by omega), HN.out⟩)
            clear hlt3 hont HTB HLT
            go_wp2_with fail
            go_roundw
            case rel => exact ⟨i + 1, Vb, by omega, by omega, rfl, by go_num, HFIN.out⟩
            case measure => simp [intOf]; omega
          · have hbb : ((bq : Int) == 0) = false := by simpa using hb0
            have HFIN := Lib.hid (show AgSt w Va Vb (i + 1) 0 wd from ⟨N, _, HSTEP.out.2.more (by omega) (by omega), HLD.out.more (by omega), HN.out⟩)
            go_wp2_with fail
            go_roundw
            case rel => exact ⟨i + 1, Vb, by omega, by omega, rfl, by go_num, HFIN.out⟩
            case measure => simp [intOf]; omega
      · rw [decide_eq_false hlt]
        clear hlt
        obtain ⟨N, m, hrun, hls, hN⟩ := HST.out.ex
        have HL := Lib.hid hls
        have hln := leavesV_len m
        have HLN := Lib.hid hln
        have HRL := Lib.hid (show (rootL (leavesV m)).length = 32 from (lv_one (leavesV m) (by omega) (by omega)).2)
        have HRTA := Lib.hid (vrootL_any wc Va N m hls.vata)
        have HRTB := Lib.hid (fun (W : World) (h : VAt W Vb N m) => vrootL_any W Vb N m h)
        unfold RootPost at HRTA HRTB
        have hds : (bRow (rootL (leavesV m))).size = 32 := bRow_size32 HRL.out
        have hdo := bRow_one (rootL (leavesV m))
        have HEQ := Lib.hid (fun (W : World) => eql_digest (rootL (leavesV m)) (rootL (leavesV m)) HRL.out HRL.out W)
        rw [show (rootL (leavesV m) == rootL (leavesV m)) = true by simp] at HEQ
        obtain ⟨D, hD⟩ : ∃ D, D = bRow (rootL (leavesV m)) := ⟨_, rfl⟩
        rw [← hD] at HRTA HRTB hds hdo HEQ
        have HDS := Lib.hid hds
        have HDO := Lib.hid hdo
        have HZ := Lib.hid treeZ_eq
        have HZS := Lib.hid (show inkZ.size = 32 by simp [inkZ, bRow])
        have HOK := Lib.hid hrun.ok
        clear hds hdo hD hln hrun hls hN HST
        go_wp2_with fail
        refine HRTA.out.mono ?_
        rintro _ w8 ⟨rfl, hb8⟩
        have hs8 := hb8.size
        have HL8 := Lib.hid (HL.out.below hb8)
        clear hb8 HL HRTA
        go_upto_region 30 with (refine wpList_store_part (o := ⟨none, _, _, _, _, _⟩) rfl 56 (.tmp 22) (.tmp 130) rfl w8.heap.size 0 D rfl rfl 56 inkZ (by rw [HZ.out]; exact Blk.newAt rfl) (by rw [HDS.out]; rfl) (by rw [HDS.out, HZS.out]; omega) HDO.out ?_; intro w9 hT hD3; rw [spl_self _ _ (by rw [HDS.out, HZS.out])] at hD3)
        have hb : Below w8.heap.size w8 w9 := hT.below ((Below.refl _ _).alloc (Nat.le_refl _) _) (Nat.le_refl _)
        have hs_w9 := hb.size
        have HL9 := Lib.hid (HL8.out.below hb)
        obtain ⟨g22, hg⟩ : ∃ g, g = w8.heap.size := ⟨_, rfl⟩
        rw [← hg] at hD3 ⊢
        have K22 := Lib.hid hD3
        clear hb hT hD3 hg HL8
        go_wp2_with fail
        refine (HRTB.out w9 HL9.out.vatb).mono ?_
        rintro _ w10 ⟨rfl, hb10⟩
        have hs10 := hb10.size
        have HL10 := Lib.hid (HL9.out.below hb10)
        have K22b := Lib.hid (K22.out.below' hb10)
        clear hb10 HL9 HRTB K22
        go_upto_region 31 with (refine wpList_store_part (o := ⟨none, _, _, _, _, _⟩) rfl 56 (.tmp 24) (.tmp 135) rfl w10.heap.size 0 D rfl rfl 56 inkZ (by rw [HZ.out]; exact Blk.newAt rfl) (by rw [HDS.out]; rfl) (by rw [HDS.out, HZS.out]; omega) HDO.out ?_; intro w11 hT hD3; rw [spl_self _ _ (by rw [HDS.out, HZS.out])] at hD3)
        have hb : Below w10.heap.size w10 w11 := hT.below ((Below.refl _ _).alloc (Nat.le_refl _) _) (Nat.le_refl _)
        have hs_w11 := hb.size
        have HL11 := Lib.hid (HL10.out.below hb)
        obtain ⟨g24, hg⟩ : ∃ g, g = w10.heap.size := ⟨_, rfl⟩
        rw [← hg] at hD3 ⊢
        have K24 := Lib.hid hD3
        have K22 := Lib.hid (K22b.out.below' hb)
        clear hb hT hD3 hg HL10 K22b
        have HLVA := Lib.hid (vLeaves_any w11 Va N m HL11.out.vata)
        have HML := Lib.hid (show ∀ x, x ∈ leavesV m → x.length ≤ maxLen from fun x hx => by obtain ⟨i, _, rfl⟩ := List.mem_map.1 hx; have := leafV_len HOK.out i; unfold maxLen; omega)
        have hs11 := HL11.out.low.size
        unfold LvPost at HLVA
        go_wp2_with (first
          | (refine wpList_load_guarded (o := ⟨some 142, _, _, _, _, _⟩) rfl 56 (.tmp 22) rfl g22 0 32 rfl 56 _ D _ K22.out Tryz.underlying56 rfl rfl HDS.out (fun _ _ => by rw [Nat.zero_add]; try rfl) ?_)
          | (refine wpList_load_guarded (o := ⟨some 143, _, _, _, _, _⟩) rfl 56 (.tmp 24) rfl g24 0 32 rfl 56 _ D _ K24.out Tryz.underlying56 rfl rfl HDS.out (fun _ _ => by rw [Nat.zero_add]; try rfl) ?_)
          | (refine wpList_exec_want (o := ⟨some 144, _, _, _, _, _⟩) rfl (.bool true) (exec_eql_agg 56 (.tmp 142) (.tmp 143) _ rfl D D rfl rfl eqg_digest _ (HEQ.out _)) ?_))
        refine HLVA.out.mono ?_
        rintro _ w12 ⟨v, vs, rfl, how, hb12⟩
        obtain ⟨A5, c5, hv5, _, _, hr5, _⟩ := how.slice
        rw [HLN.out] at hv5 hr5
        subst hv5
        have HL12 := Lib.hid (HL11.out.below hb12)
        have HR5 := Lib.hid hr5
        have hs12 := hb12.size
        have HLVB := Lib.hid (vLeaves_any w12 Vb N m HL12.out.vatb)
        unfold LvPost at HLVB
        clear how hb12 hr5 HL11 HLVA K22 K24
        go_wp2_with fail
        refine HLVB.out.mono ?_
        rintro _ w13 ⟨v, vs, rfl, how, hb13⟩
        obtain ⟨A6, c6, hv6, _, _, hr6, _⟩ := how.slice
        rw [HLN.out] at hv6 hr6
        subst hv6
        have HL13 := Lib.hid (HL12.out.below hb13)
        have hs13 := hb13.size
        have HSL := Lib.hid (sameLeaves_any A5 A6 13 c5 13 c6 (leavesV m) (leavesV m) w13 w13.heap.size ((HR5.out.below hb13).more hs13) hr6 (Nat.le_refl _) (by omega) (by omega) HML.out HML.out)
        rw [decide_eq_true rfl] at HSL
        clear how hb13 hr6 HL12 HLVB HR5
        go_wp2_with fail
        refine HSL.out.mono ?_
        rintro _ w14 ⟨rfl, hb14⟩
        have HL14 := Lib.hid (HL13.out.below hb14)
        have HEA := Lib.hid (vEpoch_any w14 Va N m HL14.out.vata)
        have HEB := Lib.hid (vEpoch_any w14 Vb N m HL14.out.vatb)
        obtain ⟨me, hme⟩ : ∃ k, k = m.epoch := ⟨_, rfl⟩
        rw [← hme] at HEA HEB
        clear hme hb14 HL13 HSL
        go_wp2_with fail
        refine HEA.out.mono ?_
        rintro _ _ ⟨rfl, rfl⟩
        go_wp2_with fail
        refine HEB.out.mono ?_
        rintro _ _ ⟨rfl, rfl⟩
        go_wp2_with fail
        go_ret
        exact ⟨rfl, HL14.out.low⟩

end Go.Proofs.YtfjopbbgcjgpbaaGreat
