/-
  VaultSealed: the law's walk.
-/
import Derived.Test.YtfjopbbgcjgpbaaGreatZ18
import Derived.Deep.DeepCutAuto
namespace Go.Proofs.YtfjopbbgcjgpbaaGreat
set_option linter.unusedVariables false
open Go.RowKit Go.Maps

attribute [local irreducible] wpList wpCalm
structure SeSt (w0 : World) (V : VLoc) (i : Nat) (W : World) : Prop where
  ex : ∃ m, RunOk m 0 i ∧ m.shut = [] ∧ LSt w0 V V.all m (48 + 10 * i) W

set_option maxRecDepth 100000 in
set_option maxHeartbeats 16000000 in
theorem vaultSealed_law (A : Option Addr) (n c : Nat) (xs : List Int) (A2 : Option Addr) (n2 c2 : Nat) (xs2 : List Int) (w : World) (hr : Reads w w.heap.size 1 A n (xs.map vn)) (hxs : ∀ z, z ∈ xs → -9223372036854775808 ≤ z ∧ z ≤ 9223372036854775807) (hn : n ≤ 1000000000000000000) (hr2 : Reads w w.heap.size 1 A2 n2 (xs2.map vn)) (hxs2 : ∀ z, z ∈ xs2 → -9223372036854775808 ≤ z ∧ z ≤ 9223372036854775807) (hn2 : n2 ≤ 1000000000000000000) :
    Calls Tryz.prog 3 #[.slice A n c, .slice A2 n2 c2] w fun e w' => e = .returned (.bool true) ∧ Below w.heap.size w w' := by
  have hxl : xs.length = n := by have := hr.1; simpa using this
  have HR := Lib.hid hr
  have HXS := Lib.hid hxs
  have HXL := Lib.hid hxl
  clear hr hxs hxl
  have hxl2 : xs2.length = n2 := by have := hr2.1; simpa using this
  have HR2 := Lib.hid hr2
  have HXS2 := Lib.hid hxs2
  have HXL2 := Lib.hid hxl2
  clear hr2 hxs2 hxl2
  go_enter Tryz.func3, Tryz.ntmps3
  go_wp2_with fail
  refine (vworks_any w).mono ?_
  rintro _ wa ⟨rfl, hba⟩
  have HBA := Lib.hid hba
  clear hba
  go_wp2_with fail
  refine (inkNew_any wa).mono ?_
  rintro _ w1 ⟨k, rfl, hbk, hkn, hb1⟩
  have hsa := HBA.out.size
  have HNW := Lib.hid (vNew_at k [] 0 1 w1 hbk (by omega) (by omega))
  have HB1 := Lib.hid (HBA.out.trans (hb1.mono hsa))
  have HKN := Lib.hid (show w.heap.size ≤ k.g ∧ w.heap.size ≤ k.b1 ∧ w.heap.size ≤ k.b2 by omega)
  clear hb1 hkn hbk HBA
  go_wp2_with fail
  refine (HNW.out _ rfl).mono ?_
  rintro _ w2 ⟨V, rfl, hna⟩
  have hkk := hna.kk
  subst hkk
  have HLS := Lib.hid (LSt.start HB1.out HKN.out hna)
  clear hna HNW HB1
  go_wp2_with fail
  go_loopw [7] (fun iv wr => ∃ i : Nat, i ≤ n ∧ i ≤ 20 ∧ iv = .int .i64 i ∧ SeSt w V i wr) (fun iv _ => n - (intOf iv).toNat)
  case atStart => exact ⟨0, by omega, by omega, rfl, ⟨_, RunOk.new, rfl, HLS.out.more (by omega)⟩⟩
  case round =>
    obtain ⟨i, hi, hi60, rfl, hst⟩ := hrel
    obtain ⟨m, hrun, hsh, hls⟩ := hst.ex
    have HRUN := Lib.hid hrun
    have HSH := Lib.hid hsh
    have HL := Lib.hid hls
    clear hst hrun hls hsh HLS
    go_upto_region 7 with fail
    go_cut [29] (fun s29 wx => s29 = .bool (decide (i < n ∧ i < 20)) ∧ wx = wr)
    case first =>
      by_cases hin : i < n
      · go_wp2_with fail
        go_meet
        exact ⟨by simp [hin]; omega, rfl⟩
      · go_wp2_with fail
        go_meet
        exact ⟨by simp [hin], rfl⟩
    case rest =>
      obtain ⟨rfl, rfl⟩ := hcut
      by_cases hlt : i < n ∧ i < 20
      · rw [decide_eq_true hlt]
        obtain ⟨ad, hA, hadb, hcell⟩ := HR.out.2 (by omega)
        subst hA
        have hxi : i < xs.length := by have := HXL.out; omega
        obtain ⟨z, hz⟩ : ∃ z, z = xs[i] := ⟨_, rfl⟩
        have hzb : -9223372036854775808 ≤ z ∧ z ≤ 9223372036854775807 := by rw [hz]; exact HXS.out _ (List.getElem_mem hxi)
        have hcz := hcell i (.int .i64 z) (by rw [List.getElem?_map, List.getElem?_eq_getElem hxi, hz]; rfl)
        have CZ := Lib.hid (fun (W : World) (hb : Below w.heap.size w W) => (hb.cell (show (ad.add i).block < w.heap.size by rw [block_of_add]; omega)).trans hcz)
        have hz1 := hzb.1
        have hz2 := hzb.2
        have hcz2 := CZ.out wc HL.out.low
        have hlow := (HL.out.low).size
        have hiI : (i : Int) < (n : Int) := by omega
        have h0I : (0 : Int) ≤ (i : Int) := by omega
        clear hcell hzb hcz hz
        obtain ⟨x, hx⟩ : ∃ x, x = wishV m.epoch z ((i + 1 : Nat) : Int) := ⟨_, rfl⟩
        have HWI := Lib.hid (fun (s : Int) (hs : s = ((i + 1 : Nat) : Int)) => (show Calls Tryz.prog 15 #[.pointer (some ⟨V.g, 0, none⟩), .int .i64 z, .int .i64 s] wc (WishPost wc x) from hs ▸ hx ▸ vwish_any wc V _ m HL.out.vat z ((i + 1 : Nat) : Int) hz1 hz2 (by omega) (by omega)))
        have hbr := bring_any z 12 (by omega) (by unfold maxLen; omega) hz1 hz2 wc
        have HBR := Lib.hid (show Calls Tryz.prog 13 #[.int .i64 z, .int .i64 12] wc fun e w' => e = .returned (.int .i64 (bringF z 12 : Int)) ∧ wc = w' from hbr)
        have hstep := HRUN.out.step z (k := i + 1) (by omega) (by omega)
        have hkd := wishV_kind m.epoch z ((i + 1 : Nat) : Int)
        rw [← hx] at hstep hkd
        obtain ⟨bk, hbk⟩ : ∃ b, b = bringF z 12 := ⟨_, rfl⟩
        rw [← hbk] at HBR hkd
        obtain ⟨p, hp⟩ : ∃ p, p = doV m x := ⟨_, rfl⟩
        have hshp : x.kind ≠ 5 → p.1.shut = [] := fun h => by rw [hp, doV_shut m x h]; exact HSH.out
        rw [← hp] at hstep
        have HP := Lib.hid hp
        have HSTEP := Lib.hid hstep
        have HSP := Lib.hid hshp
        have HKD := Lib.hid hkd
        have HMUT := Lib.hid HL.out.mut
        clear hx hstep hp hshp hkd hbr hbk
        go_wp2_with fail
        refine HBR.out.mono ?_
        rintro _ _ ⟨rfl, rfl⟩
        clear HBR
        by_cases hb0 : bk = 0
        · have hbb : ¬ (0 : Int) < (bk : Int) := by omega
          clear hcz2
          go_wp2_with fail
          go_roundw
          case rel => exact ⟨i + 1, by omega, by omega, by go_num, ⟨m, HRUN.out.more (by omega) (by omega), HSH.out, HL.out.more (by omega)⟩⟩
          case measure => simp [intOf]; omega
        · have hbb : (0 : Int) < (bk : Int) := by omega
          have hk5 : x.kind ≠ 5 := by
            rw [HKD.out, if_neg hb0]
            split <;> omega
          have HK5 := Lib.hid hk5
          clear hk5
          go_wp2_with fail
          refine (HWI.out _ (by omega)).mono ?_
          rintro _ w4 ⟨Ax, qx, Ay, qy, rfl, hwi, hAx, hAy, hb4⟩
          have HDO := Lib.hid ((HL.out.below hb4).do_ (by omega) x Ax x.data.length qx Ay x.next.length qy w4.heap.size hwi (Nat.le_refl _) (fun ad h0 ha => by have := hAx ad ha; have := HMUT.out V.g (.inl rfl); omega))
          rw [← HP.out] at HDO
          clear hwi hAx hAy hb4 hcz2 HL HWI
          go_wp2_with fail
          refine HDO.out.mono ?_
          rintro _ w6 ⟨A3, q3, rfl, ho3, hl6, hon⟩
          have HL6 := Lib.hid hl6
          clear ho3 hl6 hon HDO
          go_wp2_with fail
          go_roundw
          case rel => exact ⟨i + 1, by omega, by omega, by go_num, ⟨_, HSTEP.out.2, HSP.out HK5.out, HL6.out.more (by omega)⟩⟩
          case measure => simp [intOf]; omega
      · have HMUT := Lib.hid HL.out.mut
        have ht : turnV m = (m, 171) := by unfold turnV; rw [if_pos (by rw [HSH.out]; rfl)]
        have HTN := Lib.hid (HL.out.turn_ (by omega))
        rw [ht] at HTN
        simp only at HTN
        have HT2 := Lib.hid (show Calls Tryz.prog 16 #[.pointer (some ⟨V.g, 0, none⟩)] wc fun e W' => e = .returned (.int .i64 171) ∧ LSt w V V.all m (48 + 10 * i + 4) W' ∧ Only V.has wc W' from HTN.out)
        have HSD := Lib.hid (doV_seal HRUN.out HSH.out)
        have HSR := Lib.hid (sealed_run HRUN.out)
        have HSW := Lib.hid (fun (k : Nat) (h1 : i < k) (h2 : k ≤ 1000000) (z : Int) => sealed_do HRUN.out z h1 h2)
        have HSTN := Lib.hid (sealed_turn HRUN.out)
        have HT12 := Lib.hid (leaves_take12 m m.epoch 1 [1, 2, 3, 4] [])
        rw [decide_eq_false hlt]
        obtain ⟨i1, hi1⟩ : ∃ k, k = i := ⟨_, rfl⟩
        rw [← hi1] at HT2 HSW HSR hi60
        clear hlt ht HTN HL HRUN HSH hi1 hi
        go_wp2_with fail
        refine HT2.out.mono ?_
        rintro _ w4 ⟨rfl, hl4, hon⟩
        have HL4 := Lib.hid hl4
        have hs4 := hon.size
        clear hl4 hon HT2
        go_wp2_with fail
        refine (vshut_any 0 w4).mono ?_
        rintro _ w5 ⟨As, qs, rfl, hrs, hAs, hqs, hb5⟩
        have HL5 := Lib.hid (HL4.out.below hb5)
        have HDS := Lib.hid (HL5.out.does_ (by omega) (shutV 0) none 0 0 As 4 qs (shutIn hrs hqs (by unfold I64; omega)) (by intro a h0; omega) okA none 0 0 Reads.none_ (by intro a h0; omega) (by omega) _ HSD.out _ rfl)
        have HDS2 := Lib.hid (show Calls Tryz.prog 17 #[.pointer (some ⟨V.g, 0, none⟩), .agg (wCells (shutV 0) none 0 0 As 4 qs), .agg #[.int .i64 0, .slice none 0 0, .int .i64 0, .slice none 0 0]] w5 _ from HDS.out)
        obtain ⟨M, hM⟩ : ∃ M, M = sealedV m := ⟨_, rfl⟩
        rw [← hM] at HDS2 HSR HSW HSTN
        have HMS := Lib.hid hM
        have hs5 := hb5.size
        clear hrs hAs hqs hb5 HL4 HDS hM
        go_wp2_with fail
        refine HDS2.out.mono ?_
        rintro _ w6 ⟨rfl, hl6, hon⟩
        have HL6 := Lib.hid hl6
        have hs6 := hon.size
        clear hl6 hon HDS2 HL5
        go_wp2_with fail
        refine (vSealed_any w6 V V.all M HL6.out.vat).mono ?_
        rintro _ w7 ⟨v, rfl, ho7, hb7⟩
        have hMS : M.shut = [1, 2, 3, 4] := by rw [HMS.out]; rfl
        rw [hMS] at ho7
        obtain ⟨A7, c7, hv7, _, _, h73, _⟩ := own_slice_n ho7
        have hv7' : v = .slice A7 4 c7 := hv7
        subst hv7'
        have hs7 := hb7.size
        have HL7 := Lib.hid (HL6.out.below hb7)
        have hb8 := below_lit w7 (.cells #[.int .i64 1, .int .i64 2, .int .i64 3, .int .i64 4] 3)
        have hr8 := reads_cells w7 #[.int .i64 1, .int .i64 2, .int .i64 3, .int .i64 4] 3
        have HEI := Lib.hid (eqInts_any A7 (some ⟨w7.heap.size, 0, none⟩) 4 4 c7 4 [1, 2, 3, 4] [1, 2, 3, 4] (w7.alloc (.cells #[.int .i64 1, .int .i64 2, .int .i64 3, .int .i64 4] 3)) w7.heap.size (w7.heap.size + 1) (h73.below hb8) hr8 (by unfold maxLen; omega) (by unfold maxLen; omega))
        rw [decide_eq_true rfl] at HEI
        have HL8 := Lib.hid (HL7.out.below hb8)
        clear ho7 hb7 hb8 hr8 h73 hMS HL6 HL7
        go_wp2_with fail
        refine HEI.out.mono ?_
        rintro _ w9 ⟨rfl, kk, hw9⟩
        have HL9 := Lib.hid (show LSt w V V.all M (48 + 10 * i1 + 4 + 6) w9 from by rw [hw9]; exact HL8.out.below (below_drewN (Below.refl _ _) kk))
        clear hw9 HEI HL8
        go_wp2_with fail
        refine (vLeaves_any w9 V V.all M HL9.out.vat).mono ?_
        rintro _ w10 ⟨v, vs, rfl, hov, hb10⟩
        obtain ⟨A8, c8, hv8, hc13, _, _, _⟩ := hov.slice
        rw [leavesV_len] at hv8 hc13
        obtain ⟨B8, hB8⟩ : ∃ b, b = w9.heap.size := ⟨_, rfl⟩
        rw [← hB8] at hov
        subst hv8
        have HOV := Lib.hid hov
        have HL10 := Lib.hid (HL9.out.below hb10)
        have HVB := Lib.hid (show ∀ b, V.has b → b < B8 from fun b hb => by have := HL9.out.mut b hb; omega)
        have hs10 := hb10.size
        have HML := Lib.hid (show ∀ x, x ∈ leavesV M → x.length ≤ maxLen from fun x hx => by obtain ⟨i, _, rfl⟩ := List.mem_map.1 hx; have := leafV_len HSR.out.ok i; unfold maxLen; omega)
        clear hov hb10 HL9 hB8
        go_wp2_with fail
        go_loopw [9] (fun iv wr => ∃ i : Nat, i ≤ n2 ∧ i ≤ 20 ∧ iv = .int .i64 i ∧ LSt w V V.all M (300 + 10 * i) wr ∧ OwnL wr B8 (.slice A8 13 c8) (leavesV M) vs) (fun iv _ => n2 - (intOf iv).toNat)
        case atStart => exact ⟨0, by omega, by omega, rfl, HL10.out.more (by omega), HOV.out⟩
        case round =>
          obtain ⟨i, hi, hi20, rfl, hl, hov⟩ := hrel
          have HL := Lib.hid hl
          have HO := Lib.hid hov
          clear hl hov HL10 HOV
          go_upto_region 15 with fail
          go_cut [74] (fun s74 wx => s74 = .bool (decide (i < n2 ∧ i < 20)) ∧ wx = wr)
          case first =>
            by_cases hin : i < n2
            · go_wp2_with fail
              go_meet
              exact ⟨by simp [hin]; omega, rfl⟩
            · go_wp2_with fail
              go_meet
              exact ⟨by simp [hin], rfl⟩
          case rest =>
            obtain ⟨rfl, rfl⟩ := hcut
            by_cases hlt : i < n2 ∧ i < 20
            · rw [decide_eq_true hlt]
              obtain ⟨ad, hA, hadb, hcell⟩ := HR2.out.2 (by omega)
              subst hA
              have hxi : i < xs2.length := by have := HXL2.out; omega
              obtain ⟨z, hz⟩ : ∃ z, z = xs2[i] := ⟨_, rfl⟩
              have hzb : -9223372036854775808 ≤ z ∧ z ≤ 9223372036854775807 := by rw [hz]; exact HXS2.out _ (List.getElem_mem hxi)
              have hcz := hcell i (.int .i64 z) (by rw [List.getElem?_map, List.getElem?_eq_getElem hxi, hz]; rfl)
              have CZ := Lib.hid (fun (W : World) (hb : Below w.heap.size w W) => (hb.cell (show (ad.add i).block < w.heap.size by rw [block_of_add]; omega)).trans hcz)
              have hz1 := hzb.1
              have hz2 := hzb.2
              have hcz2 := CZ.out wc HL.out.low
              have hlow := (HL.out.low).size
              have hiI : (i : Int) < (n2 : Int) := by omega
              have h0I : (0 : Int) ≤ (i : Int) := by omega
              clear hcell hzb hcz hz
              obtain ⟨x, hx⟩ : ∃ x, x = wishV M.epoch z ((100 + i : Nat) : Int) := ⟨_, rfl⟩
              have HWI := Lib.hid (fun (s : Int) (hs : s = ((100 + i : Nat) : Int)) => (show Calls Tryz.prog 15 #[.pointer (some ⟨V.g, 0, none⟩), .int .i64 z, .int .i64 s] wc (WishPost wc x) from hs ▸ hx ▸ vwish_any wc V _ M HL.out.vat z ((100 + i : Nat) : Int) hz1 hz2 (by omega) (by omega)))
              have hdo := HSW.out (100 + i) (by omega) (by omega) z
              rw [← hx] at hdo
              have HDV := Lib.hid hdo
              have HMUT2 := Lib.hid HL.out.mut
              clear hdo hx
              go_wp2_with fail
              refine (HWI.out _ (by omega)).mono ?_
              rintro _ w4 ⟨Ax, qx, Ay, qy, rfl, hwi, hAx, hAy, hb4⟩
              have HLw := Lib.hid (HL.out.below hb4)
              have HWIN := Lib.hid hwi
              have HOw := Lib.hid (HO.out.below hb4)
              have HAX := Lib.hid hAx
              have hs4' := hb4.size
              obtain ⟨dl, hdle⟩ : ∃ k, k = x.data.length := ⟨_, rfl⟩
              obtain ⟨nl, hnle⟩ : ∃ k, k = x.next.length := ⟨_, rfl⟩
              rw [← hdle, ← hnle] at HWIN ⊢
              clear hwi hAx hAy hb4 hcz2 HL HWI hdle hnle HO
              go_upto_region 18 with (refine wpList_store_part (o := ⟨none, _, _, _, _, _⟩) rfl 37 (.tmp 10) (.tmp 84) rfl w4.heap.size 0 (wCells x Ax dl qx Ay nl qy) rfl rfl 37 (wCells zeroW none 0 0 none 0 0) (Blk.newAt rfl) (wCells_info _ _ _ _ _ _ _) (by simp [wCells]) (wCells_one _ _ _ _ _ _ _) ?_; intro w5 hT5 hD5; rw [wC_spl] at hD5)
              have hb5 : Below w4.heap.size w4 w5 := hT5.below ((Below.refl _ _).alloc (Nat.le_refl _) _) (Nat.le_refl _)
              have HL5 := Lib.hid (HLw.out.below hb5)
              have HO5 := Lib.hid (HOw.out.below hb5)
              have HDS := Lib.hid (HL5.out.does_ (by omega) x Ax dl qx Ay nl qy ((HWIN.out.below hb5).more hb5.size) (fun ad h0 ha => by have := HAX.out ad ha; have := HMUT2.out V.g (.inl rfl); omega) (errA 171 1) none 0 0 Reads.none_ (by intro a h0; omega) (by omega) _ HDV.out _ rfl)
              have HDS2 := Lib.hid (show Calls Tryz.prog 17 #[.pointer (some ⟨V.g, 0, none⟩), .agg (wCells x Ax dl qx Ay nl qy), .agg #[.int .i64 171, .slice none 0 0, .int .i64 1, .slice none 0 0]] w5 _ from HDS.out)
              obtain ⟨g10, hg10⟩ : ∃ g, g = w4.heap.size := ⟨_, rfl⟩
              rw [← hg10] at hD5 ⊢
              have HD5 := Lib.hid hD5
              clear hT5 hb5 hD5 HLw HOw hg10 HDS
              go_wp2_with (refine wpList_load_part (o := ⟨some 86, _, _, _, _, _⟩) rfl 37 (.tmp 10) rfl g10 0 10 rfl 37 _ (wCells x Ax dl qx Ay nl qy) _ HD5.out Tryz.underlying37 rfl rfl rfl (fun _ _ => by rw [Nat.zero_add]) ?_)
              refine HDS2.out.mono ?_
              rintro _ w6 ⟨rfl, hl6, hon⟩
              have HL6 := Lib.hid hl6
              have HO6 := Lib.hid (HO5.out.only hon HVB.out)
              clear hl6 hon HDS2 HL5 HO5
              go_wp2_with fail
              go_roundw
              case rel => exact ⟨i + 1, by omega, by omega, by go_num, HL6.out.more (by omega), HO6.out⟩
              case measure => simp [intOf]; omega
            · rw [decide_eq_false hlt]
              clear hlt hi
              go_wp2_with fail
              refine (vLeaves_any wc V V.all M HL.out.vat).mono ?_
              rintro _ w4 ⟨v, vs2, rfl, hov, hb4⟩
              obtain ⟨A9, c9, hv9, _, _, hr9, _⟩ := hov.slice
              rw [leavesV_len] at hv9 hr9
              subst hv9
              have HL4 := Lib.hid (HL.out.below hb4)
              have HO4 := Lib.hid (HO.out.below hb4)
              obtain ⟨A8', c8', hv8, _, _, hr8, _⟩ := HO4.out.slice
              rw [leavesV_len] at hv8 hr8
              injection hv8 with e1 e2 e3
              subst e1 e3
              have HSL := Lib.hid (sameLeaves_any A8 A9 13 c8 13 c9 (leavesV M) (leavesV M) w4 w4.heap.size hr8 hr9 (Nat.le_refl _) (by omega) (by omega) HML.out HML.out)
              rw [decide_eq_true rfl] at HSL
              clear hov hb4 HL HO hr8 hr9
              go_wp2_with fail
              refine HSL.out.mono ?_
              rintro _ w5 ⟨rfl, hb5⟩
              have HL5 := Lib.hid (HL4.out.below hb5)
              have HO5 := Lib.hid (HO4.out.below hb5)
              have HTN := Lib.hid (HL5.out.turn_ (by omega))
              rw [HSTN.out] at HTN
              simp only at HTN
              have HT2 := Lib.hid (show Calls Tryz.prog 16 #[.pointer (some ⟨V.g, 0, none⟩)] w5 fun e W' => e = .returned (.int .i64 0) ∧ LSt w V V.all ⟨m.group, 1, m.blocks, m.last, []⟩ (300 + 10 * i + 4) W' ∧ Only V.has w5 W' from HTN.out)
              obtain ⟨M2, hM2⟩ : ∃ M2 : VM, M2 = ⟨m.group, 1, m.blocks, m.last, []⟩ := ⟨_, rfl⟩
              rw [← hM2] at HT2 HT12
              have he2 : M2.epoch = 1 := by rw [hM2]
              have hsh2 : M2.shut = [] := by rw [hM2]
              have HE2 := Lib.hid he2
              have HSH2 := Lib.hid hsh2
              clear hb5 HL4 HO4 HSL HTN HSTN hM2 he2 hsh2
              go_wp2_with fail
              refine HT2.out.mono ?_
              rintro _ w6 ⟨rfl, hl6, hon⟩
              have HL6 := Lib.hid hl6
              have HO6 := Lib.hid (HO5.out.only hon HVB.out)
              have HEP := Lib.hid (vEpoch_any w6 V V.all M2 HL6.out.vat)
              rw [HE2.out] at HEP
              have HEP2 := Lib.hid (show Calls Tryz.prog 23 #[.pointer (some ⟨V.g, 0, none⟩)] w6 fun e w' => e = .returned (.int .i64 1) ∧ w6 = w' from HEP.out)
              clear hl6 hon HT2 HL5 HO5 HEP
              go_wp2_with fail
              refine HEP2.out.mono ?_
              rintro _ _ ⟨rfl, rfl⟩
              go_wp2_with fail
              refine (vSealed_any w6 V V.all M2 HL6.out.vat).mono ?_
              rintro _ w7 ⟨v, rfl, ho7, hb7⟩
              rw [HSH2.out] at ho7
              obtain ⟨A7', c7', hv7, _⟩ := own_slice_n ho7
              have hv7' : v = .slice A7' 0 c7' := hv7
              subst hv7'
              have HL7 := Lib.hid (HL6.out.below hb7)
              have HO7 := Lib.hid (HO6.out.below hb7)
              clear ho7 hb7 HL6 HO6 HEP2 hv7
              go_wp2_with fail
              refine (vLeaves_any w7 V V.all M2 HL7.out.vat).mono ?_
              rintro _ w8 ⟨v, vs3, rfl, hov, hb8⟩
              obtain ⟨Ab, cb, hvb, hcb, _, hrb, _⟩ := hov.slice
              rw [leavesV_len] at hvb hcb hrb
              subst hvb
              have HL8 := Lib.hid (HL7.out.below hb8)
              have HO8 := Lib.hid (HO7.out.below hb8)
              obtain ⟨A8', c8', hv8, hc8, _, hr8, _⟩ := HO8.out.slice
              rw [leavesV_len] at hv8 hr8 hc8
              injection hv8 with e1 e2 e3
              subst e1 e3
              obtain ⟨S2, hS2⟩ := HL8.out.vat.dat
              have HSL := Lib.hid (fun (W : World) (hb : Below w8.heap.size w8 W) => sameLeaves_any A8 Ab 12 c8 12 cb ((leavesV M).take 12) ((leavesV M2).take 12) W w8.heap.size ((hr8.take (k := 12) (by omega) (by omega)).below hb) ((hrb.take (k := 12) (by omega) (by omega)).below hb) hb.size (by omega) (by omega) (fun x hx => HML.out x (List.mem_of_mem_take hx)) (fun x hx => by obtain ⟨i, _, rfl⟩ := List.mem_map.1 (List.mem_of_mem_take hx); have := leafV_len hS2.ok i; unfold maxLen; omega))
              have hlm : (leavesV M).take 12 = (leavesV M2).take 12 := by rw [HMS.out]; exact HT12.out
              rw [decide_eq_true hlm] at HSL
              have HTI := Lib.hid (fun (W : World) (hb : Below w8.heap.size w8 W) => vTurn_idle W V V.all M2 (HL8.out.vat.below hb) HSH2.out)
              have hsl8 := Lib.hid (fun (W : World) => run_slice_to (P := Tryz.prog) (t := 44) (e := 31) Tryz.underlying44 (by kernel_rfl) A8 13 c8 12 12 rfl (by omega) W)
              have hslb := Lib.hid (fun (W : World) => run_slice_to (P := Tryz.prog) (t := 44) (e := 31) Tryz.underlying44 (by kernel_rfl) Ab 13 cb 12 12 rfl (by omega) W)
              clear hov hb8 HL7 HO7 hr8 hrb hS2 hlm
              go_upto_region 24 with fail
              refine wp_region_calm0 10 124 (by kernel_rfl) (by kernel_rfl) (by kernel_rfl) (by simp) ?_
              simp only [List.take_succ_cons, List.take_zero, List.drop_succ_cons, List.drop_zero]
              refine wpCalm_value rfl rfl (.slice A8 13 c8) (fun W _ => rfl) ?_
              try simp only [Act.put, List.setIfInBounds_toArray, List.set_cons_zero, List.set_cons_succ]
              refine wpCalm_value rfl rfl (.slice A8 12 c8) (fun W _ => by have h := hsl8.out W; go_simp) ?_
              try simp only [Act.put, List.setIfInBounds_toArray, List.set_cons_zero, List.set_cons_succ]
              refine wpCalm_value rfl rfl (.slice Ab 13 cb) (fun W _ => rfl) ?_
              try simp only [Act.put, List.setIfInBounds_toArray, List.set_cons_zero, List.set_cons_succ]
              refine wpCalm_value rfl rfl (.slice Ab 12 cb) (fun W _ => by have h := hslb.out W; go_simp) ?_
              try simp only [Act.put, List.setIfInBounds_toArray, List.set_cons_zero, List.set_cons_succ]
              refine wpCalm_call rfl rfl 22 #[.slice A8 12 c8, .slice Ab 12 cb] (fun W => by go_simp) (.bool true) (fun W hb => HSL.out W hb) ?_
              try simp only [Act.put, List.setIfInBounds_toArray, List.set_cons_zero, List.set_cons_succ]
              refine wpCalm_value rfl rfl (.bool true) (fun W _ => rfl) ?_
              try simp only [Act.put, List.setIfInBounds_toArray, List.set_cons_zero, List.set_cons_succ]
              refine wpCalm_value rfl rfl (.pointer (some ⟨V.g, 0, none⟩)) (fun W _ => rfl) ?_
              try simp only [Act.put, List.setIfInBounds_toArray, List.set_cons_zero, List.set_cons_succ]
              refine wpCalm_call rfl rfl 16 #[.pointer (some ⟨V.g, 0, none⟩)] (fun W => by go_simp) (.int .i64 171) (fun W hb => HTI.out W hb) ?_
              try simp only [Act.put, List.setIfInBounds_toArray, List.set_cons_zero, List.set_cons_succ]
              refine wpCalm_value rfl rfl (.bool true) (fun W _ => by go_simp) ?_
              try simp only [Act.put, List.setIfInBounds_toArray, List.set_cons_zero, List.set_cons_succ]
              refine wpCalm_value rfl rfl (.bool true) (fun W _ => by go_simp) ?_
              try simp only [Act.put, List.setIfInBounds_toArray, List.set_cons_zero, List.set_cons_succ]
              refine wpCalm_nil ?_
              intro W hbW
              have HLW := Lib.hid (HL8.out.low.trans (hbW.mono HL8.out.low.size))
              clear hbW
              go_wp2_with fail
              go_ret
              exact ⟨rfl, HLW.out⟩

end Go.Proofs.YtfjopbbgcjgpbaaGreat
