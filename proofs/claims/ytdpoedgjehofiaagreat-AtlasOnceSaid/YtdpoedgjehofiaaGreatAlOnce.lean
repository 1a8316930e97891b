/-
  AtlasOnce: the law's walk.
-/
import Derived.Test.YtdpoedgjehofiaaGreatQ1
import Derived.BigRegion
import Derived.Deep.DeepCutAuto
namespace Go.Proofs.YtdpoedgjehofiaaGreat
set_option linter.unusedVariables false
open Go.RowKit Go.Maps

attribute [local irreducible] wpList wpCalm
/-- the state at a round's head -/
structure AoSt (w0 : World) (V : ALoc) (i : Nat) (W : World) : Prop where
  ex : ∃ m, ARun m (i + 1) ∧ AL w0 V m (30 + 24 * i) W []
set_option maxRecDepth 100000 in
set_option maxHeartbeats 8000000 in
theorem atlasOnce_law (A : Option Addr) (n c : Nat) (xs : List Int) (w : World) (hr : Reads w w.heap.size 1 A n (xs.map vn)) (hxs : ∀ z, z ∈ xs → -9223372036854775808 ≤ z ∧ z ≤ 9223372036854775807) (hn : n ≤ 1000000000000000000) :
    Calls Tryz.prog 6 #[.slice A n c] w fun e w' => e = .returned (.bool true) ∧ Below w.heap.size w w' := by
  have hxl : xs.length = n := by have := hr.1; simpa using this
  have HR := Lib.hid hr
  have HXS := Lib.hid hxs
  have HXL := Lib.hid hxl
  clear hr hxs hxl
  go_enter Tryz.func6, Tryz.ntmps6
  go_wp2_with fail
  refine (aworks_any w).mono ?_
  rintro _ wa ⟨rfl, hba⟩
  have HBA := Lib.hid hba
  clear hba
  go_wp2_with fail
  refine (inkNew_any wa).mono ?_
  rintro _ w1 ⟨k, rfl, hbk, hkn, hb1⟩
  have hsa := HBA.out.size
  have HB1 := Lib.hid (HBA.out.trans (hb1.mono hsa))
  have HKN := Lib.hid (show w.heap.size ≤ k.g ∧ w.heap.size ≤ k.b1 ∧ w.heap.size ≤ k.b2 by omega)
  have HBK := Lib.hid hbk
  clear hb1 hkn hbk HBA
  go_wp2_with fail
  refine (atwo_any w1).mono ?_
  rintro _ wt ⟨At, ct, rfl, hct, hbt⟩
  have hs1 := HB1.out.size
  have HNW := Lib.hid (aNew_any k [] 0 At 2 ct twoL wt (HBK.out.below hbt) (by omega) hct (by omega))
  have HBT := Lib.hid (HB1.out.trans (hbt.mono hs1))
  clear hct hbt
  go_wp2_with fail
  refine HNW.out.mono ?_
  rintro _ w2 ⟨_, hgo⟩
  obtain ⟨V, rfl, hna⟩ := hgo ak0 newQ_two
  have hkk := hna.kk
  subst hkk
  have HRD := Lib.hid (show AoSt w V 0 w2 from ⟨ak0, ⟨rfl, fun j => Nat.le_trans (ARun.fresh.last j) (by omega)⟩, _, (ALSt.start HBT.out HKN.out hna).more (by omega), fun b hb => by cases hb⟩)
  clear hgo hna HNW HBK HBT HB1 HKN
  go_wp2_with fail
  go_loopw [5] (fun iv wr => ∃ i : Nat, i ≤ n ∧ i ≤ 40 ∧ iv = .int .i64 i ∧ AoSt w V i wr) (fun iv _ => n - (intOf iv).toNat)
  case atStart => exact ⟨0, by omega, by omega, rfl, HRD.out⟩
  case round =>
    obtain ⟨i, hi, hi40, rfl, hst⟩ := hrel
    obtain ⟨m, hrun, hls⟩ := hst.ex
    have HRUN := Lib.hid hrun
    have HL := Lib.hid hls
    clear hst hrun hls HRD
    go_upto_region 7 with fail
    go_cut [38] (fun s38 wx => s38 = .bool (decide (i < n ∧ i < 40)) ∧ wx = wr)
    case first =>
      by_cases hin : i < n
      · go_wp2_with fail
        go_meet
        exact ⟨by simp [hin]; omega, rfl⟩
      · go_wp2_with fail
        go_meet
        exact ⟨by simp [hin], rfl⟩
    case rest =>
      obtain ⟨rfl, rfl⟩ := hcut
      by_cases hlt : i < n ∧ i < 40
      · rw [decide_eq_true hlt]
        obtain ⟨ad, hA, hadb, hcell⟩ := HR.out.2 (by omega)
        subst hA
        have hxi : i < xs.length := by have := HXL.out; omega
        obtain ⟨z, hz⟩ : ∃ z, z = xs[i] := ⟨_, rfl⟩
        have hzb : -9223372036854775808 ≤ z ∧ z ≤ 9223372036854775807 := by rw [hz]; exact HXS.out _ (List.getElem_mem hxi)
        have hcz := hcell i (.int .i64 z) (by rw [List.getElem?_map, List.getElem?_eq_getElem hxi, hz]; rfl)
        have hcz2 : wc.cell? (ad.add i) = some (.int .i64 z) := (HL.out.low.cell (show (ad.add i).block < w.heap.size by rw [block_of_add]; omega)).trans hcz
        obtain ⟨N0, hat⟩ := HL.out.vat
        obtain ⟨S, hd⟩ := hat.dat
        have h2 := HRUN.out.two
        have hbl := bringF_lt (z / 64) 2 (by omega)
        obtain ⟨s, hs⟩ : ∃ s, m.chunks[bringF (z / 64) 2]? = some s := ⟨_, List.getElem?_eq_getElem (by omega)⟩
        have hnok := (hd.ok.srv s (List.mem_of_getElem? hs)).now_ok
        have HWI := Lib.hid (fun (t : Int) (ht : t = ((i + 2 : Nat) : Int)) => awish_any wc _ _ _ _ _ _ _ s hd z t hs rfl hzb.1 hzb.2 (by omega) (by omega))
        obtain ⟨x, hx⟩ : ∃ x, x = wishS s.now z ((i + 2 : Nat) : Int) := ⟨_, rfl⟩
        have hcl := wishS_client s.now z ((i + 2 : Nat) : Int)
        have hxs : x.stamp = ((i + 2 : Nat) : Int) := by rw [hx]; exact wishS_stamp _ _ _
        have hxq : inQ x = true := by rw [hx]; exact wishS_inQ (fun q hq => hnok.bound hq) hnok.short.1 (by omega) (by omega)
        rw [← hx] at hcl
        have HIN := Lib.hid (fun (W : World) => (show WishIn W W.heap.size x none 0 0 none 0 0 from hx ▸ wishS_in (fun q hq => hnok.bound hq) (by omega) (by omega)))
        have hnew := doQ_new (S := i + 2) hd.ok hxq hxs (by have := HRUN.out.last (x.client - 31).toNat; omega)
        have hstep := HRUN.out.step (x := x) (by rw [hxs]; omega)
        have HW2 := Lib.hid (fun (t : Int) (ht : t = ((i + 2 : Nat) : Int)) => (show Calls Tryz.prog 43 #[.pointer (some ⟨V.g, 0, none⟩), .int .i64 z, .int .i64 t] wc (AWishPost wc x) from by have h := HWI.out t ht; rw [ht, ← hx] at h; rw [ht]; exact h))
        obtain ⟨p, hp⟩ : ∃ p, p = doQ m x := ⟨_, rfl⟩
        rw [← hp] at hnew hstep
        have HSAME := Lib.hid (fun (x' : Wish) (h1 : inQ x' = true) (h2 : x'.client = x.client) (h3 : x'.stamp = ((i + 2 : Nat) : Int)) => (show doQ p.1 x' = (p.1, p.2.1, 0) from doQ_same h1 (by rw [h2]; exact hnew.2) h3))
        have HOLDER := Lib.hid (fun (x' : Wish) (h1 : inQ x' = true) (h2 : x'.client = x.client) (h3 : x'.stamp < ((i + 2 : Nat) : Int)) => (show doQ p.1 x' = (p.1, errA 172 0, 0) from doQ_older h1 (by rw [h2]; exact hnew.2) h3))
        have HOLDS := Lib.hid (show oldQ p.1 x = (p.2.1, true) from oldQ_same hnew.2 hxs)
        have HP := Lib.hid hp
        have HP0 := Lib.hid hnew.1
        have HSTEP := Lib.hid hstep
        have HXQ := Lib.hid hxq
        have HXS2 := Lib.hid hxs
        have hiI : (i : Int) < (n : Int) := by omega
        have h0I : (0 : Int) ≤ (i : Int) := by omega
        have hcl1 := hcl.1
        have hcl2 := hcl.2
        clear hcell hzb hcz hz hat hd hs hnok h2 hbl HWI hx hcl hxs hxq hnew hstep hp
        go_wp2_with fail
        refine (HW2.out _ (by omega)).mono ?_
        rintro _ w4 ⟨rfl, hb4⟩
        have hs4 := hb4.size
        have HL4 := Lib.hid (HL.out.below hb4)
        clear hb4 HW2 hcz2 HL
        go_upto_region 10 with (refine wpList_store_part (o := ⟨none, _, _, _, _, _⟩) rfl 44 (.tmp 6) (.tmp 48) rfl w4.heap.size 0 (wCells x none 0 0 none 0 0) rfl rfl 44 (wCells zeroW none 0 0 none 0 0) (Blk.newAt rfl) (wCells_info _ _ _ _ _ _ _) (by simp [wCells]) (wCells_one _ _ _ _ _ _ _) ?_; intro w5 hT hD3; rw [wC_spl] at hD3)
        have hbw5 : Below w4.heap.size w4 w5 := hT.below ((Below.refl _ _).alloc (Nat.le_refl _) _) (Nat.le_refl _)
        have hs_w5 := hbw5.size
        have HL_1 := Lib.hid (HL4.out.add hbw5 (g := w4.heap.size) (Nat.le_refl _) hD3.lt)
        clear HL4
        obtain ⟨g6, hg⟩ : ∃ g, g = w4.heap.size := ⟨_, rfl⟩
        rw [← hg] at HL_1 hD3 ⊢
        have Kg6_2 := Lib.hid hD3
        clear hT hg hD3 hbw5
        have HDO := Lib.hid (HL_1.out.do_ (by omega) x (HIN.out w5))
        unfold ALDid at HDO
        rw [← HP.out, HP0.out] at HDO
        go_wp2_with (refine wpList_load_part (o := ⟨some 51, _, _, _, _, _⟩) rfl 44 (.tmp 6) rfl g6 0 10 rfl 44 _ (wCells x none 0 0 none 0 0) _ Kg6_2.out Tryz.underlying44 rfl rfl rfl (fun _ _ => by rw [Nat.zero_add]; try rfl) ?_)
        refine HDO.out.mono ?_
        rintro _ w6 ⟨A3, q3, rfl, hln, hr3, hal, hk, hs6⟩
        have Kg6_3 := Lib.hid (show Blk w6 g6 44 (wCells x none 0 0 none 0 0) from (hk g6 (by simp) Kg6_2.out.lt).trans Kg6_2.out)
        have HL_4 := Lib.hid hal
        clear Kg6_2 HL_1
        obtain ⟨er, her⟩ : ∃ e, e = p.2.1.err := ⟨_, rfl⟩
        obtain ⟨pe, hpe⟩ : ∃ e, e = p.2.1.epoch := ⟨_, rfl⟩
        obtain ⟨ns, hns⟩ : ∃ e, e = p.2.1.nodes := ⟨_, rfl⟩
        obtain ⟨nl, hnl⟩ : ∃ e, e = ns.length := ⟨_, rfl⟩
        rw [← hns, ← hnl] at hr3 hln
        rw [← her, ← hpe, ← hns, ← hnl]
        have HER := Lib.hid her
        have HPE := Lib.hid hpe
        have HNS := Lib.hid hns
        have HNL := Lib.hid hnl
        have RA3_5 := Lib.hid hr3
        clear hr3 hal hk HDO her hpe hns hnl
        go_upto_region 11 with (refine wpList_store_part (o := ⟨none, _, _, _, _, _⟩) rfl 47 (.tmp 7) (.tmp 53) rfl w6.heap.size 0 (anC (er : Int) none 0 0 (pe : Int) A3 nl q3) rfl rfl 47 (anC 0 none 0 0 0 none 0 0) (Blk.newAt rfl) (anC_info _ _ _ _ _ _ _ _) (by simp [anC]) (anC_one _ _ _ _ _ _ _ _) ?_; intro w7 hT hD3; rw [anC_spl _ rfl] at hD3)
        have hbw7 : Below w6.heap.size w6 w7 := hT.below ((Below.refl _ _).alloc (Nat.le_refl _) _) (Nat.le_refl _)
        have hs_w7 := hbw7.size
        have Kg6_6 := Lib.hid (Kg6_3.out.below' hbw7)
        have RA3_7 := Lib.hid ((RA3_5.out.below hbw7).more hbw7.size)
        have HL_8 := Lib.hid (HL_4.out.add hbw7 (g := w6.heap.size) (Nat.le_refl _) hD3.lt)
        clear Kg6_3 RA3_5 HL_4
        obtain ⟨g7, hg⟩ : ∃ g, g = w6.heap.size := ⟨_, rfl⟩
        rw [← hg] at HL_8 hD3 ⊢
        have Kg7_9 := Lib.hid hD3
        clear hT hg hD3 hbw7
        have hlnq := leavesQ_len p.1
        have HRL := Lib.hid (show (rootL (leavesQ p.1)).length = 32 from (lv_one (leavesQ p.1) (by omega) (by omega)).2)
        have HRT := Lib.hid (fun (W : World) (h : ∃ N, AAt W V N p.1) => (show Calls Tryz.prog 48 #[.pointer (some ⟨V.g, 0, none⟩)] W (ARootPost W p.1) from h.elim fun N h => arootL_any W V N p.1 h))
        unfold ARootPost at HRT
        have hds : (bRow (rootL (leavesQ p.1))).size = 32 := bRow_size32 HRL.out
        have hdo := bRow_one (rootL (leavesQ p.1))
        have HNQ := Lib.hid (fun (W : World) => neq_digest (rootL (leavesQ p.1)) (rootL (leavesQ p.1)) HRL.out HRL.out W)
        rw [show (rootL (leavesQ p.1) != rootL (leavesQ p.1)) = false by simp] at HNQ
        obtain ⟨Dg, hDg⟩ : ∃ D, D = bRow (rootL (leavesQ p.1)) := ⟨_, rfl⟩
        rw [← hDg] at HRT hds hdo HNQ
        have HDS := Lib.hid hds
        have HDO := Lib.hid hdo
        have HZ := Lib.hid treeZ_eq
        have HZS := Lib.hid (show inkZ.size = 32 by simp [inkZ, bRow])
        clear hds hdo hDg hlnq
        go_wp2_with fail
        refine (HRT.out w7 HL_8.out.vat).mono ?_
        rintro _ w8 ⟨rfl, hb8⟩
        have hs8 := hb8.size
        have Kg6_10 := Lib.hid (Kg6_6.out.below' hb8)
        have Kg7_11 := Lib.hid (Kg7_9.out.below' hb8)
        have RA3_12 := Lib.hid ((RA3_7.out.below hb8).more hb8.size)
        have HL_13 := Lib.hid (HL_8.out.below hb8)
        clear Kg6_6 Kg7_9 RA3_7 HL_8
        clear hb8
        go_upto_region 12 with (refine wpList_store_part (o := ⟨none, _, _, _, _, _⟩) rfl 60 (.tmp 9) (.tmp 58) rfl w8.heap.size 0 Dg rfl rfl 60 inkZ (by rw [HZ.out]; exact Blk.newAt rfl) (by rw [HDS.out]; rfl) (by rw [HDS.out, HZS.out]; omega) HDO.out ?_; intro w9 hT hD3; rw [spl_self _ _ (by rw [HDS.out, HZS.out])] at hD3)
        have hbw9 : Below w8.heap.size w8 w9 := hT.below ((Below.refl _ _).alloc (Nat.le_refl _) _) (Nat.le_refl _)
        have hs_w9 := hbw9.size
        have Kg6_14 := Lib.hid (Kg6_10.out.below' hbw9)
        have Kg7_15 := Lib.hid (Kg7_11.out.below' hbw9)
        have RA3_16 := Lib.hid ((RA3_12.out.below hbw9).more hbw9.size)
        have HL_17 := Lib.hid (HL_13.out.add hbw9 (g := w8.heap.size) (Nat.le_refl _) hD3.lt)
        clear Kg6_10 Kg7_11 RA3_12 HL_13
        obtain ⟨g9, hg⟩ : ∃ g, g = w8.heap.size := ⟨_, rfl⟩
        rw [← hg] at HL_17 hD3 ⊢
        have Kg9_18 := Lib.hid hD3
        clear hT hg hD3 hbw9
        have HHE := Lib.hid (HL_17.out.vat.elim fun N h => aHeard_any w9 V N p.1 h x none 0 0 none 0 0 _ (HIN.out w9) (Nat.le_refl _) HXQ.out)
        unfold AHeardPost at HHE
        rw [HOLDS.out] at HHE
        go_wp2_with (refine wpList_load_part (o := ⟨some 62, _, _, _, _, _⟩) rfl 44 (.tmp 6) rfl g6 0 10 rfl 44 _ (wCells x none 0 0 none 0 0) _ Kg6_14.out Tryz.underlying44 rfl rfl rfl (fun _ _ => by rw [Nat.zero_add]; try rfl) ?_)
        refine HHE.out.mono ?_
        rintro _ w10 ⟨D4, rfl, hds4, ⟨A4, q4, hD4, ho4⟩, hb10⟩
        simp only at hD4 ho4 ⊢
        rw [← HER.out, ← HPE.out, ← HNS.out, ← HNL.out] at hD4
        rw [← HNS.out, ← HNL.out] at ho4
        subst hD4
        have hrd4 := own_reads ho4
        have hln4 := own_slice_n ho4
        have hs10 := hb10.size
        have Kg6_19 := Lib.hid (Kg6_14.out.below' hb10)
        have Kg7_20 := Lib.hid (Kg7_15.out.below' hb10)
        have Kg9_21 := Lib.hid (Kg9_18.out.below' hb10)
        have RA3_22 := Lib.hid ((RA3_16.out.below hb10).more hb10.size)
        have HL_23 := Lib.hid (HL_17.out.below hb10)
        clear Kg6_14 Kg7_15 Kg9_18 RA3_16 HL_17
        have RA4_24 := Lib.hid hrd4.2
        clear hb10 ho4 hrd4 hln4 HHE hds4
        go_upto_region 13 with (refine wpList_store_part (o := ⟨none, _, _, _, _, _⟩) rfl 47 (.tmp 11) (.tmp 64) rfl w10.heap.size 0 (anC (er : Int) none 0 0 (pe : Int) A4 nl q4) rfl rfl 47 (anC 0 none 0 0 0 none 0 0) (Blk.newAt rfl) (anC_info _ _ _ _ _ _ _ _) (by simp [anC]) (anC_one _ _ _ _ _ _ _ _) ?_; intro w11 hT hD3; rw [anC_spl _ rfl] at hD3)
        have hbw11 : Below w10.heap.size w10 w11 := hT.below ((Below.refl _ _).alloc (Nat.le_refl _) _) (Nat.le_refl _)
        have hs_w11 := hbw11.size
        have Kg6_25 := Lib.hid (Kg6_19.out.below' hbw11)
        have Kg7_26 := Lib.hid (Kg7_20.out.below' hbw11)
        have Kg9_27 := Lib.hid (Kg9_21.out.below' hbw11)
        have RA3_28 := Lib.hid ((RA3_22.out.below hbw11).more hbw11.size)
        have RA4_29 := Lib.hid ((RA4_24.out.below hbw11).more hbw11.size)
        have HL_30 := Lib.hid (HL_23.out.add hbw11 (g := w10.heap.size) (Nat.le_refl _) hD3.lt)
        clear Kg6_19 Kg7_20 Kg9_21 RA3_22 RA4_24 HL_23
        obtain ⟨g11, hg⟩ : ∃ g, g = w10.heap.size := ⟨_, rfl⟩
        rw [← hg] at HL_30 hD3 ⊢
        have Kg11_31 := Lib.hid hD3
        clear hT hg hD3 hbw11
        have HSA := Lib.hid (sameAnswer_any (er : Int) (er : Int) (pe : Int) (pe : Int) none 0 0 A3 nl q3 none 0 0 A4 nl q4 [] [] ns ns w11 w11.heap.size Reads.none_ RA3_28.out Reads.none_ RA4_29.out (Nat.le_refl _) (by unfold maxLen; omega) hln (by unfold maxLen; omega) hln)
        rw [decide_eq_true ⟨rfl, rfl, rfl, rfl⟩] at HSA
        go_wp2_with (first
          | (refine wpList_load_guarded (o := ⟨some 69, _, _, _, _, _⟩) rfl 47 (.tmp 7) rfl g7 0 4 rfl 47 _ (anC (er : Int) none 0 0 (pe : Int) A3 nl q3) _ Kg7_26.out Tryz.underlying47 rfl rfl rfl (fun _ _ => by rw [Nat.zero_add]; try rfl) ?_)
          | (refine wpList_load_guarded (o := ⟨some 70, _, _, _, _, _⟩) rfl 47 (.tmp 11) rfl g11 0 4 rfl 47 _ (anC (er : Int) none 0 0 (pe : Int) A4 nl q4) _ Kg11_31.out Tryz.underlying47 rfl rfl rfl (fun _ _ => by rw [Nat.zero_add]; try rfl) ?_))
        refine HSA.out.mono ?_
        rintro _ w12 ⟨rfl, hbw12⟩
        have hsw12 := hbw12.size
        have Kg6_32 := Lib.hid (Kg6_25.out.below' hbw12)
        have Kg7_33 := Lib.hid (Kg7_26.out.below' hbw12)
        have Kg9_34 := Lib.hid (Kg9_27.out.below' hbw12)
        have Kg11_35 := Lib.hid (Kg11_31.out.below' hbw12)
        have RA3_36 := Lib.hid ((RA3_28.out.below hbw12).more hbw12.size)
        have RA4_37 := Lib.hid ((RA4_29.out.below hbw12).more hbw12.size)
        have HL_38 := Lib.hid (HL_30.out.below hbw12)
        clear Kg6_25 Kg7_26 Kg9_27 Kg11_31 RA3_28 RA4_29 HL_30
        clear hbw12 HSA
        clear RA4_37 Kg11_35
        have HDA := Lib.hid (HL_38.out.do_ (by omega) (x) (HIN.out _))
        unfold ALDid at HDA
        rw [HSAME.out x HXQ.out rfl HXS2.out] at HDA
        simp only at HDA
        rw [← HER.out, ← HPE.out, ← HNS.out, ← HNL.out] at HDA
        go_wp2_with (refine wpList_load_part (o := ⟨some 76, _, _, _, _, _⟩) rfl 44 (.tmp 6) rfl g6 0 10 rfl 44 _ (wCells x none 0 0 none 0 0) _ Kg6_32.out Tryz.underlying44 rfl rfl rfl (fun _ _ => by rw [Nat.zero_add]; try rfl) ?_)
        refine HDA.out.mono ?_
        rintro _ w13 ⟨A5, q5, rfl, hlnA, hrA, hal, hk, hsw13⟩
        have Kg6_39 := Lib.hid (show Blk w13 g6 44 (wCells x none 0 0 none 0 0) from (hk g6 (by simp) Kg6_32.out.lt).trans Kg6_32.out)
        have Kg7_40 := Lib.hid (show Blk w13 g7 47 (anC (er : Int) none 0 0 (pe : Int) A3 nl q3) from (hk g7 (by simp) Kg7_33.out.lt).trans Kg7_33.out)
        have Kg9_41 := Lib.hid (show Blk w13 g9 60 (Dg) from (hk g9 (by simp) Kg9_34.out.lt).trans Kg9_34.out)
        have RA3_42 := Lib.hid (reads_same RA3_36.out (fun b hb hlt => hk b (by simp [hb]) hlt) hsw13)
        have HL_43 := Lib.hid hal
        clear Kg6_32 Kg7_33 Kg9_34 RA3_36 HL_38
        have RA5_44 := Lib.hid hrA
        clear hrA hal hk HDA hlnA
        rw [show (((0 : Nat) : Int)) = 0 from rfl]
        go_upto_region 16 with (refine wpList_store_part (o := ⟨none, _, _, _, _, _⟩) rfl 47 (.tmp 13) (.tmp 78) rfl w13.heap.size 0 (anC (er : Int) none 0 0 (pe : Int) A5 nl q5) rfl rfl 47 (anC 0 none 0 0 0 none 0 0) (Blk.newAt rfl) (anC_info _ _ _ _ _ _ _ _) (by simp [anC]) (anC_one _ _ _ _ _ _ _ _) ?_; intro w14 hT hD3; rw [anC_spl _ rfl] at hD3)
        have hbw14 : Below w13.heap.size w13 w14 := hT.below ((Below.refl _ _).alloc (Nat.le_refl _) _) (Nat.le_refl _)
        have hs_w14 := hbw14.size
        have Kg6_45 := Lib.hid (Kg6_39.out.below' hbw14)
        have Kg7_46 := Lib.hid (Kg7_40.out.below' hbw14)
        have Kg9_47 := Lib.hid (Kg9_41.out.below' hbw14)
        have RA3_48 := Lib.hid ((RA3_42.out.below hbw14).more hbw14.size)
        have RA5_49 := Lib.hid ((RA5_44.out.below hbw14).more hbw14.size)
        have HL_50 := Lib.hid (HL_43.out.add hbw14 (g := w13.heap.size) (Nat.le_refl _) hD3.lt)
        clear Kg6_39 Kg7_40 Kg9_41 RA3_42 RA5_44 HL_43
        obtain ⟨g13, hg⟩ : ∃ g, g = w13.heap.size := ⟨_, rfl⟩
        rw [← hg] at HL_50 hD3 ⊢
        have Kg13_51 := Lib.hid hD3
        clear hT hg hD3 hbw14
        have c60 : w14.cell? ⟨g6, 0, none⟩ = some (.int .i64 x.client) := (Kg6_45.out.cell 0).trans rfl
        have c61 : w14.cell? ⟨g6, 1, none⟩ = some (.int .i64 x.stamp) := (Kg6_45.out.cell 1).trans rfl
        have hst1 : 1 ≤ x.stamp := by rw [HXS2.out]; omega
        have hst2 : x.stamp ≤ 1000000 := by rw [HXS2.out]; omega
        go_wp2_with fail
        refine (aquery_any _ _ _ w14).mono ?_
        rintro _ w15 ⟨rfl, hb15⟩
        have hs15 := hb15.size
        have Kg6_52 := Lib.hid (Kg6_45.out.below' hb15)
        have Kg7_53 := Lib.hid (Kg7_46.out.below' hb15)
        have Kg9_54 := Lib.hid (Kg9_47.out.below' hb15)
        have Kg13_55 := Lib.hid (Kg13_51.out.below' hb15)
        have RA3_56 := Lib.hid ((RA3_48.out.below hb15).more hb15.size)
        have RA5_57 := Lib.hid ((RA5_49.out.below hb15).more hb15.size)
        have HL_58 := Lib.hid (HL_50.out.below hb15)
        clear Kg6_45 Kg7_46 Kg9_47 Kg13_51 RA3_48 RA5_49 HL_50
        clear hb15 c60 c61
        have HDA := Lib.hid (HL_58.out.do_ (by omega) (queryQ x.client x.stamp 1) (queryIn ⟨by unfold I64; omega, by unfold I64; omega, by unfold I64; omega⟩))
        unfold ALDid at HDA
        rw [HSAME.out (queryQ x.client x.stamp 1) (queryQ_in hcl1 hcl2 hst1 hst2 (by omega) (by omega)) rfl HXS2.out] at HDA
        simp only at HDA
        rw [← HER.out, ← HPE.out, ← HNS.out, ← HNL.out] at HDA
        go_wp2_with fail
        refine HDA.out.mono ?_
        rintro _ w16 ⟨A6, q6, rfl, hlnA, hrA, hal, hk, hsw16⟩
        have Kg6_59 := Lib.hid (show Blk w16 g6 44 (wCells x none 0 0 none 0 0) from (hk g6 (by simp) Kg6_52.out.lt).trans Kg6_52.out)
        have Kg7_60 := Lib.hid (show Blk w16 g7 47 (anC (er : Int) none 0 0 (pe : Int) A3 nl q3) from (hk g7 (by simp) Kg7_53.out.lt).trans Kg7_53.out)
        have Kg9_61 := Lib.hid (show Blk w16 g9 60 (Dg) from (hk g9 (by simp) Kg9_54.out.lt).trans Kg9_54.out)
        have Kg13_62 := Lib.hid (show Blk w16 g13 47 (anC (er : Int) none 0 0 (pe : Int) A5 nl q5) from (hk g13 (by simp) Kg13_55.out.lt).trans Kg13_55.out)
        have RA3_63 := Lib.hid (reads_same RA3_56.out (fun b hb hlt => hk b (by simp [hb]) hlt) hsw16)
        have RA5_64 := Lib.hid (reads_same RA5_57.out (fun b hb hlt => hk b (by simp [hb]) hlt) hsw16)
        have HL_65 := Lib.hid hal
        clear Kg6_52 Kg7_53 Kg9_54 Kg13_55 RA3_56 RA5_57 HL_58
        have RA6_66 := Lib.hid hrA
        clear hrA hal hk HDA hlnA
        rw [show (((0 : Nat) : Int)) = 0 from rfl]
        go_upto_region 17 with (refine wpList_store_part (o := ⟨none, _, _, _, _, _⟩) rfl 47 (.tmp 15) (.tmp 88) rfl w16.heap.size 0 (anC (er : Int) none 0 0 (pe : Int) A6 nl q6) rfl rfl 47 (anC 0 none 0 0 0 none 0 0) (Blk.newAt rfl) (anC_info _ _ _ _ _ _ _ _) (by simp [anC]) (anC_one _ _ _ _ _ _ _ _) ?_; intro w17 hT hD3; rw [anC_spl _ rfl] at hD3)
        have hbw17 : Below w16.heap.size w16 w17 := hT.below ((Below.refl _ _).alloc (Nat.le_refl _) _) (Nat.le_refl _)
        have hs_w17 := hbw17.size
        have Kg6_67 := Lib.hid (Kg6_59.out.below' hbw17)
        have Kg7_68 := Lib.hid (Kg7_60.out.below' hbw17)
        have Kg9_69 := Lib.hid (Kg9_61.out.below' hbw17)
        have Kg13_70 := Lib.hid (Kg13_62.out.below' hbw17)
        have RA3_71 := Lib.hid ((RA3_63.out.below hbw17).more hbw17.size)
        have RA5_72 := Lib.hid ((RA5_64.out.below hbw17).more hbw17.size)
        have RA6_73 := Lib.hid ((RA6_66.out.below hbw17).more hbw17.size)
        have HL_74 := Lib.hid (HL_65.out.add hbw17 (g := w16.heap.size) (Nat.le_refl _) hD3.lt)
        clear Kg6_59 Kg7_60 Kg9_61 Kg13_62 RA3_63 RA5_64 RA6_66 HL_65
        obtain ⟨g15, hg⟩ : ∃ g, g = w16.heap.size := ⟨_, rfl⟩
        rw [← hg] at HL_74 hD3 ⊢
        have Kg15_75 := Lib.hid hD3
        clear hT hg hD3 hbw17
        have c60 : w17.cell? ⟨g6, 0, none⟩ = some (.int .i64 x.client) := (Kg6_67.out.cell 0).trans rfl
        have c61 : w17.cell? ⟨g6, 1, none⟩ = some (.int .i64 x.stamp) := (Kg6_67.out.cell 1).trans rfl
        go_wp2_with fail
        refine (aquery_any _ _ _ w17).mono ?_
        rintro _ w18 ⟨rfl, hb18⟩
        have hs18 := hb18.size
        have Kg6_76 := Lib.hid (Kg6_67.out.below' hb18)
        have Kg7_77 := Lib.hid (Kg7_68.out.below' hb18)
        have Kg9_78 := Lib.hid (Kg9_69.out.below' hb18)
        have Kg13_79 := Lib.hid (Kg13_70.out.below' hb18)
        have Kg15_80 := Lib.hid (Kg15_75.out.below' hb18)
        have RA3_81 := Lib.hid ((RA3_71.out.below hb18).more hb18.size)
        have RA5_82 := Lib.hid ((RA5_72.out.below hb18).more hb18.size)
        have RA6_83 := Lib.hid ((RA6_73.out.below hb18).more hb18.size)
        have HL_84 := Lib.hid (HL_74.out.below hb18)
        clear Kg6_67 Kg7_68 Kg9_69 Kg13_70 Kg15_75 RA3_71 RA5_72 RA6_73 HL_74
        clear hb18 c60 c61
        by_cases hs2 : 2 ≤ x.stamp
        rotate_left
        · exact absurd (by rw [HXS2.out]; omega) hs2
        have HDA := Lib.hid (HL_84.out.do_ (by omega) (queryQ x.client (x.stamp - 1) 1) (queryIn ⟨by unfold I64; omega, by unfold I64; omega, by unfold I64; omega⟩))
        unfold ALDid at HDA
        rw [HOLDER.out (queryQ x.client (x.stamp - 1) 1) (queryQ_in hcl1 hcl2 (by omega) (by omega) (by omega) (by omega)) rfl (by show x.stamp - 1 < _; rw [HXS2.out]; omega)] at HDA
        simp only at HDA
        go_wp2_with fail
        refine HDA.out.mono ?_
        rintro _ w19 ⟨A7, q7, rfl, hlnA, hrA, hal, hk, hsw19⟩
        have Kg6_85 := Lib.hid (show Blk w19 g6 44 (wCells x none 0 0 none 0 0) from (hk g6 (by simp) Kg6_76.out.lt).trans Kg6_76.out)
        have Kg7_86 := Lib.hid (show Blk w19 g7 47 (anC (er : Int) none 0 0 (pe : Int) A3 nl q3) from (hk g7 (by simp) Kg7_77.out.lt).trans Kg7_77.out)
        have Kg9_87 := Lib.hid (show Blk w19 g9 60 (Dg) from (hk g9 (by simp) Kg9_78.out.lt).trans Kg9_78.out)
        have Kg13_88 := Lib.hid (show Blk w19 g13 47 (anC (er : Int) none 0 0 (pe : Int) A5 nl q5) from (hk g13 (by simp) Kg13_79.out.lt).trans Kg13_79.out)
        have Kg15_89 := Lib.hid (show Blk w19 g15 47 (anC (er : Int) none 0 0 (pe : Int) A6 nl q6) from (hk g15 (by simp) Kg15_80.out.lt).trans Kg15_80.out)
        have RA3_90 := Lib.hid (reads_same RA3_81.out (fun b hb hlt => hk b (by simp [hb]) hlt) hsw19)
        have RA5_91 := Lib.hid (reads_same RA5_82.out (fun b hb hlt => hk b (by simp [hb]) hlt) hsw19)
        have RA6_92 := Lib.hid (reads_same RA6_83.out (fun b hb hlt => hk b (by simp [hb]) hlt) hsw19)
        have HL_93 := Lib.hid hal
        clear Kg6_76 Kg7_77 Kg9_78 Kg13_79 Kg15_80 RA3_81 RA5_82 RA6_83 HL_84
        clear hrA hal hk HDA hlnA
        have h0l : (errA 172 0).nodes.length = 0 := rfl
        have h0e : (errA 172 0).err = 172 := rfl
        have h0p : (errA 172 0).epoch = 0 := rfl
        rw [h0l, h0e, h0p]
        clear h0l h0e h0p
        go_upto_region 18 with (refine wpList_store_part (o := ⟨none, _, _, _, _, _⟩) rfl 47 (.tmp 17) (.tmp 99) rfl w19.heap.size 0 (anC ((172 : Nat) : Int) none 0 0 ((0 : Nat) : Int) A7 0 q7) rfl rfl 47 (anC 0 none 0 0 0 none 0 0) (Blk.newAt rfl) (anC_info _ _ _ _ _ _ _ _) (by simp [anC]) (anC_one _ _ _ _ _ _ _ _) ?_; intro w20 hT hD3; rw [anC_spl _ rfl] at hD3)
        have hbw20 : Below w19.heap.size w19 w20 := hT.below ((Below.refl _ _).alloc (Nat.le_refl _) _) (Nat.le_refl _)
        have hs_w20 := hbw20.size
        have Kg6_94 := Lib.hid (Kg6_85.out.below' hbw20)
        have Kg7_95 := Lib.hid (Kg7_86.out.below' hbw20)
        have Kg9_96 := Lib.hid (Kg9_87.out.below' hbw20)
        have Kg13_97 := Lib.hid (Kg13_88.out.below' hbw20)
        have Kg15_98 := Lib.hid (Kg15_89.out.below' hbw20)
        have RA3_99 := Lib.hid ((RA3_90.out.below hbw20).more hbw20.size)
        have RA5_100 := Lib.hid ((RA5_91.out.below hbw20).more hbw20.size)
        have RA6_101 := Lib.hid ((RA6_92.out.below hbw20).more hbw20.size)
        have HL_102 := Lib.hid (HL_93.out.add hbw20 (g := w19.heap.size) (Nat.le_refl _) hD3.lt)
        clear Kg6_85 Kg7_86 Kg9_87 Kg13_88 Kg15_89 RA3_90 RA5_91 RA6_92 HL_93
        obtain ⟨g17, hg⟩ : ∃ g, g = w19.heap.size := ⟨_, rfl⟩
        rw [← hg] at HL_102 hD3 ⊢
        have Kg17_103 := Lib.hid hD3
        clear hT hg hD3 hbw20
        go_wp2_with fail
        refine (HRT.out w20 HL_102.out.vat).mono ?_
        rintro _ w21 ⟨rfl, hb21⟩
        have hs21 := hb21.size
        have Kg6_104 := Lib.hid (Kg6_94.out.below' hb21)
        have Kg7_105 := Lib.hid (Kg7_95.out.below' hb21)
        have Kg9_106 := Lib.hid (Kg9_96.out.below' hb21)
        have Kg13_107 := Lib.hid (Kg13_97.out.below' hb21)
        have Kg15_108 := Lib.hid (Kg15_98.out.below' hb21)
        have Kg17_109 := Lib.hid (Kg17_103.out.below' hb21)
        have RA3_110 := Lib.hid ((RA3_99.out.below hb21).more hb21.size)
        have RA5_111 := Lib.hid ((RA5_100.out.below hb21).more hb21.size)
        have RA6_112 := Lib.hid ((RA6_101.out.below hb21).more hb21.size)
        have HL_113 := Lib.hid (HL_102.out.below hb21)
        clear Kg6_94 Kg7_95 Kg9_96 Kg13_97 Kg15_98 Kg17_103 RA3_99 RA5_100 RA6_101 HL_102
        clear hb21
        go_upto_region 19 with (refine wpList_store_part (o := ⟨none, _, _, _, _, _⟩) rfl 60 (.tmp 19) (.tmp 104) rfl w21.heap.size 0 Dg rfl rfl 60 inkZ (by rw [HZ.out]; exact Blk.newAt rfl) (by rw [HDS.out]; rfl) (by rw [HDS.out, HZS.out]; omega) HDO.out ?_; intro w22 hT hD3; rw [spl_self _ _ (by rw [HDS.out, HZS.out])] at hD3)
        have hbw22 : Below w21.heap.size w21 w22 := hT.below ((Below.refl _ _).alloc (Nat.le_refl _) _) (Nat.le_refl _)
        have hs_w22 := hbw22.size
        have Kg6_114 := Lib.hid (Kg6_104.out.below' hbw22)
        have Kg7_115 := Lib.hid (Kg7_105.out.below' hbw22)
        have Kg9_116 := Lib.hid (Kg9_106.out.below' hbw22)
        have Kg13_117 := Lib.hid (Kg13_107.out.below' hbw22)
        have Kg15_118 := Lib.hid (Kg15_108.out.below' hbw22)
        have Kg17_119 := Lib.hid (Kg17_109.out.below' hbw22)
        have RA3_120 := Lib.hid ((RA3_110.out.below hbw22).more hbw22.size)
        have RA5_121 := Lib.hid ((RA5_111.out.below hbw22).more hbw22.size)
        have RA6_122 := Lib.hid ((RA6_112.out.below hbw22).more hbw22.size)
        have HL_123 := Lib.hid (HL_113.out.add hbw22 (g := w21.heap.size) (Nat.le_refl _) hD3.lt)
        clear Kg6_104 Kg7_105 Kg9_106 Kg13_107 Kg15_108 Kg17_109 RA3_110 RA5_111 RA6_112 HL_113
        obtain ⟨g19, hg⟩ : ∃ g, g = w21.heap.size := ⟨_, rfl⟩
        rw [← hg] at HL_123 hD3 ⊢
        have Kg19_124 := Lib.hid hD3
        clear hT hg hD3 hbw22
        have HSA := Lib.hid (sameAnswer_any (er : Int) (er : Int) (pe : Int) (pe : Int) none 0 0 A3 nl q3 none 0 0 A5 nl q5 [] [] ns ns w22 w22.heap.size Reads.none_ RA3_120.out Reads.none_ RA5_121.out (Nat.le_refl _) (by unfold maxLen; omega) hln (by unfold maxLen; omega) hln)
        rw [decide_eq_true ⟨rfl, rfl, rfl, rfl⟩] at HSA
        go_wp2_with (first
          | (refine wpList_load_guarded (o := ⟨some 129, _, _, _, _, _⟩) rfl 60 (.tmp 9) rfl g9 0 32 rfl 60 _ (Dg) _ Kg9_116.out Tryz.underlying60 rfl rfl HDS.out (fun _ _ => by rw [Nat.zero_add]; try rfl) ?_)
          | (refine wpList_load_guarded (o := ⟨some 130, _, _, _, _, _⟩) rfl 60 (.tmp 19) rfl g19 0 32 rfl 60 _ (Dg) _ Kg19_124.out Tryz.underlying60 rfl rfl HDS.out (fun _ _ => by rw [Nat.zero_add]; try rfl) ?_)
          | (refine wpList_exec_want (o := ⟨some 131, _, _, _, _, _⟩) rfl (.bool false) (exec_neq_agg 60 (.tmp 129) (.tmp 130) _ rfl Dg Dg rfl rfl eqg_digest _ (HNQ.out _)) ?_)
          | (refine wpList_load_guarded (o := ⟨some 134, _, _, _, _, _⟩) rfl 47 (.tmp 7) rfl g7 0 4 rfl 47 _ (anC (er : Int) none 0 0 (pe : Int) A3 nl q3) _ Kg7_115.out Tryz.underlying47 rfl rfl rfl (fun _ _ => by rw [Nat.zero_add]; try rfl) ?_)
          | (refine wpList_load_guarded (o := ⟨some 135, _, _, _, _, _⟩) rfl 47 (.tmp 13) rfl g13 0 4 rfl 47 _ (anC (er : Int) none 0 0 (pe : Int) A5 nl q5) _ Kg13_117.out Tryz.underlying47 rfl rfl rfl (fun _ _ => by rw [Nat.zero_add]; try rfl) ?_))
        refine HSA.out.mono ?_
        rintro _ w23 ⟨rfl, hbw23⟩
        have hsw23 := hbw23.size
        have Kg6_125 := Lib.hid (Kg6_114.out.below' hbw23)
        have Kg7_126 := Lib.hid (Kg7_115.out.below' hbw23)
        have Kg9_127 := Lib.hid (Kg9_116.out.below' hbw23)
        have Kg13_128 := Lib.hid (Kg13_117.out.below' hbw23)
        have Kg15_129 := Lib.hid (Kg15_118.out.below' hbw23)
        have Kg17_130 := Lib.hid (Kg17_119.out.below' hbw23)
        have Kg19_131 := Lib.hid (Kg19_124.out.below' hbw23)
        have RA3_132 := Lib.hid ((RA3_120.out.below hbw23).more hbw23.size)
        have RA5_133 := Lib.hid ((RA5_121.out.below hbw23).more hbw23.size)
        have RA6_134 := Lib.hid ((RA6_122.out.below hbw23).more hbw23.size)
        have HL_135 := Lib.hid (HL_123.out.below hbw23)
        clear Kg6_114 Kg7_115 Kg9_116 Kg13_117 Kg15_118 Kg17_119 Kg19_124 RA3_120 RA5_121 RA6_122 HL_123
        clear hbw23 HSA
        have HSA := Lib.hid (sameAnswer_any (er : Int) (er : Int) (pe : Int) (pe : Int) none 0 0 A3 nl q3 none 0 0 A6 nl q6 [] [] ns ns w23 w23.heap.size Reads.none_ RA3_132.out Reads.none_ RA6_134.out (Nat.le_refl _) (by unfold maxLen; omega) hln (by unfold maxLen; omega) hln)
        rw [decide_eq_true ⟨rfl, rfl, rfl, rfl⟩] at HSA
        go_wp2_with (first
          | (refine wpList_load_guarded (o := ⟨some 140, _, _, _, _, _⟩) rfl 47 (.tmp 7) rfl g7 0 4 rfl 47 _ (anC (er : Int) none 0 0 (pe : Int) A3 nl q3) _ Kg7_126.out Tryz.underlying47 rfl rfl rfl (fun _ _ => by rw [Nat.zero_add]; try rfl) ?_)
          | (refine wpList_load_guarded (o := ⟨some 141, _, _, _, _, _⟩) rfl 47 (.tmp 15) rfl g15 0 4 rfl 47 _ (anC (er : Int) none 0 0 (pe : Int) A6 nl q6) _ Kg15_129.out Tryz.underlying47 rfl rfl rfl (fun _ _ => by rw [Nat.zero_add]; try rfl) ?_))
        refine HSA.out.mono ?_
        rintro _ w24 ⟨rfl, hbw24⟩
        have hsw24 := hbw24.size
        have Kg6_136 := Lib.hid (Kg6_125.out.below' hbw24)
        have Kg7_137 := Lib.hid (Kg7_126.out.below' hbw24)
        have Kg9_138 := Lib.hid (Kg9_127.out.below' hbw24)
        have Kg13_139 := Lib.hid (Kg13_128.out.below' hbw24)
        have Kg15_140 := Lib.hid (Kg15_129.out.below' hbw24)
        have Kg17_141 := Lib.hid (Kg17_130.out.below' hbw24)
        have Kg19_142 := Lib.hid (Kg19_131.out.below' hbw24)
        have RA3_143 := Lib.hid ((RA3_132.out.below hbw24).more hbw24.size)
        have RA5_144 := Lib.hid ((RA5_133.out.below hbw24).more hbw24.size)
        have RA6_145 := Lib.hid ((RA6_134.out.below hbw24).more hbw24.size)
        have HL_146 := Lib.hid (HL_135.out.below hbw24)
        clear Kg6_125 Kg7_126 Kg9_127 Kg13_128 Kg15_129 Kg17_130 Kg19_131 RA3_132 RA5_133 RA6_134 HL_135
        clear hbw24 HSA
        have HSA := Lib.hid (sameAnswer_any 172 172 0 0 none 0 0 A7 0 q7 none 0 0 none 0 0 [] [] [] [] w24 w24.heap.size Reads.none_ ⟨rfl, fun h => by omega⟩ Reads.none_ Reads.none_ (Nat.le_refl _) (by unfold maxLen; omega) (by unfold maxLen; omega) (by unfold maxLen; omega) (by unfold maxLen; omega))
        rw [decide_eq_true ⟨rfl, rfl, rfl, rfl⟩] at HSA
        have h172 : anC 172 none 0 0 0 none 0 0 = #[.int .i64 172, .slice none 0 0, .int .i64 0, .slice none 0 0] := rfl
        rw [h172] at HSA
        go_wp2_with ((refine wpList_load_guarded (o := ⟨some 146, _, _, _, _, _⟩) rfl 47 (.tmp 17) rfl g17 0 4 rfl 47 _ (anC 172 none 0 0 0 A7 0 q7) _ Kg17_141.out Tryz.underlying47 rfl rfl rfl (fun _ _ => by rw [Nat.zero_add]; try rfl) ?_))
        refine HSA.out.mono ?_
        rintro _ w25 ⟨rfl, hb25⟩
        have HEND := Lib.hid (show AoSt w V (i + 1) w25 from ⟨p.1, HSTEP.out, (HL_146.out.below hb25).more (by omega) (fun b hb => by cases hb)⟩)
        clear hb25 HSA Kg6_136 Kg7_137 Kg9_138 Kg13_139 Kg15_140 Kg17_141 Kg19_142 RA3_143 RA5_144 RA6_145 HL_146
        go_wp2_with fail
        go_roundw
        case rel => exact ⟨i + 1, by omega, by omega, by go_num, HEND.out⟩
        case measure => simp [intOf]; omega
      · rw [decide_eq_false hlt]
        have HF := Lib.hid HL.out.low
        go_wp2_with fail
        go_ret
        exact ⟨rfl, HF.out⟩

end Go.Proofs.YtdpoedgjehofiaaGreat
