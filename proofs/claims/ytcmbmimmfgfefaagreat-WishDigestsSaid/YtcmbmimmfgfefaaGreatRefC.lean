/-
  Contract of bastideref02.Round.
-/
import Derived.Test.YtcmbmimmfgfefaaGreatRefB
import Derived.Test.YtcmbmimmfgfefaaGreatCalm
namespace Go.Proofs.YtcmbmimmfgfefaaGreat
set_option linter.unusedVariables false
open Go.RowKit

attribute [local go_sem] w_add w_add' w_sub w_sub' w_and w_or w_xor w_not w_shr w_shl w_shl' w_shl8 w_shl8' w_shr3 w_shr10 b32_wrap b32_wrap' w8_wrap w8_wrap' w_shl16' w_shl24' w_shl16 w_shl24
attribute [local go_sem] u32_signed u32_max

theorem calls_regrown_below {P : Program} {f : FuncId} {args : Array Value} {w : World} {d : Nat} {os : Array Obj} {v : Value} (h : ∀ W, Below w.heap.size w W → Calls P f args W fun e w' => e = .returned v ∧ Below W.heap.size W w') :
    Calls P f args (Sort.grow (redrawn w d) os) fun e w'' => e = .returned v ∧ ∃ p : Regrown, w'' = Sort.grow (redrawn w p.d) p.os :=
  Calls.regrown_of (h _ (below_regrown w d os))

set_option maxRecDepth 100000 in
set_option maxHeartbeats 4000000 in
theorem refRound_any (S : St) (blk : List UInt8) (hbl : blk.length = 64) (w : World) :
    Calls Tryz.prog 59 #[.agg S.vals, .agg (bRow blk)] w fun e w' => e = .returned (.agg (compress S blk).vals) ∧ Below w.heap.size w w' := by
  have hbs := bRow_size blk
  rw [hbl] at hbs
  have HBS := Lib.hid hbs
  have HON := Lib.hid (bRow_one blk)
  have HSC := Lib.hid (refSchedule_any blk hbl)
  have hkz := kRow_size
  have hko := kRow_one
  have hss : (schedCells blk 64).size = 64 := rng_size _ _
  have hso : (schedCells blk 64).all (·.oneCell') = true := by unfold schedCells schedF; simp [rng, vw, Value.oneCell']
  have hka : ∀ j, j < 64 → kRow[j]? = some (.int .u32 (wi (kc.getD j 0))) := fun j hj => rng_get _ _ _ hj
  have hsa : ∀ j, j < 64 → (schedCells blk 64)[j]? = some (.int .u32 (wi ((schedTo blk 64).getD j 0))) := fun j hj => schedCells_get blk 64 j hj (Nat.le_refl _)
  have HKZ := Lib.hid hkz
  have HKO := Lib.hid hko
  have HSS := Lib.hid hss
  have HSO := Lib.hid hso
  have HKA := Lib.hid hka
  have HSA := Lib.hid hsa
  have HR := Lib.hid refRoots_any
  clear hbs hkz hko hss hso hka hsa
  generalize hbr : bRow blk = br at HBS HON HSC ⊢
  have HBR := Lib.hid hbr
  clear hbr
  generalize schedCells blk 64 = sc at HSC HSS HSO HSA
  generalize kRow = kr at HKZ HKO HKA HR
  go_enter Tryz.func59, Tryz.ntmps59
  go_wp2_with fail
  have hA1 := ((Blk.new w 95 S.vals).alloc (.cells br 97)).alloc (.cells (rng 8 z32) 95)
  have hA2 : Blk (((w.alloc (.cells S.vals 95)).alloc (.cells br 97)).alloc (.cells (rng 8 z32) 95)) (w.heap.size + 1) 97 br := (Blk.newAt (by simp)).alloc _
  have hA3 : Blk (((w.alloc (.cells S.vals 95)).alloc (.cells br 97)).alloc (.cells (rng 8 z32) 95)) (w.heap.size + 1 + 1) 95 (rng 8 z32) := Blk.newAt (by simp)
  have hAb : Below w.heap.size w (((w.alloc (.cells S.vals 95)).alloc (.cells br 97)).alloc (.cells (rng 8 z32) 95)) := (((Below.refl _ _).alloc (Nat.le_refl _) _).alloc (by simp) _).alloc (by simp; omega) _
  have hAs : (((w.alloc (.cells S.vals 95)).alloc (.cells br 97)).alloc (.cells (rng 8 z32) 95)).heap.size = w.heap.size + 1 + 1 + 1 := by simp
  rw [zeros8r] at hA1 hA2 hA3 hAb hAs
  generalize ((w.alloc _).alloc _).alloc _ = W at hA1 hA2 hA3 hAb hAs ⊢
  refine wp_region_calm 5 114 (fun t => rng 64 z32) (by kernel_rfl) (by kernel_rfl) (by simp) ?_ ?_
  · intro i o d t hi ho ha a w
    match i, hi with
    | 0, _ | 1, _ | 2, _ => simp only [List.getElem?_toArray, List.getElem?_cons_zero, List.getElem?_cons_succ] at ho; injection ho with ho; subst ho; simp [isAlloc] at ha
    | 3, _ | 4, _ =>
      simp only [List.getElem?_toArray, List.getElem?_cons_zero, List.getElem?_cons_succ] at ho
      injection ho with ho
      subst ho
      simp only [isAlloc, Option.some.injEq, Prod.mk.injEq] at ha
      obtain ⟨rfl, rfl⟩ := ha
      go_simp
      exact ⟨rfl, rfl⟩
  simp only [List.take_succ_cons, List.take_zero, List.drop_succ_cons, List.drop_zero]
  refine wpCalm_call rfl rfl 68 #[] (fun W => by go_simp) (.agg kr) (fun W _ => HR.out W) ?_
  simp only [Act.put, List.setIfInBounds_toArray, List.set_cons_zero, List.set_cons_succ]
  refine wpCalm_load_part rfl 97 (.tmp 3) rfl (w.heap.size + 1) 0 64 rfl 97 _ br _ hA2 Tryz.underlying97 rfl rfl HBS.out (fun _ _ => by rw [Nat.zero_add]) ?_
  simp only [Act.put, List.setIfInBounds_toArray, List.set_cons_zero, List.set_cons_succ]
  refine wpCalm_call rfl rfl 69 #[.agg br] (fun W => by go_simp) (.agg sc) (fun W _ => HSC.out W) ?_
  simp only [Act.put, List.setIfInBounds_toArray, List.set_cons_zero, List.set_cons_succ]
  refine wpCalm_alloc rfl fun g5 => ?_
  refine wpCalm_alloc rfl fun g6 => ?_
  simp only [Act.put, List.setIfInBounds_toArray, List.set_cons_zero, List.set_cons_succ]
  refine wpCalm_nil ?_
  intro W1 hb1 hM
  obtain ⟨g5', e5, hg5, hB5⟩ := hM.fact 3 _ _ _ (by omega) trivial rfl rfl
  obtain ⟨g6', e6, hg6, hB6⟩ := hM.fact 4 _ _ _ (by omega) trivial rfl rfl
  have hne := hM.apart 3 4 _ _ _ _ _ _ g5 g6 (by omega) (by omega) trivial trivial (by omega) rfl rfl rfl rfl rfl rfl
  obtain rfl : g5 = g5' := by simpa [ptr0] using e5
  obtain rfl : g6 = g6' := by simpa [ptr0] using e6
  unfold ptr0
  have hA1' := Lib.hid (hA1.below hb1 hA1.lt)
  have hA3' := Lib.hid (hA3.below hb1 hA3.lt)
  have hE1 := Lib.hid (hAb.trans (hb1.mono hAb.size))
  have hsz1 := hb1.size
  have hl1 : w.heap.size + 1 + 1 < g5 := by omega
  have hl2 : w.heap.size + 1 + 1 < g6 := by omega
  have HB5 := Lib.hid hB5
  have HB6 := Lib.hid hB6
  have HNE := Lib.hid hne
  clear hB5 hB6 hne hM e5 e6 hb1 hA1 hA2 hA3 hAb hg5 hg6
  have HV := Lib.hid (vals_all S)
  generalize hsv : S.vals = sv at HV hA1' ⊢
  have HSV := Lib.hid hsv
  have hsz : sv.size = 8 := by rw [← hsv]; rfl
  have HSZ := Lib.hid hsz
  clear hsv hsz
  go_wp2_with (first
    | (refine wpList_store_part rfl 113 (.tmp 5) (.tmp 18) rfl g5 0 kr rfl rfl 113 _ HB5.out (by rw [HKZ.out]; rfl) (by rw [HKZ.out, rng_size]; omega) HKO.out ?_; intro W2 hT2 hB5; rw [spl_self _ _ (by rw [HKZ.out, rng_size])] at hB5; have hB6 := hT2.blk HB6.out (Ne.symm HNE.out); have hE2 := hT2.below hE1.out (by omega); have hA12 := hT2.blk hA1'.out (by omega); have hA32 := hT2.blk hA3'.out (by omega); clear hT2)
    | (refine wpList_store_part rfl 113 (.tmp 6) (.tmp 20) rfl g6 0 sc rfl rfl 113 _ hB6 (by rw [HSS.out]; rfl) (by rw [HSS.out, rng_size]; omega) HSO.out ?_; intro W3 hT3 hB63; rw [spl_self _ _ (by rw [HSS.out, rng_size])] at hB63; have hB53 := hT3.blk hB5 HNE.out; have hE3 := hT3.below hE2 (by omega); have hA13 := hT3.blk hA12 (by omega); have hA33 := hT3.blk hA32 (by omega); clear hT3 hB5 hB6 hE2 hA12 hA32)
    | (refine wpList_load_part rfl 95 (.tmp 2) rfl w.heap.size 0 8 rfl 95 _ sv _ hA13 Tryz.underlying95 rfl rfl HSZ.out (fun _ _ => by rw [Nat.zero_add]) ?_)
    | (refine wpList_store_part rfl 95 (.tmp 7) (.tmp 21) rfl W3.heap.size 0 sv rfl rfl 95 _ (Blk.newAt rfl) (by rw [HSZ.out]; rfl) (by rw [HSZ.out]; simp) HV.out ?_; intro W4 hT4 hB74; rw [spl_self _ _ (by rw [HSZ.out]; simp)] at hB74; have hB54 := hT4.blk (hB53.alloc _) (Nat.ne_of_lt hB53.lt); have hB64 := hT4.blk (hB63.alloc _) (Nat.ne_of_lt hB63.lt); have hE4 := hT4.below (hE3.alloc hE3.size _) hE3.size; have hA14 := hT4.blk (hA13.alloc _) (Nat.ne_of_lt hA13.lt); have hA34 := hT4.blk (hA33.alloc _) (Nat.ne_of_lt hA33.lt)))
  have hg5 := hB53.lt
  have hg6 := hB63.lt
  have hsz3 := hE3.size
  have hg0 := hA13.lt
  have hg2 := hA33.lt
  obtain ⟨g7, hg7⟩ : ∃ g7, g7 = W3.heap.size := ⟨_, rfl⟩
  rw [← hg7] at hB74 hg5 hg6 hg0 hg2 hT4 hsz3 ⊢
  clear hg7 hT4 hB53 hB63 hA13 hA33 hE3
  rw [← HSV.out] at hB74 hA14
  have H5 := Lib.hid hB54
  have H6 := Lib.hid hB64
  have H1 := Lib.hid hA14
  have H3 := Lib.hid hA34
  have HE := Lib.hid hE4
  have H7 := Lib.hid hB74
  clear hB54 hB64 hA14 hA34 hE4 hB74
  go_wp2_with fail
  go_loopw [8] (fun i wr => ∃ t : Nat, t ≤ 64 ∧ i = .int .i64 t ∧ Blk wr g7 95 (roundsTo S (schedTo blk 64) t).vals ∧ Turned g7 W4 wr) (fun i _ => 64 - (intOf i).toNat)
  case atStart => exact ⟨0, by omega, rfl, H7.out, Turned.refl _ _⟩
  case round =>
    obtain ⟨t, ht, rfl, hB7, hT⟩ := hrel
    generalize hst : roundsTo S (schedTo blk 64) t = R at hB7
    have HST := Lib.hid hst
    clear hst
    obtain ⟨sa, sb, sc', sd, se, sf, sg, sh⟩ := R
    by_cases ht1 : t < 64
    · have ck := ((hT.blk H5.out (Nat.ne_of_lt hg5)).cell t).trans (HKA.out t ht1)
      have cs := ((hT.blk H6.out (Nat.ne_of_lt hg6)).cell t).trans (HSA.out t ht1)
      have q := (row_cells8 hB7).1
      generalize hx1 : kc.getD t 0 = x1 at ck
      generalize hx2 : (schedTo blk 64).getD t 0 = x2 at cs
      have HX := Lib.hid (And.intro hx1 hx2)
      have HB7 := Lib.hid hB7
      have HT := Lib.hid hT
      clear hx1 hx2 hB7 hT
      go_wp2
      go_quiet (fail)
      go_wp2_with fail
      go_quiet ((go_at_call 70; first | exact refRor_quietA _ _ (by omega) (by omega) _ _ _ | exact refRor_quiet _ _ (by omega) (by omega) _ _))
      go_wp2_with (first
        | (go_at_call 70; refine (refRor_w _ _ (by omega) (by omega) _).mono ?_; rintro _ _ ⟨rfl, nk, rfl⟩)
        | (refine wpList_store_part rfl 95 (.tmp 7) (.tmp 99) rfl g7 0 (rstep ⟨sa, sb, sc', sd, se, sf, sg, sh⟩ x1 x2).vals rfl rfl 95 _ (HB7.out.drewN _) (by rw [vals_size]; rfl) (by rw [vals_size, vals_size]; omega) (vals_all _) ?_; intro W6 hT6 hB6; rw [spl_self _ _ (by rw [vals_size, vals_size])] at hB6))
      go_roundw
      case rel =>
        obtain ⟨h1, h2⟩ := HX.out
        have hst : rstep ⟨sa, sb, sc', sd, se, sf, sg, sh⟩ x1 x2 = roundsTo S (schedTo blk 64) (t + 1) := by rw [roundsTo, HST.out, h1, h2]
        rw [hst] at hB6
        exact ⟨t + 1, by omega, by go_num, hB6, (HT.out.drewN _).trans hT6⟩
      case measure => simp [intOf]; omega
    · obtain rfl : t = 64 := by omega
      have hB1 := hT.blk H1.out (Nat.ne_of_lt hg0)
      have hB3 := hT.blk H3.out (Nat.ne_of_lt hg2)
      have hE := hT.below HE.out (by omega)
      have HT0 := Lib.hid hT
      have H1' := Lib.hid hB1
      have H3' := Lib.hid hB3
      have HE' := Lib.hid hE
      have HB7 := Lib.hid hB7
      clear hB1 hB3 hE hB7 hT
      go_wp2_with fail
      go_loopw [17] (fun i wr => ∃ k : Nat, k ≤ 8 ∧ i = .int .i64 k ∧ Blk wr g7 95 (addCells ⟨sa, sb, sc', sd, se, sf, sg, sh⟩ S k) ∧ Turned g7 W4 wr) (fun i _ => 8 - (intOf i).toNat)
      case atStart => exact ⟨0, by omega, rfl, by rw [addCells_zero]; exact HB7.out, HT0.out⟩
      case round =>
        obtain ⟨k, hk, rfl, hB7, hT⟩ := hrel
        by_cases hk1 : k < 8
        · obtain ⟨u, v, hu, hv, hc, hi⟩ := addCells_at ⟨sa, sb, sc', sd, se, sf, sg, sh⟩ S k hk1
          have hcell := (hB7.cell k).trans hc
          have hcell2 := ((hT.blk H1.out (Nat.ne_of_lt hg0)).cell k).trans hi
          have hfz := hB7.frozen k
          unfold vw at hcell hcell2
          have HH := Lib.hid (And.intro hu (And.intro hv (And.intro hc hi)))
          have HB := Lib.hid hB7
          have HT := Lib.hid hT
          clear hu hv hc hi hB7 hT
          have lk : (k : Int) < 8 := by omega
          go_wp2_with fail
          refine wp_region_still_drew 9 (by kernel_rfl) (by kernel_rfl) ?_
          simp only [List.take_succ_cons, List.take_zero, List.drop_succ_cons, List.drop_zero]
          repeat still_step
          refine wpStill_nil ?_
          go_wp2_with fail
          go_roundw
          case rel =>
            obtain ⟨h1, h2, _, _⟩ := HH.out
            have hs := HB.out.drew.set_ k (vw (u + v))
            have he := addCells_next ⟨sa, sb, sc', sd, se, sf, sg, sh⟩ S k
            rw [← h1, ← h2] at he
            rw [he] at hs
            repeat apply Exists.intro
            exact ⟨⟨k + 1, by omega, by go_num, hs, (HT.out.drewN 1).trans (Turned.setCell _ ⟨g7, k, none⟩ _)⟩, rfl⟩
          case measure => simp [intOf]; omega
        · obtain rfl : k = 8 := by omega
          have hcomm : (St.add ⟨sa, sb, sc', sd, se, sf, sg, sh⟩ S) = compress S blk := by
            rw [compress, HST.out]
            simp only [St.add, BitVec.add_comm]
          rw [addCells_8, hcomm] at hB7
          have hB3 := hT.blk H3.out (Nat.ne_of_lt hg2)
          have hE := hT.below HE.out (by omega)
          have HVA := Lib.hid (vals_all (compress S blk))
          have HZ := Lib.hid (vals_size (compress S blk))
          have HB7 := Lib.hid hB7
          have HB3 := Lib.hid hB3
          have HE := Lib.hid hE
          clear hB7 hB3 hE hT hcomm
          generalize hcv : (compress S blk).vals = cv at HVA HB7 HZ
          have HCV := Lib.hid hcv
          clear hcv
          go_wp2_with (first
            | (refine wpList_load_part rfl 95 (.tmp 7) rfl g7 0 8 rfl 95 _ cv _ HB7.out Tryz.underlying95 rfl rfl HZ.out (fun _ _ => by rw [Nat.zero_add]) ?_)
            | (refine wpList_store_part rfl 95 (.tmp 4) (.tmp 113) rfl (w.heap.size + 1 + 1) 0 cv rfl rfl 95 _ HB3.out (by rw [HZ.out]; rfl) (by rw [HZ.out]; simp) HVA.out ?_; intro W6 hT6 hB6; rw [spl_self _ _ (by rw [HZ.out]; simp)] at hB6))
          refine bodyPost_ret (results_part rfl _ _ (w.heap.size + 1 + 1) 8 95 _ _ rfl hB6 Tryz.underlying95 rfl rfl HZ.out) rfl ⟨by rw [HCV.out], hT6.below HE.out (by omega)⟩

end Go.Proofs.YtcmbmimmfgfefaaGreat
