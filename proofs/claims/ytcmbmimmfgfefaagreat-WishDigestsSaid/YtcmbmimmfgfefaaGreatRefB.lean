/-
  Contract of bastideref02.Schedule.
-/
import Derived.Test.YtcmbmimmfgfefaaGreatRefA
import Derived.Test.YtcmbmimmfgfefaaGreatShaOf
namespace Go.Proofs.YtcmbmimmfgfefaaGreat
set_option linter.unusedVariables false
open Go.RowKit

attribute [local go_sem] w_add w_add' w_sub w_sub' w_and w_or w_xor w_not w_shr w_shl w_shl' w_shl8 w_shl8' w_shr3 w_shr10 b32_wrap b32_wrap' w8_wrap w8_wrap' w_shl16' w_shl24' w_shl16 w_shl24

theorem blk_byte (blk : List UInt8) (hbl : blk.length = 64) : ∀ (W : World) (g : Nat), Blk W g 97 (bRow blk) → ∀ j, j < 64 → W.cell? ⟨g, j, none⟩ = some (.int .u8 (bi (blk.getD j 0))) := by
  intro W g h j hj
  have := (bytesAt_row h).getD j (by omega)
  rw [add_off, Nat.zero_add] at this
  exact this

set_option maxRecDepth 100000 in
set_option maxHeartbeats 4000000 in
theorem refSchedule_any (blk : List UInt8) (hbl : blk.length = 64) (w : World) :
    Calls Tryz.prog 69 #[.agg (bRow blk)] w fun e w' => e = .returned (.agg (schedCells blk 64)) ∧ Below w.heap.size w w' := by
  have hbs := bRow_size blk
  rw [hbl] at hbs
  have HBL := Lib.hid hbl
  have hba := blk_byte blk hbl
  have HBA := Lib.hid hba
  have HBS := Lib.hid hbs
  clear hbs hba
  generalize hbr : bRow blk = br at HBS HBA ⊢
  clear hbr
  go_enter Tryz.func69, Tryz.ntmps69
  go_wp2_with fail
  go_loopw [4] (fun i wr => ∃ t : Nat, t ≤ 16 ∧ i = .int .i64 t ∧ Blk wr w.heap.size 97 br ∧ Blk wr (w.heap.size + 1) 113 (schedCells blk 0) ∧ Blk wr (w.heap.size + 1 + 1) 113 (schedCells blk t) ∧ Below w.heap.size w wr) (fun i _ => 16 - (intOf i).toNat)
  case atStart =>
    refine ⟨0, by omega, rfl, ((Blk.new w 97 br).alloc _).alloc _, ?_, ?_, (((Below.refl _ _).alloc (Nat.le_refl _) _).alloc (by simp) _).alloc (by simp; omega) _⟩
    · rw [schedCells_zero]; exact (Blk.newAt (by simp)).alloc _
    · rw [schedCells_zero]; exact Blk.newAt (by simp)
  case round =>
    obtain ⟨t, ht, rfl, hB0, hB1, hB2, hbel⟩ := hrel
    by_cases ht1 : t < 16
    · have e0 : (4 * (t : Int)).toNat = 4 * t := by omega
      have e1 : (4 * (t : Int) + 1).toNat = 4 * t + 1 := by omega
      have e2 : (4 * (t : Int) + 2).toNat = 4 * t + 2 := by omega
      have e3 : (4 * (t : Int) + 3).toNat = 4 * t + 3 := by omega
      have b0 := HBA.out _ _ hB0 (4 * t) (by omega)
      have b1 := HBA.out _ _ hB0 (4 * t + 1) (by omega)
      have b2 := HBA.out _ _ hB0 (4 * t + 2) (by omega)
      have b3 := HBA.out _ _ hB0 (4 * t + 3) (by omega)
      have c0 := (hB2.cell t).trans (schedCells_get0 blk t (by omega))
      have f0 := hB2.frozen t
      unfold vw at c0
      generalize hx0 : blk.getD (4 * t) 0 = x0 at b0
      generalize hx1 : blk.getD (4 * t + 1) 0 = x1 at b1
      generalize hx2 : blk.getD (4 * t + 2) 0 = x2 at b2
      generalize hx3 : blk.getD (4 * t + 3) 0 = x3 at b3
      have HX := Lib.hid (And.intro hx0 (And.intro hx1 (And.intro hx2 hx3)))
      have HB0 := Lib.hid hB0
      have HB1 := Lib.hid hB1
      have HB2 := Lib.hid hB2
      have HBE := Lib.hid hbel
      clear hx0 hx1 hx2 hx3 hB0 hB1 hB2 hbel
      have k0 : IntKind.i64.wrap (4 * (t : Int)) = 4 * (t : Int) := IntWalk.i64_in _ (by omega)
      have k1 : IntKind.i64.wrap (4 * (t : Int) + 1) = 4 * (t : Int) + 1 := IntWalk.i64_in _ (by omega)
      have k2 : IntKind.i64.wrap (4 * (t : Int) + 2) = 4 * (t : Int) + 2 := IntWalk.i64_in _ (by omega)
      have k3 : IntKind.i64.wrap (4 * (t : Int) + 3) = 4 * (t : Int) + 3 := IntWalk.i64_in _ (by omega)
      have l0 : 0 ≤ 4 * (t : Int) ∧ 4 * (t : Int) < 64 := by omega
      have l1 : 0 ≤ 4 * (t : Int) + 1 ∧ 4 * (t : Int) + 1 < 64 := by omega
      have l2 : 0 ≤ 4 * (t : Int) + 2 ∧ 4 * (t : Int) + 2 < 64 := by omega
      have l3 : 0 ≤ 4 * (t : Int) + 3 ∧ 4 * (t : Int) + 3 < 64 := by omega
      have lt : (t : Int) < 64 := by omega
      obtain ⟨l00, l01⟩ := l0
      obtain ⟨l10, l11⟩ := l1
      obtain ⟨l20, l21⟩ := l2
      obtain ⟨l30, l31⟩ := l3
      go_wp2_with fail
      refine wp_region_still_drew 31 (by kernel_rfl) (by kernel_rfl) ?_
      simp only [List.take_succ_cons, List.take_zero, List.drop_succ_cons, List.drop_zero]
      repeat still_step
      refine wpStill_nil ?_
      go_wp2_with fail
      go_roundw
      case rel =>
        obtain ⟨h0, h1, h2, h3⟩ := HX.out
        have hn : nextW blk (schedTo blk t) t = b32 x0 <<< 24 + b32 x1 <<< 16 + b32 x2 <<< 8 + b32 x3 := by rw [nextW, if_pos ht1, h0, h1, h2, h3, be4_sum]
        have hs := HB2.out.drew.set_ t (vw (nextW blk (schedTo blk t) t))
        rw [schedCells_next blk t (by omega), hn] at hs
        exact ⟨t + 1, by omega, by go_num, HB0.out.drew.far (p := ⟨w.heap.size + 1 + 1, t, none⟩) (by simp; omega) _, HB1.out.drew.far (p := ⟨w.heap.size + 1 + 1, t, none⟩) (by simp) _, hs, HBE.out.drew.setCell (p := ⟨w.heap.size + 1 + 1, t, none⟩) (by simp; omega) _⟩
      case measure => simp [intOf]; omega
    · obtain rfl : t = 16 := by omega
      clear HBA HBS
      go_wp2_with fail
      go_loopw [5] (fun i wr => ∃ t : Nat, 16 ≤ t ∧ t ≤ 64 ∧ i = .int .i64 t ∧ Blk wr (w.heap.size + 1) 113 (schedCells blk 0) ∧ Blk wr (w.heap.size + 1 + 1) 113 (schedCells blk t) ∧ Below w.heap.size w wr) (fun i _ => 64 - (intOf i).toNat)
      case atStart => exact ⟨16, by omega, by omega, rfl, hB1, hB2, hbel⟩
      case round =>
        clear hB0 hB1 hB2 hbel ht ht1
        obtain ⟨t, ht16, ht, rfl, hB1, hB2, hbel⟩ := hrel
        by_cases ht1 : t < 64
        · have e1 : (((t : Int) - 15).toNat) = t - 15 := by omega
          have e2 : (((t : Int) - 2).toNat) = t - 2 := by omega
          have e3 : (((t : Int) - 16).toNat) = t - 16 := by omega
          have e4 : (((t : Int) - 7).toNat) = t - 7 := by omega
          have c1 := (hB2.cell (t - 15)).trans (schedCells_get blk t (t - 15) (by omega) ht)
          have c2 := (hB2.cell (t - 2)).trans (schedCells_get blk t (t - 2) (by omega) ht)
          have c3 := (hB2.cell (t - 16)).trans (schedCells_get blk t (t - 16) (by omega) ht)
          have c4 := (hB2.cell (t - 7)).trans (schedCells_get blk t (t - 7) (by omega) ht)
          have c0 := (hB2.cell t).trans (schedCells_get0 blk t ht1)
          have f0 := hB2.frozen t
          unfold vw at c0 c1 c2 c3 c4
          generalize hx1 : (schedTo blk t).getD (t - 15) 0 = x1 at c1
          generalize hx2 : (schedTo blk t).getD (t - 2) 0 = x2 at c2
          generalize hx3 : (schedTo blk t).getD (t - 16) 0 = x3 at c3
          generalize hx4 : (schedTo blk t).getD (t - 7) 0 = x4 at c4
          have HX := Lib.hid (And.intro hx1 (And.intro hx2 (And.intro hx3 hx4)))
          have HB1 := Lib.hid hB1
          have HB2 := Lib.hid hB2
          have HBE := Lib.hid hbel
          clear hx1 hx2 hx3 hx4 hB1 hB2 hbel
          go_wp2
          go_quiet (fail)
          go_wp2_with fail
          have w16 : IntKind.i64.wrap ((t : Int) - 16) = (t : Int) - 16 := IntWalk.i64_in _ (by omega)
          have w7 : IntKind.i64.wrap ((t : Int) - 7) = (t : Int) - 7 := IntWalk.i64_in _ (by omega)
          have b16 : (t : Int) - 16 < 64 := by omega
          have b77 : (7 : Int) ≤ t := by omega
          have b17 : (16 : Int) ≤ t := by omega
          have b7 : (t : Int) - 7 < 64 := by omega
          refine wp_region_quiet_tail_drew 29 (by kernel_rfl) (by kernel_rfl) ?_
          simp only [List.take_succ_cons, List.take_zero, List.drop_succ_cons, List.drop_zero]
          repeat quiet_step ((go_at_call 70; first | exact refRor_quietA _ _ (by omega) (by omega) _ _ _ | exact refRor_quiet _ _ (by omega) (by omega) _ _))
          refine wpQuiet_nil ?_
          intro _ hw'
          obtain ⟨nr, hw''⟩ := hw'
          subst hw''
          go_wp2_with fail
          go_roundw
          case rel =>
            obtain ⟨h1, h2, h3, h4⟩ := HX.out
            have hn : nextW blk (schedTo blk t) t = x3 + sml0 x1 + x4 + sml1 x2 := by rw [nextW, if_neg (by omega), h1, h2, h3, h4]
            have hs := (HB2.out.drewN (nq + nr)).set_ t (vw (nextW blk (schedTo blk t) t))
            rw [schedCells_next blk t ht1, hn] at hs
            repeat apply Exists.intro
            exact ⟨⟨t + 1, by omega, by omega, by go_num, (HB1.out.drewN (nq + nr)).far (p := ⟨w.heap.size + 1 + 1, t, none⟩) (by simp) _, hs, (below_drewN HBE.out (nq + nr)).setCell (p := ⟨w.heap.size + 1 + 1, t, none⟩) (by simp; omega) _⟩, rfl⟩
          case measure => simp [intOf]; omega
        · obtain rfl : t = 64 := by omega
          have hss : (schedCells blk 64).size = 64 := rng_size _ _
          have hso : (schedCells blk 64).all (·.oneCell') = true := by unfold schedCells schedF; simp [rng, vw, Value.oneCell']
          have hs0 : (schedCells blk 0).size = 64 := rng_size _ _
          have HSS := Lib.hid hss
          have HS0 := Lib.hid hs0
          have HSO := Lib.hid hso
          have HB1 := Lib.hid hB1
          have HB2 := Lib.hid hB2
          have HBE := Lib.hid hbel
          clear hss hso hs0 hB1 hB2 hbel
          generalize hsc : schedCells blk 64 = sc at HSS HSO HB2
          have HSC := Lib.hid hsc
          clear hsc
          generalize schedCells blk 0 = sz at HS0 HB1
          go_wp2_with (first
            | (refine wpList_load_part rfl 113 (.tmp 3) rfl (w.heap.size + 1 + 1) 0 64 rfl 113 _ sc _ HB2.out Tryz.underlying113 rfl rfl HSS.out (fun _ _ => by rw [Nat.zero_add]) ?_)
            | (refine wpList_store_part rfl 113 (.tmp 2) (.tmp 84) rfl (w.heap.size + 1) 0 sc rfl rfl 113 _ HB1.out (by rw [HSS.out]; rfl) (by rw [HSS.out, HS0.out]; simp) HSO.out ?_; intro W5 hT5 hB5; rw [spl_self _ _ (by rw [HSS.out, HS0.out])] at hB5))
          refine bodyPost_ret (results_part rfl _ _ (w.heap.size + 1) 64 113 _ _ rfl hB5 Tryz.underlying113 rfl rfl HSS.out) rfl ⟨by rw [HSC.out], hT5.below HBE.out (by omega)⟩

end Go.Proofs.YtcmbmimmfgfefaaGreat
