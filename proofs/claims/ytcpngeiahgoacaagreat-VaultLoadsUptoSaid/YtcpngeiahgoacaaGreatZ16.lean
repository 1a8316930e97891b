/- Parts of the proof, in one text: RefC, RefD, RefE. -/
import Derived.Test.YtcpngeiahgoacaaGreatZ15
import Derived.Test.YtcpngeiahgoacaaGreatZ5
import Derived.Test.YtcpngeiahgoacaaGreatZ4

/- Contract of bastideref02.Round. -/
namespace Go.Proofs.YtcpngeiahgoacaaGreat
set_option linter.unusedVariables false
open Go.RowKit

attribute [local go_sem] w_add w_add' w_sub w_sub' w_and w_or w_xor w_not w_shr w_shl w_shl' w_shl8 w_shl8' w_shr3 w_shr10 b32_wrap b32_wrap' w8_wrap w8_wrap' w_shl16' w_shl24' w_shl16 w_shl24
attribute [local go_sem] u32_signed u32_max

set_option maxRecDepth 100000 in
set_option maxHeartbeats 4000000 in
theorem refRound_any (S : St) (blk : List UInt8) (hbl : blk.length = 64) (w : World) :
    Calls Tryz.prog 226 #[.agg S.vals, .agg (bRow blk)] w fun e w' => e = .returned (.agg (compress S blk).vals) ∧ Below w.heap.size w w' := by
  have hbs := bRow_size blk
  rw [hbl] at hbs
  have HBS := Lib.hid hbs
  have HON := Lib.hid (bRow_one blk)
  have HSC := Lib.hid (refSchedule_any blk hbl)
  have hkz := kRow_size
  have hko := kRow_one
  have hss : (schedCells blk 64).size = 64 := rng_size _ _
  have hso : (schedCells blk 64).all (·.oneCell') = true := by unfold schedCells schedF; simp [rng, vw, Value.oneCell']
  have hka : ∀ j, j < 64 → kRow[j]? = some (.int .u32 (wi (kc.getD j 0))) := fun j hj => rng_get _ _ _ hj
  have hsa : ∀ j, j < 64 → (schedCells blk 64)[j]? = some (.int .u32 (wi ((schedTo blk 64).getD j 0))) := fun j hj => schedCells_get blk 64 j hj (Nat.le_refl _)
  have HKZ := Lib.hid hkz
  have HKO := Lib.hid hko
  have HSS := Lib.hid hss
  have HSO := Lib.hid hso
  have HKA := Lib.hid hka
  have HSA := Lib.hid hsa
  have HR := Lib.hid refRoots_any
  clear hbs hkz hko hss hso hka hsa
  generalize hbr : bRow blk = br at HBS HON HSC ⊢
  have HBR := Lib.hid hbr
  clear hbr
  generalize schedCells blk 64 = sc at HSC HSS HSO HSA
  generalize kRow = kr at HKZ HKO HKA HR
  go_enter Tryz.func226, Tryz.ntmps226
  go_wp2_with fail
  have hA1 := ((Blk.new w 274 S.vals).alloc (.cells br 275)).alloc (.cells (rng 8 z32) 274)
  have hA2 : Blk (((w.alloc (.cells S.vals 274)).alloc (.cells br 275)).alloc (.cells (rng 8 z32) 274)) (w.heap.size + 1) 275 br := (Blk.newAt (by simp)).alloc _
  have hA3 : Blk (((w.alloc (.cells S.vals 274)).alloc (.cells br 275)).alloc (.cells (rng 8 z32) 274)) (w.heap.size + 1 + 1) 274 (rng 8 z32) := Blk.newAt (by simp)
  have hAb : Below w.heap.size w (((w.alloc (.cells S.vals 274)).alloc (.cells br 275)).alloc (.cells (rng 8 z32) 274)) := (((Below.refl _ _).alloc (Nat.le_refl _) _).alloc (by simp) _).alloc (by simp; omega) _
  have hAs : (((w.alloc (.cells S.vals 274)).alloc (.cells br 275)).alloc (.cells (rng 8 z32) 274)).heap.size = w.heap.size + 1 + 1 + 1 := by simp
  rw [zeros8r] at hA1 hA2 hA3 hAb hAs
  generalize ((w.alloc _).alloc _).alloc _ = W at hA1 hA2 hA3 hAb hAs ⊢
  refine wp_region_calm 5 114 (fun t => rng 64 z32) (by kernel_rfl) (by kernel_rfl) (by simp) ?_ ?_
  · intro i o d t hi ho ha a w
    match i, hi with
    | 0, _ | 1, _ | 2, _ => simp only [List.getElem?_toArray, List.getElem?_cons_zero, List.getElem?_cons_succ] at ho; injection ho with ho; subst ho; simp [isAlloc] at ha
    | 3, _ | 4, _ =>
      simp only [List.getElem?_toArray, List.getElem?_cons_zero, List.getElem?_cons_succ] at ho
      injection ho with ho
      subst ho
      simp only [isAlloc, Option.some.injEq, Prod.mk.injEq] at ha
      obtain ⟨rfl, rfl⟩ := ha
      go_simp
      exact ⟨rfl, rfl⟩
  simp only [List.take_succ_cons, List.take_zero, List.drop_succ_cons, List.drop_zero]
  refine wpCalm_call rfl rfl 240 #[] (fun W => by go_simp) (.agg kr) (fun W _ => HR.out W) ?_
  simp only [Act.put, List.setIfInBounds_toArray, List.set_cons_zero, List.set_cons_succ]
  refine wpCalm_load_part rfl 275 (.tmp 3) rfl (w.heap.size + 1) 0 64 rfl 275 _ br _ hA2 Tryz.underlying275 rfl rfl HBS.out (fun _ _ => by rw [Nat.zero_add]) ?_
  simp only [Act.put, List.setIfInBounds_toArray, List.set_cons_zero, List.set_cons_succ]
  refine wpCalm_call rfl rfl 241 #[.agg br] (fun W => by go_simp) (.agg sc) (fun W _ => HSC.out W) ?_
  simp only [Act.put, List.setIfInBounds_toArray, List.set_cons_zero, List.set_cons_succ]
  refine wpCalm_alloc rfl fun g5 => ?_
  refine wpCalm_alloc rfl fun g6 => ?_
  simp only [Act.put, List.setIfInBounds_toArray, List.set_cons_zero, List.set_cons_succ]
  refine wpCalm_nil ?_
  intro W1 hb1 hM
  obtain ⟨g5', e5, hg5, hB5⟩ := hM.fact 3 _ _ _ (by omega) trivial rfl rfl
  obtain ⟨g6', e6, hg6, hB6⟩ := hM.fact 4 _ _ _ (by omega) trivial rfl rfl
  have hne := hM.apart 3 4 _ _ _ _ _ _ g5 g6 (by omega) (by omega) trivial trivial (by omega) rfl rfl rfl rfl rfl rfl
  obtain rfl : g5 = g5' := by simpa [ptr0] using e5
  obtain rfl : g6 = g6' := by simpa [ptr0] using e6
  unfold ptr0
  have hA1' := Lib.hid (hA1.below hb1 hA1.lt)
  have hA3' := Lib.hid (hA3.below hb1 hA3.lt)
  have hE1 := Lib.hid (hAb.trans (hb1.mono hAb.size))
  have hsz1 := hb1.size
  have hl1 : w.heap.size + 1 + 1 < g5 := by omega
  have hl2 : w.heap.size + 1 + 1 < g6 := by omega
  have HB5 := Lib.hid hB5
  have HB6 := Lib.hid hB6
  have HNE := Lib.hid hne
  clear hB5 hB6 hne hM e5 e6 hb1 hA1 hA2 hA3 hAb hg5 hg6
  have HV := Lib.hid (vals_all S)
  generalize hsv : S.vals = sv at HV hA1' ⊢
  have HSV := Lib.hid hsv
  have hsz : sv.size = 8 := by rw [← hsv]; rfl
  have HSZ := Lib.hid hsz
  clear hsv hsz
  go_wp2_with (first
    | (refine wpList_store_part rfl 273 (.tmp 5) (.tmp 18) rfl g5 0 kr rfl rfl 273 _ HB5.out (by rw [HKZ.out]; rfl) (by rw [HKZ.out, rng_size]; omega) HKO.out ?_; intro W2 hT2 hB5; rw [spl_self _ _ (by rw [HKZ.out, rng_size])] at hB5; have hB6 := hT2.blk HB6.out (Ne.symm HNE.out); have hE2 := hT2.below hE1.out (by omega); have hA12 := hT2.blk hA1'.out (by omega); have hA32 := hT2.blk hA3'.out (by omega); clear hT2)
    | (refine wpList_store_part rfl 273 (.tmp 6) (.tmp 20) rfl g6 0 sc rfl rfl 273 _ hB6 (by rw [HSS.out]; rfl) (by rw [HSS.out, rng_size]; omega) HSO.out ?_; intro W3 hT3 hB63; rw [spl_self _ _ (by rw [HSS.out, rng_size])] at hB63; have hB53 := hT3.blk hB5 HNE.out; have hE3 := hT3.below hE2 (by omega); have hA13 := hT3.blk hA12 (by omega); have hA33 := hT3.blk hA32 (by omega); clear hT3 hB5 hB6 hE2 hA12 hA32)
    | (refine wpList_load_part rfl 274 (.tmp 2) rfl w.heap.size 0 8 rfl 274 _ sv _ hA13 Tryz.underlying274 rfl rfl HSZ.out (fun _ _ => by rw [Nat.zero_add]) ?_)
    | (refine wpList_store_part rfl 274 (.tmp 7) (.tmp 21) rfl W3.heap.size 0 sv rfl rfl 274 _ (Blk.newAt rfl) (by rw [HSZ.out]; rfl) (by rw [HSZ.out]; simp) HV.out ?_; intro W4 hT4 hB74; rw [spl_self _ _ (by rw [HSZ.out]; simp)] at hB74; have hB54 := hT4.blk (hB53.alloc _) (Nat.ne_of_lt hB53.lt); have hB64 := hT4.blk (hB63.alloc _) (Nat.ne_of_lt hB63.lt); have hE4 := hT4.below (hE3.alloc hE3.size _) hE3.size; have hA14 := hT4.blk (hA13.alloc _) (Nat.ne_of_lt hA13.lt); have hA34 := hT4.blk (hA33.alloc _) (Nat.ne_of_lt hA33.lt)))
  have hg5 := hB53.lt
  have hg6 := hB63.lt
  have hsz3 := hE3.size
  have hg0 := hA13.lt
  have hg2 := hA33.lt
  obtain ⟨g7, hg7⟩ : ∃ g7, g7 = W3.heap.size := ⟨_, rfl⟩
  rw [← hg7] at hB74 hg5 hg6 hg0 hg2 hT4 hsz3 ⊢
  clear hg7 hT4 hB53 hB63 hA13 hA33 hE3
  rw [← HSV.out] at hB74 hA14
  have H5 := Lib.hid hB54
  have H6 := Lib.hid hB64
  have H1 := Lib.hid hA14
  have H3 := Lib.hid hA34
  have HE := Lib.hid hE4
  have H7 := Lib.hid hB74
  clear hB54 hB64 hA14 hA34 hE4 hB74
  go_wp2_with fail
  go_loopw [8] (fun i wr => ∃ t : Nat, t ≤ 64 ∧ i = .int .i64 t ∧ Blk wr g7 274 (roundsTo S (schedTo blk 64) t).vals ∧ Turned g7 W4 wr) (fun i _ => 64 - (intOf i).toNat)
  case atStart => exact ⟨0, by omega, rfl, H7.out, Turned.refl _ _⟩
  case round =>
    obtain ⟨t, ht, rfl, hB7, hT⟩ := hrel
    generalize hst : roundsTo S (schedTo blk 64) t = R at hB7
    have HST := Lib.hid hst
    clear hst
    obtain ⟨sa, sb, sc', sd, se, sf, sg, sh⟩ := R
    by_cases ht1 : t < 64
    · have ck := ((hT.blk H5.out (Nat.ne_of_lt hg5)).cell t).trans (HKA.out t ht1)
      have cs := ((hT.blk H6.out (Nat.ne_of_lt hg6)).cell t).trans (HSA.out t ht1)
      have q := (row_cells8 hB7).1
      generalize hx1 : kc.getD t 0 = x1 at ck
      generalize hx2 : (schedTo blk 64).getD t 0 = x2 at cs
      have HX := Lib.hid (And.intro hx1 hx2)
      have HB7 := Lib.hid hB7
      have HT := Lib.hid hT
      clear hx1 hx2 hB7 hT
      go_wp2
      go_quiet (fail)
      go_wp2_with fail
      go_quiet ((go_at_call 242; first | exact refRor_quietA _ _ (by omega) (by omega) _ _ _ | exact refRor_quiet _ _ (by omega) (by omega) _ _))
      go_wp2_with (first
        | (go_at_call 242; refine (refRor_w _ _ (by omega) (by omega) _).mono ?_; rintro _ _ ⟨rfl, nk, rfl⟩)
        | (refine wpList_store_part rfl 274 (.tmp 7) (.tmp 99) rfl g7 0 (rstep ⟨sa, sb, sc', sd, se, sf, sg, sh⟩ x1 x2).vals rfl rfl 274 _ (HB7.out.drewN _) (by rw [vals_size]; rfl) (by rw [vals_size, vals_size]; omega) (vals_all _) ?_; intro W6 hT6 hB6; rw [spl_self _ _ (by rw [vals_size, vals_size])] at hB6))
      go_roundw
      case rel =>
        obtain ⟨h1, h2⟩ := HX.out
        have hst : rstep ⟨sa, sb, sc', sd, se, sf, sg, sh⟩ x1 x2 = roundsTo S (schedTo blk 64) (t + 1) := by rw [roundsTo, HST.out, h1, h2]
        rw [hst] at hB6
        exact ⟨t + 1, by omega, by go_num, hB6, (HT.out.drewN _).trans hT6⟩
      case measure => simp [intOf]; omega
    · obtain rfl : t = 64 := by omega
      have hB1 := hT.blk H1.out (Nat.ne_of_lt hg0)
      have hB3 := hT.blk H3.out (Nat.ne_of_lt hg2)
      have hE := hT.below HE.out (by omega)
      have HT0 := Lib.hid hT
      have H1' := Lib.hid hB1
      have H3' := Lib.hid hB3
      have HE' := Lib.hid hE
      have HB7 := Lib.hid hB7
      clear hB1 hB3 hE hB7 hT
      go_wp2_with fail
      go_loopw [17] (fun i wr => ∃ k : Nat, k ≤ 8 ∧ i = .int .i64 k ∧ Blk wr g7 274 (addCells ⟨sa, sb, sc', sd, se, sf, sg, sh⟩ S k) ∧ Turned g7 W4 wr) (fun i _ => 8 - (intOf i).toNat)
      case atStart => exact ⟨0, by omega, rfl, by rw [addCells_zero]; exact HB7.out, HT0.out⟩
      case round =>
        obtain ⟨k, hk, rfl, hB7, hT⟩ := hrel
        by_cases hk1 : k < 8
        · obtain ⟨u, v, hu, hv, hc, hi⟩ := addCells_at ⟨sa, sb, sc', sd, se, sf, sg, sh⟩ S k hk1
          have hcell := (hB7.cell k).trans hc
          have hcell2 := ((hT.blk H1.out (Nat.ne_of_lt hg0)).cell k).trans hi
          have hfz := hB7.frozen k
          unfold vw at hcell hcell2
          have HH := Lib.hid (And.intro hu (And.intro hv (And.intro hc hi)))
          have HB := Lib.hid hB7
          have HT := Lib.hid hT
          clear hu hv hc hi hB7 hT
          have lk : (k : Int) < 8 := by omega
          go_wp2_with fail
          refine wp_region_still_drew 9 (by kernel_rfl) (by kernel_rfl) ?_
          simp only [List.take_succ_cons, List.take_zero, List.drop_succ_cons, List.drop_zero]
          repeat still_step
          refine wpStill_nil ?_
          go_wp2_with fail
          go_roundw
          case rel =>
            obtain ⟨h1, h2, _, _⟩ := HH.out
            have hs := HB.out.drew.set_ k (vw (u + v))
            have he := addCells_next ⟨sa, sb, sc', sd, se, sf, sg, sh⟩ S k
            rw [← h1, ← h2] at he
            rw [he] at hs
            repeat apply Exists.intro
            exact ⟨⟨k + 1, by omega, by go_num, hs, (HT.out.drewN 1).trans (Turned.setCell _ ⟨g7, k, none⟩ _)⟩, rfl⟩
          case measure => simp [intOf]; omega
        · obtain rfl : k = 8 := by omega
          have hcomm : (St.add ⟨sa, sb, sc', sd, se, sf, sg, sh⟩ S) = compress S blk := by
            rw [compress, HST.out]
            simp only [St.add, BitVec.add_comm]
          rw [addCells_8, hcomm] at hB7
          have hB3 := hT.blk H3.out (Nat.ne_of_lt hg2)
          have hE := hT.below HE.out (by omega)
          have HVA := Lib.hid (vals_all (compress S blk))
          have HZ := Lib.hid (vals_size (compress S blk))
          have HB7 := Lib.hid hB7
          have HB3 := Lib.hid hB3
          have HE := Lib.hid hE
          clear hB7 hB3 hE hT hcomm
          generalize hcv : (compress S blk).vals = cv at HVA HB7 HZ
          have HCV := Lib.hid hcv
          clear hcv
          go_wp2_with (first
            | (refine wpList_load_part rfl 274 (.tmp 7) rfl g7 0 8 rfl 274 _ cv _ HB7.out Tryz.underlying274 rfl rfl HZ.out (fun _ _ => by rw [Nat.zero_add]) ?_)
            | (refine wpList_store_part rfl 274 (.tmp 4) (.tmp 113) rfl (w.heap.size + 1 + 1) 0 cv rfl rfl 274 _ HB3.out (by rw [HZ.out]; rfl) (by rw [HZ.out]; simp) HVA.out ?_; intro W6 hT6 hB6; rw [spl_self _ _ (by rw [HZ.out]; simp)] at hB6))
          refine bodyPost_ret (results_part rfl _ _ (w.heap.size + 1 + 1) 8 274 _ _ rfl hB6 Tryz.underlying274 rfl rfl HZ.out) rfl ⟨by rw [HCV.out], hT6.below HE.out (by omega)⟩

end Go.Proofs.YtcpngeiahgoacaaGreat

/- Contract of bastideref02.Padded. -/
namespace Go.Proofs.YtcpngeiahgoacaaGreat
set_option linter.unusedVariables false
open Go.RowKit

theorem pad_more (n k : Nat) (h : k < padN n) : (((n + 1 + k : Nat) : Int) % 64 != 56) = true := by
  unfold padN at h
  rw [bne_iff_ne]; omega
theorem pad_end (n : Nat) : (((n + 1 + padN n : Nat) : Int) % 64 != 56) = false := by
  unfold padN
  rw [bne_eq_false_iff_eq]; omega
theorem padN_lt (n : Nat) : padN n < 64 := by unfold padN; omega
theorem be8_at (n j : Nat) (h : j < 8) : (be8 n).take (j + 1) = (be8 n).take j ++ [UInt8.ofNat (8 * n / 2 ^ (8 * (7 - j)))] := by
  rw [List.take_succ_eq_append_getElem (by rw [be8_len]; exact h)]
  congr 2
  simp [be8]

set_option maxRecDepth 100000 in
set_option maxHeartbeats 1000000 in
theorem refPadded_any (A : Option Addr) (n c : Nat) (xs : List UInt8) (w : World) (B : Nat) (h : Reads w B 1 A n (xs.map vb)) (hB : B ≤ w.heap.size) (hn : n ≤ 140737488355200) :
    Calls Tryz.prog 224 #[.slice A n c] w fun e w' => ∃ v, e = .returned v ∧ OwnB w' w.heap.size v (padded xs) ∧ Below w.heap.size w w' := by
  have hxn : xs.length = n := by have := h.1; simpa using this
  have HXN := Lib.hid hxn
  have hp1 := padN_lt n
  clear hxn
  go_enter Tryz.func224, Tryz.ntmps224
  obtain ⟨i0, hi0, hz0, hz1, hz2⟩ := info_parts u8_info
  have HI0 := Lib.hid hi0
  have HZ0 := Lib.hid hz0
  have HZ1 := Lib.hid hz1
  have HZ2 := Lib.hid hz2
  clear hi0 hz0 hz1 hz2
  go_wp2_with fail
  refine (copyBytes_any A n c xs w B h hB (by omega)).mono ?_
  rintro _ w1 ⟨v1, rfl, hO1, hb1⟩
  have hs1 := hb1.size
  have HO1 := Lib.hid hO1
  have HB1 := Lib.hid hb1
  clear hO1 hb1
  go_wp2_with (at_builtin; go_must (refine wpList_append_any _ rfl (.tmp 7) (.tmp 8) 22 rfl w.heap.size 5 i0 _ 1 1 Tryz.underlying22 HI0.out HZ0.out HZ1.out HZ2.out rfl (by omega) v1 xs.length (xs.map vb) rfl (HO1.out.below ((Below.refl _ _).alloc (Nat.le_refl _) _)) (w1.heap.size + 1) (some ⟨w1.heap.size, 0, none⟩) 1 1 [.int .u8 128] rfl ⟨rfl, fun _ => ⟨_, rfl, by simp, fun j u hu => ?d1⟩⟩ ?c1 ?c2 ?c3 ?c4 ?_))
  case d1 =>
    rw [add_off, Nat.zero_add]
    simp
    simpa using hu
  case c1 => intro u hu; simp at hu; subst hu; rfl
  case c2 => rw [HXN.out]; unfold maxLen; omega
  case c3 => rw [HXN.out]; omega
  case c4 => simp; omega
  intro v2 w2 hown2 hg2 hor2
  have hO2 : OwnB w2 w.heap.size v2 (xs ++ [128]) := by
    unfold OwnB
    rw [List.map_append, List.length_append]
    exact hown2
  have hb2 : Below w.heap.size w w2 := grown_below (HB1.out.alloc hs1 _) (by simp; omega) hg2 (fun b hb => HO1.out.ge hb)
  have HO2 := Lib.hid hO2
  have HB2 := Lib.hid hb2
  clear hown2 hg2 hor2 hO2 hb2
  go_wp2
  go_loopg [3] (padN n) (fun g v wr => ∃ k, k + g = padN n ∧ OwnB wr w.heap.size v (xs ++ [128] ++ List.replicate k 0) ∧ Below w.heap.size w wr)
  case atStart => exact ⟨0, by omega, by simpa using HO2.out, HB2.out⟩
  case round =>
    obtain ⟨k, hk, hO, hbel⟩ := hrel
    have hlen : (xs ++ [128] ++ List.replicate k 0).length = n + 1 + k := by have := HXN.out; simp; omega
    have hO' := hO
    obtain ⟨A1, c1, rfl, hc1, hc2, _, _⟩ := own_slice_b hO
    rw [hlen] at hc1 ⊢
    unfold maxLen at hc2
    have HO := Lib.hid hO'
    have HK := Lib.hid hk
    have HBE := Lib.hid hbel
    have HLE := Lib.hid hlen
    have hsz := hbel.size
    clear hO hO' hlen hbel
    by_cases hlt : k < padN n
    · have ht := pad_more n k hlt
      have hkg : 0 < gk := by omega
      clear hk
      go_wp2_with (at_builtin; go_must (refine wpList_append_any _ rfl (.tmp 14) (.tmp 15) 22 rfl w.heap.size 5 i0 _ 1 1 Tryz.underlying22 HI0.out HZ0.out HZ1.out HZ2.out rfl (by omega) _ (n + 1 + k) ((xs ++ [128] ++ List.replicate k 0).map vb) rfl (by have := HO.out.below ((Below.refl _ _).alloc (Nat.le_refl _) (.cells #[.int .u8 0] 5)); unfold OwnB at this; rw [HLE.out] at this; exact this) (wr.heap.size + 1) (some ⟨wr.heap.size, 0, none⟩) 1 1 [.int .u8 0] rfl ⟨rfl, fun _ => ⟨_, rfl, by simp, fun j u hu => ?d1⟩⟩ ?c1 ?c2 ?c3 ?c4 ?_))
      case d1 =>
        rw [add_off, Nat.zero_add]
        simp
        simpa using hu
      case c1 => intro u hu; simp at hu; subst hu; rfl
      case c2 => unfold maxLen; omega
      case c3 => omega
      case c4 => simp; omega
      intro v3 w3 hown3 hg3 hor3
      go_wp2
      go_roundg (gk - 1)
      case measure => omega
      case rel =>
        have hk := HK.out
        refine ⟨k + 1, by omega, ?_, grown_below (HBE.out.alloc hsz _) (by simp; omega) hg3 (fun b hb => HO.out.ge (by rw [HLE.out]; exact hb))⟩
        have e1 : (xs ++ [128] ++ List.replicate (k + 1) 0).length = n + 1 + k + 1 := by have := HXN.out; simp; omega
        have e2 : (xs ++ [128] ++ List.replicate (k + 1) 0).map vb = List.map vb xs ++ vb 128 :: (List.replicate k (vb 0) ++ [Value.int IntKind.u8 0]) := by
          rw [List.replicate_succ']; simp; rfl
        unfold OwnB
        rw [e1, e2]
        exact hown3
    · obtain rfl : k = padN n := by omega
      have ht := pad_end n
      generalize hP : xs ++ [128] ++ List.replicate (padN n) 0 = P at HO HLE
      have HP := Lib.hid hP
      clear hP
      obtain ⟨m, hm⟩ : ∃ m, m = n + 1 + padN n := ⟨_, rfl⟩
      rw [← hm] at HLE hc1 ht ⊢
      have HM := Lib.hid hm
      have hm2 : m ≤ n + 64 := by omega
      clear hm hk HK
      go_wp2
      go_loopg [3, 5] 8 (fun g v i wr => ∃ j : Nat, j + g = 8 ∧ i = .int .i64 (7 - (j : Int)) ∧ OwnB wr w.heap.size v (P ++ (be8 n).take j) ∧ Below w.heap.size w wr)
      case atStart => exact ⟨0, by omega, rfl, by rw [List.take_zero, List.append_nil]; have := HO.out; rw [HLE.out] at this; exact this, HBE.out⟩
      case round =>
        obtain ⟨j, hj, rfl, hO, hbel⟩ := hrel
        have hlen : (P ++ (be8 n).take j).length = m + j := by have := HLE.out; have := be8_len n; simp; omega
        have hO' := hO
        obtain ⟨A1, c1, rfl, hc1, hc2, _, _⟩ := own_slice_b hO
        rw [hlen] at hc1 ⊢
        unfold maxLen at hc2
        have HO := Lib.hid hO'
        have HJ := Lib.hid hj
        have HBE := Lib.hid hbel
        have HLJ := Lib.hid hlen
        have hsz := hbel.size
        clear hO hO' hlen hbel
        by_cases hlt : j < 8
        · have e1 : ((8 : Int) * (7 - (j : Int))).toNat = 8 * (7 - j) := by omega
          have hv := len_val n (7 - j) (by omega)
          have hw : IntKind.u64.wrap (8 * (n : Int)) = 8 * (n : Int) := by rw [IntKind.wrap_u64]; omega
          rw [hw] at hv
          clear hw
          generalize hx : UInt8.ofNat (8 * n / 2 ^ (8 * (7 - j))) = x at hv
          have HX := Lib.hid hx
          clear hx hj
          have hjj : (j : Int) ≤ 7 := by omega
          go_wp2_with (at_builtin; go_must (refine wpList_append_any _ rfl (.tmp 25) (.tmp 31) 22 rfl w.heap.size 5 i0 _ 1 1 Tryz.underlying22 HI0.out HZ0.out HZ1.out HZ2.out rfl (by omega) _ (m + j) ((P ++ (be8 n).take j).map vb) rfl (by have := HO.out.below ((Below.refl _ _).alloc (Nat.le_refl _) (.cells #[.int .u8 (bi x)] 5)); unfold OwnB at this; rw [HLJ.out] at this; exact this) (wr.heap.size + 1) (some ⟨wr.heap.size, 0, none⟩) 1 1 [.int .u8 (bi x)] rfl ⟨rfl, fun _ => ⟨_, rfl, by simp, fun j u hu => ?d1⟩⟩ ?c1 ?c2 ?c3 ?c4 ?_))
          case d1 =>
            rw [add_off, Nat.zero_add]
            simp
            simpa using hu
          case c1 => intro u hu; simp at hu; subst hu; rfl
          case c2 => unfold maxLen; omega
          case c3 => omega
          case c4 => simp; omega
          intro v3 w3 hown3 hg3 hor3
          go_wp2
          go_roundg (gk - 1)
          case measure => have := HJ.out; omega
          case rel =>
            have hj := HJ.out
            refine ⟨j + 1, by omega, by go_num, ?_, grown_below (HBE.out.alloc hsz _) (by simp; omega) hg3 (fun b hb => HO.out.ge (by rw [HLJ.out]; exact hb))⟩
            have e1 : (P ++ (be8 n).take (j + 1)).length = m + j + 1 := by have := HLE.out; have := be8_len n; simp; omega
            have e2 : (P ++ (be8 n).take (j + 1)).map vb = (P ++ (be8 n).take j).map vb ++ [Value.int IntKind.u8 (bi x)] := by
              rw [be8_at n j hlt, ← List.append_assoc, List.map_append (l₂ := [_]), HX.out]; rfl
            unfold OwnB
            rw [e1, e2]
            simpa using hown3
        · obtain rfl : j = 8 := by omega
          go_wp2
          go_ret
          refine ⟨_, rfl, ?_, HBE.out⟩
          have h1 := HO.out
          have h2 := HLJ.out
          rw [h2] at h1
          rw [List.take_of_length_le (by rw [be8_len]; omega), ← HP.out] at h1
          unfold padded
          rw [HXN.out]
          exact h1

end Go.Proofs.YtcpngeiahgoacaaGreat

/- Contract of bastideref02.Of. -/
namespace Go.Proofs.YtcpngeiahgoacaaGreat
set_option linter.unusedVariables false
open Go.RowKit

attribute [local go_sem] w_add w_add' w_sub w_sub' w_and w_or w_xor w_not w_shr w_shl w_shl' w_shl8 w_shl8' w_shr3 w_shr10 b32_wrap b32_wrap' w8_wrap w8_wrap'

theorem bRow_rng (l : List UInt8) (n : Nat) (h : l.length = n) : bRow l = rng n (fun j => vb (l.getD j 0)) := by
  refine rng_of (by rw [bRow_size, h]) fun j hj => ?_
  rw [bRow, List.getElem?_toArray, List.getElem?_map, getD_some _ _ (by omega)]; rfl
/-- n bytes, the first k of them made -/
def bytesTo (l : List UInt8) (n k : Nat) : Array Value := rng n (fun j => if j < k then vb (l.getD j 0) else .int .u8 0)
theorem bytesTo_zero (l : List UInt8) (n : Nat) : bytesTo l n 0 = Array.replicate n (.int .u8 0) := (rng_of (by simp) fun j hj => by simp [hj]).symm
theorem bytesTo_full (l : List UInt8) (n : Nat) (h : l.length = n) : bytesTo l n n = bRow l := by
  rw [bRow_rng l n h]; exact rng_ext fun j hj => by rw [if_pos hj]
theorem bytesTo_at (l : List UInt8) (n k : Nat) (h : k < n) : (bytesTo l n k)[k]? = some (.int .u8 0) := by
  unfold bytesTo; rw [rng_get _ _ _ h, if_neg (by omega)]
theorem bytesTo_next (l : List UInt8) (n k : Nat) : (bytesTo l n k).setIfInBounds k (vb (l.getD k 0)) = bytesTo l n (k + 1) := by
  unfold bytesTo
  rw [rng_set]
  refine rng_ext fun j hj => ?_
  by_cases h1 : j = k
  · subst h1; rw [if_pos rfl, if_pos (by omega)]
  · rw [if_neg h1]
    by_cases h2 : j < k
    · rw [if_pos h2, if_pos (by omega)]
    · rw [if_neg h2, if_neg (by omega)]
theorem acc_step (p : List UInt8) (k : Nat) (S : St) (h : acc (p.take (64 * k)) = (S, [])) (hk : 64 * k + 64 ≤ p.length) : acc (p.take (64 * (k + 1))) = (compress S ((p.drop (64 * k)).take 64), []) := by
  have e : p.take (64 * (k + 1)) = p.take (64 * k) ++ (p.drop (64 * k)).take 64 := by
    rw [show 64 * (k + 1) = 64 * k + 64 by omega, List.take_add]
  rw [e, acc_append, h, feed_full S [] _ (by simp; omega) (by simp)]
  simp
theorem getD_drop_take (p : List UInt8) (o j : Nat) (hj : j < 64) (hl : o + 64 ≤ p.length) : p[o + j]? = some (((p.drop o).take 64).getD j 0) := by
  rw [List.getD_eq_getElem?_getD, List.getElem?_take, if_pos hj, List.getElem?_drop, List.getElem?_eq_getElem (by omega)]; rfl
theorem zeros64 : Array.replicate 64 (Value.int .u8 0) = #[.int .u8 0, .int .u8 0, .int .u8 0, .int .u8 0, .int .u8 0, .int .u8 0, .int .u8 0, .int .u8 0, .int .u8 0, .int .u8 0, .int .u8 0, .int .u8 0, .int .u8 0, .int .u8 0, .int .u8 0, .int .u8 0, .int .u8 0, .int .u8 0, .int .u8 0, .int .u8 0, .int .u8 0, .int .u8 0, .int .u8 0, .int .u8 0, .int .u8 0, .int .u8 0, .int .u8 0, .int .u8 0, .int .u8 0, .int .u8 0, .int .u8 0, .int .u8 0, .int .u8 0, .int .u8 0, .int .u8 0, .int .u8 0, .int .u8 0, .int .u8 0, .int .u8 0, .int .u8 0, .int .u8 0, .int .u8 0, .int .u8 0, .int .u8 0, .int .u8 0, .int .u8 0, .int .u8 0, .int .u8 0, .int .u8 0, .int .u8 0, .int .u8 0, .int .u8 0, .int .u8 0, .int .u8 0, .int .u8 0, .int .u8 0, .int .u8 0, .int .u8 0, .int .u8 0, .int .u8 0, .int .u8 0, .int .u8 0, .int .u8 0, .int .u8 0] := rfl
theorem zeros32' : Array.replicate 32 (Value.int .u8 0) = #[.int .u8 0, .int .u8 0, .int .u8 0, .int .u8 0, .int .u8 0, .int .u8 0, .int .u8 0, .int .u8 0, .int .u8 0, .int .u8 0, .int .u8 0, .int .u8 0, .int .u8 0, .int .u8 0, .int .u8 0, .int .u8 0, .int .u8 0, .int .u8 0, .int .u8 0, .int .u8 0, .int .u8 0, .int .u8 0, .int .u8 0, .int .u8 0, .int .u8 0, .int .u8 0, .int .u8 0, .int .u8 0, .int .u8 0, .int .u8 0, .int .u8 0, .int .u8 0] := rfl

set_option maxRecDepth 100000 in
set_option maxHeartbeats 4000000 in
theorem refOf_any (A : Option Addr) (n c : Nat) (xs : List UInt8) (w : World) (B : Nat) (h : Reads w B 1 A n (xs.map vb)) (hB : B ≤ w.heap.size) (hn : n ≤ 140737488355200) :
    Calls Tryz.prog 212 #[.slice A n c] w fun e w' => e = .returned (.agg (bRow (shaOf xs))) ∧ Below w.heap.size w w' := by
  have hxn : xs.length = n := by have := h.1; simpa using this
  have HXN := Lib.hid hxn
  clear hxn
  go_enter Tryz.func212, Tryz.ntmps212
  go_wp2_with fail
  have hWr := Blk.new w 60 (Array.replicate 32 (.int .u8 0))
  have hWs : (w.alloc (.cells (Array.replicate 32 (.int .u8 0)) 60)).heap.size = w.heap.size + 1 := by simp
  have hWb := (Below.refl w.heap.size w).alloc (Nat.le_refl _) (.cells (Array.replicate 32 (.int .u8 0)) 60)
  have hWh := h.alloc hB (.cells (Array.replicate 32 (.int .u8 0)) 60)
  rw [zeros32'] at hWr hWs hWb hWh
  generalize w.alloc _ = W at hWr hWs hWb hWh ⊢
  refine (refPadded_any A n c xs W B hWh (by omega) hn).mono ?_
  rintro _ w1 ⟨v1, rfl, hO1, hb1⟩
  have hs1 := hb1.size
  have hlen : (padded xs).length % 64 = 0 := padded_len xs
  have hacc := acc_padded xs
  have hsha : shaOf xs = outB (lastSt (acc xs).1 (acc xs).2 xs.length) := rfl
  have hpl : (padded xs).length ≤ n + 100 := by
    have := HXN.out
    have := padN_lt xs.length
    simp [padded, be8_len]; omega
  generalize padded xs = p at hO1 hlen hacc hpl
  generalize lastSt (acc xs).1 (acc xs).2 xs.length = SL at hacc hsha
  have hR1 := hWr.below hb1 (by omega)
  have hE1 := hWb.trans (hb1.mono (by omega))
  obtain ⟨A1, c1, rfl, hc1, hc2, hrd, hge⟩ := own_slice_b hO1
  unfold maxLen at hc2
  have HA := Lib.hid hacc
  have HSH := Lib.hid hsha
  have HLEN := Lib.hid hlen
  have HRD := Lib.hid hrd
  have HR1 := Lib.hid hR1
  have HE1 := Lib.hid hE1
  obtain ⟨m, hm⟩ : ∃ m, m = p.length := ⟨_, rfl⟩
  have HM := Lib.hid hm
  rw [← hm] at hc1 hpl ⊢
  clear hacc hsha hlen hR1 hE1 hO1 hge hrd hWr hWb hWh h hm hb1
  go_wp2_with fail
  refine (refFirst_any w1).mono ?_
  rintro _ w2 ⟨rfl, hb2⟩
  have hs2 := hb2.size
  have HRD2 := Lib.hid (HRD.out.below hb2)
  have HR2 := Lib.hid (HR1.out.below hb2 HR1.out.lt)
  have HE2 := Lib.hid (HE1.out.trans (hb2.mono (by omega)))
  clear hb2
  have HV := Lib.hid (vals_all h0)
  have HZ := Lib.hid (vals_size h0)
  generalize hv0 : h0.vals = v0 at HV HZ ⊢
  have HV0 := Lib.hid hv0
  clear hv0
  go_wp2_with (refine wpList_store_part rfl 274 (.tmp 4) (.tmp 12) rfl w2.heap.size 0 v0 rfl rfl 274 _ (Blk.newAt rfl) (by rw [HZ.out]; rfl) (by rw [HZ.out]; simp) HV.out ?_; intro W3 hT3 hB3; rw [spl_self _ _ (by rw [HZ.out]; simp)] at hB3)
  have hR3 := hT3.blk (HR2.out.alloc _) (Nat.ne_of_lt HR2.out.lt)
  have hE3 := hT3.below (HE2.out.alloc HE2.out.size _) HE2.out.size
  have hRD3 : Reads W3 w1.heap.size 1 A1 p.length (p.map vb) := by
    have h1 := HRD2.out.alloc hs2 (.cells #[Value.int .u32 0, Value.int .u32 0, Value.int .u32 0, Value.int .u32 0, Value.int .u32 0, Value.int .u32 0, Value.int .u32 0, Value.int .u32 0] 274)
    exact h1.keep fun q hq => hT3.cell (by omega)
  obtain ⟨g4, hg4⟩ : ∃ g4, g4 = w2.heap.size := ⟨_, rfl⟩
  rw [← hg4] at hB3 hT3 ⊢
  have hg4w : w1.heap.size ≤ g4 := by omega
  have hg4r : w.heap.size < g4 := by omega
  have hg4l := hB3.lt
  rw [← HV0.out] at hB3
  have HB3 := Lib.hid hB3
  have HR3 := Lib.hid hR3
  have HE3 := Lib.hid hE3
  have HRD3 := Lib.hid hRD3
  clear hT3 hB3 hR3 hE3 hRD3 hg4
  go_loopw [5] (fun i wr => ∃ (k : Nat) (S : St), 64 * k ≤ m ∧ i = .int .i64 (64 * (k : Int)) ∧ Hid (acc (p.take (64 * k)) = (S, [])) ∧ Blk wr g4 274 S.vals ∧ W3.grownBy wr (some g4)) (fun i _ => m - (intOf i).toNat)
  case atStart => exact ⟨0, h0, by omega, rfl, by rw [Nat.mul_zero, List.take_zero]; exact (rfl : acc [] = (h0, [])), HB3.out, World.grownBy.refl _ _⟩
  case round =>
    obtain ⟨k, S, hk, rfl, hS, hB4, hgr⟩ := hrel
    have HB4 := Lib.hid hB4
    have HGR := Lib.hid hgr
    have hrs := hgr.size
    clear hB4 hgr
    by_cases hlt : 64 * k < m
    · have hlt2 : 64 * k + 64 ≤ m := by have := HLEN.out; have := HM.out; omega
      have hpl2 : 0 < p.length := by have := HM.out; omega
      obtain ⟨ad, rfl, hadb, hadc⟩ := HRD3.out.2 hpl2
      have HC := Lib.hid hadc
      clear hadc
      generalize hb : (p.drop (64 * k)).take 64 = blk
      have hbl : blk.length = 64 := by have := HM.out; rw [← hb]; simp; omega
      have hget : ∀ j, j < 64 → p[64 * k + j]? = some (blk.getD j 0) := fun j hj => by rw [← hb]; exact getD_drop_take p _ j hj (by have := HM.out; omega)
      have HBK := Lib.hid hb
      have HGET := Lib.hid hget
      have HBL := Lib.hid hbl
      clear hb hget hbl
      go_wp2_with fail
      have hW4 := Blk.newAt (w := wr) (t := 275) (cs := Array.replicate 64 (.int .u8 0)) rfl
      have hW4b := (HB4.out).alloc (.cells (Array.replicate 64 (.int .u8 0)) 275)
      have hW4g := only_alloc HGR.out (.cells (Array.replicate 64 (.int .u8 0)) 275)
      have hW4s : (wr.alloc (.cells (Array.replicate 64 (.int .u8 0)) 275)).heap.size = wr.heap.size + 1 := by simp
      rw [zeros64] at hW4 hW4b hW4g hW4s
      obtain ⟨g6, hg6⟩ : ∃ g6, g6 = wr.heap.size := ⟨_, rfl⟩
      rw [← hg6] at hW4 hW4s hrs ⊢
      have hg4' := HB4.out.lt
      rw [← hg6] at hg4'
      clear hg6
      generalize wr.alloc _ = W5 at hW4 hW4b hW4g hW4s ⊢
      rw [← zeros64, ← bytesTo_zero blk 64] at hW4
      have HW4b := Lib.hid hW4b
      have HW4g := Lib.hid hW4g
      have HW4 := Lib.hid hW4
      clear hW4 hW4b hW4g
      go_wp2_with fail
      go_loopw [7] (fun i wr => ∃ j : Nat, j ≤ 64 ∧ i = .int .i64 j ∧ Blk wr g6 275 (bytesTo blk 64 j) ∧ Turned g6 W5 wr) (fun i _ => 64 - (intOf i).toNat)
      case atStart => exact ⟨0, by omega, rfl, HW4.out, Turned.refl _ _⟩
      case round =>
        obtain ⟨j, hj, rfl, hBj, hTj⟩ := hrel
        by_cases hj1 : j < 64
        · have e1 : ((64 * (k : Int) + (j : Int))).toNat = 64 * k + j := by omega
          have hsrc : wr.cell? (ad.add (64 * k + j)) = some (.int .u8 (bi (blk.getD j 0))) := by
            have h1 := HC.out (64 * k + j) (vb (blk.getD j 0)) (by rw [List.getElem?_map, HGET.out j hj1]; rfl)
            have hne : (ad.add (64 * k + j)).block ≠ g6 := by rw [block_of_add]; omega
            rw [hTj.cell hne, World.cell?_of_block (HW4g.out.block _ (by rw [block_of_add]; omega) (by rw [block_of_add]; intro e; injection e with e; omega))]
            exact h1
          have hdst := (hBj.cell j).trans (bytesTo_at blk 64 j hj1)
          have hfz := hBj.frozen j
          have HBj := Lib.hid hBj
          have HTj := Lib.hid hTj
          clear hBj hTj
          go_wp2
          go_roundw
          case rel =>
            have h2 := HBj.out.set_ j (vb (blk.getD j 0))
            rw [bytesTo_next] at h2
            exact ⟨j + 1, by omega, by go_num, h2, HTj.out.trans (Turned.setCell _ ⟨g6, j, none⟩ _)⟩
          case measure => simp [intOf]; omega
        · obtain rfl : j = 64 := by omega
          rw [bytesTo_full blk 64 HBL.out] at hBj
          have hB4 := hTj.blk HW4b.out (by omega)
          have hgr := grown_turned HW4g.out hTj (by omega)
          have hbs : (bRow blk).size = 64 := by rw [bRow_size, HBL.out]
          have HR := Lib.hid (fun W => refRound_any S blk HBL.out W)
          have HBS := Lib.hid hbs
          have HB6 := Lib.hid hBj
          have HB4 := Lib.hid hB4
          have HGR := Lib.hid hgr
          have HVZ := Lib.hid (vals_size S)
          have HCZ := Lib.hid (vals_size (compress S blk))
          have HCA := Lib.hid (vals_all (compress S blk))
          clear hbs hBj hB4 hgr hTj
          generalize bRow blk = br at HBS HB6 HR
          generalize S.vals = sv at HB4 HVZ HR
          generalize hcv : (compress S blk).vals = cv at HCZ HCA HR
          have HCV := Lib.hid hcv
          clear hcv
          go_wp2_with (first
            | (refine wpList_load_part rfl 274 (.tmp 4) rfl g4 0 8 rfl 274 _ sv _ HB4.out Tryz.underlying274 rfl rfl HVZ.out (fun _ _ => by rw [Nat.zero_add]) ?_)
            | (refine wpList_load_part rfl 275 (.tmp 6) rfl g6 0 64 rfl 275 _ br _ HB6.out Tryz.underlying275 rfl rfl HBS.out (fun _ _ => by rw [Nat.zero_add]) ?_)
            | fail)
          refine (HR.out _).mono ?_
          rintro _ w6 ⟨rfl, hb6⟩
          have hB46 := HB4.out.below hb6 HB4.out.lt
          have hgr6 := HGR.out.trans (only_of_below hb6 (some g4))
          have HB46 := Lib.hid hB46
          have HGR6 := Lib.hid hgr6
          clear hB46 hgr6 hb6
          go_wp2_with (refine wpList_store_part rfl 274 (.tmp 4) (.tmp 33) rfl g4 0 cv rfl rfl 274 _ HB46.out (by rw [HCZ.out]; rfl) (by rw [HCZ.out, HVZ.out]; omega) HCA.out ?_; intro W7 hT7 hB7; rw [spl_self _ _ (by rw [HCZ.out, HVZ.out])] at hB7)
          go_roundw
          case rel =>
            rw [← HCV.out] at hB7
            refine ⟨k + 1, compress S blk, by omega, by go_num, ?_, hB7, HGR6.out.trans hT7.grown⟩
            have := acc_step p k S hS (by have := HM.out; omega)
            rw [HBK.out] at this
            exact this
          case measure => simp [intOf]; omega
    · have hSL : S = SL := by
        have h1 : acc (p.take (64 * k)) = (S, []) := hS
        have h2 := HA.out
        rw [List.take_of_length_le (by have := HM.out; omega), h2] at h1
        injection h1 with h1
        exact h1.symm
      subst hSL
      have hR := HR3.out.grown HGR.out (by intro e; injection e with e; omega)
      have hE := grown_below HE3.out HE3.out.size HGR.out (fun b hb => by injection hb with hb; omega)
      have HR := Lib.hid hR
      have HE := Lib.hid hE
      have hsz := hE.size
      clear hR hE
      go_wp2_with fail
      have hD := Blk.newAt (w := wr) (t := 60) (cs := Array.replicate 32 (.int .u8 0)) rfl
      have hs6 := (HB4.out).alloc (.cells (Array.replicate 32 (.int .u8 0)) 60)
      have hr6 := (HR.out).alloc (.cells (Array.replicate 32 (.int .u8 0)) 60)
      have hE6 := (HE.out).alloc hsz (.cells (Array.replicate 32 (.int .u8 0)) 60)
      rw [zeros32'] at hD hs6 hr6 hE6
      obtain ⟨gd, hgd⟩ : ∃ gd, gd = wr.heap.size := ⟨_, rfl⟩
      have hgs := HB4.out.lt
      have hgr := HR.out.lt
      rw [← hgd] at hD hgs hgr hsz ⊢
      clear hgd
      generalize wr.alloc _ = W6 at hD hs6 hr6 hE6 ⊢
      rw [← zeros32', ← bytesTo_zero (outB S) 32] at hD
      have HD := Lib.hid hD
      have HS6 := Lib.hid hs6
      have HR6 := Lib.hid hr6
      have HE6 := Lib.hid hE6
      clear hD hs6 hr6 hE6
      go_wp2_with fail
      go_loopw [9] (fun i wr => ∃ k : Nat, k ≤ 32 ∧ i = .int .i64 k ∧ Blk wr gd 60 (bytesTo (outB S) 32 k) ∧ Turned gd W6 wr) (fun i _ => 32 - (intOf i).toNat)
      case atStart => exact ⟨0, by omega, rfl, HD.out, Turned.refl _ _⟩
      case round =>
        obtain ⟨k, hk, rfl, hBk, hTk⟩ := hrel
        by_cases hk8 : k < 32
        · have e1 : ((k : Int) / 4).toNat = k / 4 := by omega
          have e2 : ((24 : Int) - 8 * ((k : Int) % 4)).toNat = 24 - 8 * (k % 4) := by omega
          have cs0 := ((hTk.blk HS6.out (by omega)).cell (k / 4)).trans (vals_at' S (k / 4) (by omega))
          have cd0 := (hBk.cell k).trans (bytesTo_at _ _ k hk8)
          have fd0 := hBk.frozen k
          have HBk := Lib.hid hBk
          have HTk := Lib.hid hTk
          clear hBk hTk
          go_wp2
          go_roundw
          case rel =>
            have h2 := HBk.out.set_ k (vb ((outB S).getD k 0))
            rw [bytesTo_next, outB_get _ k hk8] at h2
            exact ⟨k + 1, by omega, by go_num, h2, HTk.out.trans (Turned.setCell wr ⟨gd, k, none⟩ _)⟩
          case measure => simp [intOf]; omega
        · obtain rfl : k = 32 := by omega
          rw [bytesTo_full _ 32 (outB_len _), ← HSH.out] at hBk
          have hr7 := hTk.blk HR6.out (by omega)
          have hE7 := hTk.below HE6.out hsz
          have hbs := bRow_size (shaOf xs)
          rw [shaOf_len] at hbs
          have HBk := Lib.hid hBk
          have HR7 := Lib.hid hr7
          have HE7 := Lib.hid hE7
          have HON := Lib.hid (bRow_one (shaOf xs))
          have HBS := Lib.hid hbs
          clear hBk hTk hr7 hE7 hbs
          generalize hd : bRow (shaOf xs) = d at HBk HON HBS
          have HDD := Lib.hid hd
          clear hd
          go_wp2_with (first
            | (refine wpList_load_part rfl 60 (.tmp 8) rfl gd 0 32 rfl 60 _ d _ HBk.out Tryz.underlying60 rfl rfl HBS.out (fun _ _ => by rw [Nat.zero_add]) ?_)
            | (refine wpList_store_part rfl 60 (.tmp 2) (.tmp 50) rfl w.heap.size 0 d rfl rfl 60 _ HR7.out (by rw [HBS.out]; rfl) (by rw [HBS.out]; simp) HON.out ?_; intro W8 hT8 hB8; rw [spl_self _ _ (by rw [HBS.out]; simp)] at hB8))
          refine bodyPost_ret (results_part rfl _ _ w.heap.size 32 60 _ _ rfl hB8 Tryz.underlying60 rfl rfl HBS.out) rfl ⟨by rw [HDD.out], hT8.below HE7.out (Nat.le_refl _)⟩

end Go.Proofs.YtcpngeiahgoacaaGreat
