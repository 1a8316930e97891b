/-
  ShaOneBlock: the law's walk.
-/
import Derived.Test.YtndjaibnapilnaaLawOnes
import Derived.Test.YtndjaibnapilnaaRefE
namespace Go.Proofs.Ytndjaibnapilnaa
set_option linter.unusedVariables false
open Go.RowKit

attribute [local go_sem] w_add w_add' w_sub w_sub' w_and w_or w_xor w_not w_shr w_shl w_shl' w_shl8 w_shl8' w_shr3 w_shr10 b32_wrap b32_wrap' w8_wrap w8_wrap'

theorem bytesTo_get0 (l : List UInt8) (n k j : Nat) (h : k ≤ j) (hj : j < n) : (bytesTo l n k)[j]? = some (.int .u8 0) := by
  unfold bytesTo; rw [rng_get _ _ _ hj, if_neg (by omega)]
theorem be8_small (m : Nat) (h : m ≤ 55) (j : Nat) (hj : j < 8) : (be8 m).getD j 0 = if j = 6 then UInt8.ofNat (8 * m / 256) else if j = 7 then UInt8.ofNat (8 * m % 256) else 0 := by
  have e := be8_get m (7 - j) (by omega)
  rw [show 7 - (7 - j) = j by omega] at e
  rw [e]
  match j, hj with
  | 0, _ | 1, _ | 2, _ | 3, _ | 4, _ | 5, _ =>
    simp only [Nat.reduceSub, Nat.reduceMul, Nat.reducePow, Nat.reduceEqDiff, if_false]
    rw [Nat.div_eq_of_lt (by omega)]; rfl
  | 6, _ => rfl
  | 7, _ =>
    simp only [Nat.reduceSub, Nat.reduceMul, Nat.reducePow, Nat.reduceEqDiff, if_false, if_true, Nat.div_one]
    apply UInt8.toNat_inj.1
    rw [UInt8.toNat_ofNat', UInt8.toNat_ofNat']
    omega
theorem one_block (ys : List UInt8) (m : Nat) (hy : ys.length = m) (hm : m ≤ 55) :
    (((bytesTo ys 64 m).setIfInBounds m (.int .u8 128)).setIfInBounds 62 (vb (UInt8.ofNat (8 * m / 256)))).setIfInBounds 63 (vb (UInt8.ofNat (8 * m % 256))) = bRow (blkOf (lenF (padF ys) m)) := by
  unfold bytesTo
  rw [rng_set, rng_set, rng_set, bRow_rng _ 64 (blkOf_len _)]
  refine rng_ext fun j hj => ?_
  have hb : (blkOf (lenF (padF ys) m)).getD j 0 = lenF (padF ys) m j := by
    rw [List.getD_eq_getElem?_getD, List.getElem?_eq_getElem (by rw [blkOf_len]; exact hj), blkOf_get]; rfl
  rw [hb]
  unfold lenF padF
  by_cases h63 : j = 63
  · subst h63; rw [if_pos rfl, if_pos (by omega), be8_small m hm 7 (by omega), if_neg (by omega), if_pos rfl]
  rw [if_neg h63]
  by_cases h62 : j = 62
  · subst h62; rw [if_pos rfl, if_pos (by omega), be8_small m hm 6 (by omega), if_pos rfl]
  rw [if_neg h62]
  by_cases h56 : 56 ≤ j
  · rw [if_pos h56, if_neg (by omega), if_neg (by omega), be8_small m hm (j - 56) (by omega), if_neg (by omega), if_neg (by omega)]; rfl
  rw [if_neg h56]
  by_cases hjm : j = m
  · subst hjm; rw [if_pos rfl, if_neg (by omega), if_pos (by omega)]; rfl
  rw [if_neg hjm]
  by_cases hlt : j < m
  · rw [if_pos hlt, if_pos (by omega)]
  · rw [if_neg hlt, if_neg (by omega), if_neg (by omega)]; rfl
theorem one_sha (ys : List UInt8) (m : Nat) (hy : ys.length = m) (hm : m ≤ 55) : shaOf ys = outB (compress h0 (blkOf (lenF (padF ys) m))) := by
  have ha : acc ys = (h0, ys) := by
    have := feed_short h0 [] ys (by simp; omega)
    simpa [acc] using this
  unfold shaOf
  rw [ha, ← hy]
  simp only
  rw [last_lo _ _ _ (by omega)]

set_option maxRecDepth 100000 in
set_option maxHeartbeats 2000000 in
theorem oneBlock_law (A : Option Addr) (n c : Nat) (xs : List UInt8) (w : World) (B : Nat) (h : Reads w B 1 A n (xs.map vb)) (hB : B ≤ w.heap.size) (hc : n ≤ c) (hcm : c ≤ maxLen) :
    Calls Try.prog 7 #[.slice A n c] w fun e w' => e = .returned (.bool true) ∧ Below w.heap.size w w' := by
  have hnot : ∀ (x : Bool) (w : World), (Op.unary .not (.bool x)).run Try.prog w = .ok (.bool (!x)) w := fun _ _ => rfl
  obtain ⟨m, hm⟩ : ∃ m, m = min n 55 := ⟨_, rfl⟩
  have hm1 : m ≤ n := by omega
  have hm2 : m ≤ 55 := by omega
  have hmc : m ≤ c := by omega
  have hr0 := h.to (cap := c) hm1 hc
  have hsl0 := fun W => run_slice_to (P := Try.prog) (t := 22) (e := 5) rfl rfl A n c m (m : Int) rfl (by omega) W
  generalize (if c = 0 then A else A.map (·.add 0)) = A0 at hr0 hsl0
  have hmin1 : (if (55 : Int) < (n : Int) then (55 : Int) else (n : Int)) = (m : Int) := by split <;> omega
  have hmin2 : (if 55 < n then (55 : Int) else (n : Int)) = (m : Int) := by split <;> omega
  have HM := Lib.hid hm
  clear hm
  rw [← List.map_take] at hr0
  generalize xs.take m = ys at hr0
  have hyl : ys.length = m := by have := hr0.1; simpa using this
  have HYL := Lib.hid hyl
  have HR0 := Lib.hid hr0
  unfold maxLen at hcm
  clear hyl hr0
  go_enter Try.func7, Try.ntmps7
  go_wp2_with fail
  refine (works_any w).mono ?_
  rintro _ w1 ⟨rfl, hb1⟩
  have hs1 := hb1.size
  go_upto_region 5 with fail
  have hW4 := Blk.newAt (w := w1) (t := 38) (cs := Array.replicate 64 (.int .u8 0)) rfl
  have hWb := hb1.alloc hs1 (.cells (Array.replicate 64 (.int .u8 0)) 38)
  have hWs : (w1.alloc (.cells (Array.replicate 64 (.int .u8 0)) 38)).heap.size = w1.heap.size + 1 := by simp
  rw [zeros64] at hW4 hWb hWs
  obtain ⟨g, hg⟩ : ∃ g, g = w1.heap.size := ⟨_, rfl⟩
  rw [← hg] at hW4 hWs hs1 ⊢
  clear hg
  generalize w1.alloc _ = W at hW4 hWb hWs ⊢
  rw [← zeros64, ← bytesTo_zero ys 64] at hW4
  have HW := Lib.hid hW4
  have HWB := Lib.hid hWb
  clear hW4 hWb hmin1 hmin2 hsl0 hb1
  go_wp2_with fail
  go_loopw [4] (fun i wr => ∃ k : Nat, k ≤ m ∧ i = .int .i64 k ∧ Blk wr g 38 (bytesTo ys 64 k) ∧ Turned g W wr) (fun i _ => m - (intOf i).toNat)
  case atStart => exact ⟨0, by omega, rfl, HW.out, Turned.refl _ _⟩
  case round =>
    obtain ⟨k, hk, rfl, hBk, hTk⟩ := hrel
    by_cases hk1 : k < m
    · have hyl : k < ys.length := by have := HYL.out; omega
      obtain ⟨ad, u, hA, hab, hu, hcell⟩ := ((HR0.out.below (HWB.out.mono hB)).keep (fun p hp => hTk.cell (show p.block ≠ g by omega))).at_ hk1
      subst hA
      obtain ⟨x, hx⟩ : ∃ x, ys.getD k 0 = x := ⟨_, rfl⟩
      have hu2 : u = .int .u8 (bi x) := by
        rw [List.getElem?_map, getD_some _ _ hyl, hx] at hu
        simpa [vb] using hu.symm
      subst hu2
      have HX := Lib.hid hx
      have hdst := (hBk.cell k).trans (bytesTo_at ys 64 k (by omega))
      have hfz := hBk.frozen k
      have HB := Lib.hid hBk
      have HT := Lib.hid hTk
      clear hBk hTk hu hx
      go_wp2_with fail
      go_roundw
      case rel =>
        have h2 := HB.out.set_ k (vb (ys.getD k 0))
        rw [bytesTo_next, HX.out] at h2
        exact ⟨k + 1, by omega, by go_num, h2, HT.out.trans (Turned.setCell _ ⟨g, k, none⟩ _)⟩
      case measure => simp [intOf]; omega
    · obtain rfl : k = m := by omega
      have hgl := hBk.lt
      have c1 := (hBk.cell k).trans (bytesTo_get0 ys 64 k k (Nat.le_refl _) (by omega))
      have f1 := hBk.frozen k
      have hB1 := hBk.set_ k (.int .u8 128)
      have c2 := (hB1.cell 62).trans ((Array.getElem?_setIfInBounds_ne (by omega)).trans (bytesTo_get0 ys 64 k 62 (by omega) (by omega)))
      have f2 := hB1.frozen 62
      have hB2 := hB1.set_ 62 (vb (UInt8.ofNat (8 * k / 256)))
      have c3 := (hB2.cell 63).trans ((Array.getElem?_setIfInBounds_ne (by omega)).trans ((Array.getElem?_setIfInBounds_ne (by omega)).trans (bytesTo_get0 ys 64 k 63 (by omega) (by omega))))
      have f3 := hB2.frozen 63
      have hB3 := hB2.set_ 63 (vb (UInt8.ofNat (8 * k % 256)))
      have hT3 := ((hTk.trans (Turned.setCell _ ⟨g, k, none⟩ (.int .u8 128))).trans (Turned.setCell _ ⟨g, 62, none⟩ (vb (UInt8.ofNat (8 * k / 256))))).trans (Turned.setCell _ ⟨g, 63, none⟩ (vb (UInt8.ofNat (8 * k % 256))))
      rw [one_block ys k HYL.out hm2] at hB3
      have v1 : 8 * (k : Int) / 256 = bi (UInt8.ofNat (8 * k / 256)) := by unfold bi; rw [UInt8.toNat_ofNat']; omega
      have v2 : (8 * (k : Int)) % 256 = bi (UInt8.ofNat (8 * k % 256)) := by unfold bi; rw [UInt8.toNat_ofNat']; omega
      have hbl := blkOf_len (lenF (padF ys) k)
      have hsha := one_sha ys k HYL.out hm2
      generalize blkOf (lenF (padF ys) k) = blk at hB3 hbl hsha
      have w1 := bi_lo (UInt8.ofNat (8 * k / 256))
      have w2 := bi_hi (UInt8.ofNat (8 * k / 256))
      have w3 := bi_lo (UInt8.ofNat (8 * k % 256))
      have w4 := bi_hi (UInt8.ofNat (8 * k % 256))
      generalize UInt8.ofNat (8 * k / 256) = b62 at *
      generalize UInt8.ofNat (8 * k % 256) = b63 at *
      have hbs : (bRow blk).size = 64 := by rw [bRow_size, hbl]
      have HBS := Lib.hid hbs
      have HRO := Lib.hid (fun W => shaRound_any h0 blk hbl W)
      have HSHA := Lib.hid hsha
      unfold vb at c2 c3 f2 f3 hB3 hT3
      have hE3 := hT3.below HWB.out hs1
      obtain ⟨W3, hW3⟩ : ∃ W3, W3 = (((wr.setCell ⟨g, k, none⟩ (.int .u8 128)).setCell ⟨g, 62, none⟩ (.int .u8 (bi b62))).setCell ⟨g, 63, none⟩ (.int .u8 (bi b63))) := ⟨_, rfl⟩
      rw [← hW3] at hB3 hE3
      have HW3 := Lib.hid hW3
      have HB3 := Lib.hid hB3
      have HE3 := Lib.hid hE3
      clear hB1 hB2 hB3 hT3 hbs hsha hBk hTk hE3 hW3
      generalize bRow blk = br at HBS HRO HB3
      have HCZ := Lib.hid (vals_size (compress h0 blk))
      have HCA := Lib.hid (vals_all (compress h0 blk))
      have HCV := Lib.hid (vals_at' (compress h0 blk))
      have hob := outB_get (compress h0 blk)
      rw [← HSHA.out] at hob
      have HOB := Lib.hid hob
      have hro := HRO.out
      rw [first_lit] at hro
      have HRO := Lib.hid hro
      clear hob hro
      generalize compress h0 blk = R at HRO HCZ HCA HCV HOB
      generalize hrv : R.vals = rv at HRO HCZ HCA HCV
      clear hrv
      go_upto_region 12 with fail
      rw [← HW3.out]
      clear c1 c2 c3 f1 f2 f3
      go_wp2_with (first
        | (refine wpList_load_part rfl 38 (.tmp 3) rfl g 0 64 rfl 38 _ br _ HB3.out Try.underlying38 rfl rfl HBS.out (fun _ _ => by rw [Nat.zero_add]) ?_)
        | fail)
      refine (HRO.out _).mono ?_
      rintro _ w5 ⟨rfl, hb5⟩
      have HE5 := Lib.hid (HE3.out.trans (hb5.mono HE3.out.size))
      have hs5 := HE5.out.size
      clear hb5
      go_wp2_with (first
        | (refine wpList_store_part rfl 37 (.tmp 5) (.tmp 44) rfl w5.heap.size 0 rv rfl rfl 37 _ (Blk.newAt rfl) (by rw [HCZ.out]; rfl) (by rw [HCZ.out]; simp) HCA.out ?_; intro W6 hT6 hB6; rw [spl_self _ _ (by rw [HCZ.out]; simp)] at hB6)
        | fail)
      have hE6 := hT6.below (HE5.out.alloc hs5 _) hs5
      obtain ⟨g5, hg5⟩ : ∃ e, e = w5.heap.size := ⟨_, rfl⟩
      rw [← hg5] at hB6 hs5 ⊢
      have HB6 := Lib.hid hB6
      have HE6 := Lib.hid hE6
      have hs6 := hE6.size
      have hl5 := hB6.lt
      have hrA := HR0.out.below (hE6.mono hB)
      clear hB6 hT6 hE6 hg5
      refine (shaOf_any A0 k c ys W6 B hrA (by omega) hmc (by unfold maxLen; omega)).mono ?_
      rintro _ w7 ⟨rfl, hb7⟩
      have HB7 := Lib.hid (HB6.out.below hb7 hl5)
      have HE7 := Lib.hid (HE6.out.trans (hb7.mono hs6))
      have hs7 := HE7.out.size
      have hl7 := HB7.out.lt
      clear hb7 hrA
      have hds : (bRow (shaOf ys)).size = 32 := by rw [bRow_size, shaOf_len]
      have hdr := bRow_rng (shaOf ys) 32 (shaOf_len _)
      have HDS := Lib.hid hds
      have HDO := Lib.hid (bRow_one (shaOf ys))
      have HDR := Lib.hid hdr
      clear hds hdr
      generalize bRow (shaOf ys) = dg at HDS HDO HDR ⊢
      go_wp2_with (first
        | (refine wpList_store_part rfl 25 (.tmp 6) (.tmp 46) rfl w7.heap.size 0 dg rfl rfl 25 _ (Blk.newAt rfl) (by rw [HDS.out]; rfl) (by rw [HDS.out]; simp) HDO.out ?_; intro W8 hT8 hB8; rw [spl_self _ _ (by rw [HDS.out]; simp)] at hB8)
        | fail)
      have hE8 := hT8.below (HE7.out.alloc hs7 _) hs7
      have hB5 := hT8.blk (HB7.out.alloc _) (Nat.ne_of_lt hl7)
      obtain ⟨g6, hg6⟩ : ∃ e, e = w7.heap.size := ⟨_, rfl⟩
      rw [← hg6] at hB8 ⊢
      have HB8 := Lib.hid hB8
      have HB5 := Lib.hid hB5
      have HE8 := Lib.hid hE8
      clear hB8 hB5 hE8 hT8 hg6
      go_loopw [7] (fun i wr => ∃ j q : Nat, j ≤ 32 ∧ i = .int .i64 j ∧ wr = W8.drewN q) (fun i _ => 32 - (intOf i).toNat)
      case atStart => exact ⟨0, 0, by omega, rfl, rfl⟩
      case round =>
        obtain ⟨j, q, hj, rfl, rfl⟩ := hrel
        by_cases hj1 : j < 32
        · have e1 : ((j : Int) / 4).toNat = j / 4 := by omega
          have e2 : ((24 : Int) - 8 * ((j : Int) % 4)).toNat = 24 - 8 * (j % 4) := by omega
          have cs0 := (HB5.out.cell (j / 4)).trans (HCV.out (j / 4) (by omega))
          have hrg : dg[j]? = some (vb ((shaOf ys).getD j 0)) := by rw [HDR.out]; exact rng_get _ _ _ hj1
          have cd0 := (HB8.out.cell j).trans hrg
          rw [HOB.out j hj1] at cd0
          generalize R.list.getD (j / 4) 0 = x at cs0 cd0
          unfold vb at cd0
          have hz : (bi (w8 (x >>> (24 - 8 * (j % 4)))) != bi (w8 (x >>> (24 - 8 * (j % 4))))) = false := by simp
          have w4 : 0 ≤ (24 : Int) - 8 * ((j : Int) % 4) := by omega
          clear hrg
          go_wp2
          go_quiet (fail)
          go_wp2
          go_roundw
          case rel => exact ⟨j + 1, _, by omega, by go_num, rfl⟩
          case measure => simp [intOf]; omega
        · obtain rfl : j = 32 := by omega
          go_wp2
          go_ret
          exact ⟨rfl, below_drewN HE8.out q⟩

end Go.Proofs.Ytndjaibnapilnaa
