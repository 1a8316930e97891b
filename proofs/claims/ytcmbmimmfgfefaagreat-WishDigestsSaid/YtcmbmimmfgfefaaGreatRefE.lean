/-
  Contract of bastideref02.Of.
-/
import Derived.Test.YtcmbmimmfgfefaaGreatRefD
namespace Go.Proofs.YtcmbmimmfgfefaaGreat
set_option linter.unusedVariables false
open Go.RowKit

attribute [local go_sem] w_add w_add' w_sub w_sub' w_and w_or w_xor w_not w_shr w_shl w_shl' w_shl8 w_shl8' w_shr3 w_shr10 b32_wrap b32_wrap' w8_wrap w8_wrap'

theorem bRow_rng (l : List UInt8) (n : Nat) (h : l.length = n) : bRow l = rng n (fun j => vb (l.getD j 0)) := by
  refine rng_of (by rw [bRow_size, h]) fun j hj => ?_
  rw [bRow, List.getElem?_toArray, List.getElem?_map, getD_some _ _ (by omega)]; rfl
/-- n bytes, the first k of them made -/
def bytesTo (l : List UInt8) (n k : Nat) : Array Value := rng n (fun j => if j < k then vb (l.getD j 0) else .int .u8 0)
theorem bytesTo_zero (l : List UInt8) (n : Nat) : bytesTo l n 0 = Array.replicate n (.int .u8 0) := (rng_of (by simp) fun j hj => by simp [hj]).symm
theorem bytesTo_full (l : List UInt8) (n : Nat) (h : l.length = n) : bytesTo l n n = bRow l := by
  rw [bRow_rng l n h]; exact rng_ext fun j hj => by rw [if_pos hj]
theorem bytesTo_at (l : List UInt8) (n k : Nat) (h : k < n) : (bytesTo l n k)[k]? = some (.int .u8 0) := by
  unfold bytesTo; rw [rng_get _ _ _ h, if_neg (by omega)]
theorem bytesTo_next (l : List UInt8) (n k : Nat) : (bytesTo l n k).setIfInBounds k (vb (l.getD k 0)) = bytesTo l n (k + 1) := by
  unfold bytesTo
  rw [rng_set]
  refine rng_ext fun j hj => ?_
  by_cases h1 : j = k
  · subst h1; rw [if_pos rfl, if_pos (by omega)]
  · rw [if_neg h1]
    by_cases h2 : j < k
    · rw [if_pos h2, if_pos (by omega)]
    · rw [if_neg h2, if_neg (by omega)]
theorem acc_step (p : List UInt8) (k : Nat) (S : St) (h : acc (p.take (64 * k)) = (S, [])) (hk : 64 * k + 64 ≤ p.length) : acc (p.take (64 * (k + 1))) = (compress S ((p.drop (64 * k)).take 64), []) := by
  have e : p.take (64 * (k + 1)) = p.take (64 * k) ++ (p.drop (64 * k)).take 64 := by
    rw [show 64 * (k + 1) = 64 * k + 64 by omega, List.take_add]
  rw [e, acc_append, h, feed_full S [] _ (by simp; omega) (by simp)]
  simp
theorem getD_drop_take (p : List UInt8) (o j : Nat) (hj : j < 64) (hl : o + 64 ≤ p.length) : p[o + j]? = some (((p.drop o).take 64).getD j 0) := by
  rw [List.getD_eq_getElem?_getD, List.getElem?_take, if_pos hj, List.getElem?_drop, List.getElem?_eq_getElem (by omega)]; rfl
theorem zeros64 : Array.replicate 64 (Value.int .u8 0) = #[.int .u8 0, .int .u8 0, .int .u8 0, .int .u8 0, .int .u8 0, .int .u8 0, .int .u8 0, .int .u8 0, .int .u8 0, .int .u8 0, .int .u8 0, .int .u8 0, .int .u8 0, .int .u8 0, .int .u8 0, .int .u8 0, .int .u8 0, .int .u8 0, .int .u8 0, .int .u8 0, .int .u8 0, .int .u8 0, .int .u8 0, .int .u8 0, .int .u8 0, .int .u8 0, .int .u8 0, .int .u8 0, .int .u8 0, .int .u8 0, .int .u8 0, .int .u8 0, .int .u8 0, .int .u8 0, .int .u8 0, .int .u8 0, .int .u8 0, .int .u8 0, .int .u8 0, .int .u8 0, .int .u8 0, .int .u8 0, .int .u8 0, .int .u8 0, .int .u8 0, .int .u8 0, .int .u8 0, .int .u8 0, .int .u8 0, .int .u8 0, .int .u8 0, .int .u8 0, .int .u8 0, .int .u8 0, .int .u8 0, .int .u8 0, .int .u8 0, .int .u8 0, .int .u8 0, .int .u8 0, .int .u8 0, .int .u8 0, .int .u8 0, .int .u8 0] := rfl
theorem zeros32' : Array.replicate 32 (Value.int .u8 0) = #[.int .u8 0, .int .u8 0, .int .u8 0, .int .u8 0, .int .u8 0, .int .u8 0, .int .u8 0, .int .u8 0, .int .u8 0, .int .u8 0, .int .u8 0, .int .u8 0, .int .u8 0, .int .u8 0, .int .u8 0, .int .u8 0, .int .u8 0, .int .u8 0, .int .u8 0, .int .u8 0, .int .u8 0, .int .u8 0, .int .u8 0, .int .u8 0, .int .u8 0, .int .u8 0, .int .u8 0, .int .u8 0, .int .u8 0, .int .u8 0, .int .u8 0, .int .u8 0] := rfl

set_option maxRecDepth 100000 in
set_option maxHeartbeats 4000000 in
theorem refOf_any (A : Option Addr) (n c : Nat) (xs : List UInt8) (w : World) (B : Nat) (h : Reads w B 1 A n (xs.map vb)) (hB : B ≤ w.heap.size) (hn : n ≤ 140737488355200) :
    Calls Tryz.prog 38 #[.slice A n c] w fun e w' => e = .returned (.agg (bRow (shaOf xs))) ∧ Below w.heap.size w w' := by
  have hxn : xs.length = n := by have := h.1; simpa using this
  have HXN := Lib.hid hxn
  clear hxn
  go_enter Tryz.func38, Tryz.ntmps38
  go_wp2_with fail
  have hWr := Blk.new w 32 (Array.replicate 32 (.int .u8 0))
  have hWs : (w.alloc (.cells (Array.replicate 32 (.int .u8 0)) 32)).heap.size = w.heap.size + 1 := by simp
  have hWb := (Below.refl w.heap.size w).alloc (Nat.le_refl _) (.cells (Array.replicate 32 (.int .u8 0)) 32)
  have hWh := h.alloc hB (.cells (Array.replicate 32 (.int .u8 0)) 32)
  rw [zeros32'] at hWr hWs hWb hWh
  generalize w.alloc _ = W at hWr hWs hWb hWh ⊢
  refine (refPadded_any A n c xs W B hWh (by omega) hn).mono ?_
  rintro _ w1 ⟨v1, rfl, hO1, hb1⟩
  have hs1 := hb1.size
  have hlen : (padded xs).length % 64 = 0 := padded_len xs
  have hacc := acc_padded xs
  have hsha : shaOf xs = outB (lastSt (acc xs).1 (acc xs).2 xs.length) := rfl
  have hpl : (padded xs).length ≤ n + 100 := by
    have := HXN.out
    have := padN_lt xs.length
    simp [padded, be8_len]; omega
  generalize padded xs = p at hO1 hlen hacc hpl
  generalize lastSt (acc xs).1 (acc xs).2 xs.length = SL at hacc hsha
  have hR1 := hWr.below hb1 (by omega)
  have hE1 := hWb.trans (hb1.mono (by omega))
  obtain ⟨A1, c1, rfl, hc1, hc2, hrd, hge⟩ := own_slice_b hO1
  unfold maxLen at hc2
  have HA := Lib.hid hacc
  have HSH := Lib.hid hsha
  have HLEN := Lib.hid hlen
  have HRD := Lib.hid hrd
  have HR1 := Lib.hid hR1
  have HE1 := Lib.hid hE1
  obtain ⟨m, hm⟩ : ∃ m, m = p.length := ⟨_, rfl⟩
  have HM := Lib.hid hm
  rw [← hm] at hc1 hpl ⊢
  clear hacc hsha hlen hR1 hE1 hO1 hge hrd hWr hWb hWh h hm hb1
  go_wp2_with fail
  refine (refFirst_any w1).mono ?_
  rintro _ w2 ⟨rfl, hb2⟩
  have hs2 := hb2.size
  have HRD2 := Lib.hid (HRD.out.below hb2)
  have HR2 := Lib.hid (HR1.out.below hb2 HR1.out.lt)
  have HE2 := Lib.hid (HE1.out.trans (hb2.mono (by omega)))
  clear hb2
  have HV := Lib.hid (vals_all h0)
  have HZ := Lib.hid (vals_size h0)
  generalize hv0 : h0.vals = v0 at HV HZ ⊢
  have HV0 := Lib.hid hv0
  clear hv0
  go_wp2_with (refine wpList_store_part rfl 95 (.tmp 4) (.tmp 12) rfl w2.heap.size 0 v0 rfl rfl 95 _ (Blk.newAt rfl) (by rw [HZ.out]; rfl) (by rw [HZ.out]; simp) HV.out ?_; intro W3 hT3 hB3; rw [spl_self _ _ (by rw [HZ.out]; simp)] at hB3)
  have hR3 := hT3.blk (HR2.out.alloc _) (Nat.ne_of_lt HR2.out.lt)
  have hE3 := hT3.below (HE2.out.alloc HE2.out.size _) HE2.out.size
  have hRD3 : Reads W3 w1.heap.size 1 A1 p.length (p.map vb) := by
    have h1 := HRD2.out.alloc hs2 (.cells #[Value.int .u32 0, Value.int .u32 0, Value.int .u32 0, Value.int .u32 0, Value.int .u32 0, Value.int .u32 0, Value.int .u32 0, Value.int .u32 0] 95)
    exact h1.keep fun q hq => hT3.cell (by omega)
  obtain ⟨g4, hg4⟩ : ∃ g4, g4 = w2.heap.size := ⟨_, rfl⟩
  rw [← hg4] at hB3 hT3 ⊢
  have hg4w : w1.heap.size ≤ g4 := by omega
  have hg4r : w.heap.size < g4 := by omega
  have hg4l := hB3.lt
  rw [← HV0.out] at hB3
  have HB3 := Lib.hid hB3
  have HR3 := Lib.hid hR3
  have HE3 := Lib.hid hE3
  have HRD3 := Lib.hid hRD3
  clear hT3 hB3 hR3 hE3 hRD3 hg4
  go_loopw [5] (fun i wr => ∃ (k : Nat) (S : St), 64 * k ≤ m ∧ i = .int .i64 (64 * (k : Int)) ∧ Hid (acc (p.take (64 * k)) = (S, [])) ∧ Blk wr g4 95 S.vals ∧ W3.grownBy wr (some g4)) (fun i _ => m - (intOf i).toNat)
  case atStart => exact ⟨0, h0, by omega, rfl, by rw [Nat.mul_zero, List.take_zero]; exact (rfl : acc [] = (h0, [])), HB3.out, World.grownBy.refl _ _⟩
  case round =>
    obtain ⟨k, S, hk, rfl, hS, hB4, hgr⟩ := hrel
    have HB4 := Lib.hid hB4
    have HGR := Lib.hid hgr
    have hrs := hgr.size
    clear hB4 hgr
    by_cases hlt : 64 * k < m
    · have hlt2 : 64 * k + 64 ≤ m := by have := HLEN.out; have := HM.out; omega
      have hpl2 : 0 < p.length := by have := HM.out; omega
      obtain ⟨ad, rfl, hadb, hadc⟩ := HRD3.out.2 hpl2
      have HC := Lib.hid hadc
      clear hadc
      generalize hb : (p.drop (64 * k)).take 64 = blk
      have hbl : blk.length = 64 := by have := HM.out; rw [← hb]; simp; omega
      have hget : ∀ j, j < 64 → p[64 * k + j]? = some (blk.getD j 0) := fun j hj => by rw [← hb]; exact getD_drop_take p _ j hj (by have := HM.out; omega)
      have HBK := Lib.hid hb
      have HGET := Lib.hid hget
      have HBL := Lib.hid hbl
      clear hb hget hbl
      go_wp2_with fail
      have hW4 := Blk.newAt (w := wr) (t := 97) (cs := Array.replicate 64 (.int .u8 0)) rfl
      have hW4b := (HB4.out).alloc (.cells (Array.replicate 64 (.int .u8 0)) 97)
      have hW4g := only_alloc HGR.out (.cells (Array.replicate 64 (.int .u8 0)) 97)
      have hW4s : (wr.alloc (.cells (Array.replicate 64 (.int .u8 0)) 97)).heap.size = wr.heap.size + 1 := by simp
      rw [zeros64] at hW4 hW4b hW4g hW4s
      obtain ⟨g6, hg6⟩ : ∃ g6, g6 = wr.heap.size := ⟨_, rfl⟩
      rw [← hg6] at hW4 hW4s hrs ⊢
      have hg4' := HB4.out.lt
      rw [← hg6] at hg4'
      clear hg6
      generalize wr.alloc _ = W5 at hW4 hW4b hW4g hW4s ⊢
      rw [← zeros64, ← bytesTo_zero blk 64] at hW4
      have HW4b := Lib.hid hW4b
      have HW4g := Lib.hid hW4g
      have HW4 := Lib.hid hW4
      clear hW4 hW4b hW4g
      go_wp2_with fail
      go_loopw [7] (fun i wr => ∃ j : Nat, j ≤ 64 ∧ i = .int .i64 j ∧ Blk wr g6 97 (bytesTo blk 64 j) ∧ Turned g6 W5 wr) (fun i _ => 64 - (intOf i).toNat)
      case atStart => exact ⟨0, by omega, rfl, HW4.out, Turned.refl _ _⟩
      case round =>
        obtain ⟨j, hj, rfl, hBj, hTj⟩ := hrel
        by_cases hj1 : j < 64
        · have e1 : ((64 * (k : Int) + (j : Int))).toNat = 64 * k + j := by omega
          have hsrc : wr.cell? (ad.add (64 * k + j)) = some (.int .u8 (bi (blk.getD j 0))) := by
            have h1 := HC.out (64 * k + j) (vb (blk.getD j 0)) (by rw [List.getElem?_map, HGET.out j hj1]; rfl)
            have hne : (ad.add (64 * k + j)).block ≠ g6 := by rw [block_of_add]; omega
            rw [hTj.cell hne, World.cell?_of_block (HW4g.out.block _ (by rw [block_of_add]; omega) (by rw [block_of_add]; intro e; injection e with e; omega))]
            exact h1
          have hdst := (hBj.cell j).trans (bytesTo_at blk 64 j hj1)
          have hfz := hBj.frozen j
          have HBj := Lib.hid hBj
          have HTj := Lib.hid hTj
          clear hBj hTj
          go_wp2
          go_roundw
          case rel =>
            have h2 := HBj.out.set_ j (vb (blk.getD j 0))
            rw [bytesTo_next] at h2
            exact ⟨j + 1, by omega, by go_num, h2, HTj.out.trans (Turned.setCell _ ⟨g6, j, none⟩ _)⟩
          case measure => simp [intOf]; omega
        · obtain rfl : j = 64 := by omega
          rw [bytesTo_full blk 64 HBL.out] at hBj
          have hB4 := hTj.blk HW4b.out (by omega)
          have hgr := grown_turned HW4g.out hTj (by omega)
          have hbs : (bRow blk).size = 64 := by rw [bRow_size, HBL.out]
          have HR := Lib.hid (fun W => refRound_any S blk HBL.out W)
          have HBS := Lib.hid hbs
          have HB6 := Lib.hid hBj
          have HB4 := Lib.hid hB4
          have HGR := Lib.hid hgr
          have HVZ := Lib.hid (vals_size S)
          have HCZ := Lib.hid (vals_size (compress S blk))
          have HCA := Lib.hid (vals_all (compress S blk))
          clear hbs hBj hB4 hgr hTj
          generalize bRow blk = br at HBS HB6 HR
          generalize S.vals = sv at HB4 HVZ HR
          generalize hcv : (compress S blk).vals = cv at HCZ HCA HR
          have HCV := Lib.hid hcv
          clear hcv
          go_wp2_with (first
            | (refine wpList_load_part rfl 95 (.tmp 4) rfl g4 0 8 rfl 95 _ sv _ HB4.out Tryz.underlying95 rfl rfl HVZ.out (fun _ _ => by rw [Nat.zero_add]) ?_)
            | (refine wpList_load_part rfl 97 (.tmp 6) rfl g6 0 64 rfl 97 _ br _ HB6.out Tryz.underlying97 rfl rfl HBS.out (fun _ _ => by rw [Nat.zero_add]) ?_)
            | fail)
          refine (HR.out _).mono ?_
          rintro _ w6 ⟨rfl, hb6⟩
          have hB46 := HB4.out.below hb6 HB4.out.lt
          have hgr6 := HGR.out.trans (only_of_below hb6 (some g4))
          have HB46 := Lib.hid hB46
          have HGR6 := Lib.hid hgr6
          clear hB46 hgr6 hb6
          go_wp2_with (refine wpList_store_part rfl 95 (.tmp 4) (.tmp 33) rfl g4 0 cv rfl rfl 95 _ HB46.out (by rw [HCZ.out]; rfl) (by rw [HCZ.out, HVZ.out]; omega) HCA.out ?_; intro W7 hT7 hB7; rw [spl_self _ _ (by rw [HCZ.out, HVZ.out])] at hB7)
          go_roundw
          case rel =>
            rw [← HCV.out] at hB7
            refine ⟨k + 1, compress S blk, by omega, by go_num, ?_, hB7, HGR6.out.trans hT7.grown⟩
            have := acc_step p k S hS (by have := HM.out; omega)
            rw [HBK.out] at this
            exact this
          case measure => simp [intOf]; omega
    · have hSL : S = SL := by
        have h1 : acc (p.take (64 * k)) = (S, []) := hS
        have h2 := HA.out
        rw [List.take_of_length_le (by have := HM.out; omega), h2] at h1
        injection h1 with h1
        exact h1.symm
      subst hSL
      have hR := HR3.out.grown HGR.out (by intro e; injection e with e; omega)
      have hE := grown_below HE3.out HE3.out.size HGR.out (fun b hb => by injection hb with hb; omega)
      have HR := Lib.hid hR
      have HE := Lib.hid hE
      have hsz := hE.size
      clear hR hE
      go_wp2_with fail
      have hD := Blk.newAt (w := wr) (t := 32) (cs := Array.replicate 32 (.int .u8 0)) rfl
      have hs6 := (HB4.out).alloc (.cells (Array.replicate 32 (.int .u8 0)) 32)
      have hr6 := (HR.out).alloc (.cells (Array.replicate 32 (.int .u8 0)) 32)
      have hE6 := (HE.out).alloc hsz (.cells (Array.replicate 32 (.int .u8 0)) 32)
      rw [zeros32'] at hD hs6 hr6 hE6
      obtain ⟨gd, hgd⟩ : ∃ gd, gd = wr.heap.size := ⟨_, rfl⟩
      have hgs := HB4.out.lt
      have hgr := HR.out.lt
      rw [← hgd] at hD hgs hgr hsz ⊢
      clear hgd
      generalize wr.alloc _ = W6 at hD hs6 hr6 hE6 ⊢
      rw [← zeros32', ← bytesTo_zero (outB S) 32] at hD
      have HD := Lib.hid hD
      have HS6 := Lib.hid hs6
      have HR6 := Lib.hid hr6
      have HE6 := Lib.hid hE6
      clear hD hs6 hr6 hE6
      go_wp2_with fail
      go_loopw [9] (fun i wr => ∃ k : Nat, k ≤ 32 ∧ i = .int .i64 k ∧ Blk wr gd 32 (bytesTo (outB S) 32 k) ∧ Turned gd W6 wr) (fun i _ => 32 - (intOf i).toNat)
      case atStart => exact ⟨0, by omega, rfl, HD.out, Turned.refl _ _⟩
      case round =>
        obtain ⟨k, hk, rfl, hBk, hTk⟩ := hrel
        by_cases hk8 : k < 32
        · have e1 : ((k : Int) / 4).toNat = k / 4 := by omega
          have e2 : ((24 : Int) - 8 * ((k : Int) % 4)).toNat = 24 - 8 * (k % 4) := by omega
          have cs0 := ((hTk.blk HS6.out (by omega)).cell (k / 4)).trans (vals_at' S (k / 4) (by omega))
          have cd0 := (hBk.cell k).trans (bytesTo_at _ _ k hk8)
          have fd0 := hBk.frozen k
          have HBk := Lib.hid hBk
          have HTk := Lib.hid hTk
          clear hBk hTk
          go_wp2
          go_roundw
          case rel =>
            have h2 := HBk.out.set_ k (vb ((outB S).getD k 0))
            rw [bytesTo_next, outB_get _ k hk8] at h2
            exact ⟨k + 1, by omega, by go_num, h2, HTk.out.trans (Turned.setCell wr ⟨gd, k, none⟩ _)⟩
          case measure => simp [intOf]; omega
        · obtain rfl : k = 32 := by omega
          rw [bytesTo_full _ 32 (outB_len _), ← HSH.out] at hBk
          have hr7 := hTk.blk HR6.out (by omega)
          have hE7 := hTk.below HE6.out hsz
          have hbs := bRow_size (shaOf xs)
          rw [shaOf_len] at hbs
          have HBk := Lib.hid hBk
          have HR7 := Lib.hid hr7
          have HE7 := Lib.hid hE7
          have HON := Lib.hid (bRow_one (shaOf xs))
          have HBS := Lib.hid hbs
          clear hBk hTk hr7 hE7 hbs
          generalize hd : bRow (shaOf xs) = d at HBk HON HBS
          have HDD := Lib.hid hd
          clear hd
          go_wp2_with (first
            | (refine wpList_load_part rfl 32 (.tmp 8) rfl gd 0 32 rfl 32 _ d _ HBk.out Tryz.underlying32 rfl rfl HBS.out (fun _ _ => by rw [Nat.zero_add]) ?_)
            | (refine wpList_store_part rfl 32 (.tmp 2) (.tmp 50) rfl w.heap.size 0 d rfl rfl 32 _ HR7.out (by rw [HBS.out]; rfl) (by rw [HBS.out]; simp) HON.out ?_; intro W8 hT8 hB8; rw [spl_self _ _ (by rw [HBS.out]; simp)] at hB8))
          refine bodyPost_ret (results_part rfl _ _ w.heap.size 32 32 _ _ rfl hB8 Tryz.underlying32 rfl rfl HBS.out) rfl ⟨by rw [HDD.out], hT8.below HE7.out (Nat.le_refl _)⟩

end Go.Proofs.YtcmbmimmfgfefaaGreat
