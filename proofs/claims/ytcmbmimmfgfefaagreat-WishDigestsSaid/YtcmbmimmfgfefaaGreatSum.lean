/-
  Contract of (*Hash).Sum.
-/
import Derived.Test.YtcmbmimmfgfefaaGreatWrite
import Derived.Test.YtcmbmimmfgfefaaGreatSumPlain
import Derived.Deep.DeepCutAuto
namespace Go.Proofs.YtcmbmimmfgfefaaGreat
set_option linter.unusedVariables false
open Go.RowKit

attribute [local go_sem] w_add w_add' w_sub w_sub' w_and w_or w_xor w_not w_shr w_shl w_shl' w_shl8 w_shl8' w_shr3 w_shr10 b32_wrap b32_wrap' w8_wrap w8_wrap'

/-- bytes as cells -/
def bRow (l : List UInt8) : Array Value := (l.map vb).toArray

theorem clr_eq (b : Nat → UInt8) (k m : Nat) (h : k + (m + 1) = 64) : spl (rng 64 (fun j => vb (b j))) k (List.replicate (m + 1) (.int .u8 0)) = rng 64 (fun j => vb (if j < k then b j else 0)) := by
  rw [spl_rng (m := m + 1) (g := fun _ => .int .u8 0) (by simp) (fun j hj => by rw [List.getElem?_replicate, if_pos hj]) (by omega)]
  refine rng_ext fun j hj => ?_
  by_cases h1 : j < k
  · rw [if_neg (by omega), if_pos h1]
  · rw [if_pos (by omega), if_neg h1]; rfl
theorem pad_set (b : Nat → UInt8) (p : List UInt8) (hb : ∀ j, j < p.length → b j = p.getD j 0) : (rng 64 (fun j => vb (if j < p.length then b j else 0))).setIfInBounds p.length (.int .u8 128) = rng 64 (fun j => vb (padF p j)) := by
  rw [rng_set]
  refine rng_ext fun j _ => ?_
  unfold padF
  by_cases h1 : j < p.length
  · rw [if_neg (by omega), if_pos h1, if_pos h1, hb j h1]
  · by_cases h2 : j = p.length
    · rw [if_pos h2, if_neg h1, if_pos h2]; rfl
    · rw [if_neg h2, if_neg h1, if_neg h1, if_neg h2]

/-- the length's last k bytes laid -/
def lenTo (base : Nat → UInt8) (n k j : Nat) : UInt8 := if 64 - k ≤ j then (be8 n).getD (j - 56) 0 else base j
theorem lenTo_zero (base : Nat → UInt8) (n : Nat) : rng 64 (fun j => vb (lenTo base n 0 j)) = rng 64 (fun j => vb (base j)) := rng_ext fun j hj => by unfold lenTo; rw [if_neg (by omega)]
theorem lenTo_8 (base : Nat → UInt8) (n : Nat) : rng 64 (fun j => vb (lenTo base n 8 j)) = rng 64 (fun j => vb (lenF base n j)) := rfl
theorem lenTo_next (base : Nat → UInt8) (n k : Nat) (h : k < 8) : (rng 64 (fun j => vb (lenTo base n k j))).setIfInBounds (63 - k) (vb (UInt8.ofNat (8 * n / 2 ^ (8 * k)))) = rng 64 (fun j => vb (lenTo base n (k + 1) j)) := by
  rw [rng_set]
  refine rng_ext fun j hj => ?_
  unfold lenTo
  by_cases h1 : j = 63 - k
  · rw [if_pos h1, if_pos (by omega), h1, show 63 - k - 56 = 7 - k by omega, be8_get n k h]
  · rw [if_neg h1]
    by_cases h2 : 64 - k ≤ j
    · rw [if_pos h2, if_pos (by omega)]
    · rw [if_neg h2, if_neg (by omega)]
theorem len_val (n k : Nat) (h : k < 8) : IntKind.u64.wrap (8 * (n : Int)) / 2 ^ (8 * k) % 256 = bi (UInt8.ofNat (8 * n / 2 ^ (8 * k))) := by
  unfold bi
  rw [UInt8.toNat_ofNat', IntKind.wrap_u64]
  match k, h with
  | 0, _ | 1, _ | 2, _ | 3, _ | 4, _ | 5, _ | 6, _ | 7, _ => simp only [Nat.reduceMul, Nat.reducePow, Int.reducePow]; omega
theorem vals_at' (R : St) (j : Nat) (h : j < 8) : R.vals[j]? = some (.int .u32 (wi (R.list.getD j 0))) := by
  match j, h with
  | 0, _ | 1, _ | 2, _ | 3, _ | 4, _ | 5, _ | 6, _ | 7, _ => rfl
theorem bRow_size (l : List UInt8) : (bRow l).size = l.length := by simp [bRow]
theorem bRow_one (l : List UInt8) : (bRow l).all (·.oneCell') = true := by simp [bRow, vb, Value.oneCell']
theorem dig_next (l : List UInt8) (k : Nat) : (rng 32 (fun j => if j < k then vb (l.getD j 0) else .int .u8 0)).setIfInBounds k (vb (l.getD k 0)) = rng 32 (fun j => if j < k + 1 then vb (l.getD j 0) else .int .u8 0) := by
  rw [rng_set]
  refine rng_ext fun j hj => ?_
  by_cases h1 : j = k
  · subst h1; rw [if_pos rfl, if_pos (by omega)]
  · rw [if_neg h1]
    by_cases h2 : j < k
    · rw [if_pos h2, if_pos (by omega)]
    · rw [if_neg h2, if_neg (by omega)]
theorem dig_full (s : St) : bRow (outB s) = rng 32 (fun j => if j < 32 then vb ((outB s).getD j 0) else .int .u8 0) := by
  refine rng_of (by rw [bRow_size, outB_len]) fun j hj => ?_
  have hl := outB_len s
  rw [if_pos hj, bRow, List.getElem?_toArray, List.getElem?_map, getD_some _ _ (by omega)]; rfl
theorem hash_words {W : World} {g : Nat} {t : TypeId} {d m x y : Int} {s b : Nat → Value} (hB : Blk W g t (hashCells d m kF s b x y)) : WordsAt W ⟨g, 4, none⟩ kc := by
  intro j hj
  have hj' : j < 64 := hj
  rw [add_off, hB.cell, hash_k _ _ _ _ _ _ _ _ hj', kF, List.getD_eq_getElem?_getD, List.getElem?_eq_getElem hj]; rfl
theorem row_cells8 {W : World} {g : Nat} {t : TypeId} {S : St} (hB : Blk W g t S.vals) :
    (W.cell? ⟨g, 0, none⟩ = some (.int .u32 (wi S.a)) ∧ W.cell? ⟨g, 1, none⟩ = some (.int .u32 (wi S.b)) ∧ W.cell? ⟨g, 2, none⟩ = some (.int .u32 (wi S.c)) ∧ W.cell? ⟨g, 3, none⟩ = some (.int .u32 (wi S.d)) ∧
      W.cell? ⟨g, 4, none⟩ = some (.int .u32 (wi S.e)) ∧ W.cell? ⟨g, 5, none⟩ = some (.int .u32 (wi S.f)) ∧ W.cell? ⟨g, 6, none⟩ = some (.int .u32 (wi S.g)) ∧ W.cell? ⟨g, 7, none⟩ = some (.int .u32 (wi S.h))) ∧ ∀ j, W.frozen? ⟨g, j, none⟩ = false :=
  ⟨⟨(hB.cell 0).trans rfl, (hB.cell 1).trans rfl, (hB.cell 2).trans rfl, (hB.cell 3).trans rfl, (hB.cell 4).trans rfl, (hB.cell 5).trans rfl, (hB.cell 6).trans rfl, (hB.cell 7).trans rfl⟩, hB.frozen⟩
theorem store_row8 {P : Program} (R : St) {W : World} {g : Nat} {t : TypeId} {S : St} (hB : Blk W g t S.vals) :
    (storeCells ⟨g, 0, none⟩ R.vals.toList 0).run P W = .ok () (W.setCells g 0 R.vals.toList) :=
  run_storeCells_cells (P := P) g 0 R.vals.toList 0 W (fun j hj => ((hB.there 0 8 (by rw [vals_size]; omega)) j hj).1) (fun j hj => ((hB.there 0 8 (by rw [vals_size]; omega)) j hj).2) (vals_one R)
theorem set_row8 {W : World} {g : Nat} {t : TypeId} {S : St} (R : St) (hB : Blk W g t S.vals) :
    Blk (W.setCells g 0 R.vals.toList) g t R.vals ∧ Turned g W (W.setCells g 0 R.vals.toList) := by
  have h := hB.setCells 0 R.vals.toList (by rw [vals_len, vals_size]; omega)
  rw [spl_self _ _ (by rw [vals_size, vals_size])] at h
  exact h

set_option maxRecDepth 100000 in
set_option maxHeartbeats 4000000 in
theorem sum_any (g : Nat) (l : List UInt8) (w : World) (h : HashAt w g l) (hlen : l.length ≤ maxLen) :
    Calls Tryz.prog 51 #[.pointer (some ⟨g, 0, none⟩)] w fun e w' => e = .returned (.tuple #[.agg (bRow (shaOf l)), .int .i64 0]) ∧ HashDone w' g l ∧ w.grownBy w' (some g) := by
  unfold maxLen at hlen
  have hgl := h.lt
  have c0 : w.cell? ⟨g, 0, none⟩ = some (.bool true) := by
    rcases h with ⟨b, h1, _⟩ | ⟨_, h1⟩ <;> exact (h1.cell 0).trans (hash_at _ _ _ _ _ _ _ 0 (by omega))
  have hnot : ∀ (x : Bool) (w : World), (Op.unary .not (.bool x)).run Tryz.prog w = .ok (.bool (!x)) w := fun _ _ => rfl
  have HH := Lib.hid h
  clear h
  go_enter Tryz.func51, Tryz.ntmps51
  go_wp2_with fail
  have hWB := Blk.new w 32 (rng 32 z8)
  have hR : rng 32 z8 = Array.replicate 32 (.int .u8 0) := (rng_of (by simp) fun j hj => by simp [z8, hj]).symm
  rw [hR] at hWB
  have hWs : (w.alloc (.cells (Array.replicate 32 (.int .u8 0)) 32)).heap.size = w.heap.size + 1 := by simp
  have hWh := HH.out.keep (Below.heap_alloc w (.cells (Array.replicate 32 (.int .u8 0)) 32) g hgl)
  have hWg := only_alloc (World.grownBy.refl w (some g)) (.cells (Array.replicate 32 (.int .u8 0)) 32)
  have hlit : Array.replicate 32 (Value.int .u8 0) = #[.int .u8 0, .int .u8 0, .int .u8 0, .int .u8 0, .int .u8 0, .int .u8 0, .int .u8 0, .int .u8 0, .int .u8 0, .int .u8 0, .int .u8 0, .int .u8 0, .int .u8 0, .int .u8 0, .int .u8 0, .int .u8 0, .int .u8 0, .int .u8 0, .int .u8 0, .int .u8 0, .int .u8 0, .int .u8 0, .int .u8 0, .int .u8 0, .int .u8 0, .int .u8 0, .int .u8 0, .int .u8 0, .int .u8 0, .int .u8 0, .int .u8 0, .int .u8 0] := rfl
  rw [hlit] at hWB hWs hWh hWg
  generalize w.alloc _ = W at hWB hWs hWh hWg ⊢
  refine (ready_any g l W hWh).mono ?_
  rintro _ w1 ⟨rfl, ⟨b, hB, hbb⟩, hg1⟩
  clear hlit hR
  have hRB := hWB.grown hg1 (by intro e; injection e with e; omega)
  have hsz1 := hg1.size
  rw [hWs] at hsz1
  have hg2 := hWg.trans hg1
  have hpl := acc_lt l
  have hll := acc_len l
  clear hWB hWs hWh hWg hg1 c0
  generalize hA : acc l = SP at *
  obtain ⟨S, p⟩ := SP
  simp only at hpl hll hB hbb
  have HA := Lib.hid hA
  have HB := Lib.hid hB
  have HBB := Lib.hid hbb
  have HRB := Lib.hid hRB
  have HLL := Lib.hid hll
  clear hA hbb hRB hll
  have hgl1 := hB.lt
  have q := (hash_cells8 hB).1
  clear hB
  go_upto_region 4 with fail
  go_cut [4, 5] (fun s4 s5 wx => ∃ gs gb : Nat, s4 = .pointer (some ⟨gs, 0, none⟩) ∧ s5 = .pointer (some ⟨gb, 0, none⟩) ∧ w1.heap.size ≤ gs ∧ w1.heap.size ≤ gb ∧ Blk wx gs 95 S.vals ∧ Blk wx gb 97 (rng 64 (fun j => vb (b j))) ∧ Below w1.heap.size w1 wx)
  case first =>
    have hB := HB.out
    refine wp_region_held_drew (S := fun w' => Blk w' g 115 (hashCells 1 0 kF (sF S) (fun j => vb (b j)) (p.length : Nat) (l.length : Nat))) (by kernel_rfl) hB.drew (fun hS0 => ?_)
    refine wpAnyH_take (i := 0) (oi := _) (v := _) rfl (by kernel_rfl) (by kernel_rfl) (by kernel_rfl) (fun _ _ _ h => h) (Or.inl ⟨rfl, fun w hS => by first | (go_simp; done) | (go_simp; rfl)⟩) hS0 ?_
    simp only [Act.put, List.setIfInBounds_toArray]
    refine wpAnyH_take (i := 1) (oi := _) (v := _) rfl (by kernel_rfl) (by kernel_rfl) (by kernel_rfl) (fun _ _ _ h => h) (Or.inl ⟨rfl, fun w hS => by first | (go_simp; done) | (go_simp; rfl)⟩) hS0 ?_
    simp only [Act.put]
    refine wpAnyH_take (i := 2) (oi := _) (v := _) rfl (by kernel_rfl) (by kernel_rfl) (by kernel_rfl) (fun _ _ _ h => h) (Or.inl ⟨rfl, fun w hS => by first | (go_simp; done) | (go_simp; rfl)⟩) hS0 ?_
    simp only [Act.put]
    refine wpAnyH_take (i := 3) (oi := _) (v := _) rfl (by kernel_rfl) (by kernel_rfl) (by kernel_rfl) (fun _ _ _ h => h) (Or.inl ⟨rfl, fun w hS => exec_load_part 95 _ rfl g 68 8 rfl 115 _ S.vals _ hS Tryz.underlying95 rfl rfl rfl (fun j hj => by rw [hash_s _ _ _ _ _ _ _ _ hj]; rw [← Array.getElem?_toList]; exact (vals_at S j hj).symm)⟩) hS0 ?_
    simp only [Act.put]
    refine wpAnyH_take (i := 4) (oi := _) (v := _) rfl (by kernel_rfl) (by kernel_rfl) (by kernel_rfl) (fun _ _ _ h => h) (Or.inl ⟨rfl, fun w hS => by first | (go_simp; done) | (go_simp; rfl)⟩) hS0 ?_
    simp only [Act.put]
    refine wpAnyH_take (i := 5) (oi := _) (v := _) rfl (by kernel_rfl) (by kernel_rfl) (by kernel_rfl) (fun _ _ _ h => h) (Or.inl ⟨rfl, fun w hS => by first | (go_simp; done) | (go_simp; rfl)⟩) hS0 ?_
    simp only [Act.put]
    refine wpAnyH_take (i := 6) (oi := _) (v := _) rfl (by kernel_rfl) (by kernel_rfl) (by kernel_rfl) (fun _ _ _ h => h) (Or.inl ⟨rfl, fun w hS => by first | (go_simp; done) | (go_simp; rfl)⟩) hS0 ?_
    simp only [Act.put]
    refine wpAnyH_take (i := 7) (oi := _) (v := _) rfl (by kernel_rfl) (by kernel_rfl) (by kernel_rfl) (fun _ _ _ h => h) (Or.inl ⟨rfl, fun w hS => exec_load_part 97 _ rfl g 76 64 rfl 115 _ (rng 64 (fun j => vb (b j))) _ hS Tryz.underlying97 rfl rfl (rng_size _ _) (fun j hj => by rw [hash_b _ _ _ _ _ _ _ _ hj, rng_get _ _ _ hj])⟩) hS0 ?_
    simp only [Act.put]
    refine wpAnyH_ready (rs := [8, 9]) (by kernel_rfl) (by simp) ?_
    refine AllReadyH.cons rfl (fun K hK => ?_) (AllReadyH.cons rfl (fun K hK => ?_) AllReadyH.nil)
    · go_simp
      refine hK.out _ _ (hB.alloc _).drew (fun _ => ?_)
      clear hK K
      refine wpAnyH_ready (rs := [9]) (by kernel_rfl) (by simp) ?_
      refine AllReadyH.cons rfl (fun K hK => ?_) AllReadyH.nil
      go_simp
      refine hK.out _ _ ((hB.alloc _).alloc _).drew (fun _ => ?_)
      clear hK K
      refine wpAnyH_ready (rs := [10]) (by kernel_rfl) (by simp) ?_
      refine AllReadyH.cons rfl (fun K hK => ?_) AllReadyH.nil
      refine step_store_part rfl 95 _ _ rfl w1.heap.size 0 S.vals rfl rfl 95 _ ((Blk.newAt rfl).alloc _).drew rfl (by simp [St.vals]) (vals_all S) ?_
      intro W5 hT5 hB5
      have hh5 := hT5.blk ((hB.alloc _).alloc _).drew (by omega)
      have hb5 := hT5.blk (k := (w1.heap.size + 1)) (t := 97) (Blk.newAt (by simp)).drew (by omega)
      have hbe5 := hT5.below (((Below.refl w1.heap.size w1).alloc (Nat.le_refl _) _).alloc (by simp) _).drew (by omega)
      refine hK.out _ _ hh5 (fun _ => ?_)
      clear hK K
      refine wpAnyH_ready (rs := [11]) (by kernel_rfl) (by simp) ?_
      refine AllReadyH.cons rfl (fun K hK => ?_) AllReadyH.nil
      refine step_store_part rfl 97 _ _ rfl (w1.heap.size + 1) 0 (rng 64 (fun j => vb (b j))) rfl rfl 97 _ hb5 (by rw [rng_size]; rfl) (by rw [rng_size]; simp) (by simp [rng, vb, Value.oneCell']) ?_
      intro W6 hT6 hB6
      refine hK.out _ _ (hT6.blk hh5 (by omega)) (fun _ => ?_)
      refine wpAnyH_done (by kernel_rfl) ?_ _
      rw [spl_self _ _ (by simp [St.vals])] at hB5
      rw [spl_self _ _ (by rw [rng_size]; simp)] at hB6
      go_wp2_with fail
      go_meet
      exact ⟨w1.heap.size, (w1.heap.size + 1), rfl, rfl, by omega, by omega, hT6.blk hB5 (by omega), hB6, hT6.below hbe5 (by omega)⟩
    · go_simp
      refine hK.out _ _ (hB.alloc _).drew (fun _ => ?_)
      clear hK K
      refine wpAnyH_ready (rs := [8]) (by kernel_rfl) (by simp) ?_
      refine AllReadyH.cons rfl (fun K hK => ?_) AllReadyH.nil
      go_simp
      refine hK.out _ _ ((hB.alloc _).alloc _).drew (fun _ => ?_)
      clear hK K
      refine wpAnyH_ready (rs := [10]) (by kernel_rfl) (by simp) ?_
      refine AllReadyH.cons rfl (fun K hK => ?_) AllReadyH.nil
      refine step_store_part rfl 95 _ _ rfl (w1.heap.size + 1) 0 S.vals rfl rfl 95 _ (Blk.newAt (by simp)).drew rfl (by simp [St.vals]) (vals_all S) ?_
      intro W5 hT5 hB5
      have hh5 := hT5.blk ((hB.alloc _).alloc _).drew (by omega)
      have hb5 := hT5.blk (k := w1.heap.size) (t := 97) ((Blk.newAt rfl).alloc _).drew (by omega)
      have hbe5 := hT5.below (((Below.refl w1.heap.size w1).alloc (Nat.le_refl _) _).alloc (by simp) _).drew (by omega)
      refine hK.out _ _ hh5 (fun _ => ?_)
      clear hK K
      refine wpAnyH_ready (rs := [11]) (by kernel_rfl) (by simp) ?_
      refine AllReadyH.cons rfl (fun K hK => ?_) AllReadyH.nil
      refine step_store_part rfl 97 _ _ rfl w1.heap.size 0 (rng 64 (fun j => vb (b j))) rfl rfl 97 _ hb5 (by rw [rng_size]; rfl) (by rw [rng_size]; simp) (by simp [rng, vb, Value.oneCell']) ?_
      intro W6 hT6 hB6
      refine hK.out _ _ (hT6.blk hh5 (by omega)) (fun _ => ?_)
      refine wpAnyH_done (by kernel_rfl) ?_ _
      rw [spl_self _ _ (by simp [St.vals])] at hB5
      rw [spl_self _ _ (by rw [rng_size]; simp)] at hB6
      go_wp2_with fail
      go_meet
      exact ⟨(w1.heap.size + 1), w1.heap.size, rfl, rfl, by omega, by omega, hT6.blk hB5 (by omega), hB6, hT6.below hbe5 (by omega)⟩
  case rest =>
    obtain ⟨gs, gb, rfl, rfl, hgs, hgb, hBs, hBb, hbel⟩ := hcut
    have hBh := HB.out.below hbel (by omega)
    have hBr := HRB.out.below hbel (by omega)
    have c140 := (hBh.cell 140).trans (hash_c140 _ _ _ _ _ _ _)
    have hnsb := hBs.ne_ hBb (by decide)
    have hr1 := fun W => run_sliceArr_l (P := Tryz.prog) (t := 97) (e := 5) (n := 64) rfl rfl ⟨gb, 0, none⟩ p.length (p.length : Int) rfl hpl W
    rw [add_off, Nat.zero_add] at hr1
    obtain ⟨m, hm⟩ : ∃ m, 64 - p.length = m + 1 := ⟨63 - p.length, by omega⟩
    rw [hm] at hr1
    have HM := Lib.hid hm
    have HBs := Lib.hid hBs
    have HBb := Lib.hid hBb
    have HBh := Lib.hid hBh
    have HBr := Lib.hid hBr
    have HBE := Lib.hid hbel
    clear hBs hBb hBh hBr hbel hm
    go_upto_if 43 with (refine wpList_clear_part rfl (.tmp 33) 22 5 rfl gb p.length m (m + 1) 97 _ (.int .u8 0) rfl Tryz.underlying22 (Tryz.zeroValue5 _) rfl rfl HBb.out (by rw [rng_size]; have := HM.out; omega) ?_; intro W2 hT2 hB2; rw [clr_eq b p.length m (by have := HM.out; omega)] at hB2; have c140b := ((hT2.blk HBh.out (by omega)).cell 140).trans (hash_c140 _ _ _ _ _ _ _); have cz := (hB2.cell p.length).trans (rng_get _ _ _ hpl); have fz := hB2.frozen p.length; have HB2 := Lib.hid hB2; clear hB2)
    have hB3 := HB2.out.set_ p.length (.int .u8 128)
    rw [pad_set b p HBB.out] at hB3
    have hT3 := hT2.trans (Turned.setCell W2 ⟨gb, p.length, none⟩ (.int .u8 128))
    generalize W2.setCell ⟨gb, p.length, none⟩ (.int .u8 128) = W3 at hB3 hT3 ⊢
    have hBe3 := hT3.below HBE.out hgb
    have hBh3 := hT3.blk HBh.out (by omega)
    have hBs3 := hT3.blk HBs.out hnsb
    clear c140 c140b cz fz hr1 HB2 hT2
    go_cut [50] (fun _s50 wx => ∃ (S' : St) (base : Nat → UInt8), Blk wx gs 95 S'.vals ∧ Blk wx gb 97 (rng 64 (fun j => vb (base j))) ∧ lastSt S p l.length = compress S' (blkOf (lenF base l.length)) ∧ Below w1.heap.size w1 wx)
    case first =>
      by_cases h56 : 56 ≤ p.length
      · have hby : BytesAt W3 ⟨gb, 0, none⟩ (blkOf (padF p)) := by
          intro j hj
          have hj' : j < 64 := by rw [blkOf_len] at hj; exact hj
          rw [add_off, Nat.zero_add, hB3.cell, rng_get _ _ _ hj', blkOf_get]
        have hwk := hash_words hBh3
        have HT := Lib.hid (take_any S _ ⟨gb, 0, none⟩ ⟨g, 4, none⟩ W3.drew (blkOf_len _) hby hwk hB3.lt hBh3.lt)
        have hq := (row_cells8 hBs3).1
        have hvs := vals_size (compress S (blkOf (padF p)))
        have hgsl := hBs3.lt
        have hgbl := hB3.lt
        have HBs3 := Lib.hid hBs3
        have HB3 := Lib.hid hB3
        have HBe3 := Lib.hid hBe3
        have HT3 := Lib.hid hT3
        clear hBs3 hB3 hby hwk hBh3 hBe3 hT3
        go_wp2
        go_region_law (go_simp; go_at_call 66; refine HT.out.mono ?_; rintro _ w4 ⟨rfl, hb4⟩; have hst4 := (store_row8 (P := Tryz.prog) (compress S (blkOf (padF p))) (HBs3.out.drew.below hb4 hgsl)))
        have h5 := set_row8 (compress S (blkOf (padF p))) (HBs3.out.drew.below hb4 hgsl)
        have hB5 := h5.2.blk (HB3.out.drew.below hb4 hgbl) (Ne.symm hnsb)
        have hE5 := h5.2.below (HBe3.out.trans ((Below.refl _ W3).drew.trans (hb4.mono (by have := HBe3.out.size; exact this)))) hgs
        generalize (w4.setCells gs 0 (compress S (blkOf (padF p))).vals.toList) = W5 at h5 hB5 hE5 ⊢
        have h50 := h5.1
        clear h5 hst4 hq hvs
        have HB5 := Lib.hid hB5
        clear hB5
        go_wp2_with (refine wpList_clear_part rfl (.tmp 49) 22 5 rfl gb 0 63 64 97 _ (.int .u8 0) rfl Tryz.underlying22 (Tryz.zeroValue5 _) rfl rfl HB5.out (by rw [rng_size]; omega) ?_; intro W6 hT6 hB6)
        rw [clr_eq (padF p) 0 63 (by omega)] at hB6
        go_meet
        exact ⟨compress S (blkOf (padF p)), fun _ => 0, hT6.blk h50 hnsb, hB6, last_hi S p l.length h56 hpl, hT6.below hE5 hgb⟩
      · go_wp2_with fail
        go_meet
        exact ⟨S, padF p, hBs3, hB3, last_lo S p l.length (by omega), hBe3⟩
    case rest =>
      obtain ⟨S', base, hBs, hBb, hlast, hbe⟩ := hcut
      clear hBs3 hB3 hBe3 hBh3 hT3
      have hBh := HB.out.below hbe (by omega)
      have hBr := HRB.out.below hbe (by omega)
      have HLA := Lib.hid hlast
      clear hlast
      go_wp2_with fail
      go_loopw [50] (fun i wr => ∃ k : Nat, k ≤ 8 ∧ i = .int .i64 k ∧ Blk wr gb 97 (rng 64 (fun j => vb (lenTo base l.length k j))) ∧ Turned gb wc wr) (fun i _ => 8 - (intOf i).toNat)
      case atStart => exact ⟨0, by omega, rfl, by rw [lenTo_zero]; exact hBb, Turned.refl _ _⟩
      case round =>
        obtain ⟨k, hk, rfl, hBk, hTk⟩ := hrel
        by_cases hk8 : k < 8
        · have c141 := ((hTk.blk hBh (by omega)).cell 141).trans (hash_c141 _ _ _ _ _ _ _)
          have e1 : ((63 : Int) - (k : Int)).toNat = 63 - k := by omega
          have cz := (hBk.cell (63 - k)).trans (rng_get _ _ _ (by omega))
          have fz := hBk.frozen (63 - k)
          unfold vb at cz
          have HBk := Lib.hid hBk
          have HTk := Lib.hid hTk
          clear hBk hTk hBb hBs hBh hBr
          go_wp2
          go_roundw
          case measure => simp [intOf]; omega
          case rel =>
            have h2 := HBk.out.set_ (63 - k) (vb (UInt8.ofNat (8 * l.length / 2 ^ (8 * k))))
            rw [lenTo_next base l.length k hk8] at h2
            rw [len_val l.length k hk8]
            exact ⟨k + 1, by omega, by go_num, h2, HTk.out.trans (Turned.setCell wr ⟨gb, 63 - k, none⟩ _)⟩
        · obtain rfl : k = 8 := by omega
          rw [lenTo_8] at hBk
          have hB3 := hBk
          have hBs3 := hTk.blk hBs hnsb
          have hBh3 := hTk.blk hBh (by omega)
          have hBr3 := hTk.blk hBr (by omega)
          have hBe3 := hTk.below hbe hgb
          clear hBk hBs hBh hBr hbe hBb
          have hby : BytesAt wr ⟨gb, 0, none⟩ (blkOf (lenF base l.length)) := by
            intro j hj
            have hj' : j < 64 := by rw [blkOf_len] at hj; exact hj
            rw [add_off, Nat.zero_add, hB3.cell, rng_get _ _ _ hj', blkOf_get]
          have hwk := hash_words hBh3
          have HT := Lib.hid (take_any S' _ ⟨gb, 0, none⟩ ⟨g, 4, none⟩ wr.drew (blkOf_len _) hby hwk hB3.lt hBh3.lt)
          have hq := (row_cells8 hBs3).1
          have hvs := vals_size (compress S' (blkOf (lenF base l.length)))
          have hgsl := hBs3.lt
          have hghl := hBh3.lt
          have hgrl := hBr3.lt
          have HBs3 := Lib.hid hBs3
          have HBh3 := Lib.hid hBh3
          have HBr3 := Lib.hid hBr3
          have HBe3 := Lib.hid hBe3
          clear hBs3 hB3 hby hwk hBh3 hBe3 hBr3 hTk
          go_wp2
          go_region_law (go_simp; go_at_call 66; refine HT.out.mono ?_; rintro _ w4 ⟨rfl, hb4⟩; have hst4 := (store_row8 (P := Tryz.prog) (compress S' (blkOf (lenF base l.length))) (HBs3.out.drew.below hb4 hgsl)))
          have h5 := set_row8 (compress S' (blkOf (lenF base l.length))) (HBs3.out.drew.below hb4 hgsl)
          have hB5 := h5.2.blk (HBh3.out.drew.below hb4 hghl) (by omega)
          have hR5 := h5.2.blk (HBr3.out.drew.below hb4 hgrl) (by omega)
          have hE5 := h5.2.below (HBe3.out.trans ((Below.refl _ wr).drew.trans (hb4.mono (by have := HBe3.out.size; exact this)))) hgs
          have h50 := h5.1
          clear h5 hst4 hq hvs
          generalize (w4.setCells gs 0 (compress S' (blkOf (lenF base l.length))).vals.toList) = W5 at h50 hB5 hR5 hE5 ⊢
          rw [← HLA.out] at h50
          have h50L := Lib.hid h50
          have hB5L := Lib.hid hB5
          have hR5L := Lib.hid hR5
          have hE5L := Lib.hid hE5
          clear h50 hB5 hR5 hE5
          go_wp2
          have hD := Blk.newAt (w := W5) (t := 32) (cs := rng 32 z8) rfl
          have hh6 := (hB5L.out).alloc (.cells (rng 32 z8) 32)
          have hs6 := (h50L.out).alloc (.cells (rng 32 z8) 32)
          have hr6 := (hR5L.out).alloc (.cells (rng 32 z8) 32)
          have hE6 := (hE5L.out).alloc hE5L.out.size (.cells (rng 32 z8) 32)
          have hR : rng 32 z8 = Array.replicate 32 (.int .u8 0) := (rng_of (by simp) fun j hj => by simp [z8, hj]).symm
          have hlit : Array.replicate 32 (Value.int .u8 0) = #[.int .u8 0, .int .u8 0, .int .u8 0, .int .u8 0, .int .u8 0, .int .u8 0, .int .u8 0, .int .u8 0, .int .u8 0, .int .u8 0, .int .u8 0, .int .u8 0, .int .u8 0, .int .u8 0, .int .u8 0, .int .u8 0, .int .u8 0, .int .u8 0, .int .u8 0, .int .u8 0, .int .u8 0, .int .u8 0, .int .u8 0, .int .u8 0, .int .u8 0, .int .u8 0, .int .u8 0, .int .u8 0, .int .u8 0, .int .u8 0, .int .u8 0, .int .u8 0] := rfl
          rw [hR, hlit] at hD hh6 hs6 hr6 hE6
          have hsz5 := hE5L.out.size
          obtain ⟨gd, hgd⟩ : ∃ gd, gd = W5.heap.size := ⟨_, rfl⟩
          rw [← hgd] at hD hsz5 ⊢
          have hgs5 := h50L.out.lt
          have hgg5 := hB5L.out.lt
          have hgr5 := hR5L.out.lt
          rw [← hgd] at hgs5 hgg5 hgr5
          have HGD := Lib.hid hgd
          clear hgd
          generalize W5.alloc _ = W6 at hD hh6 hs6 hr6 hE6 ⊢
          rw [← hlit, ← hR] at hD
          clear hR hlit
          go_loopw [72] (fun i wr => ∃ k : Nat, k ≤ 32 ∧ i = .int .i64 k ∧ Blk wr gd 32 (rng 32 (fun j => if j < k then vb ((outB (lastSt S p l.length)).getD j 0) else .int .u8 0)) ∧ Turned gd W6 wr) (fun i _ => 32 - (intOf i).toNat)
          case atStart => exact ⟨0, by omega, rfl, by rw [show rng 32 (fun j => if j < 0 then vb ((outB (lastSt S p l.length)).getD j 0) else .int .u8 0) = rng 32 z8 from rng_ext fun j _ => by rw [if_neg (by omega)]; rfl]; exact hD, Turned.refl _ _⟩
          case round =>
            obtain ⟨k, hk, rfl, hBk, hTk⟩ := hrel
            by_cases hk8 : k < 32
            · have e1 : ((k : Int) / 4).toNat = k / 4 := by omega
              have e2 : ((24 : Int) - 8 * ((k : Int) % 4)).toNat = 24 - 8 * (k % 4) := by omega
              have cs0 := ((hTk.blk hs6 (by omega)).cell (k / 4)).trans (vals_at' (lastSt S p l.length) (k / 4) (by omega))
              have cd0 := (hBk.cell k).trans (rng_get _ _ _ hk8)
              have fd0 := hBk.frozen k
              rw [if_neg (by omega)] at cd0
              have HBk := Lib.hid hBk
              have HTk := Lib.hid hTk
              clear hBk hTk hD hh6 hs6 hr6 hE6
              go_wp2
              go_roundw
              case rel =>
                have h2 := HBk.out.set_ k (vb ((outB (lastSt S p l.length)).getD k 0))
                rw [dig_next _ k] at h2
                rw [outB_get _ k hk8] at h2
                exact ⟨k + 1, by omega, by go_num, h2, HTk.out.trans (Turned.setCell wr ⟨gd, k, none⟩ _)⟩
              case measure => simp [intOf]; omega
            · obtain rfl : k = 32 := by omega
              have hBk2 : Blk wr gd 32 (bRow (outB (lastSt S p l.length))) := by rw [dig_full]; exact hBk
              have hr7 := hTk.blk hr6 (by omega)
              have hh7 := hTk.blk hh6 (by omega)
              have hE7 := hTk.below hE6 hsz5
              have hbs := bRow_size (outB (lastSt S p l.length))
              rw [outB_len] at hbs
              have hall := bRow_one (outB (lastSt S p l.length))
              have HD := Lib.hid (show outB (lastSt S p l.length) = shaOf l by rw [shaOf, HA.out])
              have HBk := Lib.hid hBk2
              have HHr7 := Lib.hid hr7
              have HHh7 := Lib.hid hh7
              have HE7 := Lib.hid hE7
              have HHall := Lib.hid hall
              have HBS := Lib.hid hbs
              clear hBk hTk hD hh6 hs6 hr6 hE6 hBk2 hr7 hh7 hE7 hall hbs
              go_wp2_with (first | (refine wpList_load_part rfl 32 _ rfl gd 0 32 rfl 32 _ (bRow (outB (lastSt S p l.length))) _ HBk.out Tryz.underlying32 rfl rfl HBS.out (fun _ _ => by rw [Nat.zero_add]) ?_) | (refine wpList_store_part rfl 32 _ _ rfl w.heap.size 0 (bRow (outB (lastSt S p l.length))) rfl rfl 32 _ HHr7.out (by rw [HBS.out]; rfl) (by rw [HBS.out]; simp) HHall.out ?_; intro W8 hT8 hB8))
              rw [spl_self _ _ (by rw [HBS.out]; simp)] at hB8
              refine bodyPost_ret (results_part2 rfl _ _ w.heap.size 32 32 _ _ rfl hB8 Tryz.underlying32 rfl rfl HBS.out) rfl ⟨?_, ?_, ?_⟩
              · rw [HD.out]; rfl
              · have h9 := hT8.blk HHh7.out (by omega)
                have ha := HA.out
                refine ⟨b, ?_, ?_⟩
                · rw [ha]; exact h9
                · rw [ha]; exact HBB.out
              · exact grown_turned (hg2.trans (only_of_below HE7.out (some g))) hT8 (Nat.le_refl _)

end Go.Proofs.YtcmbmimmfgfefaaGreat
