/-
  Contract of (*Hash).Write.
-/
import Derived.Test.YtcmbmimmfgfefaaGreatReady
import Derived.Test.YtcmbmimmfgfefaaGreatTake
import Derived.Deep.LoopGhost
import Derived.Deep.RegionLaw
namespace Go.Proofs.YtcmbmimmfgfefaaGreat
set_option linter.unusedVariables false
open Go.RowKit

/-- bytes that are read, beside block g -/
def Src (w : World) (g : Nat) (A : Option Addr) (n : Nat) (xs : List UInt8) : Prop :=
  xs.length = n ∧ (0 < n → ∃ ad, A = some ad ∧ ad.block ≠ g ∧ ad.block < w.heap.size ∧ ∀ j (h : j < xs.length), w.cell? (ad.add j) = some (vb xs[j]))
theorem Src.keep {w w' : World} {g n : Nat} {A : Option Addr} {xs : List UInt8} (h : Src w g A n xs) (hg : w.grownBy w' (some g)) : Src w' g A n xs :=
  ⟨h.1, fun hn => by
    obtain ⟨ad, h1, h2, h3, h4⟩ := h.2 hn
    exact ⟨ad, h1, h2, Nat.lt_of_lt_of_le h3 hg.size, fun j hj => (World.cell?_of_block (by rw [block_of_add]; exact hg.block _ h3 (fun e => h2 (by injection e)))).trans (h4 j hj)⟩⟩
theorem Src.cut {w : World} {g n c k : Nat} {A : Option Addr} {xs : List UInt8} (h : Src w g A n xs) (hk : k ≤ n) (hc : n ≤ c) : Src w g (if c = k then A else A.map (·.add k)) (n - k) (xs.drop k) := by
  refine ⟨by rw [List.length_drop, h.1], fun hn => ?_⟩
  obtain ⟨ad, rfl, h2, h3, h4⟩ := h.2 (by omega)
  rw [if_neg (by omega)]
  refine ⟨ad.add k, rfl, by rw [block_of_add]; exact h2, by rw [block_of_add]; exact h3, fun j hj => ?_⟩
  rw [add_of_add, List.getElem_drop]
  exact h4 _ _
theorem Src.of_reads {w : World} {B g n : Nat} {A : Option Addr} {xs : List UInt8} (h : Reads w B 1 A n (xs.map vb)) (hB : B ≤ w.heap.size) (hg : ∀ ad, A = some ad → ad.block ≠ g) : Src w g A n xs :=
  ⟨by have := h.1; simpa using this, fun hn => by
    obtain ⟨ad, rfl, h1, h2⟩ := h.2 hn
    exact ⟨ad, rfl, hg ad rfl, by omega, fun j hj => h2 j _ (by rw [List.getElem?_map, List.getElem?_eq_getElem hj]; rfl)⟩⟩

theorem hash_cells8 {W : World} {g : Nat} {d m x y : Int} {k b : Nat → Value} {S : St} (hB : Blk W g 115 (hashCells d m k (sF S) b x y)) :
    (W.cell? ⟨g, 68, none⟩ = some (.int .u32 (wi S.a)) ∧ W.cell? ⟨g, 69, none⟩ = some (.int .u32 (wi S.b)) ∧ W.cell? ⟨g, 70, none⟩ = some (.int .u32 (wi S.c)) ∧ W.cell? ⟨g, 71, none⟩ = some (.int .u32 (wi S.d)) ∧
      W.cell? ⟨g, 72, none⟩ = some (.int .u32 (wi S.e)) ∧ W.cell? ⟨g, 73, none⟩ = some (.int .u32 (wi S.f)) ∧ W.cell? ⟨g, 74, none⟩ = some (.int .u32 (wi S.g)) ∧ W.cell? ⟨g, 75, none⟩ = some (.int .u32 (wi S.h))) ∧ ∀ j, W.frozen? ⟨g, j, none⟩ = false :=
  ⟨⟨(hB.cell 68).trans (hash_s _ _ _ _ _ _ _ 0 (by omega)), (hB.cell 69).trans (hash_s _ _ _ _ _ _ _ 1 (by omega)), (hB.cell 70).trans (hash_s _ _ _ _ _ _ _ 2 (by omega)), (hB.cell 71).trans (hash_s _ _ _ _ _ _ _ 3 (by omega)),
    (hB.cell 72).trans (hash_s _ _ _ _ _ _ _ 4 (by omega)), (hB.cell 73).trans (hash_s _ _ _ _ _ _ _ 5 (by omega)), (hB.cell 74).trans (hash_s _ _ _ _ _ _ _ 6 (by omega)), (hB.cell 75).trans (hash_s _ _ _ _ _ _ _ 7 (by omega))⟩, hB.frozen⟩

theorem vals_size (R : St) : R.vals.size = 8 := rfl
theorem vals_len (R : St) : R.vals.toList.length = 8 := rfl
theorem vals_one (R : St) : ∀ v ∈ R.vals.toList, v.oneCell' = true := by
  intro v hv
  simp [St.vals] at hv
  rcases hv with rfl | rfl | rfl | rfl | rfl | rfl | rfl | rfl <;> rfl
theorem vals_all (R : St) : R.vals.all (·.oneCell') = true := Array.all_eq_true_iff_forall_mem.2 fun v hv => vals_one R v (by simpa using hv)
theorem vals_at (R : St) (j : Nat) (h : j < 8) : R.vals.toList[j]? = some (sF R j) := by
  match j, h with
  | 0, _ | 1, _ | 2, _ | 3, _ | 4, _ | 5, _ | 6, _ | 7, _ => rfl
theorem run_storeState {P : Program} (R : St) {W : World} {g : Nat} {t : TypeId} {d m x y : Int} {k s b : Nat → Value} (hB : Blk W g t (hashCells d m k s b x y)) :
    (storeCells ⟨g, 68, none⟩ R.vals.toList 0).run P W = .ok () (W.setCells g 68 R.vals.toList) :=
  run_storeCells_cells (P := P) g 68 R.vals.toList 0 W (fun j hj => ((hB.there 68 8 (by rw [hash_size]; omega)) j hj).1) (fun j hj => ((hB.there 68 8 (by rw [hash_size]; omega)) j hj).2) (vals_one R)
theorem hash_setState {W : World} {g : Nat} {t : TypeId} {d m x y : Int} {k s b : Nat → Value} (R : St) (hB : Blk W g t (hashCells d m k s b x y)) :
    Blk (W.setCells g 68 R.vals.toList) g t (hashCells d m k (sF R) b x y) ∧ Turned g W (W.setCells g 68 R.vals.toList) := by
  have h := hB.setCells 68 R.vals.toList (by rw [vals_len, hash_size]; omega)
  rw [hash_splS d m k s (sF R) b x y _ (vals_len R) (vals_at R)] at h
  exact h

theorem Src.of_below {w : World} {B g n : Nat} {A : Option Addr} {xs : List UInt8} (h : Reads w B 1 A n (xs.map vb)) (hB : B ≤ w.heap.size) (hg : B ≤ g) : Src w g A n xs :=
  ⟨by have := h.1; simpa using this, fun hn => by
    obtain ⟨ad, rfl, h1, h2⟩ := h.2 hn
    exact ⟨ad, rfl, by omega, by omega, fun j hj => h2 j _ (by rw [List.getElem?_map, List.getElem?_eq_getElem hj]; rfl)⟩⟩

set_option maxRecDepth 100000 in
set_option maxHeartbeats 4000000 in
theorem write_any (g : Nat) (l xs : List UInt8) (A : Option Addr) (n c : Nat) (w : World) (h : HashAt w g l) (hs : Src w g A n xs) (hc : n ≤ c) (hcm : c ≤ maxLen) (hlen : l.length + n ≤ maxLen) :
    Calls Tryz.prog 50 #[.pointer (some ⟨g, 0, none⟩), .slice A n c] w fun e w' => e = .returned (.int .i64 0) ∧ HashDone w' g (l ++ xs) ∧ w.grownBy w' (some g) := by
  unfold maxLen at hcm hlen
  have c0 : w.cell? ⟨g, 0, none⟩ = some (.bool true) := by
    rcases h with ⟨b, h1, _⟩ | ⟨_, h1⟩ <;> exact (h1.cell 0).trans (hash_at _ _ _ _ _ _ _ 0 (by omega))
  have hnot : ∀ (x : Bool) (w : World), (Op.unary .not (.bool x)).run Tryz.prog w = .ok (.bool (!x)) w := fun _ _ => rfl
  have HH := Lib.hid h
  clear h
  go_enter Tryz.func50, Tryz.ntmps50
  go_wp2_with fail
  refine (ready_any g l w HH.out).mono ?_
  rintro _ w1 ⟨rfl, ⟨b, hB, hbb⟩, hg1⟩
  have hs1 := hs.keep hg1
  clear hs c0
  have hpl := acc_lt l
  have c141 := (hB.cell 141).trans (hash_c141 _ _ _ _ _ _ _)
  have f141 := hB.frozen 141
  have HB := Lib.hid hB
  clear hB
  go_wp2
  have hB0 := HB.out.set_ 141 (.int .i64 ((l.length : Int) + (n : Int)))
  rw [hash_set141] at hB0
  have hT0 := Turned.setCell w1 ⟨g, 141, none⟩ (.int .i64 ((l.length : Int) + (n : Int)))
  have hs0 := hs1.keep hT0.grown
  have hg0 := hg1.trans hT0.grown
  have hxl := hs0.1
  clear hT0 hs1 hg1 HB c141 f141
  have HBB := Lib.hid hbb
  clear hbb
  go_loopg [1] n (fun gh v wr => ∃ (i : Nat) (A' : Option Addr) (c' : Nat) (b' : Nat → UInt8), i + gh = n ∧ v = .slice A' (n - i) c' ∧ n - i ≤ c' ∧ c' ≤ 9223372036854775807 ∧ Src wr g A' (n - i) (xs.drop i) ∧
    Blk wr g 115 (hashCells 1 0 kF (sF (acc (l ++ xs.take i)).1) (fun j => vb (b' j)) ((acc (l ++ xs.take i)).2.length : Nat) ((l.length : Int) + (n : Int))) ∧ Hid (∀ j, j < (acc (l ++ xs.take i)).2.length → b' j = (acc (l ++ xs.take i)).2.getD j 0) ∧ w.grownBy wr (some g))
  case atStart => exact ⟨0, A, c, b, by omega, rfl, by omega, by omega, by simpa using hs0, by simpa using hB0, by simpa [Hid] using HBB.out, hg0⟩
  case round =>
    clear hB0 hs0 hg0 HBB
    obtain ⟨i, A', c', b', hi, rfl, hc1, hc2, hs, hB, HB', hg⟩ := hrel
    by_cases hin : i < n
    · obtain ⟨ad, rfl, hne, hadl, hcl⟩ := hs.2 (by omega)
      have hpl := acc_lt (l ++ xs.take i)
      obtain ⟨m, hm⟩ : ∃ m, m = min (n - i) (64 - (acc (l ++ xs.take i)).2.length) := ⟨_, rfl⟩
      have hm1 : m ≤ n - i := by omega
      have hm2 : m ≤ 64 - (acc (l ++ xs.take i)).2.length := by omega
      have hm3 : 0 < m := by omega
      have hm4 : m = n - i ∨ m = 64 - (acc (l ++ xs.take i)).2.length := by omega
      have hstep : acc (l ++ xs.take (i + m)) = feed (acc (l ++ xs.take i)) ((xs.drop i).take m) := by
        rw [← acc_append, List.append_assoc, List.take_add]
      generalize hA : acc (l ++ xs.take i) = SP at *
      obtain ⟨S, p⟩ := SP
      simp only at hpl hm hm1 hm2 hm4 hB HB' hstep
      have hchl : ((xs.drop i).take m).length = m := by simp; omega
      have hsrc : ∀ j v, (((xs.drop i).take m).map vb)[j]? = some v → wr.cell? (ad.add j) = some v := by
        intro j v hv
        obtain ⟨hj, rfl⟩ := getElem?_vb hv
        rw [List.getElem_take]
        exact hcl j _
      have hs2 : Src wr g (if c' = m then some ad else (some ad).map (·.add m)) (n - i - m) ((xs.drop i).drop m) := hs.cut hm1 hc1
      have hr2 := fun W => run_slice_from (P := Tryz.prog) (t := 22) (e := 5) rfl rfl (some ad) (n - i) c' m (m : Int) rfl hm1 W
      generalize (if c' = m then some ad else (some ad).map (·.add m)) = A2 at hs2 hr2
      have hr1 := fun W => run_sliceArr_l (P := Tryz.prog) (t := 97) (e := 5) (n := 64) rfl rfl ⟨g, 76, none⟩ p.length (p.length : Int) rfl hpl W
      rw [add_off] at hr1
      have c140 := (hB.cell 140).trans (hash_c140 _ _ _ _ _ _ _)
      have HM := Lib.hid (And.intro hm hm4)
      have HA := Lib.hid (And.intro hA hstep)
      have HS := Lib.hid (And.intro hsrc (And.intro hchl hs2))
      have HI := Lib.hid hi
      have HB := Lib.hid hB
      clear hm hm4 hA hstep hsrc hchl hs2 hi hB hs hcl
      have hmi : (m : Int) ≤ n - i := by omega
      go_wp2
      refine wp_region_still_drew 9 (by kernel_rfl) (by kernel_rfl) ?_
      simp only [List.take_succ_cons, List.take_zero, List.drop_succ_cons, List.drop_zero]
      repeat still_step
      refine wpStill_nil ?_
      refine wpList_copy_part rfl (.tmp 36) (.tmp 37) 22 22 5 rfl g (76 + p.length) (64 - p.length) (64 - p.length) (n - i) c' ad 115 _ (((xs.drop i).take m).map vb) rfl rfl rfl rfl HB.out (by rw [List.length_map, HS.out.2.1, HM.out.1]) HS.out.1 (by rw [List.length_map, HS.out.2.1, hash_size]; omega) (by intro v hv; obtain ⟨x, _, rfl⟩ := List.mem_map.1 hv; rfl) ?_
      intro W2 hT2 hB2
      rw [hash_splB _ _ _ _ _ _ _ _ _ (by rw [HS.out.2.1]; omega)] at hB2
      rw [List.length_map, HS.out.2.1]
      have c140 := (hB2.cell 140).trans (hash_c140 _ _ _ _ _ _ _)
      have f140 := hB2.frozen 140
      by_cases hfull : p.length + m = 64
      · have hz : ((p.length : Int) + (m : Int) == 64) = true := by rw [beq_iff_eq]; omega
        have HB2 := Lib.hid hB2
        have HF := Lib.hid hfull
        clear hB2 hfull
        go_wp2
        have hB3 := HB2.out.set_ 140 (.int .i64 ((p.length : Int) + (m : Int)))
        rw [hash_set140] at hB3
        have hT3 := hT2.trans (Turned.setCell W2 ⟨g, 140, none⟩ (.int .i64 ((p.length : Int) + (m : Int))))
        generalize W2.setCell ⟨g, 140, none⟩ (.int .i64 ((p.length : Int) + (m : Int))) = W3 at hB3 hT3 ⊢
        clear c140 f140 hz
        have hblk : (p ++ (xs.drop i).take m).length = 64 := by rw [List.length_append, HS.out.2.1]; exact HF.out
        have hby : BytesAt W3 ⟨g, 76, none⟩ (p ++ (xs.drop i).take m) := by
          intro j hj
          rw [add_off, hB3.cell, hash_b _ _ _ _ _ _ _ _ (by omega)]
          have hml := HS.out.2.1
          have hfo := HF.out
          congr 2
          unfold putB
          by_cases h1 : j < p.length
          · rw [if_neg (by omega), HB'.out j h1, List.getD_eq_getElem?_getD, List.getElem?_eq_getElem h1, List.getElem_append_left h1]; rfl
          · rw [if_pos (by omega), List.getD_eq_getElem?_getD, List.getElem?_eq_getElem (by omega), List.getElem_append_right (by omega)]; rfl
        have hwk : WordsAt W3 ⟨g, 4, none⟩ kc := by
          intro j hj
          have hj' : j < 64 := hj
          rw [add_off, hB3.cell, hash_k _ _ _ _ _ _ _ _ hj', kF, List.getD_eq_getElem?_getD, List.getElem?_eq_getElem hj]; rfl
        have HT := Lib.hid (take_any S _ ⟨g, 76, none⟩ ⟨g, 4, none⟩ W3.drew hblk hby hwk hB3.lt hB3.lt)
        have hq := (hash_cells8 hB3).1
        have hvs := vals_size (compress S (p ++ List.take m (List.drop i xs)))
        have hgl := hB3.lt
        have HB3 := Lib.hid hB3
        have HY := Lib.hid hblk
        clear hB3 hby hwk hblk
        go_region_law (first
          | (go_simp; go_at_call 66; refine HT.out.mono ?_; rintro _ w4 ⟨rfl, hb4⟩; have hst4 := run_storeState (P := Tryz.prog) (compress S (p ++ List.take m (List.drop i xs))) (HB3.out.drew.below hb4 hgl)))
        have h5 := hash_setState (compress S (p ++ List.take m (List.drop i xs))) (HB3.out.drew.below hb4 hgl)
        have hG5 : wr.grownBy (w4.setCells g 68 (compress S (p ++ List.take m (List.drop i xs))).vals.toList) (some g) :=
          (((only_drewN (World.grownBy.refl wr _) _).trans hT3.grown).trans ((only_of_below ((Below.refl _ W3).drew.trans hb4) (some g)))).trans h5.2.grown
        have hB5 := h5.1
        clear h5 hst4 hq hvs
        generalize (w4.setCells g 68 (compress S (p ++ List.take m (List.drop i xs))).vals.toList) = W5 at hB5 hG5 ⊢
        have c140 := (hB5.cell 140).trans (hash_c140 _ _ _ _ _ _ _)
        have f140 := hB5.frozen 140
        have HB5 := Lib.hid hB5
        clear hB5
        go_wp2
        go_roundg (gk - m)
        case measure => have := HI.out; omega
        case rel =>
          have hi := HI.out
          have hfe := feed_full S p ((xs.drop i).take m) (by rw [HS.out.2.1]; exact HF.out) hpl
          have hst := HA.out.2
          rw [hfe] at hst
          have hB6 := HB5.out.set_ 140 (.int .i64 0)
          rw [hash_set140] at hB6
          have hT6 := Turned.setCell W5 ⟨g, 140, none⟩ (.int .i64 0)
          refine ⟨i + m, A2, c' - m, putB b' p.length ((xs.drop i).take m), by omega, by rw [Nat.sub_add_eq], by omega, by omega, ?_, ?_, ?_, (hg.trans hG5).trans hT6.grown⟩
          · have h2 := HS.out.2.2
            rw [List.drop_drop] at h2
            rw [Nat.sub_add_eq]
            exact (h2.keep hG5).keep hT6.grown
          · rw [hst]; exact hB6
          · rw [hst]; intro j hj; simp at hj
      · have hz : ((p.length : Int) + (m : Int) == 64) = false := by rw [beq_eq_false_iff_ne]; omega
        have HB2 := Lib.hid hB2
        have HF := Lib.hid hfull
        clear hB2 hfull
        go_wp2
        go_roundg (gk - m)
        case measure => have := HI.out; omega
        case rel =>
          have hi := HI.out
          have hfe := feed_short S p ((xs.drop i).take m) (by rw [HS.out.2.1]; have := HF.out; omega)
          have hst := HA.out.2
          rw [hfe] at hst
          have hB3 := HB2.out.set_ 140 (.int .i64 ((p.length : Int) + (m : Int)))
          rw [hash_set140] at hB3
          have hT3 := hT2.trans (Turned.setCell W2 ⟨g, 140, none⟩ (.int .i64 ((p.length : Int) + (m : Int))))
          refine ⟨i + m, A2, c' - m, putB b' p.length ((xs.drop i).take m), by omega, by rw [Nat.sub_add_eq], by omega, by omega, ?_, ?_, ?_, (only_drewN hg _).trans hT3.grown⟩
          · have h2 := HS.out.2.2
            rw [List.drop_drop] at h2
            rw [Nat.sub_add_eq]
            exact (h2.keep (only_drewN (World.grownBy.refl wr _) _)).keep hT3.grown
          · rw [hst]
            have e1 : ((p ++ (xs.drop i).take m).length : Int) = (p.length : Int) + (m : Int) := by rw [List.length_append, HS.out.2.1]; omega
            rw [e1]
            exact hB3
          · rw [hst]
            intro j hj
            have hml := HS.out.2.1
            simp only [List.length_append, hml] at hj
            unfold putB
            rw [hml]
            by_cases h1 : j < p.length
            · rw [if_neg (by omega), HB'.out j h1, List.getD_eq_getElem?_getD, List.getD_eq_getElem?_getD, List.getElem?_append_left h1]
            · rw [if_pos (by omega), List.getD_eq_getElem?_getD, List.getD_eq_getElem?_getD, List.getElem?_append_right (by omega)]
    · obtain rfl : i = n := by omega
      go_wp2
      go_ret
      have e : xs.take i = xs := List.take_of_length_le (by omega)
      rw [e] at hB HB'
      exact ⟨rfl, ⟨b', by rw [List.length_append, hxl]; exact hB, HB'.out⟩, hg⟩

end Go.Proofs.YtcmbmimmfgfefaaGreat
