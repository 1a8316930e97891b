/-
  Contracts of sha.roots, sha.start: the numbers of the standard.
-/
import Derived.Test.YtcmbmimmfgfefaaGreatPrimes
import Derived.Test.YtcmbmimmfgfefaaGreatRow
namespace Go.Proofs.YtcmbmimmfgfefaaGreat
set_option linter.unusedVariables false
open Go.RowKit Go.Lib

theorem pl_310 : (pl 310).length = 64 := by decide +kernel
theorem pl_309 : (pl 309).length = 63 := by decide +kernel
theorem pl_18 : (pl 18).length = 8 := by decide +kernel
theorem pl_17 : (pl 17).length = 7 := by decide +kernel
theorem roots_eq : (pl 310).map (fun p => rootF (fun x => within3 x p)) = kc.map (·.toNat) := by decide +kernel
theorem start_eq : (pl 18).map (fun p => rootF (fun x => within2 x p)) = h0.list.map (·.toNat) := by decide +kernel
theorem pl_310_lt (k : Nat) (h : k < 310) : (pl k).length < 64 := by
  have := pl_mono (a := k) (b := 309) (by omega)
  rw [pl_309] at this; omega
theorem pl_18_lt (k : Nat) (h : k < 18) : (pl k).length < 8 := by
  have := pl_mono (a := k) (b := 17) (by omega)
  rw [pl_17] at this; omega

theorem getD_map_toNat (l : List W32) (j : Nat) : (l.map (·.toNat)).getD j 0 = (l.getD j 0).toNat := by
  simp only [List.getD_eq_getElem?_getD, List.getElem?_map]
  cases l[j]? <;> rfl
theorem getD_map_root (l : List Nat) (f : Nat → Nat) (j : Nat) (h : j < l.length) : (l.map f).getD j 0 = f (l.getD j 0) := by
  simp only [List.getD_eq_getElem?_getD, List.getElem?_map, List.getElem?_eq_getElem h]; rfl
theorem pl_small (k j : Nat) (hk : k < 1000) : (pl k).getD j 0 < 18446744073709551616 := by
  rcases Nat.lt_or_ge j (pl k).length with h | h
  · have := pl_bd k ((pl k).getD j 0) (by rw [List.getD_eq_getElem?_getD, List.getElem?_eq_getElem h]; exact List.getElem_mem h)
    omega
  · rw [List.getD_eq_getElem?_getD, List.getElem?_eq_none h]; simp

theorem root3_any (j : Nat) (hj : j < 64) (w : World) : Calls Tryz.prog 82 #[.int .u64 (((pl 310).getD j 0 : Nat) : Int), .int .i64 3] w fun e w' => e = .returned (.int .u32 (wi (kc.getD j 0))) ∧ w = w' := by
  have h := root_any (fun x => within3 x ((pl 310).getD j 0)) ((pl 310).getD j 0) 3 (fun x W hx => within3_any x _ (by omega) (pl_small 310 j (by omega)) W) w
  refine h.mono fun e w' ⟨h1, h2⟩ => ⟨?_, h2⟩
  rw [h1]
  have e1 := getD_map_toNat kc j
  rw [← roots_eq, getD_map_root _ _ j (by rw [pl_310]; exact hj)] at e1
  unfold wi
  rw [← e1]
theorem root2_any (j : Nat) (hj : j < 8) (w : World) : Calls Tryz.prog 82 #[.int .u64 (((pl 18).getD j 0 : Nat) : Int), .int .i64 2] w fun e w' => e = .returned (.int .u32 (wi (h0.list.getD j 0))) ∧ w = w' := by
  have h := root_any (fun x => within2 x ((pl 18).getD j 0)) ((pl 18).getD j 0) 2 (fun x W hx => within2_any x _ (by omega) W) w
  refine h.mono fun e w' ⟨h1, h2⟩ => ⟨?_, h2⟩
  rw [h1]
  have e1 := getD_map_toNat h0.list j
  rw [← start_eq, getD_map_root _ _ j (by rw [pl_18]; exact hj)] at e1
  unfold wi
  rw [← e1]

theorem own_cells {w : World} {B n : Nat} {e : TypeId} {v : Value} {l : List Nat} (h : w.ownsRow B e 1 v n (l.map vu64)) (hn : 0 < n) :
    ∃ g c, v = .slice (some ⟨g, 0, none⟩) n c ∧ B ≤ g ∧ g < w.heap.size ∧ n ≤ c ∧ c ≤ maxLen ∧ ∀ j, j < n → w.cell? ⟨g, j, none⟩ = some (.int .u64 ((l.getD j 0 : Nat) : Int)) := by
  have hlen := h.1
  have hc := fun g hv => h.cells (g := g) hv
  rcases h.2 with ⟨_, h0⟩ | ⟨g, cap, cur, rfl, hb, hh, h1, h2, _⟩
  · omega
  · refine ⟨g, cap, rfl, hb, Blk.lt (cs := cur) hh, h1, h2, fun j hj => ?_⟩
    have hj' : j < l.length := by simp at hlen; omega
    have := hc g rfl j (vu64 (l.getD j 0)) (by rw [List.getElem?_map, List.getD_eq_getElem?_getD, List.getElem?_eq_getElem hj']; rfl)
    rw [add_off, Nat.zero_add] at this
    exact this

/-- what roots and start answer, closed to the walk -/
def kList : List Value := (List.range 64).map (fun j => vw (kc.getD j 0))
def hList : List Value := (List.range 8).map (fun j => vw (h0.list.getD j 0))
def kRow : Array Value := rng 64 (fun j => vw (kc.getD j 0))
def hRow : Array Value := rng 8 (fun j => vw (h0.list.getD j 0))
theorem kList_len : kList.length = 64 := by simp [kList]
theorem hList_len : hList.length = 8 := by simp [hList]
theorem kList_one : ∀ v ∈ kList, v.oneCell' = true := by intro v hv; obtain ⟨j, _, rfl⟩ := List.mem_map.1 hv; rfl
theorem hList_one : ∀ v ∈ hList, v.oneCell' = true := by intro v hv; obtain ⟨j, _, rfl⟩ := List.mem_map.1 hv; rfl
theorem kRow_size : kRow.size = 64 := rng_size _ _
theorem hRow_size : hRow.size = 8 := rng_size _ _
theorem kRow_one : kRow.all (·.oneCell') = true := rng_one 64 kc
theorem hRow_one : hRow.all (·.oneCell') = true := rng_one 8 h0.list
def svals (s : St) : Array Value := rng 8 (fun j => vw (s.list.getD j 0))
theorem svals_eq (s : St) : svals s = s.vals := by
  refine (rng_of (by simp [St.vals]) fun j hj => ?_).symm
  match j, hj with
  | 0, _ | 1, _ | 2, _ | 3, _ | 4, _ | 5, _ | 6, _ | 7, _ => rfl
/-- n cells, the first j of them made -/
def madeRow (n : Nat) (l : List W32) (j : Nat) : Array Value := rng n (fun q => if q < j then vw (l.getD q 0) else .int .u32 0)
theorem madeRow_zero (n : Nat) (l : List W32) : madeRow n l 0 = Array.replicate n (.int .u32 0) := by
  refine (rng_of (by simp) fun j hj => ?_).symm
  simp [hj]
theorem madeRow_next (n : Nat) (l : List W32) (j : Nat) : (madeRow n l j).setIfInBounds j (vw (l.getD j 0)) = madeRow n l (j + 1) := by
  unfold madeRow
  rw [rng_set]
  refine rng_ext fun q hq => ?_
  by_cases h1 : q = j
  · subst h1; rw [if_pos rfl, if_pos (by omega)]
  · rw [if_neg h1]
    by_cases h2 : q < j
    · rw [if_pos h2, if_pos (by omega)]
    · rw [if_neg h2, if_neg (by omega)]
theorem madeRow_at (n : Nat) (l : List W32) (j : Nat) (h : j < n) : (madeRow n l j)[j]? = some (.int .u32 0) := by
  unfold madeRow; rw [rng_get _ _ _ h, if_neg (by omega)]
theorem madeRow_full (n : Nat) (l : List W32) : madeRow n l n = rng n (fun j => vw (l.getD j 0)) := rng_ext fun j hj => by rw [if_pos hj]

set_option maxRecDepth 100000 in
set_option maxHeartbeats 1000000 in
theorem roots_any (w : World) : Calls Tryz.prog 75 #[] w fun e w' => e = .returned (.agg kRow) ∧ Below w.heap.size w w' := by
  go_enter Tryz.func75, Tryz.ntmps75
  go_wp2_with fail
  generalize hW : w.alloc _ = W
  have hB : Blk W w.heap.size 113 (madeRow 64 kc 0) := by rw [madeRow_zero, ← hW]; exact Blk.newAt rfl
  have hbel : Below w.heap.size w W := by rw [← hW]; exact (Below.refl _ _).alloc (Nat.le_refl _) _
  have hsz : W.heap.size = w.heap.size + 1 := by rw [← hW]; simp
  clear hW
  refine (primes_any 64 310 pl_310 pl_310_lt (by omega) W).mono ?_
  rintro _ w1 ⟨v, rfl, hown, hbel1⟩
  obtain ⟨g, c, rfl, hg, hg2, _, hcm, hcl⟩ := own_cells hown (by omega)
  have hB1 := hB.below hbel1 (by omega)
  have hbel2 := hbel.trans (hbel1.mono (by omega : w.heap.size ≤ W.heap.size))
  clear hB hbel hbel1 hown
  unfold maxLen at hcm
  have HC := Lib.hid hcl
  have HS := Lib.hid hsz
  clear hsz hcl
  go_wp2
  go_loopw [5] (fun i wr => ∃ j : Nat, j ≤ 64 ∧ i = .int .i64 j ∧ Blk wr w.heap.size 113 (madeRow 64 kc j) ∧ Turned w.heap.size w1 wr) (fun i _ => 64 - (intOf i).toNat)
  case atStart => exact ⟨0, by omega, rfl, hB1, Turned.refl _ _⟩
  case round =>
    obtain ⟨j, hj, rfl, hBr, ht⟩ := hrel
    clear hB1
    by_cases hjl : j < 64
    · have hsrc : wr.cell? ⟨g, j, none⟩ = some (.int .u64 (((pl 310).getD j 0 : Nat) : Int)) := (ht.cell (p := ⟨g, j, none⟩) (by have := HS.out; simp; omega)).trans (HC.out j hjl)
      have hdst := (hBr.cell j).trans (madeRow_at 64 kc j hjl)
      have hfz := hBr.frozen j
      have HR := Lib.hid (root3_any j hjl)
      generalize hp : (pl 310).getD j 0 = pv at hsrc HR
      clear hp
      go_wp2_with (go_at_call 82; refine (HR.out _).mono ?_; rintro _ _ ⟨rfl, rfl⟩)
      go_roundw
      case rel =>
        have h2 := hBr.set_ j (vw (kc.getD j 0))
        rw [madeRow_next] at h2
        exact ⟨j + 1, by omega, by go_num, h2, ht.trans (Turned.setCell wr ⟨w.heap.size, j, none⟩ _)⟩
      case measure => simp [intOf]; omega
    · obtain rfl : j = 64 := by omega
      rw [madeRow_full] at hBr
      clear HC
      have hu := Tryz.underlying113
      have hall := rng_one 64 kc
      go_wp2_with (first | (refine wpList_load_part rfl 113 _ rfl w.heap.size 0 64 rfl 113 _ (rng 64 (fun j => vw (kc.getD j 0))) _ hBr hu rfl rfl (rng_size _ _) (fun _ _ => by rw [Nat.zero_add]) ?_) | (refine wpList_store_part rfl 113 _ _ rfl w.heap.size 0 (rng 64 (fun j => vw (kc.getD j 0))) rfl rfl 113 _ hBr (by rw [rng_size]; rfl) (by omega) hall ?_; intro W2 hT2 hB2; rw [spl_self _ _ rfl] at hB2))
      refine bodyPost_ret (results_part rfl _ _ w.heap.size 64 113 _ _ rfl hB2 hu rfl rfl (rng_size _ _)) rfl ⟨rfl, hT2.below (ht.below hbel2 (Nat.le_refl _)) (Nat.le_refl _)⟩

set_option maxRecDepth 100000 in
set_option maxHeartbeats 1000000 in
theorem start_any (w : World) : Calls Tryz.prog 76 #[] w fun e w' => e = .returned (.agg hRow) ∧ Below w.heap.size w w' := by
  go_enter Tryz.func76, Tryz.ntmps76
  go_wp2_with fail
  generalize hW : w.alloc _ = W
  have hB : Blk W w.heap.size 95 (madeRow 8 h0.list 0) := by rw [madeRow_zero, ← hW]; exact Blk.newAt rfl
  have hbel : Below w.heap.size w W := by rw [← hW]; exact (Below.refl _ _).alloc (Nat.le_refl _) _
  have hsz : W.heap.size = w.heap.size + 1 := by rw [← hW]; simp
  clear hW
  refine (primes_any 8 18 pl_18 pl_18_lt (by omega) W).mono ?_
  rintro _ w1 ⟨v, rfl, hown, hbel1⟩
  obtain ⟨g, c, rfl, hg, hg2, _, hcm, hcl⟩ := own_cells hown (by omega)
  have hB1 := hB.below hbel1 (by omega)
  have hbel2 := hbel.trans (hbel1.mono (by omega : w.heap.size ≤ W.heap.size))
  clear hB hbel hbel1 hown
  unfold maxLen at hcm
  have HC := Lib.hid hcl
  have HS := Lib.hid hsz
  clear hsz hcl
  go_wp2
  go_loopw [5] (fun i wr => ∃ j : Nat, j ≤ 8 ∧ i = .int .i64 j ∧ Blk wr w.heap.size 95 (madeRow 8 h0.list j) ∧ Turned w.heap.size w1 wr) (fun i _ => 8 - (intOf i).toNat)
  case atStart => exact ⟨0, by omega, rfl, hB1, Turned.refl _ _⟩
  case round =>
    obtain ⟨j, hj, rfl, hBr, ht⟩ := hrel
    clear hB1
    by_cases hjl : j < 8
    · have hsrc : wr.cell? ⟨g, j, none⟩ = some (.int .u64 (((pl 18).getD j 0 : Nat) : Int)) := (ht.cell (p := ⟨g, j, none⟩) (by have := HS.out; simp; omega)).trans (HC.out j hjl)
      have hdst := (hBr.cell j).trans (madeRow_at 8 h0.list j hjl)
      have hfz := hBr.frozen j
      have HR := Lib.hid (root2_any j hjl)
      generalize hp : (pl 18).getD j 0 = pv at hsrc HR
      clear hp
      go_wp2_with (go_at_call 82; refine (HR.out _).mono ?_; rintro _ _ ⟨rfl, rfl⟩)
      go_roundw
      case rel =>
        have h2 := hBr.set_ j (vw (h0.list.getD j 0))
        rw [madeRow_next] at h2
        exact ⟨j + 1, by omega, by go_num, h2, ht.trans (Turned.setCell wr ⟨w.heap.size, j, none⟩ _)⟩
      case measure => simp [intOf]; omega
    · obtain rfl : j = 8 := by omega
      rw [madeRow_full] at hBr
      clear HC
      have hu := Tryz.underlying95
      have hall := rng_one 8 h0.list
      go_wp2_with (first | (refine wpList_load_part rfl 95 _ rfl w.heap.size 0 8 rfl 95 _ (rng 8 (fun j => vw (h0.list.getD j 0))) _ hBr hu rfl rfl (rng_size _ _) (fun _ _ => by rw [Nat.zero_add]) ?_) | (refine wpList_store_part rfl 95 _ _ rfl w.heap.size 0 (rng 8 (fun j => vw (h0.list.getD j 0))) rfl rfl 95 _ hBr (by rw [rng_size]; rfl) (by omega) hall ?_; intro W2 hT2 hB2; rw [spl_self _ _ rfl] at hB2))
      refine bodyPost_ret (results_part rfl _ _ w.heap.size 8 95 _ _ rfl hB2 hu rfl rfl (rng_size _ _)) rfl ⟨rfl, hT2.below (ht.below hbel2 (Nat.le_refl _)) (Nat.le_refl _)⟩

end Go.Proofs.YtcmbmimmfgfefaaGreat
