/-
  ShaOnes: the law's walk.
-/
import Derived.Test.YtndjaibnapilnaaSplit
import Derived.Test.YtndjaibnapilnaaCalm
import Derived.Test.YtndjaibnapilnaaEqState
namespace Go.Proofs.Ytndjaibnapilnaa
set_option linter.unusedVariables false
open Go.RowKit

theorem Src.one {w : World} {B g n c k : Nat} {A : Option Addr} {xs : List UInt8} (h : Reads w B 1 A n (xs.map vb)) (hB : B ≤ w.heap.size) (hg : B ≤ g) (hk : k < n) (hc : n ≤ c) (x : UInt8) (hx : xs[k]? = some x) : Src w g (if c = k then A else A.map (·.add k)) 1 [x] := by
  have h1 := h.cut (k := k) (cap := c) (by omega) hc
  simp only [Nat.mul_one] at h1
  generalize (if c = k then A else A.map (·.add k)) = A' at h1 ⊢
  refine ⟨rfl, fun _ => ?_⟩
  obtain ⟨ad, rfl, hb, hcell⟩ := h1.2 (by omega)
  refine ⟨ad, rfl, by omega, by omega, fun j hj => ?_⟩
  have hj0 : j = 0 := by simpa using hj
  subst hj0
  refine hcell 0 (vb x) ?_
  rw [List.getElem?_drop, List.getElem?_map, Nat.add_zero, hx]
  rfl

set_option maxRecDepth 100000 in
set_option maxHeartbeats 1000000 in
theorem ones_law (A : Option Addr) (n c : Nat) (xs : List UInt8) (w : World) (B : Nat) (h : Reads w B 1 A n (xs.map vb)) (hB : B ≤ w.heap.size) (hc : n ≤ c) (hcm : c ≤ maxLen) :
    Calls Try.prog 4 #[.slice A n c] w fun e w' => e = .returned (.bool true) ∧ Below w.heap.size w w' := by
  have hnot : ∀ (x : Bool) (w : World), (Op.unary .not (.bool x)).run Try.prog w = .ok (.bool (!x)) w := fun _ _ => rfl
  obtain ⟨m, hm⟩ : ∃ m, m = min n 300 := ⟨_, rfl⟩
  have hm1 : m ≤ n := by omega
  have hm2 : m ≤ 300 := by omega
  have hmc : m ≤ c := by omega
  have hr0 := h.to (cap := c) hm1 hc
  have hsl0 := fun W => run_slice_to (P := Try.prog) (t := 22) (e := 5) rfl rfl A n c m (m : Int) rfl (by omega) W
  generalize (if c = 0 then A else A.map (·.add 0)) = A0 at hr0 hsl0
  have hmin1 : (if (300 : Int) < (n : Int) then (300 : Int) else (n : Int)) = (m : Int) := by split <;> omega
  have hmin2 : (if 300 < n then (300 : Int) else (n : Int)) = (m : Int) := by split <;> omega
  have HM := Lib.hid hm
  clear hm
  rw [← List.map_take] at hr0
  generalize xs.take m = ys at hr0
  have hyl : ys.length = m := by have := hr0.1; simpa using this
  have HYL := Lib.hid hyl
  have HR0 := Lib.hid hr0
  unfold maxLen at hcm
  clear hyl hr0
  go_enter Try.func4, Try.ntmps4
  go_wp2_with fail
  refine (works_any w).mono ?_
  rintro _ w1 ⟨rfl, hb1⟩
  have hs1 := hb1.size
  go_wp2_with fail
  refine (new_any w1).mono ?_
  rintro _ w2 ⟨rfl, hH2, hb2, hs2⟩
  obtain ⟨g, hg⟩ : ∃ g, g = w1.heap.size := ⟨_, rfl⟩
  rw [← hg] at hH2 hb2 hs2 hs1 ⊢
  have hgw2 : g < w2.heap.size := by omega
  have hb2' := hb1.trans (hb2.mono (by omega))
  have hA2 : HashAt w2 g [] := .inr ⟨rfl, hH2⟩
  have HH := Lib.hid hA2
  have HBB := Lib.hid hb2'
  clear hH2 hb2 hs2 hg hb1 hA2 hb2' hmin1 hmin2 hsl0
  go_wp2_with fail
  go_loopw [4] (fun i wr => ∃ k : Nat, k ≤ m ∧ i = .int .i64 k ∧ HashAt wr g (ys.take k) ∧ Below w.heap.size w wr) (fun i _ => m - (intOf i).toNat)
  case atStart => exact ⟨0, by omega, rfl, by rw [List.take_zero]; exact HH.out, HBB.out⟩
  case round =>
    obtain ⟨k, hk, rfl, hHk, hbk⟩ := hrel
    have hsz := hbk.size
    have hgl := hHk.lt
    have HHk := Lib.hid hHk
    have HBk := Lib.hid hbk
    clear hHk hbk
    by_cases hk1 : k < m
    · have hkc : c ≠ k := by omega
      have hsl := fun W => run_slice_mid (P := Try.prog) (t := 22) (e := 5) rfl rfl A0 m c k (k + 1) (k : Int) ((k : Int) + 1) rfl (by omega) (by omega) (by omega) W
      rw [show k + 1 - k = 1 by omega] at hsl
      have hyl : k < ys.length := by have := HYL.out; omega
      have HS := Lib.hid (Src.one (g := g) (c := c) (HR0.out.below (HBk.out.mono hB)) (by omega) (by omega) hk1 hmc ys[k] (List.getElem?_eq_getElem hyl))
      generalize (if c = k then A0 else A0.map (·.add k)) = A1 at hsl HS
      have HW := Lib.hid (write_any g (ys.take k) [ys[k]] A1 1 (c - k) wr HHk.out HS.out (by omega) (by unfold maxLen; omega) (by unfold maxLen; have := HYL.out; simp; omega))
      go_wp2_with fail
      refine HW.out.mono ?_
      rintro _ w3 ⟨rfl, hH3, hg3⟩
      clear hsl
      go_wp2_with fail
      go_roundw
      case rel =>
        refine ⟨k + 1, by omega, by go_num, ?_, grown_below' HBk.out hsz hg3 (by omega)⟩
        rw [List.take_succ_eq_append_getElem hyl]
        exact .inl hH3
      case measure => simp [intOf]; omega
    · obtain rfl : k = m := by omega
      have hAll : HashAt wr g ys := by have := HHk.out; rwa [List.take_of_length_le (by have := HYL.out; omega)] at this
      have HA := Lib.hid hAll
      clear hAll
      go_wp2_with fail
      refine (summed_any g ys wr HA.out (by have := HYL.out; unfold maxLen; omega)).mono ?_
      rintro _ w6 ⟨rfl, hH6, hg6⟩
      have hb6 := grown_below' HBk.out hsz hg6 (by omega)
      have hr6 := HR0.out.below (hb6.mono hB)
      have HBB := Lib.hid hb6
      have HR := Lib.hid hr6
      have hsz6 := hb6.size
      have hDl : (bRow (shaOf ys)).size = 32 := by rw [bRow_size, shaOf_len]
      have hsd : ∀ W, Reads W B 1 A0 k (ys.map vb) → B ≤ W.heap.size → Calls Try.prog 14 #[.slice A0 k c] W fun e w' => e = .returned (.agg (bRow (shaOf ys))) ∧ Below W.heap.size W w' := fun W h1 h2 => shaOf_any A0 k c ys W B h1 h2 hmc (by unfold maxLen; omega)
      have heq := eql_digest (shaOf ys) (shaOf ys) (shaOf_len _) (shaOf_len _)
      rw [beq_self_eq_true] at heq
      have HON := Lib.hid (bRow_one (shaOf ys))
      have HQ := Lib.hid heq
      have HDL := Lib.hid hDl
      have HS := Lib.hid hsd
      clear hH6 hg6 hb6 hr6 hsd heq hDl
      generalize bRow (shaOf ys) = D at HDL HS HQ HON ⊢
      go_upto_region 11 with (refine wpList_store_part rfl 25 (.tmp 5) (.tmp 32) rfl w6.heap.size 0 D rfl rfl 25 _ (Blk.newAt rfl) (by rw [HDL.out]; rfl) (by rw [HDL.out]; simp) HON.out ?_; intro W4 hT4 hB4; rw [spl_self _ _ (by rw [HDL.out]; simp)] at hB4; have hG4 := hT4.below (HBB.out.alloc hsz6 _) hsz6; have hR4 := HR.out.below (((Below.refl w.heap.size w6).alloc hsz6 _).trans (hT4.below (Below.refl _ _) hsz6) |>.mono hB))
      have hs4 := hG4.size
      refine wp_region_calm0 7 41 (by kernel_rfl) (by kernel_rfl) (by kernel_rfl) (by simp) ?_
      simp only [List.take_succ_cons, List.take_zero, List.drop_succ_cons, List.drop_zero]
      refine wpCalm_value rfl rfl (.bool true) (fun W _ => rfl) ?_
      try simp only [Act.put, List.setIfInBounds_toArray, List.set_cons_zero, List.set_cons_succ]
      refine wpCalm_value rfl rfl (.bool true) (fun W _ => rfl) ?_
      try simp only [Act.put, List.setIfInBounds_toArray, List.set_cons_zero, List.set_cons_succ]
      refine wpCalm_load_part rfl 25 (.tmp 5) rfl w6.heap.size 0 32 rfl 25 _ D _ hB4 Try.underlying25 rfl rfl HDL.out (fun _ _ => by rw [Nat.zero_add]) ?_
      try simp only [Act.put, List.setIfInBounds_toArray, List.set_cons_zero, List.set_cons_succ]
      refine wpCalm_value rfl rfl (.slice A0 k c) (fun W _ => rfl) ?_
      try simp only [Act.put, List.setIfInBounds_toArray, List.set_cons_zero, List.set_cons_succ]
      refine wpCalm_call rfl rfl 14 #[.slice A0 k c] (fun W => by go_simp) (.agg D) (fun W hb => HS.out W (hR4.below (hb.mono (by omega))) (by have := hb.size; omega)) ?_
      try simp only [Act.put, List.setIfInBounds_toArray, List.set_cons_zero, List.set_cons_succ]
      refine wpCalm_value rfl rfl (.bool true) (fun W _ => exec_eql_agg 25 (.tmp 36) (.tmp 38) _ rfl D D rfl rfl eqg_digest _ (HQ.out W)) ?_
      try simp only [Act.put, List.setIfInBounds_toArray, List.set_cons_zero, List.set_cons_succ]
      refine wpCalm_value rfl rfl (.bool true) (fun W _ => by go_simp) ?_
      try simp only [Act.put, List.setIfInBounds_toArray, List.set_cons_zero, List.set_cons_succ]
      refine wpCalm_nil ?_
      intro W1 hb1
      have HB1 := Lib.hid (hG4.trans (hb1.mono hs4))
      clear hb1 hG4 hB4 hR4 hT4
      go_wp2_with fail
      go_ret
      exact ⟨rfl, HB1.out⟩

end Go.Proofs.Ytndjaibnapilnaa
