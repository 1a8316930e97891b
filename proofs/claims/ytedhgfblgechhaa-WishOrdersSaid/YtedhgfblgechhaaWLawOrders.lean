/-
  WishOrders: the law's walk.
-/
import Derived.Test.YtedhgfblgechhaaDigest
import Derived.Test.YtedhgfblgechhaaInkFill
import Derived.Test.YtedhgfblgechhaaAlike
import Derived.Test.YtedhgfblgechhaaUnbMath
namespace Go.Proofs.Ytedhgfblgechhaa
set_option linter.unusedVariables false
open Go.RowKit Go.Maps
attribute [local irreducible] wpCalm

theorem bytesW_inj {x y : List Wish} (hx : (batch x).2 = 0) (hy : (batch y).2 = 0) : ((batch x).1 = (batch y).1) ↔ decide (x = y) = true := by
  obtain ⟨h1, h2, h3⟩ := batch_ok hx
  obtain ⟨k1, k2, k3⟩ := batch_ok hy
  rw [h3, k3, decide_eq_true_eq]
  exact ⟨fun h => by have e := unb_of h1 h2; rw [h, unb_of k1 k2] at e; injection e with e; exact e.symm, fun h => by rw [h]⟩

set_option maxRecDepth 100000 in
set_option maxHeartbeats 8000000 in
theorem wishOrders_law (A D : Option Addr) (n c m d : Nat) (x y : List Wish) (w : World) (B : Nat) (hx : WishesIn w B A n x) (hy : WishesIn w B D m y) (hB : B ≤ w.heap.size) (hn : n ≤ 2000000000000) (hm : m ≤ 2000000000000) :
    Calls Try.prog 6 #[.slice A n c, .slice D m d] w fun e w' => e = .returned (.bool true) ∧ Below w.heap.size w w' := by
  have HWX := Lib.hid (fun W (hb : Below w.heap.size w W) => hx.below (hb.mono hB))
  have HWY := Lib.hid (fun W (hb : Below w.heap.size w W) => hy.below (hb.mono hB))
  clear hx hy
  go_enter Try.func6, Try.ntmps6
  have HB0 := Lib.hid (Below.refl w.heap.size w)
  have hs0 : w.heap.size ≤ w.heap.size := Nat.le_refl _
  go_wp2_with fail
  refine (worksW_any _).mono ?_
  rintro _ w1 ⟨rfl, hb1⟩
  have HB1 := Lib.hid (HB0.out.trans (hb1.mono hs0))
  have hs1 := HB1.out.size
  clear hb1
  go_wp2_with fail
  refine (inkNew_any w1).mono ?_
  rintro _ w2 ⟨k, rfl, hk2, hkk, hb2⟩
  have HB2 := Lib.hid (HB1.out.trans (hb2.mono hs1))
  have HK2 := Lib.hid hk2
  have hs2 := HB2.out.size
  have hkg : w.heap.size ≤ k.g ∧ w.heap.size ≤ k.b1 ∧ w.heap.size ≤ k.b2 := by omega
  have hkg1 := hkk.1
  have hkg2 := hkk.2.1
  have hkg3 := hkk.2.2
  have hkl := hk2.lt
  have hkl1 := hkl.1
  have hkl2 := hkl.2.1
  have hkl3 := hkl.2.2
  clear hb2 hk2 hkk hkl
  go_wp2_with fail
  obtain ⟨L1, hL1⟩ : ∃ L, L = digL [] (batch x) := ⟨_, rfl⟩
  obtain ⟨N1, hN1⟩ : ∃ N, N = digN 0 (batch x) := ⟨_, rfl⟩
  have hdx := batchDigest_any k [] 0 A n c x w2 B HK2.out (by omega) (HWX.out w2 HB2.out) (by omega) hn
  rw [← hL1, ← hN1] at hdx
  have hnn := digN_le 0 (batch x)
  rw [← hN1] at hnn
  have HL1 := Lib.hid hL1
  clear hL1 hN1
  refine hdx.mono ?_
  rintro _ w3 ⟨D1, p2, rfl, ha1, hk3, ho3⟩
  have HA1 := Lib.hid ha1
  have HK3 := Lib.hid hk3
  have HB3 := Lib.hid (ho3.below HB2.out hs2 hkg)
  have hs3 := HB3.out.size
  have hs23 := ho3.size
  clear ha1 hk3 ho3 hdx
  go_upto_region 5 with (refine wpList_store_part (o := ⟨none, _, _, _, _, _⟩) rfl 49 (.tmp 6) (.tmp 17) rfl w3.heap.size 0 D1 rfl rfl 49 _ (Blk.newAt rfl) (by rw [HA1.out.size]; rfl) (by rw [HA1.out.size]; simp) HA1.out.one ?_; intro w4 hT4 hD4; rw [spl_self _ _ (by rw [HA1.out.size]; simp)] at hD4)
  have hb4 : Below w3.heap.size w3 w4 := hT4.below ((Below.refl _ _).alloc (Nat.le_refl _) _) (Nat.le_refl _)
  have HB4 := Lib.hid (HB3.out.trans (hb4.mono hs3))
  have HK4 := Lib.hid (HK3.out.below hb4)
  have hs4 := HB4.out.size
  have hs34 := hb4.size
  obtain ⟨g6, hg6⟩ : ∃ g, g = w3.heap.size := ⟨_, rfl⟩
  rw [← hg6] at hD4 ⊢
  have hg6l := hD4.lt
  have HD4 := Lib.hid hD4
  have hg6a : w3.heap.size ≤ g6 := by omega
  have hg6b : g6 ≤ w3.heap.size := by omega
  clear hT4 hD4 hb4 hg6
  go_wp2_with fail
  obtain ⟨L2, hL2⟩ : ∃ L, L = digL L1 (batch y) := ⟨_, rfl⟩
  obtain ⟨N2, hN2⟩ : ∃ N, N = digN N1 (batch y) := ⟨_, rfl⟩
  have hdy := batchDigest_any k L1 N1 D m d y w4 B HK4.out (by omega) (HWY.out w4 HB4.out) (by omega) hm
  rw [← hL2, ← hN2] at hdy
  have HL2 := Lib.hid hL2
  clear hL2 hN2
  refine hdy.mono ?_
  rintro _ w5 ⟨D2, q2, rfl, ha2, hk5, ho5⟩
  have HA2 := Lib.hid ha2
  have HK5 := Lib.hid hk5
  have HB5 := Lib.hid (ho5.below HB4.out hs4 hkg)
  have HD5 := Lib.hid (show Blk w5 g6 49 D1 from (ho5.block g6 hg6l (by rintro (e | e | e) <;> omega)).trans HD4.out)
  have hs5 := HB5.out.size
  have hs45 := ho5.size
  clear ha2 hk5 ho5 hdy
  go_upto_region 6 with (refine wpList_store_part (o := ⟨none, _, _, _, _, _⟩) rfl 49 (.tmp 8) (.tmp 23) rfl w5.heap.size 0 D2 rfl rfl 49 _ (Blk.newAt rfl) (by rw [HA2.out.size]; rfl) (by rw [HA2.out.size]; simp) HA2.out.one ?_; intro w8 hT6 hD6; rw [spl_self _ _ (by rw [HA2.out.size]; simp)] at hD6)
  have hb6 : Below w5.heap.size w5 w8 := hT6.below ((Below.refl _ _).alloc (Nat.le_refl _) _) (Nat.le_refl _)
  have HB8 := Lib.hid (HB5.out.trans (hb6.mono hs5))
  have HK8 := Lib.hid (HK5.out.below hb6)
  have HD8 := Lib.hid (HD5.out.under hb6)
  have hs8 := HB8.out.size
  obtain ⟨g8, hg8⟩ : ∃ g, g = w5.heap.size := ⟨_, rfl⟩
  rw [← hg8] at hD6 ⊢
  have HE8 := Lib.hid hD6
  clear hT6 hD6 hb6 hg8
  have hp2 : p2 = (batch x).2 := HA1.out.code
  have hq2 : q2 = (batch y).2 := HA2.out.code
  by_cases hp : (batch x).2 = 0
  · by_cases hq : (batch y).2 = 0
    · have hd1 := HA1.out.dig hp
      have hd2 := HA2.out.dig hq
      have hL1 := HL1.out
      have hL2 := HL2.out
      unfold digL at hL1 hL2
      rw [if_pos hp] at hL1
      rw [if_pos hq] at hL2
      rw [hp] at hp2
      rw [hq] at hq2
      obtain rfl : p2 = 0 := hp2
      obtain rfl : q2 = 0 := hq2
      have hcl := fun W (hb : Below w8.heap.size w8 W) => inkClash_b k L2 N2 W (HK8.out.below hb)
      have hinj := bytesW_inj hp hq
      have hm1 : (batch x).1 ∈ L2 := by
        have h0 : (batch x).1 ∈ L1 := by rw [hL1]; unfold addInk; simp
        rw [hL2]; unfold addInk; split
        · exact h0
        · exact List.mem_append_left _ h0
      have hm2 : (batch y).1 ∈ L2 := by
        rw [hL2]; unfold addInk; split
        · assumption
        · simp
      have hci := fun (h : clashB L2 = false) => clash_inj h hm1 hm2
      have heq := eql_digest (shaOf (batch x).1) (shaOf (batch y).1) (shaOf_len _) (shaOf_len _)
      rw [← hd1, ← hd2] at heq
      have hsm : ∀ W, Below w8.heap.size w8 W → Calls Try.prog 25 #[.slice A n c, .slice D m d] W fun e w' => e = .returned (.bool (decide (x = y))) ∧ Below W.heap.size W w' := fun W hb => alike_any A D n c m d x y W B (HWX.out W (HB8.out.trans (hb.mono hs8))) (HWY.out W (HB8.out.trans (hb.mono hs8))) (by have := hb.size; omega) hn hm
      cases hc : clashB L2 with
      | true =>
        rw [hc] at hcl
        have HCL := Lib.hid hcl
        clear hcl hci heq hsm hinj hm1 hm2 hd1 hd2 hL1 hL2 hp hq hc
        refine wp_region_calm0 19 44 (by kernel_rfl) (by kernel_rfl) (by kernel_rfl) (by simp) ?_
        simp only [List.take_succ_cons, List.take_zero, List.drop_succ_cons, List.drop_zero]
        refine wpCalm_value rfl rfl (.int .i64 0) (fun W _ => rfl) ?_
        try simp only [Act.put, List.setIfInBounds_toArray, List.set_cons_zero, List.set_cons_succ]
        refine wpCalm_value rfl rfl (.bool false) (fun W _ => by go_simp) ?_
        try simp only [Act.put, List.setIfInBounds_toArray, List.set_cons_zero, List.set_cons_succ]
        refine wpCalm_value rfl rfl (.bool false) (fun W _ => rfl) ?_
        try simp only [Act.put, List.setIfInBounds_toArray, List.set_cons_zero, List.set_cons_succ]
        refine wpCalm_value rfl rfl (.int .i64 0) (fun W _ => rfl) ?_
        try simp only [Act.put, List.setIfInBounds_toArray, List.set_cons_zero, List.set_cons_succ]
        refine wpCalm_value rfl rfl (.bool false) (fun W _ => by go_simp) ?_
        try simp only [Act.put, List.setIfInBounds_toArray, List.set_cons_zero, List.set_cons_succ]
        refine wpCalm_value rfl rfl (.bool false) (fun W _ => by go_simp) ?_
        try simp only [Act.put, List.setIfInBounds_toArray, List.set_cons_zero, List.set_cons_succ]
        refine wpCalm_value rfl rfl (.bool false) (fun W _ => rfl) ?_
        try simp only [Act.put, List.setIfInBounds_toArray, List.set_cons_zero, List.set_cons_succ]
        refine wpCalm_value rfl rfl (.pointer (some ⟨k.g, 0, none⟩)) (fun W _ => rfl) ?_
        try simp only [Act.put, List.setIfInBounds_toArray, List.set_cons_zero, List.set_cons_succ]
        refine wpCalm_call rfl rfl 28 #[.pointer (some ⟨k.g, 0, none⟩)] (fun W => by go_simp) (.bool true) (fun W hb => HCL.out W hb) ?_
        try simp only [Act.put, List.setIfInBounds_toArray, List.set_cons_zero, List.set_cons_succ]
        refine wpCalm_value rfl rfl (.bool true) (fun W _ => by go_simp) ?_
        try simp only [Act.put, List.setIfInBounds_toArray, List.set_cons_zero, List.set_cons_succ]
        refine wpCalm_value rfl rfl (.bool true) (fun W _ => rfl) ?_
        try simp only [Act.put, List.setIfInBounds_toArray, List.set_cons_zero, List.set_cons_succ]
        refine wpCalm_skip rfl rfl ?_
        try simp only [Act.put, List.setIfInBounds_toArray, List.set_cons_zero, List.set_cons_succ]
        refine wpCalm_skip rfl rfl ?_
        try simp only [Act.put, List.setIfInBounds_toArray, List.set_cons_zero, List.set_cons_succ]
        refine wpCalm_skip rfl rfl ?_
        try simp only [Act.put, List.setIfInBounds_toArray, List.set_cons_zero, List.set_cons_succ]
        refine wpCalm_skip rfl rfl ?_
        try simp only [Act.put, List.setIfInBounds_toArray, List.set_cons_zero, List.set_cons_succ]
        refine wpCalm_skip rfl rfl ?_
        try simp only [Act.put, List.setIfInBounds_toArray, List.set_cons_zero, List.set_cons_succ]
        refine wpCalm_skip rfl rfl ?_
        try simp only [Act.put, List.setIfInBounds_toArray, List.set_cons_zero, List.set_cons_succ]
        refine wpCalm_skip rfl rfl ?_
        try simp only [Act.put, List.setIfInBounds_toArray, List.set_cons_zero, List.set_cons_succ]
        refine wpCalm_value rfl rfl (.bool true) (fun W _ => by go_simp) ?_
        try simp only [Act.put, List.setIfInBounds_toArray, List.set_cons_zero, List.set_cons_succ]
        refine wpCalm_nil ?_
        intro w9 hb9
        have HB9 := Lib.hid (HB8.out.trans (hb9.mono hs8))
        clear hb9
        go_wp2_with fail
        go_ret
        exact ⟨rfl, HB9.out⟩
      | false =>
        have hpp : (shaOf (batch x).1 == shaOf (batch y).1) = decide (x = y) := by
          rw [Bool.eq_iff_iff, beq_iff_eq, ← hinj]
          exact ⟨fun h => hci hc h, fun h => by rw [h]⟩
        rw [hpp] at heq
        rw [hc] at hcl
        generalize decide (x = y) = p at heq hsm
        have HCL := Lib.hid hcl
        have EQ := Lib.hid heq
        have HSM := Lib.hid hsm
        clear hcl hci heq hsm hinj hm1 hm2 hd1 hd2 hL1 hL2 hp hq hc hpp
        refine wp_region_calm0 19 44 (by kernel_rfl) (by kernel_rfl) (by kernel_rfl) (by simp) ?_
        simp only [List.take_succ_cons, List.take_zero, List.drop_succ_cons, List.drop_zero]
        refine wpCalm_value rfl rfl (.int .i64 0) (fun W _ => rfl) ?_
        try simp only [Act.put, List.setIfInBounds_toArray, List.set_cons_zero, List.set_cons_succ]
        refine wpCalm_value rfl rfl (.bool false) (fun W _ => by go_simp) ?_
        try simp only [Act.put, List.setIfInBounds_toArray, List.set_cons_zero, List.set_cons_succ]
        refine wpCalm_value rfl rfl (.bool false) (fun W _ => rfl) ?_
        try simp only [Act.put, List.setIfInBounds_toArray, List.set_cons_zero, List.set_cons_succ]
        refine wpCalm_value rfl rfl (.int .i64 0) (fun W _ => rfl) ?_
        try simp only [Act.put, List.setIfInBounds_toArray, List.set_cons_zero, List.set_cons_succ]
        refine wpCalm_value rfl rfl (.bool false) (fun W _ => by go_simp) ?_
        try simp only [Act.put, List.setIfInBounds_toArray, List.set_cons_zero, List.set_cons_succ]
        refine wpCalm_value rfl rfl (.bool false) (fun W _ => by go_simp) ?_
        try simp only [Act.put, List.setIfInBounds_toArray, List.set_cons_zero, List.set_cons_succ]
        refine wpCalm_value rfl rfl (.bool false) (fun W _ => rfl) ?_
        try simp only [Act.put, List.setIfInBounds_toArray, List.set_cons_zero, List.set_cons_succ]
        refine wpCalm_value rfl rfl (.pointer (some ⟨k.g, 0, none⟩)) (fun W _ => rfl) ?_
        try simp only [Act.put, List.setIfInBounds_toArray, List.set_cons_zero, List.set_cons_succ]
        refine wpCalm_call rfl rfl 28 #[.pointer (some ⟨k.g, 0, none⟩)] (fun W => by go_simp) (.bool false) (fun W hb => HCL.out W hb) ?_
        try simp only [Act.put, List.setIfInBounds_toArray, List.set_cons_zero, List.set_cons_succ]
        refine wpCalm_value rfl rfl (.bool false) (fun W _ => by go_simp) ?_
        try simp only [Act.put, List.setIfInBounds_toArray, List.set_cons_zero, List.set_cons_succ]
        refine wpCalm_value rfl rfl (.bool false) (fun W _ => rfl) ?_
        try simp only [Act.put, List.setIfInBounds_toArray, List.set_cons_zero, List.set_cons_succ]
        refine wpCalm_load_part rfl 49 (.tmp 6) rfl g6 0 32 rfl 49 _ D1 _ HD8.out Try.underlying49 rfl rfl HA1.out.size (fun _ _ => by rw [Nat.zero_add]) ?_
        try simp only [Act.put, List.setIfInBounds_toArray, List.set_cons_zero, List.set_cons_succ]
        refine wpCalm_load_part rfl 49 (.tmp 8) rfl g8 0 32 rfl 49 _ D2 _ HE8.out Try.underlying49 rfl rfl HA2.out.size (fun _ _ => by rw [Nat.zero_add]) ?_
        try simp only [Act.put, List.setIfInBounds_toArray, List.set_cons_zero, List.set_cons_succ]
        refine wpCalm_value rfl rfl (.bool p) (fun W _ => exec_eql_agg 49 (.tmp 36) (.tmp 37) _ rfl D1 D2 rfl rfl eqg_digest _ (EQ.out W)) ?_
        try simp only [Act.put, List.setIfInBounds_toArray, List.set_cons_zero, List.set_cons_succ]
        refine wpCalm_value rfl rfl (.slice A n c) (fun W _ => rfl) ?_
        try simp only [Act.put, List.setIfInBounds_toArray, List.set_cons_zero, List.set_cons_succ]
        refine wpCalm_value rfl rfl (.slice D m d) (fun W _ => rfl) ?_
        try simp only [Act.put, List.setIfInBounds_toArray, List.set_cons_zero, List.set_cons_succ]
        refine wpCalm_call rfl rfl 25 #[.slice A n c, .slice D m d] (fun W => by go_simp) (.bool p) (fun W hb => HSM.out W hb) ?_
        try simp only [Act.put, List.setIfInBounds_toArray, List.set_cons_zero, List.set_cons_succ]
        refine wpCalm_value rfl rfl (.bool true) (fun W _ => by cases p <;> rfl) ?_
        try simp only [Act.put, List.setIfInBounds_toArray, List.set_cons_zero, List.set_cons_succ]
        refine wpCalm_value rfl rfl (.bool true) (fun W _ => by go_simp) ?_
        try simp only [Act.put, List.setIfInBounds_toArray, List.set_cons_zero, List.set_cons_succ]
        refine wpCalm_nil ?_
        intro w9 hb9
        have HB9 := Lib.hid (HB8.out.trans (hb9.mono hs8))
        clear hb9
        go_wp2_with fail
        go_ret
        exact ⟨rfl, HB9.out⟩
    · rw [hp] at hp2
      obtain rfl : p2 = 0 := hp2
      have hq2' : ¬ q2 = 0 := by omega
      clear hp hq hq2
      refine wp_region_calm0 19 44 (by kernel_rfl) (by kernel_rfl) (by kernel_rfl) (by simp) ?_
      simp only [List.take_succ_cons, List.take_zero, List.drop_succ_cons, List.drop_zero]
      refine wpCalm_value rfl rfl (.int .i64 0) (fun W _ => rfl) ?_
      try simp only [Act.put, List.setIfInBounds_toArray, List.set_cons_zero, List.set_cons_succ]
      refine wpCalm_value rfl rfl (.bool false) (fun W _ => by go_simp) ?_
      try simp only [Act.put, List.setIfInBounds_toArray, List.set_cons_zero, List.set_cons_succ]
      refine wpCalm_value rfl rfl (.bool false) (fun W _ => rfl) ?_
      try simp only [Act.put, List.setIfInBounds_toArray, List.set_cons_zero, List.set_cons_succ]
      refine wpCalm_value rfl rfl (.int .i64 q2) (fun W _ => rfl) ?_
      try simp only [Act.put, List.setIfInBounds_toArray, List.set_cons_zero, List.set_cons_succ]
      refine wpCalm_value rfl rfl (.bool true) (fun W _ => by go_simp) ?_
      try simp only [Act.put, List.setIfInBounds_toArray, List.set_cons_zero, List.set_cons_succ]
      refine wpCalm_value rfl rfl (.bool true) (fun W _ => by go_simp) ?_
      try simp only [Act.put, List.setIfInBounds_toArray, List.set_cons_zero, List.set_cons_succ]
      refine wpCalm_value rfl rfl (.bool true) (fun W _ => rfl) ?_
      try simp only [Act.put, List.setIfInBounds_toArray, List.set_cons_zero, List.set_cons_succ]
      refine wpCalm_skip rfl rfl ?_
      try simp only [Act.put, List.setIfInBounds_toArray, List.set_cons_zero, List.set_cons_succ]
      refine wpCalm_skip rfl rfl ?_
      try simp only [Act.put, List.setIfInBounds_toArray, List.set_cons_zero, List.set_cons_succ]
      refine wpCalm_value rfl rfl (.bool true) (fun W _ => by go_simp) ?_
      try simp only [Act.put, List.setIfInBounds_toArray, List.set_cons_zero, List.set_cons_succ]
      refine wpCalm_value rfl rfl (.bool true) (fun W _ => rfl) ?_
      try simp only [Act.put, List.setIfInBounds_toArray, List.set_cons_zero, List.set_cons_succ]
      refine wpCalm_skip rfl rfl ?_
      try simp only [Act.put, List.setIfInBounds_toArray, List.set_cons_zero, List.set_cons_succ]
      refine wpCalm_skip rfl rfl ?_
      try simp only [Act.put, List.setIfInBounds_toArray, List.set_cons_zero, List.set_cons_succ]
      refine wpCalm_skip rfl rfl ?_
      try simp only [Act.put, List.setIfInBounds_toArray, List.set_cons_zero, List.set_cons_succ]
      refine wpCalm_skip rfl rfl ?_
      try simp only [Act.put, List.setIfInBounds_toArray, List.set_cons_zero, List.set_cons_succ]
      refine wpCalm_skip rfl rfl ?_
      try simp only [Act.put, List.setIfInBounds_toArray, List.set_cons_zero, List.set_cons_succ]
      refine wpCalm_skip rfl rfl ?_
      try simp only [Act.put, List.setIfInBounds_toArray, List.set_cons_zero, List.set_cons_succ]
      refine wpCalm_skip rfl rfl ?_
      try simp only [Act.put, List.setIfInBounds_toArray, List.set_cons_zero, List.set_cons_succ]
      refine wpCalm_value rfl rfl (.bool true) (fun W _ => by go_simp) ?_
      try simp only [Act.put, List.setIfInBounds_toArray, List.set_cons_zero, List.set_cons_succ]
      refine wpCalm_nil ?_
      intro w9 hb9
      have HB9 := Lib.hid (HB8.out.trans (hb9.mono hs8))
      clear hb9
      go_wp2_with fail
      go_ret
      exact ⟨rfl, HB9.out⟩
  · have hp2' : ¬ p2 = 0 := by omega
    clear hp hp2 hq2
    refine wp_region_calm0 19 44 (by kernel_rfl) (by kernel_rfl) (by kernel_rfl) (by simp) ?_
    simp only [List.take_succ_cons, List.take_zero, List.drop_succ_cons, List.drop_zero]
    refine wpCalm_value rfl rfl (.int .i64 p2) (fun W _ => rfl) ?_
    try simp only [Act.put, List.setIfInBounds_toArray, List.set_cons_zero, List.set_cons_succ]
    refine wpCalm_value rfl rfl (.bool true) (fun W _ => by go_simp) ?_
    try simp only [Act.put, List.setIfInBounds_toArray, List.set_cons_zero, List.set_cons_succ]
    refine wpCalm_value rfl rfl (.bool true) (fun W _ => rfl) ?_
    try simp only [Act.put, List.setIfInBounds_toArray, List.set_cons_zero, List.set_cons_succ]
    refine wpCalm_skip rfl rfl ?_
    try simp only [Act.put, List.setIfInBounds_toArray, List.set_cons_zero, List.set_cons_succ]
    refine wpCalm_skip rfl rfl ?_
    try simp only [Act.put, List.setIfInBounds_toArray, List.set_cons_zero, List.set_cons_succ]
    refine wpCalm_value rfl rfl (.bool true) (fun W _ => by go_simp) ?_
    try simp only [Act.put, List.setIfInBounds_toArray, List.set_cons_zero, List.set_cons_succ]
    refine wpCalm_value rfl rfl (.bool true) (fun W _ => rfl) ?_
    try simp only [Act.put, List.setIfInBounds_toArray, List.set_cons_zero, List.set_cons_succ]
    refine wpCalm_skip rfl rfl ?_
    try simp only [Act.put, List.setIfInBounds_toArray, List.set_cons_zero, List.set_cons_succ]
    refine wpCalm_skip rfl rfl ?_
    try simp only [Act.put, List.setIfInBounds_toArray, List.set_cons_zero, List.set_cons_succ]
    refine wpCalm_value rfl rfl (.bool true) (fun W _ => by go_simp) ?_
    try simp only [Act.put, List.setIfInBounds_toArray, List.set_cons_zero, List.set_cons_succ]
    refine wpCalm_value rfl rfl (.bool true) (fun W _ => rfl) ?_
    try simp only [Act.put, List.setIfInBounds_toArray, List.set_cons_zero, List.set_cons_succ]
    refine wpCalm_skip rfl rfl ?_
    try simp only [Act.put, List.setIfInBounds_toArray, List.set_cons_zero, List.set_cons_succ]
    refine wpCalm_skip rfl rfl ?_
    try simp only [Act.put, List.setIfInBounds_toArray, List.set_cons_zero, List.set_cons_succ]
    refine wpCalm_skip rfl rfl ?_
    try simp only [Act.put, List.setIfInBounds_toArray, List.set_cons_zero, List.set_cons_succ]
    refine wpCalm_skip rfl rfl ?_
    try simp only [Act.put, List.setIfInBounds_toArray, List.set_cons_zero, List.set_cons_succ]
    refine wpCalm_skip rfl rfl ?_
    try simp only [Act.put, List.setIfInBounds_toArray, List.set_cons_zero, List.set_cons_succ]
    refine wpCalm_skip rfl rfl ?_
    try simp only [Act.put, List.setIfInBounds_toArray, List.set_cons_zero, List.set_cons_succ]
    refine wpCalm_skip rfl rfl ?_
    try simp only [Act.put, List.setIfInBounds_toArray, List.set_cons_zero, List.set_cons_succ]
    refine wpCalm_value rfl rfl (.bool true) (fun W _ => by go_simp) ?_
    try simp only [Act.put, List.setIfInBounds_toArray, List.set_cons_zero, List.set_cons_succ]
    refine wpCalm_nil ?_
    intro w9 hb9
    have HB9 := Lib.hid (HB8.out.trans (hb9.mono hs8))
    clear hb9
    go_wp2_with fail
    go_ret
    exact ⟨rfl, HB9.out⟩

end Go.Proofs.Ytedhgfblgechhaa
