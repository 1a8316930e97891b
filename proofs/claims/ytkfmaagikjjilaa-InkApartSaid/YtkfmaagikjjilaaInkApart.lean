/-
  InkApart: the law's walk.
-/
import Derived.Test.YtkfmaagikjjilaaInkAll
import Derived.Test.YtkfmaagikjjilaaOpen
namespace Go.Proofs.Ytkfmaagikjjilaa
set_option linter.unusedVariables false
open Go.RowKit Go.Maps

set_option maxRecDepth 100000 in
set_option maxHeartbeats 2000000 in
theorem apart_law (A : Option Addr) (n c : Nat) (xs : List UInt8) (A' : Option Addr) (n' c' : Nat) (ys : List UInt8) (w : World) (B : Nat) (h : Reads w B 1 A n (xs.map vb)) (h' : Reads w B 1 A' n' (ys.map vb)) (hB : B ≤ w.heap.size) (hc : n ≤ c) (hcm : c ≤ reachBytes) (hc' : n' ≤ c') (hcm' : c' ≤ reachBytes) :
    Calls Try.prog 8 #[.slice A n c, .slice A' n' c'] w fun e w' => e = .returned (.bool true) ∧ Below w.heap.size w w' := by
  have hxn : xs.length = n := by have := h.1; simpa using this
  have hyn : ys.length = n' := by have := h'.1; simpa using this
  have HXN := Lib.hid hxn
  have HYN := Lib.hid hyn
  have HR := Lib.hid h
  have HR' := Lib.hid h'
  unfold reachBytes at hcm hcm'
  clear hxn hyn h h'
  go_enter Try.func8, Try.ntmps8
  go_wp2_with fail
  refine (works_any _).mono ?_
  rintro _ w1 ⟨rfl, hb1⟩
  have HB1 := Lib.hid hb1
  have hs1 := hb1.size
  clear hb1
  go_wp2_with fail
  refine (inkNew_any _).mono ?_
  rintro _ w2 ⟨ka, rfl, hka, hkka, hb2⟩
  have HKA2 := Lib.hid hka
  have HB2 := Lib.hid (HB1.out.trans (hb2.mono hs1))
  have hs2 := hb2.size
  clear hb2 hka
  go_wp2_with fail
  refine (inkNew_any _).mono ?_
  rintro _ w3 ⟨kb, rfl, hkb, hkkb, hb3⟩
  have HAP := Lib.hid (Book.apart_of HKA2.out.lt hkkb)
  have HKA3 := Lib.hid (HKA2.out.below hb3)
  have HKB3 := Lib.hid hkb
  have HB3 := Lib.hid (HB2.out.trans (hb3.mono (by omega)))
  have hs3 := hb3.size
  clear hb3 hkb
  go_wp2_with fail
  have hr3 := HR.out.below (HB3.out.mono hB)
  refine (inkOf_all ka [] 0 A n c xs w3 B HKA3.out hr3 (by omega) (hr3.above (by omega)) hc (by unfold maxLen; omega) (by decide)).mono ?_
  rintro _ w4 ⟨D1, c1, rfl, ha1, hka4, ho4⟩
  have HB4 := Lib.hid (ho4.below HB3.out (by omega) (by omega))
  have HKA4 := Lib.hid hka4
  have HKB4 := Lib.hid (HKB3.out.beside ho4 HAP.out.2)
  have hs4 := ho4.size
  have HA1 := Lib.hid ha1
  clear hka4 ho4 ha1 hr3
  go_upto_region 5 with (refine wpList_store_part rfl 28 (.tmp 7) (.tmp 19) rfl w4.heap.size 0 D1 rfl rfl 28 _ (Blk.newAt rfl) (by rw [HA1.out.size]; rfl) (by rw [HA1.out.size]; simp) HA1.out.one ?_; intro W4 hT4 hD4; rw [spl_self _ _ (by rw [HA1.out.size]; simp)] at hD4)
  have hX4 : Below w4.heap.size w4 W4 := hT4.below ((Below.refl _ _).alloc (Nat.le_refl _) _) (Nat.le_refl _)
  have HB5 := Lib.hid (HB4.out.trans (hX4.mono (by omega)))
  have HKA5 := Lib.hid (HKA4.out.below hX4)
  have HKB5 := Lib.hid (HKB4.out.below hX4)
  have HD5 := Lib.hid hD4
  have hs5 := hX4.size
  have hkl5 := HKB4.out.lt
  have hdl5 := hD4.lt
  clear hX4 hT4 hD4
  go_wp2_with fail
  have hr5 := HR'.out.below (HB5.out.mono hB)
  refine (inkOf_all kb [] 0 A' n' c' ys W4 B HKB5.out hr5 (by omega) (hr5.above (by omega)) hc' (by unfold maxLen; omega) (by decide)).mono ?_
  rintro _ w6 ⟨D2, c2, rfl, ha2, hkb6, ho6⟩
  have HB6 := Lib.hid (ho6.below HB5.out (by omega) (by omega))
  have HKB6 := Lib.hid hkb6
  have HKA6 := Lib.hid (HKA5.out.beside ho6 HAP.out.1)
  have HD6 := Lib.hid (show Blk w6 w4.heap.size 28 D1 from (ho6.block _ hdl5 (by rintro (e | e | e) <;> omega)).trans HD5.out)
  have hs6 := ho6.size
  have HA2 := Lib.hid ha2
  clear hkb6 ho6 ha2 hr5
  go_upto_region 6 with (refine wpList_store_part rfl 28 (.tmp 9) (.tmp 25) rfl w6.heap.size 0 D2 rfl rfl 28 _ (Blk.newAt rfl) (by rw [HA2.out.size]; rfl) (by rw [HA2.out.size]; simp) HA2.out.one ?_; intro W6 hT6 hD6; rw [spl_self _ _ (by rw [HA2.out.size]; simp)] at hD6)
  have hX6 : Below w6.heap.size w6 W6 := hT6.below ((Below.refl _ _).alloc (Nat.le_refl _) _) (Nat.le_refl _)
  have HB7 := Lib.hid (HB6.out.trans (hX6.mono (by omega)))
  have HKA7 := Lib.hid (HKA6.out.below hX6)
  have HKB7 := Lib.hid (HKB6.out.below hX6)
  have HD7 := Lib.hid (HD6.out.below' hX6)
  have HE7 := Lib.hid hD6
  have hs7 := hX6.size
  clear hX6 hT6 hD6
  by_cases hn : n ≤ 65536
  · by_cases hn' : n' ≤ 65536
    · obtain ⟨rfl, hd1⟩ := HA1.out.small (by have := HXN.out; omega)
      obtain ⟨rfl, hd2⟩ := HA2.out.small (by have := HYN.out; omega)
      go_upto_region 8 with fail
      have hz : inkZ = #[.int .u8 0, .int .u8 0, .int .u8 0, .int .u8 0, .int .u8 0, .int .u8 0, .int .u8 0, .int .u8 0, .int .u8 0, .int .u8 0, .int .u8 0, .int .u8 0, .int .u8 0, .int .u8 0, .int .u8 0, .int .u8 0, .int .u8 0, .int .u8 0, .int .u8 0, .int .u8 0, .int .u8 0, .int .u8 0, .int .u8 0, .int .u8 0, .int .u8 0, .int .u8 0, .int .u8 0, .int .u8 0, .int .u8 0, .int .u8 0, .int .u8 0, .int .u8 0] := by kernel_rfl
      have e1 := eql_digest (shaOf xs) (shaOf xs) (shaOf_len _) (shaOf_len _)
      have e2 := eql_digest (shaOf ys) (shaOf ys) (shaOf_len _) (shaOf_len _)
      have z1 := eql_digest (shaOf xs) (List.replicate 32 0) (shaOf_len _) (by simp)
      have z2 := eql_digest (shaOf ys) (List.replicate 32 0) (shaOf_len _) (by simp)
      have s1 : ∀ W, Below W6.heap.size W6 W → Calls Try.prog 27 #[.slice A n c] W fun e w' => e = .returned (.agg (bRow (shaOf xs))) ∧ Below W.heap.size W w' := fun W hb => shaOf_any A n c xs W B (HR.out.below ((HB7.out.trans (hb.mono (by omega))).mono hB)) (by have := hb.size; omega) hc (by unfold maxLen; omega)
      have s2 : ∀ W, Below W6.heap.size W6 W → Calls Try.prog 27 #[.slice A' n' c'] W fun e w' => e = .returned (.agg (bRow (shaOf ys))) ∧ Below W.heap.size W w' := fun W hb => shaOf_any A' n' c' ys W B (HR'.out.below ((HB7.out.trans (hb.mono (by omega))).mono hB)) (by have := hb.size; omega) hc' (by unfold maxLen; omega)
      have ia : noteInk [] xs = addInk [] xs := by unfold noteInk; rw [if_pos (by have := HXN.out; omega)]
      have ib : noteInk [] ys = addInk [] ys := by unfold noteInk; rw [if_pos (by have := HYN.out; omega)]
      have na : noteN 0 xs ≤ 1000000 := Nat.le_trans (noteN_le 0 xs) (by decide)
      have nb : noteN 0 ys ≤ 1000000 := Nat.le_trans (noteN_le 0 ys) (by decide)
      have la : (addInk [] xs).length = 1 := by unfold addInk; simp
      have lb : (addInk [] ys).length = 1 := by unfold addInk; simp
      have ta := fun (W : World) (hb : Below W6.heap.size W6 W) => inkLen_b ka _ _ W (HKA7.out.below hb) na
      have tb := fun (W : World) (hb : Below W6.heap.size W6 W) => inkLen_b kb _ _ W (HKB7.out.below hb) nb
      have ca := fun (W : World) (hb : Below W6.heap.size W6 W) => inkClash_b ka _ _ W (HKA7.out.below hb)
      have cb := fun (W : World) (hb : Below W6.heap.size W6 W) => inkClash_b kb _ _ W (HKB7.out.below hb)
      rw [ia, la] at ta
      rw [ib, lb] at tb
      rw [ia, clash_one] at ca
      rw [ib, clash_one] at cb
      rw [beq_self_eq_true, ← hd1] at e1
      rw [beq_self_eq_true, ← hd2] at e2
      rw [← hd1] at z1 s1
      rw [← hd2] at z2 s2
      rw [show bRow (List.replicate 32 0) = inkZ from rfl] at z1 z2
      generalize (shaOf xs == List.replicate 32 0) = p1 at z1 ca
      generalize (shaOf ys == List.replicate 32 0) = p2 at z2 cb
      generalize inkZ = zd at hz z1 z2
      have HZE := Lib.hid hz
      have EQ1 := Lib.hid e1
      have EQ2 := Lib.hid e2
      have EZ1 := Lib.hid z1
      have EZ2 := Lib.hid z2
      have HS1 := Lib.hid s1
      have HS2 := Lib.hid s2
      have HLA := Lib.hid ta
      have HLB := Lib.hid tb
      have HCA := Lib.hid ca
      have HCB := Lib.hid cb
      clear hz e1 e2 z1 z2 s1 s2 ta tb ca cb ia ib la lb na nb hd1 hd2
      refine wp_region_calm0 36 77 (by kernel_rfl) (by kernel_rfl) (by kernel_rfl) (by simp) ?_
      simp only [List.take_succ_cons, List.take_zero, List.drop_succ_cons, List.drop_zero]
      refine wpCalm_load_part rfl 28 (.tmp 7) rfl w4.heap.size 0 32 rfl 28 _ D1 _ HD7.out Try.underlying28 rfl rfl HA1.out.size (fun _ _ => by rw [Nat.zero_add]) ?_
      try simp only [Act.put, List.setIfInBounds_toArray, List.set_cons_zero, List.set_cons_succ]
      refine wpCalm_value rfl rfl (.slice A n c) (fun W _ => rfl) ?_
      try simp only [Act.put, List.setIfInBounds_toArray, List.set_cons_zero, List.set_cons_succ]
      refine wpCalm_call rfl rfl 27 #[.slice A n c] (fun W => by go_simp) (.agg D1) (fun W hb => HS1.out W hb) ?_
      try simp only [Act.put, List.setIfInBounds_toArray, List.set_cons_zero, List.set_cons_succ]
      refine wpCalm_value rfl rfl (.bool true) (fun W _ => exec_eql_agg 28 (.tmp 41) (.tmp 43) _ rfl D1 D1 rfl rfl eqg_digest _ (EQ1.out W)) ?_
      try simp only [Act.put, List.setIfInBounds_toArray, List.set_cons_zero, List.set_cons_succ]
      refine wpCalm_value rfl rfl (.bool true) (fun W _ => rfl) ?_
      try simp only [Act.put, List.setIfInBounds_toArray, List.set_cons_zero, List.set_cons_succ]
      refine wpCalm_load_part rfl 28 (.tmp 9) rfl w6.heap.size 0 32 rfl 28 _ D2 _ HE7.out Try.underlying28 rfl rfl HA2.out.size (fun _ _ => by rw [Nat.zero_add]) ?_
      try simp only [Act.put, List.setIfInBounds_toArray, List.set_cons_zero, List.set_cons_succ]
      refine wpCalm_value rfl rfl (.slice A' n' c') (fun W _ => rfl) ?_
      try simp only [Act.put, List.setIfInBounds_toArray, List.set_cons_zero, List.set_cons_succ]
      refine wpCalm_call rfl rfl 27 #[.slice A' n' c'] (fun W => by go_simp) (.agg D2) (fun W hb => HS2.out W hb) ?_
      try simp only [Act.put, List.setIfInBounds_toArray, List.set_cons_zero, List.set_cons_succ]
      refine wpCalm_value rfl rfl (.bool true) (fun W _ => exec_eql_agg 28 (.tmp 46) (.tmp 48) _ rfl D2 D2 rfl rfl eqg_digest _ (EQ2.out W)) ?_
      try simp only [Act.put, List.setIfInBounds_toArray, List.set_cons_zero, List.set_cons_succ]
      refine wpCalm_value rfl rfl (.bool true) (fun W _ => by go_simp) ?_
      try simp only [Act.put, List.setIfInBounds_toArray, List.set_cons_zero, List.set_cons_succ]
      refine wpCalm_value rfl rfl (.bool true) (fun W _ => rfl) ?_
      try simp only [Act.put, List.setIfInBounds_toArray, List.set_cons_zero, List.set_cons_succ]
      refine wpCalm_value rfl rfl (.pointer (some ⟨ka.g, 0, none⟩)) (fun W _ => rfl) ?_
      try simp only [Act.put, List.setIfInBounds_toArray, List.set_cons_zero, List.set_cons_succ]
      refine wpCalm_call rfl rfl 19 #[.pointer (some ⟨ka.g, 0, none⟩)] (fun W => by go_simp) (.int .i64 1) (fun W hb => HLA.out W hb) ?_
      try simp only [Act.put, List.setIfInBounds_toArray, List.set_cons_zero, List.set_cons_succ]
      refine wpCalm_value rfl rfl (.bool true) (fun W _ => by go_simp) ?_
      try simp only [Act.put, List.setIfInBounds_toArray, List.set_cons_zero, List.set_cons_succ]
      refine wpCalm_value rfl rfl (.bool true) (fun W _ => by go_simp) ?_
      try simp only [Act.put, List.setIfInBounds_toArray, List.set_cons_zero, List.set_cons_succ]
      refine wpCalm_value rfl rfl (.bool true) (fun W _ => rfl) ?_
      try simp only [Act.put, List.setIfInBounds_toArray, List.set_cons_zero, List.set_cons_succ]
      refine wpCalm_value rfl rfl (.pointer (some ⟨kb.g, 0, none⟩)) (fun W _ => rfl) ?_
      try simp only [Act.put, List.setIfInBounds_toArray, List.set_cons_zero, List.set_cons_succ]
      refine wpCalm_call rfl rfl 19 #[.pointer (some ⟨kb.g, 0, none⟩)] (fun W => by go_simp) (.int .i64 1) (fun W hb => HLB.out W hb) ?_
      try simp only [Act.put, List.setIfInBounds_toArray, List.set_cons_zero, List.set_cons_succ]
      refine wpCalm_value rfl rfl (.bool true) (fun W _ => by go_simp) ?_
      try simp only [Act.put, List.setIfInBounds_toArray, List.set_cons_zero, List.set_cons_succ]
      refine wpCalm_value rfl rfl (.bool true) (fun W _ => by go_simp) ?_
      try simp only [Act.put, List.setIfInBounds_toArray, List.set_cons_zero, List.set_cons_succ]
      refine wpCalm_value rfl rfl (.bool true) (fun W _ => rfl) ?_
      try simp only [Act.put, List.setIfInBounds_toArray, List.set_cons_zero, List.set_cons_succ]
      refine wpCalm_value rfl rfl (.pointer (some ⟨ka.g, 0, none⟩)) (fun W _ => rfl) ?_
      try simp only [Act.put, List.setIfInBounds_toArray, List.set_cons_zero, List.set_cons_succ]
      refine wpCalm_call rfl rfl 23 #[.pointer (some ⟨ka.g, 0, none⟩)] (fun W => by go_simp) (.bool p1) (fun W hb => HCA.out W hb) ?_
      try simp only [Act.put, List.setIfInBounds_toArray, List.set_cons_zero, List.set_cons_succ]
      refine wpCalm_load_part rfl 28 (.tmp 7) rfl w4.heap.size 0 32 rfl 28 _ D1 _ HD7.out Try.underlying28 rfl rfl HA1.out.size (fun _ _ => by rw [Nat.zero_add]) ?_
      try simp only [Act.put, List.setIfInBounds_toArray, List.set_cons_zero, List.set_cons_succ]
      refine wpCalm_value rfl rfl (.agg zd) (fun W _ => by rw [HZE.out]; go_simp) ?_
      try simp only [Act.put, List.setIfInBounds_toArray, List.set_cons_zero, List.set_cons_succ]
      refine wpCalm_value rfl rfl (.bool p1) (fun W _ => exec_eql_agg 28 (.tmp 64) (.tmp 65) _ rfl D1 zd rfl rfl eqg_digest _ (EZ1.out W)) ?_
      try simp only [Act.put, List.setIfInBounds_toArray, List.set_cons_zero, List.set_cons_succ]
      refine wpCalm_value rfl rfl (.bool true) (fun W _ => by cases p1 <;> rfl) ?_
      try simp only [Act.put, List.setIfInBounds_toArray, List.set_cons_zero, List.set_cons_succ]
      refine wpCalm_value rfl rfl (.bool true) (fun W _ => by go_simp) ?_
      try simp only [Act.put, List.setIfInBounds_toArray, List.set_cons_zero, List.set_cons_succ]
      refine wpCalm_value rfl rfl (.bool true) (fun W _ => rfl) ?_
      try simp only [Act.put, List.setIfInBounds_toArray, List.set_cons_zero, List.set_cons_succ]
      refine wpCalm_value rfl rfl (.pointer (some ⟨kb.g, 0, none⟩)) (fun W _ => rfl) ?_
      try simp only [Act.put, List.setIfInBounds_toArray, List.set_cons_zero, List.set_cons_succ]
      refine wpCalm_call rfl rfl 23 #[.pointer (some ⟨kb.g, 0, none⟩)] (fun W => by go_simp) (.bool p2) (fun W hb => HCB.out W hb) ?_
      try simp only [Act.put, List.setIfInBounds_toArray, List.set_cons_zero, List.set_cons_succ]
      refine wpCalm_load_part rfl 28 (.tmp 9) rfl w6.heap.size 0 32 rfl 28 _ D2 _ HE7.out Try.underlying28 rfl rfl HA2.out.size (fun _ _ => by rw [Nat.zero_add]) ?_
      try simp only [Act.put, List.setIfInBounds_toArray, List.set_cons_zero, List.set_cons_succ]
      refine wpCalm_value rfl rfl (.agg zd) (fun W _ => by rw [HZE.out]; go_simp) ?_
      try simp only [Act.put, List.setIfInBounds_toArray, List.set_cons_zero, List.set_cons_succ]
      refine wpCalm_value rfl rfl (.bool p2) (fun W _ => exec_eql_agg 28 (.tmp 72) (.tmp 73) _ rfl D2 zd rfl rfl eqg_digest _ (EZ2.out W)) ?_
      try simp only [Act.put, List.setIfInBounds_toArray, List.set_cons_zero, List.set_cons_succ]
      refine wpCalm_value rfl rfl (.bool true) (fun W _ => by cases p2 <;> rfl) ?_
      try simp only [Act.put, List.setIfInBounds_toArray, List.set_cons_zero, List.set_cons_succ]
      refine wpCalm_value rfl rfl (.bool true) (fun W _ => by go_simp) ?_
      try simp only [Act.put, List.setIfInBounds_toArray, List.set_cons_zero, List.set_cons_succ]
      refine wpCalm_nil ?_
      intro W8 hb8
      have HB8 := Lib.hid (HB7.out.trans (hb8.mono (by omega)))
      clear hb8
      go_wp2_with fail
      go_ret
      exact ⟨rfl, HB8.out⟩
    · obtain ⟨rfl, hd1⟩ := HA1.out.small (by have := HXN.out; omega)
      obtain ⟨rfl, hd2⟩ := HA2.out.big (by have := HYN.out; omega)
      have l1 : decide (65536 < (n : Int)) = false := by simp; omega
      have l2 : decide (65536 < (n' : Int)) = true := by simp; omega
      go_wp2_with fail
      go_ret
      exact ⟨rfl, HB7.out⟩
  · obtain ⟨rfl, hd1⟩ := HA1.out.big (by have := HXN.out; omega)
    have l1 : decide (65536 < (n : Int)) = true := by simp; omega
    go_wp2_with fail
    go_ret
    exact ⟨rfl, HB7.out⟩

end Go.Proofs.Ytkfmaagikjjilaa
