/-
  InkUnlike: the law's walk.
-/
import Derived.Test.YtkfmaagikjjilaaInkFill
import Derived.Test.YtkfmaagikjjilaaEq
namespace Go.Proofs.Ytkfmaagikjjilaa
set_option linter.unusedVariables false
open Go.RowKit Go.Maps
attribute [local irreducible] wpCalm

set_option maxRecDepth 100000 in
set_option maxHeartbeats 4000000 in
theorem inkUnlike_law (A : Option Addr) (n c : Nat) (xss : List (List UInt8)) (i k' : Int) (w : World) (h : Rows2 w A n xss) (hc : n ≤ c) (hcm : 24 * c ≤ reachBytes) (hi1 : -9223372036854775808 ≤ i) (hi2 : i ≤ 9223372036854775807) (hk1' : -9223372036854775808 ≤ k') (hk2' : k' ≤ 9223372036854775807) :
    Calls Try.prog 4 #[.slice A n c, .int .i64 i, .int .i64 k'] w fun e w' => e = .returned (.bool true) ∧ Below w.heap.size w w' := by
  have hxn := h.1
  have HXN := Lib.hid hxn
  have H := Lib.hid h
  unfold reachBytes at hcm
  clear hxn h
  go_enter Try.func4, Try.ntmps4
  go_wp2_with fail
  refine (works_any _).mono ?_
  rintro _ w1 ⟨rfl, hb1⟩
  have HB1 := Lib.hid hb1
  have hs1 := hb1.size
  clear hb1
  go_wp2_with fail
  refine (inkNew_any _).mono ?_
  rintro _ w2 ⟨b, rfl, hka, hkka, hb2⟩
  have HK2 := Lib.hid hka
  have HB2 := Lib.hid (HB1.out.trans (hb2.mono hs1))
  clear hb2 hka
  have hk0 : w.heap.size ≤ b.g ∧ w.heap.size ≤ b.b1 ∧ w.heap.size ≤ b.b2 := by omega
  clear hkka
  go_wp2_with fail
  go_loopw [8] (fun v wr => ∃ k : Nat, k ≤ n ∧ k ≤ 40 ∧ v = .int .i64 k ∧ BookAt wr b (inkL xss k) (inkN xss k) ∧ Below w.heap.size w wr) (fun v _ => 40 - (intOf v).toNat)
  case atStart => exact ⟨0, by omega, by omega, rfl, HK2.out, HB2.out⟩
  case round =>
    obtain ⟨k, hk, hk20, rfl, hK, hbel⟩ := hrel
    have HK := Lib.hid hK
    have HB := Lib.hid hbel
    have hsz := hbel.size
    have hnl := inkN_le xss k
    clear hK hbel
    go_upto_region 5 with fail
    go_cut [23] (fun s23 wx => s23 = .bool (decide (k < n ∧ k < 40)) ∧ wx = wr)
    case first =>
      by_cases hkn : k < n
      · go_wp2_with fail
        go_meet
        exact ⟨by simp [hkn]; omega, rfl⟩
      · go_wp2_with fail
        go_meet
        exact ⟨by simp [hkn], rfl⟩
    case rest =>
      obtain ⟨rfl, rfl⟩ := hcut
      by_cases hlt : k < n ∧ k < 40
      · rw [decide_eq_true hlt]
        obtain ⟨ad, hA, hadb, hcell⟩ := H.out.2 (by omega)
        subst hA
        have hxk : k < xss.length := by have := HXN.out; omega
        obtain ⟨Bp, m, cp, hcp, hrp, hmp, hcp2⟩ := hcell k xss[k] (List.getElem?_eq_getElem hxk)
        have hadk : (ad.add k).block < w.heap.size := by simp [Addr.add]; split <;> exact hadb
        have hcp' := (HB.out.cell hadk).trans hcp
        have hr' := hrp.below HB.out
        have HRR := Lib.hid hr'
        unfold reachBytes at hcp2
        clear hcell hcp hrp hr'
        go_wp2_with fail
        refine (inkOf_all b _ _ Bp m cp xss[k] wc w.heap.size HK.out HRR.out hsz (HRR.out.above hk0) hmp (by unfold maxLen; omega) (by omega)).mono ?_
        rintro _ w3 ⟨D, code, rfl, ha, hk3, ho3⟩
        rw [← inkL_next xss k hxk, ← inkN_next xss k hxk] at hk3
        have HK3 := Lib.hid hk3
        have HB3 := Lib.hid (ho3.below HB.out hsz hk0)
        clear ha hk3 ho3
        go_wp2_with fail
        go_roundw
        case rel => exact ⟨k + 1, by omega, by omega, by go_num, HK3.out, HB3.out⟩
        case measure => simp [intOf]; omega
      · rw [decide_eq_false hlt]
        have hend : k = n ∨ k = 40 := by omega
        clear hlt
        by_cases hn0 : n = 0
        · obtain rfl : k = 0 := by omega
          subst hn0
          go_wp2_with fail
          go_ret
          exact ⟨rfl, HB.out⟩
        · have hk1 : 0 < k := by omega
          have hn1 : ((n : Int) == 0) = false := by simp; omega
          go_wp2_with fail
          refine (inkClash_any b _ _ _ HK.out).mono ?_
          rintro _ _ ⟨rfl, rfl⟩
          cases hcl : clashB (inkL xss k) with
          | true =>
            go_wp2_with fail
            go_ret
            exact ⟨rfl, HB.out⟩
          | false =>
            go_upto_region 10 with fail
            go_cut [1, 2] (fun s1 s2 wx => s1 = .int .i64 (bringF i k : Int) ∧ s2 = .int .i64 (bringF k' k : Int) ∧ wx = wc)
            case first =>
              have hbr := bring_any i k hk1 (by unfold maxLen; omega) hi1 hi2
              have hbr' := bring_any k' k hk1 (by unfold maxLen; omega) hk1' hk2'
              have hbr2 : ∀ (z : Int) (W : World), z = (k : Int) → Calls Try.prog 26 #[.int .i64 i, .int .i64 z] W fun e w' => e = .returned (.int .i64 (bringF i k : Int)) ∧ W = w' := fun z W hz => by rw [hz]; exact hbr W
              have hbr3 : ∀ (z : Int) (W : World), z = (k : Int) → Calls Try.prog 26 #[.int .i64 k', .int .i64 z] W fun e w' => e = .returned (.int .i64 (bringF k' k : Int)) ∧ W = w' := fun z W hz => by rw [hz]; exact hbr' W
              clear hbr hbr'
              go_wp2_with fail
              all_goals
                refine (hbr2 _ _ (by omega)).mono ?_
                rintro _ _ ⟨rfl, rfl⟩
                go_wp2_with fail
                all_goals
                  refine (hbr3 _ _ (by omega)).mono ?_
                  rintro _ _ ⟨rfl, rfl⟩
                  go_wp2_with fail
                  go_meet
                  exact ⟨rfl, rfl, rfl⟩
            case rest =>
              obtain ⟨rfl, rfl, rfl⟩ := hcut
              have hbl := bringF_lt i k hk1
              have hbl' := bringF_lt k' k hk1
              generalize bringF i k = j at hbl ⊢
              generalize bringF k' k = q at hbl' ⊢
              obtain ⟨ad, hA, hadb, hcell⟩ := H.out.2 (by omega)
              subst hA
              have hxj : j < xss.length := by have := HXN.out; omega
              have hxq : q < xss.length := by have := HXN.out; omega
              obtain ⟨Bp, m, cp, hcp, hrp, hmp, hcp2⟩ := hcell j xss[j] (List.getElem?_eq_getElem hxj)
              obtain ⟨Bq, m', cq, hcq, hrq, hmq, hcq2⟩ := hcell q xss[q] (List.getElem?_eq_getElem hxq)
              have hadj : (ad.add j).block < w.heap.size := by simp [Addr.add]; split <;> exact hadb
              have hadq : (ad.add q).block < w.heap.size := by simp [Addr.add]; split <;> exact hadb
              have HME := Lib.hid (inkL_mem xss k j hbl hxj)
              have HMF := Lib.hid (inkL_mem xss k q hbl' hxq)
              have HCP := Lib.hid hcp
              have HRP := Lib.hid hrp
              have HCQ := Lib.hid hcq
              have HRQ := Lib.hid hrq
              generalize xss[j] = x at HME HRP
              generalize xss[q] = y at HMF HRQ
              unfold reachBytes at hcp2 hcq2
              clear hcell hcp hrp hcq hrq
              have HCL := Lib.hid hcl
              clear hcl
              generalize hL : inkL xss k = L at HK HME HMF HCL
              generalize hN : inkN xss k = N at HK hnl
              clear hL hN
              have hxm : x.length = m := by have := HRP.out.1; simpa using this
              have hym : y.length = m' := by have := HRQ.out.1; simpa using this
              have HXM := Lib.hid hxm
              have HYM := Lib.hid hym
              clear hxm hym
              have hcp5 := (HB.out.cell hadj).trans HCP.out
              have hr5 := HRP.out.below HB.out
              go_wp2_with fail
              refine (inkOf_all b _ _ Bp m cp x wc w.heap.size HK.out hr5 hsz (hr5.above hk0) hmp (by unfold maxLen; omega) (by omega)).mono ?_
              rintro _ w6 ⟨D1, c1, rfl, ha, hk6, ho6⟩
              have HA1 := Lib.hid ha
              have HK6 := Lib.hid hk6
              have HB6 := Lib.hid (ho6.below HB.out hsz hk0)
              have hs6 := HB6.out.size
              have hnn := noteN_le N x
              clear ha hk6 ho6 hr5 hcp5
              go_upto_region 12 with (refine wpList_store_part rfl 28 (.tmp 9) (.tmp 56) rfl w6.heap.size 0 D1 rfl rfl 28 _ (Blk.newAt rfl) (by rw [HA1.out.size]; rfl) (by rw [HA1.out.size]; simp) HA1.out.one ?_; intro W6 hT6 hD6; rw [spl_self _ _ (by rw [HA1.out.size]; simp)] at hD6)
              have hX6 : Below w6.heap.size w6 W6 := hT6.below ((Below.refl _ _).alloc (Nat.le_refl _) _) (Nat.le_refl _)
              have HB7 := Lib.hid (HB6.out.trans (hX6.mono hs6))
              have HK7 := Lib.hid (HK6.out.below hX6)
              have hs7 := HB7.out.size
              have hkl7 := HK6.out.lt
              have hdl7 := hD6.lt
              have HD7 := Lib.hid hD6
              clear hX6 hT6 hD6
              have hcq7 := (HB7.out.cell hadq).trans HCQ.out
              have hr7 := HRQ.out.below HB7.out
              go_wp2_with fail
              refine (inkOf_all b _ _ Bq m' cq y W6 w.heap.size HK7.out hr7 hs7 (hr7.above hk0) hmq (by unfold maxLen; omega) (by omega)).mono ?_
              rintro _ w8 ⟨D2, c2, rfl, ha, hk8, ho8⟩
              have HA2 := Lib.hid ha
              have HB8 := Lib.hid (ho8.below HB7.out hs7 hk0)
              have hs8 := HB8.out.size
              have hD8 : Blk w8 w6.heap.size 28 D1 := (ho8.block _ hdl7 (by rintro (e | e | e) <;> omega)).trans HD7.out
              have HD8 := Lib.hid hD8
              have hdl8 := hD8.lt
              clear ha hk8 ho8 hr7 hcq7 hD8
              go_upto_region 13 with (refine wpList_store_part rfl 28 (.tmp 11) (.tmp 65) rfl w8.heap.size 0 D2 rfl rfl 28 _ (Blk.newAt rfl) (by rw [HA2.out.size]; rfl) (by rw [HA2.out.size]; simp) HA2.out.one ?_; intro W8 hT8 hE8; rw [spl_self _ _ (by rw [HA2.out.size]; simp)] at hE8)
              have hX8 : Below w8.heap.size w8 W8 := hT8.below ((Below.refl _ _).alloc (Nat.le_refl _) _) (Nat.le_refl _)
              have HB9 := Lib.hid (HB8.out.trans (hX8.mono hs8))
              have HD9 := Lib.hid (HD8.out.below' hX8)
              have HE9 := Lib.hid hE8
              have hs9 := HB9.out.size
              have hcpj := fun (W : World) (hb : Below W8.heap.size W8 W) => ((HB9.out.trans (hb.mono hs9)).cell hadj).trans HCP.out
              have hcqq := fun (W : World) (hb : Below W8.heap.size W8 W) => ((HB9.out.trans (hb.mono hs9)).cell hadq).trans HCQ.out
              have hqe : ∀ (W : World), Below W8.heap.size W8 W → Calls Try.prog 18 #[.slice Bp m cp, .slice Bq m' cq] W fun e w' => e = .returned (.bool (decide (x = y))) ∧ Below W.heap.size W w' := fun W hb =>
                (eqBytes_any Bp Bq m m' cp cq x y W w.heap.size w.heap.size (HRP.out.below (HB9.out.trans (hb.mono hs9))) (HRQ.out.below (HB9.out.trans (hb.mono hs9))) (by unfold maxLen; omega) (by unfold maxLen; omega)).mono fun e w' ⟨he, z, hz⟩ => ⟨he, hz ▸ below_drewN (Below.refl _ _) z⟩
              have HCPJ := Lib.hid hcpj
              have HCQQ := Lib.hid hcqq
              have HQE := Lib.hid hqe
              clear hX8 hT8 hE8 hcpj hcqq hqe
              have hjn : j < n := by omega
              have hqn : q < n := by omega
              by_cases hm : m ≤ 65536
              · obtain ⟨rfl, hd1⟩ := HA1.out.small (by have := HXM.out; omega)
                by_cases hm' : m' ≤ 65536
                · obtain ⟨rfl, hd2⟩ := HA2.out.small (by have := HYM.out; omega)
                  have heq := eql_digest (shaOf x) (shaOf y) (shaOf_len _) (shaOf_len _)
                  rw [← hd1, ← hd2] at heq
                  have hpp : (shaOf x == shaOf y) = decide (x = y) := by
                    by_cases e : x = y
                    · subst e; simp
                    · rw [decide_eq_false e, beq_eq_false_iff_ne]
                      exact fun hh => e (clash_inj HCL.out (HME.out (by have := HXM.out; omega)) (HMF.out (by have := HYM.out; omega)) hh)
                  rw [hpp] at heq
                  have hqe := HQE.out
                  generalize decide (x = y) = p at heq hqe
                  have EQ := Lib.hid heq
                  have HQE := Lib.hid hqe
                  clear heq hqe hpp hd1 hd2
                  refine wp_region_calm0 21 88 (by kernel_rfl) (by kernel_rfl) (by kernel_rfl) (by simp) ?_
                  simp only [List.take_succ_cons, List.take_zero, List.drop_succ_cons, List.drop_zero]
                  refine wpCalm_value rfl rfl (.int .i64 0) (fun W _ => rfl) ?_
                  try simp only [Act.put, List.setIfInBounds_toArray, List.set_cons_zero, List.set_cons_succ]
                  refine wpCalm_value rfl rfl (.bool false) (fun W _ => by go_simp) ?_
                  try simp only [Act.put, List.setIfInBounds_toArray, List.set_cons_zero, List.set_cons_succ]
                  refine wpCalm_value rfl rfl (.bool false) (fun W _ => rfl) ?_
                  try simp only [Act.put, List.setIfInBounds_toArray, List.set_cons_zero, List.set_cons_succ]
                  refine wpCalm_value rfl rfl (.int .i64 0) (fun W _ => rfl) ?_
                  try simp only [Act.put, List.setIfInBounds_toArray, List.set_cons_zero, List.set_cons_succ]
                  refine wpCalm_value rfl rfl (.bool false) (fun W _ => by go_simp) ?_
                  try simp only [Act.put, List.setIfInBounds_toArray, List.set_cons_zero, List.set_cons_succ]
                  refine wpCalm_value rfl rfl (.bool false) (fun W _ => by go_simp) ?_
                  try simp only [Act.put, List.setIfInBounds_toArray, List.set_cons_zero, List.set_cons_succ]
                  refine wpCalm_value rfl rfl (.bool false) (fun W _ => rfl) ?_
                  try simp only [Act.put, List.setIfInBounds_toArray, List.set_cons_zero, List.set_cons_succ]
                  refine wpCalm_load_part rfl 28 (.tmp 9) rfl w6.heap.size 0 32 rfl 28 _ D1 _ HD9.out Try.underlying28 rfl rfl HA1.out.size (fun _ _ => by rw [Nat.zero_add]) ?_
                  try simp only [Act.put, List.setIfInBounds_toArray, List.set_cons_zero, List.set_cons_succ]
                  refine wpCalm_load_part rfl 28 (.tmp 11) rfl w8.heap.size 0 32 rfl 28 _ D2 _ HE9.out Try.underlying28 rfl rfl HA2.out.size (fun _ _ => by rw [Nat.zero_add]) ?_
                  try simp only [Act.put, List.setIfInBounds_toArray, List.set_cons_zero, List.set_cons_succ]
                  refine wpCalm_value rfl rfl (.bool p) (fun W _ => exec_eql_agg 28 (.tmp 74) (.tmp 75) _ rfl D1 D2 rfl rfl eqg_digest _ (EQ.out W)) ?_
                  try simp only [Act.put, List.setIfInBounds_toArray, List.set_cons_zero, List.set_cons_succ]
                  refine wpCalm_value rfl rfl (.slice (some ad) n c) (fun W _ => rfl) ?_
                  try simp only [Act.put, List.setIfInBounds_toArray, List.set_cons_zero, List.set_cons_succ]
                  refine wpCalm_value rfl rfl (.int .i64 (j : Int)) (fun W _ => rfl) ?_
                  try simp only [Act.put, List.setIfInBounds_toArray, List.set_cons_zero, List.set_cons_succ]
                  refine wpCalm_value rfl rfl (.pointer (some (ad.add j))) (fun W _ => by go_simp) ?_
                  try simp only [Act.put, List.setIfInBounds_toArray, List.set_cons_zero, List.set_cons_succ]
                  refine wpCalm_below rfl rfl (.slice Bp m cp) (fun W hb => exec_load_one 32 (.tmp 79) rfl (ad.add j) rfl (by kernel_rfl) _ (HCPJ.out W hb)) ?_
                  try simp only [Act.put, List.setIfInBounds_toArray, List.set_cons_zero, List.set_cons_succ]
                  refine wpCalm_value rfl rfl (.slice (some ad) n c) (fun W _ => rfl) ?_
                  try simp only [Act.put, List.setIfInBounds_toArray, List.set_cons_zero, List.set_cons_succ]
                  refine wpCalm_value rfl rfl (.int .i64 (q : Int)) (fun W _ => rfl) ?_
                  try simp only [Act.put, List.setIfInBounds_toArray, List.set_cons_zero, List.set_cons_succ]
                  refine wpCalm_value rfl rfl (.pointer (some (ad.add q))) (fun W _ => by go_simp) ?_
                  try simp only [Act.put, List.setIfInBounds_toArray, List.set_cons_zero, List.set_cons_succ]
                  refine wpCalm_below rfl rfl (.slice Bq m' cq) (fun W hb => exec_load_one 32 (.tmp 83) rfl (ad.add q) rfl (by kernel_rfl) _ (HCQQ.out W hb)) ?_
                  try simp only [Act.put, List.setIfInBounds_toArray, List.set_cons_zero, List.set_cons_succ]
                  refine wpCalm_call rfl rfl 18 #[.slice Bp m cp, .slice Bq m' cq] (fun W => by go_simp) (.bool p) (fun W hb => HQE.out W hb) ?_
                  try simp only [Act.put, List.setIfInBounds_toArray, List.set_cons_zero, List.set_cons_succ]
                  refine wpCalm_value rfl rfl (.bool true) (fun W _ => by cases p <;> rfl) ?_
                  try simp only [Act.put, List.setIfInBounds_toArray, List.set_cons_zero, List.set_cons_succ]
                  refine wpCalm_value rfl rfl (.bool true) (fun W _ => by go_simp) ?_
                  try simp only [Act.put, List.setIfInBounds_toArray, List.set_cons_zero, List.set_cons_succ]
                  refine wpCalm_nil ?_
                  intro W1 hb1
                  have HB1' := Lib.hid (HB9.out.trans (hb1.mono hs9))
                  clear hb1
                  go_wp2_with fail
                  go_ret
                  exact ⟨rfl, HB1'.out⟩
                · obtain ⟨rfl, hd2⟩ := HA2.out.big (by have := HYM.out; omega)
                  clear hd1 hd2
                  refine wp_region_calm0 21 88 (by kernel_rfl) (by kernel_rfl) (by kernel_rfl) (by simp) ?_
                  simp only [List.take_succ_cons, List.take_zero, List.drop_succ_cons, List.drop_zero]
                  refine wpCalm_value rfl rfl (.int .i64 0) (fun W _ => rfl) ?_
                  try simp only [Act.put, List.setIfInBounds_toArray, List.set_cons_zero, List.set_cons_succ]
                  refine wpCalm_value rfl rfl (.bool false) (fun W _ => by go_simp) ?_
                  try simp only [Act.put, List.setIfInBounds_toArray, List.set_cons_zero, List.set_cons_succ]
                  refine wpCalm_value rfl rfl (.bool false) (fun W _ => rfl) ?_
                  try simp only [Act.put, List.setIfInBounds_toArray, List.set_cons_zero, List.set_cons_succ]
                  refine wpCalm_value rfl rfl (.int .i64 5) (fun W _ => rfl) ?_
                  try simp only [Act.put, List.setIfInBounds_toArray, List.set_cons_zero, List.set_cons_succ]
                  refine wpCalm_value rfl rfl (.bool true) (fun W _ => by go_simp) ?_
                  try simp only [Act.put, List.setIfInBounds_toArray, List.set_cons_zero, List.set_cons_succ]
                  refine wpCalm_value rfl rfl (.bool true) (fun W _ => by go_simp) ?_
                  try simp only [Act.put, List.setIfInBounds_toArray, List.set_cons_zero, List.set_cons_succ]
                  refine wpCalm_value rfl rfl (.bool true) (fun W _ => rfl) ?_
                  try simp only [Act.put, List.setIfInBounds_toArray, List.set_cons_zero, List.set_cons_succ]
                  refine wpCalm_skip rfl rfl ?_
                  try simp only [Act.put, List.setIfInBounds_toArray, List.set_cons_zero, List.set_cons_succ]
                  refine wpCalm_skip rfl rfl ?_
                  try simp only [Act.put, List.setIfInBounds_toArray, List.set_cons_zero, List.set_cons_succ]
                  refine wpCalm_skip rfl rfl ?_
                  try simp only [Act.put, List.setIfInBounds_toArray, List.set_cons_zero, List.set_cons_succ]
                  refine wpCalm_skip rfl rfl ?_
                  try simp only [Act.put, List.setIfInBounds_toArray, List.set_cons_zero, List.set_cons_succ]
                  refine wpCalm_skip rfl rfl ?_
                  try simp only [Act.put, List.setIfInBounds_toArray, List.set_cons_zero, List.set_cons_succ]
                  refine wpCalm_skip rfl rfl ?_
                  try simp only [Act.put, List.setIfInBounds_toArray, List.set_cons_zero, List.set_cons_succ]
                  refine wpCalm_skip rfl rfl ?_
                  try simp only [Act.put, List.setIfInBounds_toArray, List.set_cons_zero, List.set_cons_succ]
                  refine wpCalm_skip rfl rfl ?_
                  try simp only [Act.put, List.setIfInBounds_toArray, List.set_cons_zero, List.set_cons_succ]
                  refine wpCalm_skip rfl rfl ?_
                  try simp only [Act.put, List.setIfInBounds_toArray, List.set_cons_zero, List.set_cons_succ]
                  refine wpCalm_skip rfl rfl ?_
                  try simp only [Act.put, List.setIfInBounds_toArray, List.set_cons_zero, List.set_cons_succ]
                  refine wpCalm_skip rfl rfl ?_
                  try simp only [Act.put, List.setIfInBounds_toArray, List.set_cons_zero, List.set_cons_succ]
                  refine wpCalm_skip rfl rfl ?_
                  try simp only [Act.put, List.setIfInBounds_toArray, List.set_cons_zero, List.set_cons_succ]
                  refine wpCalm_skip rfl rfl ?_
                  try simp only [Act.put, List.setIfInBounds_toArray, List.set_cons_zero, List.set_cons_succ]
                  refine wpCalm_value rfl rfl (.bool true) (fun W _ => by go_simp) ?_
                  try simp only [Act.put, List.setIfInBounds_toArray, List.set_cons_zero, List.set_cons_succ]
                  refine wpCalm_nil ?_
                  intro W1 hb1
                  have HB1' := Lib.hid (HB9.out.trans (hb1.mono hs9))
                  clear hb1
                  go_wp2_with fail
                  go_ret
                  exact ⟨rfl, HB1'.out⟩
              · obtain ⟨rfl, hd1⟩ := HA1.out.big (by have := HXM.out; omega)
                clear hd1
                refine wp_region_calm0 21 88 (by kernel_rfl) (by kernel_rfl) (by kernel_rfl) (by simp) ?_
                simp only [List.take_succ_cons, List.take_zero, List.drop_succ_cons, List.drop_zero]
                refine wpCalm_value rfl rfl (.int .i64 5) (fun W _ => rfl) ?_
                try simp only [Act.put, List.setIfInBounds_toArray, List.set_cons_zero, List.set_cons_succ]
                refine wpCalm_value rfl rfl (.bool true) (fun W _ => by go_simp) ?_
                try simp only [Act.put, List.setIfInBounds_toArray, List.set_cons_zero, List.set_cons_succ]
                refine wpCalm_value rfl rfl (.bool true) (fun W _ => rfl) ?_
                try simp only [Act.put, List.setIfInBounds_toArray, List.set_cons_zero, List.set_cons_succ]
                refine wpCalm_skip rfl rfl ?_
                try simp only [Act.put, List.setIfInBounds_toArray, List.set_cons_zero, List.set_cons_succ]
                refine wpCalm_skip rfl rfl ?_
                try simp only [Act.put, List.setIfInBounds_toArray, List.set_cons_zero, List.set_cons_succ]
                refine wpCalm_value rfl rfl (.bool true) (fun W _ => by go_simp) ?_
                try simp only [Act.put, List.setIfInBounds_toArray, List.set_cons_zero, List.set_cons_succ]
                refine wpCalm_value rfl rfl (.bool true) (fun W _ => rfl) ?_
                try simp only [Act.put, List.setIfInBounds_toArray, List.set_cons_zero, List.set_cons_succ]
                refine wpCalm_skip rfl rfl ?_
                try simp only [Act.put, List.setIfInBounds_toArray, List.set_cons_zero, List.set_cons_succ]
                refine wpCalm_skip rfl rfl ?_
                try simp only [Act.put, List.setIfInBounds_toArray, List.set_cons_zero, List.set_cons_succ]
                refine wpCalm_skip rfl rfl ?_
                try simp only [Act.put, List.setIfInBounds_toArray, List.set_cons_zero, List.set_cons_succ]
                refine wpCalm_skip rfl rfl ?_
                try simp only [Act.put, List.setIfInBounds_toArray, List.set_cons_zero, List.set_cons_succ]
                refine wpCalm_skip rfl rfl ?_
                try simp only [Act.put, List.setIfInBounds_toArray, List.set_cons_zero, List.set_cons_succ]
                refine wpCalm_skip rfl rfl ?_
                try simp only [Act.put, List.setIfInBounds_toArray, List.set_cons_zero, List.set_cons_succ]
                refine wpCalm_skip rfl rfl ?_
                try simp only [Act.put, List.setIfInBounds_toArray, List.set_cons_zero, List.set_cons_succ]
                refine wpCalm_skip rfl rfl ?_
                try simp only [Act.put, List.setIfInBounds_toArray, List.set_cons_zero, List.set_cons_succ]
                refine wpCalm_skip rfl rfl ?_
                try simp only [Act.put, List.setIfInBounds_toArray, List.set_cons_zero, List.set_cons_succ]
                refine wpCalm_skip rfl rfl ?_
                try simp only [Act.put, List.setIfInBounds_toArray, List.set_cons_zero, List.set_cons_succ]
                refine wpCalm_skip rfl rfl ?_
                try simp only [Act.put, List.setIfInBounds_toArray, List.set_cons_zero, List.set_cons_succ]
                refine wpCalm_skip rfl rfl ?_
                try simp only [Act.put, List.setIfInBounds_toArray, List.set_cons_zero, List.set_cons_succ]
                refine wpCalm_skip rfl rfl ?_
                try simp only [Act.put, List.setIfInBounds_toArray, List.set_cons_zero, List.set_cons_succ]
                refine wpCalm_value rfl rfl (.bool true) (fun W _ => by go_simp) ?_
                try simp only [Act.put, List.setIfInBounds_toArray, List.set_cons_zero, List.set_cons_succ]
                refine wpCalm_nil ?_
                intro W1 hb1
                have HB1' := Lib.hid (HB9.out.trans (hb1.mono hs9))
                clear hb1
                go_wp2_with fail
                go_ret
                exact ⟨rfl, HB1'.out⟩

end Go.Proofs.Ytkfmaagikjjilaa
