/-
  Contract of bastideref11.Check.
-/
import Derived.Test.YtcmbmimmfgfefaaGreatRefMay
import Derived.Test.YtcmbmimmfgfefaaGreatWorksW
namespace Go.Proofs.YtcmbmimmfgfefaaGreat
set_option linter.unusedVariables false
open Go.RowKit
attribute [local irreducible] wpCalm

set_option maxRecDepth 100000 in
set_option maxHeartbeats 8000000 in
theorem refCheck_any (x : Wish) (A : Option Addr) (n c : Nat) (A' : Option Addr) (n' c' : Nat) (w : World) (B : Nat) (h : WishIn w B x A n c A' n' c') (hB : B ≤ w.heap.size) :
    Calls Tryz.prog 34 #[.agg (wCells x A n c A' n' c')] w fun e w' => e = .returned (.int .i64 (if mayB x = true then 0 else 2)) ∧ Below w.heap.size w w' := by
  have hX : Below w.heap.size w (w.alloc (.cells (wCells x A n c A' n' c') 25)) := (Below.refl _ _).alloc (Nat.le_refl _) _
  have hk0 : Blk (w.alloc (.cells (wCells x A n c A' n' c') 25)) w.heap.size 25 (wCells x A n c A' n' c') := Blk.newAt rfl
  obtain ⟨D, m, d, D', m', d', hsl, hin⟩ := own_in x A n c A' n' c'
  have HWX := Lib.hid (fun W (hb : Below w.heap.size w W) => h.below (hb.mono hB))
  have HIN := Lib.hid hin
  have hdl := h.dlen
  have HDL := Lib.hid hdl
  obtain ⟨rc, hrc⟩ : ∃ rc : Int, rc = if mayB x = true then 0 else 2 := ⟨_, rfl⟩
  rw [← hrc]
  have HRC := Lib.hid hrc
  clear hin h hdl hrc
  go_enter Tryz.func34, Tryz.ntmps34
  go_upto_region 1 with fail
  generalize hW : World.alloc w _ = w1
  have hW' : w.alloc (.cells (wCells x A n c A' n' c') 25) = w1 := hW
  rw [hW'] at hX hk0
  clear hW hW'
  have hs1 := hX.size
  have HK0 := Lib.hid hk0
  have HX := Lib.hid hX
  have HC3 := Lib.hid (fun W (hb : Below w1.heap.size w1 W) => ((hk0.under hb).cell 3).trans (show (wCells x A n c A' n' c')[3]? = some (.int .i64 x.epoch) from rfl))
  have HSM := Lib.hid (fun W (hb : Below w1.heap.size w1 W) => refSame_any x (ownW x) A n c A' n' c' D m d D' m' d' W B (HWX.out W (HX.out.trans (hb.mono hs1))) (HIN.out W B (HWX.out W (HX.out.trans (hb.mono hs1)))) (by have := hb.size; omega))
  clear hk0 hX
  go_cut [3] (fun s wx => s = .bool (may1 x) ∧ Below w1.heap.size w1 wx)
  case first =>
    by_cases hE : 0 ≤ x.epoch ∧ x.epoch ≤ 1048576
    · have hm1 : may1 x = sameW x (ownW x) := by unfold may1; rw [decide_eq_true hE, Bool.true_and]
      refine wp_region_calm0 9 117 (by kernel_rfl) (by kernel_rfl) (by kernel_rfl) (by simp) ?_
      simp only [List.take_succ_cons, List.take_zero, List.drop_succ_cons, List.drop_zero]
      refine wpCalm_value rfl rfl (.pointer (some ⟨w.heap.size, 3, none⟩)) (fun W _ => by go_simp) ?_
      try simp only [Act.put, List.setIfInBounds_toArray, List.set_cons_zero, List.set_cons_succ]
      refine wpCalm_below rfl rfl (.int .i64 x.epoch) (fun W hb => exec_load_one 3 (.tmp 6) rfl ⟨w.heap.size, 3, none⟩ rfl (by kernel_rfl) _ (HC3.out W hb)) ?_
      try simp only [Act.put, List.setIfInBounds_toArray, List.set_cons_zero, List.set_cons_succ]
      refine wpCalm_call rfl rfl 52 #[.int .i64 x.epoch, .int .i64 0, .int .i64 1048576] (fun W => by go_simp) (.bool (decide (0 ≤ x.epoch ∧ x.epoch ≤ 1048576))) (fun W hb => (refWithin_any _ _ _ W).mono fun e w' ⟨h1, h2⟩ => ⟨h1, h2 ▸ Below.refl _ _⟩) ?_
      try simp only [Act.put, List.setIfInBounds_toArray, List.set_cons_zero, List.set_cons_succ]
      rw [decide_eq_true hE]
      refine wpCalm_value rfl rfl (.bool true) (fun W _ => rfl) ?_
      try simp only [Act.put, List.setIfInBounds_toArray, List.set_cons_zero, List.set_cons_succ]
      refine wpCalm_load_part rfl 25 (.tmp 1) rfl w.heap.size 0 10 rfl 25 _ (wCells x A n c A' n' c') _ HK0.out Tryz.underlying25 rfl rfl rfl (fun _ _ => by rw [Nat.zero_add]) ?_
      try simp only [Act.put, List.setIfInBounds_toArray, List.set_cons_zero, List.set_cons_succ]
      refine wpCalm_load_part rfl 25 (.tmp 1) rfl w.heap.size 0 10 rfl 25 _ (wCells x A n c A' n' c') _ HK0.out Tryz.underlying25 rfl rfl rfl (fun _ _ => by rw [Nat.zero_add]) ?_
      try simp only [Act.put, List.setIfInBounds_toArray, List.set_cons_zero, List.set_cons_succ]
      refine wpCalm_call rfl rfl 53 #[.agg (wCells x A n c A' n' c')] (fun W => by go_simp) (ownSl x A n c A' n' c') (fun W hb => refOwn_any x A n c A' n' c' W) ?_
      try simp only [Act.put, List.setIfInBounds_toArray, List.set_cons_zero, List.set_cons_succ]
      rw [hsl]
      refine wpCalm_call rfl rfl 45 #[.agg (wCells x A n c A' n' c'), .agg (wCells (ownW x) D m d D' m' d')] (fun W => by go_simp) (.bool (sameW x (ownW x))) (fun W hb => HSM.out W hb) ?_
      try simp only [Act.put, List.setIfInBounds_toArray, List.set_cons_zero, List.set_cons_succ]
      refine wpCalm_value rfl rfl (.bool (sameW x (ownW x))) (fun W _ => by go_simp) ?_
      try simp only [Act.put, List.setIfInBounds_toArray, List.set_cons_zero, List.set_cons_succ]
      refine wpCalm_nil ?_
      intro w2 hb2
      have HB2 := Lib.hid hb2
      clear hb2
      go_wp2_with fail
      go_meet
      exact ⟨by rw [hm1], HB2.out⟩
    · have hm1 : may1 x = false := by unfold may1; rw [decide_eq_false hE, Bool.false_and]
      refine wp_region_calm0 9 117 (by kernel_rfl) (by kernel_rfl) (by kernel_rfl) (by simp) ?_
      simp only [List.take_succ_cons, List.take_zero, List.drop_succ_cons, List.drop_zero]
      refine wpCalm_value rfl rfl (.pointer (some ⟨w.heap.size, 3, none⟩)) (fun W _ => by go_simp) ?_
      try simp only [Act.put, List.setIfInBounds_toArray, List.set_cons_zero, List.set_cons_succ]
      refine wpCalm_below rfl rfl (.int .i64 x.epoch) (fun W hb => exec_load_one 3 (.tmp 6) rfl ⟨w.heap.size, 3, none⟩ rfl (by kernel_rfl) _ (HC3.out W hb)) ?_
      try simp only [Act.put, List.setIfInBounds_toArray, List.set_cons_zero, List.set_cons_succ]
      refine wpCalm_call rfl rfl 52 #[.int .i64 x.epoch, .int .i64 0, .int .i64 1048576] (fun W => by go_simp) (.bool (decide (0 ≤ x.epoch ∧ x.epoch ≤ 1048576))) (fun W hb => (refWithin_any _ _ _ W).mono fun e w' ⟨h1, h2⟩ => ⟨h1, h2 ▸ Below.refl _ _⟩) ?_
      try simp only [Act.put, List.setIfInBounds_toArray, List.set_cons_zero, List.set_cons_succ]
      rw [decide_eq_false hE]
      refine wpCalm_value rfl rfl (.bool false) (fun W _ => rfl) ?_
      try simp only [Act.put, List.setIfInBounds_toArray, List.set_cons_zero, List.set_cons_succ]
      refine wpCalm_skip rfl rfl ?_
      try simp only [Act.put, List.setIfInBounds_toArray, List.set_cons_zero, List.set_cons_succ]
      refine wpCalm_skip rfl rfl ?_
      try simp only [Act.put, List.setIfInBounds_toArray, List.set_cons_zero, List.set_cons_succ]
      refine wpCalm_skip rfl rfl ?_
      try simp only [Act.put, List.setIfInBounds_toArray, List.set_cons_zero, List.set_cons_succ]
      refine wpCalm_skip rfl rfl ?_
      try simp only [Act.put, List.setIfInBounds_toArray, List.set_cons_zero, List.set_cons_succ]
      refine wpCalm_value rfl rfl (.bool false) (fun W _ => by go_simp) ?_
      try simp only [Act.put, List.setIfInBounds_toArray, List.set_cons_zero, List.set_cons_succ]
      refine wpCalm_nil ?_
      intro w2 hb2
      have HB2 := Lib.hid hb2
      clear hb2
      go_wp2_with fail
      go_meet
      exact ⟨by rw [hm1], HB2.out⟩
  case rest =>
  obtain ⟨rfl, hb2⟩ := hcut
  have K2 := Lib.hid (HK0.out.under hb2)
  have HB2 := Lib.hid (HX.out.trans (hb2.mono hs1))
  have HNX := Lib.hid (fun W (hb : Below wc.heap.size wc W) => refNext_any A' n' c' x.next W B (HWX.out W (HB2.out.trans (hb.mono (HB2.out.size)))).next (by have := hb.size; have := HB2.out.size; omega) (HWX.out W (HB2.out.trans (hb.mono (HB2.out.size)))).nm)
  have c0 := (K2.out.cell 0).trans (show (wCells x A n c A' n' c')[0]? = some (.int .i64 x.client) from rfl)
  have c1 := (K2.out.cell 1).trans (show (wCells x A n c A' n' c')[1]? = some (.int .i64 x.stamp) from rfl)
  have c2 := (K2.out.cell 2).trans (show (wCells x A n c A' n' c')[2]? = some (.int .i64 x.group) from rfl)
  have c3 := (K2.out.cell 3).trans (show (wCells x A n c A' n' c')[3]? = some (.int .i64 x.epoch) from rfl)
  have c4 := (K2.out.cell 4).trans (show (wCells x A n c A' n' c')[4]? = some (.int .i64 x.kind) from rfl)
  have c5 := (K2.out.cell 5).trans (show (wCells x A n c A' n' c')[5]? = some (.int .i64 x.block) from rfl)
  have c6 := (K2.out.cell 6).trans (show (wCells x A n c A' n' c')[6]? = some (.slice A n c) from rfl)
  have c7 := (K2.out.cell 7).trans (show (wCells x A n c A' n' c')[7]? = some (.int .i64 x.old) from rfl)
  have c8 := (K2.out.cell 8).trans (show (wCells x A n c A' n' c')[8]? = some (.int .i64 x.new) from rfl)
  have c9 := (K2.out.cell 9).trans (show (wCells x A n c A' n' c')[9]? = some (.slice A' n' c') from rfl)
  clear hb2 hsl HIN HC3 HSM HK0 HX
  go_upto_if 17 with (fail)
  go_cut [3] (fun s wx => s = .bool (may2 x) ∧ wc = wx)
  case first =>
    by_cases h5 : x.kind = 5
    · have hm2 : may2 x = may1 x := by unfold may2; rw [if_pos h5]
      have h5b : (x.kind != 5) = false := by simp [h5]
      go_wp2_with fail
      go_meet
      exact ⟨by rw [hm2], rfl⟩
    · have hm2 : may2 x = (may1 x && decide (31 ≤ x.client ∧ x.client ≤ 34) && decide (1 ≤ x.stamp ∧ x.stamp ≤ 9007199254740991)) := by unfold may2; rw [if_neg h5]
      have h5b : (x.kind != 5) = true := by simp [h5]
      have HM2 := Lib.hid hm2
      clear hm2
      generalize may1 x = m1 at HM2 ⊢
      cases m1 with
      | false =>
        go_wp2_with fail
        go_meet
        exact ⟨by rw [HM2.out]; rfl, rfl⟩
      | true =>
        by_cases hC : 31 ≤ x.client ∧ x.client ≤ 34
        · rw [decide_eq_true hC] at HM2
          go_wp2_with fail
          refine (refWithin_any _ _ _ _).mono ?_
          rintro _ _ ⟨rfl, rfl⟩
          rw [decide_eq_true hC]
          go_wp2_with fail
          refine (refWithin_any _ _ _ _).mono ?_
          rintro _ _ ⟨rfl, rfl⟩
          generalize decide (1 ≤ x.stamp ∧ x.stamp ≤ 9007199254740991) = q at HM2 ⊢
          go_wp2_with fail
          go_meet
          exact ⟨by rw [HM2.out]; rfl, rfl⟩
        · rw [decide_eq_false hC] at HM2
          go_wp2_with fail
          refine (refWithin_any _ _ _ _).mono ?_
          rintro _ _ ⟨rfl, rfl⟩
          rw [decide_eq_false hC]
          go_wp2_with fail
          go_meet
          exact ⟨by rw [HM2.out]; rfl, rfl⟩
  case rest =>
  obtain ⟨rfl, rfl⟩ := hcut
  go_wp2_with fail
  refine (refWithin_any _ _ _ _).mono ?_
  rintro _ _ ⟨rfl, rfl⟩
  rw [show decide (1 ≤ x.group ∧ x.group ≤ 2) = chB x from rfl]
  go_upto_region 5 with fail
  go_cut [5] (fun s wx => s = .bool (dirB x) ∧ wc = wx)
  case first =>
    have hdd : dirB x = (decide (x.group = 0) && decide (x.epoch = 0) && decide (1 ≤ x.block ∧ x.block ≤ 2)) := rfl
    by_cases hg : x.group = 0
    · have hgb : (x.group == 0) = true := by simp [hg]
      by_cases he : x.epoch = 0
      · have heb : (x.epoch == 0) = true := by simp [he]
        rw [decide_eq_true hg, decide_eq_true he, Bool.true_and, Bool.true_and] at hdd
        have HDD := Lib.hid hdd
        clear hdd hg he
        go_wp2_with fail
        refine (refWithin_any _ _ _ _).mono ?_
        rintro _ _ ⟨rfl, rfl⟩
        generalize decide (1 ≤ x.block ∧ x.block ≤ 2) = q at HDD ⊢
        go_wp2_with fail
        go_meet
        exact ⟨by rw [HDD.out], rfl⟩
      · have heb : (x.epoch == 0) = false := by simp [he]
        rw [decide_eq_true hg, decide_eq_false he, Bool.true_and, Bool.false_and] at hdd
        have HDD := Lib.hid hdd
        clear hdd hg he
        go_wp2_with fail
        go_meet
        exact ⟨by rw [HDD.out], rfl⟩
    · have hgb : (x.group == 0) = false := by simp [hg]
      rw [decide_eq_false hg, Bool.false_and, Bool.false_and] at hdd
      have HDD := Lib.hid hdd
      clear hdd hg
      go_wp2_with fail
      go_meet
      exact ⟨by rw [HDD.out], rfl⟩
  case rest =>
  obtain ⟨rfl, rfl⟩ := hcut
  have HK1 := Lib.hid (fun h : x.kind = 1 => may_k1 h)
  have HK2 := Lib.hid (fun h : x.kind = 2 => may_k2 h)
  have HK3 := Lib.hid (fun h : x.kind = 3 => may_k3 h)
  have HK4 := Lib.hid (fun h : x.kind = 4 => may_k4 h)
  have HK5 := Lib.hid (fun h : x.kind = 5 => may_k5 h)
  have HKO := Lib.hid (fun h : ¬ x.kind = 1 ∧ ¬ x.kind = 2 ∧ ¬ x.kind = 3 ∧ ¬ x.kind = 4 ∧ ¬ x.kind = 5 => may_ko h)
  generalize may2 x = m2 at HK1 HK2 HK3 HK4 HK5 ⊢
  generalize chB x = ch at HK1 HK2 HK5 ⊢
  generalize dirB x = di at HK3 HK4 ⊢
  by_cases k1 : x.kind = 1
  · have hm := HK1.out k1
    rw [k1] at c4
    have HM := Lib.hid hm
    clear hm HK1 HK2 HK3 HK4 HK5 HKO
    cases m2 with
    | false =>
      go_wp2_with fail
      go_ret
      exact ⟨by rw [HRC.out, HM.out]; rfl, HB2.out⟩
    | true =>
      cases ch with
      | false =>
        go_wp2_with fail
        go_ret
        exact ⟨by rw [HRC.out, HM.out]; rfl, HB2.out⟩
      | true =>
        go_wp2_with fail
        refine (refWithin_any _ _ _ _).mono ?_
        rintro _ _ ⟨rfl, rfl⟩
        generalize hq : decide (0 ≤ x.block ∧ x.block ≤ 7) = q at HM ⊢
        clear hq
        cases q with
        | false =>
          go_wp2_with fail
          go_ret
          exact ⟨by rw [HRC.out, HM.out]; rfl, HB2.out⟩
        | true =>
          go_wp2_with fail
          go_ret
          exact ⟨by rw [HRC.out, HM.out]; rfl, HB2.out⟩
  · have k1b : (x.kind == 1) = false := by simp [k1]
    by_cases k2 : x.kind = 2
    · have hm := HK2.out k2
      rw [k2] at c4
      have HM := Lib.hid hm
      clear hm HK1 HK2 HK3 HK4 HK5 HKO
      cases m2 with
      | false =>
        go_wp2_with fail
        go_ret
        exact ⟨by rw [HRC.out, HM.out]; rfl, HB2.out⟩
      | true =>
        cases ch with
        | false =>
          go_wp2_with fail
          go_ret
          exact ⟨by rw [HRC.out, HM.out]; rfl, HB2.out⟩
        | true =>
          go_wp2_with fail
          refine (refWithin_any _ _ _ _).mono ?_
          rintro _ _ ⟨rfl, rfl⟩
          generalize hq : decide (0 ≤ x.block ∧ x.block ≤ 7) = q at HM ⊢
          clear hq
          cases q with
          | false =>
            go_wp2_with fail
            go_ret
            exact ⟨by rw [HRC.out, HM.out]; rfl, HB2.out⟩
          | true =>
            by_cases hl : x.data.length = 16
            · have hnb : ((n : Int) == 16) = true := by have := HDL.out; simp; omega
              rw [decide_eq_true hl] at HM
              clear hl
              go_wp2_with fail
              go_ret
              exact ⟨by rw [HRC.out, HM.out]; rfl, HB2.out⟩
            · have hnb : ((n : Int) == 16) = false := by have := HDL.out; simp; omega
              rw [decide_eq_false hl] at HM
              clear hl
              go_wp2_with fail
              go_ret
              exact ⟨by rw [HRC.out, HM.out]; rfl, HB2.out⟩
    · have k2b : (x.kind == 2) = false := by simp [k2]
      by_cases k3 : x.kind = 3
      · have hm := HK3.out k3
        rw [k3] at c4
        have HM := Lib.hid hm
        clear hm HK1 HK2 HK3 HK4 HK5 HKO
        cases m2 with
        | false =>
          go_wp2_with fail
          go_ret
          exact ⟨by rw [HRC.out, HM.out]; rfl, HB2.out⟩
        | true =>
          cases di with
          | false =>
            go_wp2_with fail
            go_ret
            exact ⟨by rw [HRC.out, HM.out]; rfl, HB2.out⟩
          | true =>
            go_wp2_with fail
            go_ret
            exact ⟨by rw [HRC.out, HM.out]; rfl, HB2.out⟩
      · have k3b : (x.kind == 3) = false := by simp [k3]
        by_cases k4 : x.kind = 4
        · have hm := HK4.out k4
          rw [k4] at c4
          have HM := Lib.hid hm
          clear hm HK1 HK2 HK3 HK4 HK5 HKO
          cases m2 with
          | false =>
            go_wp2_with fail
            go_ret
            exact ⟨by rw [HRC.out, HM.out]; rfl, HB2.out⟩
          | true =>
            cases di with
            | false =>
              go_wp2_with fail
              go_ret
              exact ⟨by rw [HRC.out, HM.out]; rfl, HB2.out⟩
            | true =>
              go_wp2_with fail
              refine (refWithin_any _ _ _ _).mono ?_
              rintro _ _ ⟨rfl, rfl⟩
              generalize hq : decide (1 ≤ x.old ∧ x.old ≤ 28) = q at HM ⊢
              clear hq
              cases q with
              | false =>
                go_wp2_with fail
                go_ret
                exact ⟨by rw [HRC.out, HM.out]; rfl, HB2.out⟩
              | true =>
                go_wp2_with fail
                refine (refWithin_any _ _ _ _).mono ?_
                rintro _ _ ⟨rfl, rfl⟩
                generalize hq : decide (1 ≤ x.new ∧ x.new ≤ 28) = q at HM ⊢
                clear hq
                cases q with
                | false =>
                  go_wp2_with fail
                  go_ret
                  exact ⟨by rw [HRC.out, HM.out]; rfl, HB2.out⟩
                | true =>
                  by_cases hl : x.old = x.new
                  · have hnb : (x.old != x.new) = false := by simp [hl]
                    rw [decide_eq_true hl] at HM
                    clear hl
                    go_wp2_with fail
                    go_ret
                    exact ⟨by rw [HRC.out, HM.out]; rfl, HB2.out⟩
                  · have hnb : (x.old != x.new) = true := by simp [hl]
                    rw [decide_eq_false hl] at HM
                    clear hl
                    go_wp2_with fail
                    go_ret
                    exact ⟨by rw [HRC.out, HM.out]; rfl, HB2.out⟩
        · have k4b : (x.kind == 4) = false := by simp [k4]
          by_cases k5 : x.kind = 5
          · have hm := HK5.out k5
            rw [k5] at c4
            have HM := Lib.hid hm
            clear hm HK1 HK2 HK3 HK4 HK5 HKO
            cases m2 with
            | false =>
              go_wp2_with fail
              go_ret
              exact ⟨by rw [HRC.out, HM.out]; rfl, HB2.out⟩
            | true =>
              cases ch with
              | false =>
                go_wp2_with fail
                go_ret
                exact ⟨by rw [HRC.out, HM.out]; rfl, HB2.out⟩
              | true =>
                go_wp2_with fail
                refine (HNX.out _ (Below.refl _ _)).mono ?_
                rintro _ w9 ⟨rfl, hb9⟩
                replace HB2 := Lib.hid (HB2.out.trans (hb9.mono HB2.out.size))
                clear hb9
                generalize hq : crewB x.next = q at HM ⊢
                clear hq
                cases q with
                | false =>
                  go_wp2_with fail
                  go_ret
                  exact ⟨by rw [HRC.out, HM.out]; rfl, HB2.out⟩
                | true =>
                  go_wp2_with fail
                  go_ret
                  exact ⟨by rw [HRC.out, HM.out]; rfl, HB2.out⟩
          · have k5b : (x.kind == 5) = false := by simp [k5]
            have hm := HKO.out ⟨k1, k2, k3, k4, k5⟩
            have HM := Lib.hid hm
            clear hm HK1 HK2 HK3 HK4 HK5 HKO k1 k2 k3 k4 k5
            go_wp2_with fail
            go_ret
            exact ⟨by rw [HRC.out, HM.out]; rfl, HB2.out⟩

end Go.Proofs.YtcmbmimmfgfefaaGreat
