/-
  Contracts of bastideref11.within and next.
-/
import Derived.Test.YtcmbmimmfgfefaaGreatWishVal
import Derived.Test.YtcmbmimmfgfefaaGreatCalm
namespace Go.Proofs.YtcmbmimmfgfefaaGreat
set_option linter.unusedVariables false
open Go.RowKit
attribute [local irreducible] wpCalm

theorem refWithin_any (n l m : Int) (w : World) : Calls Tryz.prog 52 #[.int .i64 n, .int .i64 l, .int .i64 m] w fun e w' => e = .returned (.bool (decide (l ≤ n ∧ n ≤ m))) ∧ w = w' := by
  by_cases h : l ≤ n
  · go_enter Tryz.func52, Tryz.ntmps52
    go_wp2
    go_ret
    exact ⟨ret_bool (by simp [h]), rfl⟩
  · have h' : ¬ (l ≤ n ∧ n ≤ m) := fun hh => h hh.1
    rw [decide_eq_false h']
    clear h'
    go_enter Tryz.func52, Tryz.ntmps52
    go_wp2
    go_ret
    exact ⟨rfl, rfl⟩

/-- rising, each a node's number -/
def nextGo : Option Int → List Int → Bool
  | _, [] => true
  | none, z :: t => decide (1 ≤ z ∧ z ≤ 28) && nextGo (some z) t
  | some y, z :: t => decide (1 ≤ z ∧ z ≤ 28) && !decide (z ≤ y) && nextGo (some z) t
theorem nextGo_rising : ∀ (l : List Int) (y : Int), 0 ≤ y → nextGo (some y) l = risingB y l
  | [], _, _ => rfl
  | z :: t, y, hy => by
    unfold nextGo risingB
    by_cases h : y < z ∧ z ≤ 28
    · rw [nextGo_rising t z (by omega), decide_eq_true h, decide_eq_true (by omega), decide_eq_false (by omega)]; rfl
    · rw [decide_eq_false h]
      by_cases h2 : z ≤ y
      · rw [decide_eq_true h2]; simp
      · rw [decide_eq_false (p := 1 ≤ z ∧ z ≤ 28) (by omega)]; rfl
theorem nextGo_none (l : List Int) : nextGo none l = risingB 0 l := by
  cases l with
  | nil => rfl
  | cons z t =>
    unfold nextGo risingB
    by_cases h : 1 ≤ z ∧ z ≤ 28
    · rw [decide_eq_true h, decide_eq_true (by omega), nextGo_rising t z (by omega)]
    · rw [decide_eq_false h, decide_eq_false (by omega)]; rfl
def lastOf (zs : List Int) (i : Nat) : Option Int := if i = 0 then none else zs[i - 1]?
theorem crew_len (n : Nat) (h : n ≤ 7) (h1 : n % 3 = 1) : n = 1 ∨ n = 4 ∨ n = 7 := by omega

set_option maxRecDepth 100000 in
set_option maxHeartbeats 4000000 in
theorem refNext_any (A : Option Addr) (n c : Nat) (zs : List Int) (w : World) (B : Nat) (h : Reads w B 1 A n (zs.map vn)) (hB : B ≤ w.heap.size) (hn : n ≤ 17592186044416) :
    Calls Tryz.prog 54 #[.slice A n c] w fun e w' => e = .returned (.bool (crewB zs)) ∧ Below w.heap.size w w' := by
  have hzn : zs.length = n := by have := h.1; simpa using this
  have H := Lib.hid h
  have HZN := Lib.hid hzn
  clear h hzn
  by_cases h1 : n = 1 ∨ n = 4 ∨ n = 7
  · have HR := Lib.hid (show crewB zs = nextGo none zs by unfold crewB; rw [decide_eq_true (by rw [HZN.out]; omega), Bool.true_and, nextGo_none])
    generalize crewB zs = cb at HR ⊢
    have hn7 : n ≤ 7 := by omega
    go_enter Tryz.func54, Tryz.ntmps54
    go_upto_region 1 with fail
    go_cut [16] (fun iv wr => iv = .bool false ∧ w = wr)
    case first =>
      rcases h1 with rfl | rfl | rfl
      all_goals
        go_wp2_with fail
        go_meet
        exact ⟨rfl, rfl⟩
    case rest =>
    obtain ⟨rfl, rfl⟩ := hcut
    clear h1
    go_wp2_with fail
    go_loopw [3] (fun iv wr => ∃ (i : Nat), i ≤ n ∧ iv = .int .i64 i ∧ Below w.heap.size w wr ∧ cb = nextGo (lastOf zs i) (zs.drop i)) (fun iv _ => n - (intOf iv).toNat)
    case atStart => exact ⟨0, by omega, rfl, Below.refl _ _, HR.out⟩
    case round =>
      obtain ⟨i, hi, rfl, hbel, hr⟩ := hrel
      have HB := Lib.hid hbel
      have hsz := hbel.size
      clear hbel
      by_cases hin : i < n
      · obtain ⟨ad, hA, hadb, hcell⟩ := H.out.2 (by omega)
        subst hA
        have hil : i < zs.length := by have := HZN.out; omega
        have hcz : ∀ W, Below wr.heap.size wr W → W.cell? (ad.add i) = some (.int .i64 zs[i]) := fun W hb =>
          ((HB.out.trans (hb.mono hsz)).cell (by rw [block_of_add]; omega)).trans (hcell i _ (by rw [List.getElem?_map, List.getElem?_eq_getElem hil]; rfl))
        rw [List.drop_eq_getElem_cons hil] at hr
        have hln : lastOf zs (i + 1) = some zs[i] := by unfold lastOf; rw [if_neg (by omega), show i + 1 - 1 = i by omega, List.getElem?_eq_getElem hil]
        generalize zs[i] = z at hr hcz hln
        have HC := Lib.hid hcz
        have HLN := Lib.hid hln
        clear hcz hln
        by_cases hz : 1 ≤ z ∧ z ≤ 28
        · by_cases h0 : i = 0
          · subst h0
            have hr' : cb = nextGo (lastOf zs 1) (zs.drop 1) := by
              rw [hr, HLN.out]
              show nextGo none (z :: zs.drop 1) = _
              conv => lhs; unfold nextGo
              rw [decide_eq_true hz, Bool.true_and]
            have HR' := Lib.hid hr'
            clear hr hr' hcell
            go_upto_region 6 with fail
            refine wp_region_calm0 21 45 (by kernel_rfl) (by kernel_rfl) (by kernel_rfl) (by simp) ?_
            simp only [List.take_succ_cons, List.take_zero, List.drop_succ_cons, List.drop_zero]
            refine wpCalm_value rfl rfl (.slice (some ad) n c) (fun W _ => rfl) ?_
            try simp only [Act.put, List.setIfInBounds_toArray, List.set_cons_zero, List.set_cons_succ]
            refine wpCalm_value rfl rfl (.int .i64 ((0 : Nat) : Int)) (fun W _ => rfl) ?_
            try simp only [Act.put, List.setIfInBounds_toArray, List.set_cons_zero, List.set_cons_succ]
            refine wpCalm_value rfl rfl (.pointer (some (ad.add 0))) (fun W _ => by go_simp) ?_
            try simp only [Act.put, List.setIfInBounds_toArray, List.set_cons_zero, List.set_cons_succ]
            refine wpCalm_below rfl rfl (.int .i64 z) (fun W hb => exec_load_one 3 (.tmp 25) rfl (ad.add 0) rfl (by kernel_rfl) _ (HC.out W hb)) ?_
            try simp only [Act.put, List.setIfInBounds_toArray, List.set_cons_zero, List.set_cons_succ]
            refine wpCalm_call rfl rfl 52 #[.int .i64 z, .int .i64 1, .int .i64 28] (fun W => by go_simp) (.bool (decide (1 ≤ z ∧ z ≤ 28))) (fun W hb => (refWithin_any z 1 28 W).mono fun e w' ⟨h1, h2⟩ => ⟨h1, h2 ▸ Below.refl _ _⟩) ?_
            try simp only [Act.put, List.setIfInBounds_toArray, List.set_cons_zero, List.set_cons_succ]
            rw [decide_eq_true hz]
            refine wpCalm_value rfl rfl (.bool false) (fun W _ => by go_simp) ?_
            try simp only [Act.put, List.setIfInBounds_toArray, List.set_cons_zero, List.set_cons_succ]
            refine wpCalm_value rfl rfl (.bool false) (fun W _ => rfl) ?_
            try simp only [Act.put, List.setIfInBounds_toArray, List.set_cons_zero, List.set_cons_succ]
            refine wpCalm_value rfl rfl (.int .i64 ((0 : Nat) : Int)) (fun W _ => rfl) ?_
            try simp only [Act.put, List.setIfInBounds_toArray, List.set_cons_zero, List.set_cons_succ]
            refine wpCalm_value rfl rfl (.bool false) (fun W _ => by go_simp) ?_
            try simp only [Act.put, List.setIfInBounds_toArray, List.set_cons_zero, List.set_cons_succ]
            refine wpCalm_value rfl rfl (.bool false) (fun W _ => rfl) ?_
            try simp only [Act.put, List.setIfInBounds_toArray, List.set_cons_zero, List.set_cons_succ]
            refine wpCalm_skip rfl rfl ?_
            try simp only [Act.put, List.setIfInBounds_toArray, List.set_cons_zero, List.set_cons_succ]
            refine wpCalm_skip rfl rfl ?_
            try simp only [Act.put, List.setIfInBounds_toArray, List.set_cons_zero, List.set_cons_succ]
            refine wpCalm_skip rfl rfl ?_
            try simp only [Act.put, List.setIfInBounds_toArray, List.set_cons_zero, List.set_cons_succ]
            refine wpCalm_skip rfl rfl ?_
            try simp only [Act.put, List.setIfInBounds_toArray, List.set_cons_zero, List.set_cons_succ]
            refine wpCalm_skip rfl rfl ?_
            try simp only [Act.put, List.setIfInBounds_toArray, List.set_cons_zero, List.set_cons_succ]
            refine wpCalm_skip rfl rfl ?_
            try simp only [Act.put, List.setIfInBounds_toArray, List.set_cons_zero, List.set_cons_succ]
            refine wpCalm_skip rfl rfl ?_
            try simp only [Act.put, List.setIfInBounds_toArray, List.set_cons_zero, List.set_cons_succ]
            refine wpCalm_skip rfl rfl ?_
            try simp only [Act.put, List.setIfInBounds_toArray, List.set_cons_zero, List.set_cons_succ]
            refine wpCalm_skip rfl rfl ?_
            try simp only [Act.put, List.setIfInBounds_toArray, List.set_cons_zero, List.set_cons_succ]
            refine wpCalm_skip rfl rfl ?_
            try simp only [Act.put, List.setIfInBounds_toArray, List.set_cons_zero, List.set_cons_succ]
            refine wpCalm_value rfl rfl (.bool false) (fun W _ => by go_simp) ?_
            try simp only [Act.put, List.setIfInBounds_toArray, List.set_cons_zero, List.set_cons_succ]
            refine wpCalm_nil ?_
            intro w2 hb2
            have HB2 := Lib.hid (HB.out.trans (hb2.mono hsz))
            clear hb2
            go_wp2_with fail
            go_roundw
            case rel => exact ⟨1, by omega, by go_num, HB2.out, HR'.out⟩
            case measure => simp [intOf]; omega
          · have hpl : i - 1 < zs.length := by omega
            have hcy : ∀ W, Below wr.heap.size wr W → W.cell? (ad.add (i - 1)) = some (.int .i64 zs[i - 1]) := fun W hb =>
              ((HB.out.trans (hb.mono hsz)).cell (by rw [block_of_add]; omega)).trans (hcell (i - 1) _ (by rw [List.getElem?_map, List.getElem?_eq_getElem hpl]; rfl))
            have hl0 : lastOf zs i = some zs[i - 1] := by unfold lastOf; rw [if_neg h0, List.getElem?_eq_getElem hpl]
            rw [hl0] at hr
            clear hl0 hcell
            generalize zs[i - 1] = y at hr hcy
            have HP := Lib.hid hcy
            have htn : ((i : Int) - 1).toNat = i - 1 := by omega
            have hi1 : (1 : Int) ≤ (i : Int) := by omega
            have hi3 : ¬ (n : Int) ≤ (i : Int) - 1 := by omega
            have hpos : 0 < i := by omega
            have hi2 : IntKind.i64.wrap ((i : Int) - 1) = (i : Int) - 1 := IntWalk.i64_in _ (by omega)
            clear hcy
            by_cases hzy : z ≤ y
            · have hr' : cb = false := by
                rw [hr]
                unfold nextGo
                rw [decide_eq_true hz, decide_eq_true hzy]; rfl
              subst hr'
              clear hr
              go_upto_region 6 with fail
              refine wp_region_calm0 21 45 (by kernel_rfl) (by kernel_rfl) (by kernel_rfl) (by simp) ?_
              simp only [List.take_succ_cons, List.take_zero, List.drop_succ_cons, List.drop_zero]
              refine wpCalm_value rfl rfl (.slice (some ad) n c) (fun W _ => rfl) ?_
              try simp only [Act.put, List.setIfInBounds_toArray, List.set_cons_zero, List.set_cons_succ]
              refine wpCalm_value rfl rfl (.int .i64 (i : Int)) (fun W _ => rfl) ?_
              try simp only [Act.put, List.setIfInBounds_toArray, List.set_cons_zero, List.set_cons_succ]
              refine wpCalm_value rfl rfl (.pointer (some (ad.add i))) (fun W _ => by go_simp) ?_
              try simp only [Act.put, List.setIfInBounds_toArray, List.set_cons_zero, List.set_cons_succ]
              refine wpCalm_below rfl rfl (.int .i64 z) (fun W hb => exec_load_one 3 (.tmp 25) rfl (ad.add i) rfl (by kernel_rfl) _ (HC.out W hb)) ?_
              try simp only [Act.put, List.setIfInBounds_toArray, List.set_cons_zero, List.set_cons_succ]
              refine wpCalm_call rfl rfl 52 #[.int .i64 z, .int .i64 1, .int .i64 28] (fun W => by go_simp) (.bool (decide (1 ≤ z ∧ z ≤ 28))) (fun W hb => (refWithin_any z 1 28 W).mono fun e w' ⟨h1, h2⟩ => ⟨h1, h2 ▸ Below.refl _ _⟩) ?_
              try simp only [Act.put, List.setIfInBounds_toArray, List.set_cons_zero, List.set_cons_succ]
              rw [decide_eq_true hz]
              refine wpCalm_value rfl rfl (.bool false) (fun W _ => by go_simp) ?_
              try simp only [Act.put, List.setIfInBounds_toArray, List.set_cons_zero, List.set_cons_succ]
              refine wpCalm_value rfl rfl (.bool false) (fun W _ => rfl) ?_
              try simp only [Act.put, List.setIfInBounds_toArray, List.set_cons_zero, List.set_cons_succ]
              refine wpCalm_value rfl rfl (.int .i64 (i : Int)) (fun W _ => rfl) ?_
              try simp only [Act.put, List.setIfInBounds_toArray, List.set_cons_zero, List.set_cons_succ]
              refine wpCalm_value rfl rfl (.bool true) (fun W _ => by go_simp) ?_
              try simp only [Act.put, List.setIfInBounds_toArray, List.set_cons_zero, List.set_cons_succ]
              refine wpCalm_value rfl rfl (.bool true) (fun W _ => rfl) ?_
              try simp only [Act.put, List.setIfInBounds_toArray, List.set_cons_zero, List.set_cons_succ]
              refine wpCalm_value rfl rfl (.slice (some ad) n c) (fun W _ => rfl) ?_
              try simp only [Act.put, List.setIfInBounds_toArray, List.set_cons_zero, List.set_cons_succ]
              refine wpCalm_value rfl rfl (.int .i64 (i : Int)) (fun W _ => rfl) ?_
              try simp only [Act.put, List.setIfInBounds_toArray, List.set_cons_zero, List.set_cons_succ]
              refine wpCalm_value rfl rfl (.pointer (some (ad.add i))) (fun W _ => by go_simp) ?_
              try simp only [Act.put, List.setIfInBounds_toArray, List.set_cons_zero, List.set_cons_succ]
              refine wpCalm_below rfl rfl (.int .i64 z) (fun W hb => exec_load_one 3 (.tmp 35) rfl (ad.add i) rfl (by kernel_rfl) _ (HC.out W hb)) ?_
              try simp only [Act.put, List.setIfInBounds_toArray, List.set_cons_zero, List.set_cons_succ]
              refine wpCalm_value rfl rfl (.slice (some ad) n c) (fun W _ => rfl) ?_
              try simp only [Act.put, List.setIfInBounds_toArray, List.set_cons_zero, List.set_cons_succ]
              refine wpCalm_value rfl rfl (.int .i64 (i : Int)) (fun W _ => rfl) ?_
              try simp only [Act.put, List.setIfInBounds_toArray, List.set_cons_zero, List.set_cons_succ]
              refine wpCalm_value rfl rfl (.int .i64 ((i : Int) - 1)) (fun W _ => by go_simp) ?_
              try simp only [Act.put, List.setIfInBounds_toArray, List.set_cons_zero, List.set_cons_succ]
              refine wpCalm_value rfl rfl (.pointer (some (ad.add (i - 1)))) (fun W _ => by go_simp) ?_
              try simp only [Act.put, List.setIfInBounds_toArray, List.set_cons_zero, List.set_cons_succ]
              refine wpCalm_below rfl rfl (.int .i64 y) (fun W hb => exec_load_one 3 (.tmp 40) rfl (ad.add (i - 1)) rfl (by kernel_rfl) _ (HP.out W hb)) ?_
              try simp only [Act.put, List.setIfInBounds_toArray, List.set_cons_zero, List.set_cons_succ]
              refine wpCalm_value rfl rfl (.bool (decide (z ≤ y))) (fun W _ => by go_simp) ?_
              try simp only [Act.put, List.setIfInBounds_toArray, List.set_cons_zero, List.set_cons_succ]
              refine wpCalm_value rfl rfl (.bool (decide (z ≤ y))) (fun W _ => by go_simp) ?_
              try simp only [Act.put, List.setIfInBounds_toArray, List.set_cons_zero, List.set_cons_succ]
              refine wpCalm_nil ?_
              intro w2 hb2
              have HB2 := Lib.hid (HB.out.trans (hb2.mono hsz))
              clear hb2 htn hi1 hi2 hi3
              go_wp2_with fail
              go_ret
              exact ⟨rfl, HB2.out⟩
            · have hr' : cb = nextGo (lastOf zs (i + 1)) (zs.drop (i + 1)) := by
                rw [hr, HLN.out]
                conv => lhs; unfold nextGo
                rw [decide_eq_true hz, decide_eq_false hzy]; rfl
              have HR' := Lib.hid hr'
              clear hr hr'
              go_upto_region 6 with fail
              refine wp_region_calm0 21 45 (by kernel_rfl) (by kernel_rfl) (by kernel_rfl) (by simp) ?_
              simp only [List.take_succ_cons, List.take_zero, List.drop_succ_cons, List.drop_zero]
              refine wpCalm_value rfl rfl (.slice (some ad) n c) (fun W _ => rfl) ?_
              try simp only [Act.put, List.setIfInBounds_toArray, List.set_cons_zero, List.set_cons_succ]
              refine wpCalm_value rfl rfl (.int .i64 (i : Int)) (fun W _ => rfl) ?_
              try simp only [Act.put, List.setIfInBounds_toArray, List.set_cons_zero, List.set_cons_succ]
              refine wpCalm_value rfl rfl (.pointer (some (ad.add i))) (fun W _ => by go_simp) ?_
              try simp only [Act.put, List.setIfInBounds_toArray, List.set_cons_zero, List.set_cons_succ]
              refine wpCalm_below rfl rfl (.int .i64 z) (fun W hb => exec_load_one 3 (.tmp 25) rfl (ad.add i) rfl (by kernel_rfl) _ (HC.out W hb)) ?_
              try simp only [Act.put, List.setIfInBounds_toArray, List.set_cons_zero, List.set_cons_succ]
              refine wpCalm_call rfl rfl 52 #[.int .i64 z, .int .i64 1, .int .i64 28] (fun W => by go_simp) (.bool (decide (1 ≤ z ∧ z ≤ 28))) (fun W hb => (refWithin_any z 1 28 W).mono fun e w' ⟨h1, h2⟩ => ⟨h1, h2 ▸ Below.refl _ _⟩) ?_
              try simp only [Act.put, List.setIfInBounds_toArray, List.set_cons_zero, List.set_cons_succ]
              rw [decide_eq_true hz]
              refine wpCalm_value rfl rfl (.bool false) (fun W _ => by go_simp) ?_
              try simp only [Act.put, List.setIfInBounds_toArray, List.set_cons_zero, List.set_cons_succ]
              refine wpCalm_value rfl rfl (.bool false) (fun W _ => rfl) ?_
              try simp only [Act.put, List.setIfInBounds_toArray, List.set_cons_zero, List.set_cons_succ]
              refine wpCalm_value rfl rfl (.int .i64 (i : Int)) (fun W _ => rfl) ?_
              try simp only [Act.put, List.setIfInBounds_toArray, List.set_cons_zero, List.set_cons_succ]
              refine wpCalm_value rfl rfl (.bool true) (fun W _ => by go_simp) ?_
              try simp only [Act.put, List.setIfInBounds_toArray, List.set_cons_zero, List.set_cons_succ]
              refine wpCalm_value rfl rfl (.bool true) (fun W _ => rfl) ?_
              try simp only [Act.put, List.setIfInBounds_toArray, List.set_cons_zero, List.set_cons_succ]
              refine wpCalm_value rfl rfl (.slice (some ad) n c) (fun W _ => rfl) ?_
              try simp only [Act.put, List.setIfInBounds_toArray, List.set_cons_zero, List.set_cons_succ]
              refine wpCalm_value rfl rfl (.int .i64 (i : Int)) (fun W _ => rfl) ?_
              try simp only [Act.put, List.setIfInBounds_toArray, List.set_cons_zero, List.set_cons_succ]
              refine wpCalm_value rfl rfl (.pointer (some (ad.add i))) (fun W _ => by go_simp) ?_
              try simp only [Act.put, List.setIfInBounds_toArray, List.set_cons_zero, List.set_cons_succ]
              refine wpCalm_below rfl rfl (.int .i64 z) (fun W hb => exec_load_one 3 (.tmp 35) rfl (ad.add i) rfl (by kernel_rfl) _ (HC.out W hb)) ?_
              try simp only [Act.put, List.setIfInBounds_toArray, List.set_cons_zero, List.set_cons_succ]
              refine wpCalm_value rfl rfl (.slice (some ad) n c) (fun W _ => rfl) ?_
              try simp only [Act.put, List.setIfInBounds_toArray, List.set_cons_zero, List.set_cons_succ]
              refine wpCalm_value rfl rfl (.int .i64 (i : Int)) (fun W _ => rfl) ?_
              try simp only [Act.put, List.setIfInBounds_toArray, List.set_cons_zero, List.set_cons_succ]
              refine wpCalm_value rfl rfl (.int .i64 ((i : Int) - 1)) (fun W _ => by go_simp) ?_
              try simp only [Act.put, List.setIfInBounds_toArray, List.set_cons_zero, List.set_cons_succ]
              refine wpCalm_value rfl rfl (.pointer (some (ad.add (i - 1)))) (fun W _ => by go_simp) ?_
              try simp only [Act.put, List.setIfInBounds_toArray, List.set_cons_zero, List.set_cons_succ]
              refine wpCalm_below rfl rfl (.int .i64 y) (fun W hb => exec_load_one 3 (.tmp 40) rfl (ad.add (i - 1)) rfl (by kernel_rfl) _ (HP.out W hb)) ?_
              try simp only [Act.put, List.setIfInBounds_toArray, List.set_cons_zero, List.set_cons_succ]
              refine wpCalm_value rfl rfl (.bool (decide (z ≤ y))) (fun W _ => by go_simp) ?_
              try simp only [Act.put, List.setIfInBounds_toArray, List.set_cons_zero, List.set_cons_succ]
              refine wpCalm_value rfl rfl (.bool (decide (z ≤ y))) (fun W _ => by go_simp) ?_
              try simp only [Act.put, List.setIfInBounds_toArray, List.set_cons_zero, List.set_cons_succ]
              refine wpCalm_nil ?_
              intro w2 hb2
              have HB2 := Lib.hid (HB.out.trans (hb2.mono hsz))
              clear hb2 htn hi1 hi2 hi3
              go_wp2_with fail
              go_roundw
              case rel => exact ⟨i + 1, by omega, by go_num, HB2.out, HR'.out⟩
              case measure => simp [intOf]; omega
        · have hr' : cb = false := by
            rw [hr]
            cases lastOf zs i with
            | none => unfold nextGo; rw [decide_eq_false hz]; rfl
            | some y => unfold nextGo; rw [decide_eq_false hz]; rfl
          subst hr'
          clear hr hcell
          go_upto_region 6 with fail
          refine wp_region_calm0 21 45 (by kernel_rfl) (by kernel_rfl) (by kernel_rfl) (by simp) ?_
          simp only [List.take_succ_cons, List.take_zero, List.drop_succ_cons, List.drop_zero]
          refine wpCalm_value rfl rfl (.slice (some ad) n c) (fun W _ => rfl) ?_
          try simp only [Act.put, List.setIfInBounds_toArray, List.set_cons_zero, List.set_cons_succ]
          refine wpCalm_value rfl rfl (.int .i64 (i : Int)) (fun W _ => rfl) ?_
          try simp only [Act.put, List.setIfInBounds_toArray, List.set_cons_zero, List.set_cons_succ]
          refine wpCalm_value rfl rfl (.pointer (some (ad.add i))) (fun W _ => by go_simp) ?_
          try simp only [Act.put, List.setIfInBounds_toArray, List.set_cons_zero, List.set_cons_succ]
          refine wpCalm_below rfl rfl (.int .i64 z) (fun W hb => exec_load_one 3 (.tmp 25) rfl (ad.add i) rfl (by kernel_rfl) _ (HC.out W hb)) ?_
          try simp only [Act.put, List.setIfInBounds_toArray, List.set_cons_zero, List.set_cons_succ]
          refine wpCalm_call rfl rfl 52 #[.int .i64 z, .int .i64 1, .int .i64 28] (fun W => by go_simp) (.bool (decide (1 ≤ z ∧ z ≤ 28))) (fun W hb => (refWithin_any z 1 28 W).mono fun e w' ⟨h1, h2⟩ => ⟨h1, h2 ▸ Below.refl _ _⟩) ?_
          try simp only [Act.put, List.setIfInBounds_toArray, List.set_cons_zero, List.set_cons_succ]
          rw [decide_eq_false hz]
          refine wpCalm_value rfl rfl (.bool true) (fun W _ => by go_simp) ?_
          try simp only [Act.put, List.setIfInBounds_toArray, List.set_cons_zero, List.set_cons_succ]
          refine wpCalm_value rfl rfl (.bool true) (fun W _ => rfl) ?_
          try simp only [Act.put, List.setIfInBounds_toArray, List.set_cons_zero, List.set_cons_succ]
          refine wpCalm_skip rfl rfl ?_
          try simp only [Act.put, List.setIfInBounds_toArray, List.set_cons_zero, List.set_cons_succ]
          refine wpCalm_skip rfl rfl ?_
          try simp only [Act.put, List.setIfInBounds_toArray, List.set_cons_zero, List.set_cons_succ]
          refine wpCalm_skip rfl rfl ?_
          try simp only [Act.put, List.setIfInBounds_toArray, List.set_cons_zero, List.set_cons_succ]
          refine wpCalm_skip rfl rfl ?_
          try simp only [Act.put, List.setIfInBounds_toArray, List.set_cons_zero, List.set_cons_succ]
          refine wpCalm_skip rfl rfl ?_
          try simp only [Act.put, List.setIfInBounds_toArray, List.set_cons_zero, List.set_cons_succ]
          refine wpCalm_skip rfl rfl ?_
          try simp only [Act.put, List.setIfInBounds_toArray, List.set_cons_zero, List.set_cons_succ]
          refine wpCalm_skip rfl rfl ?_
          try simp only [Act.put, List.setIfInBounds_toArray, List.set_cons_zero, List.set_cons_succ]
          refine wpCalm_skip rfl rfl ?_
          try simp only [Act.put, List.setIfInBounds_toArray, List.set_cons_zero, List.set_cons_succ]
          refine wpCalm_skip rfl rfl ?_
          try simp only [Act.put, List.setIfInBounds_toArray, List.set_cons_zero, List.set_cons_succ]
          refine wpCalm_skip rfl rfl ?_
          try simp only [Act.put, List.setIfInBounds_toArray, List.set_cons_zero, List.set_cons_succ]
          refine wpCalm_skip rfl rfl ?_
          try simp only [Act.put, List.setIfInBounds_toArray, List.set_cons_zero, List.set_cons_succ]
          refine wpCalm_skip rfl rfl ?_
          try simp only [Act.put, List.setIfInBounds_toArray, List.set_cons_zero, List.set_cons_succ]
          refine wpCalm_skip rfl rfl ?_
          try simp only [Act.put, List.setIfInBounds_toArray, List.set_cons_zero, List.set_cons_succ]
          refine wpCalm_skip rfl rfl ?_
          try simp only [Act.put, List.setIfInBounds_toArray, List.set_cons_zero, List.set_cons_succ]
          refine wpCalm_nil ?_
          intro w2 hb2
          have HB2 := Lib.hid (HB.out.trans (hb2.mono hsz))
          clear hb2
          go_wp2_with fail
          go_ret
          exact ⟨rfl, HB2.out⟩
      · obtain rfl : i = n := by omega
        have hr' : cb = true := by
          rw [hr, List.drop_of_length_le (by have := HZN.out; omega)]
          cases lastOf zs i <;> rfl
        subst hr'
        clear hr
        go_wp2_with fail
        go_ret
        exact ⟨rfl, HB.out⟩
  · have hc : crewB zs = false := by
      unfold crewB
      rw [HZN.out, decide_eq_false (by omega), Bool.false_and]
    rw [hc]
    clear hc
    have a1 : ((n : Int) != 1) = true := by simp; omega
    have a4 : ((n : Int) != 4) = true := by simp; omega
    have a7 : ((n : Int) != 7) = true := by simp; omega
    clear h1
    go_enter Tryz.func54, Tryz.ntmps54
    go_wp2_with fail
    go_ret
    exact ⟨rfl, Below.refl _ _⟩

end Go.Proofs.YtcmbmimmfgfefaaGreat
