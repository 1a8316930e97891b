/- Parts of the proof, in one text: RefNext, RefMay, RefCheck. -/
import Derived.Test.YtcpngeiahgoacaaGreatZ7
import Derived.Test.YtcpngeiahgoacaaGreatZ5
import Derived.Test.YtcpngeiahgoacaaGreatZ24

/- Contracts of bastideref11.within and next. -/
namespace Go.Proofs.YtcpngeiahgoacaaGreat
set_option linter.unusedVariables false
open Go.RowKit
attribute [local irreducible] wpCalm

theorem refWithin_any (n l m : Int) (w : World) : Calls Tryz.prog 118 #[.int .i64 n, .int .i64 l, .int .i64 m] w fun e w' => e = .returned (.bool (decide (l ≤ n ∧ n ≤ m))) ∧ w = w' := by
  by_cases h : l ≤ n
  · go_enter Tryz.func118, Tryz.ntmps118
    go_wp2
    go_ret
    exact ⟨ret_bool (by simp [h]), rfl⟩
  · have h' : ¬ (l ≤ n ∧ n ≤ m) := fun hh => h hh.1
    rw [decide_eq_false h']
    clear h'
    go_enter Tryz.func118, Tryz.ntmps118
    go_wp2
    go_ret
    exact ⟨rfl, rfl⟩

/-- rising, each a node's number -/
def nextGo : Option Int → List Int → Bool
  | _, [] => true
  | none, z :: t => decide (1 ≤ z ∧ z ≤ 28) && nextGo (some z) t
  | some y, z :: t => decide (1 ≤ z ∧ z ≤ 28) && !decide (z ≤ y) && nextGo (some z) t
theorem nextGo_rising : ∀ (l : List Int) (y : Int), 0 ≤ y → nextGo (some y) l = risingB y l
  | [], _, _ => rfl
  | z :: t, y, hy => by
    unfold nextGo risingB
    by_cases h : y < z ∧ z ≤ 28
    · rw [nextGo_rising t z (by omega), decide_eq_true h, decide_eq_true (by omega), decide_eq_false (by omega)]; rfl
    · rw [decide_eq_false h]
      by_cases h2 : z ≤ y
      · rw [decide_eq_true h2]; simp
      · rw [decide_eq_false (p := 1 ≤ z ∧ z ≤ 28) (by omega)]; rfl
theorem nextGo_none (l : List Int) : nextGo none l = risingB 0 l := by
  cases l with
  | nil => rfl
  | cons z t =>
    unfold nextGo risingB
    by_cases h : 1 ≤ z ∧ z ≤ 28
    · rw [decide_eq_true h, decide_eq_true (by omega), nextGo_rising t z (by omega)]
    · rw [decide_eq_false h, decide_eq_false (by omega)]; rfl
def lastOf (zs : List Int) (i : Nat) : Option Int := if i = 0 then none else zs[i - 1]?
set_option maxRecDepth 100000 in
set_option maxHeartbeats 4000000 in
theorem refNext_any (A : Option Addr) (n c : Nat) (zs : List Int) (w : World) (B : Nat) (h : Reads w B 1 A n (zs.map vn)) (hB : B ≤ w.heap.size) (hn : n ≤ 17592186044416) :
    Calls Tryz.prog 120 #[.slice A n c] w fun e w' => e = .returned (.bool (crewB zs)) ∧ Below w.heap.size w w' := by
  have hzn : zs.length = n := by have := h.1; simpa using this
  have H := Lib.hid h
  have HZN := Lib.hid hzn
  clear h hzn
  by_cases h1 : n = 1 ∨ n = 4 ∨ n = 7
  · have HR := Lib.hid (show crewB zs = nextGo none zs by unfold crewB; rw [decide_eq_true (by rw [HZN.out]; omega), Bool.true_and, nextGo_none])
    generalize crewB zs = cb at HR ⊢
    have hn7 : n ≤ 7 := by omega
    go_enter Tryz.func120, Tryz.ntmps120
    go_upto_region 1 with fail
    go_cut [16] (fun iv wr => iv = .bool false ∧ w = wr)
    case first =>
      rcases h1 with rfl | rfl | rfl
      all_goals
        go_wp2_with fail
        go_meet
        exact ⟨rfl, rfl⟩
    case rest =>
    obtain ⟨rfl, rfl⟩ := hcut
    clear h1
    go_wp2_with fail
    go_loopw [3] (fun iv wr => ∃ (i : Nat), i ≤ n ∧ iv = .int .i64 i ∧ Below w.heap.size w wr ∧ cb = nextGo (lastOf zs i) (zs.drop i)) (fun iv _ => n - (intOf iv).toNat)
    case atStart => exact ⟨0, by omega, rfl, Below.refl _ _, HR.out⟩
    case round =>
      obtain ⟨i, hi, rfl, hbel, hr⟩ := hrel
      have HB := Lib.hid hbel
      have hsz := hbel.size
      clear hbel
      by_cases hin : i < n
      · obtain ⟨ad, hA, hadb, hcell⟩ := H.out.2 (by omega)
        subst hA
        have hil : i < zs.length := by have := HZN.out; omega
        have hcz : ∀ W, Below wr.heap.size wr W → W.cell? (ad.add i) = some (.int .i64 zs[i]) := fun W hb =>
          ((HB.out.trans (hb.mono hsz)).cell (by rw [block_of_add]; omega)).trans (hcell i _ (by rw [List.getElem?_map, List.getElem?_eq_getElem hil]; rfl))
        rw [List.drop_eq_getElem_cons hil] at hr
        have hln : lastOf zs (i + 1) = some zs[i] := by unfold lastOf; rw [if_neg (by omega), show i + 1 - 1 = i by omega, List.getElem?_eq_getElem hil]
        generalize zs[i] = z at hr hcz hln
        have HC := Lib.hid hcz
        have HLN := Lib.hid hln
        clear hcz hln
        by_cases hz : 1 ≤ z ∧ z ≤ 28
        · by_cases h0 : i = 0
          · subst h0
            have hr' : cb = nextGo (lastOf zs 1) (zs.drop 1) := by
              rw [hr, HLN.out]
              show nextGo none (z :: zs.drop 1) = _
              conv => lhs; unfold nextGo
              rw [decide_eq_true hz, Bool.true_and]
            have HR' := Lib.hid hr'
            clear hr hr' hcell
            go_upto_region 6 with fail
            refine wp_region_calm0 21 45 (by kernel_rfl) (by kernel_rfl) (by kernel_rfl) (by simp) ?_
            simp only [List.take_succ_cons, List.take_zero, List.drop_succ_cons, List.drop_zero]
            refine wpCalm_value rfl rfl (.slice (some ad) n c) (fun W _ => rfl) ?_
            try simp only [Act.put, List.setIfInBounds_toArray, List.set_cons_zero, List.set_cons_succ]
            refine wpCalm_value rfl rfl (.int .i64 ((0 : Nat) : Int)) (fun W _ => rfl) ?_
            try simp only [Act.put, List.setIfInBounds_toArray, List.set_cons_zero, List.set_cons_succ]
            refine wpCalm_value rfl rfl (.pointer (some (ad.add 0))) (fun W _ => by go_simp) ?_
            try simp only [Act.put, List.setIfInBounds_toArray, List.set_cons_zero, List.set_cons_succ]
            refine wpCalm_below rfl rfl (.int .i64 z) (fun W hb => exec_load_one 3 (.tmp 25) rfl (ad.add 0) rfl (by kernel_rfl) _ (HC.out W hb)) ?_
            try simp only [Act.put, List.setIfInBounds_toArray, List.set_cons_zero, List.set_cons_succ]
            refine wpCalm_call rfl rfl 118 #[.int .i64 z, .int .i64 1, .int .i64 28] (fun W => by go_simp) (.bool (decide (1 ≤ z ∧ z ≤ 28))) (fun W hb => (refWithin_any z 1 28 W).mono fun e w' ⟨h1, h2⟩ => ⟨h1, h2 ▸ Below.refl _ _⟩) ?_
            try simp only [Act.put, List.setIfInBounds_toArray, List.set_cons_zero, List.set_cons_succ]
            rw [decide_eq_true hz]
            refine wpCalm_value rfl rfl (.bool false) (fun W _ => by go_simp) ?_
            try simp only [Act.put, List.setIfInBounds_toArray, List.set_cons_zero, List.set_cons_succ]
            refine wpCalm_value rfl rfl (.bool false) (fun W _ => rfl) ?_
            try simp only [Act.put, List.setIfInBounds_toArray, List.set_cons_zero, List.set_cons_succ]
            refine wpCalm_value rfl rfl (.int .i64 ((0 : Nat) : Int)) (fun W _ => rfl) ?_
            try simp only [Act.put, List.setIfInBounds_toArray, List.set_cons_zero, List.set_cons_succ]
            refine wpCalm_value rfl rfl (.bool false) (fun W _ => by go_simp) ?_
            try simp only [Act.put, List.setIfInBounds_toArray, List.set_cons_zero, List.set_cons_succ]
            refine wpCalm_value rfl rfl (.bool false) (fun W _ => rfl) ?_
            try simp only [Act.put, List.setIfInBounds_toArray, List.set_cons_zero, List.set_cons_succ]
            refine wpCalm_skip rfl rfl ?_
            try simp only [Act.put, List.setIfInBounds_toArray, List.set_cons_zero, List.set_cons_succ]
            refine wpCalm_skip rfl rfl ?_
            try simp only [Act.put, List.setIfInBounds_toArray, List.set_cons_zero, List.set_cons_succ]
            refine wpCalm_skip rfl rfl ?_
            try simp only [Act.put, List.setIfInBounds_toArray, List.set_cons_zero, List.set_cons_succ]
            refine wpCalm_skip rfl rfl ?_
            try simp only [Act.put, List.setIfInBounds_toArray, List.set_cons_zero, List.set_cons_succ]
            refine wpCalm_skip rfl rfl ?_
            try simp only [Act.put, List.setIfInBounds_toArray, List.set_cons_zero, List.set_cons_succ]
            refine wpCalm_skip rfl rfl ?_
            try simp only [Act.put, List.setIfInBounds_toArray, List.set_cons_zero, List.set_cons_succ]
            refine wpCalm_skip rfl rfl ?_
            try simp only [Act.put, List.setIfInBounds_toArray, List.set_cons_zero, List.set_cons_succ]
            refine wpCalm_skip rfl rfl ?_
            try simp only [Act.put, List.setIfInBounds_toArray, List.set_cons_zero, List.set_cons_succ]
            refine wpCalm_skip rfl rfl ?_
            try simp only [Act.put, List.setIfInBounds_toArray, List.set_cons_zero, List.set_cons_succ]
            refine wpCalm_skip rfl rfl ?_
            try simp only [Act.put, List.setIfInBounds_toArray, List.set_cons_zero, List.set_cons_succ]
            refine wpCalm_value rfl rfl (.bool false) (fun W _ => by go_simp) ?_
            try simp only [Act.put, List.setIfInBounds_toArray, List.set_cons_zero, List.set_cons_succ]
            refine wpCalm_nil ?_
            intro w2 hb2
            have HB2 := Lib.hid (HB.out.trans (hb2.mono hsz))
            clear hb2
            go_wp2_with fail
            go_roundw
            case rel => exact ⟨1, by omega, by go_num, HB2.out, HR'.out⟩
            case measure => simp [intOf]; omega
          · have hpl : i - 1 < zs.length := by omega
            have hcy : ∀ W, Below wr.heap.size wr W → W.cell? (ad.add (i - 1)) = some (.int .i64 zs[i - 1]) := fun W hb =>
              ((HB.out.trans (hb.mono hsz)).cell (by rw [block_of_add]; omega)).trans (hcell (i - 1) _ (by rw [List.getElem?_map, List.getElem?_eq_getElem hpl]; rfl))
            have hl0 : lastOf zs i = some zs[i - 1] := by unfold lastOf; rw [if_neg h0, List.getElem?_eq_getElem hpl]
            rw [hl0] at hr
            clear hl0 hcell
            generalize zs[i - 1] = y at hr hcy
            have HP := Lib.hid hcy
            have htn : ((i : Int) - 1).toNat = i - 1 := by omega
            have hi1 : (1 : Int) ≤ (i : Int) := by omega
            have hi3 : ¬ (n : Int) ≤ (i : Int) - 1 := by omega
            have hpos : 0 < i := by omega
            have hi2 : IntKind.i64.wrap ((i : Int) - 1) = (i : Int) - 1 := IntWalk.i64_in _ (by omega)
            clear hcy
            by_cases hzy : z ≤ y
            · have hr' : cb = false := by
                rw [hr]
                unfold nextGo
                rw [decide_eq_true hz, decide_eq_true hzy]; rfl
              subst hr'
              clear hr
              go_upto_region 6 with fail
              refine wp_region_calm0 21 45 (by kernel_rfl) (by kernel_rfl) (by kernel_rfl) (by simp) ?_
              simp only [List.take_succ_cons, List.take_zero, List.drop_succ_cons, List.drop_zero]
              refine wpCalm_value rfl rfl (.slice (some ad) n c) (fun W _ => rfl) ?_
              try simp only [Act.put, List.setIfInBounds_toArray, List.set_cons_zero, List.set_cons_succ]
              refine wpCalm_value rfl rfl (.int .i64 (i : Int)) (fun W _ => rfl) ?_
              try simp only [Act.put, List.setIfInBounds_toArray, List.set_cons_zero, List.set_cons_succ]
              refine wpCalm_value rfl rfl (.pointer (some (ad.add i))) (fun W _ => by go_simp) ?_
              try simp only [Act.put, List.setIfInBounds_toArray, List.set_cons_zero, List.set_cons_succ]
              refine wpCalm_below rfl rfl (.int .i64 z) (fun W hb => exec_load_one 3 (.tmp 25) rfl (ad.add i) rfl (by kernel_rfl) _ (HC.out W hb)) ?_
              try simp only [Act.put, List.setIfInBounds_toArray, List.set_cons_zero, List.set_cons_succ]
              refine wpCalm_call rfl rfl 118 #[.int .i64 z, .int .i64 1, .int .i64 28] (fun W => by go_simp) (.bool (decide (1 ≤ z ∧ z ≤ 28))) (fun W hb => (refWithin_any z 1 28 W).mono fun e w' ⟨h1, h2⟩ => ⟨h1, h2 ▸ Below.refl _ _⟩) ?_
              try simp only [Act.put, List.setIfInBounds_toArray, List.set_cons_zero, List.set_cons_succ]
              rw [decide_eq_true hz]
              refine wpCalm_value rfl rfl (.bool false) (fun W _ => by go_simp) ?_
              try simp only [Act.put, List.setIfInBounds_toArray, List.set_cons_zero, List.set_cons_succ]
              refine wpCalm_value rfl rfl (.bool false) (fun W _ => rfl) ?_
              try simp only [Act.put, List.setIfInBounds_toArray, List.set_cons_zero, List.set_cons_succ]
              refine wpCalm_value rfl rfl (.int .i64 (i : Int)) (fun W _ => rfl) ?_
              try simp only [Act.put, List.setIfInBounds_toArray, List.set_cons_zero, List.set_cons_succ]
              refine wpCalm_value rfl rfl (.bool true) (fun W _ => by go_simp) ?_
              try simp only [Act.put, List.setIfInBounds_toArray, List.set_cons_zero, List.set_cons_succ]
              refine wpCalm_value rfl rfl (.bool true) (fun W _ => rfl) ?_
              try simp only [Act.put, List.setIfInBounds_toArray, List.set_cons_zero, List.set_cons_succ]
              refine wpCalm_value rfl rfl (.slice (some ad) n c) (fun W _ => rfl) ?_
              try simp only [Act.put, List.setIfInBounds_toArray, List.set_cons_zero, List.set_cons_succ]
              refine wpCalm_value rfl rfl (.int .i64 (i : Int)) (fun W _ => rfl) ?_
              try simp only [Act.put, List.setIfInBounds_toArray, List.set_cons_zero, List.set_cons_succ]
              refine wpCalm_value rfl rfl (.pointer (some (ad.add i))) (fun W _ => by go_simp) ?_
              try simp only [Act.put, List.setIfInBounds_toArray, List.set_cons_zero, List.set_cons_succ]
              refine wpCalm_below rfl rfl (.int .i64 z) (fun W hb => exec_load_one 3 (.tmp 35) rfl (ad.add i) rfl (by kernel_rfl) _ (HC.out W hb)) ?_
              try simp only [Act.put, List.setIfInBounds_toArray, List.set_cons_zero, List.set_cons_succ]
              refine wpCalm_value rfl rfl (.slice (some ad) n c) (fun W _ => rfl) ?_
              try simp only [Act.put, List.setIfInBounds_toArray, List.set_cons_zero, List.set_cons_succ]
              refine wpCalm_value rfl rfl (.int .i64 (i : Int)) (fun W _ => rfl) ?_
              try simp only [Act.put, List.setIfInBounds_toArray, List.set_cons_zero, List.set_cons_succ]
              refine wpCalm_value rfl rfl (.int .i64 ((i : Int) - 1)) (fun W _ => by go_simp) ?_
              try simp only [Act.put, List.setIfInBounds_toArray, List.set_cons_zero, List.set_cons_succ]
              refine wpCalm_value rfl rfl (.pointer (some (ad.add (i - 1)))) (fun W _ => by go_simp) ?_
              try simp only [Act.put, List.setIfInBounds_toArray, List.set_cons_zero, List.set_cons_succ]
              refine wpCalm_below rfl rfl (.int .i64 y) (fun W hb => exec_load_one 3 (.tmp 40) rfl (ad.add (i - 1)) rfl (by kernel_rfl) _ (HP.out W hb)) ?_
              try simp only [Act.put, List.setIfInBounds_toArray, List.set_cons_zero, List.set_cons_succ]
              refine wpCalm_value rfl rfl (.bool (decide (z ≤ y))) (fun W _ => by go_simp) ?_
              try simp only [Act.put, List.setIfInBounds_toArray, List.set_cons_zero, List.set_cons_succ]
              refine wpCalm_value rfl rfl (.bool (decide (z ≤ y))) (fun W _ => by go_simp) ?_
              try simp only [Act.put, List.setIfInBounds_toArray, List.set_cons_zero, List.set_cons_succ]
              refine wpCalm_nil ?_
              intro w2 hb2
              have HB2 := Lib.hid (HB.out.trans (hb2.mono hsz))
              clear hb2 htn hi1 hi2 hi3
              go_wp2_with fail
              go_ret
              exact ⟨rfl, HB2.out⟩
            · have hr' : cb = nextGo (lastOf zs (i + 1)) (zs.drop (i + 1)) := by
                rw [hr, HLN.out]
                conv => lhs; unfold nextGo
                rw [decide_eq_true hz, decide_eq_false hzy]; rfl
              have HR' := Lib.hid hr'
              clear hr hr'
              go_upto_region 6 with fail
              refine wp_region_calm0 21 45 (by kernel_rfl) (by kernel_rfl) (by kernel_rfl) (by simp) ?_
              simp only [List.take_succ_cons, List.take_zero, List.drop_succ_cons, List.drop_zero]
              refine wpCalm_value rfl rfl (.slice (some ad) n c) (fun W _ => rfl) ?_
              try simp only [Act.put, List.setIfInBounds_toArray, List.set_cons_zero, List.set_cons_succ]
              refine wpCalm_value rfl rfl (.int .i64 (i : Int)) (fun W _ => rfl) ?_
              try simp only [Act.put, List.setIfInBounds_toArray, List.set_cons_zero, List.set_cons_succ]
              refine wpCalm_value rfl rfl (.pointer (some (ad.add i))) (fun W _ => by go_simp) ?_
              try simp only [Act.put, List.setIfInBounds_toArray, List.set_cons_zero, List.set_cons_succ]
              refine wpCalm_below rfl rfl (.int .i64 z) (fun W hb => exec_load_one 3 (.tmp 25) rfl (ad.add i) rfl (by kernel_rfl) _ (HC.out W hb)) ?_
              try simp only [Act.put, List.setIfInBounds_toArray, List.set_cons_zero, List.set_cons_succ]
              refine wpCalm_call rfl rfl 118 #[.int .i64 z, .int .i64 1, .int .i64 28] (fun W => by go_simp) (.bool (decide (1 ≤ z ∧ z ≤ 28))) (fun W hb => (refWithin_any z 1 28 W).mono fun e w' ⟨h1, h2⟩ => ⟨h1, h2 ▸ Below.refl _ _⟩) ?_
              try simp only [Act.put, List.setIfInBounds_toArray, List.set_cons_zero, List.set_cons_succ]
              rw [decide_eq_true hz]
              refine wpCalm_value rfl rfl (.bool false) (fun W _ => by go_simp) ?_
              try simp only [Act.put, List.setIfInBounds_toArray, List.set_cons_zero, List.set_cons_succ]
              refine wpCalm_value rfl rfl (.bool false) (fun W _ => rfl) ?_
              try simp only [Act.put, List.setIfInBounds_toArray, List.set_cons_zero, List.set_cons_succ]
              refine wpCalm_value rfl rfl (.int .i64 (i : Int)) (fun W _ => rfl) ?_
              try simp only [Act.put, List.setIfInBounds_toArray, List.set_cons_zero, List.set_cons_succ]
              refine wpCalm_value rfl rfl (.bool true) (fun W _ => by go_simp) ?_
              try simp only [Act.put, List.setIfInBounds_toArray, List.set_cons_zero, List.set_cons_succ]
              refine wpCalm_value rfl rfl (.bool true) (fun W _ => rfl) ?_
              try simp only [Act.put, List.setIfInBounds_toArray, List.set_cons_zero, List.set_cons_succ]
              refine wpCalm_value rfl rfl (.slice (some ad) n c) (fun W _ => rfl) ?_
              try simp only [Act.put, List.setIfInBounds_toArray, List.set_cons_zero, List.set_cons_succ]
              refine wpCalm_value rfl rfl (.int .i64 (i : Int)) (fun W _ => rfl) ?_
              try simp only [Act.put, List.setIfInBounds_toArray, List.set_cons_zero, List.set_cons_succ]
              refine wpCalm_value rfl rfl (.pointer (some (ad.add i))) (fun W _ => by go_simp) ?_
              try simp only [Act.put, List.setIfInBounds_toArray, List.set_cons_zero, List.set_cons_succ]
              refine wpCalm_below rfl rfl (.int .i64 z) (fun W hb => exec_load_one 3 (.tmp 35) rfl (ad.add i) rfl (by kernel_rfl) _ (HC.out W hb)) ?_
              try simp only [Act.put, List.setIfInBounds_toArray, List.set_cons_zero, List.set_cons_succ]
              refine wpCalm_value rfl rfl (.slice (some ad) n c) (fun W _ => rfl) ?_
              try simp only [Act.put, List.setIfInBounds_toArray, List.set_cons_zero, List.set_cons_succ]
              refine wpCalm_value rfl rfl (.int .i64 (i : Int)) (fun W _ => rfl) ?_
              try simp only [Act.put, List.setIfInBounds_toArray, List.set_cons_zero, List.set_cons_succ]
              refine wpCalm_value rfl rfl (.int .i64 ((i : Int) - 1)) (fun W _ => by go_simp) ?_
              try simp only [Act.put, List.setIfInBounds_toArray, List.set_cons_zero, List.set_cons_succ]
              refine wpCalm_value rfl rfl (.pointer (some (ad.add (i - 1)))) (fun W _ => by go_simp) ?_
              try simp only [Act.put, List.setIfInBounds_toArray, List.set_cons_zero, List.set_cons_succ]
              refine wpCalm_below rfl rfl (.int .i64 y) (fun W hb => exec_load_one 3 (.tmp 40) rfl (ad.add (i - 1)) rfl (by kernel_rfl) _ (HP.out W hb)) ?_
              try simp only [Act.put, List.setIfInBounds_toArray, List.set_cons_zero, List.set_cons_succ]
              refine wpCalm_value rfl rfl (.bool (decide (z ≤ y))) (fun W _ => by go_simp) ?_
              try simp only [Act.put, List.setIfInBounds_toArray, List.set_cons_zero, List.set_cons_succ]
              refine wpCalm_value rfl rfl (.bool (decide (z ≤ y))) (fun W _ => by go_simp) ?_
              try simp only [Act.put, List.setIfInBounds_toArray, List.set_cons_zero, List.set_cons_succ]
              refine wpCalm_nil ?_
              intro w2 hb2
              have HB2 := Lib.hid (HB.out.trans (hb2.mono hsz))
              clear hb2 htn hi1 hi2 hi3
              go_wp2_with fail
              go_roundw
              case rel => exact ⟨i + 1, by omega, by go_num, HB2.out, HR'.out⟩
              case measure => simp [intOf]; omega
        · have hr' : cb = false := by
            rw [hr]
            cases lastOf zs i with
            | none => unfold nextGo; rw [decide_eq_false hz]; rfl
            | some y => unfold nextGo; rw [decide_eq_false hz]; rfl
          subst hr'
          clear hr hcell
          go_upto_region 6 with fail
          refine wp_region_calm0 21 45 (by kernel_rfl) (by kernel_rfl) (by kernel_rfl) (by simp) ?_
          simp only [List.take_succ_cons, List.take_zero, List.drop_succ_cons, List.drop_zero]
          refine wpCalm_value rfl rfl (.slice (some ad) n c) (fun W _ => rfl) ?_
          try simp only [Act.put, List.setIfInBounds_toArray, List.set_cons_zero, List.set_cons_succ]
          refine wpCalm_value rfl rfl (.int .i64 (i : Int)) (fun W _ => rfl) ?_
          try simp only [Act.put, List.setIfInBounds_toArray, List.set_cons_zero, List.set_cons_succ]
          refine wpCalm_value rfl rfl (.pointer (some (ad.add i))) (fun W _ => by go_simp) ?_
          try simp only [Act.put, List.setIfInBounds_toArray, List.set_cons_zero, List.set_cons_succ]
          refine wpCalm_below rfl rfl (.int .i64 z) (fun W hb => exec_load_one 3 (.tmp 25) rfl (ad.add i) rfl (by kernel_rfl) _ (HC.out W hb)) ?_
          try simp only [Act.put, List.setIfInBounds_toArray, List.set_cons_zero, List.set_cons_succ]
          refine wpCalm_call rfl rfl 118 #[.int .i64 z, .int .i64 1, .int .i64 28] (fun W => by go_simp) (.bool (decide (1 ≤ z ∧ z ≤ 28))) (fun W hb => (refWithin_any z 1 28 W).mono fun e w' ⟨h1, h2⟩ => ⟨h1, h2 ▸ Below.refl _ _⟩) ?_
          try simp only [Act.put, List.setIfInBounds_toArray, List.set_cons_zero, List.set_cons_succ]
          rw [decide_eq_false hz]
          refine wpCalm_value rfl rfl (.bool true) (fun W _ => by go_simp) ?_
          try simp only [Act.put, List.setIfInBounds_toArray, List.set_cons_zero, List.set_cons_succ]
          refine wpCalm_value rfl rfl (.bool true) (fun W _ => rfl) ?_
          try simp only [Act.put, List.setIfInBounds_toArray, List.set_cons_zero, List.set_cons_succ]
          refine wpCalm_skip rfl rfl ?_
          try simp only [Act.put, List.setIfInBounds_toArray, List.set_cons_zero, List.set_cons_succ]
          refine wpCalm_skip rfl rfl ?_
          try simp only [Act.put, List.setIfInBounds_toArray, List.set_cons_zero, List.set_cons_succ]
          refine wpCalm_skip rfl rfl ?_
          try simp only [Act.put, List.setIfInBounds_toArray, List.set_cons_zero, List.set_cons_succ]
          refine wpCalm_skip rfl rfl ?_
          try simp only [Act.put, List.setIfInBounds_toArray, List.set_cons_zero, List.set_cons_succ]
          refine wpCalm_skip rfl rfl ?_
          try simp only [Act.put, List.setIfInBounds_toArray, List.set_cons_zero, List.set_cons_succ]
          refine wpCalm_skip rfl rfl ?_
          try simp only [Act.put, List.setIfInBounds_toArray, List.set_cons_zero, List.set_cons_succ]
          refine wpCalm_skip rfl rfl ?_
          try simp only [Act.put, List.setIfInBounds_toArray, List.set_cons_zero, List.set_cons_succ]
          refine wpCalm_skip rfl rfl ?_
          try simp only [Act.put, List.setIfInBounds_toArray, List.set_cons_zero, List.set_cons_succ]
          refine wpCalm_skip rfl rfl ?_
          try simp only [Act.put, List.setIfInBounds_toArray, List.set_cons_zero, List.set_cons_succ]
          refine wpCalm_skip rfl rfl ?_
          try simp only [Act.put, List.setIfInBounds_toArray, List.set_cons_zero, List.set_cons_succ]
          refine wpCalm_skip rfl rfl ?_
          try simp only [Act.put, List.setIfInBounds_toArray, List.set_cons_zero, List.set_cons_succ]
          refine wpCalm_skip rfl rfl ?_
          try simp only [Act.put, List.setIfInBounds_toArray, List.set_cons_zero, List.set_cons_succ]
          refine wpCalm_skip rfl rfl ?_
          try simp only [Act.put, List.setIfInBounds_toArray, List.set_cons_zero, List.set_cons_succ]
          refine wpCalm_skip rfl rfl ?_
          try simp only [Act.put, List.setIfInBounds_toArray, List.set_cons_zero, List.set_cons_succ]
          refine wpCalm_nil ?_
          intro w2 hb2
          have HB2 := Lib.hid (HB.out.trans (hb2.mono hsz))
          clear hb2
          go_wp2_with fail
          go_ret
          exact ⟨rfl, HB2.out⟩
      · obtain rfl : i = n := by omega
        have hr' : cb = true := by
          rw [hr, List.drop_of_length_le (by have := HZN.out; omega)]
          cases lastOf zs i <;> rfl
        subst hr'
        clear hr
        go_wp2_with fail
        go_ret
        exact ⟨rfl, HB.out⟩
  · have hc : crewB zs = false := by
      unfold crewB
      rw [HZN.out, decide_eq_false (by omega), Bool.false_and]
    rw [hc]
    clear hc
    have a1 : ((n : Int) != 1) = true := by simp; omega
    have a4 : ((n : Int) != 4) = true := by simp; omega
    have a7 : ((n : Int) != 7) = true := by simp; omega
    clear h1
    go_enter Tryz.func120, Tryz.ntmps120
    go_wp2_with fail
    go_ret
    exact ⟨rfl, Below.refl _ _⟩

end Go.Proofs.YtcpngeiahgoacaaGreat

/- When a wish may be, as the reference says it: the plain law. -/
namespace Go.Proofs.YtcpngeiahgoacaaGreat
set_option linter.unusedVariables false

def may1 (x : Wish) : Bool := decide (0 ≤ x.epoch ∧ x.epoch ≤ 1048576) && sameW x (ownW x)
def may2 (x : Wish) : Bool := if x.kind = 5 then may1 x else may1 x && decide (31 ≤ x.client ∧ x.client ≤ 34) && decide (1 ≤ x.stamp ∧ x.stamp ≤ 9007199254740991)
def chB (x : Wish) : Bool := decide (1 ≤ x.group ∧ x.group ≤ 2)
def dirB (x : Wish) : Bool := decide (x.group = 0) && decide (x.epoch = 0) && decide (1 ≤ x.block ∧ x.block ≤ 2)
theorem may_k1 {x : Wish} (h : x.kind = 1) : mayB x = (may2 x && chB x && decide (0 ≤ x.block ∧ x.block ≤ 7)) := by
  obtain ⟨client, stamp, group, epoch, kind, block, data, old, new, next⟩ := x
  simp only at h
  subst h
  rw [Bool.eq_iff_iff]
  simp [mayB, MayP, may2, may1, chB, sameW, ownW]
  by_cases hd : data = [] <;> by_cases hn : next = [] <;> simp [hd, hn] <;> omega
theorem may_k2 {x : Wish} (h : x.kind = 2) : mayB x = (may2 x && chB x && decide (0 ≤ x.block ∧ x.block ≤ 7) && decide (x.data.length = 16)) := by
  obtain ⟨client, stamp, group, epoch, kind, block, data, old, new, next⟩ := x
  simp only at h
  subst h
  rw [Bool.eq_iff_iff]
  simp [mayB, MayP, may2, may1, chB, sameW, ownW]
  by_cases hd : data = [] <;> by_cases hn : next = [] <;> simp [hd, hn] <;> omega
theorem may_k3 {x : Wish} (h : x.kind = 3) : mayB x = (may2 x && dirB x) := by
  obtain ⟨client, stamp, group, epoch, kind, block, data, old, new, next⟩ := x
  simp only at h
  subst h
  rw [Bool.eq_iff_iff]
  simp [mayB, MayP, may2, may1, dirB, sameW, ownW]
  by_cases hd : data = [] <;> by_cases hn : next = [] <;> simp [hd, hn] <;> omega
theorem may_k4 {x : Wish} (h : x.kind = 4) : mayB x = (may2 x && dirB x && decide (1 ≤ x.old ∧ x.old ≤ 28) && decide (1 ≤ x.new ∧ x.new ≤ 28) && !decide (x.old = x.new)) := by
  obtain ⟨client, stamp, group, epoch, kind, block, data, old, new, next⟩ := x
  simp only at h
  subst h
  rw [Bool.eq_iff_iff]
  simp [mayB, MayP, may2, may1, dirB, sameW, ownW]
  by_cases hd : data = [] <;> by_cases hn : next = [] <;> simp [hd, hn] <;> omega
theorem may_k5 {x : Wish} (h : x.kind = 5) : mayB x = (may2 x && chB x && crewB x.next) := by
  obtain ⟨client, stamp, group, epoch, kind, block, data, old, new, next⟩ := x
  simp only at h
  subst h
  rw [Bool.eq_iff_iff]
  simp [mayB, MayP, may2, may1, chB, sameW, ownW]
  by_cases hc : crewB next = true
  · simp [hc]
    by_cases hd : data = [] <;> simp [hd] <;> omega
  · simp [hc]
theorem may_ko {x : Wish} (h : ¬ x.kind = 1 ∧ ¬ x.kind = 2 ∧ ¬ x.kind = 3 ∧ ¬ x.kind = 4 ∧ ¬ x.kind = 5) : mayB x = false := by
  refine decide_eq_false ?_
  unfold MayP
  rintro ⟨_, _, h1 | h1⟩
  · exact h.2.2.2.2 h1.1
  · obtain ⟨_, _, _, _, _, _, h2 | h2⟩ := h1
    · rcases h2.1 with h3 | h3
      · exact h.1 h3.1
      · exact h.2.1 h3.1
    · rcases h2.1 with h3 | h3
      · exact h.2.2.1 h3.1
      · exact h.2.2.2.1 h3.1
theorem own_in (x : Wish) (A : Option Addr) (n c : Nat) (A' : Option Addr) (n' c' : Nat) : ∃ D m d D' m' d', ownSl x A n c A' n' c' = .agg (wCells (ownW x) D m d D' m' d') ∧ ∀ w B, WishIn w B x A n c A' n' c' → WishIn w B (ownW x) D m d D' m' d' := by
  by_cases h5 : x.kind = 5
  · refine ⟨none, 0, 0, A', n', c', by unfold ownSl; rw [if_pos h5], fun w B h => ?_⟩
    have h2 : ¬ x.kind = 2 := by omega
    have h4 : ¬ x.kind = 4 := by omega
    obtain ⟨r1, r2, r3, r4, r5, r6, r7, r8, r9⟩ := h.rng
    refine ⟨?_, Nat.le_refl _, by omega, ?_, h.nc, h.nm, ?_⟩
    · simp [ownW, h2]; exact Reads.none_
    · simp only [ownW, if_pos h5]; exact h.next
    · simp only [ownW, if_pos h5, if_neg h4]
      exact ⟨by unfold I64; omega, by unfold I64; omega, r3, r4, r5, by unfold I64; omega, by unfold I64; omega, by unfold I64; omega, r9⟩
  · by_cases h2 : x.kind = 2
    · refine ⟨A, n, c, none, 0, 0, by unfold ownSl; rw [if_neg h5, if_pos h2], fun w B h => ?_⟩
      have h4 : ¬ x.kind = 4 := by omega
      obtain ⟨r1, r2, r3, r4, r5, r6, r7, r8, r9⟩ := h.rng
      refine ⟨?_, h.dc, h.dm, ?_, Nat.le_refl _, by omega, ?_⟩
      · simp only [ownW, if_pos h2]; exact h.data
      · simp [ownW, h5]; exact Reads.none_
      · simp only [ownW, if_neg h5, if_neg h4]
        exact ⟨r1, r2, r3, r4, r5, r6, by unfold I64; omega, by unfold I64; omega, fun z hz => by cases hz⟩
    · refine ⟨none, 0, 0, none, 0, 0, by unfold ownSl; rw [if_neg h5, if_neg h2], fun w B h => ?_⟩
      obtain ⟨r1, r2, r3, r4, r5, r6, r7, r8, r9⟩ := h.rng
      refine ⟨?_, Nat.le_refl _, by omega, ?_, Nat.le_refl _, by omega, ?_⟩
      · simp [ownW, h2]; exact Reads.none_
      · simp [ownW, h5]; exact Reads.none_
      · simp only [ownW, if_neg h5]
        refine ⟨r1, r2, r3, r4, r5, r6, ?_, ?_, fun z hz => by cases hz⟩
        · split
          · exact r7
          · unfold I64; omega
        · split
          · exact r8
          · unfold I64; omega

end Go.Proofs.YtcpngeiahgoacaaGreat

/- Contract of bastideref11.Check. -/
namespace Go.Proofs.YtcpngeiahgoacaaGreat
set_option linter.unusedVariables false
open Go.RowKit
attribute [local irreducible] wpCalm

set_option maxRecDepth 100000 in
set_option maxHeartbeats 8000000 in
theorem refCheck_any (x : Wish) (A : Option Addr) (n c : Nat) (A' : Option Addr) (n' c' : Nat) (w : World) (B : Nat) (h : WishIn w B x A n c A' n' c') (hB : B ≤ w.heap.size) :
    Calls Tryz.prog 69 #[.agg (wCells x A n c A' n' c')] w fun e w' => e = .returned (.int .i64 (if mayB x = true then 0 else 2)) ∧ Below w.heap.size w w' := by
  have hX : Below w.heap.size w (w.alloc (.cells (wCells x A n c A' n' c') 44)) := (Below.refl _ _).alloc (Nat.le_refl _) _
  have hk0 : Blk (w.alloc (.cells (wCells x A n c A' n' c') 44)) w.heap.size 44 (wCells x A n c A' n' c') := Blk.newAt rfl
  obtain ⟨D, m, d, D', m', d', hsl, hin⟩ := own_in x A n c A' n' c'
  have HWX := Lib.hid (fun W (hb : Below w.heap.size w W) => h.below (hb.mono hB))
  have HIN := Lib.hid hin
  have hdl := h.dlen
  have HDL := Lib.hid hdl
  obtain ⟨rc, hrc⟩ : ∃ rc : Int, rc = if mayB x = true then 0 else 2 := ⟨_, rfl⟩
  rw [← hrc]
  have HRC := Lib.hid hrc
  clear hin h hdl hrc
  go_enter Tryz.func69, Tryz.ntmps69
  go_upto_region 1 with fail
  generalize hW : World.alloc w _ = w1
  have hW' : w.alloc (.cells (wCells x A n c A' n' c') 44) = w1 := hW
  rw [hW'] at hX hk0
  clear hW hW'
  have hs1 := hX.size
  have HK0 := Lib.hid hk0
  have HX := Lib.hid hX
  have HC3 := Lib.hid (fun W (hb : Below w1.heap.size w1 W) => ((hk0.under hb).cell 3).trans (show (wCells x A n c A' n' c')[3]? = some (.int .i64 x.epoch) from rfl))
  have HSM := Lib.hid (fun W (hb : Below w1.heap.size w1 W) => refSame_any x (ownW x) A n c A' n' c' D m d D' m' d' W B (HWX.out W (HX.out.trans (hb.mono hs1))) (HIN.out W B (HWX.out W (HX.out.trans (hb.mono hs1)))) (by have := hb.size; omega))
  clear hk0 hX
  go_cut [3] (fun s wx => s = .bool (may1 x) ∧ Below w1.heap.size w1 wx)
  case first =>
    by_cases hE : 0 ≤ x.epoch ∧ x.epoch ≤ 1048576
    · have hm1 : may1 x = sameW x (ownW x) := by unfold may1; rw [decide_eq_true hE, Bool.true_and]
      refine wp_region_calm0 9 117 (by kernel_rfl) (by kernel_rfl) (by kernel_rfl) (by simp) ?_
      simp only [List.take_succ_cons, List.take_zero, List.drop_succ_cons, List.drop_zero]
      refine wpCalm_value rfl rfl (.pointer (some ⟨w.heap.size, 3, none⟩)) (fun W _ => by go_simp) ?_
      try simp only [Act.put, List.setIfInBounds_toArray, List.set_cons_zero, List.set_cons_succ]
      refine wpCalm_below rfl rfl (.int .i64 x.epoch) (fun W hb => exec_load_one 3 (.tmp 6) rfl ⟨w.heap.size, 3, none⟩ rfl (by kernel_rfl) _ (HC3.out W hb)) ?_
      try simp only [Act.put, List.setIfInBounds_toArray, List.set_cons_zero, List.set_cons_succ]
      refine wpCalm_call rfl rfl 118 #[.int .i64 x.epoch, .int .i64 0, .int .i64 1048576] (fun W => by go_simp) (.bool (decide (0 ≤ x.epoch ∧ x.epoch ≤ 1048576))) (fun W hb => (refWithin_any _ _ _ W).mono fun e w' ⟨h1, h2⟩ => ⟨h1, h2 ▸ Below.refl _ _⟩) ?_
      try simp only [Act.put, List.setIfInBounds_toArray, List.set_cons_zero, List.set_cons_succ]
      rw [decide_eq_true hE]
      refine wpCalm_value rfl rfl (.bool true) (fun W _ => rfl) ?_
      try simp only [Act.put, List.setIfInBounds_toArray, List.set_cons_zero, List.set_cons_succ]
      refine wpCalm_load_part rfl 44 (.tmp 1) rfl w.heap.size 0 10 rfl 44 _ (wCells x A n c A' n' c') _ HK0.out Tryz.underlying44 rfl rfl rfl (fun _ _ => by rw [Nat.zero_add]) ?_
      try simp only [Act.put, List.setIfInBounds_toArray, List.set_cons_zero, List.set_cons_succ]
      refine wpCalm_load_part rfl 44 (.tmp 1) rfl w.heap.size 0 10 rfl 44 _ (wCells x A n c A' n' c') _ HK0.out Tryz.underlying44 rfl rfl rfl (fun _ _ => by rw [Nat.zero_add]) ?_
      try simp only [Act.put, List.setIfInBounds_toArray, List.set_cons_zero, List.set_cons_succ]
      refine wpCalm_call rfl rfl 119 #[.agg (wCells x A n c A' n' c')] (fun W => by go_simp) (ownSl x A n c A' n' c') (fun W hb => refOwn_any x A n c A' n' c' W) ?_
      try simp only [Act.put, List.setIfInBounds_toArray, List.set_cons_zero, List.set_cons_succ]
      rw [hsl]
      refine wpCalm_call rfl rfl 45 #[.agg (wCells x A n c A' n' c'), .agg (wCells (ownW x) D m d D' m' d')] (fun W => by go_simp) (.bool (sameW x (ownW x))) (fun W hb => HSM.out W hb) ?_
      try simp only [Act.put, List.setIfInBounds_toArray, List.set_cons_zero, List.set_cons_succ]
      refine wpCalm_value rfl rfl (.bool (sameW x (ownW x))) (fun W _ => by go_simp) ?_
      try simp only [Act.put, List.setIfInBounds_toArray, List.set_cons_zero, List.set_cons_succ]
      refine wpCalm_nil ?_
      intro w2 hb2
      have HB2 := Lib.hid hb2
      clear hb2
      go_wp2_with fail
      go_meet
      exact ⟨by rw [hm1], HB2.out⟩
    · have hm1 : may1 x = false := by unfold may1; rw [decide_eq_false hE, Bool.false_and]
      refine wp_region_calm0 9 117 (by kernel_rfl) (by kernel_rfl) (by kernel_rfl) (by simp) ?_
      simp only [List.take_succ_cons, List.take_zero, List.drop_succ_cons, List.drop_zero]
      refine wpCalm_value rfl rfl (.pointer (some ⟨w.heap.size, 3, none⟩)) (fun W _ => by go_simp) ?_
      try simp only [Act.put, List.setIfInBounds_toArray, List.set_cons_zero, List.set_cons_succ]
      refine wpCalm_below rfl rfl (.int .i64 x.epoch) (fun W hb => exec_load_one 3 (.tmp 6) rfl ⟨w.heap.size, 3, none⟩ rfl (by kernel_rfl) _ (HC3.out W hb)) ?_
      try simp only [Act.put, List.setIfInBounds_toArray, List.set_cons_zero, List.set_cons_succ]
      refine wpCalm_call rfl rfl 118 #[.int .i64 x.epoch, .int .i64 0, .int .i64 1048576] (fun W => by go_simp) (.bool (decide (0 ≤ x.epoch ∧ x.epoch ≤ 1048576))) (fun W hb => (refWithin_any _ _ _ W).mono fun e w' ⟨h1, h2⟩ => ⟨h1, h2 ▸ Below.refl _ _⟩) ?_
      try simp only [Act.put, List.setIfInBounds_toArray, List.set_cons_zero, List.set_cons_succ]
      rw [decide_eq_false hE]
      refine wpCalm_value rfl rfl (.bool false) (fun W _ => rfl) ?_
      try simp only [Act.put, List.setIfInBounds_toArray, List.set_cons_zero, List.set_cons_succ]
      refine wpCalm_skip rfl rfl ?_
      try simp only [Act.put, List.setIfInBounds_toArray, List.set_cons_zero, List.set_cons_succ]
      refine wpCalm_skip rfl rfl ?_
      try simp only [Act.put, List.setIfInBounds_toArray, List.set_cons_zero, List.set_cons_succ]
      refine wpCalm_skip rfl rfl ?_
      try simp only [Act.put, List.setIfInBounds_toArray, List.set_cons_zero, List.set_cons_succ]
      refine wpCalm_skip rfl rfl ?_
      try simp only [Act.put, List.setIfInBounds_toArray, List.set_cons_zero, List.set_cons_succ]
      refine wpCalm_value rfl rfl (.bool false) (fun W _ => by go_simp) ?_
      try simp only [Act.put, List.setIfInBounds_toArray, List.set_cons_zero, List.set_cons_succ]
      refine wpCalm_nil ?_
      intro w2 hb2
      have HB2 := Lib.hid hb2
      clear hb2
      go_wp2_with fail
      go_meet
      exact ⟨by rw [hm1], HB2.out⟩
  case rest =>
  obtain ⟨rfl, hb2⟩ := hcut
  have K2 := Lib.hid (HK0.out.under hb2)
  have HB2 := Lib.hid (HX.out.trans (hb2.mono hs1))
  have HNX := Lib.hid (fun W (hb : Below wc.heap.size wc W) => refNext_any A' n' c' x.next W B (HWX.out W (HB2.out.trans (hb.mono (HB2.out.size)))).next (by have := hb.size; have := HB2.out.size; omega) (HWX.out W (HB2.out.trans (hb.mono (HB2.out.size)))).nm)
  have c0 := (K2.out.cell 0).trans (show (wCells x A n c A' n' c')[0]? = some (.int .i64 x.client) from rfl)
  have c1 := (K2.out.cell 1).trans (show (wCells x A n c A' n' c')[1]? = some (.int .i64 x.stamp) from rfl)
  have c2 := (K2.out.cell 2).trans (show (wCells x A n c A' n' c')[2]? = some (.int .i64 x.group) from rfl)
  have c3 := (K2.out.cell 3).trans (show (wCells x A n c A' n' c')[3]? = some (.int .i64 x.epoch) from rfl)
  have c4 := (K2.out.cell 4).trans (show (wCells x A n c A' n' c')[4]? = some (.int .i64 x.kind) from rfl)
  have c5 := (K2.out.cell 5).trans (show (wCells x A n c A' n' c')[5]? = some (.int .i64 x.block) from rfl)
  have c6 := (K2.out.cell 6).trans (show (wCells x A n c A' n' c')[6]? = some (.slice A n c) from rfl)
  have c7 := (K2.out.cell 7).trans (show (wCells x A n c A' n' c')[7]? = some (.int .i64 x.old) from rfl)
  have c8 := (K2.out.cell 8).trans (show (wCells x A n c A' n' c')[8]? = some (.int .i64 x.new) from rfl)
  have c9 := (K2.out.cell 9).trans (show (wCells x A n c A' n' c')[9]? = some (.slice A' n' c') from rfl)
  clear hb2 hsl HIN HC3 HSM HK0 HX
  go_upto_if 17 with (fail)
  go_cut [3] (fun s wx => s = .bool (may2 x) ∧ wc = wx)
  case first =>
    by_cases h5 : x.kind = 5
    · have hm2 : may2 x = may1 x := by unfold may2; rw [if_pos h5]
      have h5b : (x.kind != 5) = false := by simp [h5]
      go_wp2_with fail
      go_meet
      exact ⟨by rw [hm2], rfl⟩
    · have hm2 : may2 x = (may1 x && decide (31 ≤ x.client ∧ x.client ≤ 34) && decide (1 ≤ x.stamp ∧ x.stamp ≤ 9007199254740991)) := by unfold may2; rw [if_neg h5]
      have h5b : (x.kind != 5) = true := by simp [h5]
      have HM2 := Lib.hid hm2
      clear hm2
      generalize may1 x = m1 at HM2 ⊢
      cases m1 with
      | false =>
        go_wp2_with fail
        go_meet
        exact ⟨by rw [HM2.out]; rfl, rfl⟩
      | true =>
        by_cases hC : 31 ≤ x.client ∧ x.client ≤ 34
        · rw [decide_eq_true hC] at HM2
          go_wp2_with fail
          refine (refWithin_any _ _ _ _).mono ?_
          rintro _ _ ⟨rfl, rfl⟩
          rw [decide_eq_true hC]
          go_wp2_with fail
          refine (refWithin_any _ _ _ _).mono ?_
          rintro _ _ ⟨rfl, rfl⟩
          generalize decide (1 ≤ x.stamp ∧ x.stamp ≤ 9007199254740991) = q at HM2 ⊢
          go_wp2_with fail
          go_meet
          exact ⟨by rw [HM2.out]; rfl, rfl⟩
        · rw [decide_eq_false hC] at HM2
          go_wp2_with fail
          refine (refWithin_any _ _ _ _).mono ?_
          rintro _ _ ⟨rfl, rfl⟩
          rw [decide_eq_false hC]
          go_wp2_with fail
          go_meet
          exact ⟨by rw [HM2.out]; rfl, rfl⟩
  case rest =>
  obtain ⟨rfl, rfl⟩ := hcut
  go_wp2_with fail
  refine (refWithin_any _ _ _ _).mono ?_
  rintro _ _ ⟨rfl, rfl⟩
  rw [show decide (1 ≤ x.group ∧ x.group ≤ 2) = chB x from rfl]
  go_upto_region 5 with fail
  go_cut [5] (fun s wx => s = .bool (dirB x) ∧ wc = wx)
  case first =>
    have hdd : dirB x = (decide (x.group = 0) && decide (x.epoch = 0) && decide (1 ≤ x.block ∧ x.block ≤ 2)) := rfl
    by_cases hg : x.group = 0
    · have hgb : (x.group == 0) = true := by simp [hg]
      by_cases he : x.epoch = 0
      · have heb : (x.epoch == 0) = true := by simp [he]
        rw [decide_eq_true hg, decide_eq_true he, Bool.true_and, Bool.true_and] at hdd
        have HDD := Lib.hid hdd
        clear hdd hg he
        go_wp2_with fail
        refine (refWithin_any _ _ _ _).mono ?_
        rintro _ _ ⟨rfl, rfl⟩
        generalize decide (1 ≤ x.block ∧ x.block ≤ 2) = q at HDD ⊢
        go_wp2_with fail
        go_meet
        exact ⟨by rw [HDD.out], rfl⟩
      · have heb : (x.epoch == 0) = false := by simp [he]
        rw [decide_eq_true hg, decide_eq_false he, Bool.true_and, Bool.false_and] at hdd
        have HDD := Lib.hid hdd
        clear hdd hg he
        go_wp2_with fail
        go_meet
        exact ⟨by rw [HDD.out], rfl⟩
    · have hgb : (x.group == 0) = false := by simp [hg]
      rw [decide_eq_false hg, Bool.false_and, Bool.false_and] at hdd
      have HDD := Lib.hid hdd
      clear hdd hg
      go_wp2_with fail
      go_meet
      exact ⟨by rw [HDD.out], rfl⟩
  case rest =>
  obtain ⟨rfl, rfl⟩ := hcut
  have HK1 := Lib.hid (fun h : x.kind = 1 => may_k1 h)
  have HK2 := Lib.hid (fun h : x.kind = 2 => may_k2 h)
  have HK3 := Lib.hid (fun h : x.kind = 3 => may_k3 h)
  have HK4 := Lib.hid (fun h : x.kind = 4 => may_k4 h)
  have HK5 := Lib.hid (fun h : x.kind = 5 => may_k5 h)
  have HKO := Lib.hid (fun h : ¬ x.kind = 1 ∧ ¬ x.kind = 2 ∧ ¬ x.kind = 3 ∧ ¬ x.kind = 4 ∧ ¬ x.kind = 5 => may_ko h)
  generalize may2 x = m2 at HK1 HK2 HK3 HK4 HK5 ⊢
  generalize chB x = ch at HK1 HK2 HK5 ⊢
  generalize dirB x = di at HK3 HK4 ⊢
  by_cases k1 : x.kind = 1
  · have hm := HK1.out k1
    rw [k1] at c4
    have HM := Lib.hid hm
    clear hm HK1 HK2 HK3 HK4 HK5 HKO
    cases m2 with
    | false =>
      go_wp2_with fail
      go_ret
      exact ⟨by rw [HRC.out, HM.out]; rfl, HB2.out⟩
    | true =>
      cases ch with
      | false =>
        go_wp2_with fail
        go_ret
        exact ⟨by rw [HRC.out, HM.out]; rfl, HB2.out⟩
      | true =>
        go_wp2_with fail
        refine (refWithin_any _ _ _ _).mono ?_
        rintro _ _ ⟨rfl, rfl⟩
        generalize hq : decide (0 ≤ x.block ∧ x.block ≤ 7) = q at HM ⊢
        clear hq
        cases q with
        | false =>
          go_wp2_with fail
          go_ret
          exact ⟨by rw [HRC.out, HM.out]; rfl, HB2.out⟩
        | true =>
          go_wp2_with fail
          go_ret
          exact ⟨by rw [HRC.out, HM.out]; rfl, HB2.out⟩
  · have k1b : (x.kind == 1) = false := by simp [k1]
    by_cases k2 : x.kind = 2
    · have hm := HK2.out k2
      rw [k2] at c4
      have HM := Lib.hid hm
      clear hm HK1 HK2 HK3 HK4 HK5 HKO
      cases m2 with
      | false =>
        go_wp2_with fail
        go_ret
        exact ⟨by rw [HRC.out, HM.out]; rfl, HB2.out⟩
      | true =>
        cases ch with
        | false =>
          go_wp2_with fail
          go_ret
          exact ⟨by rw [HRC.out, HM.out]; rfl, HB2.out⟩
        | true =>
          go_wp2_with fail
          refine (refWithin_any _ _ _ _).mono ?_
          rintro _ _ ⟨rfl, rfl⟩
          generalize hq : decide (0 ≤ x.block ∧ x.block ≤ 7) = q at HM ⊢
          clear hq
          cases q with
          | false =>
            go_wp2_with fail
            go_ret
            exact ⟨by rw [HRC.out, HM.out]; rfl, HB2.out⟩
          | true =>
            by_cases hl : x.data.length = 16
            · have hnb : ((n : Int) == 16) = true := by have := HDL.out; simp; omega
              rw [decide_eq_true hl] at HM
              clear hl
              go_wp2_with fail
              go_ret
              exact ⟨by rw [HRC.out, HM.out]; rfl, HB2.out⟩
            · have hnb : ((n : Int) == 16) = false := by have := HDL.out; simp; omega
              rw [decide_eq_false hl] at HM
              clear hl
              go_wp2_with fail
              go_ret
              exact ⟨by rw [HRC.out, HM.out]; rfl, HB2.out⟩
    · have k2b : (x.kind == 2) = false := by simp [k2]
      by_cases k3 : x.kind = 3
      · have hm := HK3.out k3
        rw [k3] at c4
        have HM := Lib.hid hm
        clear hm HK1 HK2 HK3 HK4 HK5 HKO
        cases m2 with
        | false =>
          go_wp2_with fail
          go_ret
          exact ⟨by rw [HRC.out, HM.out]; rfl, HB2.out⟩
        | true =>
          cases di with
          | false =>
            go_wp2_with fail
            go_ret
            exact ⟨by rw [HRC.out, HM.out]; rfl, HB2.out⟩
          | true =>
            go_wp2_with fail
            go_ret
            exact ⟨by rw [HRC.out, HM.out]; rfl, HB2.out⟩
      · have k3b : (x.kind == 3) = false := by simp [k3]
        by_cases k4 : x.kind = 4
        · have hm := HK4.out k4
          rw [k4] at c4
          have HM := Lib.hid hm
          clear hm HK1 HK2 HK3 HK4 HK5 HKO
          cases m2 with
          | false =>
            go_wp2_with fail
            go_ret
            exact ⟨by rw [HRC.out, HM.out]; rfl, HB2.out⟩
          | true =>
            cases di with
            | false =>
              go_wp2_with fail
              go_ret
              exact ⟨by rw [HRC.out, HM.out]; rfl, HB2.out⟩
            | true =>
              go_wp2_with fail
              refine (refWithin_any _ _ _ _).mono ?_
              rintro _ _ ⟨rfl, rfl⟩
              generalize hq : decide (1 ≤ x.old ∧ x.old ≤ 28) = q at HM ⊢
              clear hq
              cases q with
              | false =>
                go_wp2_with fail
                go_ret
                exact ⟨by rw [HRC.out, HM.out]; rfl, HB2.out⟩
              | true =>
                go_wp2_with fail
                refine (refWithin_any _ _ _ _).mono ?_
                rintro _ _ ⟨rfl, rfl⟩
                generalize hq : decide (1 ≤ x.new ∧ x.new ≤ 28) = q at HM ⊢
                clear hq
                cases q with
                | false =>
                  go_wp2_with fail
                  go_ret
                  exact ⟨by rw [HRC.out, HM.out]; rfl, HB2.out⟩
                | true =>
                  by_cases hl : x.old = x.new
                  · have hnb : (x.old != x.new) = false := by simp [hl]
                    rw [decide_eq_true hl] at HM
                    clear hl
                    go_wp2_with fail
                    go_ret
                    exact ⟨by rw [HRC.out, HM.out]; rfl, HB2.out⟩
                  · have hnb : (x.old != x.new) = true := by simp [hl]
                    rw [decide_eq_false hl] at HM
                    clear hl
                    go_wp2_with fail
                    go_ret
                    exact ⟨by rw [HRC.out, HM.out]; rfl, HB2.out⟩
        · have k4b : (x.kind == 4) = false := by simp [k4]
          by_cases k5 : x.kind = 5
          · have hm := HK5.out k5
            rw [k5] at c4
            have HM := Lib.hid hm
            clear hm HK1 HK2 HK3 HK4 HK5 HKO
            cases m2 with
            | false =>
              go_wp2_with fail
              go_ret
              exact ⟨by rw [HRC.out, HM.out]; rfl, HB2.out⟩
            | true =>
              cases ch with
              | false =>
                go_wp2_with fail
                go_ret
                exact ⟨by rw [HRC.out, HM.out]; rfl, HB2.out⟩
              | true =>
                go_wp2_with fail
                refine (HNX.out _ (Below.refl _ _)).mono ?_
                rintro _ w9 ⟨rfl, hb9⟩
                replace HB2 := Lib.hid (HB2.out.trans (hb9.mono HB2.out.size))
                clear hb9
                generalize hq : crewB x.next = q at HM ⊢
                clear hq
                cases q with
                | false =>
                  go_wp2_with fail
                  go_ret
                  exact ⟨by rw [HRC.out, HM.out]; rfl, HB2.out⟩
                | true =>
                  go_wp2_with fail
                  go_ret
                  exact ⟨by rw [HRC.out, HM.out]; rfl, HB2.out⟩
          · have k5b : (x.kind == 5) = false := by simp [k5]
            have hm := HKO.out ⟨k1, k2, k3, k4, k5⟩
            have HM := Lib.hid hm
            clear hm HK1 HK2 HK3 HK4 HK5 HKO k1 k2 k3 k4 k5
            go_wp2_with fail
            go_ret
            exact ⟨by rw [HRC.out, HM.out]; rfl, HB2.out⟩

end Go.Proofs.YtcpngeiahgoacaaGreat
