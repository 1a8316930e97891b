/- Parts of the proof, in one text: CrA, CrB, CrC, CrD, CrE, CrF, Guard. -/
import Derived.Test.YtlaodmmjhjpfmaaGreatZ9
import Derived.Test.YtlaodmmjhjpfmaaGreatZ12
import Derived.Lib.SliceRun
import Derived.Test.YtlaodmmjhjpfmaaGreatZ2

/- Contracts of crew.node, crew.Check, slices.BinarySearch, crew.Has. -/
namespace Go.Proofs.YtlaodmmjhjpfmaaGreat
set_option linter.unusedVariables false
open Go.RowKit Go.Maps

attribute [local irreducible] wpList wpCalm
def crC (f : Int) (A : Option Addr) (n c : Nat) : Array Value := #[.int .i64 f, .slice A n c]
def okCB (f : Int) (l : List Int) : Bool := decide (0 ≤ f ∧ f ≤ 2 ∧ (l.length : Int) = 3 * f + 1) && risingB 0 l
theorem okCB_of {f : Nat} {l : List Int} (h : OkC f l) : okCB (f : Int) l = true := by
  unfold okCB
  have := h.faults
  have := h.len
  rw [h.up, Bool.and_true]
  exact decide_eq_true ⟨by omega, by omega, by omega⟩
theorem okCB_to {f : Int} {l : List Int} (h : okCB f l = true) : OkC f.toNat l ∧ 0 ≤ f := by
  unfold okCB at h
  rw [Bool.and_eq_true] at h
  have h1 := of_decide_eq_true h.1
  exact ⟨⟨by omega, by omega, h.2⟩, h1.1⟩

theorem node_any (n : Int) (w : World) : Calls Tryz.prog 89 #[.int .i64 n] w fun e w' => e = .returned (.bool (decide (1 ≤ n ∧ n ≤ 28))) ∧ w = w' := by
  by_cases h : 1 ≤ n
  · by_cases h2 : n ≤ 28
    · rw [decide_eq_true ⟨h, h2⟩]
      go_enter Tryz.func89, Tryz.ntmps89
      go_wp2
      go_ret
      exact ⟨rfl, rfl⟩
    · rw [decide_eq_false fun hh => h2 hh.2]
      go_enter Tryz.func89, Tryz.ntmps89
      go_wp2
      go_ret
      exact ⟨rfl, rfl⟩
  · rw [decide_eq_false fun hh => h hh.1]
    go_enter Tryz.func89, Tryz.ntmps89
    go_wp2
    go_ret
    exact ⟨rfl, rfl⟩

set_option maxRecDepth 100000 in
set_option maxHeartbeats 4000000 in
theorem crCheck_any (f : Int) (A : Option Addr) (n c : Nat) (zs : List Int) (w : World) (h : Reads w w.heap.size 1 A n (zs.map vn)) (hn : n ≤ 17592186044416) :
    Calls Tryz.prog 26 #[.agg (crC f A n c)] w fun e w' => e = .returned (.int .i64 (if okCB f zs = true then 0 else 110)) ∧ Below w.heap.size w w' := by
  have hzn : zs.length = n := by have := h.1; simpa using this
  have H := Lib.hid h
  have HZN := Lib.hid hzn
  have HX := Lib.hid (below_lit w (.cells (crC f A n c) 57))
  have HK := Lib.hid (Blk.newAt rfl : Blk (w.alloc (.cells (crC f A n c) 57)) w.heap.size 57 (crC f A n c))
  obtain ⟨res, hres⟩ : ∃ b, b = okCB f zs := ⟨_, rfl⟩
  rw [← hres]
  have HRES := Lib.hid hres
  clear h hzn hres
  obtain ⟨g, hg⟩ : ∃ g, g = w.heap.size := ⟨_, rfl⟩
  go_enter Tryz.func26, Tryz.ntmps26
  go_upto_region 1 with fail
  generalize World.alloc w _ = w1 at HX HK ⊢
  rw [← hg] at HK ⊢
  clear hg
  have hbad : ¬ (0 ≤ f ∧ f ≤ 2 ∧ (n : Int) = 3 * f + 1) → res = false := fun hb => by
    rw [HRES.out]; unfold okCB; rw [HZN.out, decide_eq_false hb, Bool.false_and]
  have c0 : w1.cell? ⟨g, 0, none⟩ = some (.int .i64 f) := (HK.out.cell 0).trans rfl
  have c1 : w1.cell? ⟨g, 1, none⟩ = some (.slice A n c) := (HK.out.cell 1).trans rfl
  by_cases h0 : f < 0
  · obtain rfl := hbad (by omega)
    clear hbad
    go_wp2_with fail
    go_ret
    exact ⟨rfl, HX.out⟩
  · by_cases h2 : 2 < f
    · obtain rfl := hbad (by omega)
      clear hbad
      go_wp2_with fail
      go_ret
      exact ⟨rfl, HX.out⟩
    · by_cases h3 : (n : Int) = 3 * f + 1
      · have h3b : ((n : Int) != 3 * f + 1) = false := by simp [h3]
        have HR := Lib.hid (show res = risingB 0 zs by rw [HRES.out]; unfold okCB; rw [decide_eq_true (by rw [HZN.out]; exact ⟨by omega, by omega, h3⟩), Bool.true_and])
        have h3w : (IntKind.i64.wrap (IntKind.i64.wrap (3 * f) + 1)) = 3 * f + 1 := by rw [IntKind.wrap_i64, IntKind.wrap_i64]; omega
        clear hbad HRES
        go_wp2_with fail
        go_loopw [3, 27] (fun lv iv wr => ∃ (i : Nat) (last : Int), i ≤ n ∧ 0 ≤ last ∧ lv = .int .i64 last ∧ iv = .int .i64 i ∧ w1 = wr ∧ res = risingB last (zs.drop i)) (fun _ iv _ => n - (intOf iv).toNat)
        case atStart => exact ⟨0, 0, by omega, by omega, rfl, rfl, rfl, HR.out⟩
        case round =>
          obtain ⟨i, last, hi, hl0, rfl, rfl, rfl, hr⟩ := hrel
          by_cases hin : i < n
          · obtain ⟨ad, u, hA, hadb, hxi, hcell⟩ := (H.out.below HX.out).at_ hin
            subst hA
            have hil : i < zs.length := by have := HZN.out; omega
            have hu : u = .int .i64 zs[i] := by
              rw [List.getElem?_map, List.getElem?_eq_getElem hil] at hxi
              injection hxi with hxi
              exact hxi.symm
            subst hu
            rw [List.drop_eq_getElem_cons hil] at hr
            generalize zs[i] = z at hr hcell
            simp only [risingB] at hr
            have HNO := Lib.hid (node_any z w1)
            clear hxi
            by_cases hz1 : z ≤ last
            · rw [decide_eq_false (by omega), Bool.false_and] at hr
              subst hr
              go_wp2_with fail
              go_ret
              exact ⟨rfl, HX.out⟩
            · by_cases hz2 : z ≤ 28
              · rw [decide_eq_true ⟨by omega, hz2⟩, Bool.true_and] at hr
                rw [decide_eq_true ⟨by omega, hz2⟩] at HNO
                have HRR := Lib.hid hr
                clear hr
                go_wp2_with fail
                refine HNO.out.mono ?_
                rintro _ _ ⟨rfl, rfl⟩
                go_wp2_with fail
                go_roundw
                case rel => exact ⟨i + 1, z, by omega, by omega, rfl, by go_num, trivial, HRR.out⟩
                case measure => simp [intOf]; omega
              · rw [decide_eq_false (by omega), Bool.false_and] at hr
                rw [decide_eq_false (by omega)] at HNO
                subst hr
                go_wp2_with fail
                refine HNO.out.mono ?_
                rintro _ _ ⟨rfl, rfl⟩
                go_wp2_with fail
                go_ret
                exact ⟨rfl, HX.out⟩
          · obtain rfl : i = n := by omega
            rw [List.drop_of_length_le (by have := HZN.out; omega)] at hr
            subst hr
            go_wp2_with fail
            go_ret
            exact ⟨rfl, HX.out⟩
      · have h3b : ((n : Int) != 3 * f + 1) = true := by simp [h3]
        obtain rfl := hbad (by omega)
        clear hbad
        go_wp2_with fail
        go_ret
        exact ⟨rfl, HX.out⟩

theorem isNaN_any (x : Int) (w : World) : Calls Tryz.prog 138 #[.int .i64 x] w fun e w' => e = .returned (.bool false) ∧ w = w' := by
  have hx : (x != x) = false := by simp
  go_enter Tryz.func138, Tryz.ntmps138
  go_wp2
  go_ret
  exact ⟨rfl, rfl⟩
theorem cisNaN_any (x : Int) (w : World) : Calls Tryz.prog 176 #[.int .i64 x] w fun e w' => e = .returned (.bool false) ∧ w = w' := by
  have hx : (x != x) = false := by simp
  go_enter Tryz.func176, Tryz.ntmps176
  go_wp2
  go_ret
  exact ⟨rfl, rfl⟩
theorem less_any (x y : Int) (w : World) : Calls Tryz.prog 137 #[.int .i64 x, .int .i64 y] w fun e w' => e = .returned (.bool (decide (x < y))) ∧ w = w' := by
  have HN := Lib.hid (cisNaN_any x w)
  go_enter Tryz.func137, Tryz.ntmps137
  go_wp2_with fail
  refine HN.out.mono ?_
  rintro _ _ ⟨rfl, rfl⟩
  go_wp2_with fail
  go_ret
  exact ⟨rfl, rfl⟩

set_option maxRecDepth 100000 in
set_option maxHeartbeats 4000000 in
theorem bsearch_any (A : Option Addr) (n c : Nat) (zs : List Int) (t : Int) (w : World) (B : Nat) (h : Reads w B 1 A n (zs.map vn)) (hp : zs.Pairwise (· < ·)) (hn : n ≤ 1000000) :
    Calls Tryz.prog 91 #[.slice A n c, .int .i64 t] w fun e w' => ∃ i : Nat, e = .returned (.tuple #[.int .i64 i, .bool (decide (t ∈ zs))]) ∧ w = w' := by
  have hzn : zs.length = n := by have := h.1; simpa using this
  have H := Lib.hid h
  have HZN := Lib.hid hzn
  have HP := Lib.hid (List.pairwise_iff_getElem.1 hp)
  obtain ⟨res, hres⟩ : ∃ b, b = decide (t ∈ zs) := ⟨_, rfl⟩
  rw [← hres]
  have HRES := Lib.hid hres
  clear h hzn hres hp
  go_enter Tryz.func91, Tryz.ntmps91
  go_wp2_with fail
  go_loopw [7, 8, 9] (fun iv jv hv wr => ∃ (i j : Nat), i ≤ j ∧ j ≤ n ∧ iv = .int .i64 i ∧ jv = .int .i64 j ∧ w = wr ∧ (∀ (k : Nat) (hk : k < zs.length), k < i → zs[k] < t) ∧ (∀ (k : Nat) (hk : k < zs.length), j ≤ k → t ≤ zs[k])) (fun iv jv _ _ => (intOf jv).toNat - (intOf iv).toNat)
  case atStart => exact ⟨0, n, by omega, by omega, rfl, rfl, rfl, fun k hk h => by omega, fun k hk h => by have := HZN.out; omega⟩
  case round =>
    obtain ⟨i, j, hij, hj, rfl, rfl, rfl, hlo, hhi⟩ := hrel
    have HLO := Lib.hid hlo
    have HHI := Lib.hid hhi
    clear hlo hhi
    by_cases hlt : i < j
    · have hltI : (i : Int) < (j : Int) := by omega
      have hm1 : i ≤ (i + j) / 2 := by omega
      have hm2 : (i + j) / 2 < j := by omega
      obtain ⟨ad, u, hA, hadb, hxi, hcell⟩ := H.out.at_ (k := (i + j) / 2) (by omega)
      subst hA
      have hil : (i + j) / 2 < zs.length := by have := HZN.out; omega
      have hu : u = .int .i64 zs[(i + j) / 2] := by
        rw [List.getElem?_map, List.getElem?_eq_getElem hil] at hxi
        injection hxi with hxi
        exact hxi.symm
      subst hu
      obtain ⟨z, hz⟩ : ∃ z, z = zs[(i + j) / 2] := ⟨_, rfl⟩
      rw [← hz] at hcell
      have HZ := Lib.hid hz
      have HLE := Lib.hid (less_any z t w)
      clear hxi hz
      by_cases hzt : z < t
      · rw [decide_eq_true hzt] at HLE
        have HN := Lib.hid (show ∀ (k : Nat) (hk : k < zs.length), k < (i + j) / 2 + 1 → zs[k] < t from fun k hk h => by
          rcases Nat.lt_or_ge k ((i + j) / 2) with e | e
          · have := HP.out k _ hk hil e; have := HZ.out; omega
          · obtain rfl : k = (i + j) / 2 := by omega
            have := HZ.out; omega)
        go_wp2_with fail
        refine HLE.out.mono ?_
        rintro _ _ ⟨rfl, rfl⟩
        go_wp2_with fail
        go_roundw
        case rel => exact ⟨(i + j) / 2 + 1, j, by omega, hj, by go_num, rfl, trivial, HN.out, HHI.out⟩
        case measure => simp [intOf]; omega
      · rw [decide_eq_false hzt] at HLE
        have HN := Lib.hid (show ∀ (k : Nat) (hk : k < zs.length), (i + j) / 2 ≤ k → t ≤ zs[k] from fun k hk h => by
          rcases Nat.lt_or_ge ((i + j) / 2) k with e | e
          · have := HP.out _ k hil hk e; have := HZ.out; omega
          · obtain rfl : k = (i + j) / 2 := by omega
            have := HZ.out; omega)
        go_wp2_with fail
        refine HLE.out.mono ?_
        rintro _ _ ⟨rfl, rfl⟩
        go_wp2_with fail
        go_roundw
        case rel => exact ⟨i, (i + j) / 2, by omega, by omega, rfl, by go_num, trivial, HLO.out, HN.out⟩
        case measure => simp [intOf]; omega
    · obtain rfl : i = j := by omega
      have hno : ∀ (k : Nat) (hk : k < zs.length), k ≠ i → zs[k] ≠ t := fun k hk hne e => by
        rcases Nat.lt_or_ge k i with q | q
        · have := HLO.out k hk q; omega
        · have h1 : i < zs.length := by omega
          have := HHI.out i h1 (Nat.le_refl _)
          have := HP.out i k h1 hk (by omega)
          omega
      by_cases hin : i < n
      · obtain ⟨ad, u, hA, hadb, hxi, hcell⟩ := H.out.at_ hin
        subst hA
        have hil : i < zs.length := by have := HZN.out; omega
        have hu : u = .int .i64 zs[i] := by
          rw [List.getElem?_map, List.getElem?_eq_getElem hil] at hxi
          injection hxi with hxi
          exact hxi.symm
        subst hu
        have hinI : (i : Int) < (n : Int) := by omega
        by_cases hzt : zs[i] = t
        · have hr : res = true := by rw [HRES.out]; exact decide_eq_true (hzt ▸ List.getElem_mem hil)
          rw [hzt] at hcell
          subst hr
          clear hxi hno hzt
          go_wp2_with fail
          go_ret2
          exact ⟨i, rfl, rfl⟩
        · have hr : res = false := by
            rw [HRES.out]
            refine decide_eq_false fun hm => ?_
            obtain ⟨k, hk, e⟩ := List.mem_iff_getElem.1 hm
            rcases Nat.eq_or_lt_of_le (Nat.le_refl k) with _ | _
            · by_cases hki : k = i
              · subst hki; exact hzt e
              · exact hno k hk hki e
            · omega
          generalize zs[i] = z at hcell hzt
          have hztb : (z == t) = false := by simpa using hzt
          have HNA := Lib.hid (isNaN_any z w)
          subst hr
          clear hxi hno hzt
          go_wp2_with fail
          refine HNA.out.mono ?_
          rintro _ _ ⟨rfl, rfl⟩
          go_wp2_with fail
          go_ret2
          exact ⟨i, rfl, rfl⟩
      · have hr : res = false := by
          rw [HRES.out]
          refine decide_eq_false fun hm => ?_
          obtain ⟨k, hk, e⟩ := List.mem_iff_getElem.1 hm
          have := HZN.out
          exact hno k hk (by omega) e
        have hinI : ¬ (i : Int) < (n : Int) := by omega
        subst hr
        clear hno
        go_wp2_with fail
        go_ret2
        exact ⟨⟨i, rfl⟩, rfl⟩

end Go.Proofs.YtlaodmmjhjpfmaaGreat

/- Contract of crew.Has. -/
namespace Go.Proofs.YtlaodmmjhjpfmaaGreat
set_option linter.unusedVariables false
open Go.RowKit Go.Maps

attribute [local irreducible] wpList wpCalm
set_option maxRecDepth 100000 in
set_option maxHeartbeats 2000000 in
theorem crHas_any (f : Nat) (A : Option Addr) (n c : Nat) (zs : List Int) (t : Int) (w : World) (h : Reads w w.heap.size 1 A n (zs.map vn)) (hok : OkC f zs) :
    Calls Tryz.prog 28 #[.agg (crC f A n c), .int .i64 t] w fun e w' => e = .returned (.bool (decide (t ∈ zs))) ∧ Below w.heap.size w w' := by
  have hzn : zs.length = n := by have := h.1; simpa using this
  have hs := hok.short
  have HX := Lib.hid (below_lit w (.cells (crC f A n c) 57))
  have HK := Lib.hid (Blk.newAt rfl : Blk (w.alloc (.cells (crC f A n c) 57)) w.heap.size 57 (crC f A n c))
  have hr1 := h.below HX.out
  have HB := Lib.hid (bsearch_any A n c zs t (w.alloc (.cells (crC f A n c) 57)) _ hr1 hok.pair (by omega))
  have HC := Lib.hid (crCheck_any f A n c zs (w.alloc (.cells (crC f A n c) 57)) (hr1.more HX.out.size) (by omega))
  rw [okCB_of hok, if_pos rfl] at HC
  generalize decide (t ∈ zs) = res at HB ⊢
  have hD : crC f A n c = #[.int .i64 (f : Int), .slice A n c] := rfl
  obtain ⟨D, hDe⟩ : ∃ D, D = crC f A n c := ⟨_, rfl⟩
  have hsz : D.size = 2 := by rw [hDe]; rfl
  rw [← hDe] at HX HK HB HC hD ⊢
  clear h hr1 hok hDe
  have HD := Lib.hid hD
  clear hD
  obtain ⟨g, hg⟩ : ∃ g, g = w.heap.size := ⟨_, rfl⟩
  go_enter Tryz.func28, Tryz.ntmps28
  go_upto_region 1 with fail
  generalize World.alloc w _ = w1 at HX HK HB HC ⊢
  rw [← hg] at HK ⊢
  clear hg
  have c1 : w1.cell? ⟨g, 1, none⟩ = some (.slice A n c) := (HK.out.cell 1).trans (by rw [HD.out]; rfl)
  go_wp2_with fail
  refine HB.out.mono ?_
  rintro _ _ ⟨i, rfl, rfl⟩
  clear HB
  go_wp2_with (refine wpList_load_part (o := ⟨some 14, _, _, _, _, _⟩) rfl 57 (.tmp 2) rfl g 0 2 rfl 57 _ D _ HK.out Tryz.underlying57 rfl rfl hsz (fun _ _ => by rw [Nat.zero_add]; try rfl) ?_)
  refine HC.out.mono ?_
  rintro _ w2 ⟨rfl, hb2⟩
  have HB2 := Lib.hid (HX.out.trans (hb2.mono HX.out.size))
  clear hb2 HC
  go_wp2_with fail
  go_ret
  exact ⟨rfl, HB2.out⟩

end Go.Proofs.YtlaodmmjhjpfmaaGreat

/- A row of numbers in a block; contracts of slices.IndexFunc, DeleteFunc at one number; crew.Others. -/
namespace Go.Proofs.YtlaodmmjhjpfmaaGreat
set_option linter.unusedVariables false
open Go.RowKit Go.Maps

attribute [local irreducible] wpList wpCalm
structure RowN (w : World) (g cap : Nat) (zs : List Int) : Prop where
  row : ∃ cur : Array Value, Blk w g 3 cur ∧ cur.size = cap ∧ cur.toList.take zs.length = zs.map vn
  cap : zs.length ≤ cap ∧ cap ≤ maxLen
theorem RowN.of_own {w : World} {B : Nat} {v : Value} {zs : List Int} (h : OwnN w B v zs) (h0 : 0 < zs.length) : ∃ g cap, v = .slice (some ⟨g, 0, none⟩) zs.length cap ∧ B ≤ g ∧ RowN w g cap zs := by
  rcases h.2 with ⟨_, h1⟩ | ⟨g, cap, cur, hv, h2, h3, h4, h5, h6, h7⟩
  · omega
  · exact ⟨g, cap, hv, h2, ⟨⟨cur, h3, by omega, by simpa using h7⟩, h4, h5⟩⟩
theorem RowN.lt {w : World} {g cap : Nat} {zs : List Int} (h : RowN w g cap zs) : g < w.heap.size := by
  obtain ⟨cur, h1, _⟩ := h.row
  exact h1.lt
theorem RowN.keep {w w' : World} {g cap : Nat} {zs : List Int} (h : RowN w g cap zs) (hk : w'.heap[g]? = w.heap[g]?) : RowN w' g cap zs := by
  obtain ⟨cur, h1, h2⟩ := h.row
  exact ⟨⟨cur, hk.trans h1, h2⟩, h.cap⟩
theorem RowN.below {w w' : World} {B g cap : Nat} {zs : List Int} (h : RowN w g cap zs) (hb : Below B w w') (hg : g < B) : RowN w' g cap zs := h.keep (hb.block g hg)
theorem RowN.own {w : World} {B g cap : Nat} {zs : List Int} (h : RowN w g cap zs) (hB : B ≤ g) : OwnN w B (.slice (some ⟨g, 0, none⟩) zs.length cap) zs := by
  obtain ⟨cur, h1, h2, h3⟩ := h.row
  exact ⟨by simp, .inr ⟨g, cap, cur, rfl, hB, h1, h.cap.1, h.cap.2, by omega, by simpa using h3⟩⟩
theorem RowN.at_ {w : World} {g cap : Nat} {zs : List Int} (h : RowN w g cap zs) {i : Nat} (hi : i < zs.length) : w.cell? ⟨g, i, none⟩ = some (.int .i64 zs[i]) := by
  obtain ⟨cur, h1, h2, h3⟩ := h.row
  rw [h1.cell, ← Array.getElem?_toList]
  have : (cur.toList.take zs.length)[i]? = some (.int .i64 zs[i]) := by
    rw [h3, List.getElem?_map, List.getElem?_eq_getElem hi]; rfl
  rw [List.getElem?_take, if_pos hi] at this
  exact this
theorem RowN.frozen {w : World} {g cap : Nat} {zs : List Int} (h : RowN w g cap zs) (i : Nat) : w.frozen? ⟨g, i, none⟩ = false := by
  obtain ⟨cur, h1, _⟩ := h.row
  exact h1.frozen i
theorem RowN.set_ {w : World} {g cap : Nat} {zs : List Int} (h : RowN w g cap zs) {i : Nat} (hi : i < zs.length) (z : Int) : RowN (w.setCell ⟨g, i, none⟩ (.int .i64 z)) g cap (zs.set i z) := by
  obtain ⟨cur, h1, h2, h3⟩ := h.row
  refine ⟨⟨_, h1.set_ i _, by simp [h2], ?_⟩, by rw [List.length_set]; exact h.cap⟩
  rw [List.length_set, Array.toList_setIfInBounds, List.take_set, h3]
  rw [List.map_set]
  rfl
theorem RowN.pre {w : World} {g cap : Nat} {a b : List Int} (h : RowN w g cap (a ++ b)) : RowN w g cap a := by
  obtain ⟨cur, h1, h2, h3⟩ := h.row
  refine ⟨⟨cur, h1, h2, ?_⟩, by have := h.cap; rw [List.length_append] at this; omega⟩
  have := congrArg (List.take a.length) h3
  rw [List.take_take, List.length_append, Nat.min_eq_left (by omega), List.map_append, List.take_append_of_le_length (by simp)] at this
  rw [this, List.take_of_length_le (by simp)]
theorem RowN.reads {w : World} {g cap : Nat} {zs : List Int} (h : RowN w g cap zs) : Reads w w.heap.size 1 (some ⟨g, 0, none⟩) zs.length (zs.map vn) := (OwnN.reads' (h.own (Nat.zero_le _)))
where OwnN.reads' {w : World} {B g cap : Nat} {zs : List Int} (h : OwnN w B (.slice (some ⟨g, 0, none⟩) zs.length cap) zs) : Reads w w.heap.size 1 (some ⟨g, 0, none⟩) zs.length (zs.map vn) := Reads.of_own h
theorem RowN.turned {w w' : World} {g q cap : Nat} {zs : List Int} (h : RowN w g cap zs) (ho : Only (fun b => b = q) w w') (hq : g ≠ q) : RowN w' g cap zs := by
  obtain ⟨cur, h1, h2⟩ := h.row
  exact ⟨⟨cur, ho.blk h1 hq, h2⟩, h.cap⟩

/-- the closure of Others -/
theorem others1_any (b : Nat) (x o : Int) (w : World) (hc : w.cell? ⟨b, 0, none⟩ = some (.int .i64 o)) :
    Calls Tryz.prog 171 #[.int .i64 x, .pointer (some ⟨b, 0, none⟩)] w fun e w' => e = .returned (.bool (decide (x = o))) ∧ w = w' := by
  by_cases h : x = o
  · subst h
    go_enter Tryz.func171, Tryz.ntmps171
    go_wp2
    go_ret
    exact ⟨ret_bool (by simp), rfl⟩
  · have hx : (x == o) = false := by simpa using h
    rw [decide_eq_false h]
    go_enter Tryz.func171, Tryz.ntmps171
    go_wp2
    go_ret
    exact ⟨rfl, rfl⟩

set_option maxRecDepth 100000 in
set_option maxHeartbeats 4000000 in
theorem indexF_any (g cap b n : Nat) (p q : List Int) (o : Int) (w : World) (h : RowN w g cap (p ++ o :: q)) (hn : n = (p ++ o :: q).length) (hp : ¬ o ∈ p) (hb : w.cell? ⟨b, 0, none⟩ = some (.int .i64 o)) (hn2 : n ≤ 1000000) :
    Calls Tryz.prog 192 #[.slice (some ⟨g, 0, none⟩) n cap, .func (.func 171) #[] #[.pointer (some ⟨b, 0, none⟩)]] w fun e w' => e = .returned (.int .i64 (p.length : Int)) ∧ w = w' := by
  have HR := Lib.hid h
  have HN := Lib.hid hn
  have HO := Lib.hid (fun x => others1_any b x o w hb)
  have HP := Lib.hid hp
  have hpl : p.length < n := by rw [hn, List.length_append]; simp
  clear h hn hp hb
  go_enter Tryz.func192, Tryz.ntmps192
  go_wp2_with fail
  go_loopw [5, 8] (fun _ iv wr => ∃ i : Nat, i ≤ p.length ∧ iv = .int .i64 i ∧ w = wr) (fun _ iv _ => p.length - (intOf iv).toNat)
  case atStart => exact ⟨0, by omega, rfl, rfl⟩
  case round =>
    obtain ⟨i, hi, rfl, rfl⟩ := hrel
    have hin : i < n := by omega
    have hinI : (i : Int) < (n : Int) := by omega
    have hil : i < (p ++ o :: q).length := by have := HN.out; omega
    have hcell := HR.out.at_ hil
    by_cases hlt : i < p.length
    · have hz : (p ++ o :: q)[i] = p[i] := List.getElem_append_left hlt
      rw [hz] at hcell
      have hne : ¬ p[i] = o := fun e => HP.out (e ▸ List.getElem_mem hlt)
      generalize p[i] = z at hcell hne
      have HC := Lib.hid (HO.out z)
      rw [decide_eq_false hne] at HC
      clear hz
      go_wp2_with fail
      refine HC.out.mono ?_
      rintro _ _ ⟨rfl, rfl⟩
      go_wp2_with fail
      go_roundw
      case rel => exact ⟨i + 1, by omega, by go_num, trivial⟩
      case measure => simp [intOf]; omega
    · obtain rfl : i = p.length := by omega
      have hz : (p ++ o :: q)[p.length] = o := by rw [List.getElem_append_right (Nat.le_refl _)]; simp
      rw [hz] at hcell
      have HC := Lib.hid (HO.out o)
      rw [decide_eq_true rfl] at HC
      clear hz
      go_wp2_with fail
      refine HC.out.mono ?_
      rintro _ _ ⟨rfl, rfl⟩
      go_wp2_with fail
      go_ret
      exact ⟨rfl, rfl⟩

set_option maxRecDepth 100000 in
set_option maxHeartbeats 400000 in
theorem deleteF_any (g cap b n : Nat) (p q : List Int) (o : Int) (w : World) (h : RowN w g cap (p ++ o :: q)) (hn : n = (p ++ o :: q).length) (hp : ¬ o ∈ p) (hq : ¬ o ∈ q) (hb : w.cell? ⟨b, 0, none⟩ = some (.int .i64 o)) (hbg : b ≠ g) (hn2 : n ≤ 1000000) :
    Calls Tryz.prog 170 #[.slice (some ⟨g, 0, none⟩) n cap, .func (.func 171) #[] #[.pointer (some ⟨b, 0, none⟩)]] w fun e w' => e = .returned (.slice (some ⟨g, 0, none⟩) (p ++ q).length cap) ∧ RowN w' g cap (p ++ q ++ [0]) ∧ Only (fun b => b = g) w w' := by
  have HI := Lib.hid (indexF_any g cap b n p q o w h hn hp hb hn2)
  have HR := Lib.hid h
  have HN := Lib.hid hn
  have HB := Lib.hid hb
  have HQ := Lib.hid hq
  obtain ⟨pl, hpl⟩ : ∃ k, k = p.length := ⟨_, rfl⟩
  have hnl : n = pl + 1 + q.length := by rw [hn, List.length_append, List.length_cons, hpl]; omega
  rw [← hpl] at HI
  have HPL := Lib.hid hpl
  obtain ⟨z0, hz0, hz1, hz2⟩ := info_parts ci_info
  have hm1 : ((pl : Int) == -1) = false := by rw [beq_eq_false_iff_ne]; omega
  have HNL := Lib.hid hnl
  have hnp : pl < n := by omega
  obtain ⟨pq, hpq⟩ : ∃ k, k = (p ++ q).length := ⟨_, rfl⟩
  rw [← hpq]
  have HPQ := Lib.hid hpq
  clear h hn hp hq hb hpl hnl hpq
  go_enter Tryz.func170, Tryz.ntmps170
  go_wp2_with fail
  refine HI.out.mono ?_
  rintro _ _ ⟨rfl, rfl⟩
  clear HI
  go_wp2_with fail
  go_loopw [5, 6, 7] (fun iv jv _ wr => ∃ (k m m2 : Nat), m = pl + k ∧ m2 = m + 1 ∧ k ≤ q.length ∧ iv = .int .i64 (m : Int) ∧ jv = .int .i64 (m2 : Int) ∧ (∃ x, RowN wr g cap (p ++ q.take k ++ x :: q.drop k)) ∧ Only (fun b => b = g) w wr) (fun _ jv _ _ => n - (intOf jv).toNat)
  case atStart => exact ⟨0, pl, pl + 1, by omega, by omega, by omega, rfl, by go_num, ⟨o, by simpa using HR.out⟩, Only.refl _ _⟩
  case round =>
    obtain ⟨k, m, m2, hm, hm2, hk, rfl, rfl, ⟨x, hrow⟩, hon⟩ := hrel
    have HROW := Lib.hid hrow
    have HON := Lib.hid hon
    have HPL1 := HPL.out
    have hnl := HNL.out
    have htk : (q.take k).length = k := by rw [List.length_take]; omega
    have hll : (p ++ q.take k ++ x :: q.drop k).length = n := by
      rw [List.length_append, List.length_append, List.length_cons, List.length_drop, htk]; omega
    have hg := hrow.lt
    by_cases hlt : k < q.length
    · have hjI : (m2 : Int) < (n : Int) := by omega
      have h0I : (0 : Int) ≤ (m2 : Int) := by omega
      have hz : (p ++ q.take k ++ x :: q.drop k)[m2]'(by omega) = q[k] := by
        rw [List.getElem_append_right (by rw [List.length_append, htk]; omega)]
        have : m2 - (p ++ q.take k).length = 1 := by rw [List.length_append, htk]; omega
        simp only [this, List.getElem_cons_succ, List.getElem_drop]
        simp
      have hcell := HROW.out.at_ (i := m2) (by omega)
      rw [hz] at hcell
      have hne : ¬ q[k] = o := fun e => HQ.out (e ▸ List.getElem_mem hlt)
      have hset := HROW.out.set_ (i := m) (by omega) q[k]
      have hse : (p ++ q.take k ++ x :: q.drop k).set m q[k] = p ++ q.take (k + 1) ++ q[k] :: q.drop (k + 1) := by
        rw [List.set_append, if_neg (by rw [List.length_append, htk]; omega)]
        have : m - (p ++ q.take k).length = 0 := by rw [List.length_append, htk]; omega
        rw [this, List.set_cons_zero, List.drop_eq_getElem_cons hlt, List.take_succ_eq_append_getElem hlt]
        simp only [List.append_assoc, List.singleton_append]
      rw [hse] at hset
      have hfz := HROW.out.frozen m
      have hob : w.cell? ⟨b, 0, none⟩ = some (.int .i64 o) := HB.out
      have hlb := World.block_lt_of_cell? _ _ hob
      have hcb : wr.cell? ⟨b, 0, none⟩ = some (.int .i64 o) := (HON.out.cell hlb hbg).trans hob
      have HC := Lib.hid (others1_any b q[k] o wr hcb)
      rw [decide_eq_false hne] at HC
      have hmI : (m : Int) < (n : Int) := by omega
      have hm0 : (0 : Int) ≤ (m : Int) := by omega
      have hcm := HROW.out.at_ (i := m) (by omega)
      generalize (p ++ q.take k ++ x :: q.drop k)[m] = y at hcm
      generalize hqk : q[k] = z at hcell hset HC
      have HSET := Lib.hid hset
      have HON2 := Lib.hid (HON.out.trans (Only.of_turned (N := fun b => b = g) (Turned.setCell wr ⟨g, m, none⟩ (.int .i64 z)) rfl))
      have HM := Lib.hid hm
      have HM2 := Lib.hid hm2
      have hmn1 : m2 ≤ n := by omega
      clear hrow hon hset hse hz hne hqk hob hcb hnl HPL1 htk hll hm hm2
      go_wp2_with fail
      refine HC.out.mono ?_
      rintro _ _ ⟨rfl, rfl⟩
      clear HC
      go_wp2_with fail
      go_roundw
      case rel => exact ⟨k + 1, m + 1, m2 + 1, by have := HM.out; omega, by have := HM2.out; omega, by omega, by go_num, by go_num, ⟨z, HSET.out⟩, HON2.out⟩
      case measure => simp [intOf]; omega
    · obtain rfl : k = q.length := by omega
      have hjI : ¬ (m2 : Int) < (n : Int) := by omega
      have hpq : (p ++ q.take q.length ++ x :: q.drop q.length) = (p ++ q) ++ [x] := by simp
      rw [hpq] at hrow hll
      have hcx := hrow.at_ (i := m) (by omega)
      have hfz := hrow.frozen m
      have hset := hrow.set_ (i := m) (by omega) 0
      have hse : ((p ++ q) ++ [x]).set m 0 = (p ++ q) ++ [0] := by
        rw [List.set_append, if_neg (by rw [List.length_append]; omega)]
        have : m - (p ++ q).length = 0 := by rw [List.length_append]; omega
        rw [this]; rfl
      rw [hse] at hset
      have HPRE := Lib.hid hset
      have hcap1 := hrow.cap.1
      rw [hll] at hcap1
      have hcap2 : ¬ cap = m := by omega
      have hmn : n - m = 1 := by omega
      have hnm : n = m + 1 := by omega
      have hlen : pq = m := by rw [HPQ.out, List.length_append]; omega
      have HON2 := Lib.hid (HON.out.trans (Only.of_turned (N := fun b => b = g) (Turned.setCell wr ⟨g, m, none⟩ (.int .i64 0)) rfl))
      have hcl : ∀ ty, (Builtin.clear_ #[41] ty #[.slice (some ⟨g, m, none⟩) 1 (cap - m)]).run Tryz.prog wr = .ok (.tuple #[]) (wr.setCell ⟨g, m, none⟩ (.int .i64 0)) := fun ty => by
        have := Lib.run_clear_slice (P := Tryz.prog) wr 41 3 ty (.int .i64 0) Tryz.underlying41 (fun w => Tryz.zeroValue3 w) rfl rfl g m 1 (cap - m) (by omega) (fun j hj => by
          obtain rfl : j = 0 := by omega
          rw [Nat.add_zero, hcx]; rfl) (fun j hj => by
          obtain rfl : j = 0 := by omega
          rw [Nat.add_zero]; exact hfz)
        simpa [World.setCells] using this
      clear hrow hset hse hcx hpq hon hnl HPL1 htk hll hm hm2
      subst hlen hnm
      go_wp2_with fail
      go_ret
      exact ⟨rfl, by first | exact HPRE.out | (rw [← List.append_assoc]; exact HPRE.out), HON2.out⟩

/-- all nodes but one -/
theorem dropL_split {zs : List Int} {o : Int} (hp : zs.Pairwise (· < ·)) (ho : o ∈ zs) : ∃ p q, zs = p ++ o :: q ∧ ¬ o ∈ p ∧ ¬ o ∈ q ∧ dropL zs o = p ++ q := by
  obtain ⟨p, q, rfl⟩ := List.append_of_mem ho
  have h := List.pairwise_append.1 hp
  have h2 := List.pairwise_cons.1 h.2.1
  have hnp : ¬ o ∈ p := fun e => by have := h.2.2 o e o (List.mem_cons_self ..); omega
  have hnq : ¬ o ∈ q := fun e => by have := h2.1 o e; omega
  refine ⟨p, q, rfl, hnp, hnq, ?_⟩
  unfold dropL
  rw [List.filter_append, List.filter_cons_of_neg (by simp)]
  rw [List.filter_eq_self.2 fun x hx => by simp; exact fun e => hnp (e ▸ hx), List.filter_eq_self.2 fun x hx => by simp; exact fun e => hnq (e ▸ hx)]

set_option maxRecDepth 100000 in
set_option maxHeartbeats 400000 in
theorem others_any (f : Nat) (A : Option Addr) (n c : Nat) (zs : List Int) (o : Int) (w : World) (h : Reads w w.heap.size 1 A n (zs.map vn)) (hok : OkC f zs) (ho : o ∈ zs) :
    Calls Tryz.prog 133 #[.agg (crC f A n c), .int .i64 o] w fun e w' => ∃ v, e = .returned v ∧ (∃ g cap, v = .slice (some ⟨g, 0, none⟩) (dropL zs o).length cap ∧ w.heap.size ≤ g ∧ RowN w' g cap (dropL zs o ++ [0])) ∧ Below w.heap.size w w' := by
  have hmf : ∀ (fn : Fn) (first cap : Array Value) (w : World), (Instr.makeFunc fn first cap).run Tryz.prog w = .ok (.func fn first cap) w := fun _ _ _ _ => rfl
  have hzn : zs.length = n := by have := h.1; simpa using this
  have hs := hok.short
  have hX := ((Below.refl w.heap.size w).alloc (Nat.le_refl _) (.cells (crC f A n c) 57)).alloc (by simp) (.cells #[.int .i64 o] 3)
  have HK := Lib.hid ((Blk.newAt rfl : Blk (w.alloc (.cells (crC f A n c) 57)) w.heap.size 57 (crC f A n c)).alloc (.cells #[.int .i64 o] 3))
  have HO := Lib.hid (Blk.newAt (by simp) : Blk ((w.alloc (.cells (crC f A n c) 57)).alloc (.cells #[.int .i64 o] 3)) (w.heap.size + 1) 3 #[.int .i64 o])
  have hr1 := h.below hX
  have hs1 : ((w.alloc (.cells (crC f A n c) 57)).alloc (.cells #[.int .i64 o] 3)).heap.size = w.heap.size + 2 := by simp
  have hn7 : n ≤ 1000000 := by omega
  have HC := Lib.hid (crCheck_any f A n c zs _ (hr1.more hX.size) (by omega))
  rw [okCB_of hok, if_pos rfl] at HC
  obtain ⟨p, q, hzs, hnp, hnq, hd⟩ := dropL_split hok.pair ho
  have HX := Lib.hid hX
  have HR1 := Lib.hid hr1
  have HZS := Lib.hid hzs
  have HNP := Lib.hid hnp
  have HNQ := Lib.hid hnq
  have HD := Lib.hid hd
  have HZN := Lib.hid hzn
  obtain ⟨dl, hdl⟩ : ∃ k, k = (dropL zs o).length := ⟨_, rfl⟩
  rw [← hdl]
  have HDL0 := Lib.hid hdl
  clear hdl
  obtain ⟨D, hD⟩ : ∃ D, D = crC f A n c := ⟨_, rfl⟩
  have hsz : D.size = 2 := by rw [hD]; rfl
  have c1 : D[1]? = some (.slice A n c) := by rw [hD]; rfl
  rw [← hD] at HX HK HO HC HR1 hs1 ⊢
  have C1 := Lib.hid c1
  have HS1 := Lib.hid hs1
  clear h hr1 hok hX hzs hnp hnq hd hD hzn c1 hs1
  obtain ⟨g, hg⟩ : ∃ g, g = w.heap.size := ⟨_, rfl⟩
  obtain ⟨g3, hg3⟩ : ∃ g, g = w.heap.size + 1 := ⟨_, rfl⟩
  go_enter Tryz.func133, Tryz.ntmps133
  go_upto_region 1 with fail
  generalize World.alloc (World.alloc w _) _ = w1 at HX HK HO HC HR1 HS1 ⊢
  rw [← hg3] at HO ⊢
  rw [← hg] at HK ⊢
  have hs1 := HS1.out
  have hg1 : g < w1.heap.size := by omega
  have hg31 : g3 < w1.heap.size := by omega
  clear HS1 hs1 hg hg3
  go_wp2_with (refine wpList_load_part (o := ⟨some 5, _, _, _, _, _⟩) rfl 57 (.tmp 2) rfl g 0 2 rfl 57 _ D _ HK.out Tryz.underlying57 rfl rfl hsz (fun _ _ => by rw [Nat.zero_add]; try rfl) ?_)
  refine HC.out.mono ?_
  rintro _ w2 ⟨rfl, hb2⟩
  have HB2 := Lib.hid (HX.out.trans (hb2.mono HX.out.size))
  have hs2 := hb2.size
  have c21 : w2.cell? ⟨g, 1, none⟩ = some (.slice A n c) := ((HK.out.below' hb2).cell 1).trans C1.out
  have co2 : w2.cell? ⟨g3, 0, none⟩ = some (.int .i64 o) := ((HO.out.below' hb2).cell 0).trans rfl
  have HCL := Lib.hid (cloneN_any A n c zs w2 w.heap.size (HR1.out.below (hb2.mono HX.out.size)) HB2.out.size (by omega))
  have CO2 := Lib.hid co2
  clear hb2 HC HR1 HK HO co2
  go_wp2_with fail
  refine HCL.out.mono ?_
  rintro _ w3 ⟨v, rfl, how, hb3⟩
  have hzl : 0 < zs.length := by have := HZN.out; omega
  obtain ⟨g4, cap, rfl, hg4, hrow⟩ := RowN.of_own how hzl
  rw [HZN.out]
  rw [HZS.out] at hrow
  have HDL := Lib.hid (deleteF_any g4 cap g3 n p q o w3 hrow (by rw [← HZS.out]; exact HZN.out.symm) HNP.out HNQ.out ((hb3.cell (show g3 < w2.heap.size by omega)).trans CO2.out) (by omega) (by omega))
  rw [← HD.out, ← HDL0.out] at HDL
  have HB3 := Lib.hid (HB2.out.trans (hb3.mono HB2.out.size))
  have hs3 := HB2.out.size
  clear how hrow hb3 HCL hzl c21
  go_wp2_with fail
  refine HDL.out.mono ?_
  rintro _ w4 ⟨rfl, hrow, hon⟩
  have HOW := Lib.hid hrow
  have hgw4 : w.heap.size ≤ g4 := by omega
  have HB4 := Lib.hid (HB3.out.trans (hon.below HB3.out.size fun b hb e => by omega))
  clear hrow hon HDL
  go_wp2_with fail
  go_ret
  exact ⟨_, rfl, ⟨g4, cap, rfl, hgw4, HOW.out⟩, HB4.out⟩

end Go.Proofs.YtlaodmmjhjpfmaaGreat

/- The library's sort of a rising row with one number behind it. -/
namespace Go.Proofs.YtlaodmmjhjpfmaaGreat
set_option linter.unusedVariables false
open Go.RowKit Go.Maps

attribute [local irreducible] wpList wpCalm
theorem RowN.drewN {w : World} {g cap : Nat} {zs : List Int} (h : RowN w g cap zs) (k : Nat) : RowN (w.drewN k) g cap zs := h.keep rfl
/-- where the number stands under way -/
def midL (l : List Int) (z : Int) (j : Nat) : List Int := l.take j ++ z :: l.drop j
theorem midL_len (l : List Int) (z : Int) (j : Nat) (hj : j ≤ l.length) : (midL l z j).length = l.length + 1 := by
  unfold midL
  rw [List.length_append, List.length_take, List.length_cons, List.length_drop]; omega
theorem midL_all (l : List Int) (z : Int) : midL l z l.length = l ++ [z] := by unfold midL; simp
theorem midL_at (l : List Int) (z : Int) (j : Nat) (hj : j ≤ l.length) : (midL l z j)[j]? = some z := by
  unfold midL
  rw [List.getElem?_append_right (by rw [List.length_take]; omega), List.length_take, Nat.min_eq_left hj, Nat.sub_self]
  rfl
theorem midL_before (l : List Int) (z : Int) (p : Nat) (hp : p < l.length) : (midL l z (p + 1))[p]? = some l[p] := by
  unfold midL
  rw [List.getElem?_append_left (by rw [List.length_take]; omega), List.getElem?_take, if_pos (by omega), List.getElem?_eq_getElem hp]
theorem midL_swap (l : List Int) (z : Int) (p : Nat) (hp : p < l.length) : ((midL l z (p + 1)).set (p + 1) l[p]).set p z = midL l z p ∧ ((midL l z (p + 1)).set p z).set (p + 1) l[p] = midL l z p := by
  have e : midL l z (p + 1) = l.take p ++ l[p] :: z :: l.drop (p + 1) := by
    unfold midL
    rw [List.take_succ_eq_append_getElem hp, List.append_assoc]; rfl
  have e2 : midL l z p = l.take p ++ z :: l[p] :: l.drop (p + 1) := by
    unfold midL
    rw [List.drop_eq_getElem_cons hp]
  have ht : (l.take p).length = p := by rw [List.length_take]; omega
  have s1 : ∀ (t : List Int) (v : Int), (l.take p ++ t).set p v = l.take p ++ t.set 0 v := fun t v => by rw [List.set_append, if_neg (by omega), ht, Nat.sub_self]
  have s2 : ∀ (t : List Int) (v : Int), (l.take p ++ t).set (p + 1) v = l.take p ++ t.set 1 v := fun t v => by rw [List.set_append, if_neg (by omega), ht, show p + 1 - p = 1 by omega]
  rw [e, e2, s2, s1, s1, s2]
  exact ⟨rfl, rfl⟩
theorem midL_done (l : List Int) (z : Int) (j : Nat) (hp : l.Pairwise (· < ·)) (hj : j ≤ l.length) (hlo : ∀ p, p + 1 = j → ∀ h : p < l.length, ¬ z < l[p]) (hhi : ∀ x, x ∈ l.drop j → z < x) : midL l z j = insL z l := by
  have h := insL_at z (l.take j) (l.drop j) (fun x hx => by
    obtain ⟨i, hi, rfl⟩ := List.mem_iff_getElem.1 hx
    rw [List.length_take] at hi
    rw [List.getElem_take]
    have hj1 : j - 1 < l.length := by omega
    have := hlo (j - 1) (by omega) hj1
    rcases Nat.lt_or_ge i (j - 1) with e | e
    · have := List.pairwise_iff_getElem.1 hp i (j - 1) (by omega) hj1 e
      omega
    · have e' : i = j - 1 := by omega
      subst e'
      exact this) (fun x hx => hhi x (by
    cases hd : l.drop j with
    | nil => rw [hd] at hx; cases hx
    | cons y t =>
      rw [hd] at hx
      obtain rfl := Option.some.inj hx
      exact List.mem_cons_self ..))
  rw [List.take_append_drop] at h
  exact h.symm
theorem RowN.got {w : World} {g cap i : Nat} {zs : List Int} {z : Int} (h : RowN w g cap zs) (hz : zs[i]? = some z) : w.cell? ⟨g, i, none⟩ = some (.int .i64 z) := by
  obtain ⟨hi, e⟩ := List.getElem?_eq_some_iff.1 hz
  rw [h.at_ hi, e]

set_option maxRecDepth 100000 in
set_option maxHeartbeats 400000 in
theorem isort_any (g cap n : Nat) (l : List Int) (z : Int) (w : World) (h : RowN w g cap (l ++ [z])) (hn : n = l.length + 1) (hp : l.Pairwise (· < ·)) (hz : ¬ z ∈ l) (hn2 : n ≤ 12) :
    Calls Tryz.prog 200 #[.slice (some ⟨g, 0, none⟩) n cap, .int .i64 0, .int .i64 (n : Int)] w fun e w' => e = .returned (.tuple #[]) ∧ RowN w' g cap (insL z l) ∧ Only (fun b => b = g) w w' := by
  have HR := Lib.hid h
  have HN := Lib.hid hn
  have HP := Lib.hid hp
  have hn1 : 1 ≤ n := by omega
  clear h hn hp
  go_enter Tryz.func200, Tryz.ntmps200
  go_wp2_with fail
  go_loopw [6] (fun iv wr => ∃ i : Nat, 1 ≤ i ∧ i ≤ n ∧ iv = .int .i64 (i : Int) ∧ RowN wr g cap (if i < n then l ++ [z] else insL z l) ∧ Only (fun b => b = g) w wr) (fun iv _ => n - (intOf iv).toNat)
  case atStart =>
    refine ⟨1, by omega, hn1, rfl, ?_, Only.refl _ _⟩
    split
    · exact HR.out
    · have : l = [] := List.eq_nil_of_length_eq_zero (by have := HN.out; omega)
      subst this
      exact HR.out
  case round =>
    obtain ⟨i, hi1, hi, rfl, hrow, hon⟩ := hrel
    by_cases hin : i < n
    · rw [if_pos hin] at hrow
      have hinI : (i : Int) < (n : Int) := by omega
      have HROW := Lib.hid hrow
      have HON := Lib.hid hon
      clear hrow hon
      by_cases hlast : i + 1 < n
      · obtain ⟨p, hp⟩ : ∃ p, i = p + 1 := ⟨i - 1, by omega⟩
        have hil : i < l.length := by have := HN.out; omega
        have hpl : p < l.length := by omega
        have hci := HROW.out.got (i := i) (z := l[i]) (by rw [List.getElem?_append_left hil, List.getElem?_eq_getElem hil])
        have hcp := HROW.out.got (i := p) (z := l[p]) (by rw [List.getElem?_append_left hpl, List.getElem?_eq_getElem hpl])
        have hxy : ¬ l[i] < l[p] := by have := List.pairwise_iff_getElem.1 HP.out p i hpl hil (by omega); omega
        have HLE := Lib.hid (fun W => less_any l[i] l[p] W)
        rw [decide_eq_false hxy] at HLE
        generalize l[i] = x at hci HLE
        generalize l[p] = y at hcp HLE
        have hip : (i : Int) - 1 = (p : Int) := by omega
        have h0i : 0 < i := by omega
        have hpI : p < n := by omega
        have hpw : IntKind.i64.wrap (p : Int) = (p : Int) := by rw [IntKind.wrap_i64]; omega
        clear hxy hp hpl hil
        go_wp2_with fail
        go_loopw [7] (fun jv w2 => jv = .int .i64 (i : Int) ∧ ∃ k, w2 = wr.drewN k) (fun _ _ => 0)
        case atStart => exact ⟨rfl, 0, rfl⟩
        case round =>
          obtain ⟨rfl, k, rfl⟩ := hrel
          go_upto_region 4 with fail
          go_quiet ((go_at_call 137; exact quiet_add_left (HLE.out _)))
          go_wp2_with fail
          go_roundw
          case rel => exact ⟨i + 1, by omega, by omega, by go_num, by rw [if_pos hlast]; exact HROW.out.keep rfl, by first | exact HON.out.drewN _ | exact (HON.out.drewN _).drewN _⟩
          case measure => simp [intOf]; omega
      · obtain rfl : i = l.length := by have := HN.out; omega
        have hml := midL_all l z
        have HPP := HP.out
        go_wp2_with fail
        go_loopw [7] (fun jv w2 => ∃ j : Nat, j ≤ l.length ∧ jv = .int .i64 (j : Int) ∧ RowN w2 g cap (midL l z j) ∧ (∀ x, x ∈ l.drop j → z < x) ∧ Only (fun b => b = g) w w2) (fun jv _ => (intOf jv).toNat)
        case atStart => exact ⟨l.length, Nat.le_refl _, rfl, (by rw [midL_all]; exact HROW.out), (fun x hx => by rw [List.drop_length] at hx; cases hx), HON.out⟩
        case round =>
          obtain ⟨j, hj, rfl, hrj, hhi, hoj⟩ := hrel
          have HRJ := Lib.hid hrj
          have HHI := Lib.hid hhi
          have HOJ := Lib.hid hoj
          clear hhi hoj
          by_cases h0 : j = 0
          · have hdone := midL_done l z j HPP hj (fun p hp _ => by omega) HHI.out
            rw [hdone] at hrj
            have HRD := Lib.hid hrj
            subst h0
            clear hrj hdone
            go_wp2_with fail
            go_upto_region 4 with fail
            go_quiet (fail)
            go_wp2_with fail
            go_roundw
            case rel => exact ⟨l.length + 1, by omega, by omega, by go_num, by rw [if_neg (by have := HN.out; omega)]; exact HRD.out.keep rfl, by first | exact HOJ.out.drewN _ | exact (HOJ.out.drewN _).drewN _⟩
            case measure => simp [intOf]; omega
          · obtain ⟨p, hp⟩ : ∃ p, j = p + 1 := ⟨j - 1, by omega⟩
            have hpl : p < l.length := by omega
            have hcj := hrj.got (midL_at l z j hj)
            have hcp := hrj.got (i := p) (z := l[p]) (by rw [hp]; exact midL_before l z p hpl)
            have HLE := Lib.hid (fun W => less_any z l[p] W)
            have hjn : j < n := by have := HN.out; omega
            have hjp : (j : Int) - 1 = (p : Int) := by omega
            have h0j : 0 < j := by omega
            have hpn : p < n := by omega
            have hpw : IntKind.i64.wrap (p : Int) = (p : Int) := by rw [IntKind.wrap_i64]; omega
            have hpz : l[p] ≠ z := fun e => hz (e ▸ List.getElem_mem hpl)
            by_cases hlt : z < l[p]
            · rw [decide_eq_true hlt] at HLE
              have hsw := midL_swap l z p hpl
              have hs1 := (hrj.set_ (i := j) (by rw [midL_len l z j hj]; omega) l[p]).set_ (i := p) (by rw [List.length_set, midL_len l z j hj]; omega) z
              have hs2 := (hrj.set_ (i := p) (by rw [midL_len l z j hj]; omega) z).set_ (i := j) (by rw [List.length_set, midL_len l z j hj]; omega) l[p]
              rw [hp] at hs1 hs2
              rw [hsw.1] at hs1
              rw [hsw.2] at hs2
              rw [← hp] at hs1 hs2
              have hdr : l.drop p = l[p] :: l.drop j := by rw [List.drop_eq_getElem_cons hpl, hp]
              have hh2 : ∀ x, x ∈ l.drop p → z < x := fun x hx => by
                rw [hdr] at hx
                rcases List.mem_cons.1 hx with rfl | hx
                · exact hlt
                · exact HHI.out x hx
              have HH2 := Lib.hid hh2
              have HS1 := Lib.hid hs1
              have HS2 := Lib.hid hs2
              have hfj := hrj.frozen j
              have hfp := hrj.frozen p
              have hjp2 : j ≠ p := by omega
              have hpj2 : p ≠ j := by omega
              generalize l[p] = y at hcp HLE HS1 HS2
              clear hrj hs1 hs2 hdr hh2 hsw hp hlt hpz
              go_wp2_with fail
              go_upto_region 4 with fail
              go_quiet ((go_at_call 137; first | exact quiet_left (HLE.out _) | exact quiet_add_left (HLE.out _)))
              go_wp2_with fail
              go_upto_region 6 with fail
              go_region
              go_wp2_with fail
              go_roundw
              case rel => exact ⟨p, by omega, by go_num, HS1.out.keep rfl, HH2.out, (HOJ.out.drewN _).trans ((Only.of_turned (N := fun b => b = g) (Turned.setCell _ ⟨g, j, none⟩ (.int .i64 y)) rfl).trans (Only.of_turned (N := fun b => b = g) (Turned.setCell _ ⟨g, p, none⟩ (.int .i64 z)) rfl))⟩
              case measure => simp [intOf]; omega
            · have hdone := midL_done l z j HPP hj (fun q hq hql => by
                obtain rfl : q = p := by omega
                exact hlt) HHI.out
              rw [hdone] at hrj
              have HRD := Lib.hid hrj
              rw [decide_eq_false hlt] at HLE
              generalize l[p] = y at hcp HLE
              clear hrj hdone hp hlt hpz
              go_wp2_with fail
              go_upto_region 4 with fail
              go_quiet ((go_at_call 137; first | exact quiet_left (HLE.out _) | exact quiet_add_left (HLE.out _)))
              go_wp2_with fail
              go_roundw
              case rel => exact ⟨l.length + 1, by omega, by omega, by go_num, by rw [if_neg (by have := HN.out; omega)]; exact HRD.out.keep rfl, by first | exact HOJ.out.drewN _ | exact (HOJ.out.drewN _).drewN _⟩
              case measure => simp [intOf]; omega
    · obtain rfl : i = n := by omega
      rw [if_neg hin] at hrow
      have hinI : ¬ (i : Int) < (i : Int) := by omega
      have HROW := Lib.hid hrow
      have HON := Lib.hid hon
      clear hrow hon
      go_wp2_with fail
      first | go_end0 | (simp only [Exit.inBlock, Exit.then]; refine bodyPost_ret (results_none rfl _ _ _) rfl ?_) | refine bodyPost_ret (results_none rfl _ _ _) rfl ?_
      exact ⟨rfl, HROW.out, HON.out⟩

end Go.Proofs.YtlaodmmjhjpfmaaGreat

/- Contracts of slices.Sort of a rising row with one number behind it, crew.Make, crew.Replace. -/
namespace Go.Proofs.YtlaodmmjhjpfmaaGreat
set_option linter.unusedVariables false
open Go.RowKit Go.Maps

attribute [local irreducible] wpList wpCalm
set_option maxRecDepth 100000 in
theorem len64_any (n : Nat) (hn : n = 1 ∨ n = 4 ∨ n = 7) (w : World) : Calls Tryz.prog 209 #[.int .u64 (n : Int)] w fun e w' => ∃ v : Int, e = .returned (.int .i64 v) ∧ w = w' := by
  rcases hn with rfl | rfl | rfl
  · go_enter Tryz.func209, Tryz.ntmps209
    go_wp2_with fail
    go_ret
    exact ⟨_, rfl, rfl⟩
  · go_enter Tryz.func209, Tryz.ntmps209
    go_wp2_with fail
    go_ret
    exact ⟨_, rfl, rfl⟩
  · go_enter Tryz.func209, Tryz.ntmps209
    go_wp2_with fail
    go_ret
    exact ⟨_, rfl, rfl⟩
theorem bitsLen_any (n : Nat) (hn : n = 1 ∨ n = 4 ∨ n = 7) (w : World) : Calls Tryz.prog 191 #[.int .u64 (n : Int)] w fun e w' => ∃ v : Int, e = .returned (.int .i64 v) ∧ w = w' := by
  have HL := Lib.hid (len64_any n hn w)
  clear hn
  go_enter Tryz.func191, Tryz.ntmps191
  go_wp2_with fail
  refine HL.out.mono ?_
  rintro _ _ ⟨v, rfl, rfl⟩
  go_wp2_with fail
  go_ret
  exact ⟨_, rfl, rfl⟩

set_option maxRecDepth 100000 in
set_option maxHeartbeats 400000 in
theorem pdq_any (g cap n : Nat) (l : List Int) (z v : Int) (w : World) (h : RowN w g cap (l ++ [z])) (hn : n = l.length + 1) (hp : l.Pairwise (· < ·)) (hz : ¬ z ∈ l) (hn2 : n ≤ 12) :
    Calls Tryz.prog 190 #[.slice (some ⟨g, 0, none⟩) n cap, .int .i64 0, .int .i64 (n : Int), .int .i64 v] w fun e w' => e = .returned (.tuple #[]) ∧ RowN w' g cap (insL z l) ∧ Only (fun b => b = g) w w' := by
  have HI := Lib.hid (isort_any g cap n l z w h hn hp hz hn2)
  clear h hn hp hz
  go_enter Tryz.func190, Tryz.ntmps190
  go_wp2_with fail
  go_loopw [1, 2] (fun av bv wr => av = .int .i64 0 ∧ bv = .int .i64 (n : Int) ∧ w = wr) (fun _ _ _ => 0)
  case atStart => exact ⟨rfl, rfl, rfl⟩
  case round =>
    obtain ⟨rfl, rfl, rfl⟩ := hrel
    go_wp2_with fail
    refine HI.out.mono ?_
    rintro _ w1 ⟨rfl, hr, ho⟩
    have HR := Lib.hid hr
    have HO := Lib.hid ho
    clear hr ho HI
    go_wp2_with fail
    first | go_end0 | (simp only [Exit.inBlock, Exit.then]; refine bodyPost_ret (results_none rfl _ _ _) rfl ?_) | refine bodyPost_ret (results_none rfl _ _ _) rfl ?_
    exact ⟨rfl, HR.out, HO.out⟩

set_option maxRecDepth 100000 in
set_option maxHeartbeats 400000 in
theorem sort_any (g cap n : Nat) (l : List Int) (z : Int) (w : World) (h : RowN w g cap (l ++ [z])) (hn : n = l.length + 1) (hp : l.Pairwise (· < ·)) (hz : ¬ z ∈ l) (hn2 : n = 1 ∨ n = 4 ∨ n = 7) :
    Calls Tryz.prog 169 #[.slice (some ⟨g, 0, none⟩) n cap] w fun e w' => e = .returned (.tuple #[]) ∧ RowN w' g cap (insL z l) ∧ Only (fun b => b = g) w w' := by
  have HP := Lib.hid (fun v => pdq_any g cap n l z v w h hn hp hz (by omega))
  have HL := Lib.hid (bitsLen_any n hn2 w)
  have hn7 : n ≤ 7 := by omega
  clear h hn hp hz hn2
  go_enter Tryz.func169, Tryz.ntmps169
  go_wp2_with fail
  refine HL.out.mono ?_
  rintro _ _ ⟨v, rfl, rfl⟩
  clear HL
  go_wp2_with fail
  refine (HP.out v).mono ?_
  rintro _ w1 ⟨rfl, hr, ho⟩
  have HR := Lib.hid hr
  have HO := Lib.hid ho
  clear hr ho HP
  go_wp2_with fail
  first | go_end0 | (simp only [Exit.inBlock, Exit.then]; refine bodyPost_ret (results_none rfl _ _ _) rfl ?_) | refine bodyPost_ret (results_none rfl _ _ _) rfl ?_
  exact ⟨rfl, HR.out, HO.out⟩

end Go.Proofs.YtlaodmmjhjpfmaaGreat

/- Contracts of crew.Make, crew.Replace. -/
namespace Go.Proofs.YtlaodmmjhjpfmaaGreat
set_option linter.unusedVariables false
open Go.RowKit Go.Maps

attribute [local irreducible] wpList wpCalm
theorem crZ : crC 0 none 0 0 = #[.int .i64 0, .slice none 0 0] := rfl
theorem crC_info (f : Int) (A : Option Addr) (n c : Nat) : (Tryz.prog.info? 57).map (·.size) = some (crC f A n c).size := by kernel_rfl
theorem crC_one (f : Int) (A : Option Addr) (n c : Nat) : (crC f A n c).all (·.oneCell') = true := by simp [crC, Value.oneCell']
theorem crC_spl (f f' : Int) (A A' : Option Addr) (n c n' c' : Nat) : spl (crC f A n c) 0 (crC f' A' n' c').toList = crC f' A' n' c' := spl_self _ _ rfl

set_option maxRecDepth 100000 in
set_option maxHeartbeats 1000000 in
theorem crMake_any (f : Nat) (A : Option Addr) (n c : Nat) (l : List Int) (z : Int) (w : World) (B : Nat) (h : Reads w B 1 A n ((l ++ [z]).map vn)) (hB : B ≤ w.heap.size) (hp : l.Pairwise (· < ·)) (hz : ¬ z ∈ l) (hok : OkC f (insL z l)) :
    Calls Tryz.prog 132 #[.int .i64 (f : Int), .slice A n c] w fun e w' => ∃ A' c', e = .returned (.tuple #[.agg (crC f A' n c'), .int .i64 0]) ∧ OwnN w' w.heap.size (.slice A' n c') (insL z l) ∧ Below w.heap.size w w' := by
  have hzn : (l ++ [z]).length = n := by have := h.1; simpa using this
  have hs := hok.len
  have hf := hok.faults
  rw [insL_len] at hs
  rw [List.length_append, List.length_singleton] at hzn
  have hn7 : n = 1 ∨ n = 4 ∨ n = 7 := by omega
  have hX := below_lit w (.cells (crC 0 none 0 0) 57)
  have HX := Lib.hid hX
  have HK := Lib.hid (Blk.newAt rfl : Blk (w.alloc (.cells (crC 0 none 0 0) 57)) w.heap.size 57 (crC 0 none 0 0))
  have HCL := Lib.hid (cloneN_any A n c (l ++ [z]) (w.alloc (.cells (crC 0 none 0 0) 57)) B (h.below (hX.mono hB)) (Nat.le_trans hB hX.size) (by omega))
  have hs1 : (w.alloc (.cells (crC 0 none 0 0) 57)).heap.size = w.heap.size + 1 := by simp
  have HOK := Lib.hid hok
  have HZN := Lib.hid hzn
  have HN7 := Lib.hid hn7
  have HP := Lib.hid hp
  have HZ := Lib.hid hz
  have HSZ := Lib.hid hs1
  clear h hX hs hzn hok hn7 hp hz hs1
  obtain ⟨g, hg⟩ : ∃ g, g = w.heap.size := ⟨_, rfl⟩
  go_enter Tryz.func132, Tryz.ntmps132
  go_upto_region 1 with fail
  rw [← crZ]
  generalize World.alloc w _ = w1 at HX HK HCL HSZ ⊢
  rw [← hg] at HK ⊢
  have hgw : w.heap.size ≤ g := by omega
  have hgl := HK.out.lt
  clear hg HSZ
  go_wp2_with fail
  refine HCL.out.mono ?_
  rintro _ w2 ⟨v, rfl, how, hb2⟩
  obtain ⟨g2, cap, hv, hg2, hrow⟩ := RowN.of_own how (by simp)
  have hle : (l ++ [z]).length = n := by rw [List.length_append]; exact HZN.out
  rw [hle] at hv
  subst hv
  have HROW := Lib.hid hrow
  have hs2 := hb2.size
  have HK2 := Lib.hid (HK.out.below' hb2)
  have HB2 := Lib.hid (HX.out.trans (hb2.mono HX.out.size))
  clear how hrow hb2 HCL HK hle
  go_upto_region 2 with (refine wpList_store_part (o := ⟨none, _, _, _, _, _⟩) rfl 57 (.tmp 6) (.tmp 10) rfl w2.heap.size 0 (crC f (some ⟨g2, 0, none⟩) n cap) rfl rfl 57 (crC 0 none 0 0) (Blk.newAt rfl) (crC_info _ _ _ _) (by simp [crC]) (crC_one _ _ _ _) ?_; intro w3 hT3 hD3; rw [crC_spl] at hD3)
  have hb3 : Below w2.heap.size w2 w3 := hT3.below (below_lit w2 _) (Nat.le_refl _)
  have hs3 := hb3.size
  obtain ⟨g6, hg6⟩ : ∃ g, g = w2.heap.size := ⟨_, rfl⟩
  rw [← hg6] at hD3 ⊢
  have HD3 := Lib.hid hD3
  have hrl := HROW.out.lt
  have HROW3 := Lib.hid (HROW.out.below hb3 hrl)
  have HK3 := Lib.hid (HK2.out.below' hb3)
  have HB3 := Lib.hid (HB2.out.trans (hb3.mono HB2.out.size))
  have hg26 : g2 ≠ g6 := by omega
  have hgg2 : g ≠ g2 := by omega
  have hgg6 : g ≠ g6 := by omega
  have hg6w : w.heap.size ≤ g6 := by have := HB2.out.size; omega
  have hg2w : w.heap.size ≤ g2 := by have := HX.out.size; omega
  have c61 : w3.cell? ⟨g6, 1, none⟩ = some (.slice (some ⟨g2, 0, none⟩) n cap) := (HD3.out.cell 1).trans rfl
  have HSO := Lib.hid (sort_any g2 cap n l z w3 HROW3.out HZN.out.symm HP.out HZ.out HN7.out)
  clear hT3 hD3 hb3 hg6 HROW HK2 HB2 hs2 hs3
  go_wp2_with fail
  refine HSO.out.mono ?_
  rintro _ w4 ⟨rfl, hrow4, hon4⟩
  have HB4 := Lib.hid (HB3.out.trans (hon4.below (B := w.heap.size) HB3.out.size fun b hb e => by omega))
  have HD4 := Lib.hid (hon4.blk HD3.out (fun e => hg26 e.symm))
  have HK4 := Lib.hid (hon4.blk HK3.out hgg2)
  have HROW4 := Lib.hid hrow4
  have hle4 : (insL z l).length = n := by rw [insL_len]; exact HZN.out
  have hre4 := hrow4.reads
  rw [hle4] at hre4
  have HCK := Lib.hid (crCheck_any f (some ⟨g2, 0, none⟩) n cap (insL z l) w4 hre4 (by rcases HN7.out with e | e | e <;> omega))
  rw [okCB_of HOK.out, if_pos rfl] at HCK
  have HLE4 := Lib.hid hle4
  obtain ⟨D, hD⟩ : ∃ D, D = crC f (some ⟨g2, 0, none⟩) n cap := ⟨_, rfl⟩
  have hsz : D.size = 2 := by rw [hD]; rfl
  have hone : D.all (·.oneCell') = true := by rw [hD]; exact crC_one _ _ _ _
  rw [← hD] at HD4 HCK
  have HD := Lib.hid hD
  have HSZ := Lib.hid hsz
  have HONE := Lib.hid hone
  clear hrow4 hon4 hre4 hle4 HSO HROW3 HD3 HK3 HB3 hD hsz hone
  go_wp2_with (refine wpList_load_part (o := ⟨some 14, _, _, _, _, _⟩) rfl 57 (.tmp 6) rfl g6 0 2 rfl 57 _ D _ HD4.out Tryz.underlying57 rfl rfl HSZ.out (fun _ _ => by rw [Nat.zero_add]; try rfl) ?_)
  refine HCK.out.mono ?_
  rintro _ w5 ⟨rfl, hb5⟩
  have hs5 := hb5.size
  have hs4 := HB4.out.size
  have HB5 := Lib.hid (HB4.out.trans (hb5.mono hs4))
  have HD5 := Lib.hid (HD4.out.below' hb5)
  have HK5 := Lib.hid (HK4.out.below' hb5)
  have HROW5 := Lib.hid (HROW4.out.below hb5 HROW4.out.lt)
  clear hb5 HB4 HD4 HK4 HCK
  go_wp2_with (first
    | (refine wpList_load_part (o := ⟨some 18, _, _, _, _, _⟩) rfl 57 (.tmp 6) rfl g6 0 2 rfl 57 _ D _ HD5.out Tryz.underlying57 rfl rfl HSZ.out (fun _ _ => by rw [Nat.zero_add]; try rfl) ?_)
    | (refine wpList_store_part (o := ⟨none, _, _, _, _, _⟩) rfl 57 (.tmp 4) (.tmp 18) rfl g 0 D rfl rfl 57 _ HK5.out (by rw [HSZ.out]; rfl) (by rw [HSZ.out]; simp [crC]) HONE.out ?_; intro w6 hT6 hD6; rw [spl_self _ _ (by rw [HSZ.out]; rfl)] at hD6))
  refine bodyPost_ret (results_part2 rfl _ _ g 2 57 _ _ rfl hD6 Tryz.underlying57 rfl rfl HSZ.out) rfl ⟨some ⟨g2, 0, none⟩, cap, by rw [HD.out]; rfl, ?_, ?_⟩
  · have := (HROW5.out.keep (hT6.block g2 (fun e => hgg2 e.symm))).own (B := w.heap.size) hg2w
    rw [HLE4.out] at this
    exact this
  · exact hT6.below HB5.out hgw

end Go.Proofs.YtlaodmmjhjpfmaaGreat

/- A guarded load of a struct. -/
namespace Go.Proofs.YtlaodmmjhjpfmaaGreat
set_option linter.unusedVariables false
open Go.RowKit

theorem wpList_load_guarded {P : Program} {ops : Array Oper} {rest : List Oper} {o : Oper} {a : Act} {w : World} {Q : Exit → Act → World → Prop} (hw : Region.wanted o (yielded ops a.tmps) = true) (ty : TypeId) (x : Operand) (ho : o.op = .load ty x)
    (g off n : Nat) (hx : a.eval x = .pointer (some ⟨g, off, none⟩)) (t : TypeId) (cs vs : Array Value) (d : TypeDesc) (hB : Blk w g t cs)
    (hu : P.underlying ty = some d) (hd : (match d with | .struct _ | .array _ _ => true | _ => false) = true) (hi : (P.info? ty).map (·.size) = some n)
    (hn : vs.size = n) (hv : ∀ j, j < n → cs[off + j]? = vs[j]?)
    (h : wpList P ops Q rest (a.put o.dst (.agg vs)) w) : wpList P ops Q (o :: rest) a w := by
  unfold wpList
  rw [if_pos hw]
  exact .inl (wp_load_part ty x ho g off n hx t cs vs d hB hu hd hi hn hv h)
theorem wpList_exec_want {P : Program} {ops : Array Oper} {rest : List Oper} {o : Oper} {a : Act} {w : World} {Q : Exit → Act → World → Prop} (hw : Region.wanted o (yielded ops a.tmps) = true) (v : Value)
    (he : (execOp a.eval o).run P w = .ok (.value v) w) (h : wpList P ops Q rest (a.put o.dst v) w) : wpList P ops Q (o :: rest) a w := by
  unfold wpList
  rw [if_pos hw]
  refine .inl ?_
  unfold Oper.wp
  rw [he]
  exact h

end Go.Proofs.YtlaodmmjhjpfmaaGreat
