/-
  Contract of sha.take.
-/
import Derived.Test.YtcmbmimmfgfefaaGreatRor
import Derived.Test.YtcmbmimmfgfefaaGreatShaMath
import Derived.StillTailTactics
namespace Go.Proofs.YtcmbmimmfgfefaaGreat
set_option linter.unusedVariables false
open Go.RowKit

attribute [local go_sem] w_add w_add' w_sub w_sub' w_and w_or w_xor w_not w_shr w_shl w_shl' w_shl8 w_shl8' w_shr3 w_shr10 b32_wrap b32_wrap' w8_wrap w8_wrap'
attribute [local go_sem] u32_signed u32_max

/-- an array of 64 bytes, of words, as it stands in memory -/
def BytesAt (w : World) (ad : Addr) (l : List UInt8) : Prop := ∀ j (h : j < l.length), w.cell? (ad.add j) = some (vb l[j])
def WordsAt (w : World) (ad : Addr) (l : List W32) : Prop := ∀ j (h : j < l.length), w.cell? (ad.add j) = some (vw l[j])

/-- the first k bytes of a word -/
def partW (blk : List UInt8) (t : Nat) : Nat → W32
  | 0 => 0
  | k + 1 => partW blk t k <<< 8 ||| b32 (blk.getD (4 * t + k) 0)
theorem partW_4 (blk : List UInt8) (t : Nat) (h : t < 16) (l : List W32) : partW blk t 4 = nextW blk l t := by
  rw [nextW, if_pos h]; simp [partW, be4]

/-- the schedule as it is made: t words, noughts behind them -/
def schedF (blk : List UInt8) (t j : Nat) : Value := vw (if j < t then (schedTo blk t).getD j 0 else 0)
def schedCells (blk : List UInt8) (t : Nat) : Array Value := rng 64 (schedF blk t)

theorem schedCells_set0 (blk : List UInt8) (t : Nat) (h : t < 64) : (schedCells blk t).setIfInBounds t (vw (partW blk t 0)) = schedCells blk t := by
  unfold schedCells
  rw [rng_set]
  refine rng_ext fun j hj => ?_
  split
  · rename_i e; subst e; simp [schedF, partW]
  · rfl
def zeros8 : Array Value := #[.int .u32 0, .int .u32 0, .int .u32 0, .int .u32 0, .int .u32 0, .int .u32 0, .int .u32 0, .int .u32 0]
theorem schedCells_zero (blk : List UInt8) : schedCells blk 0 = Array.replicate 64 (.int .u32 0) := by
  refine (rng_of (by simp) fun j hj => ?_).symm
  simp [schedF, vw, wi, hj]
theorem schedCells_get0 (blk : List UInt8) (t : Nat) (h : t < 64) : (schedCells blk t)[t]? = some (vw 0) := by
  unfold schedCells
  rw [rng_get _ _ _ h, schedF, if_neg (by omega)]
theorem schedCells_at (blk : List UInt8) (t : Nat) (v : Value) (h : t < 64) : ((schedCells blk t).setIfInBounds t v)[t]? = some v := by
  unfold schedCells
  rw [rng_set, rng_get _ _ _ h, if_pos rfl]
theorem schedCells_next (blk : List UInt8) (t : Nat) (h : t < 64) : (schedCells blk t).setIfInBounds t (vw (nextW blk (schedTo blk t) t)) = schedCells blk (t + 1) := by
  unfold schedCells
  rw [rng_set]
  refine rng_ext fun j hj => ?_
  have hl := schedTo_length blk t
  split
  · rename_i e; subst e
    simp [schedF, schedTo, hl]
  · rename_i e
    unfold schedF
    congr 1
    by_cases h1 : j < t
    · rw [if_pos h1, if_pos (by omega)]
      simp [schedTo, List.getElem?_append, hl, h1]
    · rw [if_neg h1, if_neg (by omega)]
theorem schedCells_get (blk : List UInt8) (t j : Nat) (h : j < t) (ht : t ≤ 64) : (schedCells blk t)[j]? = some (vw ((schedTo blk t).getD j 0)) := by
  unfold schedCells
  rw [rng_get _ _ _ (by omega), schedF, if_pos h]
/-- the state, the first k of its numbers each plus its letter -/
def addCells (s r : St) (k : Nat) : Array Value := rng 8 (fun j => vw (if j < k then s.list.getD j 0 + r.list.getD j 0 else s.list.getD j 0))
theorem addCells_zero (s r : St) : addCells s r 0 = s.vals := by
  refine (rng_of (by simp [St.vals]) fun j hj => ?_).symm
  match j, hj with
  | 0, _ | 1, _ | 2, _ | 3, _ | 4, _ | 5, _ | 6, _ | 7, _ => rfl
theorem addCells_at (s r : St) (k : Nat) (hk : k < 8) : ∃ u v, u = s.list.getD k 0 ∧ v = r.list.getD k 0 ∧ (addCells s r k)[k]? = some (vw u) ∧ r.vals[k]? = some (vw v) := by
  refine ⟨_, _, rfl, rfl, ?_, ?_⟩
  · rw [addCells, rng_get _ _ _ hk, if_neg (by omega)]
  · match k, hk with
    | 0, _ | 1, _ | 2, _ | 3, _ | 4, _ | 5, _ | 6, _ | 7, _ => rfl
theorem addCells_next (s r : St) (k : Nat) : (addCells s r k).setIfInBounds k (vw (s.list.getD k 0 + r.list.getD k 0)) = addCells s r (k + 1) := by
  unfold addCells
  rw [rng_set]
  refine rng_ext fun j hj => ?_
  split
  · rename_i e; subst e; rw [if_pos (by omega)]
  · rename_i e
    by_cases h1 : j < k
    · rw [if_pos h1, if_pos (by omega)]
    · rw [if_neg h1, if_neg (by omega)]
theorem addCells_8 (s r : St) : addCells s r 8 = (s.add r).vals := by
  refine (rng_of (by simp [St.vals]) fun j hj => ?_).symm
  match j, hj with
  | 0, _ | 1, _ | 2, _ | 3, _ | 4, _ | 5, _ | 6, _ | 7, _ => rfl
theorem BytesAt.getD {w : World} {ad : Addr} {l : List UInt8} (h : BytesAt w ad l) (j : Nat) (hj : j < l.length) : w.cell? (ad.add j) = some (.int .u8 (bi (l.getD j 0))) := by
  rw [h j hj, List.getD_eq_getElem?_getD, List.getElem?_eq_getElem hj]; rfl
theorem WordsAt.getD {w : World} {ad : Addr} {l : List W32} (h : WordsAt w ad l) (j : Nat) (hj : j < l.length) : w.cell? (ad.add j) = some (.int .u32 (wi (l.getD j 0))) := by
  rw [h j hj, List.getD_eq_getElem?_getD, List.getElem?_eq_getElem hj]; rfl

set_option maxRecDepth 100000 in
set_option maxHeartbeats 4000000 in
theorem take_any (s : St) (blk : List UInt8) (bd kd : Addr) (w : World) (hbl : blk.length = 64) (hb : BytesAt w bd blk) (hk : WordsAt w kd kc) (hbb : bd.block < w.heap.size) (hkb : kd.block < w.heap.size) :
    Calls Tryz.prog 66 #[.agg s.vals, .pointer (some bd), .pointer (some kd)] w fun e w' => e = .returned (.agg (compress s blk).vals) ∧ Below w.heap.size w w' := by
  unfold St.vals vw
  go_enter Tryz.func66, Tryz.ntmps66
  go_wp2
  go_loopw [26] (fun i wr => ∃ t : Nat, t ≤ 64 ∧ i = .int .i64 t ∧ Blk wr w.heap.size 95 s.vals ∧ Blk wr (w.heap.size + 1) 95 zeros8 ∧ Blk wr (w.heap.size + 1 + 1) 113 (schedCells blk t) ∧ Below w.heap.size w wr) (fun i _ => 64 - (intOf i).toNat)
  case atStart =>
    refine ⟨0, by omega, rfl, ((Blk.new w 95 s.vals).alloc _).alloc _, (Blk.newAt (cs := zeros8) (by simp)).alloc _, ?_, (((Below.refl _ _).alloc (Nat.le_refl _) _).alloc (by simp) _).alloc (by simp; omega) _⟩
    rw [schedCells_zero]
    exact Blk.newAt (by simp)
  case round =>
    obtain ⟨t, ht, rfl, hB0, hB1, hB2, hbel⟩ := hrel
    by_cases ht1 : t < 64
    · by_cases ht2 : t < 16
      · have hsl := fun W => run_sliceArr (P := Tryz.prog) (t := 97) (e := 5) (n := 64) rfl rfl bd (4 * t) (4 * t + 4) (4 * (t : Int)) (4 * (t : Int) + 4) (by omega) (by omega) (by omega) (by omega) (by omega) W
        rw [show 4 * t + 4 - 4 * t = 4 from by omega] at hsl
        go_wp2
        obtain ⟨wo, rfl⟩ : ∃ wo : World, wo = wr := ⟨_, rfl⟩
        go_loopw [40] (fun i wr => ∃ k : Nat, k ≤ 4 ∧ i = .int .i64 k ∧ Blk wr w.heap.size 95 s.vals ∧ Blk wr (w.heap.size + 1) 95 zeros8 ∧ Blk wr (w.heap.size + 1 + 1) 113 ((schedCells blk t).setIfInBounds t (vw (partW blk t k))) ∧ Below w.heap.size w wr) (fun i _ => 4 - (intOf i).toNat)
        case atStart => exact ⟨0, by omega, rfl, hB0, hB1, by rw [schedCells_set0 blk t ht1]; exact hB2, hbel⟩
        case round =>
          obtain ⟨k, hk4, rfl, hB0, hB1, hB2, hbel⟩ := hrel
          by_cases hk5 : k < 4
          · have hc1 : wr.cell? ((bd.add (4 * t)).add k) = some (.int .u8 (bi (blk.getD (4 * t + k) 0))) := by
              rw [hbel.cell (by rw [block_of_add, block_of_add]; exact hbb), add_of_add]; exact hb.getD _ (by omega)
            have hc2 := hB2.cell t
            rw [schedCells_at blk t _ ht1] at hc2
            have hf2 := hB2.frozen t
            unfold vw at hc2
            clear hsl
            go_wp2
            go_roundw
            case rel =>
              have h2 := hB2.set_ t (vw (partW blk t (k + 1)))
              rw [Array.setIfInBounds_setIfInBounds] at h2
              exact ⟨k + 1, by omega, by go_num, hB0.far (p := ⟨w.heap.size + 1 + 1, t, none⟩) (by simp; omega) _, hB1.far (p := ⟨w.heap.size + 1 + 1, t, none⟩) (by simp) _, h2, hbel.setCell (p := ⟨w.heap.size + 1 + 1, t, none⟩) (by simp; omega) _⟩
            case measure => simp [intOf]; omega
          · obtain rfl : k = 4 := by omega
            rw [partW_4 blk t ht2 (schedTo blk t), schedCells_next blk t ht1] at hB2
            clear hsl
            go_wp2
            go_roundw
            case rel => exact ⟨t + 1, by omega, by go_num, hB0, hB1, hB2, hbel⟩
            case measure => simp [intOf]; omega
      · have e1 : (((t : Int) - 15).toNat) = t - 15 := by omega
        have e2 : (((t : Int) - 2).toNat) = t - 2 := by omega
        have e3 : (((t : Int) - 16).toNat) = t - 16 := by omega
        have e4 : (((t : Int) - 7).toNat) = t - 7 := by omega
        have c1 := (hB2.cell (t - 15)).trans (schedCells_get blk t (t - 15) (by omega) ht)
        have c2 := (hB2.cell (t - 2)).trans (schedCells_get blk t (t - 2) (by omega) ht)
        have c3 := (hB2.cell (t - 16)).trans (schedCells_get blk t (t - 16) (by omega) ht)
        have c4 := (hB2.cell (t - 7)).trans (schedCells_get blk t (t - 7) (by omega) ht)
        unfold vw at c1 c2 c3 c4
        generalize hx1 : (schedTo blk t).getD (t - 15) 0 = x1 at c1
        generalize hx2 : (schedTo blk t).getD (t - 2) 0 = x2 at c2
        generalize hx3 : (schedTo blk t).getD (t - 16) 0 = x3 at c3
        generalize hx4 : (schedTo blk t).getD (t - 7) 0 = x4 at c4
        have HX := Lib.hid (And.intro hx1 (And.intro hx2 (And.intro hx3 hx4)))
        clear hx1 hx2 hx3 hx4
        go_wp2
        go_quiet (fail)
        go_wp2
        have w16 : IntKind.i64.wrap ((t : Int) - 16) = (t : Int) - 16 := IntWalk.i64_in _ (by omega)
        have w7 : IntKind.i64.wrap ((t : Int) - 7) = (t : Int) - 7 := IntWalk.i64_in _ (by omega)
        have b16 : (t : Int) - 16 < 64 := by omega
        have b77 : (7 : Int) ≤ t := by omega
        have b17 : (16 : Int) ≤ t := by omega
        have b7 : (t : Int) - 7 < 64 := by omega
        refine wp_region_still_drew 29 (by kernel_rfl) (by kernel_rfl) ?_
        simp only [List.take_succ_cons, List.take_zero, List.drop_succ_cons, List.drop_zero]
        repeat still_step
        still_call (shaRor_still x1 7 (by omega) (by omega) _)
        repeat still_step
        still_call (shaRor_still x1 18 (by omega) (by omega) _)
        repeat still_step
        still_call (shaRor_still x2 17 (by omega) (by omega) _)
        repeat still_step
        still_call (shaRor_still x2 19 (by omega) (by omega) _)
        repeat still_step
        refine wpStill_nil ?_
        have c0 := (hB2.cell t).trans (schedCells_get0 blk t ht1)
        have f0 := hB2.frozen t
        unfold vw at c0
        go_wp2
        go_roundw
        case rel =>
          obtain ⟨h1, h2, h3, h4⟩ := HX.out
          have hn : nextW blk (schedTo blk t) t = x3 + sml0 x1 + x4 + sml1 x2 := by rw [nextW, if_neg ht2, h1, h2, h3, h4]
          have hs := (hB2.drewN (nq + 1)).set_ t (vw (nextW blk (schedTo blk t) t))
          rw [schedCells_next blk t ht1, hn] at hs
          exact ⟨t + 1, by omega, by go_num, (hB0.drewN (nq + 1)).far (p := ⟨w.heap.size + 1 + 1, t, none⟩) (by simp; omega) _, (hB1.drewN (nq + 1)).far (p := ⟨w.heap.size + 1 + 1, t, none⟩) (by simp) _, hs, (below_drewN hbel (nq + 1)).setCell (p := ⟨w.heap.size + 1 + 1, t, none⟩) (by simp; omega) _⟩
        case measure => simp [intOf]; omega
    · obtain rfl : t = 64 := by omega
      have q0 := hB0.cell 0
      have q1 := hB0.cell 1
      have q2 := hB0.cell 2
      have q3 := hB0.cell 3
      have q4 := hB0.cell 4
      have q5 := hB0.cell 5
      have q6 := hB0.cell 6
      have q7 := hB0.cell 7
      unfold St.vals vw at q0 q1 q2 q3 q4 q5 q6 q7
      go_wp2
      go_quiet (fail)
      go_wp2
      obtain ⟨wo, hwo⟩ : ∃ wo : World, wo = wr := ⟨_, rfl⟩
      clear hwo
      go_loopw [13, 14, 15, 16, 17, 18, 19, 20, 108] (fun va vb' vc vd ve vf vg vh i wr => ∃ (t : Nat) (S : St), t ≤ 64 ∧ i = .int .i64 t ∧ S = roundsTo s (schedTo blk 64) t ∧ va = .int .u32 (wi S.a) ∧ vb' = .int .u32 (wi S.b) ∧ vc = .int .u32 (wi S.c) ∧ vd = .int .u32 (wi S.d) ∧ ve = .int .u32 (wi S.e) ∧ vf = .int .u32 (wi S.f) ∧ vg = .int .u32 (wi S.g) ∧ vh = .int .u32 (wi S.h) ∧ Blk wr w.heap.size 95 s.vals ∧ Blk wr (w.heap.size + 1) 95 zeros8 ∧ Blk wr (w.heap.size + 1 + 1) 113 (schedCells blk 64) ∧ Below w.heap.size w wr) (fun _ _ _ _ _ _ _ _ i _ => 64 - (intOf i).toNat)
      case atStart => exact ⟨0, s, by omega, rfl, rfl, rfl, rfl, rfl, rfl, rfl, rfl, rfl, rfl, hB0.drewN _, hB1.drewN _, hB2.drewN _, below_drewN hbel _⟩
      case round =>
        clear q0 q1 q2 q3 q4 q5 q6 q7 hB0 hB1 hB2 hbel
        obtain ⟨t, ⟨sa, sb, sc, sd, se, sf, sg, sh⟩, ht, rfl, hS, rfl, rfl, rfl, rfl, rfl, rfl, rfl, rfl, hB0, hB1, hB2, hbel⟩ := hrel
        have HS := Lib.hid hS
        clear hS
        by_cases ht1 : t < 64
        · have hkc : wr.cell? (kd.add t) = some (.int .u32 (wi (kc.getD t 0))) := by
            rw [hbel.cell (by rw [block_of_add]; exact hkb)]; exact hk.getD _ ht1
          have hwc := (hB2.cell t).trans (schedCells_get blk 64 t ht1 (by omega))
          unfold vw at hwc
          generalize hx1 : (schedTo blk 64).getD t 0 = x1 at hwc
          generalize hx2 : kc.getD t 0 = x2 at hkc
          have HX := Lib.hid (And.intro hx1 hx2)
          clear hx1 hx2 hb hk
          go_wp2
          go_quiet ((go_at_call 77; exact Calls.quiet_of_same (shaRor_still _ _ (by omega) (by omega) _)))
          go_wp2_with (go_at_call 77; refine (shaRor_still _ _ (by omega) (by omega) _).mono ?_; rintro _ _ ⟨rfl, rfl⟩)
          go_roundw
          case rel =>
            obtain ⟨h1, h2⟩ := HX.out
            have hst : rstep ⟨sa, sb, sc, sd, se, sf, sg, sh⟩ x2 x1 = roundsTo s (schedTo blk 64) (t + 1) := by rw [roundsTo, ← HS.out, h1, h2]
            repeat apply Exists.intro
            exact ⟨⟨t + 1, _, by omega, by go_num, hst, rfl, rfl, rfl, rfl, rfl, rfl, rfl, rfl, hB0.drewN _, hB1.drewN _, hB2.drewN _, below_drewN hbel _⟩, rfl⟩
          case measure => simp [intOf]; omega
        · obtain rfl : t = 64 := by omega
          clear hb hk
          go_wp2
          have hidx := fun (cs : Array Value) (k : Nat) (v : Value) (hk : k < 8) (hv : cs[k]? = some v) => run_index_arr (P := Tryz.prog) (t := 95) (e := 94) (n := 8) rfl rfl (fun w => by kernel_rfl) cs k v hk hv
          have HI := Lib.hid hidx
          clear hidx
          obtain ⟨wo, hwo⟩ : ∃ wo : World, wo = wr := ⟨_, rfl⟩
          clear hwo
          go_loopw [182] (fun i wr => ∃ k : Nat, k ≤ 8 ∧ i = .int .i64 k ∧ Blk wr w.heap.size 95 (addCells s ⟨sa, sb, sc, sd, se, sf, sg, sh⟩ k) ∧ Blk wr (w.heap.size + 1) 95 zeros8 ∧ Below w.heap.size w wr) (fun i _ => 8 - (intOf i).toNat)
          case atStart => exact ⟨0, by omega, rfl, by rw [addCells_zero]; exact hB0, hB1, hbel⟩
          case round =>
            clear hB0 hB1 hB2 hbel
            obtain ⟨k, hk, rfl, hB0, hB1, hbel⟩ := hrel
            by_cases hk1 : k < 8
            · obtain ⟨u, v, hu, hv, hc, hi⟩ := addCells_at s ⟨sa, sb, sc, sd, se, sf, sg, sh⟩ k hk1
              have hrun := HI.out (St.vals ⟨sa, sb, sc, sd, se, sf, sg, sh⟩) k _ hk1 hi
              have hcell := (hB0.cell k).trans hc
              have hfz := hB0.frozen k
              unfold vw at hrun hcell
              unfold St.vals at hrun
              unfold vw at hrun
              dsimp only at hrun
              have HH := Lib.hid (And.intro hu (And.intro hv (And.intro hc hi)))
              clear hu hv hc hi
              go_wp2
              go_roundw
              case rel =>
                obtain ⟨h1, h2, _, _⟩ := HH.out
                have hs := hB0.set_ k (vw (u + v))
                have he := addCells_next s ⟨sa, sb, sc, sd, se, sf, sg, sh⟩ k
                rw [← h1, ← h2] at he
                rw [he] at hs
                exact ⟨k + 1, by omega, by go_num, hs, hB1.far (p := ⟨w.heap.size, k, none⟩) (by simp) _, hbel.setCell (p := ⟨w.heap.size, k, none⟩) (by simp) _⟩
              case measure => simp [intOf]; omega
            · obtain rfl : k = 8 := by omega
              have hfin : s.add ⟨sa, sb, sc, sd, se, sf, sg, sh⟩ = compress s blk := by rw [compress, ← HS.out]
              rw [addCells_8, hfin] at hB0
              generalize hR : compress s blk = R at hB0
              have HR := Lib.hid hR
              clear hR hfin HS HI
              have q0 := hB0.cell 0
              have q1 := hB0.cell 1
              have q2 := hB0.cell 2
              have q3 := hB0.cell 3
              have q4 := hB0.cell 4
              have q5 := hB0.cell 5
              have q6 := hB0.cell 6
              have q7 := hB0.cell 7
              have r0 := hB1.cell 0
              have r1 := hB1.cell 1
              have r2 := hB1.cell 2
              have r3 := hB1.cell 3
              have r4 := hB1.cell 4
              have r5 := hB1.cell 5
              have r6 := hB1.cell 6
              have r7 := hB1.cell 7
              have hf := hB1.frozen
              unfold St.vals vw at q0 q1 q2 q3 q4 q5 q6 q7
              unfold zeros8 at r0 r1 r2 r3 r4 r5 r6 r7
              clear hB0 hB1
              go_wp2
              refine bodyPost_ret (v := .agg #[.int .u32 (wi R.a), .int .u32 (wi R.b), .int .u32 (wi R.c), .int .u32 (wi R.d), .int .u32 (wi R.e), .int .u32 (wi R.f), .int .u32 (wi R.g), .int .u32 (wi R.h)]) ?_ rfl ⟨by rw [HR.out], ?_⟩
              · simp [results, Tryz.results66, go_sem, r0, r1, r2, r3, r4, r5, r6, r7]
              · repeat (refine Below.setCell ?_ (by simp) _)
                exact hbel

end Go.Proofs.YtcmbmimmfgfefaaGreat
