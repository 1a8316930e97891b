/- Parts of the proof, in one text: Ror, Take, Write, SumPlain. -/
import Derived.Test.YtcpngeiahgoacaaGreatRows
import Derived.Test.YtcpngeiahgoacaaGreatZ1
import Derived.StillTailTactics
import Derived.Test.YtcpngeiahgoacaaGreatZ2
import Derived.Deep.LoopGhost
import Derived.Deep.RegionLaw

/- Contracts of sha.ror and math/bits.RotateLeft32. -/
namespace Go.Proofs.YtcpngeiahgoacaaGreat
set_option linter.unusedVariables false
open Go.RowKit

attribute [local go_sem] w_add w_add' w_sub w_sub' w_and w_or w_xor w_not w_shr w_shl w_shl'

set_option maxHeartbeats 400000 in
theorem shaRor_any (x : W32) (n : Nat) (h : 0 < n) (h' : n < 32) (w : World) :
    Calls Tryz.prog 231 #[vw x, .int .i64 (n : Int)] w fun e w' => e = .returned (vw (x.rotateRight n)) ∧ w = w' := by
  unfold vw
  have hr := rot_and n h h'
  go_enter Tryz.func231, Tryz.ntmps231
  go_wp2
  go_ret
  exact ⟨ret_int (by rw [sub_sub_ n h', ror_or x n h']), rfl⟩

/-- the same, as a region that draws wants it -/
theorem shaRor_still (x : W32) (n : Int) (h : 0 < n) (h' : n < 32) (w : World) :
    Calls Tryz.prog 231 #[.int .u32 (wi x), .int .i64 n] w fun e w' => e = .returned (.int .u32 (wi (x.rotateRight n.toNat))) ∧ w' = w := by
  obtain ⟨m, rfl⟩ := Int.eq_ofNat_of_zero_le (show 0 ≤ n by omega)
  exact (shaRor_any x m (by omega) (by omega) w).mono fun _ _ ⟨h1, h2⟩ => ⟨by rw [h1]; rfl, h2.symm⟩

end Go.Proofs.YtcpngeiahgoacaaGreat

/- Contract of sha.take. -/
namespace Go.Proofs.YtcpngeiahgoacaaGreat
set_option linter.unusedVariables false
open Go.RowKit
attribute [local irreducible] wpList

attribute [local go_sem] w_add w_add' w_sub w_sub' w_and w_or w_xor w_not w_shr w_shl w_shl' w_shl8 w_shl8' w_shr3 w_shr10 b32_wrap b32_wrap' w8_wrap w8_wrap'
attribute [local go_sem] u32_signed u32_max

/-- an array of 64 bytes, of words, as it stands in memory -/
def BytesAt (w : World) (ad : Addr) (l : List UInt8) : Prop := ∀ j (h : j < l.length), w.cell? (ad.add j) = some (vb l[j])
def WordsAt (w : World) (ad : Addr) (l : List W32) : Prop := ∀ j (h : j < l.length), w.cell? (ad.add j) = some (vw l[j])

/-- the first k bytes of a word -/
def partW (blk : List UInt8) (t : Nat) : Nat → W32
  | 0 => 0
  | k + 1 => partW blk t k <<< 8 ||| b32 (blk.getD (4 * t + k) 0)
theorem partW_4 (blk : List UInt8) (t : Nat) (h : t < 16) (l : List W32) : partW blk t 4 = nextW blk l t := by
  rw [nextW, if_pos h]; simp [partW, be4]

/-- the schedule as it is made: t words, noughts behind them -/
def schedF (blk : List UInt8) (t j : Nat) : Value := vw (if j < t then (schedTo blk t).getD j 0 else 0)
def schedCells (blk : List UInt8) (t : Nat) : Array Value := rng 64 (schedF blk t)

theorem schedCells_set0 (blk : List UInt8) (t : Nat) (h : t < 64) : (schedCells blk t).setIfInBounds t (vw (partW blk t 0)) = schedCells blk t := by
  unfold schedCells
  rw [rng_set]
  refine rng_ext fun j hj => ?_
  split
  · rename_i e; subst e; simp [schedF, partW]
  · rfl
def zeros8 : Array Value := #[.int .u32 0, .int .u32 0, .int .u32 0, .int .u32 0, .int .u32 0, .int .u32 0, .int .u32 0, .int .u32 0]
theorem schedCells_zero (blk : List UInt8) : schedCells blk 0 = Array.replicate 64 (.int .u32 0) := by
  refine (rng_of (by simp) fun j hj => ?_).symm
  simp [schedF, vw, wi, hj]
theorem schedCells_get0 (blk : List UInt8) (t : Nat) (h : t < 64) : (schedCells blk t)[t]? = some (vw 0) := by
  unfold schedCells
  rw [rng_get _ _ _ h, schedF, if_neg (by omega)]
theorem schedCells_at (blk : List UInt8) (t : Nat) (v : Value) (h : t < 64) : ((schedCells blk t).setIfInBounds t v)[t]? = some v := by
  unfold schedCells
  rw [rng_set, rng_get _ _ _ h, if_pos rfl]
theorem schedCells_next (blk : List UInt8) (t : Nat) (h : t < 64) : (schedCells blk t).setIfInBounds t (vw (nextW blk (schedTo blk t) t)) = schedCells blk (t + 1) := by
  unfold schedCells
  rw [rng_set]
  refine rng_ext fun j hj => ?_
  have hl := schedTo_length blk t
  split
  · rename_i e; subst e
    simp [schedF, schedTo, hl]
  · rename_i e
    unfold schedF
    congr 1
    by_cases h1 : j < t
    · rw [if_pos h1, if_pos (by omega)]
      simp [schedTo, List.getElem?_append, hl, h1]
    · rw [if_neg h1, if_neg (by omega)]
theorem schedCells_get (blk : List UInt8) (t j : Nat) (h : j < t) (ht : t ≤ 64) : (schedCells blk t)[j]? = some (vw ((schedTo blk t).getD j 0)) := by
  unfold schedCells
  rw [rng_get _ _ _ (by omega), schedF, if_pos h]
/-- the state, the first k of its numbers each plus its letter -/
def addCells (s r : St) (k : Nat) : Array Value := rng 8 (fun j => vw (if j < k then s.list.getD j 0 + r.list.getD j 0 else s.list.getD j 0))
theorem addCells_zero (s r : St) : addCells s r 0 = s.vals := by
  refine (rng_of (by simp [St.vals]) fun j hj => ?_).symm
  match j, hj with
  | 0, _ | 1, _ | 2, _ | 3, _ | 4, _ | 5, _ | 6, _ | 7, _ => rfl
theorem addCells_at (s r : St) (k : Nat) (hk : k < 8) : ∃ u v, u = s.list.getD k 0 ∧ v = r.list.getD k 0 ∧ (addCells s r k)[k]? = some (vw u) ∧ r.vals[k]? = some (vw v) := by
  refine ⟨_, _, rfl, rfl, ?_, ?_⟩
  · rw [addCells, rng_get _ _ _ hk, if_neg (by omega)]
  · match k, hk with
    | 0, _ | 1, _ | 2, _ | 3, _ | 4, _ | 5, _ | 6, _ | 7, _ => rfl
theorem addCells_next (s r : St) (k : Nat) : (addCells s r k).setIfInBounds k (vw (s.list.getD k 0 + r.list.getD k 0)) = addCells s r (k + 1) := by
  unfold addCells
  rw [rng_set]
  refine rng_ext fun j hj => ?_
  split
  · rename_i e; subst e; rw [if_pos (by omega)]
  · rename_i e
    by_cases h1 : j < k
    · rw [if_pos h1, if_pos (by omega)]
    · rw [if_neg h1, if_neg (by omega)]
theorem addCells_8 (s r : St) : addCells s r 8 = (s.add r).vals := by
  refine (rng_of (by simp [St.vals]) fun j hj => ?_).symm
  match j, hj with
  | 0, _ | 1, _ | 2, _ | 3, _ | 4, _ | 5, _ | 6, _ | 7, _ => rfl
theorem BytesAt.getD {w : World} {ad : Addr} {l : List UInt8} (h : BytesAt w ad l) (j : Nat) (hj : j < l.length) : w.cell? (ad.add j) = some (.int .u8 (bi (l.getD j 0))) := by
  rw [h j hj, List.getD_eq_getElem?_getD, List.getElem?_eq_getElem hj]; rfl
theorem WordsAt.getD {w : World} {ad : Addr} {l : List W32} (h : WordsAt w ad l) (j : Nat) (hj : j < l.length) : w.cell? (ad.add j) = some (.int .u32 (wi (l.getD j 0))) := by
  rw [h j hj, List.getD_eq_getElem?_getD, List.getElem?_eq_getElem hj]; rfl

set_option maxRecDepth 100000 in
set_option maxHeartbeats 4000000 in
theorem take_any (s : St) (blk : List UInt8) (bd kd : Addr) (w : World) (hbl : blk.length = 64) (hb : BytesAt w bd blk) (hk : WordsAt w kd kc) (hbb : bd.block < w.heap.size) (hkb : kd.block < w.heap.size) :
    Calls Tryz.prog 219 #[.agg s.vals, .pointer (some bd), .pointer (some kd)] w fun e w' => e = .returned (.agg (compress s blk).vals) ∧ Below w.heap.size w w' := by
  unfold St.vals vw
  go_enter Tryz.func219, Tryz.ntmps219
  go_wp2
  go_loopw [26] (fun i wr => ∃ t : Nat, t ≤ 64 ∧ i = .int .i64 t ∧ Blk wr w.heap.size 274 s.vals ∧ Blk wr (w.heap.size + 1) 274 zeros8 ∧ Blk wr (w.heap.size + 1 + 1) 273 (schedCells blk t) ∧ Below w.heap.size w wr) (fun i _ => 64 - (intOf i).toNat)
  case atStart =>
    refine ⟨0, by omega, rfl, ((Blk.new w 274 s.vals).alloc _).alloc _, (Blk.newAt (cs := zeros8) (by simp)).alloc _, ?_, (((Below.refl _ _).alloc (Nat.le_refl _) _).alloc (by simp) _).alloc (by simp; omega) _⟩
    rw [schedCells_zero]
    exact Blk.newAt (by simp)
  case round =>
    obtain ⟨t, ht, rfl, hB0, hB1, hB2, hbel⟩ := hrel
    by_cases ht1 : t < 64
    · by_cases ht2 : t < 16
      · have hsl := fun W => run_sliceArr (P := Tryz.prog) (t := 275) (e := 5) (n := 64) rfl rfl bd (4 * t) (4 * t + 4) (4 * (t : Int)) (4 * (t : Int) + 4) (by omega) (by omega) (by omega) (by omega) (by omega) W
        rw [show 4 * t + 4 - 4 * t = 4 from by omega] at hsl
        go_wp2
        obtain ⟨wo, rfl⟩ : ∃ wo : World, wo = wr := ⟨_, rfl⟩
        go_loopw [40] (fun i wr => ∃ k : Nat, k ≤ 4 ∧ i = .int .i64 k ∧ Blk wr w.heap.size 274 s.vals ∧ Blk wr (w.heap.size + 1) 274 zeros8 ∧ Blk wr (w.heap.size + 1 + 1) 273 ((schedCells blk t).setIfInBounds t (vw (partW blk t k))) ∧ Below w.heap.size w wr) (fun i _ => 4 - (intOf i).toNat)
        case atStart => exact ⟨0, by omega, rfl, hB0, hB1, by rw [schedCells_set0 blk t ht1]; exact hB2, hbel⟩
        case round =>
          obtain ⟨k, hk4, rfl, hB0, hB1, hB2, hbel⟩ := hrel
          by_cases hk5 : k < 4
          · have hc1 : wr.cell? ((bd.add (4 * t)).add k) = some (.int .u8 (bi (blk.getD (4 * t + k) 0))) := by
              rw [hbel.cell (by rw [block_of_add, block_of_add]; exact hbb), add_of_add]; exact hb.getD _ (by omega)
            have hc2 := hB2.cell t
            rw [schedCells_at blk t _ ht1] at hc2
            have hf2 := hB2.frozen t
            unfold vw at hc2
            clear hsl
            go_wp2
            go_roundw
            case rel =>
              have h2 := hB2.set_ t (vw (partW blk t (k + 1)))
              rw [Array.setIfInBounds_setIfInBounds] at h2
              exact ⟨k + 1, by omega, by go_num, hB0.far (p := ⟨w.heap.size + 1 + 1, t, none⟩) (by simp; omega) _, hB1.far (p := ⟨w.heap.size + 1 + 1, t, none⟩) (by simp) _, h2, hbel.setCell (p := ⟨w.heap.size + 1 + 1, t, none⟩) (by simp; omega) _⟩
            case measure => simp [intOf]; omega
          · obtain rfl : k = 4 := by omega
            rw [partW_4 blk t ht2 (schedTo blk t), schedCells_next blk t ht1] at hB2
            clear hsl
            go_wp2
            go_roundw
            case rel => exact ⟨t + 1, by omega, by go_num, hB0, hB1, hB2, hbel⟩
            case measure => simp [intOf]; omega
      · have e1 : (((t : Int) - 15).toNat) = t - 15 := by omega
        have e2 : (((t : Int) - 2).toNat) = t - 2 := by omega
        have e3 : (((t : Int) - 16).toNat) = t - 16 := by omega
        have e4 : (((t : Int) - 7).toNat) = t - 7 := by omega
        have c1 := (hB2.cell (t - 15)).trans (schedCells_get blk t (t - 15) (by omega) ht)
        have c2 := (hB2.cell (t - 2)).trans (schedCells_get blk t (t - 2) (by omega) ht)
        have c3 := (hB2.cell (t - 16)).trans (schedCells_get blk t (t - 16) (by omega) ht)
        have c4 := (hB2.cell (t - 7)).trans (schedCells_get blk t (t - 7) (by omega) ht)
        unfold vw at c1 c2 c3 c4
        generalize hx1 : (schedTo blk t).getD (t - 15) 0 = x1 at c1
        generalize hx2 : (schedTo blk t).getD (t - 2) 0 = x2 at c2
        generalize hx3 : (schedTo blk t).getD (t - 16) 0 = x3 at c3
        generalize hx4 : (schedTo blk t).getD (t - 7) 0 = x4 at c4
        have HX := Lib.hid (And.intro hx1 (And.intro hx2 (And.intro hx3 hx4)))
        clear hx1 hx2 hx3 hx4
        go_wp2
        go_quiet (fail)
        go_wp2
        have w16 : IntKind.i64.wrap ((t : Int) - 16) = (t : Int) - 16 := IntWalk.i64_in _ (by omega)
        have w7 : IntKind.i64.wrap ((t : Int) - 7) = (t : Int) - 7 := IntWalk.i64_in _ (by omega)
        have b16 : (t : Int) - 16 < 64 := by omega
        have b77 : (7 : Int) ≤ t := by omega
        have b17 : (16 : Int) ≤ t := by omega
        have b7 : (t : Int) - 7 < 64 := by omega
        refine wp_region_still_drew 29 (by kernel_rfl) (by kernel_rfl) ?_
        simp only [List.take_succ_cons, List.take_zero, List.drop_succ_cons, List.drop_zero]
        repeat still_step
        still_call (shaRor_still x1 7 (by omega) (by omega) _)
        repeat still_step
        still_call (shaRor_still x1 18 (by omega) (by omega) _)
        repeat still_step
        still_call (shaRor_still x2 17 (by omega) (by omega) _)
        repeat still_step
        still_call (shaRor_still x2 19 (by omega) (by omega) _)
        repeat still_step
        refine wpStill_nil ?_
        have c0 := (hB2.cell t).trans (schedCells_get0 blk t ht1)
        have f0 := hB2.frozen t
        unfold vw at c0
        go_wp2
        go_roundw
        case rel =>
          obtain ⟨h1, h2, h3, h4⟩ := HX.out
          have hn : nextW blk (schedTo blk t) t = x3 + sml0 x1 + x4 + sml1 x2 := by rw [nextW, if_neg ht2, h1, h2, h3, h4]
          have hs := (hB2.drewN (nq + 1)).set_ t (vw (nextW blk (schedTo blk t) t))
          rw [schedCells_next blk t ht1, hn] at hs
          exact ⟨t + 1, by omega, by go_num, (hB0.drewN (nq + 1)).far (p := ⟨w.heap.size + 1 + 1, t, none⟩) (by simp; omega) _, (hB1.drewN (nq + 1)).far (p := ⟨w.heap.size + 1 + 1, t, none⟩) (by simp) _, hs, (below_drewN hbel (nq + 1)).setCell (p := ⟨w.heap.size + 1 + 1, t, none⟩) (by simp; omega) _⟩
        case measure => simp [intOf]; omega
    · obtain rfl : t = 64 := by omega
      have q0 := hB0.cell 0
      have q1 := hB0.cell 1
      have q2 := hB0.cell 2
      have q3 := hB0.cell 3
      have q4 := hB0.cell 4
      have q5 := hB0.cell 5
      have q6 := hB0.cell 6
      have q7 := hB0.cell 7
      unfold St.vals vw at q0 q1 q2 q3 q4 q5 q6 q7
      go_wp2
      go_quiet (fail)
      go_wp2
      obtain ⟨wo, hwo⟩ : ∃ wo : World, wo = wr := ⟨_, rfl⟩
      clear hwo
      go_loopw [13, 14, 15, 16, 17, 18, 19, 20, 108] (fun va vb' vc vd ve vf vg vh i wr => ∃ (t : Nat) (S : St), t ≤ 64 ∧ i = .int .i64 t ∧ S = roundsTo s (schedTo blk 64) t ∧ va = .int .u32 (wi S.a) ∧ vb' = .int .u32 (wi S.b) ∧ vc = .int .u32 (wi S.c) ∧ vd = .int .u32 (wi S.d) ∧ ve = .int .u32 (wi S.e) ∧ vf = .int .u32 (wi S.f) ∧ vg = .int .u32 (wi S.g) ∧ vh = .int .u32 (wi S.h) ∧ Blk wr w.heap.size 274 s.vals ∧ Blk wr (w.heap.size + 1) 274 zeros8 ∧ Blk wr (w.heap.size + 1 + 1) 273 (schedCells blk 64) ∧ Below w.heap.size w wr) (fun _ _ _ _ _ _ _ _ i _ => 64 - (intOf i).toNat)
      case atStart => exact ⟨0, s, by omega, rfl, rfl, rfl, rfl, rfl, rfl, rfl, rfl, rfl, rfl, hB0.drewN _, hB1.drewN _, hB2.drewN _, below_drewN hbel _⟩
      case round =>
        clear q0 q1 q2 q3 q4 q5 q6 q7 hB0 hB1 hB2 hbel
        obtain ⟨t, ⟨sa, sb, sc, sd, se, sf, sg, sh⟩, ht, rfl, hS, rfl, rfl, rfl, rfl, rfl, rfl, rfl, rfl, hB0, hB1, hB2, hbel⟩ := hrel
        have HS := Lib.hid hS
        clear hS
        by_cases ht1 : t < 64
        · have hkc : wr.cell? (kd.add t) = some (.int .u32 (wi (kc.getD t 0))) := by
            rw [hbel.cell (by rw [block_of_add]; exact hkb)]; exact hk.getD _ ht1
          have hwc := (hB2.cell t).trans (schedCells_get blk 64 t ht1 (by omega))
          unfold vw at hwc
          generalize hx1 : (schedTo blk 64).getD t 0 = x1 at hwc
          generalize hx2 : kc.getD t 0 = x2 at hkc
          have HX := Lib.hid (And.intro hx1 hx2)
          clear hx1 hx2 hb hk
          go_wp2
          go_quiet ((go_at_call 231; exact Calls.quiet_of_same (shaRor_still _ _ (by omega) (by omega) _)))
          go_wp2_with (go_at_call 231; refine (shaRor_still _ _ (by omega) (by omega) _).mono ?_; rintro _ _ ⟨rfl, rfl⟩)
          go_roundw
          case rel =>
            obtain ⟨h1, h2⟩ := HX.out
            have hst : rstep ⟨sa, sb, sc, sd, se, sf, sg, sh⟩ x2 x1 = roundsTo s (schedTo blk 64) (t + 1) := by rw [roundsTo, ← HS.out, h1, h2]
            repeat apply Exists.intro
            exact ⟨⟨t + 1, _, by omega, by go_num, hst, rfl, rfl, rfl, rfl, rfl, rfl, rfl, rfl, hB0.drewN _, hB1.drewN _, hB2.drewN _, below_drewN hbel _⟩, rfl⟩
          case measure => simp [intOf]; omega
        · obtain rfl : t = 64 := by omega
          clear hb hk
          go_wp2
          have hidx := fun (cs : Array Value) (k : Nat) (v : Value) (hk : k < 8) (hv : cs[k]? = some v) => run_index_arr (P := Tryz.prog) (t := 274) (e := 191) (n := 8) rfl rfl (fun w => by kernel_rfl) cs k v hk hv
          have HI := Lib.hid hidx
          clear hidx
          obtain ⟨wo, hwo⟩ : ∃ wo : World, wo = wr := ⟨_, rfl⟩
          clear hwo
          go_loopw [182] (fun i wr => ∃ k : Nat, k ≤ 8 ∧ i = .int .i64 k ∧ Blk wr w.heap.size 274 (addCells s ⟨sa, sb, sc, sd, se, sf, sg, sh⟩ k) ∧ Blk wr (w.heap.size + 1) 274 zeros8 ∧ Below w.heap.size w wr) (fun i _ => 8 - (intOf i).toNat)
          case atStart => exact ⟨0, by omega, rfl, by rw [addCells_zero]; exact hB0, hB1, hbel⟩
          case round =>
            clear hB0 hB1 hB2 hbel
            obtain ⟨k, hk, rfl, hB0, hB1, hbel⟩ := hrel
            by_cases hk1 : k < 8
            · obtain ⟨u, v, hu, hv, hc, hi⟩ := addCells_at s ⟨sa, sb, sc, sd, se, sf, sg, sh⟩ k hk1
              have hrun := HI.out (St.vals ⟨sa, sb, sc, sd, se, sf, sg, sh⟩) k _ hk1 hi
              have hcell := (hB0.cell k).trans hc
              have hfz := hB0.frozen k
              unfold vw at hrun hcell
              unfold St.vals at hrun
              unfold vw at hrun
              dsimp only at hrun
              have HH := Lib.hid (And.intro hu (And.intro hv (And.intro hc hi)))
              clear hu hv hc hi
              go_wp2
              go_roundw
              case rel =>
                obtain ⟨h1, h2, _, _⟩ := HH.out
                have hs := hB0.set_ k (vw (u + v))
                have he := addCells_next s ⟨sa, sb, sc, sd, se, sf, sg, sh⟩ k
                rw [← h1, ← h2] at he
                rw [he] at hs
                exact ⟨k + 1, by omega, by go_num, hs, hB1.far (p := ⟨w.heap.size, k, none⟩) (by simp) _, hbel.setCell (p := ⟨w.heap.size, k, none⟩) (by simp) _⟩
              case measure => simp [intOf]; omega
            · obtain rfl : k = 8 := by omega
              have hfin : s.add ⟨sa, sb, sc, sd, se, sf, sg, sh⟩ = compress s blk := by rw [compress, ← HS.out]
              rw [addCells_8, hfin] at hB0
              generalize hR : compress s blk = R at hB0
              have HR := Lib.hid hR
              clear hR hfin HS HI
              have q0 := hB0.cell 0
              have q1 := hB0.cell 1
              have q2 := hB0.cell 2
              have q3 := hB0.cell 3
              have q4 := hB0.cell 4
              have q5 := hB0.cell 5
              have q6 := hB0.cell 6
              have q7 := hB0.cell 7
              have r0 := hB1.cell 0
              have r1 := hB1.cell 1
              have r2 := hB1.cell 2
              have r3 := hB1.cell 3
              have r4 := hB1.cell 4
              have r5 := hB1.cell 5
              have r6 := hB1.cell 6
              have r7 := hB1.cell 7
              have hf := hB1.frozen
              unfold St.vals vw at q0 q1 q2 q3 q4 q5 q6 q7
              unfold zeros8 at r0 r1 r2 r3 r4 r5 r6 r7
              clear hB0 hB1
              go_wp2
              refine bodyPost_ret (v := .agg #[.int .u32 (wi R.a), .int .u32 (wi R.b), .int .u32 (wi R.c), .int .u32 (wi R.d), .int .u32 (wi R.e), .int .u32 (wi R.f), .int .u32 (wi R.g), .int .u32 (wi R.h)]) ?_ rfl ⟨by rw [HR.out], ?_⟩
              · simp [results, Tryz.results219, go_sem, r0, r1, r2, r3, r4, r5, r6, r7]
              · repeat (refine Below.setCell ?_ (by simp) _)
                exact hbel

end Go.Proofs.YtcpngeiahgoacaaGreat

/- Contract of (*Hash).Write. -/
namespace Go.Proofs.YtcpngeiahgoacaaGreat
set_option linter.unusedVariables false
open Go.RowKit

/-- bytes that are read, beside block g -/
def Src (w : World) (g : Nat) (A : Option Addr) (n : Nat) (xs : List UInt8) : Prop :=
  xs.length = n ∧ (0 < n → ∃ ad, A = some ad ∧ ad.block ≠ g ∧ ad.block < w.heap.size ∧ ∀ j (h : j < xs.length), w.cell? (ad.add j) = some (vb xs[j]))
theorem Src.keep {w w' : World} {g n : Nat} {A : Option Addr} {xs : List UInt8} (h : Src w g A n xs) (hg : w.grownBy w' (some g)) : Src w' g A n xs :=
  ⟨h.1, fun hn => by
    obtain ⟨ad, h1, h2, h3, h4⟩ := h.2 hn
    exact ⟨ad, h1, h2, Nat.lt_of_lt_of_le h3 hg.size, fun j hj => (World.cell?_of_block (by rw [block_of_add]; exact hg.block _ h3 (fun e => h2 (by injection e)))).trans (h4 j hj)⟩⟩
theorem Src.cut {w : World} {g n c k : Nat} {A : Option Addr} {xs : List UInt8} (h : Src w g A n xs) (hk : k ≤ n) (hc : n ≤ c) : Src w g (if c = k then A else A.map (·.add k)) (n - k) (xs.drop k) := by
  refine ⟨by rw [List.length_drop, h.1], fun hn => ?_⟩
  obtain ⟨ad, rfl, h2, h3, h4⟩ := h.2 (by omega)
  rw [if_neg (by omega)]
  refine ⟨ad.add k, rfl, by rw [block_of_add]; exact h2, by rw [block_of_add]; exact h3, fun j hj => ?_⟩
  rw [add_of_add, List.getElem_drop]
  exact h4 _ _
theorem hash_cells8 {W : World} {g : Nat} {d m x y : Int} {k b : Nat → Value} {S : St} (hB : Blk W g 277 (hashCells d m k (sF S) b x y)) :
    (W.cell? ⟨g, 68, none⟩ = some (.int .u32 (wi S.a)) ∧ W.cell? ⟨g, 69, none⟩ = some (.int .u32 (wi S.b)) ∧ W.cell? ⟨g, 70, none⟩ = some (.int .u32 (wi S.c)) ∧ W.cell? ⟨g, 71, none⟩ = some (.int .u32 (wi S.d)) ∧
      W.cell? ⟨g, 72, none⟩ = some (.int .u32 (wi S.e)) ∧ W.cell? ⟨g, 73, none⟩ = some (.int .u32 (wi S.f)) ∧ W.cell? ⟨g, 74, none⟩ = some (.int .u32 (wi S.g)) ∧ W.cell? ⟨g, 75, none⟩ = some (.int .u32 (wi S.h))) ∧ ∀ j, W.frozen? ⟨g, j, none⟩ = false :=
  ⟨⟨(hB.cell 68).trans (hash_s _ _ _ _ _ _ _ 0 (by omega)), (hB.cell 69).trans (hash_s _ _ _ _ _ _ _ 1 (by omega)), (hB.cell 70).trans (hash_s _ _ _ _ _ _ _ 2 (by omega)), (hB.cell 71).trans (hash_s _ _ _ _ _ _ _ 3 (by omega)),
    (hB.cell 72).trans (hash_s _ _ _ _ _ _ _ 4 (by omega)), (hB.cell 73).trans (hash_s _ _ _ _ _ _ _ 5 (by omega)), (hB.cell 74).trans (hash_s _ _ _ _ _ _ _ 6 (by omega)), (hB.cell 75).trans (hash_s _ _ _ _ _ _ _ 7 (by omega))⟩, hB.frozen⟩

theorem vals_size (R : St) : R.vals.size = 8 := rfl
theorem vals_len (R : St) : R.vals.toList.length = 8 := rfl
theorem vals_one (R : St) : ∀ v ∈ R.vals.toList, v.oneCell' = true := by
  intro v hv
  simp [St.vals] at hv
  rcases hv with rfl | rfl | rfl | rfl | rfl | rfl | rfl | rfl <;> rfl
theorem vals_all (R : St) : R.vals.all (·.oneCell') = true := Array.all_eq_true_iff_forall_mem.2 fun v hv => vals_one R v (by simpa using hv)
theorem vals_at (R : St) (j : Nat) (h : j < 8) : R.vals.toList[j]? = some (sF R j) := by
  match j, h with
  | 0, _ | 1, _ | 2, _ | 3, _ | 4, _ | 5, _ | 6, _ | 7, _ => rfl
theorem run_storeState {P : Program} (R : St) {W : World} {g : Nat} {t : TypeId} {d m x y : Int} {k s b : Nat → Value} (hB : Blk W g t (hashCells d m k s b x y)) :
    (storeCells ⟨g, 68, none⟩ R.vals.toList 0).run P W = .ok () (W.setCells g 68 R.vals.toList) :=
  run_storeCells_cells (P := P) g 68 R.vals.toList 0 W (fun j hj => ((hB.there 68 8 (by rw [hash_size]; omega)) j hj).1) (fun j hj => ((hB.there 68 8 (by rw [hash_size]; omega)) j hj).2) (vals_one R)
theorem hash_setState {W : World} {g : Nat} {t : TypeId} {d m x y : Int} {k s b : Nat → Value} (R : St) (hB : Blk W g t (hashCells d m k s b x y)) :
    Blk (W.setCells g 68 R.vals.toList) g t (hashCells d m k (sF R) b x y) ∧ Turned g W (W.setCells g 68 R.vals.toList) := by
  have h := hB.setCells 68 R.vals.toList (by rw [vals_len, hash_size]; omega)
  rw [hash_splS d m k s (sF R) b x y _ (vals_len R) (vals_at R)] at h
  exact h

theorem Src.of_below {w : World} {B g n : Nat} {A : Option Addr} {xs : List UInt8} (h : Reads w B 1 A n (xs.map vb)) (hB : B ≤ w.heap.size) (hg : B ≤ g) : Src w g A n xs :=
  ⟨by have := h.1; simpa using this, fun hn => by
    obtain ⟨ad, rfl, h1, h2⟩ := h.2 hn
    exact ⟨ad, rfl, by omega, by omega, fun j hj => h2 j _ (by rw [List.getElem?_map, List.getElem?_eq_getElem hj]; rfl)⟩⟩

set_option maxRecDepth 100000 in
set_option maxHeartbeats 4000000 in
theorem write_any (g : Nat) (l xs : List UInt8) (A : Option Addr) (n c : Nat) (w : World) (h : HashAt w g l) (hs : Src w g A n xs) (hc : n ≤ c) (hcm : c ≤ maxLen) (hlen : l.length + n ≤ maxLen) :
    Calls Tryz.prog 206 #[.pointer (some ⟨g, 0, none⟩), .slice A n c] w fun e w' => e = .returned (.int .i64 0) ∧ HashDone w' g (l ++ xs) ∧ w.grownBy w' (some g) := by
  unfold maxLen at hcm hlen
  have c0 : w.cell? ⟨g, 0, none⟩ = some (.bool true) := by
    rcases h with ⟨b, h1, _⟩ | ⟨_, h1⟩ <;> exact (h1.cell 0).trans (hash_at _ _ _ _ _ _ _ 0 (by omega))
  have hnot : ∀ (x : Bool) (w : World), (Op.unary .not (.bool x)).run Tryz.prog w = .ok (.bool (!x)) w := fun _ _ => rfl
  have HH := Lib.hid h
  clear h
  go_enter Tryz.func206, Tryz.ntmps206
  go_wp2_with fail
  refine (ready_any g l w HH.out).mono ?_
  rintro _ w1 ⟨rfl, ⟨b, hB, hbb⟩, hg1⟩
  have hs1 := hs.keep hg1
  clear hs c0
  have hpl := acc_lt l
  have c141 := (hB.cell 141).trans (hash_c141 _ _ _ _ _ _ _)
  have f141 := hB.frozen 141
  have HB := Lib.hid hB
  clear hB
  go_wp2
  have hB0 := HB.out.set_ 141 (.int .i64 ((l.length : Int) + (n : Int)))
  rw [hash_set141] at hB0
  have hT0 := Turned.setCell w1 ⟨g, 141, none⟩ (.int .i64 ((l.length : Int) + (n : Int)))
  have hs0 := hs1.keep hT0.grown
  have hg0 := hg1.trans hT0.grown
  have hxl := hs0.1
  clear hT0 hs1 hg1 HB c141 f141
  have HBB := Lib.hid hbb
  clear hbb
  go_loopg [1] n (fun gh v wr => ∃ (i : Nat) (A' : Option Addr) (c' : Nat) (b' : Nat → UInt8), i + gh = n ∧ v = .slice A' (n - i) c' ∧ n - i ≤ c' ∧ c' ≤ 9223372036854775807 ∧ Src wr g A' (n - i) (xs.drop i) ∧
    Blk wr g 277 (hashCells 1 0 kF (sF (acc (l ++ xs.take i)).1) (fun j => vb (b' j)) ((acc (l ++ xs.take i)).2.length : Nat) ((l.length : Int) + (n : Int))) ∧ Hid (∀ j, j < (acc (l ++ xs.take i)).2.length → b' j = (acc (l ++ xs.take i)).2.getD j 0) ∧ w.grownBy wr (some g))
  case atStart => exact ⟨0, A, c, b, by omega, rfl, by omega, by omega, by simpa using hs0, by simpa using hB0, by simpa [Hid] using HBB.out, hg0⟩
  case round =>
    clear hB0 hs0 hg0 HBB
    obtain ⟨i, A', c', b', hi, rfl, hc1, hc2, hs, hB, HB', hg⟩ := hrel
    by_cases hin : i < n
    · obtain ⟨ad, rfl, hne, hadl, hcl⟩ := hs.2 (by omega)
      have hpl := acc_lt (l ++ xs.take i)
      obtain ⟨m, hm⟩ : ∃ m, m = min (n - i) (64 - (acc (l ++ xs.take i)).2.length) := ⟨_, rfl⟩
      have hm1 : m ≤ n - i := by omega
      have hm2 : m ≤ 64 - (acc (l ++ xs.take i)).2.length := by omega
      have hm3 : 0 < m := by omega
      have hm4 : m = n - i ∨ m = 64 - (acc (l ++ xs.take i)).2.length := by omega
      have hstep : acc (l ++ xs.take (i + m)) = feed (acc (l ++ xs.take i)) ((xs.drop i).take m) := by
        rw [← acc_append, List.append_assoc, List.take_add]
      generalize hA : acc (l ++ xs.take i) = SP at *
      obtain ⟨S, p⟩ := SP
      simp only at hpl hm hm1 hm2 hm4 hB HB' hstep
      have hchl : ((xs.drop i).take m).length = m := by simp; omega
      have hsrc : ∀ j v, (((xs.drop i).take m).map vb)[j]? = some v → wr.cell? (ad.add j) = some v := by
        intro j v hv
        obtain ⟨hj, rfl⟩ := getElem?_vb hv
        rw [List.getElem_take]
        exact hcl j _
      have hs2 : Src wr g (if c' = m then some ad else (some ad).map (·.add m)) (n - i - m) ((xs.drop i).drop m) := hs.cut hm1 hc1
      have hr2 := fun W => run_slice_from (P := Tryz.prog) (t := 22) (e := 5) rfl rfl (some ad) (n - i) c' m (m : Int) rfl hm1 W
      generalize (if c' = m then some ad else (some ad).map (·.add m)) = A2 at hs2 hr2
      have hr1 := fun W => run_sliceArr_l (P := Tryz.prog) (t := 275) (e := 5) (n := 64) rfl rfl ⟨g, 76, none⟩ p.length (p.length : Int) rfl hpl W
      rw [add_off] at hr1
      have c140 := (hB.cell 140).trans (hash_c140 _ _ _ _ _ _ _)
      have HM := Lib.hid (And.intro hm hm4)
      have HA := Lib.hid (And.intro hA hstep)
      have HS := Lib.hid (And.intro hsrc (And.intro hchl hs2))
      have HI := Lib.hid hi
      have HB := Lib.hid hB
      clear hm hm4 hA hstep hsrc hchl hs2 hi hB hs hcl
      have hmi : (m : Int) ≤ n - i := by omega
      go_wp2
      refine wp_region_still_drew 9 (by kernel_rfl) (by kernel_rfl) ?_
      simp only [List.take_succ_cons, List.take_zero, List.drop_succ_cons, List.drop_zero]
      repeat still_step
      refine wpStill_nil ?_
      refine wpList_copy_part rfl (.tmp 36) (.tmp 37) 22 22 5 rfl g (76 + p.length) (64 - p.length) (64 - p.length) (n - i) c' ad 277 _ (((xs.drop i).take m).map vb) rfl rfl rfl rfl HB.out (by rw [List.length_map, HS.out.2.1, HM.out.1]) HS.out.1 (by rw [List.length_map, HS.out.2.1, hash_size]; omega) (by intro v hv; obtain ⟨x, _, rfl⟩ := List.mem_map.1 hv; rfl) ?_
      intro W2 hT2 hB2
      rw [hash_splB _ _ _ _ _ _ _ _ _ (by rw [HS.out.2.1]; omega)] at hB2
      rw [List.length_map, HS.out.2.1]
      have c140 := (hB2.cell 140).trans (hash_c140 _ _ _ _ _ _ _)
      have f140 := hB2.frozen 140
      by_cases hfull : p.length + m = 64
      · have hz : ((p.length : Int) + (m : Int) == 64) = true := by rw [beq_iff_eq]; omega
        have HB2 := Lib.hid hB2
        have HF := Lib.hid hfull
        clear hB2 hfull
        go_wp2
        have hB3 := HB2.out.set_ 140 (.int .i64 ((p.length : Int) + (m : Int)))
        rw [hash_set140] at hB3
        have hT3 := hT2.trans (Turned.setCell W2 ⟨g, 140, none⟩ (.int .i64 ((p.length : Int) + (m : Int))))
        generalize W2.setCell ⟨g, 140, none⟩ (.int .i64 ((p.length : Int) + (m : Int))) = W3 at hB3 hT3 ⊢
        clear c140 f140 hz
        have hblk : (p ++ (xs.drop i).take m).length = 64 := by rw [List.length_append, HS.out.2.1]; exact HF.out
        have hby : BytesAt W3 ⟨g, 76, none⟩ (p ++ (xs.drop i).take m) := by
          intro j hj
          rw [add_off, hB3.cell, hash_b _ _ _ _ _ _ _ _ (by omega)]
          have hml := HS.out.2.1
          have hfo := HF.out
          congr 2
          unfold putB
          by_cases h1 : j < p.length
          · rw [if_neg (by omega), HB'.out j h1, List.getD_eq_getElem?_getD, List.getElem?_eq_getElem h1, List.getElem_append_left h1]; rfl
          · rw [if_pos (by omega), List.getD_eq_getElem?_getD, List.getElem?_eq_getElem (by omega), List.getElem_append_right (by omega)]; rfl
        have hwk : WordsAt W3 ⟨g, 4, none⟩ kc := by
          intro j hj
          have hj' : j < 64 := hj
          rw [add_off, hB3.cell, hash_k _ _ _ _ _ _ _ _ hj', kF, List.getD_eq_getElem?_getD, List.getElem?_eq_getElem hj]; rfl
        have HT := Lib.hid (take_any S _ ⟨g, 76, none⟩ ⟨g, 4, none⟩ W3.drew hblk hby hwk hB3.lt hB3.lt)
        have hq := (hash_cells8 hB3).1
        have hvs := vals_size (compress S (p ++ List.take m (List.drop i xs)))
        have hgl := hB3.lt
        have HB3 := Lib.hid hB3
        have HY := Lib.hid hblk
        clear hB3 hby hwk hblk
        go_region_law (first
          | (go_simp; go_at_call 219; refine HT.out.mono ?_; rintro _ w4 ⟨rfl, hb4⟩; have hst4 := run_storeState (P := Tryz.prog) (compress S (p ++ List.take m (List.drop i xs))) (HB3.out.drew.below hb4 hgl)))
        have h5 := hash_setState (compress S (p ++ List.take m (List.drop i xs))) (HB3.out.drew.below hb4 hgl)
        have hG5 : wr.grownBy (w4.setCells g 68 (compress S (p ++ List.take m (List.drop i xs))).vals.toList) (some g) :=
          (((only_drewN (World.grownBy.refl wr _) _).trans hT3.grown).trans ((only_of_below ((Below.refl _ W3).drew.trans hb4) (some g)))).trans h5.2.grown
        have hB5 := h5.1
        clear h5 hst4 hq hvs
        generalize (w4.setCells g 68 (compress S (p ++ List.take m (List.drop i xs))).vals.toList) = W5 at hB5 hG5 ⊢
        have c140 := (hB5.cell 140).trans (hash_c140 _ _ _ _ _ _ _)
        have f140 := hB5.frozen 140
        have HB5 := Lib.hid hB5
        clear hB5
        go_wp2
        go_roundg (gk - m)
        case measure => have := HI.out; omega
        case rel =>
          have hi := HI.out
          have hfe := feed_full S p ((xs.drop i).take m) (by rw [HS.out.2.1]; exact HF.out) hpl
          have hst := HA.out.2
          rw [hfe] at hst
          have hB6 := HB5.out.set_ 140 (.int .i64 0)
          rw [hash_set140] at hB6
          have hT6 := Turned.setCell W5 ⟨g, 140, none⟩ (.int .i64 0)
          refine ⟨i + m, A2, c' - m, putB b' p.length ((xs.drop i).take m), by omega, by rw [Nat.sub_add_eq], by omega, by omega, ?_, ?_, ?_, (hg.trans hG5).trans hT6.grown⟩
          · have h2 := HS.out.2.2
            rw [List.drop_drop] at h2
            rw [Nat.sub_add_eq]
            exact (h2.keep hG5).keep hT6.grown
          · rw [hst]; exact hB6
          · rw [hst]; intro j hj; simp at hj
      · have hz : ((p.length : Int) + (m : Int) == 64) = false := by rw [beq_eq_false_iff_ne]; omega
        have HB2 := Lib.hid hB2
        have HF := Lib.hid hfull
        clear hB2 hfull
        go_wp2
        go_roundg (gk - m)
        case measure => have := HI.out; omega
        case rel =>
          have hi := HI.out
          have hfe := feed_short S p ((xs.drop i).take m) (by rw [HS.out.2.1]; have := HF.out; omega)
          have hst := HA.out.2
          rw [hfe] at hst
          have hB3 := HB2.out.set_ 140 (.int .i64 ((p.length : Int) + (m : Int)))
          rw [hash_set140] at hB3
          have hT3 := hT2.trans (Turned.setCell W2 ⟨g, 140, none⟩ (.int .i64 ((p.length : Int) + (m : Int))))
          refine ⟨i + m, A2, c' - m, putB b' p.length ((xs.drop i).take m), by omega, by rw [Nat.sub_add_eq], by omega, by omega, ?_, ?_, ?_, (only_drewN hg _).trans hT3.grown⟩
          · have h2 := HS.out.2.2
            rw [List.drop_drop] at h2
            rw [Nat.sub_add_eq]
            exact (h2.keep (only_drewN (World.grownBy.refl wr _) _)).keep hT3.grown
          · rw [hst]
            have e1 : ((p ++ (xs.drop i).take m).length : Int) = (p.length : Int) + (m : Int) := by rw [List.length_append, HS.out.2.1]; omega
            rw [e1]
            exact hB3
          · rw [hst]
            intro j hj
            have hml := HS.out.2.1
            simp only [List.length_append, hml] at hj
            unfold putB
            rw [hml]
            by_cases h1 : j < p.length
            · rw [if_neg (by omega), HB'.out j h1, List.getD_eq_getElem?_getD, List.getD_eq_getElem?_getD, List.getElem?_append_left h1]
            · rw [if_pos (by omega), List.getD_eq_getElem?_getD, List.getD_eq_getElem?_getD, List.getElem?_append_right (by omega)]
    · obtain rfl : i = n := by omega
      go_wp2
      go_ret
      have e : xs.take i = xs := List.take_of_length_le (by omega)
      rw [e] at hB HB'
      exact ⟨rfl, ⟨b', by rw [List.length_append, hxl]; exact hB, HB'.out⟩, hg⟩

end Go.Proofs.YtcpngeiahgoacaaGreat

/- The last blocks, as the code makes them. No program is named. -/
namespace Go.Proofs.YtcpngeiahgoacaaGreat
set_option linter.unusedVariables false

def blkOf (f : Nat → UInt8) : List UInt8 := (List.range 64).map f
theorem blkOf_len (f : Nat → UInt8) : (blkOf f).length = 64 := by simp [blkOf]
theorem blkOf_get (f : Nat → UInt8) (j : Nat) (h : j < (blkOf f).length) : (blkOf f)[j] = f j := by simp [blkOf]
theorem blkOf_eq (f : Nat → UInt8) (l : List UInt8) (hl : l.length = 64) (h : ∀ j, j < 64 → l[j]? = some (f j)) : l = blkOf f := by
  apply List.ext_getElem?
  intro i
  rcases Nat.lt_or_ge i 64 with hi | hi
  · rw [h i hi, List.getElem?_eq_getElem (by rw [blkOf_len]; exact hi), blkOf_get]
  · rw [List.getElem?_eq_none (by omega), List.getElem?_eq_none (by rw [blkOf_len]; exact hi)]

/-- what is held, the bit behind it, noughts -/
def padF (p : List UInt8) (j : Nat) : UInt8 := if j < p.length then p.getD j 0 else if j = p.length then 128 else 0
/-- a block whose last 8 bytes are the length's -/
def lenF (base : Nat → UInt8) (n j : Nat) : UInt8 := if 56 ≤ j then (be8 n).getD (j - 56) 0 else base j

theorem pad_eq (p : List UInt8) (h : p.length < 64) : p ++ [128] ++ List.replicate (63 - p.length) 0 = blkOf (padF p) := by
  refine blkOf_eq _ _ (by simp; omega) fun j hj => ?_
  unfold padF
  by_cases h1 : j < p.length
  · rw [if_pos h1, List.append_assoc, List.getElem?_append_left h1, List.getD_eq_getElem?_getD, List.getElem?_eq_getElem h1]; rfl
  · rw [if_neg h1, List.append_assoc, List.getElem?_append_right (by omega)]
    by_cases h2 : j = p.length
    · subst h2; simp
    · rw [if_neg h2, List.getElem?_append_right (by simp; omega), List.getElem?_replicate, if_pos (by simp; omega)]
theorem getD_some (l : List UInt8) (j : Nat) (h : j < l.length) : l[j]? = some (l.getD j 0) := by
  rw [List.getD_eq_getElem?_getD, List.getElem?_eq_getElem h]; rfl
theorem len_eq0 (n : Nat) : List.replicate 56 0 ++ be8 n = blkOf (lenF (fun _ => 0) n) := by
  refine blkOf_eq _ _ (by simp [be8_len]) fun j hj => ?_
  unfold lenF
  by_cases h1 : 56 ≤ j
  · rw [if_pos h1, List.getElem?_append_right (by simpa using h1), List.length_replicate]
    exact getD_some _ _ (by rw [be8_len]; omega)
  · rw [if_neg h1, List.getElem?_append_left (by simp; omega), List.getElem?_replicate, if_pos (by omega)]
theorem len_eq1 (p : List UInt8) (n : Nat) (h : p.length < 56) : p ++ [128] ++ List.replicate (55 - p.length) 0 ++ be8 n = blkOf (lenF (padF p) n) := by
  refine blkOf_eq _ _ (by simp [be8_len]; omega) fun j hj => ?_
  unfold lenF
  have hl : (p ++ [128] ++ List.replicate (55 - p.length) 0).length = 56 := by simp; omega
  by_cases h1 : 56 ≤ j
  · rw [if_pos h1, List.getElem?_append_right (by rw [hl]; exact h1), hl]
    exact getD_some _ _ (by rw [be8_len]; omega)
  · rw [if_neg h1, List.getElem?_append_left (by rw [hl]; omega)]
    unfold padF
    by_cases h1 : j < p.length
    · rw [if_pos h1, List.append_assoc, List.getElem?_append_left h1, List.getD_eq_getElem?_getD, List.getElem?_eq_getElem h1]; rfl
    · rw [if_neg h1, List.append_assoc, List.getElem?_append_right (by omega)]
      by_cases h2 : j = p.length
      · subst h2; simp
      · rw [if_neg h2, List.getElem?_append_right (by simp; omega), List.getElem?_replicate, if_pos (by simp; omega)]
theorem last_hi (s : St) (p : List UInt8) (n : Nat) (h : 56 ≤ p.length) (h' : p.length < 64) :
    lastSt s p n = compress (compress s (blkOf (padF p))) (blkOf (lenF (fun _ => 0) n)) := by
  rw [lastSt, if_pos h, pad_eq p h', len_eq0]
theorem last_lo (s : St) (p : List UInt8) (n : Nat) (h : p.length < 56) :
    lastSt s p n = compress s (blkOf (lenF (padF p) n)) := by
  rw [lastSt, if_neg (by omega), len_eq1 p n h]
theorem be8_get (n i : Nat) (h : i < 8) : (be8 n).getD (7 - i) 0 = UInt8.ofNat (8 * n / 2 ^ (8 * i)) := by
  unfold be8
  rw [List.getD_eq_getElem?_getD, List.getElem?_map, List.getElem?_range (by omega)]
  simp only [Option.map_some, Option.getD_some]
  rw [show 7 - (7 - i) = i by omega]
theorem outB_get (s : St) (i : Nat) (h : i < 32) : (outB s).getD i 0 = w8 (s.list.getD (i / 4) 0 >>> (24 - 8 * (i % 4))) := by
  unfold outB
  rw [List.getD_eq_getElem?_getD, List.getElem?_map, List.getElem?_range h]; rfl

end Go.Proofs.YtcpngeiahgoacaaGreat
