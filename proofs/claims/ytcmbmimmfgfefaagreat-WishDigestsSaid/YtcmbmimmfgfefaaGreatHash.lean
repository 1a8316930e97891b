/-
  Contracts of sha.New and of what is made once: sync.Once's parts, (*Hash).ready.
-/
import Derived.Test.YtcmbmimmfgfefaaGreatRootsB
import Derived.Defers
import Derived.Laws.Pointers
import Derived.Laws.LoneSync
import Derived.Laws.NewBlocks
import Derived.RegionCalls
import Derived.Deep.RegionHeld3
namespace Go.Proofs.YtcmbmimmfgfefaaGreat
set_option linter.unusedVariables false
open Go.RowKit

/-- the cells of a hash: made once or not yet; k, the state, the block, how many bytes are held, how many there were -/
def hashF (done mu : Int) (k s b : Nat → Value) (held all : Int) (j : Nat) : Value :=
  if j = 0 then .bool true else if j = 1 then .int .u32 done else if j = 2 then .int .i32 mu else if j = 3 then .int .u32 0 else if j < 68 then k (j - 4) else if j < 76 then s (j - 68) else if j < 140 then b (j - 76) else if j = 140 then .int .i64 held else .int .i64 all
def hashCells (done mu : Int) (k s b : Nat → Value) (held all : Int) : Array Value := rng 142 (hashF done mu k s b held all)
def z32 : Nat → Value := fun _ => .int .u32 0
def z8 : Nat → Value := fun _ => .int .u8 0
def kF : Nat → Value := fun j => vw (kc.getD j 0)
def sF (s : St) : Nat → Value := fun j => vw (s.list.getD j 0)

theorem hash_size (d m : Int) (k s b : Nat → Value) (x y : Int) : (hashCells d m k s b x y).size = 142 := rng_size _ _
theorem hash_at (d m : Int) (k s b : Nat → Value) (x y : Int) (j : Nat) (h : j < 142) : (hashCells d m k s b x y)[j]? = some (hashF d m k s b x y j) := rng_get _ _ _ h
theorem hash_c0 (d m : Int) (k s b : Nat → Value) (x y : Int) : (hashCells d m k s b x y)[0]? = some (.bool true) := hash_at _ _ _ _ _ _ _ 0 (by omega)
theorem hash_c140 (d m : Int) (k s b : Nat → Value) (x y : Int) : (hashCells d m k s b x y)[140]? = some (.int .i64 x) := hash_at _ _ _ _ _ _ _ 140 (by omega)
theorem hash_c141 (d m : Int) (k s b : Nat → Value) (x y : Int) : (hashCells d m k s b x y)[141]? = some (.int .i64 y) := hash_at _ _ _ _ _ _ _ 141 (by omega)
theorem hash_k (d m : Int) (k s b : Nat → Value) (x y : Int) (j : Nat) (h : j < 64) : (hashCells d m k s b x y)[4 + j]? = some (k j) := by
  rw [hash_at _ _ _ _ _ _ _ _ (by omega)]; unfold hashF
  rw [if_neg (by omega), if_neg (by omega), if_neg (by omega), if_neg (by omega), if_pos (by omega), show 4 + j - 4 = j by omega]
theorem hash_s (d m : Int) (k s b : Nat → Value) (x y : Int) (j : Nat) (h : j < 8) : (hashCells d m k s b x y)[68 + j]? = some (s j) := by
  rw [hash_at _ _ _ _ _ _ _ _ (by omega)]; unfold hashF
  rw [if_neg (by omega), if_neg (by omega), if_neg (by omega), if_neg (by omega), if_neg (by omega), if_pos (by omega), show 68 + j - 68 = j by omega]
theorem hash_b (d m : Int) (k s b : Nat → Value) (x y : Int) (j : Nat) (h : j < 64) : (hashCells d m k s b x y)[76 + j]? = some (b j) := by
  rw [hash_at _ _ _ _ _ _ _ _ (by omega)]; unfold hashF
  rw [if_neg (by omega), if_neg (by omega), if_neg (by omega), if_neg (by omega), if_neg (by omega), if_neg (by omega), if_pos (by omega), show 76 + j - 76 = j by omega]
/-- a block, bytes put into it -/
def putB (b : Nat → UInt8) (o : Nat) (vs : List UInt8) (j : Nat) : UInt8 := if o ≤ j ∧ j < o + vs.length then vs.getD (j - o) 0 else b j
/-- bytes put into the block -/
theorem hash_splB (d m : Int) (k s : Nat → Value) (b : Nat → UInt8) (x y : Int) (o : Nat) (vs : List UInt8) (h : o + vs.length ≤ 64) :
    spl (hashCells d m k s (fun j => vb (b j)) x y) (76 + o) (vs.map vb) = hashCells d m k s (fun j => vb (putB b o vs j)) x y := by
  unfold putB
  unfold hashCells
  rw [spl_rng (m := vs.length) (g := fun j => vb (vs.getD j 0)) (by simp) (fun j hj => by rw [List.getElem?_map, List.getD_eq_getElem?_getD, List.getElem?_eq_getElem hj]; rfl) (by omega)]
  refine rng_ext fun j hj => ?_
  by_cases h1 : 76 + o ≤ j ∧ j < 76 + o + vs.length
  · rw [if_pos h1]; unfold hashF
    rw [if_neg (by omega), if_neg (by omega), if_neg (by omega), if_neg (by omega), if_neg (by omega), if_neg (by omega), if_pos (by omega)]
    show vb _ = vb (if o ≤ j - 76 ∧ j - 76 < o + vs.length then _ else _)
    rw [if_pos (by omega), show j - 76 - o = j - (76 + o) by omega]
  · rw [if_neg h1]; unfold hashF
    by_cases h2 : j < 76
    · repeat (first | rfl | (split <;> try omega))
    · by_cases h3 : j < 140
      · simp only [show ¬ j = 0 by omega, show ¬ j = 1 by omega, show ¬ j = 2 by omega, show ¬ j = 3 by omega, show ¬ j < 68 by omega, h2, h3, if_true, if_false]
        show vb _ = vb (if o ≤ j - 76 ∧ j - 76 < o + vs.length then _ else _)
        rw [if_neg (by omega)]
      · repeat (first | rfl | (split <;> try omega))
/-- another state put in -/
theorem hash_splS (d m : Int) (k s s' b : Nat → Value) (x y : Int) (vs : List Value) (hl : vs.length = 8) (hv : ∀ j, j < 8 → vs[j]? = some (s' j)) :
    spl (hashCells d m k s b x y) 68 vs = hashCells d m k s' b x y := by
  unfold hashCells
  rw [spl_rng (m := 8) (g := s') hl hv (by omega)]
  refine rng_ext fun j hj => ?_
  by_cases h1 : 68 ≤ j ∧ j < 68 + 8
  · rw [if_pos h1]; unfold hashF
    rw [if_neg (by omega), if_neg (by omega), if_neg (by omega), if_neg (by omega), if_neg (by omega), if_pos (by omega)]
  · rw [if_neg h1]; unfold hashF
    by_cases h2 : j < 68
    · repeat (first | rfl | (split <;> try omega))
    · simp only [show ¬ j = 0 by omega, show ¬ j = 1 by omega, show ¬ j = 2 by omega, show ¬ j = 3 by omega, show ¬ j < 68 by omega, show ¬ j < 76 by omega, if_false]
theorem hash_set1 (d d' m : Int) (k s b : Nat → Value) (x y : Int) : (hashCells d m k s b x y).setIfInBounds 1 (.int .u32 d') = hashCells d' m k s b x y := by
  unfold hashCells; rw [rng_set]; refine rng_ext fun j _ => ?_
  by_cases h : j = 1
  · subst h; rfl
  · rw [if_neg h]; simp [hashF, h]
theorem hash_set2 (d m m' : Int) (k s b : Nat → Value) (x y : Int) : (hashCells d m k s b x y).setIfInBounds 2 (.int .i32 m') = hashCells d m' k s b x y := by
  unfold hashCells; rw [rng_set]; refine rng_ext fun j _ => ?_
  by_cases h : j = 2
  · subst h; rfl
  · rw [if_neg h]; simp [hashF, h]
theorem hash_set140 (d m : Int) (k s b : Nat → Value) (x x' y : Int) : (hashCells d m k s b x y).setIfInBounds 140 (.int .i64 x') = hashCells d m k s b x' y := by
  unfold hashCells; rw [rng_set]; refine rng_ext fun j _ => ?_
  by_cases h : j = 140
  · subst h; rfl
  · rw [if_neg h]; simp [hashF, h]
theorem hash_set141 (d m : Int) (k s b : Nat → Value) (x y y' : Int) : (hashCells d m k s b x y).setIfInBounds 141 (.int .i64 y') = hashCells d m k s b x y' := by
  unfold hashCells; rw [rng_set]; refine rng_ext fun j hj => ?_
  by_cases h : j = 141
  · subst h; rfl
  · rw [if_neg h]; unfold hashF
    repeat (first | rfl | (split <;> try omega))

set_option maxRecDepth 100000 in
theorem new_any (w : World) : Calls Tryz.prog 49 #[] w fun e w' => e = .returned (.pointer (some ⟨w.heap.size, 0, none⟩)) ∧ Blk w' w.heap.size 115 (hashCells 0 0 z32 z32 z8 0 0) ∧ Below w.heap.size w w' ∧ w'.heap.size = w.heap.size + 1 := by
  go_enter Tryz.func49, Tryz.ntmps49
  go_wp2
  go_ret
  exact ⟨rfl, Blk.newAt (by simp), (Below.refl _ _).alloc (Nat.le_refl _) _, by simp⟩

theorem disable_run (w : World) : (callFunc 95 #[]).run Tryz.prog w = .ok (.value (.tuple #[])) w := run_call_mark0 Tryz.func95 (by kernel_rfl) (by kernel_rfl) (by kernel_rfl) .disable (by kernel_rfl) w
theorem enable_run (w : World) : (callFunc 97 #[]).run Tryz.prog w = .ok (.value (.tuple #[])) w := run_call_mark0 Tryz.func97 (by kernel_rfl) (by kernel_rfl) (by kernel_rfl) .enable (by kernel_rfl) w
theorem acquire_run (a : Addr) (w : World) : (callFunc 98 #[.pointer (some a)]).run Tryz.prog w = .ok (.value (.tuple #[])) w := run_call_marked Tryz.func98 (by kernel_rfl) (by kernel_rfl) (by kernel_rfl) .acquire (by kernel_rfl) a w
theorem releaseMerge_run (a : Addr) (w : World) : (callFunc 100 #[.pointer (some a)]).run Tryz.prog w = .ok (.value (.tuple #[])) w := run_call_marked Tryz.func100 (by kernel_rfl) (by kernel_rfl) (by kernel_rfl) .releaseMerge (by kernel_rfl) a w

set_option maxRecDepth 100000 in
/-- '(*sync/atomic.Bool).Store(true)', entered as a deferred call: the cell holds 1. -/
theorem store_deferred (a : Addr) (x : Value) (u : FrameMode) (w : World) (hc : w.cell? a = some x) (hz : w.frozen? a = false) :
    CallsD Tryz.prog 87 #[.pointer (some a), .bool true] u w fun e u' w' => u' = u ∧ (e = .returned (.tuple #[]) ∧ w' = w.drew.setCell a (.int .u32 1)) := by
  have hc' : w.drew.cell? a = some x := by go_simp
  have hz' : w.drew.frozen? a = false := by go_simp
  have hst := run_call_store (P := Tryz.prog) Tryz.func91 (by kernel_rfl) (by kernel_rfl) (by kernel_rfl) (by kernel_rfl) (k := .u32) (y := 1) hc' hz'
  go_enter_d Tryz.func87, Tryz.ntmps87
  go_wp2
  go_region_calls
  all_goals (go_end0; exact ⟨rfl, rfl⟩)

set_option maxRecDepth 100000 in
/-- '(*sync.Mutex).Unlock', entered as a deferred call, the lock held and nobody waiting. -/
theorem unlock_deferred (a : Addr) (u : FrameMode) (w : World) (hc : w.cell? a = some (.int .i32 1)) (hz : w.frozen? a = false) :
    CallsD Tryz.prog 86 #[.pointer (some a)] u w fun e u' w' => u' = u ∧ (e = .returned (.tuple #[]) ∧ w' = w.setCell a (.int .i32 0)) := by
  have hd := disable_run
  have he := enable_run
  have hr := releaseMerge_run
  have hadd := run_call_add (P := Tryz.prog) Tryz.func101 (by kernel_rfl) (by kernel_rfl) (by kernel_rfl) .i32 (by kernel_rfl) (y := -1) (s := 0) hc hz (by simp [go_sem]; rfl)
  have hcv := run_convert_to_unsafe (P := Tryz.prog) (src := 142) (dst := 146) Tryz.underlying142 Tryz.underlying146 (by kernel_rfl) hc
  go_enter_d Tryz.func86, Tryz.ntmps86
  go_wp2
  go_end0
  go_wp2
  go_end0
  exact ⟨rfl, rfl⟩

set_option maxRecDepth 100000 in
/-- '(*sync.Mutex).Lock', the lock free. -/
theorem lock_free (a : Addr) (w : World) (hc : w.cell? a = some (.int .i32 0)) (hz : w.frozen? a = false) :
    Calls Tryz.prog 85 #[.pointer (some a)] w fun e w' => e = .returned (.tuple #[]) ∧ w' = w.setCell a (.int .i32 1) := by
  have hd := disable_run
  have he := enable_run
  have ha := acquire_run
  have hcas := run_call_cas_hit (P := Tryz.prog) Tryz.func96 (by kernel_rfl) (by kernel_rfl) (by kernel_rfl) .i32 (by kernel_rfl) (y := 1) hc hz
  have hc' : (w.setCell a (.int .i32 1)).cell? a = some (.int .i32 1) := World.cell?_setCell_same w a _ hc
  have hcv := run_convert_to_unsafe (P := Tryz.prog) (src := 142) (dst := 146) Tryz.underlying142 Tryz.underlying146 (by kernel_rfl) hc'
  go_enter Tryz.func85, Tryz.ntmps85
  go_wp2
  first | go_end0 | (simp only [Exit.inBlock, Exit.then]; refine bodyPost_ret (results_none rfl _ _ _) rfl ?_) | refine bodyPost_ret (results_none rfl _ _ _) rfl ?_
  go_wp2
  go_end0
  exact ⟨rfl, rfl⟩

end Go.Proofs.YtcmbmimmfgfefaaGreat
