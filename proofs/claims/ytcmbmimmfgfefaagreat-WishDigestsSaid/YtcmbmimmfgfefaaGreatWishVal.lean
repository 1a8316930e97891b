/-
  A wish as a plain value; which wishes may be; contracts of within, crew, may, Check.
-/
import Derived.Test.YtcmbmimmfgfefaaGreatBinFix
namespace Go.Proofs.YtcmbmimmfgfefaaGreat
set_option linter.unusedVariables false
open Go.RowKit

structure Wish where
  client : Int
  stamp : Int
  group : Int
  epoch : Int
  kind : Int
  block : Int
  data : List UInt8
  old : Int
  new : Int
  next : List Int
def wCells (x : Wish) (A : Option Addr) (n c : Nat) (A' : Option Addr) (n' c' : Nat) : Array Value :=
  #[.int .i64 x.client, .int .i64 x.stamp, .int .i64 x.group, .int .i64 x.epoch, .int .i64 x.kind, .int .i64 x.block, .slice A n c, .int .i64 x.old, .int .i64 x.new, .slice A' n' c']
def I64 (z : Int) : Prop := -9223372036854775808 ≤ z ∧ z ≤ 9223372036854775807
structure WishIn (w : World) (B : Nat) (x : Wish) (A : Option Addr) (n c : Nat) (A' : Option Addr) (n' c' : Nat) : Prop where
  data : Reads w B 1 A n (x.data.map vb)
  dc : n ≤ c
  dm : n ≤ 140737488355328
  next : Reads w B 1 A' n' (x.next.map vn)
  nc : n' ≤ c'
  nm : n' ≤ 17592186044416
  rng : I64 x.client ∧ I64 x.stamp ∧ I64 x.group ∧ I64 x.epoch ∧ I64 x.kind ∧ I64 x.block ∧ I64 x.old ∧ I64 x.new ∧ ∀ z, z ∈ x.next → I64 z
theorem WishIn.below {w w' : World} {B : Nat} {x : Wish} {A : Option Addr} {n c : Nat} {A' : Option Addr} {n' c' : Nat} (h : WishIn w B x A n c A' n' c') (hb : Below B w w') : WishIn w' B x A n c A' n' c' :=
  ⟨h.data.below hb, h.dc, h.dm, h.next.below hb, h.nc, h.nm, h.rng⟩
theorem WishIn.more {w : World} {B B' : Nat} {x : Wish} {A : Option Addr} {n c : Nat} {A' : Option Addr} {n' c' : Nat} (h : WishIn w B x A n c A' n' c') (hB : B ≤ B') : WishIn w B' x A n c A' n' c' :=
  ⟨h.data.more hB, h.dc, h.dm, h.next.more hB, h.nc, h.nm, h.rng⟩
theorem WishIn.dlen {w : World} {B : Nat} {x : Wish} {A : Option Addr} {n c : Nat} {A' : Option Addr} {n' c' : Nat} (h : WishIn w B x A n c A' n' c') : x.data.length = n := by have := h.data.1; simpa using this
theorem WishIn.nlen {w : World} {B : Nat} {x : Wish} {A : Option Addr} {n c : Nat} {A' : Option Addr} {n' c' : Nat} (h : WishIn w B x A n c A' n' c') : x.next.length = n' := by have := h.next.1; simpa using this

/-- rising, above the last -/
def risingB : Int → List Int → Bool
  | _, [] => true
  | last, n :: t => decide (last < n ∧ n ≤ 28) && risingB n t
def crewB (l : List Int) : Bool := decide (l.length % 3 = 1 ∧ l.length ≤ 7) && risingB 0 l
def MayP (x : Wish) : Prop := 0 ≤ x.epoch ∧ x.epoch ≤ 1048576 ∧ (
  (x.kind = 5 ∧ x.client = 0 ∧ x.stamp = 0 ∧ x.block = 0 ∧ x.data.length = 0 ∧ x.old = 0 ∧ x.new = 0 ∧ 1 ≤ x.group ∧ x.group ≤ 2 ∧ crewB x.next = true) ∨
  (x.kind ≠ 5 ∧ 31 ≤ x.client ∧ x.client ≤ 34 ∧ 1 ≤ x.stamp ∧ x.stamp ≤ 9007199254740991 ∧ x.next.length = 0 ∧ (
    ((x.kind = 1 ∧ x.data.length = 0 ∨ x.kind = 2 ∧ x.data.length = 16) ∧ 1 ≤ x.group ∧ x.group ≤ 2 ∧ 0 ≤ x.block ∧ x.block ≤ 7 ∧ x.old = 0 ∧ x.new = 0) ∨
    ((x.kind = 3 ∧ x.old = 0 ∧ x.new = 0 ∨ x.kind = 4 ∧ 1 ≤ x.old ∧ x.old ≤ 28 ∧ 1 ≤ x.new ∧ x.new ≤ 28 ∧ x.old ≠ x.new) ∧ x.group = 0 ∧ x.epoch = 0 ∧ 1 ≤ x.block ∧ x.block ≤ 2 ∧ x.data.length = 0))))
instance (x : Wish) : Decidable (MayP x) := by unfold MayP; infer_instance
def mayB (x : Wish) : Bool := decide (MayP x)

theorem within_any (n l m : Int) (w : World) : Calls Tryz.prog 63 #[.int .i64 n, .int .i64 l, .int .i64 m] w fun e w' => e = .returned (.bool (decide (l ≤ n ∧ n ≤ m))) ∧ w = w' := by
  by_cases h : l ≤ n
  · go_enter Tryz.func63, Tryz.ntmps63
    go_wp2
    go_ret
    exact ⟨ret_bool (by simp [h]), rfl⟩
  · have h' : ¬ (l ≤ n ∧ n ≤ m) := fun hh => h hh.1
    rw [decide_eq_false h']
    clear h'
    go_enter Tryz.func63, Tryz.ntmps63
    go_wp2
    go_ret
    exact ⟨rfl, rfl⟩

set_option maxHeartbeats 1000000 in
theorem crew_any (A : Option Addr) (n c : Nat) (zs : List Int) (w : World) (B : Nat) (h : Reads w B 1 A n (zs.map vn)) (hn : n ≤ 17592186044416) :
    Calls Tryz.prog 64 #[.slice A n c] w fun e w' => e = .returned (.bool (crewB zs)) ∧ w = w' := by
  have hzn : zs.length = n := by have := h.1; simpa using this
  have H := Lib.hid h
  have HZN := Lib.hid hzn
  clear h hzn
  by_cases h1 : n % 3 = 1
  · by_cases h2 : n ≤ 7
    · have HR := Lib.hid (show crewB zs = risingB 0 zs by unfold crewB; rw [decide_eq_true (by rw [HZN.out]; exact ⟨h1, h2⟩), Bool.true_and])
      go_enter Tryz.func64, Tryz.ntmps64
      go_wp2_with fail
      go_loopw [3, 17] (fun lv iv wr => ∃ (i : Nat) (last : Int), i ≤ n ∧ lv = .int .i64 last ∧ iv = .int .i64 i ∧ w = wr ∧ crewB zs = risingB last (zs.drop i)) (fun _ iv _ => n - (intOf iv).toNat)
      case atStart => exact ⟨0, 0, by omega, rfl, rfl, rfl, HR.out⟩
      case round =>
        obtain ⟨i, last, hi, rfl, rfl, rfl, hr⟩ := hrel
        by_cases hin : i < n
        · obtain ⟨ad, u, hA, hadb, hxi, hcell⟩ := H.out.at_ hin
          subst hA
          have hil : i < zs.length := by have := HZN.out; omega
          have hu : u = .int .i64 zs[i] := by
            rw [List.getElem?_map, List.getElem?_eq_getElem hil] at hxi
            injection hxi with hxi
            exact hxi.symm
          subst hu
          rw [List.drop_eq_getElem_cons hil] at hr
          generalize zs[i] = z at hr hcell
          simp only [risingB] at hr
          clear hxi
          by_cases hz : last < z ∧ z ≤ 28
          · rw [decide_eq_true hz, Bool.true_and] at hr
            have HRR := Lib.hid hr
            clear hr
            obtain ⟨hz1, hz2⟩ := hz
            have hz3 : ¬ z ≤ last := by omega
            go_wp2_with fail
            go_roundw
            case rel => exact ⟨i + 1, z, by omega, rfl, by go_num, trivial, HRR.out⟩
            case measure => simp [intOf]; omega
          · rw [decide_eq_false hz, Bool.false_and] at hr
            have HRR := Lib.hid hr
            clear hr
            by_cases hz1 : z ≤ last
            · go_wp2_with fail
              go_ret
              exact ⟨by rw [HRR.out]; rfl, rfl⟩
            · have hz2 : 28 < z := by omega
              go_wp2_with fail
              go_ret
              exact ⟨by rw [HRR.out]; rfl, rfl⟩
        · obtain rfl : i = n := by omega
          rw [List.drop_of_length_le (by have := HZN.out; omega)] at hr
          have HRR := Lib.hid hr
          clear hr
          go_wp2_with fail
          go_ret
          exact ⟨by rw [HRR.out]; rfl, rfl⟩
    · have HR := Lib.hid (show crewB zs = false by unfold crewB; rw [decide_eq_false (by rw [HZN.out]; exact fun h => h2 h.2), Bool.false_and])
      go_enter Tryz.func64, Tryz.ntmps64
      go_wp2_with fail
      go_ret
      exact ⟨by rw [HR.out]; rfl, rfl⟩
  · have HR := Lib.hid (show crewB zs = false by unfold crewB; rw [decide_eq_false (by rw [HZN.out]; exact fun h => h1 h.1), Bool.false_and])
    go_enter Tryz.func64, Tryz.ntmps64
    go_wp2_with fail
    go_ret
    exact ⟨by rw [HR.out]; rfl, rfl⟩

set_option maxRecDepth 100000 in
set_option maxHeartbeats 4000000 in
theorem may_any (x : Wish) (A : Option Addr) (n c : Nat) (A' : Option Addr) (n' c' : Nat) (w : World) (B : Nat) (h : WishIn w B x A n c A' n' c') (hB : B ≤ w.heap.size) :
    Calls Tryz.prog 46 #[.agg (wCells x A n c A' n' c')] w fun e w' => e = .returned (.bool (mayB x)) ∧ Below w.heap.size w w' := by
  have hdl := h.dlen
  have hnl := h.nlen
  have HCR := Lib.hid (fun W (hb : Below w.heap.size w W) => crew_any A' n' c' x.next W B (h.next.below (hb.mono hB)) h.nm)
  obtain ⟨client, stamp, group, epoch, kind, block, data, old, new, next⟩ := x
  simp only at hdl hnl HCR
  obtain ⟨cr, hcr⟩ : ∃ cr, cr = crewB next := ⟨_, rfl⟩
  have HMB := Lib.hid (show mayB ⟨client, stamp, group, epoch, kind, block, data, old, new, next⟩ = decide (0 ≤ epoch ∧ epoch ≤ 1048576 ∧ (
  (kind = 5 ∧ client = 0 ∧ stamp = 0 ∧ block = 0 ∧ n = 0 ∧ old = 0 ∧ new = 0 ∧ 1 ≤ group ∧ group ≤ 2 ∧ cr = true) ∨
  (kind ≠ 5 ∧ 31 ≤ client ∧ client ≤ 34 ∧ 1 ≤ stamp ∧ stamp ≤ 9007199254740991 ∧ n' = 0 ∧ (
    ((kind = 1 ∧ n = 0 ∨ kind = 2 ∧ n = 16) ∧ 1 ≤ group ∧ group ≤ 2 ∧ 0 ≤ block ∧ block ≤ 7 ∧ old = 0 ∧ new = 0) ∨
    ((kind = 3 ∧ old = 0 ∧ new = 0 ∨ kind = 4 ∧ 1 ≤ old ∧ old ≤ 28 ∧ 1 ≤ new ∧ new ≤ 28 ∧ old ≠ new) ∧ group = 0 ∧ epoch = 0 ∧ 1 ≤ block ∧ block ≤ 2 ∧ n = 0))))) by
    unfold mayB MayP; simp only [hdl, hnl, ← hcr])
  rw [← hcr] at HCR
  clear hdl hnl hcr h
  unfold wCells
  simp only
  go_enter Tryz.func46, Tryz.ntmps46
  go_wp2_with fail
  have hk := Blk.new w 25 #[.int .i64 client, .int .i64 stamp, .int .i64 group, .int .i64 epoch, .int .i64 kind, .int .i64 block, .slice A n c, .int .i64 old, .int .i64 new, .slice A' n' c']
  have hb : Below w.heap.size w (w.alloc (.cells #[.int .i64 client, .int .i64 stamp, .int .i64 group, .int .i64 epoch, .int .i64 kind, .int .i64 block, .slice A n c, .int .i64 old, .int .i64 new, .slice A' n' c'] 25)) := (Below.refl _ _).alloc (Nat.le_refl _) _
  generalize w.alloc _ = w1 at hk hb ⊢
  have c0 := hk.cell 0
  have c1 := hk.cell 1
  have c2 := hk.cell 2
  have c3 := hk.cell 3
  have c4 := hk.cell 4
  have c5 := hk.cell 5
  have c6 := hk.cell 6
  have c7 := hk.cell 7
  have c8 := hk.cell 8
  have c9 := hk.cell 9
  simp only [List.getElem?_toArray, List.getElem?_cons_zero, List.getElem?_cons_succ] at c0 c1 c2 c3 c4 c5 c6 c7 c8 c9
  have HB := Lib.hid hb
  have hcr := HCR.out w1 hb
  have HCW := Lib.hid hcr
  clear hk hb hcr
  obtain ⟨g, hg⟩ : ∃ g, g = w.heap.size := ⟨_, rfl⟩
  rw [← hg] at c0 c1 c2 c3 c4 c5 c6 c7 c8 c9 ⊢
  clear hg
  go_wp2_with (first
    | (go_at_call 63; refine (within_any _ _ _ _).mono ?_; rintro _ _ ⟨rfl, rfl⟩)
    | (go_at_call 64; refine HCW.out.mono ?_; rintro _ _ ⟨rfl, rfl⟩))
  all_goals go_ret
  all_goals refine ⟨?_, HB.out⟩
  all_goals rw [HMB.out]
  all_goals refine ret_bool ?_
  all_goals rw [Bool.eq_iff_iff]
  all_goals clear HCR HCW HMB HB c0 c1 c2 c3 c4 c5 c6 c7 c8 c9
  all_goals cases cr
  all_goals simp at *
  all_goals (try omega)

end Go.Proofs.YtcmbmimmfgfefaaGreat
