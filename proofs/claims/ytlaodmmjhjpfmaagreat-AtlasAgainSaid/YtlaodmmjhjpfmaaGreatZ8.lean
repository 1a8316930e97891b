/- Parts of the proof, in one text: WishVal, WishBytes, VaultM, VoM, AtM. -/
import Derived.Test.YtlaodmmjhjpfmaaGreatZ7
import Derived.Test.YtlaodmmjhjpfmaaGreatZ6

/- A wish as a plain value; which wishes may be; contracts of within, crew, may, Check. -/
namespace Go.Proofs.YtlaodmmjhjpfmaaGreat
set_option linter.unusedVariables false
open Go.RowKit
attribute [local irreducible] wpList

structure Wish where
  client : Int
  stamp : Int
  group : Int
  epoch : Int
  kind : Int
  block : Int
  data : List UInt8
  old : Int
  new : Int
  next : List Int
def wCells (x : Wish) (A : Option Addr) (n c : Nat) (A' : Option Addr) (n' c' : Nat) : Array Value :=
  #[.int .i64 x.client, .int .i64 x.stamp, .int .i64 x.group, .int .i64 x.epoch, .int .i64 x.kind, .int .i64 x.block, .slice A n c, .int .i64 x.old, .int .i64 x.new, .slice A' n' c']
def I64 (z : Int) : Prop := -9223372036854775808 ≤ z ∧ z ≤ 9223372036854775807
structure WishIn (w : World) (B : Nat) (x : Wish) (A : Option Addr) (n c : Nat) (A' : Option Addr) (n' c' : Nat) : Prop where
  data : Reads w B 1 A n (x.data.map vb)
  dc : n ≤ c
  dm : n ≤ 140737488355328
  next : Reads w B 1 A' n' (x.next.map vn)
  nc : n' ≤ c'
  nm : n' ≤ 17592186044416
  rng : I64 x.client ∧ I64 x.stamp ∧ I64 x.group ∧ I64 x.epoch ∧ I64 x.kind ∧ I64 x.block ∧ I64 x.old ∧ I64 x.new ∧ ∀ z, z ∈ x.next → I64 z
theorem WishIn.below {w w' : World} {B : Nat} {x : Wish} {A : Option Addr} {n c : Nat} {A' : Option Addr} {n' c' : Nat} (h : WishIn w B x A n c A' n' c') (hb : Below B w w') : WishIn w' B x A n c A' n' c' :=
  ⟨h.data.below hb, h.dc, h.dm, h.next.below hb, h.nc, h.nm, h.rng⟩
theorem WishIn.more {w : World} {B B' : Nat} {x : Wish} {A : Option Addr} {n c : Nat} {A' : Option Addr} {n' c' : Nat} (h : WishIn w B x A n c A' n' c') (hB : B ≤ B') : WishIn w B' x A n c A' n' c' :=
  ⟨h.data.more hB, h.dc, h.dm, h.next.more hB, h.nc, h.nm, h.rng⟩
theorem WishIn.dlen {w : World} {B : Nat} {x : Wish} {A : Option Addr} {n c : Nat} {A' : Option Addr} {n' c' : Nat} (h : WishIn w B x A n c A' n' c') : x.data.length = n := by have := h.data.1; simpa using this
theorem WishIn.nlen {w : World} {B : Nat} {x : Wish} {A : Option Addr} {n c : Nat} {A' : Option Addr} {n' c' : Nat} (h : WishIn w B x A n c A' n' c') : x.next.length = n' := by have := h.next.1; simpa using this

/-- rising, above the last -/
def risingB : Int → List Int → Bool
  | _, [] => true
  | last, n :: t => decide (last < n ∧ n ≤ 28) && risingB n t
def crewB (l : List Int) : Bool := decide (l.length % 3 = 1 ∧ l.length ≤ 7) && risingB 0 l
def MayP (x : Wish) : Prop := 0 ≤ x.epoch ∧ x.epoch ≤ 1048576 ∧ (
  (x.kind = 5 ∧ x.client = 0 ∧ x.stamp = 0 ∧ x.block = 0 ∧ x.data.length = 0 ∧ x.old = 0 ∧ x.new = 0 ∧ 1 ≤ x.group ∧ x.group ≤ 2 ∧ crewB x.next = true) ∨
  (x.kind ≠ 5 ∧ 31 ≤ x.client ∧ x.client ≤ 34 ∧ 1 ≤ x.stamp ∧ x.stamp ≤ 9007199254740991 ∧ x.next.length = 0 ∧ (
    ((x.kind = 1 ∧ x.data.length = 0 ∨ x.kind = 2 ∧ x.data.length = 16) ∧ 1 ≤ x.group ∧ x.group ≤ 2 ∧ 0 ≤ x.block ∧ x.block ≤ 7 ∧ x.old = 0 ∧ x.new = 0) ∨
    ((x.kind = 3 ∧ x.old = 0 ∧ x.new = 0 ∨ x.kind = 4 ∧ 1 ≤ x.old ∧ x.old ≤ 28 ∧ 1 ≤ x.new ∧ x.new ≤ 28 ∧ x.old ≠ x.new) ∧ x.group = 0 ∧ x.epoch = 0 ∧ 1 ≤ x.block ∧ x.block ≤ 2 ∧ x.data.length = 0))))
instance (x : Wish) : Decidable (MayP x) := by unfold MayP; infer_instance
def mayB (x : Wish) : Bool := decide (MayP x)

theorem within_any (n l m : Int) (w : World) : Calls Tryz.prog 172 #[.int .i64 n, .int .i64 l, .int .i64 m] w fun e w' => e = .returned (.bool (decide (l ≤ n ∧ n ≤ m))) ∧ w = w' := by
  by_cases h : l ≤ n
  · go_enter Tryz.func172, Tryz.ntmps172
    go_wp2
    go_ret
    exact ⟨ret_bool (by simp [h]), rfl⟩
  · have h' : ¬ (l ≤ n ∧ n ≤ m) := fun hh => h hh.1
    rw [decide_eq_false h']
    clear h'
    go_enter Tryz.func172, Tryz.ntmps172
    go_wp2
    go_ret
    exact ⟨rfl, rfl⟩

set_option maxHeartbeats 1000000 in
theorem crew_any (A : Option Addr) (n c : Nat) (zs : List Int) (w : World) (B : Nat) (h : Reads w B 1 A n (zs.map vn)) (hn : n ≤ 17592186044416) :
    Calls Tryz.prog 173 #[.slice A n c] w fun e w' => e = .returned (.bool (crewB zs)) ∧ w = w' := by
  have hzn : zs.length = n := by have := h.1; simpa using this
  have H := Lib.hid h
  have HZN := Lib.hid hzn
  clear h hzn
  by_cases h1 : n % 3 = 1
  · by_cases h2 : n ≤ 7
    · have HR := Lib.hid (show crewB zs = risingB 0 zs by unfold crewB; rw [decide_eq_true (by rw [HZN.out]; exact ⟨h1, h2⟩), Bool.true_and])
      go_enter Tryz.func173, Tryz.ntmps173
      go_wp2_with fail
      go_loopw [3, 17] (fun lv iv wr => ∃ (i : Nat) (last : Int), i ≤ n ∧ lv = .int .i64 last ∧ iv = .int .i64 i ∧ w = wr ∧ crewB zs = risingB last (zs.drop i)) (fun _ iv _ => n - (intOf iv).toNat)
      case atStart => exact ⟨0, 0, by omega, rfl, rfl, rfl, HR.out⟩
      case round =>
        obtain ⟨i, last, hi, rfl, rfl, rfl, hr⟩ := hrel
        by_cases hin : i < n
        · obtain ⟨ad, u, hA, hadb, hxi, hcell⟩ := H.out.at_ hin
          subst hA
          have hil : i < zs.length := by have := HZN.out; omega
          have hu : u = .int .i64 zs[i] := by
            rw [List.getElem?_map, List.getElem?_eq_getElem hil] at hxi
            injection hxi with hxi
            exact hxi.symm
          subst hu
          rw [List.drop_eq_getElem_cons hil] at hr
          generalize zs[i] = z at hr hcell
          simp only [risingB] at hr
          clear hxi
          by_cases hz : last < z ∧ z ≤ 28
          · rw [decide_eq_true hz, Bool.true_and] at hr
            have HRR := Lib.hid hr
            clear hr
            obtain ⟨hz1, hz2⟩ := hz
            have hz3 : ¬ z ≤ last := by omega
            go_wp2_with fail
            go_roundw
            case rel => exact ⟨i + 1, z, by omega, rfl, by go_num, trivial, HRR.out⟩
            case measure => simp [intOf]; omega
          · rw [decide_eq_false hz, Bool.false_and] at hr
            have HRR := Lib.hid hr
            clear hr
            by_cases hz1 : z ≤ last
            · go_wp2_with fail
              go_ret
              exact ⟨by rw [HRR.out]; rfl, rfl⟩
            · have hz2 : 28 < z := by omega
              go_wp2_with fail
              go_ret
              exact ⟨by rw [HRR.out]; rfl, rfl⟩
        · obtain rfl : i = n := by omega
          rw [List.drop_of_length_le (by have := HZN.out; omega)] at hr
          have HRR := Lib.hid hr
          clear hr
          go_wp2_with fail
          go_ret
          exact ⟨by rw [HRR.out]; rfl, rfl⟩
    · have HR := Lib.hid (show crewB zs = false by unfold crewB; rw [decide_eq_false (by rw [HZN.out]; exact fun h => h2 h.2), Bool.false_and])
      go_enter Tryz.func173, Tryz.ntmps173
      go_wp2_with fail
      go_ret
      exact ⟨by rw [HR.out]; rfl, rfl⟩
  · have HR := Lib.hid (show crewB zs = false by unfold crewB; rw [decide_eq_false (by rw [HZN.out]; exact fun h => h1 h.1), Bool.false_and])
    go_enter Tryz.func173, Tryz.ntmps173
    go_wp2_with fail
    go_ret
    exact ⟨by rw [HR.out]; rfl, rfl⟩

set_option maxRecDepth 100000 in
set_option maxHeartbeats 4000000 in
theorem may_any (x : Wish) (A : Option Addr) (n c : Nat) (A' : Option Addr) (n' c' : Nat) (w : World) (B : Nat) (h : WishIn w B x A n c A' n' c') (hB : B ≤ w.heap.size) :
    Calls Tryz.prog 134 #[.agg (wCells x A n c A' n' c')] w fun e w' => e = .returned (.bool (mayB x)) ∧ Below w.heap.size w w' := by
  have hdl := h.dlen
  have hnl := h.nlen
  have HCR := Lib.hid (fun W (hb : Below w.heap.size w W) => crew_any A' n' c' x.next W B (h.next.below (hb.mono hB)) h.nm)
  obtain ⟨client, stamp, group, epoch, kind, block, data, old, new, next⟩ := x
  simp only at hdl hnl HCR
  obtain ⟨cr, hcr⟩ : ∃ cr, cr = crewB next := ⟨_, rfl⟩
  have HMB := Lib.hid (show mayB ⟨client, stamp, group, epoch, kind, block, data, old, new, next⟩ = decide (0 ≤ epoch ∧ epoch ≤ 1048576 ∧ (
  (kind = 5 ∧ client = 0 ∧ stamp = 0 ∧ block = 0 ∧ n = 0 ∧ old = 0 ∧ new = 0 ∧ 1 ≤ group ∧ group ≤ 2 ∧ cr = true) ∨
  (kind ≠ 5 ∧ 31 ≤ client ∧ client ≤ 34 ∧ 1 ≤ stamp ∧ stamp ≤ 9007199254740991 ∧ n' = 0 ∧ (
    ((kind = 1 ∧ n = 0 ∨ kind = 2 ∧ n = 16) ∧ 1 ≤ group ∧ group ≤ 2 ∧ 0 ≤ block ∧ block ≤ 7 ∧ old = 0 ∧ new = 0) ∨
    ((kind = 3 ∧ old = 0 ∧ new = 0 ∨ kind = 4 ∧ 1 ≤ old ∧ old ≤ 28 ∧ 1 ≤ new ∧ new ≤ 28 ∧ old ≠ new) ∧ group = 0 ∧ epoch = 0 ∧ 1 ≤ block ∧ block ≤ 2 ∧ n = 0))))) by
    unfold mayB MayP; simp only [hdl, hnl, ← hcr])
  rw [← hcr] at HCR
  clear hdl hnl hcr h
  unfold wCells
  simp only
  go_enter Tryz.func134, Tryz.ntmps134
  go_wp2_with fail
  have hk := Blk.new w 48 #[.int .i64 client, .int .i64 stamp, .int .i64 group, .int .i64 epoch, .int .i64 kind, .int .i64 block, .slice A n c, .int .i64 old, .int .i64 new, .slice A' n' c']
  have hb : Below w.heap.size w (w.alloc (.cells #[.int .i64 client, .int .i64 stamp, .int .i64 group, .int .i64 epoch, .int .i64 kind, .int .i64 block, .slice A n c, .int .i64 old, .int .i64 new, .slice A' n' c'] 48)) := (Below.refl _ _).alloc (Nat.le_refl _) _
  generalize w.alloc _ = w1 at hk hb ⊢
  have c0 := hk.cell 0
  have c1 := hk.cell 1
  have c2 := hk.cell 2
  have c3 := hk.cell 3
  have c4 := hk.cell 4
  have c5 := hk.cell 5
  have c6 := hk.cell 6
  have c7 := hk.cell 7
  have c8 := hk.cell 8
  have c9 := hk.cell 9
  simp only [List.getElem?_toArray, List.getElem?_cons_zero, List.getElem?_cons_succ] at c0 c1 c2 c3 c4 c5 c6 c7 c8 c9
  have HB := Lib.hid hb
  have hcr := HCR.out w1 hb
  have HCW := Lib.hid hcr
  clear hk hb hcr
  obtain ⟨g, hg⟩ : ∃ g, g = w.heap.size := ⟨_, rfl⟩
  rw [← hg] at c0 c1 c2 c3 c4 c5 c6 c7 c8 c9 ⊢
  clear hg
  go_wp2_with (first
    | (go_at_call 172; refine (within_any _ _ _ _).mono ?_; rintro _ _ ⟨rfl, rfl⟩)
    | (go_at_call 173; refine HCW.out.mono ?_; rintro _ _ ⟨rfl, rfl⟩))
  all_goals go_ret
  all_goals refine ⟨?_, HB.out⟩
  all_goals rw [HMB.out]
  all_goals refine ret_bool ?_
  all_goals rw [Bool.eq_iff_iff]
  all_goals clear HCR HCW HMB HB c0 c1 c2 c3 c4 c5 c6 c7 c8 c9
  all_goals cases cr
  all_goals simp at *
  all_goals (try omega)

end Go.Proofs.YtlaodmmjhjpfmaaGreat

/- Contracts of wish.Check, wish.Bytes. -/
namespace Go.Proofs.YtlaodmmjhjpfmaaGreat
set_option linter.unusedVariables false
open Go.RowKit

def numsI (l : List Int) : List UInt8 := l.flatMap fun z => numB z.toNat
def NumI (z : Int) : Prop := 0 ≤ z ∧ z ≤ 9007199254740991

theorem rising_num : ∀ (l : List Int) (a : Int), 0 ≤ a → risingB a l = true → ∀ z, z ∈ l → 1 ≤ z ∧ z ≤ 28
  | [], _, _, _, z, hz => by cases hz
  | n :: t, a, ha, h, z, hz => by
    simp only [risingB, Bool.and_eq_true, decide_eq_true_eq] at h
    rcases List.mem_cons.1 hz with rfl | hz
    · exact ⟨by omega, h.1.2⟩
    · exact rising_num t n (by omega) h.2 z hz
theorem numsI_len {l : List Int} (h : ∀ z, z ∈ l → NumI z) : (numsI l).length ≤ 8 * l.length := by
  unfold numsI
  induction l with
  | nil => simp
  | cons a t ih =>
    have h1 := h a (by simp)
    unfold NumI at h1
    have h2 := (numB_len (n := a.toNat) (by unfold maxN; omega)).2
    have h3 := ih (fun z hz => h z (by simp [hz]))
    rw [List.flatMap_cons, List.length_append, List.length_cons]
    omega
theorem reads_cells (w : World) (vs : Array Value) (t : TypeId) : Reads (w.alloc (.cells vs t)) (w.heap.size + 1) 1 (some ⟨w.heap.size, 0, none⟩) vs.size vs.toList := by
  refine ⟨by simp, fun _ => ⟨_, rfl, Nat.lt_succ_self _, fun j u hu => ?_⟩⟩
  have hk : Blk (w.alloc (.cells vs t)) w.heap.size t vs := Blk.newAt rfl
  have := hk.cell j
  rw [Array.getElem?_toList] at hu
  rw [hu] at this
  unfold Addr.add
  split
  · rename_i h0; subst h0; exact this
  · simpa using this
/-- slices laid out in a new block -/
theorem rowsB_lit (w : World) (t : TypeId) (l : List (Option Addr × Nat × Nat × List UInt8)) (h : ∀ p, p ∈ l → Reads w w.heap.size 1 p.1 p.2.1 (p.2.2.2.map vb)) :
    RowsB (w.alloc (.cells (l.map fun p => Value.slice p.1 p.2.1 p.2.2.1).toArray t)) (w.heap.size + 1) (some ⟨w.heap.size, 0, none⟩) l.length (l.map (·.2.2.2)) := by
  have hb : Below w.heap.size w (w.alloc (.cells (l.map fun p => Value.slice p.1 p.2.1 p.2.2.1).toArray t)) := (Below.refl _ _).alloc (Nat.le_refl _) _
  have hr := reads_cells w (l.map fun p => Value.slice p.1 p.2.1 p.2.2.1).toArray t
  refine ⟨by simp, fun h0 => ⟨_, rfl, Nat.lt_succ_self _, fun k x hx => ?_⟩⟩
  obtain ⟨ad, hA, _, hc⟩ := hr.2 (by simpa using h0)
  injection hA with hA
  subst hA
  rw [List.getElem?_map] at hx
  cases hp : l[k]? with
  | none => rw [hp] at hx; cases hx
  | some p =>
    rw [hp] at hx
    injection hx with hx
    refine ⟨p.1, p.2.1, p.2.2.1, hc k _ (by simp [hp]), ?_⟩
    rw [← hx]
    exact ((h p (List.mem_of_getElem? hp)).below hb).more (by omega)

set_option maxRecDepth 100000 in
set_option maxHeartbeats 1000000 in
theorem check_any (x : Wish) (A : Option Addr) (n c : Nat) (A' : Option Addr) (n' c' : Nat) (w : World) (B : Nat) (h : WishIn w B x A n c A' n' c') (hB : B ≤ w.heap.size) :
    Calls Tryz.prog 84 #[.agg (wCells x A n c A' n' c')] w fun e w' => e = .returned (.int .i64 (if mayB x = true then 0 else 2)) ∧ Below w.heap.size w w' := by
  have HM := Lib.hid (fun W (hb : Below w.heap.size w W) => may_any x A n c A' n' c' W B (h.below (hb.mono hB)) (by have := hb.size; omega))
  clear h
  obtain ⟨mb, hmb⟩ : ∃ b, b = mayB x := ⟨_, rfl⟩
  rw [← hmb] at HM ⊢
  clear hmb
  unfold wCells at HM ⊢
  go_enter Tryz.func84, Tryz.ntmps84
  go_wp2_with fail
  have hb : Below w.heap.size w (w.alloc (.cells #[.int .i64 x.client, .int .i64 x.stamp, .int .i64 x.group, .int .i64 x.epoch, .int .i64 x.kind, .int .i64 x.block, .slice A n c, .int .i64 x.old, .int .i64 x.new, .slice A' n' c'] 48)) := (Below.refl _ _).alloc (Nat.le_refl _) _
  refine (HM.out _ hb).mono ?_
  rintro _ w2 ⟨rfl, hb2⟩
  have HB2 := Lib.hid (hb.trans (hb2.mono (by simp)))
  clear hb hb2
  cases mb with
  | true =>
    go_wp2_with fail
    go_ret
    exact ⟨rfl, HB2.out⟩
  | false =>
    go_wp2_with fail
    go_ret
    exact ⟨rfl, HB2.out⟩

end Go.Proofs.YtlaodmmjhjpfmaaGreat

/- A vault in plain words: blocks, the clients' last wishes, the seal; what Do, Heard, Turn make of it. -/
namespace Go.Proofs.YtlaodmmjhjpfmaaGreat
set_option linter.unusedVariables false

structure VM where
  group : Nat
  epoch : Nat
  blocks : List (List UInt8)
  last : List (Nat × List UInt8)
  shut : List Int
structure Ans where
  err : Nat
  data : List UInt8
  epoch : Nat
  nodes : List Int
def okA : Ans := ⟨0, [], 0, []⟩
def dataA (d : List UInt8) : Ans := ⟨0, d, 0, []⟩
def errA (e n : Nat) : Ans := ⟨e, [], n, []⟩

structure VOk (m : VM) : Prop where
  group : 1 ≤ m.group ∧ m.group ≤ 2
  epoch : m.epoch ≤ 1048576
  blocks : m.blocks.length = 8
  block : ∀ b, b ∈ m.blocks → b.length = 16
  last : m.last.length = 4
  stamp : ∀ x, x ∈ m.last → x.1 ≤ maxN ∧ (x.2 = [] ∨ x.2.length = 16 ∧ 0 < x.1)
  shut : m.shut = [] ∨ (crewB m.shut = true ∧ m.epoch < 1048576)

def blockV (m : VM) (i : Nat) : List UInt8 := m.blocks.getD i []
def lastV (m : VM) (i : Nat) : Nat × List UInt8 := m.last.getD i (0, [])
def lastB (x : Nat × List UInt8) : List UInt8 := numB x.1 ++ strB x.2
def sealB (m : VM) : List UInt8 := numB m.group ++ numB m.epoch ++ numB m.shut.length ++ numsI m.shut
def leafV (m : VM) (i : Nat) : List UInt8 := if i < 8 then blockV m i else if i < 12 then lastB (lastV m (i - 8)) else sealB m
def leavesV (m : VM) : List (List UInt8) := (List.range 13).map (leafV m)

def oldV (m : VM) (x : Wish) : Option Ans :=
  let y := lastV m (x.client - 31).toNat
  if x.stamp = (y.1 : Int) then some (dataA y.2) else if x.stamp < (y.1 : Int) then some (errA 172 0) else none
def elseV (m : VM) (e : Int) : Option Ans :=
  if e ≠ (m.epoch : Int) then some (errA 171 m.epoch) else if 0 < m.shut.length then some (errA 171 (m.epoch + 1)) else none
def inV (m : VM) (x : Wish) : Bool := mayB x && decide (x.group = (m.group : Int))
/-- what a wish that is no seal makes: its data, the vault -/
def ranV (m : VM) (x : Wish) : VM × List UInt8 :=
  let c := (x.client - 31).toNat
  let b := x.block.toNat
  let d := if x.kind = 1 then blockV m b else []
  (⟨m.group, m.epoch, if x.kind = 1 then m.blocks else m.blocks.set b x.data, m.last.set c (x.stamp.toNat, d), m.shut⟩, d)
def sealV (m : VM) (x : Wish) : VM × Ans :=
  match elseV m x.epoch with
  | some a => (m, a)
  | none => if m.epoch = 1048576 then (m, errA 5 0) else (⟨m.group, m.epoch, m.blocks, m.last, x.next⟩, okA)
def doV (m : VM) (x : Wish) : VM × Ans × Nat :=
  if inV m x = true then
    if x.kind = 5 then ((sealV m x).1, (sealV m x).2, 0)
    else match oldV m x with
      | some a => (m, a, 0)
      | none => match elseV m x.epoch with
        | some a => (m, a, 0)
        | none => ((ranV m x).1, dataA (ranV m x).2, 0)
  else (m, okA, 2)
def turnV (m : VM) : VM × Nat := if m.shut.length = 0 then (m, 171) else (⟨m.group, m.epoch + 1, m.blocks, m.last, []⟩, 0)

theorem leavesV_len (m : VM) : (leavesV m).length = 13 := by simp [leavesV]
theorem leavesV_get (m : VM) (i : Nat) (h : i < 13) : (leavesV m)[i]? = some (leafV m i) := by
  unfold leavesV
  rw [List.getElem?_map, List.getElem?_range h]; rfl
theorem VOk.blk {m : VM} (h : VOk m) {i : Nat} (hi : i < 8) : (blockV m i).length = 16 := by
  unfold blockV
  rw [List.getD_eq_getElem?_getD, List.getElem?_eq_getElem (by rw [h.blocks]; exact hi)]
  exact h.block _ (List.getElem_mem _)
theorem VOk.lst {m : VM} (h : VOk m) {i : Nat} (hi : i < 4) : (lastV m i).1 ≤ maxN ∧ ((lastV m i).2 = [] ∨ (lastV m i).2.length = 16 ∧ 0 < (lastV m i).1) := by
  unfold lastV
  rw [List.getD_eq_getElem?_getD, List.getElem?_eq_getElem (by rw [h.last]; exact hi)]
  exact h.stamp _ (List.getElem_mem _)
theorem VOk.sealNum {m : VM} (h : VOk m) : (∀ z, z ∈ m.shut → NumI z) ∧ m.shut.length ≤ 7 := by
  rcases h.shut with e | ⟨e, _⟩
  · rw [e]; exact ⟨fun z hz => absurd hz (by simp), by simp⟩
  · unfold crewB at e
    simp only [Bool.and_eq_true, decide_eq_true_eq] at e
    refine ⟨fun z hz => ?_, e.1.2⟩
    have := rising_num m.shut 0 (by omega) e.2 z hz
    unfold NumI
    omega
theorem may_client {x : Wish} (h : mayB x = true) (hk : x.kind ≠ 5) : 31 ≤ x.client ∧ x.client ≤ 34 ∧ 1 ≤ x.stamp ∧ x.stamp ≤ 9007199254740991 := by
  have hm : MayP x := of_decide_eq_true h
  unfold MayP at hm
  obtain ⟨_, _, h1 | h1⟩ := hm
  · exact absurd h1.1 hk
  · exact ⟨h1.2.1, h1.2.2.1, h1.2.2.2.1, h1.2.2.2.2.1⟩
theorem may_group {x : Wish} (h : mayB x = true) (hk : x.kind ≠ 5) (hg : 1 ≤ x.group) : (x.kind = 1 ∧ x.data.length = 0 ∨ x.kind = 2 ∧ x.data.length = 16) ∧ 0 ≤ x.block ∧ x.block ≤ 7 := by
  have hm : MayP x := of_decide_eq_true h
  unfold MayP at hm
  obtain ⟨_, _, h1 | h1⟩ := hm
  · exact absurd h1.1 hk
  · rcases h1.2.2.2.2.2.2 with h2 | h2
    · exact ⟨h2.1, h2.2.2.2.1, h2.2.2.2.2.1⟩
    · omega
theorem may_seal {x : Wish} (h : mayB x = true) (hk : x.kind = 5) : crewB x.next = true := by
  have hm : MayP x := of_decide_eq_true h
  unfold MayP at hm
  obtain ⟨_, _, h1 | h1⟩ := hm
  · exact h1.2.2.2.2.2.2.2.2.2
  · exact absurd hk h1.1
theorem crewB_pos {l : List Int} (h : crewB l = true) : 0 < l.length ∧ l.length ≤ 7 := by
  unfold crewB at h
  simp only [Bool.and_eq_true, decide_eq_true_eq] at h
  omega

theorem VOk.ran {m : VM} (h : VOk m) {x : Wish} (hm : mayB x = true) (hg : x.group = (m.group : Int)) (hk : x.kind ≠ 5) : VOk (ranV m x).1 := by
  have hc := may_client hm hk
  have hb := may_group hm hk (by have := h.group; omega)
  have hd : (if x.kind = 1 then blockV m x.block.toNat else []) = [] ∨ (if x.kind = 1 then blockV m x.block.toNat else []).length = 16 := by
    split
    · right; exact h.blk (by omega)
    · left; rfl
  refine ⟨h.group, h.epoch, ?_, ?_, ?_, ?_, h.shut⟩
  · unfold ranV; simp only; split <;> simp [h.blocks]
  · intro b hb'
    unfold ranV at hb'
    simp only at hb'
    split at hb'
    · exact h.block b hb'
    · rename_i hk1
      rcases List.mem_or_eq_of_mem_set hb' with h1 | rfl
      · exact h.block b h1
      · rcases hb.1 with h1 | h1
        · exact absurd h1.1 hk1
        · exact h1.2
  · simp [ranV, h.last]
  · intro y hy
    unfold ranV at hy
    simp only at hy
    rcases List.mem_or_eq_of_mem_set hy with h1 | rfl
    · exact h.stamp y h1
    · refine ⟨by show x.stamp.toNat ≤ maxN; unfold maxN; omega, ?_⟩
      rcases hd with h1 | h1
      · exact .inl h1
      · exact .inr ⟨h1, by show 0 < x.stamp.toNat; omega⟩
theorem VOk.sealed {m : VM} (h : VOk m) {x : Wish} (hm : mayB x = true) (hk : x.kind = 5) : VOk (sealV m x).1 := by
  unfold sealV
  cases he : elseV m x.epoch with
  | some a => exact h
  | none =>
    simp only
    split
    · exact h
    · rename_i hne
      exact ⟨h.group, h.epoch, h.blocks, h.block, h.last, h.stamp, .inr ⟨may_seal hm hk, by have := h.epoch; show m.epoch < 1048576; omega⟩⟩
theorem VOk.did {m : VM} (h : VOk m) (x : Wish) : VOk (doV m x).1 := by
  unfold doV
  split
  · rename_i hi
    unfold inV at hi
    simp only [Bool.and_eq_true, decide_eq_true_eq] at hi
    split
    · rename_i hk; exact h.sealed hi.1 hk
    · rename_i hk
      cases oldV m x with
      | some a => exact h
      | none =>
        simp only
        cases elseV m x.epoch with
        | some a => exact h
        | none => exact h.ran hi.1 hi.2 hk
  · exact h
theorem VOk.turned {m : VM} (h : VOk m) : VOk (turnV m).1 := by
  unfold turnV
  split
  · exact h
  · rename_i hne
    refine ⟨h.group, ?_, h.blocks, h.block, h.last, h.stamp, .inl rfl⟩
    show m.epoch + 1 ≤ 1048576
    rcases h.shut with e | ⟨_, e⟩
    · rw [e] at hne; exact absurd rfl hne
    · omega
theorem leafV_len {m : VM} (h : VOk m) (i : Nat) : (leafV m i).length ≤ 120 := by
  unfold leafV
  split
  · rename_i hi; rw [h.blk hi]; omega
  · split
    · rename_i h8 h12
      have hl := h.lst (i := i - 8) (by omega)
      have hn := (numB_len hl.1).2
      have hd : (lastV m (i - 8)).2.length ≤ 16 := by
        rcases hl.2 with e | e
        · rw [e]; simp
        · rw [e.1]; omega
      have hn2 := (numB_len (n := (lastV m (i - 8)).2.length) (by unfold maxN; omega)).2
      unfold lastB strB
      simp only [List.length_append]
      omega
    · have hs := h.sealNum
      have h1 := (numB_len (n := m.group) (by have := h.group; unfold maxN; omega)).2
      have h2 := (numB_len (n := m.epoch) (by have := h.epoch; unfold maxN; omega)).2
      have h3 := (numB_len (n := m.shut.length) (by unfold maxN; omega)).2
      have h4 := numsI_len hs.1
      unfold sealB
      simp only [List.length_append]
      omega

end Go.Proofs.YtlaodmmjhjpfmaaGreat

/- What leaves and bytes say of a vault, in plain words. -/
namespace Go.Proofs.YtlaodmmjhjpfmaaGreat
set_option linter.unusedVariables false

/-- all numbers that bytes say -/
def numsGo : Nat → List UInt8 → Option (List Nat)
  | 0, b => if b = [] then some [] else none
  | f + 1, b => if b = [] then some [] else if (tn b).2.2 ≠ 0 then none else (numsGo f (tn b).2.1).map (fun l => (tn b).1 :: l)
def numsV (b : List UInt8) : Option (List Nat) := numsGo b.length b
theorem tn_shrink {b : List UInt8} (h : (tn b).2.2 = 0) : (tn b).2.1.length + 1 ≤ b.length := by
  unfold tn at h ⊢
  cases hb : takeN b with
  | error e =>
    rw [hb] at h
    simp only at h
    subst h
    exfalso
    unfold takeN at hb
    match b, hb with
    | [], hb => injection hb with hb; omega
    | m :: r, hb =>
      simp only at hb
      split at hb
      · injection hb with hb; omega
      · split at hb
        · injection hb with hb; omega
        · split at hb
          · injection hb with hb; omega
          · split at hb
            · injection hb with hb; omega
            · cases hb
  | ok p =>
    have h1 := takeN_back (n := p.1) (r := p.2) hb
    have h2 := congrArg List.length h1.1
    rw [List.length_append] at h2
    have := (numB_len h1.2).1
    show p.2.length + 1 ≤ _
    omega
theorem numsGo_more : ∀ (f g : Nat) (b : List UInt8), b.length ≤ f → b.length ≤ g → numsGo f b = numsGo g b
  | 0, 0, b, _, _ => rfl
  | 0, g + 1, b, hf, _ => by
    have : b = [] := List.eq_nil_of_length_eq_zero (by omega)
    subst this
    simp [numsGo]
  | f + 1, 0, b, _, hg => by
    have : b = [] := List.eq_nil_of_length_eq_zero (by omega)
    subst this
    simp [numsGo]
  | f + 1, g + 1, b, hf, hg => by
    simp only [numsGo]
    by_cases hb : b = []
    · rw [if_pos hb, if_pos hb]
    · rw [if_neg hb, if_neg hb]
      by_cases he : (tn b).2.2 ≠ 0
      · rw [if_pos he, if_pos he]
      · rw [if_neg he, if_neg he]
        have h1 := tn_shrink (b := b) (by omega)
        rw [numsGo_more f g _ (by omega) (by omega)]
theorem numsV_nil : numsV [] = some [] := rfl
theorem numsV_bad {b : List UInt8} (hb : b ≠ []) (he : (tn b).2.2 ≠ 0) : numsV b = none := by
  unfold numsV
  cases b with
  | nil => exact absurd rfl hb
  | cons x t => simp only [List.length_cons, numsGo, if_neg hb, if_pos he]
theorem numsV_next {b : List UInt8} (hb : b ≠ []) (he : (tn b).2.2 = 0) : numsV b = (numsV (tn b).2.1).map (fun l => (tn b).1 :: l) := by
  unfold numsV
  cases b with
  | nil => exact absurd rfl hb
  | cons x t =>
    have h1 := tn_shrink (b := x :: t) he
    simp only [List.length_cons, numsGo, if_neg hb]
    rw [if_neg (by omega), numsGo_more t.length (tn (x :: t)).2.1.length _ (by simp at h1; omega) (Nat.le_refl _)]
theorem numsV_num {n : Nat} (h : n ≤ maxN) (r : List UInt8) : numsV (numB n ++ r) = (numsV r).map (fun l => n :: l) := by
  have ht : tn (numB n ++ r) = (n, r, 0) := by unfold tn; rw [takeN_num h]
  have hl := (numB_len h).1
  rw [numsV_next (by intro e; have := congrArg List.length e; rw [List.length_append, List.length_nil] at this; omega) (by rw [ht]), ht]
theorem numsV_ints : ∀ (l : List Int), (∀ z, z ∈ l → NumI z) → numsV (numsI l) = some (l.map (·.toNat))
  | [], _ => rfl
  | z :: t, h => by
    rw [numsI_cons', numsV_num (by have := h z (List.mem_cons_self ..); unfold NumI at this; unfold maxN; omega), numsV_ints t fun x hx => h x (List.mem_cons_of_mem _ hx)]
    rfl
where numsI_cons' {z : Int} {t : List Int} : numsI (z :: t) = numB z.toNat ++ numsI t := rfl

/-- what a client's leaf says -/
def clientOf (b : List UInt8) : Option (Nat × List UInt8) :=
  if (tn b).2.2 ≠ 0 then none
  else if (ts (tn b).2.1 16).2.2 ≠ 0 ∨ 0 < (ts (tn b).2.1 16).2.1.length ∨ (0 < (ts (tn b).2.1 16).1.length ∧ ((ts (tn b).2.1 16).1.length ≠ 16 ∨ (tn b).1 = 0)) then none
  else some ((tn b).1, (ts (tn b).2.1 16).1)
/-- what the last leaf says: group, epoch, the seal's nodes -/
def goodSeal (l : List Nat) : Prop := 3 ≤ l.length ∧ 1 ≤ l.getD 0 0 ∧ l.getD 0 0 ≤ 2 ∧ l.getD 1 0 ≤ 1048576 ∧ l.getD 2 0 + 3 = l.length ∧ ¬ (l.getD 1 0 = 1048576 ∧ 0 < l.getD 2 0) ∧ (l.length = 3 ∨ crewB ((l.drop 3).map (fun n : Nat => (n : Int))) = true)
instance (l : List Nat) : Decidable (goodSeal l) := by unfold goodSeal; infer_instance
def sealOf (b : List UInt8) : Option (List Nat) := match numsV b with
  | none => none
  | some l => if goodSeal l then some l else none
def openM (ls : List (List UInt8)) (l : List Nat) : VM := ⟨l.getD 0 0, l.getD 1 0, ls.take 8, (List.range 4).map (fun i => (clientOf (ls.getD (8 + i) [])).getD (0, [])), (l.drop 3).map (fun n : Nat => (n : Int))⟩
def openV (ls : List (List UInt8)) : Option VM :=
  if ls.length = 13 ∧ (∀ i, i < 8 → (ls.getD i []).length = 16) ∧ (∀ i, i < 4 → (clientOf (ls.getD (8 + i) [])).isSome = true) then
    match sealOf (ls.getD 12 []) with
    | none => none
    | some l => some (openM ls l)
  else none
theorem clientOf_ok {b : List UInt8} {p : Nat × List UInt8} (h : clientOf b = some p) : p.1 ≤ maxN ∧ (p.2 = [] ∨ p.2.length = 16 ∧ 0 < p.1) := by
  unfold clientOf at h
  split at h
  · cases h
  · split at h
    · cases h
    · rename_i h1 h2
      have := Option.some.inj h
      subst this
      refine ⟨tn_num b, ?_⟩
      rcases Nat.eq_zero_or_pos (ts (tn b).2.1 16).1.length with e | e
      · exact .inl (List.eq_nil_of_length_eq_zero e)
      · right
        show (ts (tn b).2.1 16).1.length = 16 ∧ 0 < (tn b).1
        omega
theorem clientOf_last {x : Nat × List UInt8} (h1 : x.1 ≤ maxN) (h2 : x.2 = [] ∨ x.2.length = 16 ∧ 0 < x.1) : clientOf (lastB x) = some x := by
  have hl : x.2.length ≤ 16 := by
    rcases h2 with e | e
    · rw [e]; simp
    · omega
  have ht : tn (lastB x) = (x.1, strB x.2, 0) := by unfold tn lastB; rw [takeN_num h1]
  have hs : ts (strB x.2) 16 = (x.2, [], 0) := by
    have := takeS_str (s := x.2) (most := 16) (by omega) []
    rw [List.append_nil] at this
    unfold ts; rw [this]
  unfold clientOf
  rw [ht]
  simp only
  rw [hs]
  simp only
  rw [if_neg (by simp), if_neg (by
    rintro (e | e | e)
    · exact e rfl
    · simp at e
    · rcases h2 with h2 | h2
      · rw [h2] at e; simp at e
      · omega)]
theorem sealOf_leaf {m : VM} (h : VOk m) : sealOf (sealB m) = some (m.group :: m.epoch :: m.shut.length :: m.shut.map (·.toNat)) := by
  have hs := h.sealNum
  have hg : m.group ≤ maxN := by have := h.group; unfold maxN; omega
  have he : m.epoch ≤ maxN := by have := h.epoch; unfold maxN; omega
  have hn : m.shut.length ≤ maxN := by unfold maxN; omega
  have hv : numsV (sealB m) = some (m.group :: m.epoch :: m.shut.length :: m.shut.map (·.toNat)) := by
    unfold sealB
    rw [List.append_assoc, List.append_assoc, numsV_num hg, numsV_num he, numsV_num hn, numsV_ints m.shut hs.1]
    rfl
  unfold sealOf
  rw [hv]
  simp only
  rw [if_pos]
  have hb : (m.shut.map (·.toNat)).map (fun n : Nat => (n : Int)) = m.shut := by
    rw [List.map_map]
    conv => rhs; rw [← List.map_id m.shut]
    refine List.map_congr_left fun z hz => ?_
    have := hs.1 z hz
    unfold NumI at this
    show ((z.toNat : Nat) : Int) = z
    omega
  unfold goodSeal
  have hgr := h.group
  have hep := h.epoch
  refine ⟨by simp, hgr.1, hgr.2, hep, by simp, ?_, ?_⟩
  · rintro ⟨e1, e2⟩
    have e1' : m.epoch = 1048576 := e1
    have e2' : 0 < m.shut.length := e2
    rcases h.shut with e | ⟨_, e⟩
    · rw [e] at e2'; simp at e2'
    · omega
  · rcases h.shut with e | ⟨e, _⟩
    · left; simp [e]
    · right
      show crewB ((m.shut.map (·.toNat)).map (fun n : Nat => (n : Int))) = true
      rw [hb]; exact e
theorem openM_ok {ls : List (List UInt8)} {l : List Nat} (h : ls.length = 13) (hb : ∀ i, i < 8 → (ls.getD i []).length = 16) (hc : ∀ i, i < 4 → (clientOf (ls.getD (8 + i) [])).isSome = true) (hs : goodSeal l) : VOk (openM ls l) := by
  obtain ⟨h1, h2, h3, h4, h5, h6, h7⟩ := hs
  refine ⟨⟨h2, h3⟩, h4, by show (ls.take 8).length = 8; rw [List.length_take]; omega, ?_, by simp [openM], ?_, ?_⟩
  · intro b hb'
    obtain ⟨i, hi, rfl⟩ := List.mem_iff_getElem.1 hb'
    have hi' : i < 8 := by simp [openM] at hi; omega
    have := hb i hi'
    rw [List.getD_eq_getElem?_getD, List.getElem?_eq_getElem (by omega)] at this
    simpa [openM] using this
  · intro x hx
    obtain ⟨i, hi, rfl⟩ := List.mem_map.1 hx
    have hi' : i < 4 := by simpa using hi
    have := hc i hi'
    cases hp : clientOf (ls.getD (8 + i) []) with
    | none => rw [hp] at this; cases this
    | some p => exact clientOf_ok hp
  · show (l.drop 3).map (fun n : Nat => (n : Int)) = [] ∨ (crewB ((l.drop 3).map (fun n : Nat => (n : Int))) = true ∧ l.getD 1 0 < 1048576)
    rcases h7 with h7 | h7
    · left
      have : l.drop 3 = [] := List.drop_eq_nil_of_le (by omega)
      rw [this]; rfl
    · right
      refine ⟨h7, ?_⟩
      have hp := crewB_pos h7
      rw [List.length_map, List.length_drop] at hp
      omega
theorem openV_ok {ls : List (List UInt8)} {m : VM} (h : openV ls = some m) : VOk m := by
  unfold openV at h
  split at h
  · rename_i hc
    unfold sealOf at h
    cases hn : numsV (ls.getD 12 []) with
    | none => rw [hn] at h; cases h
    | some l =>
      rw [hn] at h
      simp only at h
      by_cases hg : goodSeal l
      · rw [if_pos hg] at h
        simp only at h
        rw [← Option.some.inj h]
        exact openM_ok hc.1 hc.2.1 hc.2.2 hg
      · rw [if_neg hg] at h; cases h
  · cases h
theorem leavesV_getD (m : VM) (i : Nat) (h : i < 13) : (leavesV m).getD i [] = leafV m i := by
  rw [List.getD_eq_getElem?_getD, leavesV_get m i h]; rfl
/-- the leaves of a vault open it -/
theorem openV_leaves {m : VM} (h : VOk m) : openV (leavesV m) = some m := by
  have hcl : ∀ i, i < 4 → clientOf ((leavesV m).getD (8 + i) []) = some (lastV m i) := fun i hi => by
    rw [leavesV_getD m _ (by omega)]
    unfold leafV
    rw [if_neg (by omega), if_pos (by omega), show 8 + i - 8 = i by omega]
    have := h.lst hi
    exact clientOf_last this.1 this.2
  unfold openV
  rw [if_pos ⟨leavesV_len m, fun i hi => by rw [leavesV_getD m i (by omega)]; unfold leafV; rw [if_pos hi]; exact h.blk hi, fun i hi => by rw [hcl i hi]; rfl⟩]
  have h12 : (leavesV m).getD 12 [] = sealB m := by rw [leavesV_getD m 12 (by omega)]; rfl
  rw [h12, sealOf_leaf h]
  simp only
  congr 1
  have hb : (m.shut.map (·.toNat)).map (fun n : Nat => (n : Int)) = m.shut := by
    rw [List.map_map]
    conv => rhs; rw [← List.map_id m.shut]
    refine List.map_congr_left fun z hz => ?_
    have := h.sealNum.1 z hz
    unfold NumI at this
    show ((z.toNat : Nat) : Int) = z
    omega
  obtain ⟨q, e, bl, la, s⟩ := m
  unfold openM
  have h1 : (leavesV ⟨q, e, bl, la, s⟩).take 8 = bl := by
    apply List.ext_getElem?
    intro i
    rw [List.getElem?_take]
    have hl : bl.length = 8 := h.blocks
    by_cases hi : i < 8
    · rw [if_pos hi, leavesV_get _ i (by omega)]
      unfold leafV blockV
      rw [if_pos hi]
      show some (bl.getD i []) = bl[i]?
      rw [List.getD_eq_getElem?_getD, List.getElem?_eq_getElem (by omega)]
      rfl
    · rw [if_neg hi, List.getElem?_eq_none (by omega)]
  have h2 : (List.range 4).map (fun i => (clientOf ((leavesV ⟨q, e, bl, la, s⟩).getD (8 + i) [])).getD (0, [])) = la := by
    apply List.ext_getElem?
    intro i
    have hl : la.length = 4 := h.last
    rw [List.getElem?_map]
    by_cases hi : i < 4
    · rw [List.getElem?_range hi]
      simp only [Option.map_some]
      rw [hcl i hi]
      show some (la.getD i (0, [])) = la[i]?
      rw [List.getD_eq_getElem?_getD, List.getElem?_eq_getElem (by omega)]
      rfl
    · rw [List.getElem?_eq_none (by simpa using hi), List.getElem?_eq_none (by omega)]
      rfl
  rw [h1, h2]
  congr 1

/-- the leaves that bytes say, with the error's number -/
def loadGo : Nat → List UInt8 → List (List UInt8) → List (List UInt8) × List UInt8 × Nat
  | 0, b, acc => (acc, b, 0)
  | f + 1, b, acc => if (ts b 128).2.2 ≠ 0 then (acc, b, (ts b 128).2.2) else loadGo f (ts b 128).2.1 (acc ++ [(ts b 128).1])
def loadV (b : List UInt8) : Option VM × Nat :=
  let r := loadGo 13 b []
  if r.2.2 ≠ 0 then (none, r.2.2) else if 0 < r.2.1.length then (none, 4) else match openV r.1 with
    | none => (none, 2)
    | some m => (some m, 0)
def bytesV (m : VM) : List UInt8 := ((leavesV m).map strB).flatten
theorem ts_str {s : List UInt8} (h : s.length ≤ 128) (r : List UInt8) : ts (strB s ++ r) 128 = (s, r, 0) := by
  unfold ts
  rw [takeS_str (by omega)]
theorem loadGo_of : ∀ (ls : List (List UInt8)) (acc : List (List UInt8)), (∀ x, x ∈ ls → x.length ≤ 128) → loadGo ls.length (ls.map strB).flatten acc = (acc ++ ls, [], 0)
  | [], acc, _ => by simp [loadGo]
  | x :: t, acc, h => by
    rw [List.map_cons, List.flatten_cons, List.length_cons]
    unfold loadGo
    have hx := ts_str (h x (List.mem_cons_self ..)) (t.map strB).flatten
    rw [hx]
    simp only
    rw [if_neg (by simp), loadGo_of t _ fun y hy => h y (List.mem_cons_of_mem _ hy), List.append_assoc]
    rfl
theorem loadV_bytes {m : VM} (h : VOk m) : loadV (bytesV m) = (some m, 0) := by
  have hg := loadGo_of (leavesV m) [] fun x hx => by
    obtain ⟨i, _, rfl⟩ := List.mem_map.1 hx
    have := leafV_len h i
    omega
  rw [leavesV_len, List.nil_append] at hg
  unfold loadV bytesV
  rw [hg]
  simp only
  rw [if_neg (by simp), if_neg (by simp), openV_leaves h]

end Go.Proofs.YtlaodmmjhjpfmaaGreat

/- An atlas in plain words: crews, moves, the clients' last wishes; what Do, Heard make of it. -/
namespace Go.Proofs.YtlaodmmjhjpfmaaGreat
set_option linter.unusedVariables false

/-- a number into a rising list -/
def insL (z : Int) : List Int → List Int
  | [] => [z]
  | x :: t => if z < x then z :: x :: t else x :: insL z t
def dropL (l : List Int) (o : Int) : List Int := l.filter (fun x => !decide (x = o))
def replL (l : List Int) (o n : Int) : List Int := insL n (dropL l o)
def nowL (l : List Int) : List (Int × Int) → List Int
  | [] => l
  | m :: t => nowL (replL l m.1 m.2) t
def crewsL (l : List Int) : List (Int × Int) → List (List Int)
  | [] => [l]
  | m :: t => l :: crewsL (replL l m.1 m.2) t
/-- nodes that may be those of a crew -/
structure OkC (f : Nat) (l : List Int) : Prop where
  faults : f ≤ 2
  len : l.length = 3 * f + 1
  up : risingB 0 l = true
theorem risingB_all : ∀ (l : List Int) (a : Int), risingB a l = true → l.Pairwise (· < ·) ∧ ∀ x, x ∈ l → a < x ∧ x ≤ 28
  | [], _, _ => ⟨List.Pairwise.nil, fun x hx => by cases hx⟩
  | y :: t, a, h => by
    unfold risingB at h
    rw [Bool.and_eq_true] at h
    have h1 := of_decide_eq_true h.1
    have h2 := risingB_all t y h.2
    refine ⟨List.Pairwise.cons (fun x hx => (h2.2 x hx).1) h2.1, fun x hx => ?_⟩
    rcases List.mem_cons.1 hx with rfl | hx
    · exact h1
    · have := h2.2 x hx; omega
theorem risingB_of : ∀ (l : List Int) (a : Int), l.Pairwise (· < ·) → (∀ x, x ∈ l → a < x ∧ x ≤ 28) → risingB a l = true
  | [], _, _, _ => rfl
  | y :: t, a, h, hb => by
    have hp := List.pairwise_cons.1 h
    have h1 := hb y (List.mem_cons_self ..)
    unfold risingB
    rw [decide_eq_true ⟨h1.1, h1.2⟩, Bool.true_and]
    exact risingB_of t y hp.2 fun x hx => ⟨hp.1 x hx, (hb x (List.mem_cons_of_mem _ hx)).2⟩
theorem OkC.pair {f : Nat} {l : List Int} (h : OkC f l) : l.Pairwise (· < ·) := (risingB_all l 0 h.up).1
theorem OkC.bound {f : Nat} {l : List Int} (h : OkC f l) {x : Int} (hx : x ∈ l) : 0 < x ∧ x ≤ 28 := (risingB_all l 0 h.up).2 x hx
theorem OkC.short {f : Nat} {l : List Int} (h : OkC f l) : 1 ≤ l.length ∧ l.length ≤ 7 := by have := h.faults; have := h.len; omega
theorem OkC.crew {f : Nat} {l : List Int} (h : OkC f l) : crewB l = true := by
  unfold crewB
  rw [h.up, Bool.and_true]
  have := h.short
  have := h.len
  exact decide_eq_true ⟨by omega, by omega⟩
theorem insL_at (z : Int) : ∀ (a b : List Int), (∀ x, x ∈ a → ¬ z < x) → (∀ x, b.head? = some x → z < x) → insL z (a ++ b) = a ++ z :: b
  | [], [], _, _ => rfl
  | [], x :: t, _, hb => by
    show (if z < x then z :: x :: t else x :: insL z t) = z :: x :: t
    rw [if_pos (hb x rfl)]
  | x :: a, b, ha, hb => by
    show (if z < x then z :: x :: (a ++ b) else x :: insL z (a ++ b)) = x :: (a ++ z :: b)
    rw [if_neg (ha x (List.mem_cons_self ..)), insL_at z a b (fun y hy => ha y (List.mem_cons_of_mem _ hy)) hb]
theorem insL_mem (z x : Int) : ∀ (l : List Int), x ∈ insL z l ↔ x = z ∨ x ∈ l
  | [] => by simp [insL]
  | y :: t => by
    unfold insL
    split
    · simp
    · simp only [List.mem_cons]
      rw [insL_mem z x t]
      constructor
      · rintro (h | h | h)
        · exact .inr (.inl h)
        · exact .inl h
        · exact .inr (.inr h)
      · rintro (h | h | h)
        · exact .inr (.inl h)
        · exact .inl h
        · exact .inr (.inr h)
theorem insL_len (z : Int) : ∀ (l : List Int), (insL z l).length = l.length + 1
  | [] => rfl
  | y :: t => by
    unfold insL
    split
    · rfl
    · simp [insL_len z t]
theorem insL_pair (z : Int) : ∀ (l : List Int), l.Pairwise (· < ·) → ¬ z ∈ l → (insL z l).Pairwise (· < ·)
  | [], _, _ => by simp [insL]
  | y :: t, h, hz => by
    have hp := List.pairwise_cons.1 h
    unfold insL
    split
    · rename_i hlt
      refine List.Pairwise.cons (fun x hx => ?_) h
      rcases List.mem_cons.1 hx with rfl | hx
      · exact hlt
      · have := hp.1 x hx; omega
    · rename_i hlt
      have hne : z ≠ y := fun e => hz (by rw [e]; exact List.mem_cons_self ..)
      refine List.Pairwise.cons (fun x hx => ?_) (insL_pair z t hp.2 fun hm => hz (List.mem_cons_of_mem _ hm))
      rcases (insL_mem z x t).1 hx with rfl | hx
      · omega
      · exact hp.1 x hx
theorem dropL_mem {l : List Int} {o x : Int} : x ∈ dropL l o ↔ x ∈ l ∧ x ≠ o := by
  unfold dropL
  rw [List.mem_filter]
  simp
theorem dropL_pair {l : List Int} (o : Int) (h : l.Pairwise (· < ·)) : (dropL l o).Pairwise (· < ·) := h.filter _
theorem dropL_len : ∀ (l : List Int) (o : Int), l.Pairwise (· < ·) → o ∈ l → (dropL l o).length + 1 = l.length
  | [], _, _, h => by cases h
  | y :: t, o, h, hm => by
    have hp := List.pairwise_cons.1 h
    unfold dropL
    by_cases hy : y = o
    · rw [List.filter_cons_of_neg (by simp [hy])]
      have : t.filter (fun x => !decide (x = o)) = t := List.filter_eq_self.2 fun x hx => by
        have := hp.1 x hx
        simp
        omega
      rw [this]; rfl
    · rw [List.filter_cons_of_pos (by simp [hy])]
      have := dropL_len t o hp.2 (by
        rcases List.mem_cons.1 hm with e | e
        · exact absurd e.symm hy
        · exact e)
      unfold dropL at this
      simp only [List.length_cons]
      omega
theorem OkC.repl {f : Nat} {l : List Int} (h : OkC f l) {o n : Int} (ho : o ∈ l) (hn : ¬ n ∈ l) (h1 : 1 ≤ n) (h2 : n ≤ 28) : OkC f (replL l o n) := by
  have hl := dropL_len l o h.pair ho
  have hnd : ¬ n ∈ dropL l o := fun hm => hn (dropL_mem.1 hm).1
  refine ⟨h.faults, by unfold replL; rw [insL_len]; have := h.len; omega, risingB_of _ 0 (insL_pair n _ (dropL_pair o h.pair) hnd) fun x hx => ?_⟩
  rcases (insL_mem n x _).1 hx with rfl | hx
  · omega
  · exact h.bound (dropL_mem.1 hx).1
theorem replL_mem {l : List Int} {o n x : Int} : x ∈ replL l o n ↔ x = n ∨ (x ∈ l ∧ x ≠ o) := by
  unfold replL
  rw [insL_mem, dropL_mem]
theorem nowL_append : ∀ (l : List Int) (a : List (Int × Int)) (o n : Int), nowL l (a ++ [(o, n)]) = replL (nowL l a) o n
  | _, [], _, _ => rfl
  | l, m :: t, o, n => nowL_append (replL l m.1 m.2) t o n
theorem crewsL_append : ∀ (l : List Int) (a : List (Int × Int)) (o n : Int), crewsL l (a ++ [(o, n)]) = crewsL l a ++ [replL (nowL l a) o n]
  | _, [], _, _ => rfl
  | l, m :: t, o, n => by
    show l :: crewsL _ (t ++ [(o, n)]) = l :: (crewsL _ t ++ [_])
    rw [crewsL_append]
    rfl
theorem crewsL_len : ∀ (l : List Int) (a : List (Int × Int)), (crewsL l a).length = a.length + 1
  | _, [] => rfl
  | l, m :: t => by
    show (crewsL (replL l m.1 m.2) t).length + 1 = _
    rw [crewsL_len]
    rfl
theorem crewsL_at : ∀ (l : List Int) (a : List (Int × Int)) (i : Nat), i ≤ a.length → (crewsL l a)[i]? = some (nowL l (a.take i))
  | _, [], i, h => by
    obtain rfl : i = 0 := by simpa using h
    rfl
  | l, m :: t, 0, _ => rfl
  | l, m :: t, i + 1, h => by
    show (crewsL (replL l m.1 m.2) t)[i]? = some (nowL (replL l m.1 m.2) (t.take i))
    exact crewsL_at _ t i (by simpa using h)
/-- moves that may be, of a crew -/
def MovesOk (l : List Int) : List (Int × Int) → Prop
  | [] => True
  | m :: t => m.1 ∈ l ∧ ¬ m.2 ∈ l ∧ 1 ≤ m.2 ∧ m.2 ≤ 28 ∧ MovesOk (replL l m.1 m.2) t
theorem MovesOk.now {f : Nat} : ∀ {l : List Int} {a : List (Int × Int)}, OkC f l → MovesOk l a → OkC f (nowL l a)
  | _, [], h, _ => h
  | l, m :: t, h, hm => MovesOk.now (l := replL l m.1 m.2) (a := t) (h.repl hm.1 hm.2.1 hm.2.2.1 hm.2.2.2.1) hm.2.2.2.2
theorem MovesOk.take : ∀ {l : List Int} {a : List (Int × Int)} (i : Nat), MovesOk l a → MovesOk l (a.take i)
  | _, [], i, _ => by simp [MovesOk]
  | _, _ :: _, 0, _ => trivial
  | _, m :: t, i + 1, h => ⟨h.1, h.2.1, h.2.2.1, h.2.2.2.1, MovesOk.take i h.2.2.2.2⟩
theorem MovesOk.app : ∀ {l : List Int} {a : List (Int × Int)} {o n : Int}, MovesOk l a → o ∈ nowL l a → ¬ n ∈ nowL l a → 1 ≤ n → n ≤ 28 → MovesOk l (a ++ [(o, n)])
  | _, [], _, _, _, h1, h2, h3, h4 => ⟨h1, h2, h3, h4, trivial⟩
  | _, m :: t, _, _, h, h1, h2, h3, h4 => ⟨h.1, h.2.1, h.2.2.1, h.2.2.2.1, MovesOk.app h.2.2.2.2 h1 h2 h3 h4⟩
theorem MovesOk.mem_old : ∀ {l : List Int} {a : List (Int × Int)} {f : Nat}, OkC f l → MovesOk l a → ∀ m, m ∈ a → 1 ≤ m.1 ∧ m.1 ≤ 28 ∧ 1 ≤ m.2 ∧ m.2 ≤ 28
  | _, [], _, _, _, _, hm => by cases hm
  | _, m :: t, f, hc, h, x, hx => by
    rcases List.mem_cons.1 hx with rfl | hx
    · have := hc.bound h.1
      exact ⟨by omega, by omega, h.2.2.1, h.2.2.2.1⟩
    · exact MovesOk.mem_old (hc.repl h.1 h.2.1 h.2.2.1 h.2.2.2.1) h.2.2.2.2 x hx
theorem nowL_mem : ∀ {l : List Int} {a : List (Int × Int)} {x : Int}, x ∈ nowL l a → x ∈ l ∨ ∃ m, m ∈ a ∧ m.2 = x
  | _, [], _, h => .inl h
  | l, m :: t, x, h => by
    rcases nowL_mem (l := replL l m.1 m.2) (a := t) h with h | ⟨q, h1, h2⟩
    · rcases replL_mem.1 h with h | h
      · exact .inr ⟨m, List.mem_cons_self .., h.symm⟩
      · exact .inl h.1
    · exact .inr ⟨q, List.mem_cons_of_mem _ h1, h2⟩

/-- a chunk's crews: the faults, the first nodes, what changed -/
structure Srv where
  f : Nat
  first : List Int
  moves : List (Int × Int)
structure AM where
  chunks : List Srv
  last : List (Nat × Ans)
def Srv.now (s : Srv) : List Int := nowL s.first s.moves
def usedS (s : Srv) (z : Int) : Bool := decide (z ∈ s.first) || s.moves.any (fun m => decide (m.2 = z))
def usedA (cs : List Srv) (f : Nat) (z : Int) : Bool := decide (z ≤ 3 * (f : Int) + 1) || cs.any (fun s => usedS s z)
structure SOk (s : Srv) : Prop where
  crew : OkC s.f s.first
  len : s.moves.length ≤ 21
  mv : MovesOk s.first s.moves
structure AnsOk (a : Ans) : Prop where
  err : a.err = 0 ∨ a.err = 5 ∨ a.err = 180
  data : a.data = []
  epoch : a.epoch ≤ 21
  nodes : a.nodes = [] ∨ crewB a.nodes = true
/-- all that ever served -/
def servedS (s : Srv) : List Int := s.first ++ s.moves.map (·.2)
def servedA (cs : List Srv) : List Int := (cs.map servedS).flatten
structure AOk (m : AM) : Prop where
  one : 1 ≤ m.chunks.length ∧ m.chunks.length ≤ 2
  srv : ∀ s, s ∈ m.chunks → SOk s
  same : ∃ f, ∀ s, s ∈ m.chunks → s.f = f
  apart : (servedA m.chunks).Nodup
  high : ∀ s, s ∈ m.chunks → ∀ x, x ∈ servedS s → 3 * (s.f : Int) + 1 < x
  last : m.last.length = 4
  ans : ∀ x, x ∈ m.last → x.1 ≤ maxN ∧ AnsOk x.2 ∧ (x.1 = 0 → x.2 = okA)
def lastQ (m : AM) (i : Nat) : Nat × Ans := m.last.getD i (0, okA)
def movesI : List (Int × Int) → List Int
  | [] => []
  | m :: t => m.1 :: m.2 :: movesI t
def chunkI (s : Srv) : List Int := (((s.moves.length + 1 : Nat) : Int) :: (s.f : Int) :: s.first) ++ movesI s.moves
def lastI (x : Nat × Ans) : List Int := [(x.1 : Int), (x.2.err : Int), (x.2.epoch : Int), (x.2.nodes.length : Int)] ++ x.2.nodes
def leafI (m : AM) (i : Nat) : List Int := if i < 2 then (match m.chunks[i]? with | some s => chunkI s | none => [0]) else lastI (lastQ m (i - 2))
def leafQ (m : AM) (i : Nat) : List UInt8 := numsI (leafI m i)
def leavesQ (m : AM) : List (List UInt8) := (List.range 6).map (leafQ m)
theorem leavesQ_len (m : AM) : (leavesQ m).length = 6 := by simp [leavesQ]
theorem leavesQ_get (m : AM) (i : Nat) (h : i < 6) : (leavesQ m)[i]? = some (leafQ m i) := by
  unfold leavesQ
  rw [List.getElem?_map, List.getElem?_range h]; rfl
theorem leavesQ_getD (m : AM) (i : Nat) (h : i < 6) : (leavesQ m).getD i [] = leafQ m i := by
  rw [List.getD_eq_getElem?_getD, leavesQ_get m i h]; rfl

/-- the answer to a wish that may be -/
def inQ (x : Wish) : Bool := mayB x && decide (x.kind = 3 ∨ x.kind = 4)
def oldQ (m : AM) (x : Wish) : Ans × Bool :=
  let y := lastQ m (x.client - 31).toNat
  if x.stamp < (y.1 : Int) then (errA 172 0, true) else if (y.1 : Int) < x.stamp then (okA, false) else (y.2, true)
def movedS (s : Srv) (o n : Int) : Srv := ⟨s.f, s.first, s.moves ++ [(o, n)]⟩
def answerQ (m : AM) (x : Wish) : AM × Ans :=
  match m.chunks[(x.block - 1).toNat]? with
  | none => (m, errA 180 0)
  | some s =>
    if x.kind = 3 then (m, ⟨0, [], s.moves.length, s.now⟩)
    else if x.client ≠ 34 then (m, errA 180 0)
    else if ¬ x.old ∈ s.now ∨ usedA m.chunks s.f x.new = true then (m, errA 180 s.moves.length)
    else if s.moves.length + 1 = 22 then (m, errA 5 0)
    else (⟨m.chunks.set (x.block - 1).toNat (movedS s x.old x.new), m.last⟩, errA 0 (s.moves.length + 1))
def didQ (m : AM) (x : Wish) : AM :=
  if ((lastQ m (x.client - 31).toNat).1 : Int) < x.stamp then ⟨(answerQ m x).1.chunks, (answerQ m x).1.last.set (x.client - 31).toNat (x.stamp.toNat, (answerQ m x).2)⟩ else m
def doQ (m : AM) (x : Wish) : AM × Ans × Nat := if inQ x = true then (didQ m x, (oldQ (didQ m x) x).1, 0) else (m, okA, 2)
theorem SOk.now_ok {s : Srv} (h : SOk s) : OkC s.f s.now := h.mv.now h.crew
theorem movesI_len : ∀ l : List (Int × Int), (movesI l).length = 2 * l.length
  | [] => rfl
  | m :: t => by
    show (movesI t).length + 2 = _
    rw [movesI_len t]
    simp only [List.length_cons]
    omega
theorem movesI_append : ∀ (a b : List (Int × Int)), movesI (a ++ b) = movesI a ++ movesI b
  | [], _ => rfl
  | m :: t, b => by
    show m.1 :: m.2 :: movesI (t ++ b) = m.1 :: m.2 :: (movesI t ++ movesI b)
    rw [movesI_append t b]
theorem movesI_mem : ∀ {l : List (Int × Int)} {x : Int}, x ∈ movesI l → ∃ m, m ∈ l ∧ (x = m.1 ∨ x = m.2)
  | [], _, h => by cases h
  | m :: t, x, h => by
    rcases List.mem_cons.1 h with h | h
    · exact ⟨m, List.mem_cons_self .., .inl h⟩
    · rcases List.mem_cons.1 h with h | h
      · exact ⟨m, List.mem_cons_self .., .inr h⟩
      · obtain ⟨q, h1, h2⟩ := movesI_mem h
        exact ⟨q, List.mem_cons_of_mem _ h1, h2⟩
theorem numI_small {z : Int} (h1 : 0 ≤ z) (h2 : z ≤ 255) : NumI z := by unfold NumI; omega
/-- a number below 256 is of two bytes at most -/
theorem numB_two {n : Nat} (h : n < 256) : (numB n).length ≤ 2 := by
  have : ∀ n : Fin 256, (numB n.1).length ≤ 2 := by decide +kernel
  exact this ⟨n, h⟩
theorem numsI_len2 : ∀ (l : List Int), (∀ z, z ∈ l → 0 ≤ z ∧ z ≤ 255) → (numsI l).length ≤ 2 * l.length
  | [], _ => by simp [numsI]
  | z :: t, h => by
    have h1 := h z (List.mem_cons_self ..)
    have h2 := numsI_len2 t fun x hx => h x (List.mem_cons_of_mem _ hx)
    have h3 := numB_two (n := z.toNat) (by omega)
    show (numB z.toNat ++ numsI t).length ≤ _
    rw [List.length_append, List.length_cons]
    omega
theorem SOk.chunk {s : Srv} (h : SOk s) : ∀ z, z ∈ chunkI s → 0 ≤ z ∧ z ≤ 255 := by
  intro z hz
  have hl := h.len
  have hf := h.crew.faults
  unfold chunkI at hz
  rcases List.mem_append.1 hz with hz | hz
  · rcases List.mem_cons.1 hz with rfl | hz
    · omega
    · rcases List.mem_cons.1 hz with rfl | hz
      · omega
      · have := h.crew.bound hz; omega
  · obtain ⟨m, h1, h2⟩ := movesI_mem hz
    have := MovesOk.mem_old h.crew h.mv m h1
    omega
theorem SOk.chunk_len {s : Srv} (h : SOk s) : (chunkI s).length ≤ 51 := by
  have := h.crew.short
  have := h.len
  have := movesI_len s.moves
  unfold chunkI
  rw [List.length_append]
  simp only [List.length_cons]
  omega
theorem crewB_bound {l : List Int} (h : crewB l = true) : l.length ≤ 7 ∧ ∀ z, z ∈ l → 0 < z ∧ z ≤ 28 := by
  unfold crewB at h
  rw [Bool.and_eq_true] at h
  exact ⟨(of_decide_eq_true h.1).2, (risingB_all l 0 h.2).2⟩
theorem AnsOk.bound {a : Ans} (h : AnsOk a) : a.nodes.length ≤ 7 ∧ ∀ z, z ∈ a.nodes → 0 ≤ z ∧ z ≤ 28 := by
  rcases h.nodes with e | e
  · rw [e]; exact ⟨by simp, fun z hz => by cases hz⟩
  · have := crewB_bound e
    exact ⟨this.1, fun z hz => by have := this.2 z hz; omega⟩
theorem AOk.lst {m : AM} (h : AOk m) (i : Nat) : (lastQ m i).1 ≤ maxN ∧ AnsOk (lastQ m i).2 ∧ ((lastQ m i).1 = 0 → (lastQ m i).2 = okA) := by
  unfold lastQ
  rw [List.getD_eq_getElem?_getD]
  cases hx : m.last[i]? with
  | none => exact ⟨by unfold maxN; exact Nat.zero_le _, ⟨.inl rfl, rfl, by show (0 : Nat) ≤ 21; omega, .inl rfl⟩, fun _ => rfl⟩
  | some x => exact h.ans x (List.mem_of_getElem? hx)
theorem leafI_num {m : AM} (h : AOk m) (i : Nat) : ∀ z, z ∈ leafI m i → NumI z := by
  intro z hz
  unfold leafI at hz
  split at hz
  · cases hs : m.chunks[i]? with
    | none =>
      rw [hs] at hz
      rw [List.mem_singleton.1 hz]
      exact numI_small (by omega) (by omega)
    | some s =>
      rw [hs] at hz
      have := (h.srv s (List.mem_of_getElem? hs)).chunk z hz
      exact numI_small this.1 this.2
  · have hl := h.lst (i - 2)
    have hb := hl.2.1.bound
    have he := hl.2.1.err
    have hp := hl.2.1.epoch
    unfold lastI at hz
    simp only [List.cons_append, List.nil_append, List.mem_cons] at hz
    rcases hz with rfl | rfl | rfl | rfl | hz
    · have := hl.1; unfold maxN at this; unfold NumI; omega
    · unfold NumI; omega
    · unfold NumI; omega
    · unfold NumI; omega
    · have := hb.2 z hz; unfold NumI; omega
theorem leafQ_len {m : AM} (h : AOk m) (i : Nat) : (leafQ m i).length ≤ 120 := by
  unfold leafQ leafI
  split
  · cases hs : m.chunks[i]? with
    | none =>
      have := numsI_len2 [0] (fun z hz => by rw [List.mem_singleton.1 hz]; omega)
      exact Nat.le_trans this (by simp)
    | some s =>
      have hk := h.srv s (List.mem_of_getElem? hs)
      have h1 := numsI_len2 (chunkI s) hk.chunk
      have h2 := hk.chunk_len
      show (numsI (chunkI s)).length ≤ 120
      omega
  · have hl := h.lst (i - 2)
    have hb := hl.2.1.bound
    have he := hl.2.1.err
    have hp := hl.2.1.epoch
    have h1 := numsI_len2 ([((lastQ m (i - 2)).2.err : Int), ((lastQ m (i - 2)).2.epoch : Int), ((lastQ m (i - 2)).2.nodes.length : Int)] ++ (lastQ m (i - 2)).2.nodes) (fun z hz => by
      simp only [List.cons_append, List.nil_append, List.mem_cons] at hz
      rcases hz with rfl | rfl | rfl | hz
      · omega
      · omega
      · omega
      · have := hb.2 z hz; omega)
    have h2 := (numB_len (n := (lastQ m (i - 2)).1) hl.1).2
    show (numB (((lastQ m (i - 2)).1 : Int)).toNat ++ numsI ([((lastQ m (i - 2)).2.err : Int), ((lastQ m (i - 2)).2.epoch : Int), ((lastQ m (i - 2)).2.nodes.length : Int)] ++ (lastQ m (i - 2)).2.nodes)).length ≤ 120
    rw [List.length_append, Int.toNat_natCast]
    rw [List.length_append] at h1
    simp only [List.length_cons, List.length_nil] at h1
    omega

end Go.Proofs.YtlaodmmjhjpfmaaGreat
