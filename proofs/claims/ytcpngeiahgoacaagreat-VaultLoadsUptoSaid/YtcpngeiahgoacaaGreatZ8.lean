/- Parts of the proof, in one text: VaultM, VoM, Reader, Parse, WishMath, Batch, TreeA, TreeB. -/
import Derived.Test.YtcpngeiahgoacaaGreatZ6
import Derived.Test.YtcpngeiahgoacaaGreatZ7
import Derived.Laws.OwnMore
import Derived.Deep.RegionLaw
import Derived.Deep.DeepCutAuto

/- A vault in plain words: blocks, the clients' last wishes, the seal; what Do, Heard, Turn make of it. -/
namespace Go.Proofs.YtcpngeiahgoacaaGreat
set_option linter.unusedVariables false

structure VM where
  group : Nat
  epoch : Nat
  blocks : List (List UInt8)
  last : List (Nat × List UInt8)
  shut : List Int
structure Ans where
  err : Nat
  data : List UInt8
  epoch : Nat
  nodes : List Int
def okA : Ans := ⟨0, [], 0, []⟩
def dataA (d : List UInt8) : Ans := ⟨0, d, 0, []⟩
def errA (e n : Nat) : Ans := ⟨e, [], n, []⟩

structure VOk (m : VM) : Prop where
  group : 1 ≤ m.group ∧ m.group ≤ 2
  epoch : m.epoch ≤ 1048576
  blocks : m.blocks.length = 8
  block : ∀ b, b ∈ m.blocks → b.length = 16
  last : m.last.length = 4
  stamp : ∀ x, x ∈ m.last → x.1 ≤ maxN ∧ (x.2 = [] ∨ x.2.length = 16 ∧ 0 < x.1)
  shut : m.shut = [] ∨ (crewB m.shut = true ∧ m.epoch < 1048576)

def blockV (m : VM) (i : Nat) : List UInt8 := m.blocks.getD i []
def lastV (m : VM) (i : Nat) : Nat × List UInt8 := m.last.getD i (0, [])
def lastB (x : Nat × List UInt8) : List UInt8 := numB x.1 ++ strB x.2
def sealB (m : VM) : List UInt8 := numB m.group ++ numB m.epoch ++ numB m.shut.length ++ numsI m.shut
def leafV (m : VM) (i : Nat) : List UInt8 := if i < 8 then blockV m i else if i < 12 then lastB (lastV m (i - 8)) else sealB m
def leavesV (m : VM) : List (List UInt8) := (List.range 13).map (leafV m)

def newV (g : Nat) : VM := ⟨g, 0, List.replicate 8 (List.replicate 16 0), List.replicate 4 (0, []), []⟩

def oldV (m : VM) (x : Wish) : Option Ans :=
  let y := lastV m (x.client - 31).toNat
  if x.stamp = (y.1 : Int) then some (dataA y.2) else if x.stamp < (y.1 : Int) then some (errA 172 0) else none
def elseV (m : VM) (e : Int) : Option Ans :=
  if e ≠ (m.epoch : Int) then some (errA 171 m.epoch) else if 0 < m.shut.length then some (errA 171 (m.epoch + 1)) else none
def inV (m : VM) (x : Wish) : Bool := mayB x && decide (x.group = (m.group : Int))
/-- what a wish that is no seal makes: its data, the vault -/
def ranV (m : VM) (x : Wish) : VM × List UInt8 :=
  let c := (x.client - 31).toNat
  let b := x.block.toNat
  let d := if x.kind = 1 then blockV m b else []
  (⟨m.group, m.epoch, if x.kind = 1 then m.blocks else m.blocks.set b x.data, m.last.set c (x.stamp.toNat, d), m.shut⟩, d)
def sealV (m : VM) (x : Wish) : VM × Ans :=
  match elseV m x.epoch with
  | some a => (m, a)
  | none => if m.epoch = 1048576 then (m, errA 5 0) else (⟨m.group, m.epoch, m.blocks, m.last, x.next⟩, okA)
def doV (m : VM) (x : Wish) : VM × Ans × Nat :=
  if inV m x = true then
    if x.kind = 5 then ((sealV m x).1, (sealV m x).2, 0)
    else match oldV m x with
      | some a => (m, a, 0)
      | none => match elseV m x.epoch with
        | some a => (m, a, 0)
        | none => ((ranV m x).1, dataA (ranV m x).2, 0)
  else (m, okA, 2)
def turnV (m : VM) : VM × Nat := if m.shut.length = 0 then (m, 171) else (⟨m.group, m.epoch + 1, m.blocks, m.last, []⟩, 0)

theorem leavesV_len (m : VM) : (leavesV m).length = 13 := by simp [leavesV]
theorem leavesV_get (m : VM) (i : Nat) (h : i < 13) : (leavesV m)[i]? = some (leafV m i) := by
  unfold leavesV
  rw [List.getElem?_map, List.getElem?_range h]; rfl
theorem newV_ok (g : Nat) (h1 : 1 ≤ g) (h2 : g ≤ 2) : VOk (newV g) := by
  refine ⟨⟨h1, h2⟩, by simp [newV], by simp [newV], ?_, by simp [newV], ?_, .inl rfl⟩
  · intro b hb
    obtain ⟨_, rfl⟩ := List.mem_replicate.1 hb
    simp
  · intro x hx
    obtain ⟨_, rfl⟩ := List.mem_replicate.1 hx
    exact ⟨by unfold maxN; omega, .inl rfl⟩
theorem VOk.blk {m : VM} (h : VOk m) {i : Nat} (hi : i < 8) : (blockV m i).length = 16 := by
  unfold blockV
  rw [List.getD_eq_getElem?_getD, List.getElem?_eq_getElem (by rw [h.blocks]; exact hi)]
  exact h.block _ (List.getElem_mem _)
theorem VOk.lst {m : VM} (h : VOk m) {i : Nat} (hi : i < 4) : (lastV m i).1 ≤ maxN ∧ ((lastV m i).2 = [] ∨ (lastV m i).2.length = 16 ∧ 0 < (lastV m i).1) := by
  unfold lastV
  rw [List.getD_eq_getElem?_getD, List.getElem?_eq_getElem (by rw [h.last]; exact hi)]
  exact h.stamp _ (List.getElem_mem _)
theorem VOk.sealNum {m : VM} (h : VOk m) : (∀ z, z ∈ m.shut → NumI z) ∧ m.shut.length ≤ 7 := by
  rcases h.shut with e | ⟨e, _⟩
  · rw [e]; exact ⟨fun z hz => absurd hz (by simp), by simp⟩
  · unfold crewB at e
    simp only [Bool.and_eq_true, decide_eq_true_eq] at e
    refine ⟨fun z hz => ?_, e.1.2⟩
    have := rising_num m.shut 0 (by omega) e.2 z hz
    unfold NumI
    omega
theorem may_client {x : Wish} (h : mayB x = true) (hk : x.kind ≠ 5) : 31 ≤ x.client ∧ x.client ≤ 34 ∧ 1 ≤ x.stamp ∧ x.stamp ≤ 9007199254740991 := by
  have hm : MayP x := of_decide_eq_true h
  unfold MayP at hm
  obtain ⟨_, _, h1 | h1⟩ := hm
  · exact absurd h1.1 hk
  · exact ⟨h1.2.1, h1.2.2.1, h1.2.2.2.1, h1.2.2.2.2.1⟩
theorem may_group {x : Wish} (h : mayB x = true) (hk : x.kind ≠ 5) (hg : 1 ≤ x.group) : (x.kind = 1 ∧ x.data.length = 0 ∨ x.kind = 2 ∧ x.data.length = 16) ∧ 0 ≤ x.block ∧ x.block ≤ 7 := by
  have hm : MayP x := of_decide_eq_true h
  unfold MayP at hm
  obtain ⟨_, _, h1 | h1⟩ := hm
  · exact absurd h1.1 hk
  · rcases h1.2.2.2.2.2.2 with h2 | h2
    · exact ⟨h2.1, h2.2.2.2.1, h2.2.2.2.2.1⟩
    · omega
theorem may_seal {x : Wish} (h : mayB x = true) (hk : x.kind = 5) : crewB x.next = true := by
  have hm : MayP x := of_decide_eq_true h
  unfold MayP at hm
  obtain ⟨_, _, h1 | h1⟩ := hm
  · exact h1.2.2.2.2.2.2.2.2.2
  · exact absurd hk h1.1
theorem crewB_pos {l : List Int} (h : crewB l = true) : 0 < l.length ∧ l.length ≤ 7 := by
  unfold crewB at h
  simp only [Bool.and_eq_true, decide_eq_true_eq] at h
  omega

theorem VOk.ran {m : VM} (h : VOk m) {x : Wish} (hm : mayB x = true) (hg : x.group = (m.group : Int)) (hk : x.kind ≠ 5) : VOk (ranV m x).1 := by
  have hc := may_client hm hk
  have hb := may_group hm hk (by have := h.group; omega)
  have hd : (if x.kind = 1 then blockV m x.block.toNat else []) = [] ∨ (if x.kind = 1 then blockV m x.block.toNat else []).length = 16 := by
    split
    · right; exact h.blk (by omega)
    · left; rfl
  refine ⟨h.group, h.epoch, ?_, ?_, ?_, ?_, h.shut⟩
  · unfold ranV; simp only; split <;> simp [h.blocks]
  · intro b hb'
    unfold ranV at hb'
    simp only at hb'
    split at hb'
    · exact h.block b hb'
    · rename_i hk1
      rcases List.mem_or_eq_of_mem_set hb' with h1 | rfl
      · exact h.block b h1
      · rcases hb.1 with h1 | h1
        · exact absurd h1.1 hk1
        · exact h1.2
  · simp [ranV, h.last]
  · intro y hy
    unfold ranV at hy
    simp only at hy
    rcases List.mem_or_eq_of_mem_set hy with h1 | rfl
    · exact h.stamp y h1
    · refine ⟨by show x.stamp.toNat ≤ maxN; unfold maxN; omega, ?_⟩
      rcases hd with h1 | h1
      · exact .inl h1
      · exact .inr ⟨h1, by show 0 < x.stamp.toNat; omega⟩
theorem VOk.sealed {m : VM} (h : VOk m) {x : Wish} (hm : mayB x = true) (hk : x.kind = 5) : VOk (sealV m x).1 := by
  unfold sealV
  cases he : elseV m x.epoch with
  | some a => exact h
  | none =>
    simp only
    split
    · exact h
    · rename_i hne
      exact ⟨h.group, h.epoch, h.blocks, h.block, h.last, h.stamp, .inr ⟨may_seal hm hk, by have := h.epoch; show m.epoch < 1048576; omega⟩⟩
theorem VOk.turned {m : VM} (h : VOk m) : VOk (turnV m).1 := by
  unfold turnV
  split
  · exact h
  · rename_i hne
    refine ⟨h.group, ?_, h.blocks, h.block, h.last, h.stamp, .inl rfl⟩
    show m.epoch + 1 ≤ 1048576
    rcases h.shut with e | ⟨_, e⟩
    · rw [e] at hne; exact absurd rfl hne
    · omega
theorem leafV_len {m : VM} (h : VOk m) (i : Nat) : (leafV m i).length ≤ 120 := by
  unfold leafV
  split
  · rename_i hi; rw [h.blk hi]; omega
  · split
    · rename_i h8 h12
      have hl := h.lst (i := i - 8) (by omega)
      have hn := (numB_len hl.1).2
      have hd : (lastV m (i - 8)).2.length ≤ 16 := by
        rcases hl.2 with e | e
        · rw [e]; simp
        · rw [e.1]; omega
      have hn2 := (numB_len (n := (lastV m (i - 8)).2.length) (by unfold maxN; omega)).2
      unfold lastB strB
      simp only [List.length_append]
      omega
    · have hs := h.sealNum
      have h1 := (numB_len (n := m.group) (by have := h.group; unfold maxN; omega)).2
      have h2 := (numB_len (n := m.epoch) (by have := h.epoch; unfold maxN; omega)).2
      have h3 := (numB_len (n := m.shut.length) (by unfold maxN; omega)).2
      have h4 := numsI_len hs.1
      unfold sealB
      simp only [List.length_append]
      omega

end Go.Proofs.YtcpngeiahgoacaaGreat

/- What leaves and bytes say of a vault, in plain words. -/
namespace Go.Proofs.YtcpngeiahgoacaaGreat
set_option linter.unusedVariables false

/-- all numbers that bytes say -/
def numsGo : Nat → List UInt8 → Option (List Nat)
  | 0, b => if b = [] then some [] else none
  | f + 1, b => if b = [] then some [] else if (tn b).2.2 ≠ 0 then none else (numsGo f (tn b).2.1).map (fun l => (tn b).1 :: l)
def numsV (b : List UInt8) : Option (List Nat) := numsGo b.length b
theorem tn_shrink {b : List UInt8} (h : (tn b).2.2 = 0) : (tn b).2.1.length + 1 ≤ b.length := by
  unfold tn at h ⊢
  cases hb : takeN b with
  | error e =>
    rw [hb] at h
    simp only at h
    subst h
    exfalso
    unfold takeN at hb
    match b, hb with
    | [], hb => injection hb with hb; omega
    | m :: r, hb =>
      simp only at hb
      split at hb
      · injection hb with hb; omega
      · split at hb
        · injection hb with hb; omega
        · split at hb
          · injection hb with hb; omega
          · split at hb
            · injection hb with hb; omega
            · cases hb
  | ok p =>
    have h1 := takeN_back (n := p.1) (r := p.2) hb
    have h2 := congrArg List.length h1.1
    rw [List.length_append] at h2
    have := (numB_len h1.2).1
    show p.2.length + 1 ≤ _
    omega
theorem numsGo_more : ∀ (f g : Nat) (b : List UInt8), b.length ≤ f → b.length ≤ g → numsGo f b = numsGo g b
  | 0, 0, b, _, _ => rfl
  | 0, g + 1, b, hf, _ => by
    have : b = [] := List.eq_nil_of_length_eq_zero (by omega)
    subst this
    simp [numsGo]
  | f + 1, 0, b, _, hg => by
    have : b = [] := List.eq_nil_of_length_eq_zero (by omega)
    subst this
    simp [numsGo]
  | f + 1, g + 1, b, hf, hg => by
    simp only [numsGo]
    by_cases hb : b = []
    · rw [if_pos hb, if_pos hb]
    · rw [if_neg hb, if_neg hb]
      by_cases he : (tn b).2.2 ≠ 0
      · rw [if_pos he, if_pos he]
      · rw [if_neg he, if_neg he]
        have h1 := tn_shrink (b := b) (by omega)
        rw [numsGo_more f g _ (by omega) (by omega)]
theorem numsV_nil : numsV [] = some [] := rfl
theorem numsV_bad {b : List UInt8} (hb : b ≠ []) (he : (tn b).2.2 ≠ 0) : numsV b = none := by
  unfold numsV
  cases b with
  | nil => exact absurd rfl hb
  | cons x t => simp only [List.length_cons, numsGo, if_neg hb, if_pos he]
theorem numsV_next {b : List UInt8} (hb : b ≠ []) (he : (tn b).2.2 = 0) : numsV b = (numsV (tn b).2.1).map (fun l => (tn b).1 :: l) := by
  unfold numsV
  cases b with
  | nil => exact absurd rfl hb
  | cons x t =>
    have h1 := tn_shrink (b := x :: t) he
    simp only [List.length_cons, numsGo, if_neg hb]
    rw [if_neg (by omega), numsGo_more t.length (tn (x :: t)).2.1.length _ (by simp at h1; omega) (Nat.le_refl _)]
/-- what a client's leaf says -/
def clientOf (b : List UInt8) : Option (Nat × List UInt8) :=
  if (tn b).2.2 ≠ 0 then none
  else if (ts (tn b).2.1 16).2.2 ≠ 0 ∨ 0 < (ts (tn b).2.1 16).2.1.length ∨ (0 < (ts (tn b).2.1 16).1.length ∧ ((ts (tn b).2.1 16).1.length ≠ 16 ∨ (tn b).1 = 0)) then none
  else some ((tn b).1, (ts (tn b).2.1 16).1)
/-- what the last leaf says: group, epoch, the seal's nodes -/
def goodSeal (l : List Nat) : Prop := 3 ≤ l.length ∧ 1 ≤ l.getD 0 0 ∧ l.getD 0 0 ≤ 2 ∧ l.getD 1 0 ≤ 1048576 ∧ l.getD 2 0 + 3 = l.length ∧ ¬ (l.getD 1 0 = 1048576 ∧ 0 < l.getD 2 0) ∧ (l.length = 3 ∨ crewB ((l.drop 3).map (fun n : Nat => (n : Int))) = true)
instance (l : List Nat) : Decidable (goodSeal l) := by unfold goodSeal; infer_instance
def sealOf (b : List UInt8) : Option (List Nat) := match numsV b with
  | none => none
  | some l => if goodSeal l then some l else none
def openM (ls : List (List UInt8)) (l : List Nat) : VM := ⟨l.getD 0 0, l.getD 1 0, ls.take 8, (List.range 4).map (fun i => (clientOf (ls.getD (8 + i) [])).getD (0, [])), (l.drop 3).map (fun n : Nat => (n : Int))⟩
def openV (ls : List (List UInt8)) : Option VM :=
  if ls.length = 13 ∧ (∀ i, i < 8 → (ls.getD i []).length = 16) ∧ (∀ i, i < 4 → (clientOf (ls.getD (8 + i) [])).isSome = true) then
    match sealOf (ls.getD 12 []) with
    | none => none
    | some l => some (openM ls l)
  else none
theorem clientOf_ok {b : List UInt8} {p : Nat × List UInt8} (h : clientOf b = some p) : p.1 ≤ maxN ∧ (p.2 = [] ∨ p.2.length = 16 ∧ 0 < p.1) := by
  unfold clientOf at h
  split at h
  · cases h
  · split at h
    · cases h
    · rename_i h1 h2
      have := Option.some.inj h
      subst this
      refine ⟨tn_num b, ?_⟩
      rcases Nat.eq_zero_or_pos (ts (tn b).2.1 16).1.length with e | e
      · exact .inl (List.eq_nil_of_length_eq_zero e)
      · right
        show (ts (tn b).2.1 16).1.length = 16 ∧ 0 < (tn b).1
        omega
theorem openM_ok {ls : List (List UInt8)} {l : List Nat} (h : ls.length = 13) (hb : ∀ i, i < 8 → (ls.getD i []).length = 16) (hc : ∀ i, i < 4 → (clientOf (ls.getD (8 + i) [])).isSome = true) (hs : goodSeal l) : VOk (openM ls l) := by
  obtain ⟨h1, h2, h3, h4, h5, h6, h7⟩ := hs
  refine ⟨⟨h2, h3⟩, h4, by show (ls.take 8).length = 8; rw [List.length_take]; omega, ?_, by simp [openM], ?_, ?_⟩
  · intro b hb'
    obtain ⟨i, hi, rfl⟩ := List.mem_iff_getElem.1 hb'
    have hi' : i < 8 := by simp [openM] at hi; omega
    have := hb i hi'
    rw [List.getD_eq_getElem?_getD, List.getElem?_eq_getElem (by omega)] at this
    simpa [openM] using this
  · intro x hx
    obtain ⟨i, hi, rfl⟩ := List.mem_map.1 hx
    have hi' : i < 4 := by simpa using hi
    have := hc i hi'
    cases hp : clientOf (ls.getD (8 + i) []) with
    | none => rw [hp] at this; cases this
    | some p => exact clientOf_ok hp
  · show (l.drop 3).map (fun n : Nat => (n : Int)) = [] ∨ (crewB ((l.drop 3).map (fun n : Nat => (n : Int))) = true ∧ l.getD 1 0 < 1048576)
    rcases h7 with h7 | h7
    · left
      have : l.drop 3 = [] := List.drop_eq_nil_of_le (by omega)
      rw [this]; rfl
    · right
      refine ⟨h7, ?_⟩
      have hp := crewB_pos h7
      rw [List.length_map, List.length_drop] at hp
      omega
/-- the leaves that bytes say, with the error's number -/
def loadGo : Nat → List UInt8 → List (List UInt8) → List (List UInt8) × List UInt8 × Nat
  | 0, b, acc => (acc, b, 0)
  | f + 1, b, acc => if (ts b 128).2.2 ≠ 0 then (acc, b, (ts b 128).2.2) else loadGo f (ts b 128).2.1 (acc ++ [(ts b 128).1])
def loadV (b : List UInt8) : Option VM × Nat :=
  let r := loadGo 13 b []
  if r.2.2 ≠ 0 then (none, r.2.2) else if 0 < r.2.1.length then (none, 4) else match openV r.1 with
    | none => (none, 2)
    | some m => (some m, 0)
def bytesV (m : VM) : List UInt8 := ((leavesV m).map strB).flatten
end Go.Proofs.YtcpngeiahgoacaaGreat

/- Contracts of the reader: num, str, many, end. -/
namespace Go.Proofs.YtcpngeiahgoacaaGreat
set_option linter.unusedVariables false
open Go.RowKit

/-- bytes that are left, the error's number -/
abbrev RdS := List UInt8 × Nat
def rdN (s : RdS) : Nat × RdS := if s.2 = 0 then ((tn s.1).1, ((tn s.1).2.1, (tn s.1).2.2)) else (0, s)
def rdT (s : RdS) (most : Nat) : List UInt8 × RdS := if s.2 = 0 then ((ts s.1 most).1, ((ts s.1 most).2.1, (ts s.1 most).2.2)) else ([], s)
def rdM (s : RdS) (most : Nat) : Nat × RdS :=
  if (rdN s).2.2 = 0 then (if most < (rdN s).1 then (0, ((rdN s).2.1, 5)) else ((rdN s).1, (rdN s).2)) else (0, (rdN s).2)
def rdE (s : RdS) : Nat := if s.2 = 0 ∧ 0 < s.1.length then 4 else s.2

/-- of what was there, block g alone may have turned -/
structure OnlyAt (g : Nat) (w w' : World) : Prop where
  os : w'.os = w.os
  tape : w'.tape = w.tape
  output : w'.output = w.output
  size : w.heap.size ≤ w'.heap.size
  block : ∀ i, i < w.heap.size → i ≠ g → w'.heap[i]? = w.heap[i]?
theorem OnlyAt.refl (g : Nat) (w : World) : OnlyAt g w w := ⟨rfl, rfl, rfl, Nat.le_refl _, fun _ _ _ => rfl⟩
theorem OnlyAt.of_below {g : Nat} {w w' : World} (h : Below w.heap.size w w') : OnlyAt g w w' := ⟨h.os, h.tape, h.output, h.size, fun i hi _ => h.block i hi⟩
theorem OnlyAt.trans {g : Nat} {a b c : World} (h : OnlyAt g a b) (k : OnlyAt g b c) : OnlyAt g a c :=
  ⟨k.os.trans h.os, k.tape.trans h.tape, k.output.trans h.output, Nat.le_trans h.size k.size, fun i hi hn => (k.block i (Nat.lt_of_lt_of_le hi h.size) hn).trans (h.block i hi hn)⟩
theorem OnlyAt.set {g : Nat} {a b : World} (h : OnlyAt g a b) (i : Nat) (u : Value) : OnlyAt g a (b.setCell ⟨g, i, none⟩ u) :=
  ⟨h.os, h.tape, h.output, by simpa [World.setCell] using h.size, fun j hj h1 => (Below.heap_setCell b ⟨g, i, none⟩ u j h1).trans (h.block j hj h1)⟩
theorem OnlyAt.below {g : Nat} {w0 w w' : World} {B : Nat} (h : OnlyAt g w w') (hb : Below B w0 w) (hB : B ≤ w.heap.size) (hg : B ≤ g) : Below B w0 w' :=
  hb.trans ⟨h.os, h.tape, h.output, h.size, fun i hi => h.block i (by omega) (by omega)⟩

theorem ts_len (b : List UInt8) (most : Nat) : (ts b most).2.1.length ≤ b.length := by
  rw [ts_eq]
  have := tn_len b
  split
  · simp
  · split
    · simp
    · split
      · simp
      · simp; omega

end Go.Proofs.YtcpngeiahgoacaaGreat

/- Contract of wish.Parse. -/
namespace Go.Proofs.YtcpngeiahgoacaaGreat
set_option linter.unusedVariables false
open Go.RowKit

def stN (s : RdS) : Nat → RdS
  | 0 => s
  | i + 1 => (rdN (stN s i)).2
def vlN (s : RdS) (i : Nat) : Nat := (rdN (stN s i)).1
def zeroW : Wish := ⟨0, 0, 0, 0, 0, 0, [], 0, 0, []⟩
def pD (b : List UInt8) : List UInt8 × RdS := rdT (stN (b, 0) 6) 16
def pM (b : List UInt8) : Nat × RdS := rdM (stN (pD b).2 2) 7
def parseW (b : List UInt8) : Wish where
  kind := (vlN (b, 0) 0 : Int)
  client := (vlN (b, 0) 1 : Int)
  stamp := (vlN (b, 0) 2 : Int)
  group := (vlN (b, 0) 3 : Int)
  epoch := (vlN (b, 0) 4 : Int)
  block := (vlN (b, 0) 5 : Int)
  data := (pD b).1
  old := (vlN (pD b).2 0 : Int)
  new := (vlN (pD b).2 1 : Int)
  next := (List.range (pM b).1).map fun i => (vlN (pM b).2 i : Int)
def parseE (b : List UInt8) : Nat := rdE (stN (pM b).2 (pM b).1)
def parse (b : List UInt8) : Wish × Nat := if parseE b = 0 then (if mayB (parseW b) = true then (parseW b, 0) else (zeroW, 2)) else (zeroW, parseE b)

theorem Blk.only {w w' : World} {g k : Nat} {t : TypeId} {cs : Array Value} (h : Blk w g t cs) (ho : OnlyAt k w w') (hne : g ≠ k) : Blk w' g t cs := (ho.block g h.lt hne).trans h
def OwnN (w : World) (base : Nat) (v : Value) (zs : List Int) : Prop := w.ownsRow base 3 1 v zs.length (zs.map vn)
theorem own_lt {w : World} {base b : Nat} {v : Value} {zs : List Int} (h : OwnN w base v zs) (hb : v.ownBlock = some b) : b < w.heap.size := by
  rcases h.2 with ⟨rfl, _⟩ | ⟨g, cap, cur, rfl, hg, hh, _⟩
  · simp [Value.ownBlock] at hb
  · simp [Value.ownBlock] at hb; subst hb
    rcases Nat.lt_or_ge g w.heap.size with h | h
    · exact h
    · rw [Array.getElem?_eq_none h] at hh; cases hh
theorem own_ge {w : World} {base b : Nat} {v : Value} {zs : List Int} (h : OwnN w base v zs) (hb : v.ownBlock = some b) : base ≤ b := by
  rcases h.2 with ⟨rfl, _⟩ | ⟨g, cap, cur, rfl, hg, hh, _⟩
  · simp [Value.ownBlock] at hb
  · simp [Value.ownBlock] at hb; omega
theorem own_keep {w w' : World} {base : Nat} {v : Value} {zs : List Int} (h : OwnN w base v zs) (hk : ∀ b, v.ownBlock = some b → w'.heap[b]? = w.heap[b]?) : OwnN w' base v zs := by
  refine ⟨h.1, ?_⟩
  rcases h.2 with h0 | ⟨g, cap, cur, rfl, hg, hh, h1⟩
  · exact .inl h0
  · exact .inr ⟨g, cap, cur, rfl, hg, (hk g rfl).trans hh, h1⟩
theorem own_shape' {w : World} {B : Nat} {e : TypeId} {s n : Nat} {v : Value} {vs : List Value} (h : w.ownsRow B e s v n vs) : ∃ A c, v = .slice A n c := by
  rcases h.2 with ⟨rfl, h0⟩ | ⟨g, cap, cur, rfl, _⟩
  · exact ⟨none, 0, by rw [h0]⟩
  · exact ⟨_, cap, rfl⟩
theorem wCells_one (x : Wish) (A : Option Addr) (n c : Nat) (A' : Option Addr) (n' c' : Nat) : (wCells x A n c A' n' c').all (·.oneCell') = true := by simp [wCells, Value.oneCell']
theorem wCells_info (x : Wish) (A : Option Addr) (n c : Nat) (A' : Option Addr) (n' c' : Nat) : (Tryz.prog.info? 44).map (·.size) = some (wCells x A n c A' n' c').size := by kernel_rfl
section
attribute [local irreducible] pD pM vlN stN
end
end Go.Proofs.YtcpngeiahgoacaaGreat

/- Wishes as bytes, there and back: the plain law. -/
namespace Go.Proofs.YtcpngeiahgoacaaGreat
set_option linter.unusedVariables false

theorem NumI.max {z : Int} (h : NumI z) : z.toNat ≤ maxN := by unfold NumI at h; unfold maxN; omega
end Go.Proofs.YtcpngeiahgoacaaGreat

/- Contract of wish.Batch. -/
namespace Go.Proofs.YtcpngeiahgoacaaGreat
set_option linter.unusedVariables false
open Go.RowKit

/-- wishes, one behind the other, that lie below B -/
def WishesIn (w : World) (B : Nat) (A : Option Addr) (n : Nat) (l : List Wish) : Prop :=
  l.length = n ∧ (0 < n → ∃ ad, A = some ad ∧ ad.block < B ∧ ∀ (k : Nat) (x : Wish), l[k]? = some x → ∃ A1 n1 c1 A2 n2 c2, (∀ (j : Nat) (v : Value), (wCells x A1 n1 c1 A2 n2 c2)[j]? = some v → w.cell? (ad.add (10 * k + j)) = some v) ∧ WishIn w B x A1 n1 c1 A2 n2 c2)
theorem WishesIn.below {w w' : World} {B n : Nat} {A : Option Addr} {l : List Wish} (h : WishesIn w B A n l) (hb : Below B w w') : WishesIn w' B A n l :=
  ⟨h.1, fun h0 => by
    obtain ⟨ad, hA, hB, hc⟩ := h.2 h0
    exact ⟨ad, hA, hB, fun k x hx => by
      obtain ⟨A1, n1, c1, A2, n2, c2, h1, h2⟩ := hc k x hx
      exact ⟨A1, n1, c1, A2, n2, c2, fun j v hv => (hb.cell (by rw [block_of_add]; exact hB)).trans (h1 j v hv), h2.below hb⟩⟩⟩
theorem WishesIn.more {w : World} {B B' n : Nat} {A : Option Addr} {l : List Wish} (h : WishesIn w B A n l) (hB : B ≤ B') : WishesIn w B' A n l :=
  ⟨h.1, fun h0 => by
    obtain ⟨ad, hA, hb, hc⟩ := h.2 h0
    exact ⟨ad, hA, by omega, fun k x hx => by
      obtain ⟨A1, n1, c1, A2, n2, c2, h1, h2⟩ := hc k x hx
      exact ⟨A1, n1, c1, A2, n2, c2, h1, h2.more hB⟩⟩⟩

/-- a load of a struct, wherever it lies -/
theorem wpList_load_cells {P : Program} {ops : Array Oper} {rest : List Oper} {o : Oper} {a : Act} {w : World} {Q : Exit → Act → World → Prop} (hgd : o.guard = none) (ty : TypeId) (x : Operand) (ho : o.op = .load ty x)
    (ad : Addr) (n : Nat) (hx : a.eval x = .pointer (some ad)) (vs : Array Value) (d : TypeDesc)
    (hu : P.underlying ty = some d) (hd : (match d with | .struct _ | .array _ _ => true | _ => false) = true) (hi : (P.info? ty).map (·.size) = some n)
    (hn : vs.size = n) (hv : ∀ (j : Nat) (v : Value), vs[j]? = some v → w.cell? (ad.add j) = some v)
    (h : wpList P ops Q rest (a.put o.dst (.agg vs)) w) : wpList P ops Q (o :: rest) a w :=
  wpList_plain hgd fun _ hK => by
    have hl : (loadCells ad vs.toList.length).run P w = .ok vs.toList.toArray w :=
      run_loadCells_list (P := P) w ad vs.toList (fun j v hj => hv j v (by simpa using hj))
    have hrun : (loadVar ty ad).run P w = .ok (.agg vs) w := by
      cases hq : P.info? ty with
      | none => simp [hq] at hi
      | some i =>
        have hs : i.size = n := by simpa [hq] using hi
        have hagg : (isAgg ty).run P w = .ok true w := by
          unfold isAgg
          rw [Sem.run_bind, run_underlying hu w]
          cases d <;> simp_all
        simp only [Array.length_toList, Array.toArray_toList, hn] at hl
        simp [loadVar, Sem.run_bind, hagg, sizeOf, typeInfo, hq, hs, hl]
    unfold Oper.wp execOp
    simp only [ho, hx, Instr.loadAt, Instr.sureAddr, Sem.run_bind, Sem.run_pure, Result.andThen_ok, hrun]
    exact hK _ _ h

end Go.Proofs.YtcpngeiahgoacaaGreat

/- Contracts of tree.Leaf, Up, group: digests of leaves and of nodes. -/
namespace Go.Proofs.YtcpngeiahgoacaaGreat
set_option linter.unusedVariables false
open Go.RowKit Go.Maps

/-- what is unchanged but for some blocks -/
structure Only (N : Nat → Prop) (w w' : World) : Prop where
  os : w'.os = w.os
  tape : w'.tape = w.tape
  output : w'.output = w.output
  size : w.heap.size ≤ w'.heap.size
  block : ∀ i, i < w.heap.size → ¬ N i → w'.heap[i]? = w.heap[i]?
theorem Only.refl (N : Nat → Prop) (w : World) : Only N w w := ⟨rfl, rfl, rfl, Nat.le_refl _, fun _ _ _ => rfl⟩
theorem Only.trans {N : Nat → Prop} {a b c : World} (h : Only N a b) (h' : Only N b c) : Only N a c :=
  ⟨h'.os.trans h.os, h'.tape.trans h.tape, h'.output.trans h.output, Nat.le_trans h.size h'.size, fun i hi hn => (h'.block i (Nat.lt_of_lt_of_le hi h.size) hn).trans (h.block i hi hn)⟩
theorem Only.of_book {k : Book} {w w' : World} (h : OnlyBook k w w') : Only k.has w w' := ⟨h.os, h.tape, h.output, h.size, h.block⟩
theorem Only.of_below {N : Nat → Prop} {w w' : World} (h : Below w.heap.size w w') : Only N w w' := ⟨h.os, h.tape, h.output, h.size, fun i hi _ => h.block i hi⟩
/-- more may turn; what is new may turn too -/
theorem Only.mono {N N' : Nat → Prop} {w w' : World} (h : Only N w w') (hN : ∀ b, b < w.heap.size → N b → N' b) : Only N' w w' := ⟨h.os, h.tape, h.output, h.size, fun i hi hn => h.block i hi (fun e => hn (hN i hi e))⟩
theorem Only.of_grown {N : Nat → Prop} {w w' : World} {b : Nat} (h : w.grownBy w' (some b)) (hb : N b) : Only N w w' := ⟨h.os, h.tape, h.output, h.size, fun i hi hn => h.block i hi (fun e => hn (by injection e with e; exact e ▸ hb))⟩
theorem Only.of_turned {N : Nat → Prop} {w w' : World} {b : Nat} (h : Turned b w w') (hb : N b) : Only N w w' := Only.of_grown h.grown hb
theorem Only.drewN {N : Nat → Prop} {w w' : World} (h : Only N w w') (n : Nat) : Only N w (w'.drewN n) := ⟨h.os, h.tape, h.output, h.size, h.block⟩
theorem Only.below {N : Nat → Prop} {w w' : World} (h : Only N w w') {B : Nat} (hB : B ≤ w.heap.size) (hn : ∀ b, b < B → ¬ N b) : Below B w w' := ⟨h.os, h.tape, h.output, h.size, fun i hi => h.block i (by omega) (hn i hi)⟩
theorem Only.blk {N : Nat → Prop} {w w' : World} {g : Nat} {t : TypeId} {cs : Array Value} (h : Only N w w') (hb : Blk w g t cs) (hg : ¬ N g) : Blk w' g t cs := (h.block g hb.lt hg).trans hb
theorem Only.cell {N : Nat → Prop} {w w' : World} (h : Only N w w') {p : Addr} (hp : p.block < w.heap.size) (hn : ¬ N p.block) : w'.cell? p = w.cell? p := World.cell?_of_block (h.block p.block hp hn)
theorem Only.reads {N : Nat → Prop} {w w' : World} {size n : Nat} {A : Option Addr} {xs : List Value} (h : Only N w w') (hr : Reads w w.heap.size size A n xs) (hn : ∀ a, 0 < n → A = some a → ¬ N a.block) : Reads w' w'.heap.size size A n xs :=
  ⟨hr.1, fun h0 => by
    obtain ⟨ad, e, hb, hc⟩ := hr.2 h0
    exact ⟨ad, e, by have := h.size; omega, fun j u hu => (h.cell (by rw [block_of_add]; exact hb) (by rw [block_of_add]; exact hn ad h0 e)).trans (hc j u hu)⟩⟩
theorem BookAt.only {w w' : World} {k : Book} {l : List (List UInt8)} {n : Nat} {N : Nat → Prop} (h : BookAt w k l n) (ho : Only N w w') (hg : ¬ N k.g) (h1 : ¬ N k.b1) (h2 : ¬ N k.b2) : BookAt w' k l n := by
  obtain ⟨D1, D2, n1, n2, m1, m2, m3⟩ := h.maps
  have hl := h.lt
  refine ⟨(ho.block _ hl.1 hg).trans h.cells, ⟨D1, D2, n1, n2, ?_, ?_, m3⟩, h.len, h.apart⟩
  · obtain ⟨es, c, hb, F, hs, hD⟩ := m1
    exact ⟨es, c, (ho.block _ hl.2.1 h1).trans hb, F, hs, hD⟩
  · obtain ⟨es, c, hb, F, hs, hD⟩ := m2
    exact ⟨es, c, (ho.block _ hl.2.2 h2).trans hb, F, hs, hD⟩

def digRow (ds : List (List UInt8)) : List Value := ds.flatMap fun d => d.map vb
theorem digRow_len : ∀ {ds : List (List UInt8)}, Digs ds → (digRow ds).length = ds.length * 32
  | [], _ => rfl
  | d :: t, h => by
    have h1 := h d (List.mem_cons_self ..)
    have h2 := digRow_len (ds := t) fun e he => h e (List.mem_cons_of_mem _ he)
    unfold digRow at h2 ⊢
    simp only [List.flatMap_cons, List.length_append, List.length_map, List.length_cons]
    omega
theorem digRow_app (a b : List (List UInt8)) : digRow (a ++ b) = digRow a ++ digRow b := by simp [digRow]
theorem digRow_get : ∀ {ds : List (List UInt8)} (hd : Digs ds) (i j : Nat) {d : List UInt8}, ds[i]? = some d → j < 32 → (digRow ds)[i * 32 + j]? = (d.map vb)[j]?
  | [], _, i, j, d, h, _ => by simp at h
  | e :: t, hd, 0, j, d, h, hj => by
    simp only [List.getElem?_cons_zero, Option.some.injEq] at h
    subst h
    have h1 := hd e (List.mem_cons_self ..)
    unfold digRow
    rw [List.flatMap_cons, List.getElem?_append_left (by simp [h1]; omega), show 0 * 32 + j = j by omega]
  | e :: t, hd, i + 1, j, d, h, hj => by
    have h1 := hd e (List.mem_cons_self ..)
    have h2 := digRow_get (ds := t) (fun x hx => hd x (List.mem_cons_of_mem _ hx)) i j (d := d) (by simpa using h) hj
    unfold digRow at h2 ⊢
    rw [List.flatMap_cons, List.getElem?_append_right (by simp [h1]; omega), ← h2]
    congr 1
    simp [h1]
    omega
theorem digRow_drop : ∀ {ds : List (List UInt8)} (hd : Digs ds) (i : Nat), (digRow ds).drop (i * 32) = digRow (ds.drop i)
  | [], _, i => by simp [digRow]
  | e :: t, _, 0 => by simp
  | e :: t, hd, i + 1 => by
    have h1 := hd e (List.mem_cons_self ..)
    have h2 := digRow_drop (ds := t) (fun x hx => hd x (List.mem_cons_of_mem _ hx)) i
    rw [List.drop_succ_cons, ← h2]
    unfold digRow
    rw [List.flatMap_cons, show (i + 1) * 32 = (e.map vb).length + i * 32 by simp [h1]; omega, List.drop_append, Nat.add_sub_cancel_left, List.drop_of_length_le (by omega), List.nil_append]
theorem digRow_take : ∀ {ds : List (List UInt8)} (hd : Digs ds) (i : Nat), (digRow ds).take (i * 32) = digRow (ds.take i)
  | [], _, i => by simp [digRow]
  | e :: t, _, 0 => by simp [digRow]
  | e :: t, hd, i + 1 => by
    have h1 := hd e (List.mem_cons_self ..)
    have h2 := digRow_take (ds := t) (fun x hx => hd x (List.mem_cons_of_mem _ hx)) i
    rw [List.take_succ_cons]
    unfold digRow at h2 ⊢
    rw [List.flatMap_cons, List.flatMap_cons, ← h2, show (i + 1) * 32 = (e.map vb).length + i * 32 by simp [h1]; omega, List.take_length_add_append]

theorem treeZ_eq : inkZ = #[.int .u8 0, .int .u8 0, .int .u8 0, .int .u8 0, .int .u8 0, .int .u8 0, .int .u8 0, .int .u8 0, .int .u8 0, .int .u8 0, .int .u8 0, .int .u8 0, .int .u8 0, .int .u8 0, .int .u8 0, .int .u8 0, .int .u8 0, .int .u8 0, .int .u8 0, .int .u8 0, .int .u8 0, .int .u8 0, .int .u8 0, .int .u8 0, .int .u8 0, .int .u8 0, .int .u8 0, .int .u8 0, .int .u8 0, .int .u8 0, .int .u8 0, .int .u8 0] := by kernel_rfl
theorem tree_apart {w : World} {k : Book} {A : Option Addr} {n : Nat} {B : Nat} (hB : ∀ ad, A = some ad → B ≤ ad.block) (hk : k.g < B ∧ k.b1 < B ∧ k.b2 < B) : ∀ a, 0 < n → A = some a → ¬ k.has a.block := fun a _ ha e => by
  have := hB a ha
  rcases e with e | e | e <;> omega
theorem bRow_size32 {d : List UInt8} (h : d.length = 32) : (bRow d).size = 32 := by rw [bRow_size, h]

set_option maxRecDepth 100000 in
set_option maxHeartbeats 4000000 in
theorem leaf_any (k : Book) (L : List (List UInt8)) (asked : Nat) (A : Option Addr) (n c : Nat) (xs : List UInt8) (w : World) (B : Nat) (hbk : BookAt w k L asked) (h : Reads w B 1 A n (xs.map vb)) (hB : B ≤ w.heap.size) (hn : n < 65536) (has : asked ≤ 1000000) :
    Calls Tryz.prog 148 #[.pointer (some ⟨k.g, 0, none⟩), .slice A n c] w fun e w' => e = .returned (.tuple #[.agg (bRow (leafD xs)), .int .i64 0]) ∧ BookAt w' k (addInk L (leafIn xs)) (asked + 1) ∧ OnlyBook k w w' := by
  have hxn : xs.length = n := by have := h.1; simpa using this
  have HXN := Lib.hid hxn
  have hX : Below w.heap.size w (w.alloc (.cells inkZ 60)) := (Below.refl _ _).alloc (Nat.le_refl _) _
  have hk0 : Blk (w.alloc (.cells inkZ 60)) w.heap.size 60 inkZ := Blk.newAt (by simp)
  have hlt := hbk.lt
  have hlt1 := hlt.1
  have hlt2 := hlt.2.1
  have hlt3 := hlt.2.2
  have HBK := Lib.hid hbk
  have HRD := Lib.hid h
  obtain ⟨i0, hi0, hz0, hz1, hz2⟩ := info_parts u8_info
  have HZ := Lib.hid treeZ_eq
  have HZS := Lib.hid (show inkZ.size = 32 by simp [inkZ, bRow])
  have hs0 : (w.alloc (.cells inkZ 60)).heap.size = w.heap.size + 1 := by simp
  have HX := Lib.hid hX
  have HK0 := Lib.hid hk0
  have HS0 := Lib.hid hs0
  clear h hlt hbk hX hk0 hs0 hxn
  obtain ⟨g, hg⟩ : ∃ g, g = w.heap.size := ⟨_, rfl⟩
  have hnn : ¬ (65536 : Int) ≤ (n : Int) := by omega
  go_enter Tryz.func148, Tryz.ntmps148
  go_upto_region 1 with fail
  rw [← HZ.out]
  generalize World.alloc w _ = w1 at HX HK0 HS0 ⊢
  rw [← hg] at HK0 HS0 ⊢
  have hs1 := HX.out.size
  have hg1 : g < w1.heap.size := by have := HS0.out; omega
  have hgw : w.heap.size ≤ g := by omega
  have HRD1 := Lib.hid (HRD.out.below (HX.out.mono hB))
  have HW0 := Lib.hid (World.ownsRow_lit (base := w1.heap.size) (e := 5) (size := 1) w1 #[.int .u8 0] 1 (Nat.le_refl _) (by unfold maxLen; omega) rfl)
  have HRD2 := Lib.hid (HRD1.out.alloc (by omega) (.cells #[.int .u8 0] 5))
  clear HS0 hg
  go_wp2_with (at_builtin; go_must (refine wpList_append_any _ rfl (.tmp 11) (.tmp 12) 22 rfl w1.heap.size 5 i0 _ 1 1 Tryz.underlying22 hi0 hz0 hz1 hz2 rfl (by omega) _ 1 _ rfl HW0.out B A n c (xs.map vb) rfl HRD2.out ?c1 ?c2 ?c3 (by simp) ?_))
  case c1 => intro u hu; rfl
  case c2 => unfold maxLen; omega
  case c3 => omega
  intro v2 w2 hown2 hg2 hor2
  have hb2 : Below w1.heap.size w1 w2 := grown_below ((Below.refl _ _).alloc (Nat.le_refl _) _) (by simp) hg2 (fun b hb => by
    have : b = w1.heap.size := by simpa [Value.ownBlock] using hb.symm
    omega)
  have hob : OwnB w2 w1.heap.size v2 (leafIn xs) := by
    unfold OwnB leafIn
    rw [List.length_cons, HXN.out, List.map_cons, Nat.add_comm]
    exact hown2
  obtain ⟨Ab, cb, rfl, hbc, hbm, hbr, hbB⟩ := own_slice_b hob
  have hll : (leafIn xs).length = n + 1 := by unfold leafIn; rw [List.length_cons, HXN.out]
  rw [hll] at hbc hbr ⊢
  have HB2 := Lib.hid (HX.out.trans (hb2.mono hs1))
  have HK2 := Lib.hid (HK0.out.under hb2)
  have HBK2 := Lib.hid (HBK.out.below HB2.out)
  have hs2 := hb2.size
  have hap := tree_apart (w := w) (k := k) (n := n + 1) hbB (by omega)
  have hof := inkOf_any k L asked Ab (n + 1) cb (leafIn xs) w2 _ HBK2.out hbr (Nat.le_refl _) (fun a h0 ha e => hap a h0 ha (.inl e)) hbc hbm (by omega) has
  have hsz : (bRow (leafD xs)).size = 32 := bRow_size32 (leafD_len xs)
  have hon := bRow_one (leafD xs)
  have HOF := Lib.hid hof
  have hdd : leafD xs = shaOf (leafIn xs) := rfl
  rw [← hdd] at HOF
  obtain ⟨D, hD⟩ : ∃ D, D = bRow (leafD xs) := ⟨_, rfl⟩
  rw [← hD] at HOF hsz hon
  have HD := Lib.hid hD
  have HSZ := Lib.hid hsz
  have HON := Lib.hid hon
  clear hob hb2 hown2 hg2 hor2 hbr hbB hap hof hsz hon hdd hD HRD1 HRD2 HW0 hll
  go_wp2_with fail
  refine HOF.out.mono ?_
  rintro _ w3 ⟨rfl, hbk3, ho3⟩
  have HO3 := Lib.hid ((OnlyBook.of_below HB2.out).trans ho3)
  have hk3 : Blk w3 g 60 inkZ := (ho3.block g (by omega) (by rintro (e | e | e) <;> omega)).trans HK2.out
  have HK3 := Lib.hid hk3
  have HBK3 := Lib.hid hbk3
  have hs3 := ho3.size
  clear hbk3 ho3 hk3
  go_wp2_with (refine wpList_store_part (o := ⟨none, _, _, _, _, _⟩) rfl 60 (.tmp 4) (.tmp 15) rfl g 0 D rfl rfl 60 inkZ HK3.out (by rw [HSZ.out]; rfl) (by rw [HSZ.out, HZS.out]; omega) HON.out ?_; intro w5 hT5 hD5; rw [spl_self _ _ (by rw [HSZ.out, HZS.out])] at hD5)
  refine bodyPost_ret (results_part2 rfl _ _ g 32 60 _ _ rfl hD5 Tryz.underlying60 rfl rfl HSZ.out) rfl ⟨by rw [HD.out]; rfl, ?_, ?_⟩
  · exact HBK3.out.grown hT5.grown ⟨by omega, by omega, by omega⟩
  · exact HO3.out.grown hT5.grown (by omega)

/-- 's[l:h]' of a slice -/
theorem run_slice_sub {P : Program} {t e : TypeId} {m : Nat} (ht : P.underlying t = some (.slice e)) (hs : (P.info? e).map (·.size) = some m) (A : Option Addr) (len cap l h : Nat) (li hi : Int) (el : li = l) (eh : hi = h) (hlh : l ≤ h) (hh : h ≤ cap) (W : World) :
    (Instr.slice t (.slice A len cap) (some (.int .i64 li)) (some (.int .i64 hi)) none).run P W = .ok (.slice (if cap = l then A else A.map (·.add (l * m))) (h - l) (cap - l)) W := by
  subst el eh
  obtain ⟨i, hi, hsz⟩ : ∃ i, P.info? e = some i ∧ i.size = m := by
    cases hh : P.info? e with
    | none => rw [hh] at hs; cases hs
    | some i => rw [hh] at hs; exact ⟨i, rfl, by simpa using hs⟩
  have he : P.elem t = e := by simp [Program.elem, ht]
  rw [run_slice_lh W t A len cap (by rw [he]; exact ht) .i64 .i64 (l : Int) (h : Int) (by omega) (by omega) (by omega)]
  simp [he, sizeOf, typeInfo, hi, hsz, sliced]
theorem Reads.sub {w : World} {B size n : Nat} {A : Option Addr} {xs : List Value} (h : Reads w B size A n xs) {l k cap : Nat} (hlk : l ≤ k) (hk : k ≤ n) (hc : n ≤ cap) :
    Reads w B size (if cap = l then A else A.map (·.add (l * size))) (k - l) ((xs.drop (l * size)).take ((k - l) * size)) := by
  have hx := h.1
  have hm : l * size ≤ k * size := Nat.mul_le_mul_right _ hlk
  have hm2 : k * size ≤ n * size := Nat.mul_le_mul_right _ hk
  refine ⟨by rw [List.length_take, List.length_drop, hx, Nat.sub_mul]; omega, fun hn => ?_⟩
  obtain ⟨ad, rfl, hb, hcell⟩ := h.2 (by omega)
  rw [if_neg (by omega)]
  refine ⟨ad.add (l * size), rfl, by rw [block_of_add]; exact hb, fun j u hu => ?_⟩
  rw [add_of_add]
  rw [List.getElem?_take] at hu
  split at hu
  · exact hcell _ u (by rw [← hu, List.getElem?_drop])
  · cases hu

/-- 'arr[:]' of an array behind a pointer, one cell an element -/
theorem run_sliceArr_all {P : Program} {t e : TypeId} {n : Nat} (ht : P.underlying t = some (.array n e)) (hs : (P.info? e).map (·.size) = some 1) (hn : 0 < n) (a : Addr) (W : World) :
    (Instr.sliceAt t (.pointer (some a)) none none none).run P W = .ok (.slice (some (a.add 0)) n n) W := by
  obtain ⟨i, hi, hsz⟩ : ∃ i, P.info? e = some i ∧ i.size = 1 := by
    cases hh : P.info? e with
    | none => rw [hh] at hs; cases hs
    | some i => rw [hh] at hs; exact ⟨i, rfl, by simpa using hs⟩
  have he : P.elem t = e := by simp [Program.elem, ht]
  have hln : P.arrayLen t = n := by simp [Program.arrayLen, ht]
  rw [run_sliceAt_array_all W t a (by rw [he, hln]; exact ht)]
  simp [he, hln, sizeOf, typeInfo, hi, hsz, slicedAt, show ¬ n = 0 by omega]
theorem reads_blk {w : World} {g n : Nat} {t : TypeId} {cs : Array Value} (h : Blk w g t cs) (hn : cs.size = n) : Reads w w.heap.size 1 (some ⟨g, 0, none⟩) n cs.toList :=
  ⟨by simp [hn], fun _ => ⟨_, rfl, h.lt, fun j u hu => by
    rw [add_off, Nat.zero_add, h.cell]
    simpa using hu⟩⟩
/-- a literal's cells -/
theorem fill_spl : ∀ (l : List Value) (k : Nat) (cs : Array Value), k + l.length ≤ cs.size → (l.zipIdx k).foldl (fun (cs : Array Value) (x : Value × Nat) => cs.setIfInBounds x.2 x.1) cs = spl cs k l
  | [], k, cs, h => by
    simp only [List.zipIdx_nil, List.foldl_nil]
    unfold spl
    apply Array.toList_inj.1
    simp
  | v :: l, k, cs, h => by
    rw [List.length_cons] at h
    rw [List.zipIdx_cons, List.foldl_cons, fill_spl l (k + 1) _ (by rw [Array.size_setIfInBounds]; omega), spl_cons cs k v l h]
theorem fill_all (cs D : Array Value) (n : Nat) (h0 : cs.size = n) (h1 : D.size = n) : Array.foldl (fun (cs : Array Value) (x : Value × Nat) => cs.setIfInBounds x.2 x.1) cs D.zipIdx 0 n = D := by
  subst h1
  have e : D.size = D.zipIdx.size := by simp
  rw [e, ← Array.foldl_toList, Array.toList_zipIdx, fill_spl _ _ _ (by simp [h0]), spl_self _ _ h0.symm]
theorem dig_info : (Tryz.prog.info? 60).map (·.size) = some 32 := by kernel_rfl
set_option maxRecDepth 100000 in
theorem group_any (A : Option Addr) (n c p : Nat) (w : World) (hp : 4 * p ≤ n) (hn : n ≤ 1000000) (hc : n ≤ c) :
    Calls Tryz.prog 158 #[.slice A n c, .int .i64 (p : Int)] w fun e w' => e = .returned (.slice (if c = 4 * p then A else A.map (·.add (4 * p * 32))) (min (4 * p + 4) n - 4 * p) (c - 4 * p)) ∧ w = w' := by
  by_cases h4 : (n : Int) < 4 * (p : Int) + 4
  · have hsl := fun (W : World) => run_slice_sub (P := Tryz.prog) (t := 189) Tryz.underlying189 dig_info A n c (4 * p) n (4 * (p : Int)) (n : Int) (by omega) rfl (by omega) (by omega) W
    rw [show min (4 * p + 4) n = n by omega]
    generalize (if c = 4 * p then A else A.map (·.add (4 * p * 32))) = A' at hsl ⊢
    go_enter Tryz.func158, Tryz.ntmps158
    go_wp2
    go_ret
    exact ⟨rfl, rfl⟩
  · have hsl := fun (W : World) => run_slice_sub (P := Tryz.prog) (t := 189) Tryz.underlying189 dig_info A n c (4 * p) (4 * p + 4) (4 * (p : Int)) (4 * (p : Int) + 4) (by omega) (by omega) (by omega) (by omega) W
    rw [show min (4 * p + 4) n = 4 * p + 4 by omega]
    generalize (if c = 4 * p then A else A.map (·.add (4 * p * 32))) = A' at hsl ⊢
    go_enter Tryz.func158, Tryz.ntmps158
    go_wp2
    go_ret
    exact ⟨rfl, rfl⟩

end Go.Proofs.YtcpngeiahgoacaaGreat

/- Contract of tree.Up: the digest of a node's children. -/
namespace Go.Proofs.YtcpngeiahgoacaaGreat
set_option linter.unusedVariables false
open Go.RowKit Go.Maps
attribute [local irreducible] wpList

theorem digRow_at {ds : List (List UInt8)} (hd : Digs ds) {i : Nat} (hi : i < ds.length) {w : World} {ad : Addr} (h : ∀ j u, (digRow ds)[j]? = some u → w.cell? (ad.add j) = some u) :
    ∀ (j : Nat) (v : Value), (bRow ds[i])[j]? = some v → w.cell? ((ad.add (i * 32)).add j) = some v := fun j v hv => by
  have hl : ds[i].length = 32 := hd _ (List.getElem_mem hi)
  have hj : j < 32 := by
    rcases Nat.lt_or_ge j 32 with h1 | h1
    · exact h1
    · rw [Array.getElem?_eq_none (by rw [bRow_size, hl]; exact h1)] at hv; cases hv
  rw [add_of_add]
  refine h _ v ?_
  rw [digRow_get hd i j (List.getElem?_eq_getElem hi) hj]
  simpa [bRow] using hv

set_option maxRecDepth 100000 in
set_option maxHeartbeats 4000000 in
theorem up_any (k : Book) (L : List (List UInt8)) (asked : Nat) (A : Option Addr) (n c : Nat) (ds : List (List UInt8)) (w : World) (B : Nat) (hbk : BookAt w k L asked) (h : Reads w B 32 A n (digRow ds)) (hB : B ≤ w.heap.size) (hd : Digs ds) (h1 : 1 ≤ n) (h4 : n ≤ 4) (has : asked ≤ 1000000) :
    Calls Tryz.prog 157 #[.pointer (some ⟨k.g, 0, none⟩), .slice A n c] w fun e w' => e = .returned (.tuple #[.agg (bRow (upD ds)), .int .i64 0]) ∧ BookAt w' k (addInk L (upIn ds)) (asked + 1) ∧ OnlyBook k w w' := by
  have hxn : ds.length = n := by have h2 := h.1; rw [digRow_len hd] at h2; omega
  obtain ⟨ad, rfl, hadb, hcell⟩ := h.2 (by omega)
  have HXN := Lib.hid hxn
  have HD := Lib.hid hd
  have HC := Lib.hid hcell
  have hX : Below w.heap.size w (w.alloc (.cells inkZ 60)) := (Below.refl _ _).alloc (Nat.le_refl _) _
  have hk0 : Blk (w.alloc (.cells inkZ 60)) w.heap.size 60 inkZ := Blk.newAt (by simp)
  have hlt := hbk.lt
  have hlt1 := hlt.1
  have hlt2 := hlt.2.1
  have hlt3 := hlt.2.2
  have HBK := Lib.hid hbk
  obtain ⟨i0, hi0, hz0, hz1, hz2⟩ := info_parts u8_info
  have HZ := Lib.hid treeZ_eq
  have HZS := Lib.hid (show inkZ.size = 32 by simp [inkZ, bRow])
  have hs0 : (w.alloc (.cells inkZ 60)).heap.size = w.heap.size + 1 := by simp
  have HX := Lib.hid hX
  have HK0 := Lib.hid hk0
  have HS0 := Lib.hid hs0
  clear h hlt hbk hX hk0 hs0 hxn hd hcell
  obtain ⟨g, hg⟩ : ∃ g, g = w.heap.size := ⟨_, rfl⟩
  have hnn : ¬ (n : Int) < 1 := by omega
  have hnn4 : ¬ (4 : Int) < (n : Int) := by omega
  go_enter Tryz.func157, Tryz.ntmps157
  go_upto_region 1 with fail
  rw [← HZ.out]
  generalize World.alloc w _ = w1 at HX HK0 HS0 ⊢
  rw [← hg] at HK0 HS0 ⊢
  have hs1 := HX.out.size
  have hg1 : g < w1.heap.size := by have := HS0.out; omega
  have hgw : w.heap.size ≤ g := by omega
  have hw0 := World.ownsRow_lit (base := w1.heap.size) (e := 5) (size := 1) w1 #[.int .u8 1] 1 (Nat.le_refl _) (by unfold maxLen; omega) rfl
  have hob0 : OwnB (w1.alloc (.cells #[.int .u8 1] 5)) w1.heap.size (.slice (some ⟨w1.heap.size, 0, none⟩) 1 1) (upIn (ds.take 0)) := hw0
  have HW0 := Lib.hid hob0
  have HX1 := Lib.hid (HX.out.trans ((below_lit w1 (.cells #[.int .u8 1] 5)).mono hs1))
  have HK1 := Lib.hid (HK0.out.under (below_lit w1 (.cells #[.int .u8 1] 5)))
  have hsz1 : w1.heap.size ≤ (w1.alloc (.cells #[.int .u8 1] 5)).heap.size := by simp
  have HSZ1 := Lib.hid hsz1
  clear HS0 hg hw0 hob0 hsz1
  go_wp2_with fail
  go_loopw [6, 21] (fun ov iv wr => ∃ i : Nat, i ≤ n ∧ iv = .int .i64 i ∧ OwnB wr w1.heap.size ov (upIn (ds.take i)) ∧ Below w.heap.size w wr ∧ Blk wr g 60 inkZ ∧ w1.heap.size ≤ wr.heap.size) (fun _ iv _ => n - (intOf iv).toNat)
  case atStart => exact ⟨0, by omega, rfl, HW0.out, HX1.out, HK1.out, HSZ1.out⟩
  case round =>
    obtain ⟨i, hi, rfl, hov, hbel, hblk, hsr⟩ := hrel
    have HOV := Lib.hid hov
    have HB := Lib.hid hbel
    have HKR := Lib.hid hblk
    have hsz := hbel.size
    have HUL := Lib.hid (upIn_len (fun d hd => HD.out d (List.mem_of_mem_take hd) : Digs (ds.take i)))
    clear hov hbel hblk
    by_cases hin : i < n
    · have hil : i < ds.length := by have := HXN.out; omega
      have hcs := digRow_at HD.out hil HC.out
      have hcs' : ∀ (j : Nat) (v : Value), (bRow ds[i])[j]? = some v → wr.cell? ((ad.add (i * 32)).add j) = some v := fun j v hv => (HB.out.cell (show ((ad.add (i * 32)).add j).block < w.heap.size by rw [block_of_add, block_of_add]; omega)).trans (hcs j v hv)
      have htk : upIn (ds.take (i + 1)) = upIn (ds.take i) ++ ds[i] := by
        unfold upIn
        rw [List.take_succ_eq_append_getElem hil, List.flatten_append]
        simp
      have hdl : ds[i].length = 32 := HD.out _ (List.getElem_mem hil)
      obtain ⟨d, hdd⟩ : ∃ d, d = ds[i] := ⟨_, rfl⟩
      rw [← hdd] at hcs' htk hdl
      have HCS := Lib.hid hcs'
      have HTK := Lib.hid htk
      have hds := bRow_size32 hdl
      have hdo := bRow_one d
      have HDL := Lib.hid hdl
      have hdv : (bRow d).toList = d.map vb := by simp [bRow]
      have HDV := Lib.hid hdv
      clear hcs hcs' htk hdd hdl hdv
      obtain ⟨D, hD⟩ : ∃ D, D = bRow d := ⟨_, rfl⟩
      rw [← hD] at HCS hds hdo HDV
      have HDS := Lib.hid hds
      have HDO := Lib.hid hdo
      clear hds hdo hD
      have hinI : (i : Int) < (n : Int) := by omega
      go_upto_region 7 with (first
        | (refine wpList_load_cells (o := ⟨some 24, _, _, _, _, _⟩) rfl 60 (.tmp 23) rfl (ad.add (i * 32)) 32 rfl D _ Tryz.underlying60 rfl rfl HDS.out (fun j v hv => HCS.out j v hv) ?_)
        | (refine wpList_store_part (o := ⟨none, _, _, _, _, _⟩) rfl 60 (.tmp 8) (.tmp 24) rfl wr.heap.size 0 D rfl rfl 60 inkZ (by rw [HZ.out]; exact Blk.newAt rfl) (by rw [HDS.out]; rfl) (by rw [HDS.out, HZS.out]; omega) HDO.out ?_; intro w3 hT3 hD3; rw [spl_self _ _ (by rw [HDS.out, HZS.out])] at hD3))
      have hb3 : Below wr.heap.size wr w3 := hT3.below ((Below.refl _ _).alloc (Nat.le_refl _) _) (Nat.le_refl _)
      have HB3 := Lib.hid (HB.out.trans (hb3.mono hsz))
      have HO3 := Lib.hid (HOV.out.below hb3)
      have HK3 := Lib.hid (HKR.out.under hb3)
      have hs3 := hb3.size
      have hr3 := reads_blk hD3 HDS.out
      rw [HDV.out] at hr3
      have HR3 := Lib.hid hr3
      obtain ⟨gq, hgq⟩ : ∃ gq, gq = wr.heap.size := ⟨_, rfl⟩
      rw [← hgq] at HR3 ⊢
      have HSL := Lib.hid (fun (W : World) => run_sliceArr_all (P := Tryz.prog) (t := 60) Tryz.underlying60 (show (Tryz.prog.info? 5).map (·.size) = some 1 by kernel_rfl) (by omega) ⟨gq, 0, none⟩ W)
      have hrow := HO3.out.row
      have hul := HUL.out
      have hlen : (ds.take i).length ≤ 4 := by rw [List.length_take]; omega
      have HWN := Lib.hid hrow
      have hge := fun b (hb : (_ : Value).ownBlock = some b) => HO3.out.ge hb
      have HGE := Lib.hid hge
      obtain ⟨xb, hxb⟩ : ∃ xb, xb = upIn (ds.take i) := ⟨_, rfl⟩
      rw [← hxb] at HWN hul HTK
      have HXB := Lib.hid hxb
      clear hT3 hD3 hb3 hr3 hrow hgq hge hxb HOV HO3
      go_wp2_with (first
        | (refine wpList_exec_w (o := ⟨some 26, _, _, _, _, _⟩) rfl (.slice (some ⟨gq, 0, none⟩) 32 32) w3 (by
            have := HSL.out w3
            go_simp
            exact this) ?_)
        | (at_builtin; go_must (refine wpList_append_any (o := ⟨some 27, _, _, _, _, _⟩) _ rfl (.tmp 25) (.tmp 26) 22 rfl w1.heap.size 5 i0 _ 1 1 Tryz.underlying22 hi0 hz0 hz1 hz2 rfl (by omega) _ _ _ rfl HWN.out w3.heap.size (some ⟨gq, 0, none⟩) 32 32 (d.map vb) rfl HR3.out ?c1 ?c2 ?c3 ?c4 ?_)))
      case c1 => intro u hu; first | rfl | (obtain ⟨y, _, rfl⟩ := List.mem_map.1 hu; rfl)
      case c2 => unfold maxLen; omega
      case c3 => omega
      case c4 => omega
      intro v6 w6 hown6 hg6 hor6
      have HB6 := Lib.hid (grown_below HB3.out (by omega) hg6 (fun b hb => by have := HGE.out b hb; omega))
      have hk6 : Blk w6 g 60 inkZ := HK3.out.grown hg6 (fun e => by have := HGE.out g e.symm; omega)
      have HK6 := Lib.hid hk6
      have hs6 := hg6.size
      have HO6 := Lib.hid (show OwnB w6 w1.heap.size v6 (upIn (ds.take (i + 1))) by
        unfold OwnB
        rw [HTK.out, List.length_append, List.map_append, HDL.out, hul, List.length_take]
        exact hown6)
      clear hown6 hg6 hor6 hk6
      go_wp2_with fail
      go_roundw
      case rel => exact ⟨i + 1, by omega, by go_num, HO6.out, HB6.out, HK6.out, by omega⟩
      case measure => simp [intOf]; omega
    · obtain rfl : i = n := by omega
      have hiI : ¬ (i : Int) < (i : Int) := by omega
      have htk : ds.take i = ds := List.take_of_length_le (by have := HXN.out; omega)
      rw [htk] at HOV HUL
      have hob := HOV.out
      have hul := HUL.out
      obtain ⟨Ab, cb, rfl, hbc, hbm, hbr, hbB⟩ := own_slice_b hob
      have HBK2 := Lib.hid (HBK.out.below HB.out)
      have hap := tree_apart (w := w) (k := k) (n := (upIn ds).length) hbB (by omega)
      have hof := inkOf_any k L asked Ab (upIn ds).length cb (upIn ds) wr _ HBK2.out hbr (Nat.le_refl _) (fun a h0 ha e => hap a h0 ha (.inl e)) hbc hbm (by have := HXN.out; omega) has
      have hsz5 : (bRow (upD ds)).size = 32 := bRow_size32 (upD_len ds)
      have hon := bRow_one (upD ds)
      have HOF := Lib.hid hof
      have hdd : upD ds = shaOf (upIn ds) := rfl
      rw [← hdd] at HOF
      obtain ⟨D, hD⟩ : ∃ D, D = bRow (upD ds) := ⟨_, rfl⟩
      rw [← hD] at HOF hsz5 hon
      have HD5 := Lib.hid hD
      have HSZ := Lib.hid hsz5
      have HON := Lib.hid hon
      generalize (upIn ds).length = ul at *
      clear hob hbr hbB hap hof hsz5 hon hdd hD htk HOV HUL hul
      go_wp2_with fail
      refine HOF.out.mono ?_
      rintro _ w3 ⟨rfl, hbk3, ho3⟩
      have HO3 := Lib.hid ((OnlyBook.of_below HB.out).trans ho3)
      have hk3 : Blk w3 g 60 inkZ := (ho3.block g (by omega) (by rintro (e | e | e) <;> omega)).trans HKR.out
      have HK3 := Lib.hid hk3
      have HBK3 := Lib.hid hbk3
      have hs3 := ho3.size
      clear hbk3 ho3 hk3
      go_wp2_with (refine wpList_store_part (o := ⟨none, _, _, _, _, _⟩) rfl 60 (.tmp 4) (.tmp 32) rfl g 0 D rfl rfl 60 inkZ HK3.out (by rw [HSZ.out]; rfl) (by rw [HSZ.out, HZS.out]; omega) HON.out ?_; intro w5 hT5 hD6; rw [spl_self _ _ (by rw [HSZ.out, HZS.out])] at hD6)
      refine bodyPost_ret (results_part2 rfl _ _ g 32 60 _ _ rfl hD6 Tryz.underlying60 rfl rfl HSZ.out) rfl ⟨by rw [HD5.out]; rfl, ?_, ?_⟩
      · exact HBK3.out.grown hT5.grown ⟨by omega, by omega, by omega⟩
      · exact HO3.out.grown hT5.grown (by omega)

end Go.Proofs.YtcpngeiahgoacaaGreat
