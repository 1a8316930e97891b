/- Parts of the proof, in one text: VoM, AtM, AtN, Reader, Parse. -/
import Derived.Test.YtdpoedgjehofiaaGreatZ8
import Derived.Laws.OwnMore
import Derived.Deep.RegionLaw

/- What leaves and bytes say of a vault, in plain words. -/
namespace Go.Proofs.YtdpoedgjehofiaaGreat
set_option linter.unusedVariables false

/-- all numbers that bytes say -/
def numsGo : Nat → List UInt8 → Option (List Nat)
  | 0, b => if b = [] then some [] else none
  | f + 1, b => if b = [] then some [] else if (tn b).2.2 ≠ 0 then none else (numsGo f (tn b).2.1).map (fun l => (tn b).1 :: l)
def numsV (b : List UInt8) : Option (List Nat) := numsGo b.length b
theorem tn_shrink {b : List UInt8} (h : (tn b).2.2 = 0) : (tn b).2.1.length + 1 ≤ b.length := by
  unfold tn at h ⊢
  cases hb : takeN b with
  | error e =>
    rw [hb] at h
    simp only at h
    subst h
    exfalso
    unfold takeN at hb
    match b, hb with
    | [], hb => injection hb with hb; omega
    | m :: r, hb =>
      simp only at hb
      split at hb
      · injection hb with hb; omega
      · split at hb
        · injection hb with hb; omega
        · split at hb
          · injection hb with hb; omega
          · split at hb
            · injection hb with hb; omega
            · cases hb
  | ok p =>
    have h1 := takeN_back (n := p.1) (r := p.2) hb
    have h2 := congrArg List.length h1.1
    rw [List.length_append] at h2
    have := (numB_len h1.2).1
    show p.2.length + 1 ≤ _
    omega
theorem numsGo_more : ∀ (f g : Nat) (b : List UInt8), b.length ≤ f → b.length ≤ g → numsGo f b = numsGo g b
  | 0, 0, b, _, _ => rfl
  | 0, g + 1, b, hf, _ => by
    have : b = [] := List.eq_nil_of_length_eq_zero (by omega)
    subst this
    simp [numsGo]
  | f + 1, 0, b, _, hg => by
    have : b = [] := List.eq_nil_of_length_eq_zero (by omega)
    subst this
    simp [numsGo]
  | f + 1, g + 1, b, hf, hg => by
    simp only [numsGo]
    by_cases hb : b = []
    · rw [if_pos hb, if_pos hb]
    · rw [if_neg hb, if_neg hb]
      by_cases he : (tn b).2.2 ≠ 0
      · rw [if_pos he, if_pos he]
      · rw [if_neg he, if_neg he]
        have h1 := tn_shrink (b := b) (by omega)
        rw [numsGo_more f g _ (by omega) (by omega)]
theorem numsV_nil : numsV [] = some [] := rfl
theorem numsV_bad {b : List UInt8} (hb : b ≠ []) (he : (tn b).2.2 ≠ 0) : numsV b = none := by
  unfold numsV
  cases b with
  | nil => exact absurd rfl hb
  | cons x t => simp only [List.length_cons, numsGo, if_neg hb, if_pos he]
theorem numsV_next {b : List UInt8} (hb : b ≠ []) (he : (tn b).2.2 = 0) : numsV b = (numsV (tn b).2.1).map (fun l => (tn b).1 :: l) := by
  unfold numsV
  cases b with
  | nil => exact absurd rfl hb
  | cons x t =>
    have h1 := tn_shrink (b := x :: t) he
    simp only [List.length_cons, numsGo, if_neg hb]
    rw [if_neg (by omega), numsGo_more t.length (tn (x :: t)).2.1.length _ (by simp at h1; omega) (Nat.le_refl _)]
theorem numsV_num {n : Nat} (h : n ≤ maxN) (r : List UInt8) : numsV (numB n ++ r) = (numsV r).map (fun l => n :: l) := by
  have ht : tn (numB n ++ r) = (n, r, 0) := by unfold tn; rw [takeN_num h]
  have hl := (numB_len h).1
  rw [numsV_next (by intro e; have := congrArg List.length e; rw [List.length_append, List.length_nil] at this; omega) (by rw [ht]), ht]
theorem numsV_ints : ∀ (l : List Int), (∀ z, z ∈ l → NumI z) → numsV (numsI l) = some (l.map (·.toNat))
  | [], _ => rfl
  | z :: t, h => by
    rw [numsI_cons', numsV_num (by have := h z (List.mem_cons_self ..); unfold NumI at this; unfold maxN; omega), numsV_ints t fun x hx => h x (List.mem_cons_of_mem _ hx)]
    rfl
where numsI_cons' {z : Int} {t : List Int} : numsI (z :: t) = numB z.toNat ++ numsI t := rfl

/-- what a client's leaf says -/
def clientOf (b : List UInt8) : Option (Nat × List UInt8) :=
  if (tn b).2.2 ≠ 0 then none
  else if (ts (tn b).2.1 16).2.2 ≠ 0 ∨ 0 < (ts (tn b).2.1 16).2.1.length ∨ (0 < (ts (tn b).2.1 16).1.length ∧ ((ts (tn b).2.1 16).1.length ≠ 16 ∨ (tn b).1 = 0)) then none
  else some ((tn b).1, (ts (tn b).2.1 16).1)
/-- what the last leaf says: group, epoch, the seal's nodes -/
def goodSeal (l : List Nat) : Prop := 3 ≤ l.length ∧ 1 ≤ l.getD 0 0 ∧ l.getD 0 0 ≤ 2 ∧ l.getD 1 0 ≤ 1048576 ∧ l.getD 2 0 + 3 = l.length ∧ ¬ (l.getD 1 0 = 1048576 ∧ 0 < l.getD 2 0) ∧ (l.length = 3 ∨ crewB ((l.drop 3).map (fun n : Nat => (n : Int))) = true)
instance (l : List Nat) : Decidable (goodSeal l) := by unfold goodSeal; infer_instance
def sealOf (b : List UInt8) : Option (List Nat) := match numsV b with
  | none => none
  | some l => if goodSeal l then some l else none
def openM (ls : List (List UInt8)) (l : List Nat) : VM := ⟨l.getD 0 0, l.getD 1 0, ls.take 8, (List.range 4).map (fun i => (clientOf (ls.getD (8 + i) [])).getD (0, [])), (l.drop 3).map (fun n : Nat => (n : Int))⟩
def openV (ls : List (List UInt8)) : Option VM :=
  if ls.length = 13 ∧ (∀ i, i < 8 → (ls.getD i []).length = 16) ∧ (∀ i, i < 4 → (clientOf (ls.getD (8 + i) [])).isSome = true) then
    match sealOf (ls.getD 12 []) with
    | none => none
    | some l => some (openM ls l)
  else none
theorem clientOf_ok {b : List UInt8} {p : Nat × List UInt8} (h : clientOf b = some p) : p.1 ≤ maxN ∧ (p.2 = [] ∨ p.2.length = 16 ∧ 0 < p.1) := by
  unfold clientOf at h
  split at h
  · cases h
  · split at h
    · cases h
    · rename_i h1 h2
      have := Option.some.inj h
      subst this
      refine ⟨tn_num b, ?_⟩
      rcases Nat.eq_zero_or_pos (ts (tn b).2.1 16).1.length with e | e
      · exact .inl (List.eq_nil_of_length_eq_zero e)
      · right
        show (ts (tn b).2.1 16).1.length = 16 ∧ 0 < (tn b).1
        omega
theorem clientOf_last {x : Nat × List UInt8} (h1 : x.1 ≤ maxN) (h2 : x.2 = [] ∨ x.2.length = 16 ∧ 0 < x.1) : clientOf (lastB x) = some x := by
  have hl : x.2.length ≤ 16 := by
    rcases h2 with e | e
    · rw [e]; simp
    · omega
  have ht : tn (lastB x) = (x.1, strB x.2, 0) := by unfold tn lastB; rw [takeN_num h1]
  have hs : ts (strB x.2) 16 = (x.2, [], 0) := by
    have := takeS_str (s := x.2) (most := 16) (by omega) []
    rw [List.append_nil] at this
    unfold ts; rw [this]
  unfold clientOf
  rw [ht]
  simp only
  rw [hs]
  simp only
  rw [if_neg (by simp), if_neg (by
    rintro (e | e | e)
    · exact e rfl
    · simp at e
    · rcases h2 with h2 | h2
      · rw [h2] at e; simp at e
      · omega)]
theorem sealOf_leaf {m : VM} (h : VOk m) : sealOf (sealB m) = some (m.group :: m.epoch :: m.shut.length :: m.shut.map (·.toNat)) := by
  have hs := h.sealNum
  have hg : m.group ≤ maxN := by have := h.group; unfold maxN; omega
  have he : m.epoch ≤ maxN := by have := h.epoch; unfold maxN; omega
  have hn : m.shut.length ≤ maxN := by unfold maxN; omega
  have hv : numsV (sealB m) = some (m.group :: m.epoch :: m.shut.length :: m.shut.map (·.toNat)) := by
    unfold sealB
    rw [List.append_assoc, List.append_assoc, numsV_num hg, numsV_num he, numsV_num hn, numsV_ints m.shut hs.1]
    rfl
  unfold sealOf
  rw [hv]
  simp only
  rw [if_pos]
  have hb : (m.shut.map (·.toNat)).map (fun n : Nat => (n : Int)) = m.shut := by
    rw [List.map_map]
    conv => rhs; rw [← List.map_id m.shut]
    refine List.map_congr_left fun z hz => ?_
    have := hs.1 z hz
    unfold NumI at this
    show ((z.toNat : Nat) : Int) = z
    omega
  unfold goodSeal
  have hgr := h.group
  have hep := h.epoch
  refine ⟨by simp, hgr.1, hgr.2, hep, by simp, ?_, ?_⟩
  · rintro ⟨e1, e2⟩
    have e1' : m.epoch = 1048576 := e1
    have e2' : 0 < m.shut.length := e2
    rcases h.shut with e | ⟨_, e⟩
    · rw [e] at e2'; simp at e2'
    · omega
  · rcases h.shut with e | ⟨e, _⟩
    · left; simp [e]
    · right
      show crewB ((m.shut.map (·.toNat)).map (fun n : Nat => (n : Int))) = true
      rw [hb]; exact e
theorem openM_ok {ls : List (List UInt8)} {l : List Nat} (h : ls.length = 13) (hb : ∀ i, i < 8 → (ls.getD i []).length = 16) (hc : ∀ i, i < 4 → (clientOf (ls.getD (8 + i) [])).isSome = true) (hs : goodSeal l) : VOk (openM ls l) := by
  obtain ⟨h1, h2, h3, h4, h5, h6, h7⟩ := hs
  refine ⟨⟨h2, h3⟩, h4, by show (ls.take 8).length = 8; rw [List.length_take]; omega, ?_, by simp [openM], ?_, ?_⟩
  · intro b hb'
    obtain ⟨i, hi, rfl⟩ := List.mem_iff_getElem.1 hb'
    have hi' : i < 8 := by simp [openM] at hi; omega
    have := hb i hi'
    rw [List.getD_eq_getElem?_getD, List.getElem?_eq_getElem (by omega)] at this
    simpa [openM] using this
  · intro x hx
    obtain ⟨i, hi, rfl⟩ := List.mem_map.1 hx
    have hi' : i < 4 := by simpa using hi
    have := hc i hi'
    cases hp : clientOf (ls.getD (8 + i) []) with
    | none => rw [hp] at this; cases this
    | some p => exact clientOf_ok hp
  · show (l.drop 3).map (fun n : Nat => (n : Int)) = [] ∨ (crewB ((l.drop 3).map (fun n : Nat => (n : Int))) = true ∧ l.getD 1 0 < 1048576)
    rcases h7 with h7 | h7
    · left
      have : l.drop 3 = [] := List.drop_eq_nil_of_le (by omega)
      rw [this]; rfl
    · right
      refine ⟨h7, ?_⟩
      have hp := crewB_pos h7
      rw [List.length_map, List.length_drop] at hp
      omega
theorem openV_ok {ls : List (List UInt8)} {m : VM} (h : openV ls = some m) : VOk m := by
  unfold openV at h
  split at h
  · rename_i hc
    unfold sealOf at h
    cases hn : numsV (ls.getD 12 []) with
    | none => rw [hn] at h; cases h
    | some l =>
      rw [hn] at h
      simp only at h
      by_cases hg : goodSeal l
      · rw [if_pos hg] at h
        simp only at h
        rw [← Option.some.inj h]
        exact openM_ok hc.1 hc.2.1 hc.2.2 hg
      · rw [if_neg hg] at h; cases h
  · cases h
theorem leavesV_getD (m : VM) (i : Nat) (h : i < 13) : (leavesV m).getD i [] = leafV m i := by
  rw [List.getD_eq_getElem?_getD, leavesV_get m i h]; rfl
/-- the leaves of a vault open it -/
theorem openV_leaves {m : VM} (h : VOk m) : openV (leavesV m) = some m := by
  have hcl : ∀ i, i < 4 → clientOf ((leavesV m).getD (8 + i) []) = some (lastV m i) := fun i hi => by
    rw [leavesV_getD m _ (by omega)]
    unfold leafV
    rw [if_neg (by omega), if_pos (by omega), show 8 + i - 8 = i by omega]
    have := h.lst hi
    exact clientOf_last this.1 this.2
  unfold openV
  rw [if_pos ⟨leavesV_len m, fun i hi => by rw [leavesV_getD m i (by omega)]; unfold leafV; rw [if_pos hi]; exact h.blk hi, fun i hi => by rw [hcl i hi]; rfl⟩]
  have h12 : (leavesV m).getD 12 [] = sealB m := by rw [leavesV_getD m 12 (by omega)]; rfl
  rw [h12, sealOf_leaf h]
  simp only
  congr 1
  have hb : (m.shut.map (·.toNat)).map (fun n : Nat => (n : Int)) = m.shut := by
    rw [List.map_map]
    conv => rhs; rw [← List.map_id m.shut]
    refine List.map_congr_left fun z hz => ?_
    have := h.sealNum.1 z hz
    unfold NumI at this
    show ((z.toNat : Nat) : Int) = z
    omega
  obtain ⟨q, e, bl, la, s⟩ := m
  unfold openM
  have h1 : (leavesV ⟨q, e, bl, la, s⟩).take 8 = bl := by
    apply List.ext_getElem?
    intro i
    rw [List.getElem?_take]
    have hl : bl.length = 8 := h.blocks
    by_cases hi : i < 8
    · rw [if_pos hi, leavesV_get _ i (by omega)]
      unfold leafV blockV
      rw [if_pos hi]
      show some (bl.getD i []) = bl[i]?
      rw [List.getD_eq_getElem?_getD, List.getElem?_eq_getElem (by omega)]
      rfl
    · rw [if_neg hi, List.getElem?_eq_none (by omega)]
  have h2 : (List.range 4).map (fun i => (clientOf ((leavesV ⟨q, e, bl, la, s⟩).getD (8 + i) [])).getD (0, [])) = la := by
    apply List.ext_getElem?
    intro i
    have hl : la.length = 4 := h.last
    rw [List.getElem?_map]
    by_cases hi : i < 4
    · rw [List.getElem?_range hi]
      simp only [Option.map_some]
      rw [hcl i hi]
      show some (la.getD i (0, [])) = la[i]?
      rw [List.getD_eq_getElem?_getD, List.getElem?_eq_getElem (by omega)]
      rfl
    · rw [List.getElem?_eq_none (by simpa using hi), List.getElem?_eq_none (by omega)]
      rfl
  rw [h1, h2]
  congr 1

/-- the leaves that bytes say, with the error's number -/
def loadGo : Nat → List UInt8 → List (List UInt8) → List (List UInt8) × List UInt8 × Nat
  | 0, b, acc => (acc, b, 0)
  | f + 1, b, acc => if (ts b 128).2.2 ≠ 0 then (acc, b, (ts b 128).2.2) else loadGo f (ts b 128).2.1 (acc ++ [(ts b 128).1])
def loadV (b : List UInt8) : Option VM × Nat :=
  let r := loadGo 13 b []
  if r.2.2 ≠ 0 then (none, r.2.2) else if 0 < r.2.1.length then (none, 4) else match openV r.1 with
    | none => (none, 2)
    | some m => (some m, 0)
def bytesV (m : VM) : List UInt8 := ((leavesV m).map strB).flatten
theorem ts_str {s : List UInt8} (h : s.length ≤ 128) (r : List UInt8) : ts (strB s ++ r) 128 = (s, r, 0) := by
  unfold ts
  rw [takeS_str (by omega)]
theorem loadGo_of : ∀ (ls : List (List UInt8)) (acc : List (List UInt8)), (∀ x, x ∈ ls → x.length ≤ 128) → loadGo ls.length (ls.map strB).flatten acc = (acc ++ ls, [], 0)
  | [], acc, _ => by simp [loadGo]
  | x :: t, acc, h => by
    rw [List.map_cons, List.flatten_cons, List.length_cons]
    unfold loadGo
    have hx := ts_str (h x (List.mem_cons_self ..)) (t.map strB).flatten
    rw [hx]
    simp only
    rw [if_neg (by simp), loadGo_of t _ fun y hy => h y (List.mem_cons_of_mem _ hy), List.append_assoc]
    rfl
theorem loadV_bytes {m : VM} (h : VOk m) : loadV (bytesV m) = (some m, 0) := by
  have hg := loadGo_of (leavesV m) [] fun x hx => by
    obtain ⟨i, _, rfl⟩ := List.mem_map.1 hx
    have := leafV_len h i
    omega
  rw [leavesV_len, List.nil_append] at hg
  unfold loadV bytesV
  rw [hg]
  simp only
  rw [if_neg (by simp), if_neg (by simp), openV_leaves h]

end Go.Proofs.YtdpoedgjehofiaaGreat

/- An atlas in plain words: crews, moves, the clients' last wishes; what Do, Heard make of it. -/
namespace Go.Proofs.YtdpoedgjehofiaaGreat
set_option linter.unusedVariables false

/-- a number into a rising list -/
def insL (z : Int) : List Int → List Int
  | [] => [z]
  | x :: t => if z < x then z :: x :: t else x :: insL z t
def dropL (l : List Int) (o : Int) : List Int := l.filter (fun x => !decide (x = o))
def replL (l : List Int) (o n : Int) : List Int := insL n (dropL l o)
def nowL (l : List Int) : List (Int × Int) → List Int
  | [] => l
  | m :: t => nowL (replL l m.1 m.2) t
def crewsL (l : List Int) : List (Int × Int) → List (List Int)
  | [] => [l]
  | m :: t => l :: crewsL (replL l m.1 m.2) t
/-- nodes that may be those of a crew -/
structure OkC (f : Nat) (l : List Int) : Prop where
  faults : f ≤ 2
  len : l.length = 3 * f + 1
  up : risingB 0 l = true
theorem risingB_all : ∀ (l : List Int) (a : Int), risingB a l = true → l.Pairwise (· < ·) ∧ ∀ x, x ∈ l → a < x ∧ x ≤ 28
  | [], _, _ => ⟨List.Pairwise.nil, fun x hx => by cases hx⟩
  | y :: t, a, h => by
    unfold risingB at h
    rw [Bool.and_eq_true] at h
    have h1 := of_decide_eq_true h.1
    have h2 := risingB_all t y h.2
    refine ⟨List.Pairwise.cons (fun x hx => (h2.2 x hx).1) h2.1, fun x hx => ?_⟩
    rcases List.mem_cons.1 hx with rfl | hx
    · exact h1
    · have := h2.2 x hx; omega
theorem risingB_of : ∀ (l : List Int) (a : Int), l.Pairwise (· < ·) → (∀ x, x ∈ l → a < x ∧ x ≤ 28) → risingB a l = true
  | [], _, _, _ => rfl
  | y :: t, a, h, hb => by
    have hp := List.pairwise_cons.1 h
    have h1 := hb y (List.mem_cons_self ..)
    unfold risingB
    rw [decide_eq_true ⟨h1.1, h1.2⟩, Bool.true_and]
    exact risingB_of t y hp.2 fun x hx => ⟨hp.1 x hx, (hb x (List.mem_cons_of_mem _ hx)).2⟩
theorem OkC.pair {f : Nat} {l : List Int} (h : OkC f l) : l.Pairwise (· < ·) := (risingB_all l 0 h.up).1
theorem OkC.bound {f : Nat} {l : List Int} (h : OkC f l) {x : Int} (hx : x ∈ l) : 0 < x ∧ x ≤ 28 := (risingB_all l 0 h.up).2 x hx
theorem OkC.short {f : Nat} {l : List Int} (h : OkC f l) : 1 ≤ l.length ∧ l.length ≤ 7 := by have := h.faults; have := h.len; omega
theorem OkC.crew {f : Nat} {l : List Int} (h : OkC f l) : crewB l = true := by
  unfold crewB
  rw [h.up, Bool.and_true]
  have := h.short
  have := h.len
  exact decide_eq_true ⟨by omega, by omega⟩
theorem insL_at (z : Int) : ∀ (a b : List Int), (∀ x, x ∈ a → ¬ z < x) → (∀ x, b.head? = some x → z < x) → insL z (a ++ b) = a ++ z :: b
  | [], [], _, _ => rfl
  | [], x :: t, _, hb => by
    show (if z < x then z :: x :: t else x :: insL z t) = z :: x :: t
    rw [if_pos (hb x rfl)]
  | x :: a, b, ha, hb => by
    show (if z < x then z :: x :: (a ++ b) else x :: insL z (a ++ b)) = x :: (a ++ z :: b)
    rw [if_neg (ha x (List.mem_cons_self ..)), insL_at z a b (fun y hy => ha y (List.mem_cons_of_mem _ hy)) hb]
theorem insL_mem (z x : Int) : ∀ (l : List Int), x ∈ insL z l ↔ x = z ∨ x ∈ l
  | [] => by simp [insL]
  | y :: t => by
    unfold insL
    split
    · simp
    · simp only [List.mem_cons]
      rw [insL_mem z x t]
      constructor
      · rintro (h | h | h)
        · exact .inr (.inl h)
        · exact .inl h
        · exact .inr (.inr h)
      · rintro (h | h | h)
        · exact .inr (.inl h)
        · exact .inl h
        · exact .inr (.inr h)
theorem insL_len (z : Int) : ∀ (l : List Int), (insL z l).length = l.length + 1
  | [] => rfl
  | y :: t => by
    unfold insL
    split
    · rfl
    · simp [insL_len z t]
theorem insL_pair (z : Int) : ∀ (l : List Int), l.Pairwise (· < ·) → ¬ z ∈ l → (insL z l).Pairwise (· < ·)
  | [], _, _ => by simp [insL]
  | y :: t, h, hz => by
    have hp := List.pairwise_cons.1 h
    unfold insL
    split
    · rename_i hlt
      refine List.Pairwise.cons (fun x hx => ?_) h
      rcases List.mem_cons.1 hx with rfl | hx
      · exact hlt
      · have := hp.1 x hx; omega
    · rename_i hlt
      have hne : z ≠ y := fun e => hz (by rw [e]; exact List.mem_cons_self ..)
      refine List.Pairwise.cons (fun x hx => ?_) (insL_pair z t hp.2 fun hm => hz (List.mem_cons_of_mem _ hm))
      rcases (insL_mem z x t).1 hx with rfl | hx
      · omega
      · exact hp.1 x hx
theorem dropL_mem {l : List Int} {o x : Int} : x ∈ dropL l o ↔ x ∈ l ∧ x ≠ o := by
  unfold dropL
  rw [List.mem_filter]
  simp
theorem dropL_pair {l : List Int} (o : Int) (h : l.Pairwise (· < ·)) : (dropL l o).Pairwise (· < ·) := h.filter _
theorem dropL_len : ∀ (l : List Int) (o : Int), l.Pairwise (· < ·) → o ∈ l → (dropL l o).length + 1 = l.length
  | [], _, _, h => by cases h
  | y :: t, o, h, hm => by
    have hp := List.pairwise_cons.1 h
    unfold dropL
    by_cases hy : y = o
    · rw [List.filter_cons_of_neg (by simp [hy])]
      have : t.filter (fun x => !decide (x = o)) = t := List.filter_eq_self.2 fun x hx => by
        have := hp.1 x hx
        simp
        omega
      rw [this]; rfl
    · rw [List.filter_cons_of_pos (by simp [hy])]
      have := dropL_len t o hp.2 (by
        rcases List.mem_cons.1 hm with e | e
        · exact absurd e.symm hy
        · exact e)
      unfold dropL at this
      simp only [List.length_cons]
      omega
theorem OkC.repl {f : Nat} {l : List Int} (h : OkC f l) {o n : Int} (ho : o ∈ l) (hn : ¬ n ∈ l) (h1 : 1 ≤ n) (h2 : n ≤ 28) : OkC f (replL l o n) := by
  have hl := dropL_len l o h.pair ho
  have hnd : ¬ n ∈ dropL l o := fun hm => hn (dropL_mem.1 hm).1
  refine ⟨h.faults, by unfold replL; rw [insL_len]; have := h.len; omega, risingB_of _ 0 (insL_pair n _ (dropL_pair o h.pair) hnd) fun x hx => ?_⟩
  rcases (insL_mem n x _).1 hx with rfl | hx
  · omega
  · exact h.bound (dropL_mem.1 hx).1
theorem replL_mem {l : List Int} {o n x : Int} : x ∈ replL l o n ↔ x = n ∨ (x ∈ l ∧ x ≠ o) := by
  unfold replL
  rw [insL_mem, dropL_mem]
theorem nowL_append : ∀ (l : List Int) (a : List (Int × Int)) (o n : Int), nowL l (a ++ [(o, n)]) = replL (nowL l a) o n
  | _, [], _, _ => rfl
  | l, m :: t, o, n => nowL_append (replL l m.1 m.2) t o n
theorem crewsL_append : ∀ (l : List Int) (a : List (Int × Int)) (o n : Int), crewsL l (a ++ [(o, n)]) = crewsL l a ++ [replL (nowL l a) o n]
  | _, [], _, _ => rfl
  | l, m :: t, o, n => by
    show l :: crewsL _ (t ++ [(o, n)]) = l :: (crewsL _ t ++ [_])
    rw [crewsL_append]
    rfl
theorem crewsL_len : ∀ (l : List Int) (a : List (Int × Int)), (crewsL l a).length = a.length + 1
  | _, [] => rfl
  | l, m :: t => by
    show (crewsL (replL l m.1 m.2) t).length + 1 = _
    rw [crewsL_len]
    rfl
theorem crewsL_at : ∀ (l : List Int) (a : List (Int × Int)) (i : Nat), i ≤ a.length → (crewsL l a)[i]? = some (nowL l (a.take i))
  | _, [], i, h => by
    obtain rfl : i = 0 := by simpa using h
    rfl
  | l, m :: t, 0, _ => rfl
  | l, m :: t, i + 1, h => by
    show (crewsL (replL l m.1 m.2) t)[i]? = some (nowL (replL l m.1 m.2) (t.take i))
    exact crewsL_at _ t i (by simpa using h)
/-- moves that may be, of a crew -/
def MovesOk (l : List Int) : List (Int × Int) → Prop
  | [] => True
  | m :: t => m.1 ∈ l ∧ ¬ m.2 ∈ l ∧ 1 ≤ m.2 ∧ m.2 ≤ 28 ∧ MovesOk (replL l m.1 m.2) t
theorem MovesOk.now {f : Nat} : ∀ {l : List Int} {a : List (Int × Int)}, OkC f l → MovesOk l a → OkC f (nowL l a)
  | _, [], h, _ => h
  | l, m :: t, h, hm => MovesOk.now (l := replL l m.1 m.2) (a := t) (h.repl hm.1 hm.2.1 hm.2.2.1 hm.2.2.2.1) hm.2.2.2.2
theorem MovesOk.take : ∀ {l : List Int} {a : List (Int × Int)} (i : Nat), MovesOk l a → MovesOk l (a.take i)
  | _, [], i, _ => by simp [MovesOk]
  | _, _ :: _, 0, _ => trivial
  | _, m :: t, i + 1, h => ⟨h.1, h.2.1, h.2.2.1, h.2.2.2.1, MovesOk.take i h.2.2.2.2⟩
theorem MovesOk.app : ∀ {l : List Int} {a : List (Int × Int)} {o n : Int}, MovesOk l a → o ∈ nowL l a → ¬ n ∈ nowL l a → 1 ≤ n → n ≤ 28 → MovesOk l (a ++ [(o, n)])
  | _, [], _, _, _, h1, h2, h3, h4 => ⟨h1, h2, h3, h4, trivial⟩
  | _, m :: t, _, _, h, h1, h2, h3, h4 => ⟨h.1, h.2.1, h.2.2.1, h.2.2.2.1, MovesOk.app h.2.2.2.2 h1 h2 h3 h4⟩
theorem MovesOk.mem_old : ∀ {l : List Int} {a : List (Int × Int)} {f : Nat}, OkC f l → MovesOk l a → ∀ m, m ∈ a → 1 ≤ m.1 ∧ m.1 ≤ 28 ∧ 1 ≤ m.2 ∧ m.2 ≤ 28
  | _, [], _, _, _, _, hm => by cases hm
  | _, m :: t, f, hc, h, x, hx => by
    rcases List.mem_cons.1 hx with rfl | hx
    · have := hc.bound h.1
      exact ⟨by omega, by omega, h.2.2.1, h.2.2.2.1⟩
    · exact MovesOk.mem_old (hc.repl h.1 h.2.1 h.2.2.1 h.2.2.2.1) h.2.2.2.2 x hx
theorem nowL_mem : ∀ {l : List Int} {a : List (Int × Int)} {x : Int}, x ∈ nowL l a → x ∈ l ∨ ∃ m, m ∈ a ∧ m.2 = x
  | _, [], _, h => .inl h
  | l, m :: t, x, h => by
    rcases nowL_mem (l := replL l m.1 m.2) (a := t) h with h | ⟨q, h1, h2⟩
    · rcases replL_mem.1 h with h | h
      · exact .inr ⟨m, List.mem_cons_self .., h.symm⟩
      · exact .inl h.1
    · exact .inr ⟨q, List.mem_cons_of_mem _ h1, h2⟩

/-- a chunk's crews: the faults, the first nodes, what changed -/
structure Srv where
  f : Nat
  first : List Int
  moves : List (Int × Int)
structure AM where
  chunks : List Srv
  last : List (Nat × Ans)
def Srv.now (s : Srv) : List Int := nowL s.first s.moves
def usedS (s : Srv) (z : Int) : Bool := decide (z ∈ s.first) || s.moves.any (fun m => decide (m.2 = z))
def usedA (cs : List Srv) (f : Nat) (z : Int) : Bool := decide (z ≤ 3 * (f : Int) + 1) || cs.any (fun s => usedS s z)
structure SOk (s : Srv) : Prop where
  crew : OkC s.f s.first
  len : s.moves.length ≤ 21
  mv : MovesOk s.first s.moves
structure AnsOk (a : Ans) : Prop where
  err : a.err = 0 ∨ a.err = 5 ∨ a.err = 180
  data : a.data = []
  epoch : a.epoch ≤ 21
  nodes : a.nodes = [] ∨ crewB a.nodes = true
/-- all that ever served -/
def servedS (s : Srv) : List Int := s.first ++ s.moves.map (·.2)
def servedA (cs : List Srv) : List Int := (cs.map servedS).flatten
structure AOk (m : AM) : Prop where
  one : 1 ≤ m.chunks.length ∧ m.chunks.length ≤ 2
  srv : ∀ s, s ∈ m.chunks → SOk s
  same : ∃ f, ∀ s, s ∈ m.chunks → s.f = f
  apart : (servedA m.chunks).Nodup
  high : ∀ s, s ∈ m.chunks → ∀ x, x ∈ servedS s → 3 * (s.f : Int) + 1 < x
  last : m.last.length = 4
  ans : ∀ x, x ∈ m.last → x.1 ≤ maxN ∧ AnsOk x.2 ∧ (x.1 = 0 → x.2 = okA)
def lastQ (m : AM) (i : Nat) : Nat × Ans := m.last.getD i (0, okA)
def movesI : List (Int × Int) → List Int
  | [] => []
  | m :: t => m.1 :: m.2 :: movesI t
def chunkI (s : Srv) : List Int := (((s.moves.length + 1 : Nat) : Int) :: (s.f : Int) :: s.first) ++ movesI s.moves
def lastI (x : Nat × Ans) : List Int := [(x.1 : Int), (x.2.err : Int), (x.2.epoch : Int), (x.2.nodes.length : Int)] ++ x.2.nodes
def leafI (m : AM) (i : Nat) : List Int := if i < 2 then (match m.chunks[i]? with | some s => chunkI s | none => [0]) else lastI (lastQ m (i - 2))
def leafQ (m : AM) (i : Nat) : List UInt8 := numsI (leafI m i)
def leavesQ (m : AM) : List (List UInt8) := (List.range 6).map (leafQ m)
theorem leavesQ_len (m : AM) : (leavesQ m).length = 6 := by simp [leavesQ]
theorem leavesQ_get (m : AM) (i : Nat) (h : i < 6) : (leavesQ m)[i]? = some (leafQ m i) := by
  unfold leavesQ
  rw [List.getElem?_map, List.getElem?_range h]; rfl
theorem leavesQ_getD (m : AM) (i : Nat) (h : i < 6) : (leavesQ m).getD i [] = leafQ m i := by
  rw [List.getD_eq_getElem?_getD, leavesQ_get m i h]; rfl

/-- the answer to a wish that may be -/
def inQ (x : Wish) : Bool := mayB x && decide (x.kind = 3 ∨ x.kind = 4)
def oldQ (m : AM) (x : Wish) : Ans × Bool :=
  let y := lastQ m (x.client - 31).toNat
  if x.stamp < (y.1 : Int) then (errA 172 0, true) else if (y.1 : Int) < x.stamp then (okA, false) else (y.2, true)
def movedS (s : Srv) (o n : Int) : Srv := ⟨s.f, s.first, s.moves ++ [(o, n)]⟩
def answerQ (m : AM) (x : Wish) : AM × Ans :=
  match m.chunks[(x.block - 1).toNat]? with
  | none => (m, errA 180 0)
  | some s =>
    if x.kind = 3 then (m, ⟨0, [], s.moves.length, s.now⟩)
    else if x.client ≠ 34 then (m, errA 180 0)
    else if ¬ x.old ∈ s.now ∨ usedA m.chunks s.f x.new = true then (m, errA 180 s.moves.length)
    else if s.moves.length + 1 = 22 then (m, errA 5 0)
    else (⟨m.chunks.set (x.block - 1).toNat (movedS s x.old x.new), m.last⟩, errA 0 (s.moves.length + 1))
def didQ (m : AM) (x : Wish) : AM :=
  if ((lastQ m (x.client - 31).toNat).1 : Int) < x.stamp then ⟨(answerQ m x).1.chunks, (answerQ m x).1.last.set (x.client - 31).toNat (x.stamp.toNat, (answerQ m x).2)⟩ else m
def doQ (m : AM) (x : Wish) : AM × Ans × Nat := if inQ x = true then (didQ m x, (oldQ (didQ m x) x).1, 0) else (m, okA, 2)
def heardQ (m : AM) (x : Wish) : Ans × Bool := if inQ x = true then oldQ m x else (okA, false)
def crewsQ (m : AM) (c : Nat) : List (Nat × List Int) := match m.chunks[c - 1]? with
  | none => []
  | some s => if c = 0 then [] else (crewsL s.first s.moves).map (fun l => (s.f, l))

theorem SOk.now_ok {s : Srv} (h : SOk s) : OkC s.f s.now := h.mv.now h.crew
theorem movesI_len : ∀ l : List (Int × Int), (movesI l).length = 2 * l.length
  | [] => rfl
  | m :: t => by
    show (movesI t).length + 2 = _
    rw [movesI_len t]
    simp only [List.length_cons]
    omega
theorem movesI_append : ∀ (a b : List (Int × Int)), movesI (a ++ b) = movesI a ++ movesI b
  | [], _ => rfl
  | m :: t, b => by
    show m.1 :: m.2 :: movesI (t ++ b) = m.1 :: m.2 :: (movesI t ++ movesI b)
    rw [movesI_append t b]
theorem movesI_mem : ∀ {l : List (Int × Int)} {x : Int}, x ∈ movesI l → ∃ m, m ∈ l ∧ (x = m.1 ∨ x = m.2)
  | [], _, h => by cases h
  | m :: t, x, h => by
    rcases List.mem_cons.1 h with h | h
    · exact ⟨m, List.mem_cons_self .., .inl h⟩
    · rcases List.mem_cons.1 h with h | h
      · exact ⟨m, List.mem_cons_self .., .inr h⟩
      · obtain ⟨q, h1, h2⟩ := movesI_mem h
        exact ⟨q, List.mem_cons_of_mem _ h1, h2⟩
theorem numI_small {z : Int} (h1 : 0 ≤ z) (h2 : z ≤ 255) : NumI z := by unfold NumI; omega
/-- a number below 256 is of two bytes at most -/
theorem numB_two {n : Nat} (h : n < 256) : (numB n).length ≤ 2 := by
  have : ∀ n : Fin 256, (numB n.1).length ≤ 2 := by decide +kernel
  exact this ⟨n, h⟩
theorem numsI_len2 : ∀ (l : List Int), (∀ z, z ∈ l → 0 ≤ z ∧ z ≤ 255) → (numsI l).length ≤ 2 * l.length
  | [], _ => by simp [numsI]
  | z :: t, h => by
    have h1 := h z (List.mem_cons_self ..)
    have h2 := numsI_len2 t fun x hx => h x (List.mem_cons_of_mem _ hx)
    have h3 := numB_two (n := z.toNat) (by omega)
    show (numB z.toNat ++ numsI t).length ≤ _
    rw [List.length_append, List.length_cons]
    omega
theorem SOk.chunk {s : Srv} (h : SOk s) : ∀ z, z ∈ chunkI s → 0 ≤ z ∧ z ≤ 255 := by
  intro z hz
  have hl := h.len
  have hf := h.crew.faults
  unfold chunkI at hz
  rcases List.mem_append.1 hz with hz | hz
  · rcases List.mem_cons.1 hz with rfl | hz
    · omega
    · rcases List.mem_cons.1 hz with rfl | hz
      · omega
      · have := h.crew.bound hz; omega
  · obtain ⟨m, h1, h2⟩ := movesI_mem hz
    have := MovesOk.mem_old h.crew h.mv m h1
    omega
theorem SOk.chunk_len {s : Srv} (h : SOk s) : (chunkI s).length ≤ 51 := by
  have := h.crew.short
  have := h.len
  have := movesI_len s.moves
  unfold chunkI
  rw [List.length_append]
  simp only [List.length_cons]
  omega
theorem crewB_bound {l : List Int} (h : crewB l = true) : l.length ≤ 7 ∧ ∀ z, z ∈ l → 0 < z ∧ z ≤ 28 := by
  unfold crewB at h
  rw [Bool.and_eq_true] at h
  exact ⟨(of_decide_eq_true h.1).2, (risingB_all l 0 h.2).2⟩
theorem AnsOk.bound {a : Ans} (h : AnsOk a) : a.nodes.length ≤ 7 ∧ ∀ z, z ∈ a.nodes → 0 ≤ z ∧ z ≤ 28 := by
  rcases h.nodes with e | e
  · rw [e]; exact ⟨by simp, fun z hz => by cases hz⟩
  · have := crewB_bound e
    exact ⟨this.1, fun z hz => by have := this.2 z hz; omega⟩
theorem AOk.lst {m : AM} (h : AOk m) (i : Nat) : (lastQ m i).1 ≤ maxN ∧ AnsOk (lastQ m i).2 ∧ ((lastQ m i).1 = 0 → (lastQ m i).2 = okA) := by
  unfold lastQ
  rw [List.getD_eq_getElem?_getD]
  cases hx : m.last[i]? with
  | none => exact ⟨by unfold maxN; exact Nat.zero_le _, ⟨.inl rfl, rfl, by show (0 : Nat) ≤ 21; omega, .inl rfl⟩, fun _ => rfl⟩
  | some x => exact h.ans x (List.mem_of_getElem? hx)
theorem leafI_num {m : AM} (h : AOk m) (i : Nat) : ∀ z, z ∈ leafI m i → NumI z := by
  intro z hz
  unfold leafI at hz
  split at hz
  · cases hs : m.chunks[i]? with
    | none =>
      rw [hs] at hz
      rw [List.mem_singleton.1 hz]
      exact numI_small (by omega) (by omega)
    | some s =>
      rw [hs] at hz
      have := (h.srv s (List.mem_of_getElem? hs)).chunk z hz
      exact numI_small this.1 this.2
  · have hl := h.lst (i - 2)
    have hb := hl.2.1.bound
    have he := hl.2.1.err
    have hp := hl.2.1.epoch
    unfold lastI at hz
    simp only [List.cons_append, List.nil_append, List.mem_cons] at hz
    rcases hz with rfl | rfl | rfl | rfl | hz
    · have := hl.1; unfold maxN at this; unfold NumI; omega
    · unfold NumI; omega
    · unfold NumI; omega
    · unfold NumI; omega
    · have := hb.2 z hz; unfold NumI; omega
theorem leafI_len {m : AM} (h : AOk m) (i : Nat) : (leafI m i).length ≤ 51 := by
  unfold leafI
  split
  · cases hs : m.chunks[i]? with
    | none => show 1 ≤ 51; omega
    | some s => exact (h.srv s (List.mem_of_getElem? hs)).chunk_len
  · have hb := (h.lst (i - 2)).2.1.bound
    unfold lastI
    rw [List.length_append]
    simp only [List.length_cons, List.length_nil]
    omega
theorem leafQ_len {m : AM} (h : AOk m) (i : Nat) : (leafQ m i).length ≤ 120 := by
  unfold leafQ leafI
  split
  · cases hs : m.chunks[i]? with
    | none =>
      have := numsI_len2 [0] (fun z hz => by rw [List.mem_singleton.1 hz]; omega)
      exact Nat.le_trans this (by simp)
    | some s =>
      have hk := h.srv s (List.mem_of_getElem? hs)
      have h1 := numsI_len2 (chunkI s) hk.chunk
      have h2 := hk.chunk_len
      show (numsI (chunkI s)).length ≤ 120
      omega
  · have hl := h.lst (i - 2)
    have hb := hl.2.1.bound
    have he := hl.2.1.err
    have hp := hl.2.1.epoch
    have h1 := numsI_len2 ([((lastQ m (i - 2)).2.err : Int), ((lastQ m (i - 2)).2.epoch : Int), ((lastQ m (i - 2)).2.nodes.length : Int)] ++ (lastQ m (i - 2)).2.nodes) (fun z hz => by
      simp only [List.cons_append, List.nil_append, List.mem_cons] at hz
      rcases hz with rfl | rfl | rfl | hz
      · omega
      · omega
      · omega
      · have := hb.2 z hz; omega)
    have h2 := (numB_len (n := (lastQ m (i - 2)).1) hl.1).2
    show (numB (((lastQ m (i - 2)).1 : Int)).toNat ++ numsI ([((lastQ m (i - 2)).2.err : Int), ((lastQ m (i - 2)).2.epoch : Int), ((lastQ m (i - 2)).2.nodes.length : Int)] ++ (lastQ m (i - 2)).2.nodes)).length ≤ 120
    rw [List.length_append, Int.toNat_natCast]
    rw [List.length_append] at h1
    simp only [List.length_cons, List.length_nil] at h1
    omega

end Go.Proofs.YtdpoedgjehofiaaGreat

/- An atlas in plain words: what wishes leave, what leaves say. -/
namespace Go.Proofs.YtdpoedgjehofiaaGreat
set_option linter.unusedVariables false

theorem servedS_moved (s : Srv) (o n : Int) : servedS (movedS s o n) = servedS s ++ [n] := by
  unfold servedS movedS
  simp
theorem servedA_set : ∀ (cs : List Srv) (i : Nat) (s : Srv) (o n : Int), cs[i]? = some s → (servedA (cs.set i (movedS s o n))).Perm (n :: servedA cs)
  | [], _, _, _, _, h => by simp at h
  | c :: t, 0, s, o, n, h => by
    obtain rfl : c = s := by simpa using h
    show (servedS (movedS c o n) ++ servedA t).Perm (n :: (servedS c ++ servedA t))
    rw [servedS_moved, List.append_assoc]
    exact List.perm_middle
  | c :: t, i + 1, s, o, n, h => by
    have h1 := servedA_set t i s o n (by simpa using h)
    show (servedS c ++ servedA (t.set i (movedS s o n))).Perm (n :: (servedS c ++ servedA t))
    exact (h1.append_left (servedS c)).trans List.perm_middle
theorem usedS_false {s : Srv} {z : Int} (h : usedS s z = false) : ¬ z ∈ servedS s := by
  unfold usedS at h
  rw [Bool.or_eq_false_iff] at h
  unfold servedS
  rw [List.mem_append]
  rintro (e | e)
  · exact of_decide_eq_false h.1 e
  · obtain ⟨m, h1, h2⟩ := List.mem_map.1 e
    have := List.any_eq_false.1 h.2 m h1
    simp [h2] at this
theorem usedS_true {s : Srv} {z : Int} (h : z ∈ servedS s) : usedS s z = true := by
  cases hu : usedS s z with
  | true => rfl
  | false => exact absurd h (usedS_false hu)
theorem usedA_false {cs : List Srv} {f : Nat} {z : Int} (h : usedA cs f z = false) : 3 * (f : Int) + 1 < z ∧ ¬ z ∈ servedA cs := by
  unfold usedA at h
  rw [Bool.or_eq_false_iff] at h
  refine ⟨by have := of_decide_eq_false h.1; omega, fun e => ?_⟩
  unfold servedA at e
  obtain ⟨l, h1, h2⟩ := List.mem_flatten.1 e
  obtain ⟨s, h3, rfl⟩ := List.mem_map.1 h1
  have := List.any_eq_false.1 h.2 s h3
  exact this (usedS_true h2)
theorem served_in {cs : List Srv} {s : Srv} {z : Int} (hs : s ∈ cs) (hz : z ∈ servedS s) : z ∈ servedA cs := List.mem_flatten.2 ⟨_, List.mem_map.2 ⟨s, hs, rfl⟩, hz⟩
theorem now_served {s : Srv} {z : Int} (h : z ∈ s.now) : z ∈ servedS s := by
  unfold servedS
  rw [List.mem_append]
  rcases nowL_mem h with h | ⟨m, h1, h2⟩
  · exact .inl h
  · exact .inr (List.mem_map.2 ⟨m, h1, h2⟩)
theorem mem_set_of {α : Type} {l : List α} {i : Nat} {a x : α} (h : x ∈ l.set i a) : x = a ∨ x ∈ l := by
  obtain ⟨k, hk, rfl⟩ := List.mem_iff_getElem.1 h
  rw [List.getElem_set]
  split
  · exact .inl rfl
  · exact .inr (List.getElem_mem _)
theorem may_move {x : Wish} (h : inQ x = true) : 31 ≤ x.client ∧ x.client ≤ 34 ∧ 1 ≤ x.stamp ∧ x.stamp ≤ 9007199254740991 ∧ 1 ≤ x.block ∧ x.block ≤ 2 ∧ (x.kind = 3 ∨ (x.kind = 4 ∧ 1 ≤ x.old ∧ x.old ≤ 28 ∧ 1 ≤ x.new ∧ x.new ≤ 28 ∧ x.old ≠ x.new)) := by
  unfold inQ at h
  rw [Bool.and_eq_true] at h
  have h2 := of_decide_eq_true h.2
  have h1 := of_decide_eq_true h.1
  obtain ⟨_, _, h1⟩ := h1
  rcases h1 with h1 | h1
  · omega
  · obtain ⟨_, c1, c2, s1, s2, _, h1⟩ := h1
    rcases h1 with h1 | h1
    · omega
    · obtain ⟨hk, _, _, b1, b2, _⟩ := h1
      refine ⟨c1, c2, s1, s2, b1, b2, ?_⟩
      rcases hk with hk | hk
      · exact .inl hk.1
      · exact .inr hk
theorem errA_ok {e n : Nat} (he : e = 0 ∨ e = 5 ∨ e = 180) (hn : n ≤ 21) : AnsOk (errA e n) := ⟨he, rfl, hn, .inl rfl⟩
/-- what is left of an atlas but the answers -/
structure COk (cs : List Srv) : Prop where
  one : 1 ≤ cs.length ∧ cs.length ≤ 2
  srv : ∀ s, s ∈ cs → SOk s
  same : ∃ f, ∀ s, s ∈ cs → s.f = f
  apart : (servedA cs).Nodup
  high : ∀ s, s ∈ cs → ∀ x, x ∈ servedS s → 3 * (s.f : Int) + 1 < x
theorem AOk.cok {m : AM} (h : AOk m) : COk m.chunks := ⟨h.one, h.srv, h.same, h.apart, h.high⟩
/-- a replacement that may be -/
theorem COk.moved {cs : List Srv} {i : Nat} {s : Srv} {o n : Int} (h : COk cs) (hs : cs[i]? = some s) (ho : o ∈ s.now) (hn : usedA cs s.f n = false) (h1 : 1 ≤ n) (h2 : n ≤ 28) (hl : s.moves.length ≤ 20) : COk (cs.set i (movedS s o n)) := by
  have hm := List.mem_of_getElem? hs
  have hk := h.srv s hm
  have hu := usedA_false hn
  refine ⟨by rw [List.length_set]; exact h.one, fun q hq => ?_, ?_, ?_, fun q hq => ?_⟩
  · rcases mem_set_of hq with rfl | hq
    · exact ⟨hk.crew, by show (s.moves ++ [(o, n)]).length ≤ 21; simp; omega, MovesOk.app hk.mv ho (fun e => hu.2 (served_in hm (now_served e))) h1 h2⟩
    · exact h.srv q hq
  · obtain ⟨f, hf⟩ := h.same
    refine ⟨f, fun q hq => ?_⟩
    rcases mem_set_of hq with rfl | hq
    · exact hf s hm
    · exact hf q hq
  · exact ((servedA_set cs i s o n hs).nodup_iff).2 (List.nodup_cons.2 ⟨hu.2, h.apart⟩)
  · rcases mem_set_of hq with rfl | hq
    · intro x hx
      rw [servedS_moved, List.mem_append, List.mem_singleton] at hx
      show 3 * (s.f : Int) + 1 < x
      rcases hx with hx | rfl
      · exact h.high s hm x hx
      · exact hu.1
    · exact h.high q hq
theorem COk.answered {m : AM} (h : COk m.chunks) {x : Wish} (hx : inQ x = true) : COk (answerQ m x).1.chunks ∧ (answerQ m x).1.last = m.last ∧ AnsOk (answerQ m x).2 := by
  obtain ⟨c1, c2, s1, s2, b1, b2, hk⟩ := may_move hx
  unfold answerQ
  cases hs : m.chunks[(x.block - 1).toNat]? with
  | none => exact ⟨h, rfl, errA_ok (.inr (.inr rfl)) (by omega)⟩
  | some s =>
    have hsk := h.srv s (List.mem_of_getElem? hs)
    have hl := hsk.len
    simp only
    split
    · exact ⟨h, rfl, ⟨.inl rfl, rfl, hl, .inr hsk.now_ok.crew⟩⟩
    · rename_i hk3
      split
      · exact ⟨h, rfl, errA_ok (.inr (.inr rfl)) (by omega)⟩
      · split
        · exact ⟨h, rfl, errA_ok (.inr (.inr rfl)) hl⟩
        · rename_i hu
          split
          · exact ⟨h, rfl, errA_ok (.inr (.inl rfl)) (by omega)⟩
          · rename_i h22
            have hu' : x.old ∈ s.now ∧ usedA m.chunks s.f x.new = false := by
              refine ⟨Decidable.byContradiction fun e => hu (.inl e), ?_⟩
              cases hq : usedA m.chunks s.f x.new with
              | false => rfl
              | true => exact absurd (.inr hq) hu
            have hk4 : x.kind = 4 ∧ 1 ≤ x.old ∧ x.old ≤ 28 ∧ 1 ≤ x.new ∧ x.new ≤ 28 ∧ x.old ≠ x.new := by
              rcases hk with e | e
              · exact absurd e hk3
              · exact e
            exact ⟨h.moved hs hu'.1 hu'.2 hk4.2.2.2.1 hk4.2.2.2.2.1 (by omega), rfl, errA_ok (.inl rfl) (by omega)⟩
theorem AOk.did {m : AM} (h : AOk m) {x : Wish} (hx : inQ x = true) : AOk (didQ m x) := by
  obtain ⟨c1, c2, s1, s2, b1, b2, hk⟩ := may_move hx
  have ha := h.cok.answered hx
  unfold didQ
  split
  · have hc := ha.1
    refine ⟨hc.one, hc.srv, hc.same, hc.apart, hc.high, ?_, fun y hy => ?_⟩
    · show ((answerQ m x).1.last.set _ _).length = 4
      rw [List.length_set, ha.2.1]; exact h.last
    · rcases mem_set_of hy with rfl | hy
      · exact ⟨by show x.stamp.toNat ≤ maxN; unfold maxN; omega, ha.2.2, fun e => by have : x.stamp.toNat = 0 := e; omega⟩
      · rw [ha.2.1] at hy; exact h.ans y hy
  · exact h
theorem AOk.doQ {m : AM} (h : AOk m) (x : Wish) : AOk (doQ m x).1 := by
  unfold Proofs.YtdpoedgjehofiaaGreat.doQ
  split
  · rename_i hx; exact h.did hx
  · exact h
theorem lastQ_set (m : AM) (cs : List Srv) (i : Nat) (p : Nat × Ans) (hl : m.last.length = 4) (hi : i < 4) : lastQ ⟨cs, m.last.set i p⟩ i = p := by
  unfold lastQ
  rw [List.getD_eq_getElem?_getD]
  simp only [List.getElem?_set]
  rw [if_pos trivial, if_pos (by omega)]
  rfl
/-- an atlas of first crews -/
def begunGo : List Srv → Int → List (Int × List Int) → Option (List Srv)
  | acc, _, [] => some acc
  | acc, f0, c :: t => if (0 ≤ c.1 ∧ c.1 ≤ 2 ∧ (c.2.length : Int) = 3 * c.1 + 1 ∧ risingB 0 c.2 = true) ∧ c.1 = f0 ∧ c.2.any (usedA acc c.1.toNat) = false then begunGo (acc ++ [⟨c.1.toNat, c.2, []⟩]) f0 t else none
def begunV (cs : List (Int × List Int)) : Option (List Srv) := match cs with
  | [] => none
  | c :: t => if cs.length ≤ 2 then begunGo [] c.1 cs else none
def freshQ (cs : List Srv) : AM := ⟨cs, List.replicate 4 (0, okA)⟩
def newQ (cs : List (Int × List Int)) : Option AM := (begunV cs).map freshQ
structure CPre (f0 : Int) (cs : List Srv) : Prop where
  srv : ∀ s, s ∈ cs → SOk s ∧ (s.f : Int) = f0 ∧ s.moves = []
  apart : (servedA cs).Nodup
  high : ∀ s, s ∈ cs → ∀ x, x ∈ servedS s → 3 * (s.f : Int) + 1 < x
theorem CPre.nil (f0 : Int) : CPre f0 [] := ⟨fun s hs => (by cases hs), List.nodup_nil, fun s hs => (by cases hs)⟩
theorem CPre.push {f0 : Int} {acc : List Srv} {c : Int × List Int} (h : CPre f0 acc) (h1 : 0 ≤ c.1 ∧ c.1 ≤ 2 ∧ (c.2.length : Int) = 3 * c.1 + 1 ∧ risingB 0 c.2 = true) (h2 : c.1 = f0) (h3 : c.2.any (usedA acc c.1.toNat) = false) : CPre f0 (acc ++ [⟨c.1.toNat, c.2, []⟩]) := by
  have hc : OkC c.1.toNat c.2 := ⟨by omega, by omega, h1.2.2.2⟩
  have hse : servedS ⟨c.1.toNat, c.2, []⟩ = c.2 := by unfold servedS; simp
  have hu : ∀ x, x ∈ c.2 → 3 * ((c.1.toNat : Nat) : Int) + 1 < x ∧ ¬ x ∈ servedA acc := fun x hx => by
    have := List.any_eq_false.1 h3 x hx
    exact usedA_false (by simpa using this)
  refine ⟨fun s hs => ?_, ?_, fun s hs => ?_⟩
  · rcases List.mem_append.1 hs with hs | hs
    · exact h.srv s hs
    · rw [List.mem_singleton] at hs
      subst hs
      exact ⟨⟨hc, by show 0 ≤ 21; omega, trivial⟩, by show ((c.1.toNat : Nat) : Int) = f0; omega, rfl⟩
  · unfold servedA
    rw [List.map_append, List.flatten_append]
    simp only [List.map_cons, List.map_nil, List.flatten_cons, List.flatten_nil, List.append_nil]
    rw [hse]
    refine List.nodup_append.2 ⟨h.apart, hc.pair.imp (fun {a b} e => by omega), fun a ha b hb e => ?_⟩
    subst e
    exact (hu a hb).2 ha
  · rcases List.mem_append.1 hs with hs | hs
    · exact h.high s hs
    · rw [List.mem_singleton] at hs
      subst hs
      intro x hx
      rw [hse] at hx
      exact (hu x hx).1
theorem begunGo_ok : ∀ (t : List (Int × List Int)) (acc : List Srv) (f0 : Int) (cs : List Srv), CPre f0 acc → begunGo acc f0 t = some cs → CPre f0 cs ∧ cs.length = acc.length + t.length
  | [], acc, f0, cs, h, e => by
    obtain rfl := Option.some.inj e
    exact ⟨h, by simp⟩
  | c :: t, acc, f0, cs, h, e => by
    unfold begunGo at e
    split at e
    · rename_i hc
      have := begunGo_ok t _ f0 cs (h.push hc.1 hc.2.1 hc.2.2) e
      refine ⟨this.1, ?_⟩
      rw [this.2, List.length_append]
      simp only [List.length_cons, List.length_nil]
      omega
    · cases e
theorem begunV_ok {l : List (Int × List Int)} {cs : List Srv} (h : begunV l = some cs) : COk cs ∧ (∀ s, s ∈ cs → s.moves = []) ∧ cs.length = l.length := by
  unfold begunV at h
  split at h
  · cases h
  · rename_i c t
    split at h
    · rename_i hl
      have := begunGo_ok _ _ _ _ (CPre.nil c.1) h
      have hlen : cs.length = (c :: t).length := by rw [this.2]; simp
      have hsrv := this.1.srv
      refine ⟨⟨⟨by rw [hlen]; simp, by omega⟩, fun s hs => (hsrv s hs).1, ?_, this.1.apart, this.1.high⟩, fun s hs => (hsrv s hs).2.2, hlen⟩
      exact ⟨c.1.toNat, fun s hs => by have := (hsrv s hs).2.1; omega⟩
    · cases h
theorem okA_ok : AnsOk okA := ⟨.inl rfl, rfl, by show (0 : Nat) ≤ 21; omega, .inl rfl⟩
theorem freshQ_ok {cs : List Srv} (h : COk cs) : AOk (freshQ cs) := by
  refine ⟨h.one, h.srv, h.same, h.apart, h.high, by simp [freshQ], fun x hx => ?_⟩
  have := List.eq_of_mem_replicate hx
  rw [this]
  exact ⟨Nat.zero_le _, okA_ok, fun _ => rfl⟩
theorem newQ_ok {l : List (Int × List Int)} {m : AM} (h : newQ l = some m) : AOk m := by
  unfold newQ at h
  cases hb : begunV l with
  | none => rw [hb] at h; cases h
  | some cs =>
    rw [hb] at h
    rw [← Option.some.inj h]
    exact freshQ_ok (begunV_ok hb).1

end Go.Proofs.YtdpoedgjehofiaaGreat

/- Contracts of the reader: num, str, many, end. -/
namespace Go.Proofs.YtdpoedgjehofiaaGreat
set_option linter.unusedVariables false
open Go.RowKit

/-- bytes that are left, the error's number -/
abbrev RdS := List UInt8 × Nat
def rdN (s : RdS) : Nat × RdS := if s.2 = 0 then ((tn s.1).1, ((tn s.1).2.1, (tn s.1).2.2)) else (0, s)
def rdT (s : RdS) (most : Nat) : List UInt8 × RdS := if s.2 = 0 then ((ts s.1 most).1, ((ts s.1 most).2.1, (ts s.1 most).2.2)) else ([], s)
def rdM (s : RdS) (most : Nat) : Nat × RdS :=
  if (rdN s).2.2 = 0 then (if most < (rdN s).1 then (0, ((rdN s).2.1, 5)) else ((rdN s).1, (rdN s).2)) else (0, (rdN s).2)
def rdE (s : RdS) : Nat := if s.2 = 0 ∧ 0 < s.1.length then 4 else s.2

/-- of what was there, block g alone may have turned -/
structure OnlyAt (g : Nat) (w w' : World) : Prop where
  os : w'.os = w.os
  tape : w'.tape = w.tape
  output : w'.output = w.output
  size : w.heap.size ≤ w'.heap.size
  block : ∀ i, i < w.heap.size → i ≠ g → w'.heap[i]? = w.heap[i]?
theorem OnlyAt.refl (g : Nat) (w : World) : OnlyAt g w w := ⟨rfl, rfl, rfl, Nat.le_refl _, fun _ _ _ => rfl⟩
theorem OnlyAt.of_below {g : Nat} {w w' : World} (h : Below w.heap.size w w') : OnlyAt g w w' := ⟨h.os, h.tape, h.output, h.size, fun i hi _ => h.block i hi⟩
theorem OnlyAt.trans {g : Nat} {a b c : World} (h : OnlyAt g a b) (k : OnlyAt g b c) : OnlyAt g a c :=
  ⟨k.os.trans h.os, k.tape.trans h.tape, k.output.trans h.output, Nat.le_trans h.size k.size, fun i hi hn => (k.block i (Nat.lt_of_lt_of_le hi h.size) hn).trans (h.block i hi hn)⟩
theorem OnlyAt.set {g : Nat} {a b : World} (h : OnlyAt g a b) (i : Nat) (u : Value) : OnlyAt g a (b.setCell ⟨g, i, none⟩ u) :=
  ⟨h.os, h.tape, h.output, by simpa [World.setCell] using h.size, fun j hj h1 => (Below.heap_setCell b ⟨g, i, none⟩ u j h1).trans (h.block j hj h1)⟩
theorem OnlyAt.below {g : Nat} {w0 w w' : World} {B : Nat} (h : OnlyAt g w w') (hb : Below B w0 w) (hB : B ≤ w.heap.size) (hg : B ≤ g) : Below B w0 w' :=
  hb.trans ⟨h.os, h.tape, h.output, h.size, fun i hi => h.block i (by omega) (by omega)⟩

def rdCells (A : Option Addr) (n c e : Nat) : Array Value := #[.slice A n c, .int .i64 (e : Int)]
theorem rdN_err (s : RdS) (h : s.2 < 10) : (rdN s).2.2 < 10 := by
  unfold rdN
  split
  · exact tn_err _
  · exact h

theorem rdT_err (s : RdS) (most : Nat) (h : s.2 < 10) : (rdT s most).2.2 < 10 := by
  unfold rdT
  split
  · rw [ts_eq]
    have := tn_err s.1
    split
    · exact this
    · split
      · simp
      · split <;> simp
  · exact h
theorem ts_len (b : List UInt8) (most : Nat) : (ts b most).2.1.length ≤ b.length := by
  rw [ts_eq]
  have := tn_len b
  split
  · simp
  · split
    · simp
    · split
      · simp
      · simp; omega

end Go.Proofs.YtdpoedgjehofiaaGreat

/- Contract of wish.Parse. -/
namespace Go.Proofs.YtdpoedgjehofiaaGreat
set_option linter.unusedVariables false
open Go.RowKit

def stN (s : RdS) : Nat → RdS
  | 0 => s
  | i + 1 => (rdN (stN s i)).2
def vlN (s : RdS) (i : Nat) : Nat := (rdN (stN s i)).1
def zeroW : Wish := ⟨0, 0, 0, 0, 0, 0, [], 0, 0, []⟩
def pD (b : List UInt8) : List UInt8 × RdS := rdT (stN (b, 0) 6) 16
def pM (b : List UInt8) : Nat × RdS := rdM (stN (pD b).2 2) 7
def parseW (b : List UInt8) : Wish where
  kind := (vlN (b, 0) 0 : Int)
  client := (vlN (b, 0) 1 : Int)
  stamp := (vlN (b, 0) 2 : Int)
  group := (vlN (b, 0) 3 : Int)
  epoch := (vlN (b, 0) 4 : Int)
  block := (vlN (b, 0) 5 : Int)
  data := (pD b).1
  old := (vlN (pD b).2 0 : Int)
  new := (vlN (pD b).2 1 : Int)
  next := (List.range (pM b).1).map fun i => (vlN (pM b).2 i : Int)
def parseE (b : List UInt8) : Nat := rdE (stN (pM b).2 (pM b).1)
def parse (b : List UInt8) : Wish × Nat := if parseE b = 0 then (if mayB (parseW b) = true then (parseW b, 0) else (zeroW, 2)) else (zeroW, parseE b)

/-- the wish as it stands behind so many numbers -/
def cellsAt (f : Nat → Nat) (i : Nat) : Array Value :=
  #[.int .i64 (if 1 < i then (f 1 : Int) else 0), .int .i64 (if 2 < i then (f 2 : Int) else 0), .int .i64 (if 3 < i then (f 3 : Int) else 0), .int .i64 (if 4 < i then (f 4 : Int) else 0), .int .i64 (if 0 < i then (f 0 : Int) else 0), .int .i64 (if 5 < i then (f 5 : Int) else 0), .slice none 0 0, .int .i64 0, .int .i64 0, .slice none 0 0]
def offAt (i : Nat) : Nat := [4, 0, 1, 2, 3, 5].getD i 0
theorem cellsAt_next (f : Nat → Nat) (i : Nat) (h : i < 6) : (cellsAt f i).setIfInBounds (offAt i) (.int .i64 (f i : Int)) = cellsAt f (i + 1) := by
  match i, h with
  | 0, _ => rfl
  | 1, _ => rfl
  | 2, _ => rfl
  | 3, _ => rfl
  | 4, _ => rfl
  | 5, _ => rfl
theorem cellsAt_at (f : Nat → Nat) (i : Nat) (h : i < 6) : (cellsAt f i)[offAt i]? = some (.int .i64 0) := by
  match i, h with
  | 0, _ => rfl
  | 1, _ => rfl
  | 2, _ => rfl
  | 3, _ => rfl
  | 4, _ => rfl
  | 5, _ => rfl
def ptrsAt (g : Nat) : Array Value := #[.pointer (some ⟨g, 4, none⟩), .pointer (some ⟨g, 0, none⟩), .pointer (some ⟨g, 1, none⟩), .pointer (some ⟨g, 2, none⟩), .pointer (some ⟨g, 3, none⟩), .pointer (some ⟨g, 5, none⟩)]
def cellsW (f : Nat → Nat) (dv : Value) (o nw : Nat) (nv : Value) : Array Value :=
  #[.int .i64 (f 1 : Int), .int .i64 (f 2 : Int), .int .i64 (f 3 : Int), .int .i64 (f 4 : Int), .int .i64 (f 0 : Int), .int .i64 (f 5 : Int), dv, .int .i64 (o : Int), .int .i64 (nw : Int), nv]
theorem ptrsAt_at (g i : Nat) (h : i < 6) : (ptrsAt g)[i]? = some (.pointer (some ⟨g, offAt i, none⟩)) := by
  match i, h with
  | 0, _ => rfl
  | 1, _ => rfl
  | 2, _ => rfl
  | 3, _ => rfl
  | 4, _ => rfl
  | 5, _ => rfl

theorem four_new (w : World) (a b c d : Obj) : ((((w.alloc a).alloc b).alloc c).alloc d).heap[w.heap.size]? = some a ∧ ((((w.alloc a).alloc b).alloc c).alloc d).heap[w.heap.size + 1]? = some b ∧ ((((w.alloc a).alloc b).alloc c).alloc d).heap[w.heap.size + 1 + 1]? = some c ∧
    ((((w.alloc a).alloc b).alloc c).alloc d).heap[w.heap.size + 1 + 1 + 1]? = some d ∧ ((((w.alloc a).alloc b).alloc c).alloc d).heap.size = w.heap.size + 4 ∧ Below w.heap.size w ((((w.alloc a).alloc b).alloc c).alloc d) := by
  have h1 : (w.alloc a).heap.size = w.heap.size + 1 := by simp
  have h2 : ((w.alloc a).alloc b).heap.size = w.heap.size + 1 + 1 := by simp
  have h3 : (((w.alloc a).alloc b).alloc c).heap.size = w.heap.size + 1 + 1 + 1 := by simp
  refine ⟨?_, ?_, ?_, ?_, by simp, ((((Below.refl _ w).alloc (Nat.le_refl _) a).alloc (by omega) b).alloc (by omega) c).alloc (by omega) d⟩
  · rw [Below.heap_alloc _ d _ (by omega), Below.heap_alloc _ c _ (by omega), Below.heap_alloc _ b _ (by omega)]; exact heap_alloc_new w a
  · rw [Below.heap_alloc _ d _ (by omega), Below.heap_alloc _ c _ (by omega), ← h1]; exact heap_alloc_new _ b
  · rw [Below.heap_alloc _ d _ (by omega), ← h2]; exact heap_alloc_new _ c
  · rw [← h3]; exact heap_alloc_new _ d
theorem OnlyAt.of_set {g : Nat} (w : World) (i : Nat) (u : Value) : OnlyAt g w (w.setCell ⟨g, i, none⟩ u) := (OnlyAt.refl g w).set i u
theorem Blk.only {w w' : World} {g k : Nat} {t : TypeId} {cs : Array Value} (h : Blk w g t cs) (ho : OnlyAt k w w') (hne : g ≠ k) : Blk w' g t cs := (ho.block g h.lt hne).trans h
theorem rdM_le (s : RdS) (most : Nat) : (rdM s most).1 ≤ most := by
  unfold rdM
  split
  · split
    · simp
    · show (rdN s).1 ≤ most; omega
  · simp
def OwnN (w : World) (base : Nat) (v : Value) (zs : List Int) : Prop := w.ownsRow base 3 1 v zs.length (zs.map vn)
theorem own_shape {w : World} {base : Nat} {v : Value} {zs : List Int} (h : OwnN w base v zs) : ∃ A c, v = .slice A zs.length c := by
  rcases h.2 with ⟨rfl, h0⟩ | ⟨g, cap, cur, rfl, _⟩
  · exact ⟨none, 0, by rw [h0]⟩
  · exact ⟨_, cap, rfl⟩
theorem own_lt {w : World} {base b : Nat} {v : Value} {zs : List Int} (h : OwnN w base v zs) (hb : v.ownBlock = some b) : b < w.heap.size := by
  rcases h.2 with ⟨rfl, _⟩ | ⟨g, cap, cur, rfl, hg, hh, _⟩
  · simp [Value.ownBlock] at hb
  · simp [Value.ownBlock] at hb; subst hb
    rcases Nat.lt_or_ge g w.heap.size with h | h
    · exact h
    · rw [Array.getElem?_eq_none h] at hh; cases hh
theorem own_ge {w : World} {base b : Nat} {v : Value} {zs : List Int} (h : OwnN w base v zs) (hb : v.ownBlock = some b) : base ≤ b := by
  rcases h.2 with ⟨rfl, _⟩ | ⟨g, cap, cur, rfl, hg, hh, _⟩
  · simp [Value.ownBlock] at hb
  · simp [Value.ownBlock] at hb; omega
theorem own_keep {w w' : World} {base : Nat} {v : Value} {zs : List Int} (h : OwnN w base v zs) (hk : ∀ b, v.ownBlock = some b → w'.heap[b]? = w.heap[b]?) : OwnN w' base v zs := by
  refine ⟨h.1, ?_⟩
  rcases h.2 with h0 | ⟨g, cap, cur, rfl, hg, hh, h1⟩
  · exact .inl h0
  · exact .inr ⟨g, cap, cur, rfl, hg, (hk g rfl).trans hh, h1⟩
theorem own_later {w w' : World} {base : Nat} {v : Value} {zs : List Int} {A : Option Addr} {n c : Nat} {o : Obj} (h : OwnN w base v zs) (hv : v = .slice A n c) (hl : zs.length = n) (hk : ∀ b, v.ownBlock = some b → w'.heap[b]? = w.heap[b]?) (hs : w.heap.size ≤ w'.heap.size) (hlt : ∀ b, v.ownBlock = some b → b < w.heap.size) :
    (w'.alloc o).ownsRow base 3 1 (.slice A n c) n (zs.map vn) := by
  subst hv
  subst hl
  exact own_keep h fun b hb => (Below.heap_alloc w' o b (by have := hlt b hb; omega)).trans (hk b hb)
theorem own_shape' {w : World} {B : Nat} {e : TypeId} {s n : Nat} {v : Value} {vs : List Value} (h : w.ownsRow B e s v n vs) : ∃ A c, v = .slice A n c := by
  rcases h.2 with ⟨rfl, h0⟩ | ⟨g, cap, cur, rfl, _⟩
  · exact ⟨none, 0, by rw [h0]⟩
  · exact ⟨_, cap, rfl⟩
structure PFar (w0 : World) (gr gw g2 B2 : Nat) (dv : Value) : Prop where
  r : gr < B2
  w : gw < B2
  z : g2 < B2
  d : ∀ b, dv.ownBlock = some b → b < B2
  o : w0.heap.size ≤ B2
  wo : w0.heap.size ≤ gw

theorem wCells_one (x : Wish) (A : Option Addr) (n c : Nat) (A' : Option Addr) (n' c' : Nat) : (wCells x A n c A' n' c').all (·.oneCell') = true := by simp [wCells, Value.oneCell']
theorem wCells_info (x : Wish) (A : Option Addr) (n c : Nat) (A' : Option Addr) (n' c' : Nat) : (Tryz.prog.info? 44).map (·.size) = some (wCells x A n c A' n' c').size := by kernel_rfl
theorem wishIn_zero (w : World) (B : Nat) : WishIn w B zeroW none 0 0 none 0 0 :=
  ⟨Reads.none_, Nat.le_refl _, by omega, Reads.none_, Nat.le_refl _, by omega, by unfold I64 zeroW; simp⟩
theorem wishIn_own {w : World} {B1 B2 : Nat} {x : Wish} {A1 A2 : Option Addr} {n1 c1 n2 c2 : Nat} (h1 : OwnB w B1 (.slice A1 n1 c1) x.data) (h2 : OwnN w B2 (.slice A2 n2 c2) x.next) (hl : x.data.length ≤ 140737488355328 ∧ x.next.length ≤ 7)
    (hr : I64 x.client ∧ I64 x.stamp ∧ I64 x.group ∧ I64 x.epoch ∧ I64 x.kind ∧ I64 x.block ∧ I64 x.old ∧ I64 x.new ∧ ∀ z, z ∈ x.next → I64 z) : WishIn w w.heap.size x A1 n1 c1 A2 n2 c2 := by
  obtain ⟨e1, h3, h4, h5, _⟩ := h1.reads
  have hn2 : n2 = x.next.length := by
    obtain ⟨A, c, e⟩ := own_shape h2
    injection e
  have hc2 : n2 ≤ c2 := by
    rcases h2.2 with ⟨e, h0⟩ | ⟨g, cap, cur, e, _, _, h6, _⟩
    · injection e with _ e1 e2; omega
    · injection e with _ e1 e2; omega
  refine ⟨h5, h3, by omega, ?_, hc2, by omega, hr⟩
  subst hn2
  exact Reads.of_own h2
theorem vlN_i64 (s : RdS) (i : Nat) : I64 (vlN s i : Int) := by
  unfold I64 vlN rdN
  split
  · have := tn_num (stN s i).1
    unfold maxN at this
    show -9223372036854775808 ≤ (((tn (stN s i).1).1 : Nat) : Int) ∧ _
    omega
  · simp
theorem ts_len1 (b : List UInt8) (most : Nat) : (ts b most).1.length ≤ most := by
  rw [ts_eq]
  split
  · simp
  · split
    · simp
    · split
      · simp
      · simp; omega
theorem pD_len (b : List UInt8) : (pD b).1.length ≤ 140737488355328 := by
  unfold pD rdT
  split
  · have := ts_len1 (stN (b, 0) 6).1 16
    show (ts _ 16).1.length ≤ _
    omega
  · simp
theorem pM_le (b : List UInt8) : (pM b).1 ≤ 7 := rdM_le _ 7
section
attribute [local irreducible] pD pM vlN stN
theorem parse_cells (b : List UInt8) (f : Nat → Nat) (A1 : Option Addr) (n1 c1 : Nat) (A2 : Option Addr) (n2 c2 : Nat) (hf : f = vlN (b, 0)) :
    cellsW f (.slice A1 n1 c1) (vlN (pD b).2 0) (vlN (pD b).2 1) (.slice A2 n2 c2) = wCells (parseW b) A1 n1 c1 A2 n2 c2 := by
  subst hf
  rfl
theorem parse_data (b : List UInt8) : (parseW b).data = (pD b).1 := rfl
theorem parse_next (b : List UInt8) (i : Nat) (h : i = (pM b).1) : (parseW b).next = (List.range i).map fun j => (vlN (pM b).2 j : Int) := by subst h; rfl
theorem parse_rng (b : List UInt8) : (I64 (parseW b).client ∧ I64 (parseW b).stamp ∧ I64 (parseW b).group ∧ I64 (parseW b).epoch ∧ I64 (parseW b).kind ∧ I64 (parseW b).block ∧ I64 (parseW b).old ∧ I64 (parseW b).new ∧ ∀ z, z ∈ (parseW b).next → I64 z) ∧ ((parseW b).data.length ≤ 140737488355328 ∧ (parseW b).next.length ≤ 7) := by
  refine ⟨⟨vlN_i64 _ _, vlN_i64 _ _, vlN_i64 _ _, vlN_i64 _ _, vlN_i64 _ _, vlN_i64 _ _, vlN_i64 _ _, vlN_i64 _ _, fun z hz => ?_⟩, ?_, ?_⟩
  · rw [parse_next b _ rfl] at hz
    obtain ⟨j, _, rfl⟩ := List.mem_map.1 hz
    exact vlN_i64 _ _
  · rw [parse_data]
    exact pD_len b
  · rw [parse_next b _ rfl, List.length_map, List.length_range]
    exact pM_le b
end
theorem parse_ways (b : List UInt8) : ∀ (u : Unit), (parseE b ≠ 0 → parse b = (zeroW, parseE b)) ∧ (parseE b = 0 → mayB (parseW b) = true → parse b = (parseW b, 0)) ∧ (parseE b = 0 → mayB (parseW b) = false → parse b = (zeroW, 2)) := fun _ => by
  unfold parse
  refine ⟨fun h => by rw [if_neg h], fun h hm => by rw [if_pos h, if_pos hm], fun h hm => by rw [if_pos h, if_neg (by rw [hm]; exact Bool.false_ne_true)]⟩

end Go.Proofs.YtdpoedgjehofiaaGreat
