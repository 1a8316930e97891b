/- Parts of the proof, in one text: VoM, VoA, VoB, VoC. -/
import Derived.Test.YtfjopbbgcjgpbaaGreatZ8
import Derived.Test.YtfjopbbgcjgpbaaGreatZ14
import Derived.Deep.DeepCutAuto
import Derived.Test.YtfjopbbgcjgpbaaGreatZ17
import Derived.Test.YtfjopbbgcjgpbaaGreatZ16
import Derived.Test.YtfjopbbgcjgpbaaGreatZ15

/- What leaves and bytes say of a vault, in plain words. -/
namespace Go.Proofs.YtfjopbbgcjgpbaaGreat
set_option linter.unusedVariables false

/-- all numbers that bytes say -/
def numsGo : Nat → List UInt8 → Option (List Nat)
  | 0, b => if b = [] then some [] else none
  | f + 1, b => if b = [] then some [] else if (tn b).2.2 ≠ 0 then none else (numsGo f (tn b).2.1).map (fun l => (tn b).1 :: l)
def numsV (b : List UInt8) : Option (List Nat) := numsGo b.length b
theorem tn_shrink {b : List UInt8} (h : (tn b).2.2 = 0) : (tn b).2.1.length + 1 ≤ b.length := by
  unfold tn at h ⊢
  cases hb : takeN b with
  | error e =>
    rw [hb] at h
    simp only at h
    subst h
    exfalso
    unfold takeN at hb
    match b, hb with
    | [], hb => injection hb with hb; omega
    | m :: r, hb =>
      simp only at hb
      split at hb
      · injection hb with hb; omega
      · split at hb
        · injection hb with hb; omega
        · split at hb
          · injection hb with hb; omega
          · split at hb
            · injection hb with hb; omega
            · cases hb
  | ok p =>
    have h1 := takeN_back (n := p.1) (r := p.2) hb
    have h2 := congrArg List.length h1.1
    rw [List.length_append] at h2
    have := (numB_len h1.2).1
    show p.2.length + 1 ≤ _
    omega
theorem numsGo_more : ∀ (f g : Nat) (b : List UInt8), b.length ≤ f → b.length ≤ g → numsGo f b = numsGo g b
  | 0, 0, b, _, _ => rfl
  | 0, g + 1, b, hf, _ => by
    have : b = [] := List.eq_nil_of_length_eq_zero (by omega)
    subst this
    simp [numsGo]
  | f + 1, 0, b, _, hg => by
    have : b = [] := List.eq_nil_of_length_eq_zero (by omega)
    subst this
    simp [numsGo]
  | f + 1, g + 1, b, hf, hg => by
    simp only [numsGo]
    by_cases hb : b = []
    · rw [if_pos hb, if_pos hb]
    · rw [if_neg hb, if_neg hb]
      by_cases he : (tn b).2.2 ≠ 0
      · rw [if_pos he, if_pos he]
      · rw [if_neg he, if_neg he]
        have h1 := tn_shrink (b := b) (by omega)
        rw [numsGo_more f g _ (by omega) (by omega)]
theorem numsV_nil : numsV [] = some [] := rfl
theorem numsV_bad {b : List UInt8} (hb : b ≠ []) (he : (tn b).2.2 ≠ 0) : numsV b = none := by
  unfold numsV
  cases b with
  | nil => exact absurd rfl hb
  | cons x t => simp only [List.length_cons, numsGo, if_neg hb, if_pos he]
theorem numsV_next {b : List UInt8} (hb : b ≠ []) (he : (tn b).2.2 = 0) : numsV b = (numsV (tn b).2.1).map (fun l => (tn b).1 :: l) := by
  unfold numsV
  cases b with
  | nil => exact absurd rfl hb
  | cons x t =>
    have h1 := tn_shrink (b := x :: t) he
    simp only [List.length_cons, numsGo, if_neg hb]
    rw [if_neg (by omega), numsGo_more t.length (tn (x :: t)).2.1.length _ (by simp at h1; omega) (Nat.le_refl _)]
theorem numsV_num {n : Nat} (h : n ≤ maxN) (r : List UInt8) : numsV (numB n ++ r) = (numsV r).map (fun l => n :: l) := by
  have ht : tn (numB n ++ r) = (n, r, 0) := by unfold tn; rw [takeN_num h]
  have hl := (numB_len h).1
  rw [numsV_next (by intro e; have := congrArg List.length e; rw [List.length_append, List.length_nil] at this; omega) (by rw [ht]), ht]
theorem numsV_ints : ∀ (l : List Int), (∀ z, z ∈ l → NumI z) → numsV (numsI l) = some (l.map (·.toNat))
  | [], _ => rfl
  | z :: t, h => by
    rw [numsI_cons', numsV_num (by have := h z (List.mem_cons_self ..); unfold NumI at this; unfold maxN; omega), numsV_ints t fun x hx => h x (List.mem_cons_of_mem _ hx)]
    rfl
where numsI_cons' {z : Int} {t : List Int} : numsI (z :: t) = numB z.toNat ++ numsI t := rfl

/-- what a client's leaf says -/
def clientOf (b : List UInt8) : Option (Nat × List UInt8) :=
  if (tn b).2.2 ≠ 0 then none
  else if (ts (tn b).2.1 16).2.2 ≠ 0 ∨ 0 < (ts (tn b).2.1 16).2.1.length ∨ (0 < (ts (tn b).2.1 16).1.length ∧ ((ts (tn b).2.1 16).1.length ≠ 16 ∨ (tn b).1 = 0)) then none
  else some ((tn b).1, (ts (tn b).2.1 16).1)
/-- what the last leaf says: group, epoch, the seal's nodes -/
def goodSeal (l : List Nat) : Prop := 3 ≤ l.length ∧ 1 ≤ l.getD 0 0 ∧ l.getD 0 0 ≤ 2 ∧ l.getD 1 0 ≤ 1048576 ∧ l.getD 2 0 + 3 = l.length ∧ ¬ (l.getD 1 0 = 1048576 ∧ 0 < l.getD 2 0) ∧ (l.length = 3 ∨ crewB ((l.drop 3).map (fun n : Nat => (n : Int))) = true)
instance (l : List Nat) : Decidable (goodSeal l) := by unfold goodSeal; infer_instance
def sealOf (b : List UInt8) : Option (List Nat) := match numsV b with
  | none => none
  | some l => if goodSeal l then some l else none
def openM (ls : List (List UInt8)) (l : List Nat) : VM := ⟨l.getD 0 0, l.getD 1 0, ls.take 8, (List.range 4).map (fun i => (clientOf (ls.getD (8 + i) [])).getD (0, [])), (l.drop 3).map (fun n : Nat => (n : Int))⟩
def openV (ls : List (List UInt8)) : Option VM :=
  if ls.length = 13 ∧ (∀ i, i < 8 → (ls.getD i []).length = 16) ∧ (∀ i, i < 4 → (clientOf (ls.getD (8 + i) [])).isSome = true) then
    match sealOf (ls.getD 12 []) with
    | none => none
    | some l => some (openM ls l)
  else none
theorem clientOf_ok {b : List UInt8} {p : Nat × List UInt8} (h : clientOf b = some p) : p.1 ≤ maxN ∧ (p.2 = [] ∨ p.2.length = 16 ∧ 0 < p.1) := by
  unfold clientOf at h
  split at h
  · cases h
  · split at h
    · cases h
    · rename_i h1 h2
      have := Option.some.inj h
      subst this
      refine ⟨tn_num b, ?_⟩
      rcases Nat.eq_zero_or_pos (ts (tn b).2.1 16).1.length with e | e
      · exact .inl (List.eq_nil_of_length_eq_zero e)
      · right
        show (ts (tn b).2.1 16).1.length = 16 ∧ 0 < (tn b).1
        omega
theorem clientOf_last {x : Nat × List UInt8} (h1 : x.1 ≤ maxN) (h2 : x.2 = [] ∨ x.2.length = 16 ∧ 0 < x.1) : clientOf (lastB x) = some x := by
  have hl : x.2.length ≤ 16 := by
    rcases h2 with e | e
    · rw [e]; simp
    · omega
  have ht : tn (lastB x) = (x.1, strB x.2, 0) := by unfold tn lastB; rw [takeN_num h1]
  have hs : ts (strB x.2) 16 = (x.2, [], 0) := by
    have := takeS_str (s := x.2) (most := 16) (by omega) []
    rw [List.append_nil] at this
    unfold ts; rw [this]
  unfold clientOf
  rw [ht]
  simp only
  rw [hs]
  simp only
  rw [if_neg (by simp), if_neg (by
    rintro (e | e | e)
    · exact e rfl
    · simp at e
    · rcases h2 with h2 | h2
      · rw [h2] at e; simp at e
      · omega)]
theorem sealOf_leaf {m : VM} (h : VOk m) : sealOf (sealB m) = some (m.group :: m.epoch :: m.shut.length :: m.shut.map (·.toNat)) := by
  have hs := h.sealNum
  have hg : m.group ≤ maxN := by have := h.group; unfold maxN; omega
  have he : m.epoch ≤ maxN := by have := h.epoch; unfold maxN; omega
  have hn : m.shut.length ≤ maxN := by unfold maxN; omega
  have hv : numsV (sealB m) = some (m.group :: m.epoch :: m.shut.length :: m.shut.map (·.toNat)) := by
    unfold sealB
    rw [List.append_assoc, List.append_assoc, numsV_num hg, numsV_num he, numsV_num hn, numsV_ints m.shut hs.1]
    rfl
  unfold sealOf
  rw [hv]
  simp only
  rw [if_pos]
  have hb : (m.shut.map (·.toNat)).map (fun n : Nat => (n : Int)) = m.shut := by
    rw [List.map_map]
    conv => rhs; rw [← List.map_id m.shut]
    refine List.map_congr_left fun z hz => ?_
    have := hs.1 z hz
    unfold NumI at this
    show ((z.toNat : Nat) : Int) = z
    omega
  unfold goodSeal
  have hgr := h.group
  have hep := h.epoch
  refine ⟨by simp, hgr.1, hgr.2, hep, by simp, ?_, ?_⟩
  · rintro ⟨e1, e2⟩
    have e1' : m.epoch = 1048576 := e1
    have e2' : 0 < m.shut.length := e2
    rcases h.shut with e | ⟨_, e⟩
    · rw [e] at e2'; simp at e2'
    · omega
  · rcases h.shut with e | ⟨e, _⟩
    · left; simp [e]
    · right
      show crewB ((m.shut.map (·.toNat)).map (fun n : Nat => (n : Int))) = true
      rw [hb]; exact e
theorem openM_ok {ls : List (List UInt8)} {l : List Nat} (h : ls.length = 13) (hb : ∀ i, i < 8 → (ls.getD i []).length = 16) (hc : ∀ i, i < 4 → (clientOf (ls.getD (8 + i) [])).isSome = true) (hs : goodSeal l) : VOk (openM ls l) := by
  obtain ⟨h1, h2, h3, h4, h5, h6, h7⟩ := hs
  refine ⟨⟨h2, h3⟩, h4, by show (ls.take 8).length = 8; rw [List.length_take]; omega, ?_, by simp [openM], ?_, ?_⟩
  · intro b hb'
    obtain ⟨i, hi, rfl⟩ := List.mem_iff_getElem.1 hb'
    have hi' : i < 8 := by simp [openM] at hi; omega
    have := hb i hi'
    rw [List.getD_eq_getElem?_getD, List.getElem?_eq_getElem (by omega)] at this
    simpa [openM] using this
  · intro x hx
    obtain ⟨i, hi, rfl⟩ := List.mem_map.1 hx
    have hi' : i < 4 := by simpa using hi
    have := hc i hi'
    cases hp : clientOf (ls.getD (8 + i) []) with
    | none => rw [hp] at this; cases this
    | some p => exact clientOf_ok hp
  · show (l.drop 3).map (fun n : Nat => (n : Int)) = [] ∨ (crewB ((l.drop 3).map (fun n : Nat => (n : Int))) = true ∧ l.getD 1 0 < 1048576)
    rcases h7 with h7 | h7
    · left
      have : l.drop 3 = [] := List.drop_eq_nil_of_le (by omega)
      rw [this]; rfl
    · right
      refine ⟨h7, ?_⟩
      have hp := crewB_pos h7
      rw [List.length_map, List.length_drop] at hp
      omega
theorem openV_ok {ls : List (List UInt8)} {m : VM} (h : openV ls = some m) : VOk m := by
  unfold openV at h
  split at h
  · rename_i hc
    unfold sealOf at h
    cases hn : numsV (ls.getD 12 []) with
    | none => rw [hn] at h; cases h
    | some l =>
      rw [hn] at h
      simp only at h
      by_cases hg : goodSeal l
      · rw [if_pos hg] at h
        simp only at h
        rw [← Option.some.inj h]
        exact openM_ok hc.1 hc.2.1 hc.2.2 hg
      · rw [if_neg hg] at h; cases h
  · cases h
theorem leavesV_getD (m : VM) (i : Nat) (h : i < 13) : (leavesV m).getD i [] = leafV m i := by
  rw [List.getD_eq_getElem?_getD, leavesV_get m i h]; rfl
/-- the leaves of a vault open it -/
theorem openV_leaves {m : VM} (h : VOk m) : openV (leavesV m) = some m := by
  have hcl : ∀ i, i < 4 → clientOf ((leavesV m).getD (8 + i) []) = some (lastV m i) := fun i hi => by
    rw [leavesV_getD m _ (by omega)]
    unfold leafV
    rw [if_neg (by omega), if_pos (by omega), show 8 + i - 8 = i by omega]
    have := h.lst hi
    exact clientOf_last this.1 this.2
  unfold openV
  rw [if_pos ⟨leavesV_len m, fun i hi => by rw [leavesV_getD m i (by omega)]; unfold leafV; rw [if_pos hi]; exact h.blk hi, fun i hi => by rw [hcl i hi]; rfl⟩]
  have h12 : (leavesV m).getD 12 [] = sealB m := by rw [leavesV_getD m 12 (by omega)]; rfl
  rw [h12, sealOf_leaf h]
  simp only
  congr 1
  have hb : (m.shut.map (·.toNat)).map (fun n : Nat => (n : Int)) = m.shut := by
    rw [List.map_map]
    conv => rhs; rw [← List.map_id m.shut]
    refine List.map_congr_left fun z hz => ?_
    have := h.sealNum.1 z hz
    unfold NumI at this
    show ((z.toNat : Nat) : Int) = z
    omega
  obtain ⟨q, e, bl, la, s⟩ := m
  unfold openM
  have h1 : (leavesV ⟨q, e, bl, la, s⟩).take 8 = bl := by
    apply List.ext_getElem?
    intro i
    rw [List.getElem?_take]
    have hl : bl.length = 8 := h.blocks
    by_cases hi : i < 8
    · rw [if_pos hi, leavesV_get _ i (by omega)]
      unfold leafV blockV
      rw [if_pos hi]
      show some (bl.getD i []) = bl[i]?
      rw [List.getD_eq_getElem?_getD, List.getElem?_eq_getElem (by omega)]
      rfl
    · rw [if_neg hi, List.getElem?_eq_none (by omega)]
  have h2 : (List.range 4).map (fun i => (clientOf ((leavesV ⟨q, e, bl, la, s⟩).getD (8 + i) [])).getD (0, [])) = la := by
    apply List.ext_getElem?
    intro i
    have hl : la.length = 4 := h.last
    rw [List.getElem?_map]
    by_cases hi : i < 4
    · rw [List.getElem?_range hi]
      simp only [Option.map_some]
      rw [hcl i hi]
      show some (la.getD i (0, [])) = la[i]?
      rw [List.getD_eq_getElem?_getD, List.getElem?_eq_getElem (by omega)]
      rfl
    · rw [List.getElem?_eq_none (by simpa using hi), List.getElem?_eq_none (by omega)]
      rfl
  rw [h1, h2]
  congr 1

/-- the leaves that bytes say, with the error's number -/
def loadGo : Nat → List UInt8 → List (List UInt8) → List (List UInt8) × List UInt8 × Nat
  | 0, b, acc => (acc, b, 0)
  | f + 1, b, acc => if (ts b 128).2.2 ≠ 0 then (acc, b, (ts b 128).2.2) else loadGo f (ts b 128).2.1 (acc ++ [(ts b 128).1])
def loadV (b : List UInt8) : Option VM × Nat :=
  let r := loadGo 13 b []
  if r.2.2 ≠ 0 then (none, r.2.2) else if 0 < r.2.1.length then (none, 4) else match openV r.1 with
    | none => (none, 2)
    | some m => (some m, 0)
def bytesV (m : VM) : List UInt8 := ((leavesV m).map strB).flatten
theorem ts_str {s : List UInt8} (h : s.length ≤ 128) (r : List UInt8) : ts (strB s ++ r) 128 = (s, r, 0) := by
  unfold ts
  rw [takeS_str (by omega)]
theorem loadGo_of : ∀ (ls : List (List UInt8)) (acc : List (List UInt8)), (∀ x, x ∈ ls → x.length ≤ 128) → loadGo ls.length (ls.map strB).flatten acc = (acc ++ ls, [], 0)
  | [], acc, _ => by simp [loadGo]
  | x :: t, acc, h => by
    rw [List.map_cons, List.flatten_cons, List.length_cons]
    unfold loadGo
    have hx := ts_str (h x (List.mem_cons_self ..)) (t.map strB).flatten
    rw [hx]
    simp only
    rw [if_neg (by simp), loadGo_of t _ fun y hy => h y (List.mem_cons_of_mem _ hy), List.append_assoc]
    rfl
theorem loadV_bytes {m : VM} (h : VOk m) : loadV (bytesV m) = (some m, 0) := by
  have hg := loadGo_of (leavesV m) [] fun x hx => by
    obtain ⟨i, _, rfl⟩ := List.mem_map.1 hx
    have := leafV_len h i
    omega
  rw [leavesV_len, List.nil_append] at hg
  unfold loadV bytesV
  rw [hg]
  simp only
  rw [if_neg (by simp), if_neg (by simp), openV_leaves h]

end Go.Proofs.YtfjopbbgcjgpbaaGreat

/- Contract of vault.client: what a leaf says of a client. -/
namespace Go.Proofs.YtfjopbbgcjgpbaaGreat
set_option linter.unusedVariables false
open Go.RowKit Go.Maps

attribute [local irreducible] wpList wpCalm
/-- a client's last wish, as a value -/
def LastVal (w : World) (B : Nat) (D : Array Value) (p : Nat × List UInt8) : Prop := ∃ A c, D = #[.int .i64 (p.1 : Int), .slice A p.2.length c] ∧ OwnB w B (.slice A p.2.length c) p.2
def ClientPost (w : World) (o : Option (Nat × List UInt8)) (e : Ending) (w' : World) : Prop := ∃ D, e = .returned (.tuple #[.agg D, .bool o.isSome]) ∧ LastVal w' w.heap.size D (o.getD (0, [])) ∧ Below w.heap.size w w'
def zLast : Array Value := #[.int .i64 0, .slice none 0 0]
theorem zLast_spl (a b : Value) : spl zLast 0 [a, b] = #[a, b] := rfl
def clBad (k e2 : Nat) (d r2 : List UInt8) : Prop := e2 ≠ 0 ∨ 0 < r2.length ∨ (0 < d.length ∧ (d.length ≠ 16 ∨ k = 0))
instance (k e2 : Nat) (d r2 : List UInt8) : Decidable (clBad k e2 d r2) := by unfold clBad; infer_instance

set_option maxRecDepth 100000 in
set_option maxHeartbeats 4000000 in
theorem vclient_any (A : Option Addr) (n c : Nat) (xs : List UInt8) (w : World) (B : Nat) (h : Reads w B 1 A n (xs.map vb)) (hB : B ≤ w.heap.size) (hc : n ≤ c) (hcm : n ≤ 140737488355328) :
    Calls Tryz.prog 54 #[.slice A n c] w (ClientPost w (clientOf xs)) := by
  have hX := below_lit w (.cells zLast 80)
  have hk0 : Blk (w.alloc (.cells zLast 80)) w.heap.size 80 zLast := Blk.newAt rfl
  have HTN := Lib.hid (takeNum_any A n c xs (w.alloc (.cells zLast 80)) B (h.below (hX.mono hB)) (by have := hX.size; omega) hc hcm)
  have hxn : xs.length = n := by have := h.1; simpa using this
  have hZ : zLast = #[.int .i64 0, .slice none 0 0] := rfl
  obtain ⟨o, ho⟩ : ∃ o, o = clientOf xs := ⟨_, rfl⟩
  have hoe : o = if (tn xs).2.2 ≠ 0 then none else if (ts (tn xs).2.1 16).2.2 ≠ 0 ∨ 0 < (ts (tn xs).2.1 16).2.1.length ∨ (0 < (ts (tn xs).2.1 16).1.length ∧ ((ts (tn xs).2.1 16).1.length ≠ 16 ∨ (tn xs).1 = 0)) then none else some ((tn xs).1, (ts (tn xs).2.1 16).1) := ho
  rw [← ho]
  have htl := tn_len xs
  have htm := tn_num xs
  obtain ⟨p, hp⟩ : ∃ p, p = tn xs := ⟨_, rfl⟩
  rw [← hp] at HTN hoe htl htm
  obtain ⟨k, r, e⟩ := p
  simp only at HTN hoe htl htm
  obtain ⟨q, hq⟩ : ∃ q, q = ts r 16 := ⟨_, rfl⟩
  rw [← hq] at hoe
  have HQ := Lib.hid hq
  have HOE := Lib.hid hoe
  have HX := Lib.hid hX
  have HK := Lib.hid hk0
  have HTL := Lib.hid htl
  obtain ⟨g2, hg2⟩ : ∃ g, g = w.heap.size := ⟨_, rfl⟩
  have hgw : w.heap.size ≤ g2 := by omega
  unfold maxN at htm
  clear h hX hk0 ho hoe hp hq htl
  go_enter Tryz.func54, Tryz.ntmps54
  go_upto_region 1 with fail
  rw [← hZ]
  generalize World.alloc w _ = w1 at HTN HX HK ⊢
  rw [← hg2] at HK ⊢
  have hl := HK.out.lt
  have hs1 := HX.out.size
  clear hg2 hZ
  go_wp2_with fail
  refine HTN.out.mono ?_
  rintro _ w2 ⟨v, rfl, ho, hb2⟩
  obtain ⟨A1, c1, hv, q1, q2, hr1, _⟩ := own_slice_b ho
  subst hv
  have HR1 := Lib.hid hr1
  have HK2 := Lib.hid (HK.out.below' hb2)
  have HX2 := Lib.hid (HX.out.trans (hb2.mono hs1))
  have hs2 := hb2.size
  clear ho hb2 hr1 HTN
  by_cases he : e = 0
  · have heb : ((e : Int) != 0) = false := by simp [he]
    have HTS := Lib.hid (takeStr_any A1 r.length c1 16 r w2 w2.heap.size HR1.out (Nat.le_refl _) q1 (by have := HTL.out; omega) (by omega))
    rw [← HQ.out] at HTS
    obtain ⟨d, r2, e2⟩ := q
    simp only at HTS HOE
    have HTS2 := Lib.hid (show Calls Tryz.prog 57 #[.slice A1 r.length c1, .int .i64 16] w2 _ from HTS.out)
    have hoe2 : o = if clBad k e2 d r2 then none else some (k, d) := by
      have := HOE.out
      rw [if_neg (by omega)] at this
      exact this
    have HOE2 := Lib.hid hoe2
    clear hoe2 HTS
    go_upto_region 4 with fail
    go_wp2_with fail
    refine HTS2.out.mono ?_
    rintro _ w3 ⟨v, v', rfl, hod, hor, hb3⟩
    obtain ⟨A3, c3, hv, q3, q4, hr3, hge3⟩ := own_slice_b hod
    obtain ⟨A4, c4, hv', _, _, _, _⟩ := own_slice_b hor
    subst hv hv'
    have HD3 := Lib.hid hod
    have HK3 := Lib.hid (HK2.out.below' hb3)
    have HX3 := Lib.hid (HX2.out.trans (hb3.mono (by omega)))
    have hs3 := hb3.size
    obtain ⟨dl, hdl⟩ : ∃ k, k = d.length := ⟨_, rfl⟩
    obtain ⟨rl, hrl⟩ : ∃ k, k = r2.length := ⟨_, rfl⟩
    rw [← hdl, ← hrl]
    have HDL := Lib.hid hdl
    have HRL := Lib.hid hrl
    clear hod hor hb3 hr3 HTS2 hdl hrl heb hge3
    by_cases h1 : e2 = 0
    · have h1b : ((e2 : Int) != 0) = false := by simp [h1]
      subst h1
      by_cases h2 : rl = 0
      · subst h2
        by_cases h3 : dl = 0
        · subst h3
          have ho : o = some (k, d) := by
            rw [HOE2.out, if_neg]
            unfold clBad
            rw [← HDL.out, ← HRL.out]
            omega
          subst ho
          go_wp2_with (refine wpList_store_part (o := ⟨none, _, _, _, _, _⟩) rfl 80 (.tmp 2) (.tmp 47) rfl g2 0 #[.int .i64 (k : Int), .slice A3 0 c3] rfl rfl 80 _ HK3.out (by kernel_rfl) (by simp [zLast]) (by simp [Value.oneCell']) ?_; intro w9 hT9 hD9)
          refine bodyPost_ret (results_part2 rfl _ _ g2 2 80 _ _ rfl hD9 Tryz.underlying80 rfl rfl rfl) rfl ⟨_, rfl, ⟨A3, c3, by show _ = #[Value.int .i64 (k : Int), Value.slice A3 d.length c3]; rw [← HDL.out]; exact zLast_spl _ _, ?_⟩, hT9.below HX3.out hgw⟩
          exact (HD3.out.more (by omega)).keep fun b hb => hT9.block b (fun e => by have := HD3.out.ge hb; omega)
        · have h3b : (0 : Int) < (dl : Int) := by omega
          by_cases h4 : dl = 16
          · subst h4
            by_cases h5 : k = 0
            · subst h5
              have ho : o = none := by
                rw [HOE2.out, if_pos]
                unfold clBad
                rw [← HDL.out, ← HRL.out]
                omega
              subst ho
              go_wp2_with (refine wpList_store_part (o := ⟨none, _, _, _, _, _⟩) rfl 80 (.tmp 2) (.tmp 44) rfl g2 0 zLast rfl rfl 80 _ HK3.out (by kernel_rfl) (by simp [zLast]) (by simp [zLast, Value.oneCell']) ?_; intro w9 hT9 hD9)
              refine bodyPost_ret (results_part2 rfl _ _ g2 2 80 _ _ rfl hD9 Tryz.underlying80 rfl rfl rfl) rfl ⟨_, rfl, ⟨none, 0, rfl, OwnB.nil _ _⟩, hT9.below HX3.out hgw⟩
            · have h5b : ((k : Int) == 0) = false := by simpa using h5
              have ho : o = some (k, d) := by
                rw [HOE2.out, if_neg]
                unfold clBad
                rw [← HDL.out, ← HRL.out]
                omega
              subst ho
              go_wp2_with (refine wpList_store_part (o := ⟨none, _, _, _, _, _⟩) rfl 80 (.tmp 2) (.tmp 47) rfl g2 0 #[.int .i64 (k : Int), .slice A3 16 c3] rfl rfl 80 _ HK3.out (by kernel_rfl) (by simp [zLast]) (by simp [Value.oneCell']) ?_; intro w9 hT9 hD9)
              refine bodyPost_ret (results_part2 rfl _ _ g2 2 80 _ _ rfl hD9 Tryz.underlying80 rfl rfl rfl) rfl ⟨_, rfl, ⟨A3, c3, by show _ = #[Value.int .i64 (k : Int), Value.slice A3 d.length c3]; rw [← HDL.out]; exact zLast_spl _ _, ?_⟩, hT9.below HX3.out hgw⟩
              exact (HD3.out.more (by omega)).keep fun b hb => hT9.block b (fun e => by have := HD3.out.ge hb; omega)
          · have h4b : ((dl : Int) != 16) = true := by simp; omega
            have ho : o = none := by
              rw [HOE2.out, if_pos]
              unfold clBad
              rw [← HDL.out, ← HRL.out]
              omega
            subst ho
            go_wp2_with (refine wpList_store_part (o := ⟨none, _, _, _, _, _⟩) rfl 80 (.tmp 2) (.tmp 44) rfl g2 0 zLast rfl rfl 80 _ HK3.out (by kernel_rfl) (by simp [zLast]) (by simp [zLast, Value.oneCell']) ?_; intro w9 hT9 hD9)
            refine bodyPost_ret (results_part2 rfl _ _ g2 2 80 _ _ rfl hD9 Tryz.underlying80 rfl rfl rfl) rfl ⟨_, rfl, ⟨none, 0, rfl, OwnB.nil _ _⟩, hT9.below HX3.out hgw⟩
      · have h2b : (0 : Int) < (rl : Int) := by omega
        have ho : o = none := by
          rw [HOE2.out, if_pos]
          unfold clBad
          rw [← HDL.out, ← HRL.out]
          omega
        subst ho
        go_wp2_with (refine wpList_store_part (o := ⟨none, _, _, _, _, _⟩) rfl 80 (.tmp 2) (.tmp 44) rfl g2 0 zLast rfl rfl 80 _ HK3.out (by kernel_rfl) (by simp [zLast]) (by simp [zLast, Value.oneCell']) ?_; intro w9 hT9 hD9)
        refine bodyPost_ret (results_part2 rfl _ _ g2 2 80 _ _ rfl hD9 Tryz.underlying80 rfl rfl rfl) rfl ⟨_, rfl, ⟨none, 0, rfl, OwnB.nil _ _⟩, hT9.below HX3.out hgw⟩
    · have h1b : ((e2 : Int) != 0) = true := by simpa using h1
      have ho : o = none := by
        rw [HOE2.out, if_pos]
        unfold clBad
        rw [← HDL.out, ← HRL.out]
        omega
      subst ho
      go_wp2_with (refine wpList_store_part (o := ⟨none, _, _, _, _, _⟩) rfl 80 (.tmp 2) (.tmp 44) rfl g2 0 zLast rfl rfl 80 _ HK3.out (by kernel_rfl) (by simp [zLast]) (by simp [zLast, Value.oneCell']) ?_; intro w9 hT9 hD9)
      refine bodyPost_ret (results_part2 rfl _ _ g2 2 80 _ _ rfl hD9 Tryz.underlying80 rfl rfl rfl) rfl ⟨_, rfl, ⟨none, 0, rfl, OwnB.nil _ _⟩, hT9.below HX3.out hgw⟩
  · have heb : ((e : Int) != 0) = true := by simpa using he
    have ho : o = none := by rw [HOE.out, if_pos he]
    subst ho
    go_wp2_with (refine wpList_store_part (o := ⟨none, _, _, _, _, _⟩) rfl 80 (.tmp 2) (.tmp 16) rfl g2 0 zLast rfl rfl 80 _ HK2.out (by kernel_rfl) (by simp [zLast]) (by simp [zLast, Value.oneCell']) ?_; intro w9 hT9 hD9)
    refine bodyPost_ret (results_part2 rfl _ _ g2 2 80 _ _ rfl hD9 Tryz.underlying80 rfl rfl rfl) rfl ⟨_, rfl, ⟨none, 0, rfl, OwnB.nil _ _⟩, hT9.below HX2.out hgw⟩

end Go.Proofs.YtfjopbbgcjgpbaaGreat

/- Contract of vault.sealing (the parse): what the last leaf says. -/
namespace Go.Proofs.YtfjopbbgcjgpbaaGreat
set_option linter.unusedVariables false
open Go.RowKit Go.Maps

attribute [local irreducible] wpList wpCalm
def nI (l : List Nat) : List Int := l.map (fun n : Nat => (n : Int))
theorem nI_len (l : List Nat) : (nI l).length = l.length := by simp [nI]
def SealPost (w : World) (o : Option (List Nat)) (e : Ending) (w' : World) : Prop := ∃ v ys, e = .returned (.tuple #[v, .bool o.isSome]) ∧ OwnN w' w.heap.size v ys ∧ (∀ l, o = some l → ys = nI l) ∧ Below w.heap.size w w'
theorem OwnN.nil_ (w : World) (B : Nat) : OwnN w B (.slice none 0 0) [] := ⟨by simp, .inl ⟨rfl, by simp⟩⟩
theorem OwnN.keep_ {w w' : World} {B : Nat} {v : Value} {xs : List Int} (h : OwnN w B v xs) (hk : ∀ b, v.ownBlock = some b → w'.heap[b]? = w.heap[b]?) : OwnN w' B v xs := rowD_keep h hk
theorem OwnN.below_ {w w' : World} {B : Nat} {v : Value} {xs : List Int} (h : OwnN w B v xs) (hb : Below w.heap.size w w') : OwnN w' B v xs := h.keep_ fun b hb' => hb.block b (rowD_lt h hb').2
/-- how far the parse has come -/
structure PsSt (w : World) (xs : List UInt8) (n0 : Nat) (A : Option Addr) (n c : Nat) (lv : Value) (rest : List UInt8) (done : List Nat) (wr : World) : Prop where
  rd : Reads wr wr.heap.size 1 A n (rest.map vb)
  cap : n ≤ c
  own : OwnN wr w.heap.size lv (nI done)
  len : done.length + n ≤ n0
  num : numsV xs = (numsV rest).map (fun l => done ++ l)
  max : ∀ x, x ∈ done → x ≤ maxN
  low : Below w.heap.size w wr
/-- what is wrong with the numbers, but for the nodes -/
def badS (l : List Nat) : Prop := l.length < 3 ∨ l.getD 0 0 < 1 ∨ 2 < l.getD 0 0 ∨ 1048576 < l.getD 1 0 ∨ l.getD 2 0 + 3 ≠ l.length ∨ (l.getD 1 0 = 1048576 ∧ 0 < l.getD 2 0)
instance (l : List Nat) : Decidable (badS l) := by unfold badS; infer_instance
theorem badS_not {l : List Nat} (h : badS l) : ¬ goodSeal l := by
  unfold badS at h
  unfold goodSeal
  rintro ⟨h1, h2, h3, h4, h5, h6, h7⟩
  rcases h with e | e | e | e | e | e
  · omega
  · omega
  · omega
  · omega
  · omega
  · exact h6 e
theorem badS_good {l : List Nat} (h : ¬ badS l) : goodSeal l ↔ (l.length = 3 ∨ crewB (nI (l.drop 3)) = true) := by
  unfold badS at h
  unfold goodSeal nI
  constructor
  · exact fun hh => hh.2.2.2.2.2.2
  · intro h7
    refine ⟨by omega, by omega, by omega, by omega, by omega, fun e => h ?_, h7⟩
    exact .inr (.inr (.inr (.inr (.inr e))))
def parseWish (g : Nat) (l : List Int) : Wish := ⟨0, 0, (g : Int), 0, 5, 0, [], 0, 0, l⟩
theorem parseWish_may {g : Nat} (h1 : 1 ≤ g) (h2 : g ≤ 2) (l : List Int) : mayB (parseWish g l) = crewB l := by
  rw [Bool.eq_iff_iff]
  unfold mayB
  rw [decide_eq_true_eq]
  unfold MayP
  constructor
  · rintro ⟨_, _, h | h⟩
    · exact h.2.2.2.2.2.2.2.2.2
    · exact absurd rfl h.1
  · intro h
    exact ⟨show (0 : Int) ≤ 0 by decide, show (0 : Int) ≤ 1048576 by decide, .inl ⟨rfl, rfl, rfl, rfl, rfl, rfl, rfl, by show (1 : Int) ≤ (g : Int); omega, by show (g : Int) ≤ 2; omega, h⟩⟩

set_option maxRecDepth 100000 in
set_option maxHeartbeats 8000000 in
theorem vparse_any (A : Option Addr) (n c : Nat) (xs : List UInt8) (w : World) (B : Nat) (h : Reads w B 1 A n (xs.map vb)) (hB : B ≤ w.heap.size) (hc : n ≤ c) (hn : n ≤ 1000000000000) :
    Calls Tryz.prog 55 #[.slice A n c] w (SealPost w (sealOf xs)) := by
  obtain ⟨o, ho⟩ : ∃ o, o = sealOf xs := ⟨_, rfl⟩
  rw [← ho]
  have HO := Lib.hid ho
  have HST := Lib.hid (show PsSt w xs n A n c (.slice none 0 0) xs [] w from ⟨h.more hB, hc, OwnN.nil_ _ _, by simp, by cases numsV xs <;> rfl, fun x hx => by simp at hx, Below.refl _ _⟩)
  obtain ⟨i0, hi0, hz0, hz1, hz2⟩ := info_parts ci_info
  obtain ⟨n0, hn0⟩ : ∃ k, k = n := ⟨_, rfl⟩
  rw [← hn0] at hn
  have HST2 := Lib.hid (show PsSt w xs n0 A n c (.slice none 0 0) xs [] w from hn0 ▸ HST.out)
  clear h ho HST hc hn0
  go_enter Tryz.func55, Tryz.ntmps55
  go_wp2_with fail
  go_loopw [0, 2] (fun bv lv wr => ∃ (A : Option Addr) (n c : Nat) (rest : List UInt8) (done : List Nat), bv = .slice A n c ∧ PsSt w xs n0 A n c lv rest done wr) (fun bv _ _ => (match bv with | .slice _ n _ => n | _ => 0))
  case atStart => exact ⟨_, _, _, _, _, rfl, HST2.out⟩
  case round =>
    obtain ⟨A, n, c, rest, done, rfl, hps⟩ := hrel
    have HPS := Lib.hid hps
    have hrl : rest.length = n := by have := hps.rd.1; simpa using this
    have HRL := Lib.hid hrl
    have hsz := hps.low.size
    have hlen := hps.len
    clear hps hrl
    by_cases h0 : n = 0
    · subst h0
      have hre : rest = [] := List.eq_nil_of_length_eq_zero (by have := HRL.out; omega)
      have hnum : numsV xs = some done := by
        have := HPS.out.num
        rw [hre] at this
        rw [this]
        simp [numsV_nil]
      have hoe : o = if goodSeal done then some done else none := by
        rw [HO.out]; unfold sealOf; rw [hnum]
      have HOE := Lib.hid hoe
      have HOWN := Lib.hid HPS.out.own
      have HMAX := Lib.hid HPS.out.max
      have HLOW := Lib.hid HPS.out.low
      obtain ⟨m, hm⟩ : ∃ m, m = done.length := ⟨_, rfl⟩
      have HM := Lib.hid hm
      have hml : m ≤ n0 := by omega
      clear hre hnum hoe HPS HRL HO hlen hm
      by_cases h3 : m < 3
      · have h3b : (m : Int) < 3 := by omega
        have ho : o = none := by rw [HOE.out, if_neg (badS_not (.inl (by rw [← HM.out]; exact h3)))]
        obtain ⟨Al, cl, hlv, _⟩ := own_slice_n HOWN.out
        rw [nI_len, ← HM.out] at hlv
        subst hlv
        subst ho
        go_wp2_with fail
        go_ret2
        exact ⟨_, [], rfl, OwnN.nil_ _ _, (fun l hl => by cases hl), HLOW.out⟩
      · have h3b : ¬ (m : Int) < 3 := by omega
        obtain ⟨g, cl, hlv, hgw, hcl, hrd⟩ : ∃ g cl, u2 = .slice (some ⟨g, 0, none⟩) m cl ∧ w.heap.size ≤ g ∧ m ≤ cl ∧ Reads wr wr.heap.size 1 (some ⟨g, 0, none⟩) m ((nI done).map vn) := by
          have hown := HOWN.out
          obtain ⟨Al, cl, hlv, q1, _, q3, q4⟩ := own_slice_n hown
          rw [nI_len, ← HM.out] at hlv q1 q3
          rcases hown.2 with ⟨hv, h0'⟩ | ⟨g, cap, cur, hv, hg, _⟩
          · rw [nI_len, ← HM.out] at h0'; omega
          · rw [nI_len, ← HM.out] at hv
            rw [hv] at hlv
            injection hlv with e1 e2 e3
            exact ⟨g, cl, by rw [hv, e3], hg, q1, e1 ▸ q3⟩
        subst hlv
        have cell : ∀ j, j < m → wr.cell? ⟨g, j, none⟩ = some (.int .i64 ((done.getD j 0 : Nat) : Int)) := fun j hj => by
          obtain ⟨ad, hA, _, hc⟩ := hrd.2 (by omega)
          injection hA with hA
          subst hA
          have := hc j (.int .i64 ((done.getD j 0 : Nat) : Int)) (by
            have hjd : j < done.length := by rw [← HM.out]; exact hj
            unfold nI
            rw [List.getElem?_map, List.getElem?_map, List.getElem?_eq_getElem hjd, List.getD_eq_getElem?_getD, List.getElem?_eq_getElem hjd]; rfl)
          rw [add_off, Nat.zero_add] at this
          exact this
        have c0 := cell 0 (by omega)
        have c1 := cell 1 (by omega)
        have c2 := cell 2 (by omega)
        have HRD := Lib.hid hrd
        obtain ⟨l0, hl0⟩ : ∃ k, k = done.getD 0 0 := ⟨_, rfl⟩
        obtain ⟨l1, hl1⟩ : ∃ k, k = done.getD 1 0 := ⟨_, rfl⟩
        obtain ⟨l2, hl2⟩ : ∃ k, k = done.getD 2 0 := ⟨_, rfl⟩
        rw [← hl0] at c0
        rw [← hl1] at c1
        rw [← hl2] at c2
        have HBD := Lib.hid (show badS done ↔ (l0 < 1 ∨ 2 < l0 ∨ 1048576 < l1 ∨ l2 + 3 ≠ m ∨ (l1 = 1048576 ∧ 0 < l2)) from by
          unfold badS
          rw [← hl0, ← hl1, ← hl2, ← HM.out]
          omega)
        have HL0 := Lib.hid hl0
        have C0 := Lib.hid c0
        have hgc : 0 < m := by omega
        have hgc1 : 1 < m := by omega
        have hgc2 : 2 < m := by omega
        have hgcI : (0 : Int) < (m : Int) := by omega
        have hgc1I : (1 : Int) < (m : Int) := by omega
        have hgc2I : (2 : Int) < (m : Int) := by omega
        clear cell hrd hl0 hl1 hl2
        go_upto_region 7 with fail
        go_cut [65] (fun s65 wx => s65 = .bool (decide (badS done)) ∧ wx = wr)
        case first =>
          by_cases b0 : l0 < 1
          · have b0b : (l0 : Int) < 1 := by omega
            go_wp2_with fail
            go_meet
            exact ⟨by rw [decide_eq_true (HBD.out.2 (by omega))], rfl⟩
          · have b0b : ¬ (l0 : Int) < 1 := by omega
            by_cases b1 : 2 < l0
            · have b1b : (2 : Int) < (l0 : Int) := by omega
              go_wp2_with fail
              go_meet
              exact ⟨by rw [decide_eq_true (HBD.out.2 (by omega))], rfl⟩
            · have b1b : ¬ (2 : Int) < (l0 : Int) := by omega
              by_cases b2 : 1048576 < l1
              · have b2b : (1048576 : Int) < (l1 : Int) := by omega
                go_wp2_with fail
                go_meet
                exact ⟨by rw [decide_eq_true (HBD.out.2 (by omega))], rfl⟩
              · have b2b : ¬ (1048576 : Int) < (l1 : Int) := by omega
                by_cases b3 : l2 + 3 = m
                · have b3b : ((l2 : Int) != (m : Int) - 3) = false := by simp; omega
                  have B3 := Lib.hid b3
                  clear b3
                  by_cases b4 : l1 = 1048576
                  · have b4b : ((l1 : Int) == 1048576) = true := by simp [b4]
                    have B4 := Lib.hid b4
                    clear b4
                    by_cases b5 : 0 < l2
                    · have b5b : (0 : Int) < (l2 : Int) := by omega
                      go_wp2_with fail
                      go_meet
                      exact ⟨by rw [decide_eq_true (HBD.out.2 (by have := B3.out; have := B4.out; omega))], rfl⟩
                    · have b5b : ¬ (0 : Int) < (l2 : Int) := by omega
                      go_wp2_with fail
                      go_meet
                      exact ⟨by rw [decide_eq_false (fun hh => by have := HBD.out.1 hh; have := B3.out; omega)], rfl⟩
                  · have b4b : ((l1 : Int) == 1048576) = false := by simp; omega
                    go_wp2_with fail
                    go_meet
                    exact ⟨by rw [decide_eq_false (fun hh => by have := HBD.out.1 hh; have := B3.out; omega)], rfl⟩
                · have b3b : ((l2 : Int) != (m : Int) - 3) = true := by simp; omega
                  go_wp2_with fail
                  go_meet
                  exact ⟨by rw [decide_eq_true (HBD.out.2 (by omega))], rfl⟩
        case rest =>
          obtain ⟨rfl, rfl⟩ := hcut
          by_cases hbad : badS done
          · have ho : o = none := by rw [HOE.out, if_neg (badS_not hbad)]
            rw [decide_eq_true hbad]
            subst ho
            clear c0 c1 c2
            go_wp2_with fail
            go_ret2
            exact ⟨_, [], rfl, OwnN.nil_ _ _, (fun l hl => by cases hl), HLOW.out⟩
          · have hgs := badS_good hbad
            have hlb : ¬ (l0 < 1 ∨ 2 < l0 ∨ 1048576 < l1 ∨ l2 + 3 ≠ m ∨ (l1 = 1048576 ∧ 0 < l2)) := fun hh => hbad (HBD.out.2 hh)
            have hl01 : 1 ≤ l0 ∧ l0 ≤ 2 := by omega
            rw [decide_eq_false hbad]
            clear c0 c1 c2
            have HSF := Lib.hid (fun (W : World) => run_slice_from (P := Tryz.prog) (t := 22) (e := 3) Tryz.underlying22 (by kernel_rfl) (some ⟨g, 0, none⟩) m cl 3 3 rfl (by omega) W)
            obtain ⟨A7, hA7⟩ : ∃ A7, A7 = (if cl = 3 then (some (⟨g, 0, none⟩ : Addr)) else (some (⟨g, 0, none⟩ : Addr)).map (·.add 3)) := ⟨_, rfl⟩
            rw [← hA7] at HSF
            have hrdn : Reads wc wc.heap.size 1 A7 (m - 3) ((nI (done.drop 3)).map vn) := by
              have := HRD.out.sub (l := 3) (k := m) (cap := cl) (by omega) (Nat.le_refl _) hcl
              rw [Nat.mul_one, Nat.mul_one] at this
              rw [← hA7] at this
              have e : (((nI done).map vn).drop 3).take (m - 3) = (nI (done.drop 3)).map vn := by
                rw [List.take_of_length_le (by rw [List.length_drop, List.length_map, nI_len, ← HM.out]; omega)]
                unfold nI
                rw [List.map_drop, List.map_drop]
              rw [e] at this
              exact this
            have HRN := Lib.hid hrdn
            have hlow := HLOW.out.size
            have hdl3 : (nI (done.drop 3)).length = m - 3 := by rw [nI_len, List.length_drop, ← HM.out]
            have HDL3 := Lib.hid hdl3
            have HGS := Lib.hid hgs
            clear hrdn hdl3 hgs hbad hlb hA7
            obtain ⟨m3, hm3⟩ : ∃ k, k = m - 3 := ⟨_, rfl⟩
            by_cases h4 : m = 3
            · have ho : o = some done := by rw [HOE.out, if_pos (HGS.out.2 (.inl (by rw [← HM.out]; exact h4)))]
              subst ho
              rw [← hm3] at HSF HRN HDL3
              obtain rfl : m3 = 0 := by omega
              subst h4
              clear hm3
              go_wp2_with (refine wpList_exec_want (o := ⟨some 67, _, _, _, _, _⟩) rfl (.slice A7 0 (cl - 3)) (by have h := HSF.out wc; go_simp) ?_)
              go_ret2
              exact ⟨_, _, rfl, HOWN.out, (fun l hl => by rw [← Option.some.inj hl]), HLOW.out⟩
            · have HCK := Lib.hid (fun (W : World) (hb : Below wc.heap.size wc W) => check_any (parseWish l0 (nI (done.drop 3))) none 0 0 A7 (m - 3) (cl - 3) W wc.heap.size ⟨Reads.none_, by simp, by simp, HRN.out.below hb, by omega, by omega, ⟨by show I64 0; unfold I64; omega, by show I64 0; unfold I64; omega, by show I64 (l0 : Int); unfold I64; omega, by show I64 0; unfold I64; omega, by show I64 5; unfold I64; omega, by show I64 0; unfold I64; omega, by show I64 0; unfold I64; omega, by show I64 0; unfold I64; omega, fun z hz => by
                obtain ⟨k, hk, rfl⟩ := List.mem_map.1 hz
                have := HMAX.out k (List.mem_of_mem_drop hk)
                unfold maxN at this
                unfold I64; omega⟩⟩ hb.size)
              rw [parseWish_may hl01.1 hl01.2] at HCK
              obtain ⟨cb, hcb⟩ : ∃ b, b = crewB (nI (done.drop 3)) := ⟨_, rfl⟩
              rw [← hcb] at HCK
              have ho : o = if cb = true then some done else none := by
                rw [HOE.out]
                have : goodSeal done ↔ cb = true := by
                  rw [HGS.out, hcb]
                  constructor
                  · rintro (e | e)
                    · rw [← HM.out] at e; exact absurd e h4
                    · exact e
                  · exact fun e => .inr e
                by_cases hg : goodSeal done
                · rw [if_pos hg, if_pos (this.1 hg)]
                · rw [if_neg hg, if_neg (fun e => hg (this.2 e))]
              have HOF := Lib.hid ho
              rw [← hm3] at HSF HRN HDL3 HCK
              have hm30 : ((m3 : Int) == 0) = false := by simp; omega
              have HM3 := Lib.hid hm3
              have c0 := C0.out
              clear ho hcb hm3 h4
              unfold parseWish wCells at HCK
              go_wp2_with (refine wpList_exec_want (o := ⟨some 67, _, _, _, _, _⟩) rfl (.slice A7 m3 (cl - 3)) (by have h := HSF.out wc; go_simp) ?_)
              refine (HCK.out wc (Below.refl _ _)).mono ?_
              rintro _ w5 ⟨rfl, hb5⟩
              have HO5 := Lib.hid (HOWN.out.below_ hb5)
              have HL5 := Lib.hid (HLOW.out.trans (hb5.mono hlow))
              clear hb5 HCK c0
              cases cb with
              | true =>
                have ho : o = some done := HOF.out
                subst ho
                simp only [if_true]
                go_wp2_with fail
                go_ret2
                exact ⟨_, _, rfl, HO5.out, (fun l hl => by rw [← Option.some.inj hl]), HL5.out⟩
              | false =>
                have ho : o = none := HOF.out
                subst ho
                simp only [Bool.false_eq_true, if_false]
                go_wp2_with fail
                go_ret2
                exact ⟨_, _, rfl, HO5.out, (fun l hl => by cases hl), HL5.out⟩
    · have h0b : (0 : Int) < (n : Int) := by omega
      have hne : rest ≠ [] := by intro e; have := HRL.out; rw [e] at this; simp at this; omega
      have HTN := Lib.hid (takeNum_any A n c rest wr wr.heap.size HPS.out.rd (Nat.le_refl _) HPS.out.cap (by omega))
      have htm := tn_num rest
      have HBADN := Lib.hid (fun (he : (tn rest).2.2 ≠ 0) => numsV_bad hne he)
      have HNEXT := Lib.hid (fun (he : (tn rest).2.2 = 0) => numsV_next hne he)
      have HSHR := Lib.hid (fun (he : (tn rest).2.2 = 0) => tn_shrink he)
      obtain ⟨p, hp⟩ : ∃ p, p = tn rest := ⟨_, rfl⟩
      rw [← hp] at HTN htm HBADN HNEXT HSHR
      obtain ⟨k, r, e⟩ := p
      simp only at HTN htm HBADN HNEXT HSHR
      have HTM := Lib.hid htm
      clear hne hp htm
      obtain ⟨Al, cl, hlv, hlc, _, _, _⟩ := own_slice_n HPS.out.own
      rw [nI_len] at hlv hlc
      subst hlv
      go_wp2_with fail
      refine HTN.out.mono ?_
      rintro _ w2 ⟨v, rfl, ho2, hb2⟩
      obtain ⟨A1, c1, hv, q1, q2, hr1, _⟩ := own_slice_b ho2
      subst hv
      have HR1 := Lib.hid hr1
      have HOB := Lib.hid ho2
      have HL2 := Lib.hid (HPS.out.low.trans (hb2.mono hsz))
      have HOW2 := Lib.hid (HPS.out.own.below_ hb2)
      have hs2 := hb2.size
      clear ho2 hb2 hr1 HTN
      by_cases he : e = 0
      · have heb : ((e : Int) != 0) = false := by simp [he]
        have hshr := HSHR.out he
        have hnx := HNEXT.out he
        rw [HRL.out] at hshr
        have HNX := Lib.hid hnx
        have HW := Lib.hid (show (w2.alloc (.cells #[.int .i64 (k : Int)] 3)).ownsRow w.heap.size 3 1 (.slice Al done.length cl) done.length ((nI done).map vn) from by
          have := World.ownsRow.alloc HOW2.out (.cells #[.int .i64 (k : Int)] 3)
          rw [nI_len] at this
          exact this)
        have HR3 := Lib.hid (reads_cells w2 #[.int .i64 (k : Int)] 3)
        have HR1b := Lib.hid (HR1.out.below (below_lit w2 (.cells #[.int .i64 (k : Int)] 3)))
        obtain ⟨dn, hdn⟩ : ∃ d, d = done.length := ⟨_, rfl⟩
        rw [← hdn] at HW hlen ⊢
        have HDN := Lib.hid hdn
        obtain ⟨rl, hrl⟩ : ∃ d, d = r.length := ⟨_, rfl⟩
        rw [← hrl] at hshr HR1b q1 ⊢
        have HRLE := Lib.hid hrl
        clear hnx hdn hrl
        go_wp2_with (at_builtin; go_must (refine wpList_append_any _ rfl (.tmp 19) (.tmp 21) 22 rfl w.heap.size 3 i0 _ 1 8 Tryz.underlying22 hi0 hz0 hz1 hz2 rfl (by omega) _ dn ((nI done).map vn) rfl HW.out (w2.heap.size + 1) (some ⟨w2.heap.size, 0, none⟩) 1 1 [.int .i64 (k : Int)] rfl HR3.out ?c1 ?c2 ?c3 ?c4 ?_))
        case c1 => intro z hz; rw [List.mem_singleton] at hz; subst hz; rfl
        case c2 => unfold maxLen; omega
        case c3 => omega
        case c4 => simp; omega
        intro v6 w6 hown6 hg6 hor6
        have hps6 : PsSt w xs n0 A1 rl c1 v6 r (done ++ [k]) w6 := by
          have hge : ∀ b, (Value.slice Al dn cl).ownBlock = some b → w.heap.size ≤ b := fun b hb => (rowD_lt HW.out hb).1
          have hal := below_lit w2 (.cells #[.int .i64 (k : Int)] 3)
          have hsz2 := HL2.out.size
          refine ⟨?_, q1, ?_, ?_, ?_, ?_, ?_⟩
          · have hob := HOB.out.below hal
            have hk := hob.keep (w' := w6) fun b hb => by
              obtain ⟨cur, hcur⟩ := ownB_blk hob hb
              exact hg6.block b (hob.lt hb) (fun e => own_blk_ne HW.out hcur (by decide) e.symm)
            rw [HRLE.out]
            exact hk.reads.2.2.2.1
          · unfold OwnN
            rw [nI_len, List.length_append, ← HDN.out]
            have e2 : nI (done ++ [k]) = nI done ++ [(k : Int)] := by simp [nI]
            rw [e2, List.map_append]
            exact hown6
          · rw [List.length_append, ← HDN.out]
            simp only [List.length_cons, List.length_nil]
            omega
          · rw [HPS.out.num, HNX.out]
            cases numsV r with
            | none => rfl
            | some l => simp
          · intro x hx
            rcases List.mem_append.1 hx with hx | hx
            · exact HPS.out.max x hx
            · rw [List.mem_singleton] at hx; subst hx; exact HTM.out
          · exact grown_below (HL2.out.trans (hal.mono hsz2)) (by simp; omega) hg6 (fun b hb => hge b hb)
        have HPS6 := Lib.hid hps6
        clear hown6 hg6 hor6 hps6
        go_wp2_with fail
        go_roundw
        case rel => exact ⟨_, _, _, _, _, rfl, HPS6.out⟩
        case measure => simp; omega
      · have heb : ((e : Int) != 0) = true := by simpa using he
        have hbn : numsV xs = none := by rw [HPS.out.num, HBADN.out he]; rfl
        have ho : o = none := by rw [HO.out]; unfold sealOf; rw [hbn]
        subst ho
        clear hbn
        go_wp2_with fail
        go_ret2
        exact ⟨_, [], rfl, OwnN.nil_ _ _, (fun l hl => by cases hl), HL2.out⟩

end Go.Proofs.YtfjopbbgcjgpbaaGreat

/- A vault under way of being opened: its fields, one by one. -/
namespace Go.Proofs.YtfjopbbgcjgpbaaGreat
set_option linter.unusedVariables false
open Go.RowKit Go.Maps

/-- a vault's fields, whatever they say -/
structure VRaw (w : World) (g : Nat) (t : Option Addr) (N : Nat → Prop) (m : VM) (S : VSl) : Prop where
  blk : Blk w g 83 (vC t m S)
  block : ∀ i, i < 8 → Far w N (S.bA i) (S.bC i) (blockV m i)
  last : ∀ i, i < 4 → Far w N (S.lA i) (S.lC i) (lastV m i).2
  shut : FarN w N S.sA S.sC m.shut
  lb : m.blocks.length = 8
  ll : m.last.length = 4
theorem VRaw.only {w w' : World} {g : Nat} {t : Option Addr} {N M : Nat → Prop} {m : VM} {S : VSl} (h : VRaw w g t N m S) (ho : Only M w w') (hM : ∀ b, M b → N b) (hg : ¬ M g) : VRaw w' g t N m S :=
  ⟨ho.blk h.blk hg, fun i hi => (h.block i hi).only ho hM, fun i hi => (h.last i hi).only ho hM, h.shut.only ho hM, h.lb, h.ll⟩
theorem VRaw.below {w w' : World} {g : Nat} {t : Option Addr} {N : Nat → Prop} {m : VM} {S : VSl} (h : VRaw w g t N m S) (hb : Below w.heap.size w w') : VRaw w' g t N m S :=
  h.only (M := fun _ => False) (Only.of_below hb) (fun _ h => h.elim) (fun h => h)
theorem VRaw.done {w : World} {g : Nat} {t : Option Addr} {N : Nat → Prop} {m : VM} {S : VSl} (h : VRaw w g t N m S) (hk : VOk m) : VDat w g t N m S := ⟨h.blk, h.block, h.last, h.shut, hk⟩
def rawV : VM := ⟨0, 0, List.replicate 8 [], List.replicate 4 (0, []), []⟩
def rawS : VSl := ⟨fun _ => none, fun _ => 0, fun _ => none, fun _ => 0, none, 0⟩
theorem rawC : vC none rawV rawS = #[.pointer none, .int .i64 0, .int .i64 0, .slice none 0 0, .slice none 0 0, .slice none 0 0, .slice none 0 0, .slice none 0 0, .slice none 0 0, .slice none 0 0, .slice none 0 0, .int .i64 0, .slice none 0 0, .int .i64 0, .slice none 0 0, .int .i64 0, .slice none 0 0, .int .i64 0, .slice none 0 0, .slice none 0 0] := by kernel_rfl
theorem VRaw.new (w : World) (N : Nat → Prop) {g : Nat} (hg : g = w.heap.size) : VRaw (w.alloc (.cells (vC none rawV rawS) 83)) g none N rawV rawS := by
  refine ⟨Blk.newAt hg, fun i hi => ?_, fun i hi => ?_, FarN.nil _ _, by simp [rawV], by simp [rawV]⟩
  · have : blockV rawV i = [] := by
      unfold blockV rawV
      simp only [List.getD_eq_getElem?_getD, List.getElem?_replicate]
      split <;> rfl
    rw [this]; exact Far.nil _ _
  · have : lastV rawV i = (0, []) := by
      unfold lastV rawV
      simp only [List.getD_eq_getElem?_getD, List.getElem?_replicate]
      split <;> rfl
    rw [this]; exact Far.nil _ _
theorem VRaw.setB {w w' : World} {g : Nat} {t : Option Addr} {N : Nat → Prop} {m : VM} {S : VSl} {b : Nat} {d : List UInt8} {A : Option Addr} {c : Nat} (h : VRaw w g t N m S) (hT : Turned g w w') (hN : N g) (hB : Blk w' g 83 ((vC t m S).setIfInBounds (3 + b) (.slice A d.length c))) (hb : b < 8) (hf : Far w' N A c d) : VRaw w' g t N (Go.Proofs.YtfjopbbgcjgpbaaGreat.setB m b d) (sBlock S b A c) := by
  have hz : (vC t m S).size = 20 := vC_size _ _ _
  have ho : Only (fun b => b = g) w w' := Only.of_turned hT rfl
  have hB' : ((vC t m S).setIfInBounds (3 + b) (.slice A d.length c)) = vC t (Go.Proofs.YtfjopbbgcjgpbaaGreat.setB m b d) (sBlock S b A c) := by
    refine vC_blk h.lb hb (by simp [hz]) ?_ ?_
    · rw [Array.getElem?_setIfInBounds, if_pos rfl, hz, if_pos (by omega)]
    · intro i hi h0
      rw [Array.getElem?_setIfInBounds, if_neg (by omega)]
  refine ⟨by rw [← hB']; exact hB, fun i hi => ?_, fun i hi => ?_, ?_, by show (m.blocks.set b d).length = 8; rw [List.length_set]; exact h.lb, h.ll⟩
  · rw [setB_block m b i _ h.lb hb]
    by_cases e : i = b
    · subst e
      rw [if_pos rfl]
      simp only [sBlock, if_true]
      exact hf
    · rw [if_neg e]
      simp only [sBlock, if_neg e]
      exact (h.block i hi).only ho (fun b e => e ▸ hN)
  · exact (h.last i hi).only ho (fun b e => e ▸ hN)
  · exact h.shut.only ho (fun b e => e ▸ hN)
theorem VRaw.setL {w w' : World} {g : Nat} {t : Option Addr} {N : Nat → Prop} {m : VM} {S : VSl} {j st : Nat} {d : List UInt8} {A : Option Addr} {c : Nat} (h : VRaw w g t N m S) (hT : Turned g w w') (hN : N g) (hB : Blk w' g 83 (spl (vC t m S) (11 + j * 2) [.int .i64 (st : Int), .slice A d.length c])) (hj : j < 4) (hf : Far w' N A c d) : VRaw w' g t N (Go.Proofs.YtfjopbbgcjgpbaaGreat.setL m j (st, d)) (sLast S j A c) := by
  have hz : 11 + j * 2 + 2 ≤ (vC t m S).size := by rw [vC_size]; omega
  have ho : Only (fun b => b = g) w w' := Only.of_turned hT rfl
  have hB' : spl (vC t m S) (11 + j * 2) [.int .i64 (st : Int), .slice A d.length c] = vC t (Go.Proofs.YtfjopbbgcjgpbaaGreat.setL m j (st, d)) (sLast S j A c) :=
    vC_last h.ll hj (by rw [spl2_size hz, vC_size]) (spl2_at hz) (spl2_at1 hz) (fun i hi h0 h1 => spl2_else hz h0 h1)
  refine ⟨by rw [← hB']; exact hB, fun i hi => ?_, fun i hi => ?_, ?_, h.lb, by show (m.last.set j (st, d)).length = 4; rw [List.length_set]; exact h.ll⟩
  · exact (h.block i hi).only ho (fun b e => e ▸ hN)
  · rw [setL_last m j i _ h.ll hj]
    by_cases e : i = j
    · subst e
      rw [if_pos rfl]
      simp only [sLast, if_true]
      exact hf
    · rw [if_neg e]
      simp only [sLast, if_neg e]
      exact (h.last i hi).only ho (fun b e => e ▸ hN)
  · exact h.shut.only ho (fun b e => e ▸ hN)
/-- the head and the seal -/
theorem VRaw.setH {w w' : World} {g : Nat} {t : Option Addr} {N : Nat → Prop} {m : VM} {S : VSl} {q e : Nat} {l : List Int} {A : Option Addr} {c : Nat} (h : VRaw w g t N m S) (ho : Only (fun b => b = g) w w') (hN : N g) (hB : Blk w' g 83 ((((vC t m S).setIfInBounds 1 (.int .i64 (q : Int))).setIfInBounds 2 (.int .i64 (e : Int))).setIfInBounds 19 (.slice A l.length c))) (hf : FarN w' N A c l) : VRaw w' g t N ⟨q, e, m.blocks, m.last, l⟩ (setS S A c) := by
  have hz : (vC t m S).size = 20 := vC_size _ _ _
  have hB' : (((vC t m S).setIfInBounds 1 (.int .i64 (q : Int))).setIfInBounds 2 (.int .i64 (e : Int))).setIfInBounds 19 (.slice A l.length c) = vC t ⟨q, e, m.blocks, m.last, l⟩ (setS S A c) := by
    have hs : (((vC t m S).setIfInBounds 1 (.int .i64 (q : Int))).setIfInBounds 2 (.int .i64 (e : Int))).size = 20 := by simp [hz]
    refine vC_eq (by simp [hz]) ?_ ?_ ?_ (fun i hi => ?_) (fun i hi => ?_) (fun i hi => ?_) ?_
    · rw [Array.getElem?_setIfInBounds, if_neg (by omega), Array.getElem?_setIfInBounds, if_neg (by omega), Array.getElem?_setIfInBounds, if_neg (by omega), vC_tree]
    · rw [Array.getElem?_setIfInBounds, if_neg (by omega), Array.getElem?_setIfInBounds, if_neg (by omega), Array.getElem?_setIfInBounds, if_pos rfl, hz, if_pos (by omega)]
    · rw [Array.getElem?_setIfInBounds, if_neg (by omega), Array.getElem?_setIfInBounds, if_pos rfl, Array.size_setIfInBounds, hz, if_pos (by omega)]
    · rw [Array.getElem?_setIfInBounds, if_neg (by omega), Array.getElem?_setIfInBounds, if_neg (by omega), Array.getElem?_setIfInBounds, if_neg (by omega), vC_block _ _ _ _ hi]; rfl
    · rw [Array.getElem?_setIfInBounds, if_neg (by omega), Array.getElem?_setIfInBounds, if_neg (by omega), Array.getElem?_setIfInBounds, if_neg (by omega), vC_stamp _ _ _ _ hi]; rfl
    · rw [Array.getElem?_setIfInBounds, if_neg (by omega), Array.getElem?_setIfInBounds, if_neg (by omega), Array.getElem?_setIfInBounds, if_neg (by omega), vC_data _ _ _ _ hi]; rfl
    · rw [Array.getElem?_setIfInBounds, if_pos rfl, hs, if_pos (by omega)]; rfl
  refine ⟨by rw [← hB']; exact hB, fun i hi => (h.block i hi).only ho (fun b e => e ▸ hN), fun i hi => (h.last i hi).only ho (fun b e => e ▸ hN), hf, h.lb, h.ll⟩
/-- the first i blocks and the first j clients of leaves -/
def midO (ls : List (List UInt8)) (i j : Nat) : VM := ⟨0, 0, ls.take i ++ List.replicate (8 - i) [], (List.range j).map (fun k => (clientOf (ls.getD (8 + k) [])).getD (0, [])) ++ List.replicate (4 - j) (0, []), []⟩
theorem midO_zero (ls : List (List UInt8)) : midO ls 0 0 = rawV := by simp [midO, rawV]
theorem midO_block {ls : List (List UInt8)} {i j : Nat} (hl : 8 ≤ ls.length) (hi : i < 8) : Go.Proofs.YtfjopbbgcjgpbaaGreat.setB (midO ls i j) i (ls.getD i []) = midO ls (i + 1) j := by
  unfold Go.Proofs.YtfjopbbgcjgpbaaGreat.setB midO
  simp only
  congr 1
  have hlt : (ls.take i).length = i := by rw [List.length_take]; omega
  rw [List.set_append_right _ _ (by omega), hlt, Nat.sub_self, show 8 - i = (8 - (i + 1)) + 1 by omega, List.replicate_succ, List.set_cons_zero, List.take_succ_eq_append_getElem (by omega), List.append_assoc, List.getD_eq_getElem?_getD, List.getElem?_eq_getElem (by omega)]
  rfl
theorem midO_client {ls : List (List UInt8)} {i j : Nat} (hj : j < 4) : Go.Proofs.YtfjopbbgcjgpbaaGreat.setL (midO ls i j) j ((clientOf (ls.getD (8 + j) [])).getD (0, [])) = midO ls i (j + 1) := by
  unfold Go.Proofs.YtfjopbbgcjgpbaaGreat.setL midO
  simp only
  congr 1
  rw [List.set_append_right _ _ (by simp), show j - ((List.range j).map fun k => (clientOf (ls.getD (8 + k) [])).getD (0, [])).length = 0 by simp, show 4 - j = (4 - (j + 1)) + 1 by omega, List.replicate_succ, List.set_cons_zero, List.range_succ, List.map_append, List.append_assoc]
  rfl
theorem midO_end {ls : List (List UInt8)} {l : List Nat} (hl : ls.length = 13) : (⟨l.getD 0 0, l.getD 1 0, (midO ls 8 4).blocks, (midO ls 8 4).last, nI (l.drop 3)⟩ : VM) = openM ls l := by
  unfold openM midO nI
  simp

end Go.Proofs.YtfjopbbgcjgpbaaGreat
