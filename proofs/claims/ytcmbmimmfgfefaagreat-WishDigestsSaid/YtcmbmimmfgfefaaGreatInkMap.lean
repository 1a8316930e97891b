/-
  A book in plain terms: inputs that are unlike, the first one of each digest, and those behind it; what two maps hold of it.
-/
import Derived.Test.YtcmbmimmfgfefaaGreatEqDig
import Derived.Test.YtcmbmimmfgfefaaGreatCopy
import Derived.WideKeyArr
import Derived.Maps.Own
import Derived.Maps.OwnSet
import Derived.Maps.Views
import Derived.Maps.StringElems
namespace Go.Proofs.YtcmbmimmfgfefaaGreat
set_option linter.unusedVariables false
open Go.RowKit Go.Maps

/-- a digest as a map's key -/
def klit (d : List UInt8) : Lit := .string (keyBytes (d.map fun b => .int .u8 (bi b)))
theorem arrKey : WideMaps.ArrKey Tryz.prog 32 5 32 := ⟨Tryz.underlying32, by kernel_rfl, by kernel_rfl, by kernel_rfl⟩
theorem digKeyed : Keyed Tryz.prog 32 := Keyed.of_law arrKey.law
theorem strKeyed : Keyed Tryz.prog 9 := string_keyed Tryz.underlying9
theorem typesSize : ∃ m, Tryz.prog.types.size = m + 1 := ⟨Tryz.prog.types.size - 1, by have : 0 < Tryz.prog.types.size := of_decide_eq_true (by kernel_rfl); omega⟩

theorem keyLits_dig (d : List UInt8) (D : Nat) : ∀ (L : List Nat), (∀ i ∈ L, i < d.length) →
    L.mapM (fun i => Tryz.prog.keyLits (D + 1) 5 (((d.map vb).drop (i * 1)).take 1)) = some (L.map fun i => [Lit.int .u8 (bi (d.getD i 0))])
  | [], _ => rfl
  | i :: L, h => by
    have hi := h i (List.mem_cons_self ..)
    have ih := keyLits_dig d D L (fun j hj => h j (List.mem_cons_of_mem _ hj))
    rw [List.mapM_cons, ih]
    have e : ((d.map vb).drop (i * 1)).take 1 = [vb (d.getD i 0)] := by
      rw [Nat.mul_one, List.take_one, List.head?_drop, List.getElem?_map, getD_some _ _ hi]; rfl
    rw [e]
    simp only [List.map_cons]
    generalize d.getD i 0 = b
    have hw : (Lit.int .u8 (bi b)).wf = true := by
      have h1 := bi_lo b
      have h2 := bi_hi b
      simp [Lit.wf, IntKind.min, IntKind.max, IntKind.signed, IntKind.bits]; omega
    simp [Program.keyLits, Tryz.underlying5, vb, hw]
theorem keyOf_dig (d : List UInt8) (h : d.length = 32) : keyOf Tryz.prog 32 (.agg (bRow d)) = some (klit d) := by
  have hk := arrKey.keyType typesSize
  have hf : Value.formed Tryz.prog 32 (.agg (bRow d)) = true := by
    simp only [Value.formed, Tryz.underlying32]
    rw [bRow_size, h, arrKey.size]; rfl
  obtain ⟨m, hm⟩ := typesSize
  have hl : (bRow d).toList.length = Tryz.prog.cellsOf 32 := by rw [arrKey.size]; simp [bRow, h]
  unfold keyOf
  simp only [Tryz.underlying32, hk, hf, Bool.and_self, if_true, Value.cells]
  rw [hm]
  unfold Program.keyLits
  simp only [Tryz.underlying32, arrKey.one]
  rw [if_pos hl, show (bRow d).toList = d.map vb from rfl, keyLits_dig d m (List.range 32) (fun i hi => by rw [h]; exact List.mem_range.1 hi)]
  simp only [Option.map_some, klit]
  have hfl : ∀ (L : List Nat), (L.map fun i => [Lit.int .u8 (bi (d.getD i 0))]).flatten = L.map fun i => Lit.int .u8 (bi (d.getD i 0)) := by
    intro L
    induction L with
    | nil => rfl
    | cons a l ih => rw [List.map_cons, List.flatten_cons, ih]; rfl
  rw [hfl]
  refine congrArg some (congrArg Lit.string (congrArg keyBytes ?_))
  apply List.ext_getElem?
  intro i
  rcases Nat.lt_or_ge i 32 with hi | hi
  · rw [List.getElem?_map, List.getElem?_range hi, List.getElem?_map, getD_some _ _ (by omega)]; rfl
  · rw [List.getElem?_eq_none (by simpa using hi), List.getElem?_eq_none (by simp; omega)]
theorem klit_inj {d e : List UInt8} (hd : d.length = 32) (he : e.length = 32) (h : klit d = klit e) : d = e := by
  have h1 := keyOf_dig d hd
  have h2 := keyOf_dig e he
  rw [h] at h1
  have h3 : bRow d = bRow e := Value.agg.inj (digKeyed.inj h1 h2)
  have h4 : d.map vb = e.map vb := by
    have := congrArg Array.toList h3
    simpa [bRow] using this
  exact List.map_inj_right (fun a b => vb_inj) |>.1 h4
theorem keyOf_str (l : List UInt8) (h : l.length ≤ maxLen) : keyOf Tryz.prog 9 (.string ⟨l.toArray⟩) = some (.string l) := by
  unfold keyOf
  simp only [Tryz.underlying9, mapKey]
  rw [if_pos (by simpa [ByteArray.size] using h)]
theorem klit_key (d : List UInt8) : WideAt.IsKeyLit (klit d) := trivial

/-- the first input of a digest -/
def firstOf (l : List (List UInt8)) (d : List UInt8) : Option (List UInt8) := l.find? (fun y => shaOf y == d)
/-- those that are not the first of their digest -/
def moreOf (l : List (List UInt8)) : List (List UInt8) := l.filter (fun x => firstOf l (shaOf x) != some x)
/-- an input is noted -/
def addInk (l : List (List UInt8)) (x : List UInt8) : List (List UInt8) := if x ∈ l then l else l ++ [x]

theorem addInk_len (l : List (List UInt8)) (x : List UInt8) : (addInk l x).length ≤ l.length + 1 := by
  unfold addInk; split <;> simp
theorem firstOf_some {l : List (List UInt8)} {d y : List UInt8} (h : firstOf l d = some y) : y ∈ l ∧ shaOf y = d := by
  unfold firstOf at h
  exact ⟨List.mem_of_find?_eq_some h, by have := List.find?_some h; simpa using this⟩
theorem firstOf_mem {l : List (List UInt8)} {x : List UInt8} (h : x ∈ l) : ∃ y, firstOf l (shaOf x) = some y := by
  unfold firstOf
  cases hf : l.find? (fun y => shaOf y == shaOf x) with
  | some y => exact ⟨y, rfl⟩
  | none =>
    have := List.find?_eq_none.1 hf x h
    simp at this
theorem firstOf_snoc (l : List (List UInt8)) (x d : List UInt8) : firstOf (l ++ [x]) d = (firstOf l d).or (if shaOf x = d then some x else none) := by
  unfold firstOf
  rw [List.find?_append]
  congr 1
  by_cases h : shaOf x = d <;> simp [h]
theorem firstOf_none {l : List (List UInt8)} {x : List UInt8} (h : firstOf l (shaOf x) = none) : x ∉ l := fun hx => by
  obtain ⟨y, hy⟩ := firstOf_mem hx
  rw [h] at hy
  cases hy

/-- what two maps hold of a book's inputs -/
structure InkInv (l : List (List UInt8)) (D1 D2 : DataW Unit) : Prop where
  nodup : l.Nodup
  has1 : ∀ d, d.length = 32 → Maps.has D1 (klit d) = (firstOf l d).isSome
  at1 : ∀ d y z, d.length = 32 → firstOf l d = some y → D1.atKey (klit d) z = .lit (.string y)
  has2 : ∀ x, Maps.has D2 (.string x) = decide (x ∈ moreOf l)
  size2 : Maps.size D2 = (moreOf l).length
  size : Maps.size D1 + Maps.size D2 = l.length

theorem InkInv.start : InkInv [] (.map []) (.map []) where
  nodup := List.nodup_nil
  has1 := fun d _ => rfl
  at1 := fun d y z _ h => by simp [firstOf] at h
  has2 := fun x => rfl
  size2 := rfl
  size := rfl

/-- a new digest -/
theorem InkInv.fresh {l : List (List UInt8)} {D1 D2 : DataW Unit} (h : InkInv l D1 D2) (t1 : Tidy D1) (x : List UInt8) (hx : firstOf l (shaOf x) = none) :
    InkInv (addInk l x) (D1.put (klit (shaOf x)) (.lit (.string x))) D2 := by
  have hn := firstOf_none hx
  have hadd : addInk l x = l ++ [x] := by unfold addInk; rw [if_neg hn]
  have hmore : moreOf (l ++ [x]) = moreOf l := by
    unfold moreOf
    rw [List.filter_append]
    have e1 : [x].filter (fun y => firstOf (l ++ [x]) (shaOf y) != some y) = [] := by
      rw [List.filter_cons, firstOf_snoc, hx]; simp
    rw [e1, List.append_nil]
    apply List.filter_congr
    intro y hy
    obtain ⟨z, hz⟩ := firstOf_mem hy
    rw [firstOf_snoc, hz]; simp
  have hl := shaOf_len x
  rw [hadd]
  refine ⟨?_, fun d hd => ?_, fun d y z hd hy => ?_, fun y => ?_, ?_, ?_⟩
  · rw [List.nodup_append]
    refine ⟨h.nodup, by simp, fun a ha b hb => ?_⟩
    have : b = x := by simpa using hb
    subst this
    exact fun e => hn (e ▸ ha)
  · rw [firstOf_snoc]
    by_cases e : d = shaOf x
    · subst e
      rw [has_put_same t1.isMap (klit_key _), hx, if_pos rfl]; rfl
    · rw [has_put_other (fun k => e (klit_inj hd hl k)), h.has1 d hd, if_neg (fun k => e k.symm), Option.or_none]
  · rw [firstOf_snoc] at hy
    by_cases e : d = shaOf x
    · subst e
      rw [hx, if_pos rfl] at hy
      have : x = y := by simpa using hy
      subst this
      exact atKey_put_same t1.isMap (klit_key _) _ _
    · rw [if_neg (fun k => e k.symm), Option.or_none] at hy
      rw [atKey_put_other (fun k => e (klit_inj hd hl k))]
      exact h.at1 d y z hd hy
  · rw [hmore]; exact h.has2 y
  · rw [hmore]; exact h.size2
  · have hs := size_put (k := klit (shaOf x)) t1 (DataW.lit (.string x))
    rw [h.has1 _ hl, hx] at hs
    simp only [Option.isSome_none, Bool.false_eq_true, if_false] at hs
    rw [hs, List.length_append]
    have := h.size
    simp; omega
/-- the same input as the first one of its digest -/
theorem InkInv.same {l : List (List UInt8)} {D1 D2 : DataW Unit} (h : InkInv l D1 D2) (x : List UInt8) (hx : firstOf l (shaOf x) = some x) : InkInv (addInk l x) D1 D2 := by
  have := (firstOf_some hx).1
  unfold addInk
  rw [if_pos this]
  exact h
/-- another input of a digest that another one had first -/
theorem InkInv.other {l : List (List UInt8)} {D1 D2 : DataW Unit} (h : InkInv l D1 D2) (t2 : Tidy D2) (x y : List UInt8) (hx : firstOf l (shaOf x) = some y) (hne : y ≠ x) :
    InkInv (addInk l x) D1 (D2.put (.string x) (.lit (.bool true))) := by
  have hk : WideAt.IsKeyLit (.string x) := trivial
  have hs := size_put (k := .string x) t2 (DataW.lit (H := Unit) (.bool true))
  have hh : ∀ z, Maps.has (D2.put (.string x) (.lit (.bool true))) (.string z) = (decide (z = x) || decide (z ∈ moreOf l)) := fun z => by
    by_cases e : z = x
    · subst e; rw [has_put_same t2.isMap hk]; simp
    · rw [has_put_other (fun k => e (by injection k)), h.has2]; simp [e]
  by_cases hm : x ∈ l
  · have hmo : x ∈ moreOf l := by
      unfold moreOf
      rw [List.mem_filter]
      exact ⟨hm, by rw [hx]; simpa using hne⟩
    have hadd : addInk l x = l := by unfold addInk; rw [if_pos hm]
    rw [hadd]
    rw [h.has2, decide_eq_true hmo] at hs
    simp only [if_true] at hs
    refine ⟨h.nodup, h.has1, h.at1, fun z => ?_, by rw [hs]; exact h.size2, by rw [hs]; exact h.size⟩
    rw [hh]
    by_cases e : z = x
    · subst e; simp [hmo]
    · simp [e]
  · have hadd : addInk l x = l ++ [x] := by unfold addInk; rw [if_neg hm]
    have hfirst : ∀ d, firstOf (l ++ [x]) d = firstOf l d := fun d => by
      rw [firstOf_snoc]
      by_cases e : shaOf x = d
      · subst e; rw [hx]; rfl
      · rw [if_neg e, Option.or_none]
    have hmore : moreOf (l ++ [x]) = moreOf l ++ [x] := by
      unfold moreOf
      rw [List.filter_append]
      congr 1
      · apply List.filter_congr
        intro z _
        rw [hfirst]
      · rw [List.filter_cons, hfirst, hx]
        have : (some y != some x) = true := by simpa using hne
        rw [this]; rfl
    have hno : x ∉ moreOf l := fun hmo => hm (by unfold moreOf at hmo; exact (List.mem_filter.1 hmo).1)
    rw [h.has2, decide_eq_false hno] at hs
    simp only [Bool.false_eq_true, if_false] at hs
    rw [hadd]
    refine ⟨?_, fun d hd => by rw [hfirst]; exact h.has1 d hd, fun d y z hd hy => by rw [hfirst] at hy; exact h.at1 d y z hd hy, fun z => ?_, ?_, ?_⟩
    · rw [List.nodup_append]
      refine ⟨h.nodup, by simp, fun a ha b hb => ?_⟩
      have : b = x := by simpa using hb
      subst this
      exact fun e => hm (e ▸ ha)
    · rw [hh, hmore]
      by_cases e : z = x
      · subst e; simp
      · simp [e]
    · rw [hs, hmore, List.length_append, h.size2]; rfl
    · rw [hs, List.length_append]
      have := h.size
      simp; omega

/-- a clash: an input whose digest is nought alone, or one that is not the first of its digest -/
def clashB (l : List (List UInt8)) : Bool := (firstOf l (List.replicate 32 0)).isSome || decide (0 < (moreOf l).length)

end Go.Proofs.YtcmbmimmfgfefaaGreat
