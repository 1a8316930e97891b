/-
  Slice expressions, as lists that memory reads as. No program is named.
-/
import Derived.Test.YtcmbmimmfgfefaaGreatRow
namespace Go.Proofs.YtcmbmimmfgfefaaGreat
set_option linter.unusedVariables false
open Go.RowKit

/-- 'x[:h]' of a slice, one cell an element -/
theorem run_slice_to {P : Program} {t e : TypeId} (ht : P.underlying t = some (.slice e)) (hs : (P.info? e).map (·.size) = some 1) (A : Option Addr) (len cap h : Nat) (hi : Int) (eh : hi = h) (hl : h ≤ cap) (W : World) :
    (Instr.slice t (.slice A len cap) none (some (.int .i64 hi)) none).run P W = .ok (.slice (if cap = 0 then A else A.map (·.add 0)) h cap) W := by
  subst eh
  obtain ⟨i, hi, hsz⟩ : ∃ i, P.info? e = some i ∧ i.size = 1 := by
    cases hh : P.info? e with
    | none => rw [hh] at hs; cases hs
    | some i => rw [hh] at hs; exact ⟨i, rfl, by simpa using hs⟩
  have he : P.elem t = e := by simp [Program.elem, ht]
  rw [run_slice_h W t A len cap (by rw [he]; exact ht) .i64 (h : Int) (by omega) (by omega)]
  simp [he, sizeOf, typeInfo, hi, hsz, sliced]
theorem Reads.to {w : World} {B n : Nat} {A : Option Addr} {xs : List Value} (h : Reads w B 1 A n xs) {k cap : Nat} (hk : k ≤ n) (hc : n ≤ cap) :
    Reads w B 1 (if cap = 0 then A else A.map (·.add 0)) k (xs.take k) := by
  refine ⟨by have := h.1; simp; omega, fun hn => ?_⟩
  obtain ⟨ad, rfl, hb, hcell⟩ := h.2 (by omega)
  rw [if_neg (by omega)]
  refine ⟨ad.add 0, rfl, by rw [block_of_add]; exact hb, fun j u hu => ?_⟩
  rw [add_of_add, Nat.zero_add]
  refine hcell j u ?_
  rw [List.getElem?_take] at hu
  split at hu
  · exact hu
  · cases hu

theorem grown_below' {B : Nat} {w0 w w' : World} {g : Nat} (hb : Below B w0 w) (hB : B ≤ w.heap.size) (hg : w.grownBy w' (some g)) (hr : B ≤ g) : Below B w0 w' :=
  hb.trans ((Below.refl B w).grown hg hB (fun b h => by injection h with h; omega))

/-- 'x[l:h]' of a slice, one cell an element -/
theorem run_slice_mid {P : Program} {t e : TypeId} (ht : P.underlying t = some (.slice e)) (hs : (P.info? e).map (·.size) = some 1) (A : Option Addr) (len cap l h : Nat) (li hi : Int) (el : li = l) (eh : hi = h) (hl : l ≤ h) (hh : h ≤ cap) (W : World) :
    (Instr.slice t (.slice A len cap) (some (.int .i64 li)) (some (.int .i64 hi)) none).run P W = .ok (.slice (if cap = l then A else A.map (·.add l)) (h - l) (cap - l)) W := by
  subst el eh
  obtain ⟨i, hi, hsz⟩ : ∃ i, P.info? e = some i ∧ i.size = 1 := by
    cases hh : P.info? e with
    | none => rw [hh] at hs; cases hs
    | some i => rw [hh] at hs; exact ⟨i, rfl, by simpa using hs⟩
  have he : P.elem t = e := by simp [Program.elem, ht]
  rw [run_slice_lh W t A len cap (by rw [he]; exact ht) .i64 .i64 (l : Int) (h : Int) (by omega) (by omega) (by omega)]
  simp [he, sizeOf, typeInfo, hi, hsz, sliced]

end Go.Proofs.YtcmbmimmfgfefaaGreat
