/-
  Bytes that a loop adds one to.
-/
import Derived.Test.YtcmbmimmfgfefaaCopy
import Derived.Test.YtcmbmimmfgfefaaRow
namespace Go.Proofs.Ytcmbmimmfgfefaa
set_option linter.unusedVariables false
open Go.RowKit

def InB (w : World) (v : Value) (t : Nat) : Prop := t = 0 ∨ ∃ gi cap cur, v = .slice (some ⟨gi, 0, none⟩) t cap ∧ Blk w gi 5 cur ∧ ∀ p, p < t → ∃ x : UInt8, cur[p]? = some (vb x)
theorem InB.of_own {w : World} {B : Nat} {v : Value} {xs : List UInt8} (h : OwnB w B v xs) : InB w v xs.length := by
  rcases h.2 with ⟨_, h0⟩ | ⟨g, cap, cur, rfl, hg, hh, h1, h2, h3, h4⟩
  · exact .inl h0
  · refine .inr ⟨g, cap, cur, rfl, hh, fun p hp => ⟨xs[p], ?_⟩⟩
    have : (cur.toList.take (xs.length * 1))[p]? = some (vb xs[p]) := by rw [h4, List.getElem?_map, List.getElem?_eq_getElem hp]; rfl
    rw [Nat.mul_one, List.getElem?_take, if_pos hp] at this
    simpa using this
theorem bump_byte (x : UInt8) : (bi x + 1) % 256 = bi (x + 1) := by
  unfold bi; rw [UInt8.toNat_add]; simp
theorem bump_set {cur : Array Value} {t j : Nat} (h : ∀ p, p < t → ∃ x : UInt8, cur[p]? = some (vb x)) (u : UInt8) : ∀ p, p < t → ∃ x : UInt8, (cur.setIfInBounds j (vb u))[p]? = some (vb x) := fun p hp => by
  obtain ⟨y, hy⟩ := h p hp
  by_cases e : j = p
  · subst e
    exact ⟨u, by rw [Array.getElem?_setIfInBounds, if_pos rfl, if_pos (by rcases Nat.lt_or_ge j cur.size with h | h; exact h; rw [Array.getElem?_eq_none h] at hy; cases hy)]⟩
  · exact ⟨y, by rw [Array.getElem?_setIfInBounds, if_neg e]; exact hy⟩

end Go.Proofs.Ytcmbmimmfgfefaa
