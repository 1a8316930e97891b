/-
  Contract of the helper CopyBytes; bytes in memory of their own.
-/
import Derived.Test.YtcmbmimmfgfefaaGreatRows
import Derived.Test.YtcmbmimmfgfefaaGreatWord
import Derived.Deep.LoopGhost
namespace Go.Proofs.YtcmbmimmfgfefaaGreat
set_option linter.unusedVariables false
open Go.RowKit

theorem u8_info : (Tryz.prog.info? 5).map (fun i => (i.zero, i.size, i.bytes)) = some (some (.int .u8 0), 1, 1) := by kernel_rfl

/-- bytes in memory that is nobody else's -/
def OwnB (w : World) (base : Nat) (v : Value) (xs : List UInt8) : Prop := w.ownsRow base 5 1 v xs.length (xs.map vb)

theorem own_slice_b {w : World} {B : Nat} {v : Value} {xs : List UInt8} (h : OwnB w B v xs) : ∃ A c, v = .slice A xs.length c ∧ xs.length ≤ c ∧ c ≤ maxLen ∧ Reads w w.heap.size 1 A xs.length (xs.map vb) ∧ (∀ ad, A = some ad → B ≤ ad.block) := by
  have hr := fun A c (hv : v = .slice A xs.length c) => Reads.of_own (A := A) (c := c) (by rw [← hv]; exact h)
  rcases h.2 with ⟨rfl, h0⟩ | ⟨g, cap, cur, rfl, hg, _, h1, h2, _⟩
  · exact ⟨none, 0, by rw [h0], by omega, by unfold maxLen; omega, hr none 0 (by rw [h0]), fun _ h => by cases h⟩
  · exact ⟨_, cap, rfl, h1, h2, hr _ _ rfl, fun ad h => by injection h with h; subst h; exact hg⟩
theorem OwnB.reads {w : World} {B : Nat} {A : Option Addr} {n c : Nat} {xs : List UInt8} (h : OwnB w B (.slice A n c) xs) : n = xs.length ∧ n ≤ c ∧ c ≤ maxLen ∧ Reads w w.heap.size 1 A n (xs.map vb) ∧ (∀ ad, A = some ad → B ≤ ad.block) := by
  obtain ⟨A', c', e, h1, h2, h3, h4⟩ := own_slice_b h
  injection e with e1 e2 e3
  subst e1 e2 e3
  exact ⟨rfl, h1, h2, h3, h4⟩
theorem OwnB.reads' {w : World} {B : Nat} {A : Option Addr} {n c : Nat} {v : Value} {xs : List UInt8} (h : OwnB w B v xs) (hv : v = .slice A n c) : Reads w w.heap.size 1 A n (xs.map vb) := by
  subst hv
  exact h.reads.2.2.2.1
theorem OwnB.nil (w : World) (B : Nat) : OwnB w B (.slice none 0 0) [] := ⟨by simp, .inl ⟨rfl, by simp⟩⟩
theorem OwnB.ge {w : World} {B b : Nat} {v : Value} {xs : List UInt8} (h : OwnB w B v xs) (hb : v.ownBlock = some b) : B ≤ b := by
  rcases h.2 with ⟨rfl, _⟩ | ⟨g, cap, cur, rfl, hg, _⟩
  · simp [Value.ownBlock] at hb
  · simp [Value.ownBlock] at hb; omega
theorem OwnB.lt {w : World} {B b : Nat} {v : Value} {xs : List UInt8} (h : OwnB w B v xs) (hb : v.ownBlock = some b) : b < w.heap.size := by
  rcases h.2 with ⟨rfl, _⟩ | ⟨g, cap, cur, rfl, hg, hh, _⟩
  · simp [Value.ownBlock] at hb
  · simp [Value.ownBlock] at hb; subst hb
    rcases Nat.lt_or_ge g w.heap.size with h | h
    · exact h
    · rw [Array.getElem?_eq_none h] at hh; cases hh
theorem OwnB.keep {w w' : World} {B : Nat} {v : Value} {xs : List UInt8} (h : OwnB w B v xs) (hk : ∀ b, v.ownBlock = some b → w'.heap[b]? = w.heap[b]?) : OwnB w' B v xs := by
  refine ⟨h.1, ?_⟩
  rcases h.2 with h0 | ⟨g, cap, cur, rfl, hg, hh, h1⟩
  · exact .inl h0
  · exact .inr ⟨g, cap, cur, rfl, hg, (hk g rfl).trans hh, h1⟩
theorem OwnB.below {w w' : World} {B : Nat} {v : Value} {xs : List UInt8} (h : OwnB w B v xs) (hb : Below w.heap.size w w') : OwnB w' B v xs := h.keep fun b hv => hb.block b (h.lt hv)
theorem OwnB.more {w : World} {B B' : Nat} {v : Value} {xs : List UInt8} (h : OwnB w B v xs) (hB : B' ≤ B) : OwnB w B' v xs := by
  refine ⟨h.1, ?_⟩
  rcases h.2 with h0 | ⟨g, cap, cur, rfl, hg, hh, h1⟩
  · exact .inl h0
  · exact .inr ⟨g, cap, cur, rfl, by omega, hh, h1⟩
theorem grown_below {B : Nat} {w0 w w' : World} {row : Option Nat} (hb : Below B w0 w) (hB : B ≤ w.heap.size) (hg : w.grownBy w' row) (hr : ∀ b, row = some b → B ≤ b) : Below B w0 w' :=
  hb.trans ((Below.refl B w).grown hg hB hr)

theorem OwnB.apart {w w' : World} {B : Nat} {v : Value} {xs : List UInt8} {row : Option Nat} (h : OwnB w B v xs) (hg : w.grownBy w' row) (hne : ∀ b, v.ownBlock = some b → some b ≠ row) : OwnB w' B v xs :=
  h.keep fun b hb => hg.block b (h.lt hb) (hne b hb)

set_option maxHeartbeats 400000 in
theorem copyBytes_any (A : Option Addr) (n c : Nat) (xs : List UInt8) (w : World) (B : Nat) (h : Reads w B 1 A n (xs.map vb)) (hB : B ≤ w.heap.size) (hn : n ≤ 140737488355328) :
    Calls Tryz.prog 39 #[.slice A n c] w fun e w' => ∃ v, e = .returned v ∧ OwnB w' w.heap.size v xs ∧ Below w.heap.size w w' := by
  have hxn : xs.length = n := by have := h.1; simpa using this
  have HXN := Lib.hid hxn
  clear hxn
  go_enter Tryz.func39, Tryz.ntmps39
  obtain ⟨i0, hi0, hz0, hz1, hz2⟩ := info_parts u8_info
  go_wp2_with (at_builtin; go_must (refine wpList_append_any _ rfl (.tmp 4) (.tmp 5) 22 rfl w.heap.size 5 i0 _ 1 1 Tryz.underlying22 hi0 hz0 hz1 hz2 rfl (by omega) (.slice none 0 0) 0 [] rfl ⟨by simp, .inl ⟨rfl, rfl⟩⟩ B A n c (xs.map vb) rfl h ?c1 ?c2 ?c3 ?c4 ?_))
  case c1 => intro u hu; obtain ⟨x, _, rfl⟩ := List.mem_map.1 hu; rfl
  case c2 => unfold maxLen; omega
  case c3 => omega
  case c4 => omega
  intro v1 w1 hown1 hg1 hor
  go_wp2
  go_ret
  refine ⟨v1, rfl, ?_, (Below.refl _ _).grown hg1 (Nat.le_refl _) (fun b hb => by simp [Value.ownBlock] at hb)⟩
  unfold OwnB
  rw [HXN.out]
  simpa using hown1

end Go.Proofs.YtcmbmimmfgfefaaGreat
