/-
  (*Book).Of of bytes of any number; Len and Clash out of worlds that are alike.
-/
import Derived.Test.YtcmbmimmfgfefaaGreatInkOf
namespace Go.Proofs.YtcmbmimmfgfefaaGreat
set_option linter.unusedVariables false
open Go.RowKit Go.Maps

/-- what a book has once it was asked of bytes of any number -/
def noteInk (l : List (List UInt8)) (x : List UInt8) : List (List UInt8) := if x.length ≤ 65536 then addInk l x else l
def noteN (asked : Nat) (x : List UInt8) : Nat := if x.length ≤ 65536 then asked + 1 else asked
/-- Of's answer -/
structure OfAns (D : Array Value) (code : Int) (x : List UInt8) : Prop where
  size : D.size = 32
  one : D.all (·.oneCell') = true
  small : x.length ≤ 65536 → code = 0 ∧ D = bRow (shaOf x)
  big : 65536 < x.length → code = 5 ∧ D = inkZ
theorem noteN_le (asked : Nat) (x : List UInt8) : noteN asked x ≤ asked + 1 := by unfold noteN; split <;> omega

theorem inkOf_all (k : Book) (l : List (List UInt8)) (asked : Nat) (A : Option Addr) (n c : Nat) (xs : List UInt8) (w : World) (B : Nat) (hbk : BookAt w k l asked) (h : Reads w B 1 A n (xs.map vb)) (hB : B ≤ w.heap.size)
    (hk : ∀ a, 0 < n → A = some a → ¬ k.has a.block) (hc : n ≤ c) (hcm : c ≤ maxLen) (has : asked ≤ 1000000) :
    Calls Tryz.prog 16 #[.pointer (some ⟨k.g, 0, none⟩), .slice A n c] w fun e w' => ∃ D code, e = .returned (.tuple #[.agg D, .int .i64 code]) ∧ OfAns D code xs ∧ BookAt w' k (noteInk l xs) (noteN asked xs) ∧ OnlyBook k w w' := by
  have hxn : xs.length = n := by have := h.1; simpa using this
  by_cases hn : n ≤ 65536
  · refine (inkOf_any k l asked A n c xs w B hbk h hB (fun a h0 ha e => hk a h0 ha (.inl e)) hc hcm hn has).mono ?_
    rintro e w' ⟨rfl, hb, ho⟩
    have hx : xs.length ≤ 65536 := by omega
    refine ⟨_, _, rfl, ⟨by rw [bRow_size, shaOf_len], bRow_one _, fun _ => ⟨rfl, rfl⟩, fun hh => absurd hh (by omega)⟩, ?_, ho⟩
    unfold noteInk noteN
    rw [if_pos hx, if_pos hx]
    exact hb
  · refine (inkOf_big k l asked A n c w hbk (by omega) hc hcm).mono ?_
    rintro e w' ⟨rfl, hb⟩
    have hx : ¬ xs.length ≤ 65536 := by omega
    refine ⟨_, _, rfl, ⟨by simp [inkZ, bRow], bRow_one _, fun hh => absurd hh hx, fun _ => ⟨rfl, rfl⟩⟩, ?_, OnlyBook.of_below hb⟩
    unfold noteInk noteN
    rw [if_neg hx, if_neg hx]
    exact hbk.below hb
theorem clash_one (x : List UInt8) : clashB (addInk [] x) = (shaOf x == List.replicate 32 0) := by
  have h1 : addInk [] x = [x] := by unfold addInk; simp
  have h2 : firstOf [x] (shaOf x) = some x := by unfold firstOf; simp
  have h3 : moreOf [x] = [] := by unfold moreOf; simp [h2]
  unfold clashB
  rw [h1, h3]
  unfold firstOf
  generalize (List.replicate 32 0 : List UInt8) = z
  by_cases h : shaOf x = z <;> simp [h]
theorem Book.apart_of {k q : Book} {B : Nat} (hk : k.g < B ∧ k.b1 < B ∧ k.b2 < B) (hq : B ≤ q.g ∧ B ≤ q.b1 ∧ B ≤ q.b2) : (¬ q.has k.g ∧ ¬ q.has k.b1 ∧ ¬ q.has k.b2) ∧ (¬ k.has q.g ∧ ¬ k.has q.b1 ∧ ¬ k.has q.b2) := by
  refine ⟨⟨?_, ?_, ?_⟩, ?_, ?_, ?_⟩ <;> rintro (e | e | e) <;> omega

end Go.Proofs.YtcmbmimmfgfefaaGreat
