/-
  Contracts of ink.New, (*Book).none, Of, Len, Asked, Clash.
-/
import Derived.Test.YtcmbmimmfgfefaaGreatInkMap
import Derived.Test.YtcmbmimmfgfefaaGreatShaOf
import Derived.Test.YtcmbmimmfgfefaaGreatBeside
import Derived.Test.YtcmbmimmfgfefaaGreatCalm
import Derived.Laws.IdiomStrings
import Derived.Laws.BytesArg
namespace Go.Proofs.YtcmbmimmfgfefaaGreat
set_option linter.unusedVariables false
open Go.RowKit Go.Maps

/-- a book: block g holds it, b1 and b2 its maps -/
structure Book where
  g : Nat
  b1 : Nat
  b2 : Nat
def Book.has (k : Book) (b : Nat) : Prop := b = k.g ∨ b = k.b1 ∨ b = k.b2
def bookCells (k : Book) (asked : Int) : Array Value := #[.map (some k.b1), .map (some k.b2), .int .i64 asked]
structure BookAt (w : World) (k : Book) (l : List (List UInt8)) (asked : Nat) : Prop where
  cells : Blk w k.g 50 (bookCells k asked)
  maps : ∃ (D1 D2 : DataW Unit) (n1 n2 : Nat), w.ownsMap Tryz.prog 32 (plainElem Tryz.prog 9) k.b1 n1 D1 ∧ w.ownsMap Tryz.prog 9 (plainElem Tryz.prog 4) k.b2 n2 D2 ∧ InkInv l D1 D2
  len : l.length ≤ asked
  apart : k.g ≠ k.b1 ∧ k.g ≠ k.b2 ∧ k.b1 ≠ k.b2

theorem ownsMap_tight {P : Program} {T : TypeId} {R : Value → Option (DataW Unit × List MemPlace)} {w : World} {b n : Nat} {D : DataW Unit} (h : w.ownsMap P T R b n D) : w.ownsMap P T R b (Maps.size D) D := by
  obtain ⟨es, c, hb, F, hs, rfl⟩ := h
  exact ⟨es, c, hb, F, by simp [Maps.size, length_sorted], rfl⟩

/-- of what was there, a book's blocks alone may have turned -/
structure OnlyBook (k : Book) (w w' : World) : Prop where
  os : w'.os = w.os
  tape : w'.tape = w.tape
  output : w'.output = w.output
  size : w.heap.size ≤ w'.heap.size
  block : ∀ i, i < w.heap.size → ¬ k.has i → w'.heap[i]? = w.heap[i]?
theorem OnlyBook.refl (k : Book) (w : World) : OnlyBook k w w := ⟨rfl, rfl, rfl, Nat.le_refl _, fun _ _ _ => rfl⟩
theorem OnlyBook.trans {k : Book} {a b c : World} (h : OnlyBook k a b) (h' : OnlyBook k b c) : OnlyBook k a c :=
  ⟨h'.os.trans h.os, h'.tape.trans h.tape, h'.output.trans h.output, Nat.le_trans h.size h'.size, fun i hi hn => (h'.block i (Nat.lt_of_lt_of_le hi h.size) hn).trans (h.block i hi hn)⟩
theorem OnlyBook.of_below {k : Book} {w w' : World} (h : Below w.heap.size w w') : OnlyBook k w w' := ⟨h.os, h.tape, h.output, h.size, fun i hi _ => h.block i hi⟩
theorem OnlyBook.of_grown {k : Book} {w w' : World} {b : Nat} (h : w.grownBy w' (some b)) (hb : k.has b) : OnlyBook k w w' :=
  ⟨h.os, h.tape, h.output, h.size, fun i hi hn => h.block i hi (fun e => hn (by injection e with e; exact e ▸ hb))⟩
theorem OnlyBook.below {k : Book} {w0 w w' : World} {B : Nat} (h : OnlyBook k w w') (hb : Below B w0 w) (hB : B ≤ w.heap.size) (hk : B ≤ k.g ∧ B ≤ k.b1 ∧ B ≤ k.b2) : Below B w0 w' :=
  hb.trans ⟨h.os, h.tape, h.output, h.size, fun i hi => h.block i (by omega) (by rintro (e | e | e) <;> omega)⟩
theorem BookAt.below {w w' : World} {k : Book} {l : List (List UInt8)} {n : Nat} (h : BookAt w k l n) (hb : Below w.heap.size w w') : BookAt w' k l n := by
  obtain ⟨D1, D2, n1, n2, h1, h2, h3⟩ := h.maps
  have hg := only_of_below hb none
  exact ⟨h.cells.below' hb, ⟨D1, D2, n1, n2, h1.kept hg (by simp), h2.kept hg (by simp), h3⟩, h.len, h.apart⟩
theorem BookAt.lt {w : World} {k : Book} {l : List (List UInt8)} {n : Nat} (h : BookAt w k l n) : k.g < w.heap.size ∧ k.b1 < w.heap.size ∧ k.b2 < w.heap.size := by
  obtain ⟨D1, D2, n1, n2, h1, h2, h3⟩ := h.maps
  exact ⟨h.cells.lt, h1.lt, h2.lt⟩
/-- a book beside another one that turns -/
theorem BookAt.beside {w w' : World} {k q : Book} {l : List (List UInt8)} {n : Nat} (h : BookAt w k l n) (ho : OnlyBook q w w') (ha : ¬ q.has k.g ∧ ¬ q.has k.b1 ∧ ¬ q.has k.b2) : BookAt w' k l n := by
  obtain ⟨D1, D2, n1, n2, h1, h2, h3⟩ := h.maps
  have hl := h.lt
  refine ⟨(ho.block _ hl.1 ha.1).trans h.cells, ⟨D1, D2, n1, n2, ?_, ?_, h3⟩, h.len, h.apart⟩
  · obtain ⟨es, c, hb, F, hs, hD⟩ := h1
    exact ⟨es, c, (ho.block _ hl.2.1 ha.2.1).trans hb, F, hs, hD⟩
  · obtain ⟨es, c, hb, F, hs, hD⟩ := h2
    exact ⟨es, c, (ho.block _ hl.2.2 ha.2.2).trans hb, F, hs, hD⟩

theorem ownsMap_drewN {P : Program} {T : TypeId} {R : Value → Option (DataW Unit × List MemPlace)} {w : World} {b n : Nat} {D : DataW Unit} (h : w.ownsMap P T R b n D) (q : Nat) : (w.drewN q).ownsMap P T R b n D := h
theorem BookAt.drewN {w : World} {k : Book} {l : List (List UInt8)} {n : Nat} (h : BookAt w k l n) (q : Nat) : BookAt (w.drewN q) k l n := h.below (below_drewN (Below.refl _ _) q)

set_option maxRecDepth 100000 in
theorem inkNew_any (w : World) : Calls Tryz.prog 4 #[] w fun e w' => ∃ k : Book, e = .returned (.pointer (some ⟨k.g, 0, none⟩)) ∧ BookAt w' k [] 0 ∧ (w.heap.size ≤ k.g ∧ w.heap.size ≤ k.b1 ∧ w.heap.size ≤ k.b2) ∧ Below w.heap.size w w' := by
  have hmm := @run_makeMap Tryz.prog
  go_enter Tryz.func4, Tryz.ntmps4
  go_wp2
  go_ret
  refine ⟨⟨w.heap.size + 1 + 1, w.heap.size, w.heap.size + 1⟩, rfl, ⟨Blk.newAt (by simp), ⟨.map [], .map [], 0, 0, ?_, ?_, InkInv.start⟩, Nat.le_refl _, by simp; omega⟩, by simp; omega, ?_⟩
  · exact ((World.ownsMap_made w _ _ _).alloc _).alloc _
  · have := (World.ownsMap_made (H := Unit) (w.alloc (.map #[] 0)) Tryz.prog 9 (plainElem Tryz.prog 4)).alloc (.cells (bookCells ⟨w.heap.size + 1 + 1, w.heap.size, w.heap.size + 1⟩ 0) 50)
    rw [show (w.alloc (.map #[] 0)).heap.size = w.heap.size + 1 by simp] at this
    exact this
  · exact (((Below.refl _ _).alloc (Nat.le_refl _) _).alloc (by simp) _).alloc (by simp; omega) _

theorem bookNone_false (k : Book) (l : List (List UInt8)) (n : Nat) (w : World) (h : BookAt w k l n) :
    Calls Tryz.prog 21 #[.pointer (some ⟨k.g, 0, none⟩)] w fun e w' => e = .returned (.bool false) ∧ w = w' := by
  have c0 : w.cell? ⟨k.g, 0, none⟩ = some (.map (some k.b1)) := (h.cells.cell 0).trans rfl
  have hmn := run_eql_map_nil (P := Tryz.prog) w 42 32 9 (some k.b1) Tryz.underlying42
  clear h
  go_enter Tryz.func21, Tryz.ntmps21
  go_wp2
  go_ret
  exact ⟨rfl, rfl⟩
theorem addI64_any (a : Addr) (s : Nat) (w : World) (hc : w.cell? a = some (.int .i64 (s : Int))) (hz : w.frozen? a = false) (hs : s + 1 < 9223372036854775808) :
    Calls Tryz.prog 32 #[.pointer (some a), .int .i64 1] w fun e w' => e = .returned (.int .i64 ((s + 1 : Nat) : Int)) ∧ w' = w.setCell a (.int .i64 ((s + 1 : Nat) : Int)) := by
  have hadd := run_call_add (P := Tryz.prog) Tryz.func48 (by kernel_rfl) (by kernel_rfl) (by kernel_rfl) .i64 (by kernel_rfl) (y := 1) (s := ((s + 1 : Nat) : Int)) hc hz (by simp [go_sem]; exact IntWalk.i64_in _ (by omega))
  go_enter Tryz.func32, Tryz.ntmps32
  go_wp2
  go_ret
  exact ⟨rfl, rfl⟩
theorem look_dig {w : World} {b n : Nat} {l : List (List UInt8)} {D1 D2 : DataW Unit} (h : w.ownsMap Tryz.prog 32 (plainElem Tryz.prog 9) b n D1) (hi : InkInv l D1 D2) (d : List UInt8) (hd : d.length = 32) :
    (Instr.lookup 42 (.map (some b)) (.agg (bRow d)) true).run Tryz.prog w = .ok (.tuple #[.string ⟨((firstOf l d).getD []).toArray⟩, .bool (firstOf l d).isSome]) w := by
  obtain ⟨v, ps, hrun, hv⟩ := h.look_ok digKeyed Tryz.underlying42 (Tryz.zeroValue9 w) (plainElem_string Tryz.underlying9 (s := ⟨#[]⟩) (by unfold maxLen; show (0 : Nat) ≤ _; omega)) (keyOf_dig d hd)
  rw [hi.has1 d hd] at hrun
  obtain ⟨s, rfl, hs, _⟩ := plainElem_string_inv Tryz.underlying9 hv
  have he : D1.atKey (klit d) (.lit (.string [])) = .lit (.string ((firstOf l d).getD [])) := by
    cases hf : firstOf l d with
    | some y => exact hi.at1 d y _ hd hf
    | none => exact atKey_of_not_has (by rw [hi.has1 d hd, hf]; rfl) _
  have hs1 : D1.atKey (klit d) (.lit (.string [])) = .lit (.string s.data.toList) := congrArg Prod.fst hs
  rw [he] at hs1
  have hs2 : (firstOf l d).getD [] = s.data.toList := Lit.string.inj (DataW.lit.inj hs1)
  rw [hrun, hs2]
def zdigA : List UInt8 := List.replicate 32 0

end Go.Proofs.YtcmbmimmfgfefaaGreat
