/-
  Arguments that are wishes, opened.
-/
import Derived.Test.YtcmbmimmfgfefaaWishVal
import Derived.Test.YtcmbmimmfgfefaaOpen
namespace Go.Proofs.Ytcmbmimmfgfefaa
set_option linter.unusedVariables false
open Go.RowKit Go.WideShapes Go.ChangeShapes

theorem light_struct {H : Type} {P : Program} {t : TypeId} {fs : Array Field} {ds : List (DataW H)} (ht : P.underlying t = some (.struct fs)) (h : Light P t (.agg ds)) (j : Nat) (f : Field) (d : DataW H) (hf : fs[j]? = some f) (hd : ds[j]? = some d) : Light P f.type d := by
  unfold Light at h
  rw [DataW.weights] at h
  simp only [ht] at h
  refine fun n hn => h n (DataW.weights_mem_each (j := j) ?_ hd n hn)
  rw [List.getElem?_map, Array.getElem?_toList, hf]
  rfl

section
variable {H : Type} {enc : TypeId × Value → H} {w : World} {held : Bool}

set_option maxRecDepth 100000 in
set_option maxHeartbeats 1000000 in
theorem open_wish {fuel : Nat} {cs : List Value} {x : DataW H × List MemPlace}
    (h : DataW.trod enc Try.prog w 0 (fun _ => true) held fuel 26 cs = some x) (hw : Light Try.prog 26 x.1) :
    ∃ (y : Wish) (A : Option Addr) (n c : Nat) (A' : Option Addr) (n' c' : Nat), cs = (wCells y A n c A' n' c').toList ∧ WishIn w w.heap.size y A n c A' n' c' := by
  obtain ⟨xs, m, _, rfl, hl, hlen, hf⟩ := DataW.trod_struct Try.underlying26 h
  have hl10 : cs.length = 10 := by rw [hl]; kernel_rfl
  match cs, hl10 with
  | [v0, v1, v2, v3, v4, v5, v6, v7, v8, v9], _ =>
    match xs, hlen with
    | [y0, y1, y2, y3, y4, y5, y6, y7, y8, y9], _ =>
      have e0 : DataW.trod enc Try.prog w 0 (fun _ => true) held m 3 [v0] = some y0 := hf 0 _ rfl
      have e1 : DataW.trod enc Try.prog w 0 (fun _ => true) held m 3 [v1] = some y1 := hf 1 _ rfl
      have e2 : DataW.trod enc Try.prog w 0 (fun _ => true) held m 3 [v2] = some y2 := hf 2 _ rfl
      have e3 : DataW.trod enc Try.prog w 0 (fun _ => true) held m 3 [v3] = some y3 := hf 3 _ rfl
      have e4 : DataW.trod enc Try.prog w 0 (fun _ => true) held m 3 [v4] = some y4 := hf 4 _ rfl
      have e5 : DataW.trod enc Try.prog w 0 (fun _ => true) held m 3 [v5] = some y5 := hf 5 _ rfl
      have e6 : DataW.trod enc Try.prog w 0 (fun _ => true) held m 22 [v6] = some y6 := hf 6 _ rfl
      have e7 : DataW.trod enc Try.prog w 0 (fun _ => true) held m 3 [v7] = some y7 := hf 7 _ rfl
      have e8 : DataW.trod enc Try.prog w 0 (fun _ => true) held m 3 [v8] = some y8 := hf 8 _ rfl
      have e9 : DataW.trod enc Try.prog w 0 (fun _ => true) held m 24 [v9] = some y9 := hf 9 _ rfl
      have l6 := light_struct Try.underlying26 hw 6 _ y6.1 rfl rfl
      have l9 := light_struct Try.underlying26 hw 9 _ y9.1 rfl rfl
      obtain ⟨z0, q0, _, w0⟩ := DataW.trod_int Try.underlying3 e0
      obtain ⟨z1, q1, _, w1⟩ := DataW.trod_int Try.underlying3 e1
      obtain ⟨z2, q2, _, w2⟩ := DataW.trod_int Try.underlying3 e2
      obtain ⟨z3, q3, _, w3⟩ := DataW.trod_int Try.underlying3 e3
      obtain ⟨z4, q4, _, w4⟩ := DataW.trod_int Try.underlying3 e4
      obtain ⟨z5, q5, _, w5⟩ := DataW.trod_int Try.underlying3 e5
      obtain ⟨z7, q7, _, w7⟩ := DataW.trod_int Try.underlying3 e7
      obtain ⟨z8, q8, _, w8⟩ := DataW.trod_int Try.underlying3 e8
      obtain ⟨A, n, c, bs, q6, r6, h6, h6'⟩ := open_bytes Try.underlying22 Try.underlying5 (by kernel_rfl) (by kernel_rfl) e6 l6
      obtain ⟨A', n', c', zs, q9, r9, h9, h9', hz⟩ := open_nums Try.underlying24 Try.underlying3 (by kernel_rfl) (by kernel_rfl) e9 l9
      simp only [List.cons.injEq, and_true] at q0 q1 q2 q3 q4 q5 q6 q7 q8 q9
      subst q0 q1 q2 q3 q4 q5 q6 q7 q8 q9
      unfold reachBytes at h6' h9'
      exact ⟨⟨z0, z1, z2, z3, z4, z5, bs, z7, z8, zs⟩, A, n, c, A', n', c', rfl, r6, h6, by omega, r9, h9, by omega, bounds_i64 w0, bounds_i64 w1, bounds_i64 w2, bounds_i64 w3, bounds_i64 w4, bounds_i64 w5, bounds_i64 w7, bounds_i64 w8, hz⟩
end

end Go.Proofs.Ytcmbmimmfgfefaa
