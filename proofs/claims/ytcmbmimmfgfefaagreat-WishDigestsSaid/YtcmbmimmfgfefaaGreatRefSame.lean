/-
  Contract of bastideref11.Same.
-/
import Derived.Test.YtcmbmimmfgfefaaGreatEqInts
namespace Go.Proofs.YtcmbmimmfgfefaaGreat
set_option linter.unusedVariables false
open Go.RowKit

set_option maxRecDepth 100000 in
set_option maxHeartbeats 4000000 in
theorem refSame_any (x y : Wish) (A : Option Addr) (n c : Nat) (A' : Option Addr) (n' c' : Nat) (D : Option Addr) (m d : Nat) (D' : Option Addr) (m' d' : Nat) (w : World) (B : Nat) (hx : WishIn w B x A n c A' n' c') (hy : WishIn w B y D m d D' m' d') (hB : B ≤ w.heap.size) :
    Calls Tryz.prog 45 #[.agg (wCells x A n c A' n' c'), .agg (wCells y D m d D' m' d')] w fun e w' => e = .returned (.bool (sameW x y)) ∧ Below w.heap.size w w' := by
  have HEB := Lib.hid (fun W (hb : Below w.heap.size w W) => eqBytes_any A D n m c d x.data y.data W B B (hx.data.below (hb.mono hB)) (hy.data.below (hb.mono hB)) (by have := hx.dm; unfold maxLen; omega) (by have := hy.dm; unfold maxLen; omega))
  have HEI := Lib.hid (fun W (hb : Below w.heap.size w W) => eqInts_any A' D' n' m' c' d' x.next y.next W B B (hx.next.below (hb.mono hB)) (hy.next.below (hb.mono hB)) (by have := hx.nm; unfold maxLen; omega) (by have := hy.nm; unfold maxLen; omega))
  clear hx hy
  obtain ⟨xc, xs, xg, xe, xk, xb, xd, xo, xn, xt⟩ := x
  obtain ⟨yc, ys, yg, ye, yk, yb, yd, yo, yn, yt⟩ := y
  simp only at HEB HEI
  unfold wCells sameW
  simp only
  go_enter Tryz.func45, Tryz.ntmps45
  go_upto_region 1 with fail
  have hX : Below w.heap.size w ((w.alloc (.cells #[.int .i64 xc, .int .i64 xs, .int .i64 xg, .int .i64 xe, .int .i64 xk, .int .i64 xb, .slice A n c, .int .i64 xo, .int .i64 xn, .slice A' n' c'] 25)).alloc (.cells #[.int .i64 yc, .int .i64 ys, .int .i64 yg, .int .i64 ye, .int .i64 yk, .int .i64 yb, .slice D m d, .int .i64 yo, .int .i64 yn, .slice D' m' d'] 25)) := ((Below.refl _ _).alloc (Nat.le_refl _) _).alloc (by simp) _
  have k1 : Blk ((w.alloc (.cells #[.int .i64 xc, .int .i64 xs, .int .i64 xg, .int .i64 xe, .int .i64 xk, .int .i64 xb, .slice A n c, .int .i64 xo, .int .i64 xn, .slice A' n' c'] 25)).alloc (.cells #[.int .i64 yc, .int .i64 ys, .int .i64 yg, .int .i64 ye, .int .i64 yk, .int .i64 yb, .slice D m d, .int .i64 yo, .int .i64 yn, .slice D' m' d'] 25)) w.heap.size 25 _ := (Blk.new w _ _).alloc _
  have k2 : Blk ((w.alloc (.cells #[.int .i64 xc, .int .i64 xs, .int .i64 xg, .int .i64 xe, .int .i64 xk, .int .i64 xb, .slice A n c, .int .i64 xo, .int .i64 xn, .slice A' n' c'] 25)).alloc (.cells #[.int .i64 yc, .int .i64 ys, .int .i64 yg, .int .i64 ye, .int .i64 yk, .int .i64 yb, .slice D m d, .int .i64 yo, .int .i64 yn, .slice D' m' d'] 25)) (w.heap.size + 1) 25 _ := Blk.newAt (by simp)
  generalize World.alloc _ _ = w1 at hX k1 k2 ⊢
  have c0 := k1.cell 0
  have c1 := k1.cell 1
  have c2 := k1.cell 2
  have c3 := k1.cell 3
  have c4 := k1.cell 4
  have c5 := k1.cell 5
  have c6 := k1.cell 6
  have c7 := k1.cell 7
  have c8 := k1.cell 8
  have c9 := k1.cell 9
  have d0 := k2.cell 0
  have d1 := k2.cell 1
  have d2 := k2.cell 2
  have d3 := k2.cell 3
  have d4 := k2.cell 4
  have d5 := k2.cell 5
  have d6 := k2.cell 6
  have d7 := k2.cell 7
  have d8 := k2.cell 8
  have d9 := k2.cell 9
  simp only [List.getElem?_toArray, List.getElem?_cons_zero, List.getElem?_cons_succ] at c0 c1 c2 c3 c4 c5 c6 c7 c8 c9 d0 d1 d2 d3 d4 d5 d6 d7 d8 d9
  have HB := Lib.hid hX
  have HE1 := Lib.hid (HEB.out w1 hX)
  have HE2 := Lib.hid (fun q => HEI.out (w1.drewN q) (below_drewN HB.out q))
  clear k1 k2 hX HEB HEI
  obtain ⟨g1, hg1⟩ : ∃ g, g = w.heap.size := ⟨_, rfl⟩
  obtain ⟨g3, hg3⟩ : ∃ g, g = w.heap.size + 1 := ⟨_, rfl⟩
  rw [← hg1] at c0 c1 c2 c3 c4 c5 c6 c7 c8 c9
  rw [← hg3] at d0 d1 d2 d3 d4 d5 d6 d7 d8 d9 ⊢
  rw [← hg1]
  clear hg1 hg3
  go_wp2_with (first
    | (go_at_call 27; refine HE1.out.mono ?_; rintro _ _ ⟨rfl, q, rfl⟩)
    | (go_at_call 62; refine (HE2.out _).mono ?_; rintro _ _ ⟨rfl, q2, rfl⟩))
  all_goals go_ret
  all_goals refine ⟨ret_bool ?_, by first | exact HB.out | exact below_drewN HB.out _ | exact below_drewN (below_drewN HB.out _) _⟩
  all_goals clear HB HE1 HE2 c0 c1 c2 c3 c4 c5 c6 c7 c8 c9 d0 d1 d2 d3 d4 d5 d6 d7 d8 d9
  all_goals rw [Bool.eq_iff_iff]
  all_goals simp_all

end Go.Proofs.YtcmbmimmfgfefaaGreat
