/-
  Contract of wish.Same.
-/
import Derived.Test.YtcmbmimmfgfefaaWorksW
namespace Go.Proofs.Ytcmbmimmfgfefaa
set_option linter.unusedVariables false
open Go.RowKit
attribute [local irreducible] wpCalm

theorem same_parts (x y : Wish) : sameW x y = (decide (x.data = y.data) && decide (x.next = y.next) && (eightW x == eightW y)) := by
  rw [Bool.eq_iff_iff]
  unfold sameW eightW
  simp only [decide_eq_true_eq, Bool.and_eq_true, beq_iff_eq, List.cons.injEq, and_true]
  constructor
  · rintro ⟨h1, h2, h3, h4, h5, h6, h7, h8, h9, h10⟩; exact ⟨⟨h7, h10⟩, h1, h2, h3, h4, h5, h6, h8, h9⟩
  · rintro ⟨⟨h7, h10⟩, h1, h2, h3, h4, h5, h6, h8, h9⟩; exact ⟨h1, h2, h3, h4, h5, h6, h7, h8, h9, h10⟩

set_option maxRecDepth 100000 in
set_option maxHeartbeats 4000000 in
theorem wishSame_any (x y : Wish) (A : Option Addr) (n c : Nat) (A' : Option Addr) (n' c' : Nat) (D : Option Addr) (m d : Nat) (D' : Option Addr) (m' d' : Nat) (w : World) (B : Nat) (hx : WishIn w B x A n c A' n' c') (hy : WishIn w B y D m d D' m' d') (hB : B ≤ w.heap.size) :
    Calls Try.prog 19 #[.agg (wCells x A n c A' n' c'), .agg (wCells y D m d D' m' d')] w fun e w' => e = .returned (.bool (sameW x y)) ∧ Below w.heap.size w w' := by
  have hX : Below w.heap.size w ((w.alloc (.cells (wCells x A n c A' n' c') 26)).alloc (.cells (wCells y D m d D' m' d') 26)) := ((Below.refl _ _).alloc (Nat.le_refl _) _).alloc (by simp) _
  have k1 : Blk ((w.alloc (.cells (wCells x A n c A' n' c') 26)).alloc (.cells (wCells y D m d D' m' d') 26)) w.heap.size 26 (wCells x A n c A' n' c') := (Blk.new w _ _).alloc _
  have k2 : Blk ((w.alloc (.cells (wCells x A n c A' n' c') 26)).alloc (.cells (wCells y D m d D' m' d') 26)) (w.heap.size + 1) 26 (wCells y D m d D' m' d') := Blk.newAt (by simp)
  have HEB := Lib.hid (fun W (hb : Below w.heap.size w W) => bEqual_any A D n m c d x.data y.data W B B (hx.data.below (hb.mono hB)) (hy.data.below (hb.mono hB)))
  have HEI := Lib.hid (fun W (hb : Below w.heap.size w W) => slEqual_any A' D' n' m' c' d' x.next y.next W B B (hx.next.below (hb.mono hB)) (hy.next.below (hb.mono hB)) (by have := hx.nm; unfold maxLen; omega) (by have := hy.nm; unfold maxLen; omega))
  have HSP := Lib.hid (same_parts x y)
  have HX := Lib.hid hX
  have K1 := Lib.hid k1
  have K2 := Lib.hid k2
  clear hx hy hX k1 k2
  go_enter Try.func19, Try.ntmps19
  go_upto_region 1 with fail
  generalize World.alloc _ _ = w1 at HX K1 K2 ⊢
  obtain ⟨g1, hg1⟩ : ∃ g, g = w.heap.size := ⟨_, rfl⟩
  obtain ⟨g2, hg2⟩ : ∃ g, g = w.heap.size + 1 := ⟨_, rfl⟩
  rw [← hg1] at K1
  rw [← hg2] at K2 ⊢
  rw [← hg1]
  clear hg1 hg2
  have c6 : w1.cell? ⟨g1, 6, none⟩ = some (.slice A n c) := (K1.out.cell 6).trans rfl
  have d6 : w1.cell? ⟨g2, 6, none⟩ = some (.slice D m d) := (K2.out.cell 6).trans rfl
  have c9 : w1.cell? ⟨g1, 9, none⟩ = some (.slice A' n' c') := (K1.out.cell 9).trans rfl
  have d9 : w1.cell? ⟨g2, 9, none⟩ = some (.slice D' m' d') := (K2.out.cell 9).trans rfl
  by_cases hd : x.data = y.data
  · have he1 := HEB.out w1 HX.out
    rw [decide_eq_true hd] at he1
    have HE1 := Lib.hid he1
    clear he1
    go_wp2_with fail
    refine HE1.out.mono ?_
    rintro _ _ ⟨rfl, q, rfl⟩
    have hb2 : Below w.heap.size w (w1.drewN q) := below_drewN HX.out q
    by_cases hn : x.next = y.next
    · have he2 := HEI.out _ hb2
      rw [decide_eq_true hn] at he2
      have HE2 := Lib.hid he2
      clear he2
      go_wp2_with fail
      refine HE2.out.mono ?_
      rintro _ _ ⟨rfl, q2, rfl⟩
      have hb3 := below_drewN hb2 q2
      have HB3 := Lib.hid hb3
      have HK1 := Lib.hid ((K1.out.drewN q).drewN q2)
      have HK2 := Lib.hid ((K2.out.drewN q).drewN q2)
      rw [decide_eq_true hd, decide_eq_true hn, Bool.true_and, Bool.true_and] at HSP
      have hs3 := hb3.size
      clear hb2 hb3 c6 c9 d6 d9
      generalize (w1.drewN q).drewN q2 = w3 at HB3 HK1 HK2 hs3 ⊢
      go_upto_region 4 with fail
      have EQ := Lib.hid (eql_eight x y)
      refine wp_region_calm0 7 27 (by kernel_rfl) (by kernel_rfl) (by kernel_rfl) (by simp) ?_
      simp only [List.take_succ_cons, List.take_zero, List.drop_succ_cons, List.drop_zero]
      refine wpCalm_value rfl rfl (.func (.func 45) #[] #[]) (fun W _ => rfl) ?_
      try simp only [Act.put, List.setIfInBounds_toArray, List.set_cons_zero, List.set_cons_succ]
      refine wpCalm_load_part rfl 26 (.tmp 2) rfl g1 0 10 rfl 26 _ (wCells x A n c A' n' c') _ HK1.out Try.underlying26 rfl rfl rfl (fun _ _ => by rw [Nat.zero_add]) ?_
      try simp only [Act.put, List.setIfInBounds_toArray, List.set_cons_zero, List.set_cons_succ]
      refine wpCalm_call rfl rfl 45 #[.agg (wCells x A n c A' n' c')] (fun W => by go_simp) (.agg ((eightW x).map (Value.int .i64)).toArray) (fun W hb => plain_any x A n c A' n' c' W) ?_
      try simp only [Act.put, List.setIfInBounds_toArray, List.set_cons_zero, List.set_cons_succ]
      refine wpCalm_value rfl rfl (.func (.func 45) #[] #[]) (fun W _ => rfl) ?_
      try simp only [Act.put, List.setIfInBounds_toArray, List.set_cons_zero, List.set_cons_succ]
      refine wpCalm_load_part rfl 26 (.tmp 3) rfl g2 0 10 rfl 26 _ (wCells y D m d D' m' d') _ HK2.out Try.underlying26 rfl rfl rfl (fun _ _ => by rw [Nat.zero_add]) ?_
      try simp only [Act.put, List.setIfInBounds_toArray, List.set_cons_zero, List.set_cons_succ]
      refine wpCalm_call rfl rfl 45 #[.agg (wCells y D m d D' m' d')] (fun W => by go_simp) (.agg ((eightW y).map (Value.int .i64)).toArray) (fun W hb => plain_any y D m d D' m' d' W) ?_
      try simp only [Act.put, List.setIfInBounds_toArray, List.set_cons_zero, List.set_cons_succ]
      refine wpCalm_value rfl rfl (.bool (eightW x == eightW y)) (fun W _ => exec_eql_agg 77 (.tmp 22) (.tmp 25) _ rfl _ _ rfl rfl eqg_eight _ (EQ.out W)) ?_
      try simp only [Act.put, List.setIfInBounds_toArray, List.set_cons_zero, List.set_cons_succ]
      refine wpCalm_nil ?_
      intro W1 hb1
      have HB4 := Lib.hid (HB3.out.trans (hb1.mono hs3))
      clear hb1
      go_wp2_with fail
      go_ret
      exact ⟨by rw [HSP.out]; rfl, HB4.out⟩
    · have he2 := HEI.out _ hb2
      rw [decide_eq_false hn] at he2
      have HE2 := Lib.hid he2
      rw [decide_eq_true hd, decide_eq_false hn, Bool.and_false, Bool.false_and] at HSP
      clear he2
      go_wp2_with fail
      refine HE2.out.mono ?_
      rintro _ _ ⟨rfl, q2, rfl⟩
      have HB3 := Lib.hid (below_drewN hb2 q2)
      clear hb2
      go_wp2_with fail
      go_ret
      exact ⟨by rw [HSP.out]; rfl, by have h := HB3.out; rw [World.drewN_drewN] at h; exact h⟩
  · have he1 := HEB.out w1 HX.out
    rw [decide_eq_false hd] at he1
    have HE1 := Lib.hid he1
    rw [decide_eq_false hd, Bool.false_and, Bool.false_and] at HSP
    clear he1
    go_wp2_with fail
    refine HE1.out.mono ?_
    rintro _ _ ⟨rfl, q, rfl⟩
    have HB2 := Lib.hid (below_drewN HX.out q)
    go_wp2_with fail
    go_ret
    exact ⟨by rw [HSP.out]; rfl, HB2.out⟩

end Go.Proofs.Ytcmbmimmfgfefaa
