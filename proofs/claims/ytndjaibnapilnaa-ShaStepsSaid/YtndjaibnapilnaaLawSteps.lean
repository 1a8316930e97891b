/-
  ShaSteps: the law's walk, and its plain law: a step of the 64 can be turned back.
-/
import Derived.Test.YtndjaibnapilnaaLawRound
namespace Go.Proofs.Ytndjaibnapilnaa
set_option linter.unusedVariables false
open Go.RowKit

theorem bv_add_right {x y z : W32} (h : x + z = y + z) : x = y := by
  have := congrArg (· - z) h
  simpa [BitVec.add_sub_cancel] using this
theorem bv_add_left {x y z : W32} (h : z + x = z + y) : x = y := by
  rw [BitVec.add_comm z x, BitVec.add_comm z y] at h
  exact bv_add_right h
theorem rstep_inj {S R : St} {k x : W32} (h : rstep S k x = rstep R k x) : S = R := by
  obtain ⟨a, b, c, d, e, f, g, q⟩ := S
  obtain ⟨a', b', c', d', e', f', g', q'⟩ := R
  simp only [rstep, St.mk.injEq] at h
  obtain ⟨h1, rfl, rfl, rfl, h5, rfl, rfl, rfl⟩ := h
  have hb := bv_add_right h1
  rw [hb] at h5
  have hd := bv_add_right h5
  have hq := bv_add_right (bv_add_right (bv_add_right (bv_add_right hb)))
  rw [hd, hq]
theorem roundsTo_inj {S R : St} {ws : List W32} : ∀ t, roundsTo S ws t = roundsTo R ws t → S = R
  | 0, h => h
  | t + 1, h => roundsTo_inj t (rstep_inj h)
theorem bv_add_sub (x y : W32) : x + y - x = y := by rw [BitVec.add_comm, BitVec.add_sub_cancel]
theorem add_sub_self (S R : St) (j : Nat) : (S.add R).list.getD j 0 - S.list.getD j 0 = R.list.getD j 0 := by
  match j with
  | 0 | 1 | 2 | 3 | 4 | 5 | 6 | 7 => simp [St.add, St.list, bv_add_sub]
  | j + 8 => simp [St.add, St.list]

/-- the sum, from the first k of whose numbers the state is taken off -/
def subCells (S R : St) (k : Nat) : Array Value := rng 8 (fun j => vw (if j < k then R.list.getD j 0 else (S.add R).list.getD j 0))
theorem subCells_zero (S R : St) : subCells S R 0 = (S.add R).vals := by
  refine (rng_of (by simp [St.vals]) fun j hj => ?_).symm
  match j, hj with
  | 0, _ | 1, _ | 2, _ | 3, _ | 4, _ | 5, _ | 6, _ | 7, _ => rfl
theorem subCells_8 (S R : St) : subCells S R 8 = R.vals := by
  refine (rng_of (by simp [St.vals]) fun j hj => ?_).symm
  match j, hj with
  | 0, _ | 1, _ | 2, _ | 3, _ | 4, _ | 5, _ | 6, _ | 7, _ => rfl
theorem subCells_at (S R : St) (k : Nat) (hk : k < 8) : (subCells S R k)[k]? = some (vw ((S.add R).list.getD k 0)) := by
  rw [subCells, rng_get _ _ _ hk, if_neg (by omega)]
theorem subCells_next (S R : St) (k : Nat) : (subCells S R k).setIfInBounds k (vw ((S.add R).list.getD k 0 - S.list.getD k 0)) = subCells S R (k + 1) := by
  unfold subCells
  rw [rng_set]
  refine rng_ext fun j hj => ?_
  split
  · rename_i e; subst e; rw [if_pos (by omega), add_sub_self]
  · rename_i e
    by_cases h1 : j < k
    · rw [if_pos h1, if_pos (by omega)]
    · rw [if_neg h1, if_neg (by omega)]

attribute [local go_sem] w_add w_add' w_sub w_sub'

set_option maxRecDepth 100000 in
set_option maxHeartbeats 1000000 in
theorem steps_any (S : St) (blk : List UInt8) (hbl : blk.length = 64) (w : World) :
    Calls Try.prog 23 #[.agg S.vals, .agg (bRow blk)] w fun e w' => e = .returned (.agg (roundsTo S (schedTo blk 64) 64).vals) ∧ Below w.heap.size w w' := by
  have hbs : (bRow blk).size = 64 := by rw [bRow_size, hbl]
  have HBS := Lib.hid hbs
  have HVZ := Lib.hid (vals_size S)
  have hr := fun W => shaRound_any S blk hbl W
  have hcd : compress S blk = S.add (roundsTo S (schedTo blk 64) 64) := rfl
  rw [hcd] at hr
  have H1 := Lib.hid hr
  have hvat := vals_at' S
  clear hbs hr hcd
  generalize roundsTo S (schedTo blk 64) 64 = R at H1 ⊢
  have HCZ := Lib.hid (vals_size (S.add R))
  have HCA := Lib.hid (vals_all (S.add R))
  generalize bRow blk = br at HBS H1 ⊢
  generalize hsv : S.vals = sv at HVZ H1 hvat ⊢
  have HVAT := Lib.hid hvat
  generalize hcv : (S.add R).vals = cv at H1 HCZ HCA
  have HCV := Lib.hid hcv
  clear hsv hcv hvat
  go_enter Try.func23, Try.ntmps23
  go_upto_region 1 with fail
  have hA1 := ((Blk.new w 37 sv).alloc (.cells br 38)).alloc (.cells (rng 8 z32) 37)
  have hA2 : Blk (((w.alloc (.cells sv 37)).alloc (.cells br 38)).alloc (.cells (rng 8 z32) 37)) (w.heap.size + 1) 38 br := (Blk.newAt (by simp)).alloc _
  have hA3 : Blk (((w.alloc (.cells sv 37)).alloc (.cells br 38)).alloc (.cells (rng 8 z32) 37)) (w.heap.size + 1 + 1) 37 (rng 8 z32) := Blk.newAt (by simp)
  have hAb : Below w.heap.size w (((w.alloc (.cells sv 37)).alloc (.cells br 38)).alloc (.cells (rng 8 z32) 37)) := (((Below.refl _ _).alloc (Nat.le_refl _) _).alloc (by simp) _).alloc (by simp; omega) _
  rw [zeros8r] at hA1 hA2 hA3 hAb
  generalize ((w.alloc _).alloc _).alloc _ = W at hA1 hA2 hA3 hAb ⊢
  have K1 := Lib.hid hA1
  have K2 := Lib.hid hA2
  have K3 := Lib.hid hA3
  have KB := Lib.hid hAb
  clear hA1 hA2 hA3 hAb
  go_wp2_with (first
    | (refine wpList_load_part rfl 37 (.tmp 2) rfl w.heap.size 0 8 rfl 37 _ sv _ K1.out Try.underlying37 rfl rfl HVZ.out (fun _ _ => by rw [Nat.zero_add]) ?_)
    | (refine wpList_load_part rfl 38 (.tmp 3) rfl (w.heap.size + 1) 0 64 rfl 38 _ br _ K2.out Try.underlying38 rfl rfl HBS.out (fun _ _ => by rw [Nat.zero_add]) ?_)
    | fail)
  refine (H1.out _).mono ?_
  rintro _ w1 ⟨rfl, hb1⟩
  have L1 := Lib.hid (K1.out.below hb1 K1.out.lt)
  have L3 := Lib.hid (K3.out.below hb1 K3.out.lt)
  have LB := Lib.hid (KB.out.trans (hb1.mono KB.out.size))
  clear hb1
  go_wp2_with (refine wpList_store_part rfl 37 (.tmp 5) (.tmp 9) rfl w1.heap.size 0 cv rfl rfl 37 _ (Blk.newAt rfl) (by rw [HCZ.out]; rfl) (by rw [HCZ.out]; simp) HCA.out ?_; intro W2 hT2 hB2; rw [spl_self _ _ (by rw [HCZ.out]; simp)] at hB2)
  have h12 := hT2.blk (L1.out.alloc _) (Nat.ne_of_lt L1.out.lt)
  have h32 := hT2.blk (L3.out.alloc _) (Nat.ne_of_lt L3.out.lt)
  have hE2 := hT2.below (LB.out.alloc LB.out.size _) LB.out.size
  obtain ⟨g5, hg5⟩ : ∃ g5, g5 = w1.heap.size := ⟨_, rfl⟩
  have hl1 := L1.out.lt
  have hl3 := L3.out.lt
  have hsz := LB.out.size
  rw [← hg5] at hB2 hT2 hl1 hl3 hsz ⊢
  rw [← HCV.out, ← subCells_zero] at hB2
  have M1 := Lib.hid h12
  have M3 := Lib.hid h32
  have ME := Lib.hid hE2
  have M5 := Lib.hid hB2
  clear h12 h32 hE2 hB2 hT2 hg5
  go_wp2_with fail
  go_loopw [6] (fun i wr => ∃ k : Nat, k ≤ 8 ∧ i = .int .i64 k ∧ Blk wr g5 37 (subCells S R k) ∧ Turned g5 W2 wr) (fun i _ => 8 - (intOf i).toNat)
  case atStart => exact ⟨0, by omega, rfl, M5.out, Turned.refl _ _⟩
  case round =>
    obtain ⟨k, hk, rfl, hB, hT⟩ := hrel
    by_cases hk1 : k < 8
    · have hcell := (hB.cell k).trans (subCells_at S R k hk1)
      have hcell2 := ((hT.blk M1.out (Nat.ne_of_lt hl1)).cell k).trans (HVAT.out k hk1)
      have hfz := hB.frozen k
      unfold vw at hcell
      generalize hu : (S.add R).list.getD k 0 = u at hcell
      generalize hv : S.list.getD k 0 = v at hcell2
      have HH := Lib.hid (And.intro hu hv)
      have HB := Lib.hid hB
      have HT := Lib.hid hT
      clear hu hv hB hT
      have lk : (k : Int) < 8 := by omega
      go_wp2_with fail
      refine wp_region_still_drew 9 (by kernel_rfl) (by kernel_rfl) ?_
      simp only [List.take_succ_cons, List.take_zero, List.drop_succ_cons, List.drop_zero]
      repeat still_step
      refine wpStill_nil ?_
      go_wp2_with fail
      go_roundw
      case rel =>
        obtain ⟨h1, h2⟩ := HH.out
        have hs := HB.out.drew.set_ k (vw (u - v))
        have he := subCells_next S R k
        rw [h1, h2] at he
        rw [he] at hs
        exact ⟨k + 1, by omega, by go_num, hs, (HT.out.drewN 1).trans (Turned.setCell _ ⟨g5, k, none⟩ _)⟩
      case measure => simp [intOf]; omega
    · obtain rfl : k = 8 := by omega
      rw [subCells_8] at hB
      have hB3 := hT.blk M3.out (Nat.ne_of_lt hl3)
      have hE := hT.below ME.out hsz
      have HVA := Lib.hid (vals_all R)
      have HZ := Lib.hid (vals_size R)
      have HB7 := Lib.hid hB
      have HB3 := Lib.hid hB3
      have HE := Lib.hid hE
      clear hB hB3 hE hT
      generalize hcv : R.vals = cv2 at HVA HB7 HZ
      have HCV2 := Lib.hid hcv
      clear hcv
      go_wp2_with (first
        | (refine wpList_load_part rfl 37 (.tmp 5) rfl g5 0 8 rfl 37 _ cv2 _ HB7.out Try.underlying37 rfl rfl HZ.out (fun _ _ => by rw [Nat.zero_add]) ?_)
        | (refine wpList_store_part rfl 37 (.tmp 4) (.tmp 23) rfl (w.heap.size + 1 + 1) 0 cv2 rfl rfl 37 _ HB3.out (by rw [HZ.out]; rfl) (by rw [HZ.out]; simp) HVA.out ?_; intro W6 hT6 hB6; rw [spl_self _ _ (by rw [HZ.out]; simp)] at hB6))
      refine bodyPost_ret (results_part rfl _ _ (w.heap.size + 1 + 1) 8 37 _ _ rfl hB6 Try.underlying37 rfl rfl HZ.out) rfl ⟨by rw [HCV2.out], hT6.below HE.out (by omega)⟩

theorem steps_eq (S R : St) (blk : List UInt8) : (stEq (roundsTo S (schedTo blk 64) 64) (roundsTo R (schedTo blk 64) 64) == stEq S R) = true := by
  rw [beq_iff_eq, Bool.eq_iff_iff, stEq_iff, stEq_iff]
  exact ⟨roundsTo_inj 64, fun h => by rw [h]⟩

set_option maxRecDepth 100000 in
set_option maxHeartbeats 1000000 in
theorem steps_law (S R : St) (blk : List UInt8) (hbl : blk.length = 64) (w : World) :
    Calls Try.prog 8 #[.agg S.vals, .agg R.vals, .agg (bRow blk)] w fun e w' => e = .returned (.bool true) ∧ Below w.heap.size w w' := by
  have hbs : (bRow blk).size = 64 := by rw [bRow_size, hbl]
  have HBS := Lib.hid hbs
  have HVZ := Lib.hid (vals_size S)
  have HWZ := Lib.hid (vals_size R)
  have H1 := Lib.hid (fun W => steps_any S blk hbl W)
  have H2 := Lib.hid (fun W => steps_any R blk hbl W)
  have HQ1 := Lib.hid (eql_state (roundsTo S (schedTo blk 64) 64) (roundsTo R (schedTo blk 64) 64))
  have HQ2 := Lib.hid (eql_state S R)
  have hst := steps_eq S R blk
  clear hbs
  generalize stEq (roundsTo S (schedTo blk 64) 64) (roundsTo R (schedTo blk 64) 64) = q1 at HQ1 hst
  generalize stEq S R = q2 at HQ2 hst
  have HST := Lib.hid hst
  clear hst
  generalize (roundsTo S (schedTo blk 64) 64).vals = c1 at H1 HQ1
  generalize (roundsTo R (schedTo blk 64) 64).vals = c2 at H2 HQ1
  generalize bRow blk = br at HBS H1 H2 ⊢
  generalize S.vals = sv at HVZ H1 HQ2 ⊢
  generalize R.vals = rv at HWZ H2 HQ2 ⊢
  go_enter Try.func8, Try.ntmps8
  go_wp2_with fail
  have hA1 := ((Blk.new w 37 sv).alloc (.cells rv 37)).alloc (.cells br 38)
  have hA2 : Blk (((w.alloc (.cells sv 37)).alloc (.cells rv 37)).alloc (.cells br 38)) (w.heap.size + 1) 37 rv := (Blk.newAt (by simp)).alloc _
  have hA3 : Blk (((w.alloc (.cells sv 37)).alloc (.cells rv 37)).alloc (.cells br 38)) (w.heap.size + 1 + 1) 38 br := Blk.newAt (by simp)
  have hAb : Below w.heap.size w (((w.alloc (.cells sv 37)).alloc (.cells rv 37)).alloc (.cells br 38)) := (((Below.refl _ _).alloc (Nat.le_refl _) _).alloc (by simp) _).alloc (by simp; omega) _
  generalize ((w.alloc _).alloc _).alloc _ = W at hA1 hA2 hA3 hAb ⊢
  refine wp_region_calm 14 21 (fun t => #[]) (by kernel_rfl) (by kernel_rfl) (by simp) ?_ ?_
  · intro i o d t hi ho ha a w
    match i, hi with
    | 0, _ | 1, _ | 2, _ | 3, _ | 4, _ | 5, _ | 6, _ | 7, _ | 8, _ | 9, _ | 10, _ | 11, _ | 12, _ | 13, _ => simp only [List.getElem?_toArray, List.getElem?_cons_zero, List.getElem?_cons_succ] at ho; injection ho with ho; subst ho; simp [isAlloc] at ha
  simp only [List.take_succ_cons, List.take_zero, List.drop_succ_cons, List.drop_zero]
  refine wpCalm_call rfl rfl 17 #[] (fun W => by go_simp) (.bool true) (fun W _ => works_any W) ?_
  try simp only [Act.put, List.setIfInBounds_toArray, List.set_cons_zero, List.set_cons_succ]
  refine wpCalm_value rfl rfl (.bool true) (fun W _ => rfl) ?_
  try simp only [Act.put, List.setIfInBounds_toArray, List.set_cons_zero, List.set_cons_succ]
  refine wpCalm_load_part rfl 37 (.tmp 3) rfl w.heap.size 0 8 rfl 37 _ sv _ hA1 Try.underlying37 rfl rfl HVZ.out (fun _ _ => by rw [Nat.zero_add]) ?_
  refine wpCalm_load_part rfl 38 (.tmp 5) rfl (w.heap.size + 1 + 1) 0 64 rfl 38 _ br _ hA3 Try.underlying38 rfl rfl HBS.out (fun _ _ => by rw [Nat.zero_add]) ?_
  try simp only [Act.put, List.setIfInBounds_toArray, List.set_cons_zero, List.set_cons_succ]
  refine wpCalm_call rfl rfl 23 #[.agg sv, .agg br] (fun W => by go_simp) (.agg c1) (fun W _ => H1.out W) ?_
  try simp only [Act.put, List.setIfInBounds_toArray, List.set_cons_zero, List.set_cons_succ]
  refine wpCalm_load_part rfl 37 (.tmp 4) rfl (w.heap.size + 1) 0 8 rfl 37 _ rv _ hA2 Try.underlying37 rfl rfl HWZ.out (fun _ _ => by rw [Nat.zero_add]) ?_
  refine wpCalm_load_part rfl 38 (.tmp 5) rfl (w.heap.size + 1 + 1) 0 64 rfl 38 _ br _ hA3 Try.underlying38 rfl rfl HBS.out (fun _ _ => by rw [Nat.zero_add]) ?_
  try simp only [Act.put, List.setIfInBounds_toArray, List.set_cons_zero, List.set_cons_succ]
  refine wpCalm_call rfl rfl 23 #[.agg rv, .agg br] (fun W => by go_simp) (.agg c2) (fun W _ => H2.out W) ?_
  try simp only [Act.put, List.setIfInBounds_toArray, List.set_cons_zero, List.set_cons_succ]
  refine wpCalm_value rfl rfl (.bool q1) (fun W _ => exec_eql_agg 37 (.tmp 11) (.tmp 14) _ rfl c1 c2 rfl rfl eqg_state _ (HQ1.out W)) ?_
  refine wpCalm_load_part rfl 37 (.tmp 3) rfl w.heap.size 0 8 rfl 37 _ sv _ hA1 Try.underlying37 rfl rfl HVZ.out (fun _ _ => by rw [Nat.zero_add]) ?_
  refine wpCalm_load_part rfl 37 (.tmp 4) rfl (w.heap.size + 1) 0 8 rfl 37 _ rv _ hA2 Try.underlying37 rfl rfl HWZ.out (fun _ _ => by rw [Nat.zero_add]) ?_
  try simp only [Act.put, List.setIfInBounds_toArray, List.set_cons_zero, List.set_cons_succ]
  refine wpCalm_value rfl rfl (.bool q2) (fun W _ => exec_eql_agg 37 (.tmp 16) (.tmp 17) _ rfl sv rv rfl rfl eqg_state _ (HQ2.out W)) ?_
  try simp only [Act.put, List.setIfInBounds_toArray, List.set_cons_zero, List.set_cons_succ]
  refine wpCalm_value rfl rfl (.bool (q1 == q2)) (fun W _ => by go_simp) ?_
  try simp only [Act.put, List.setIfInBounds_toArray, List.set_cons_zero, List.set_cons_succ]
  rw [HST.out]
  refine wpCalm_value rfl rfl (.bool true) (fun W _ => by go_simp) ?_
  try simp only [Act.put, List.setIfInBounds_toArray, List.set_cons_zero, List.set_cons_succ]
  refine wpCalm_nil ?_
  intro W1 hb1 _
  have HB1 := Lib.hid (hAb.trans (hb1.mono hAb.size))
  clear hb1 hA1 hA2 hA3 hAb
  go_wp2_with fail
  go_ret
  exact ⟨rfl, HB1.out⟩

end Go.Proofs.Ytndjaibnapilnaa
