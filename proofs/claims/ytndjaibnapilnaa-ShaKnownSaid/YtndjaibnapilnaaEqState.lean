/-
  '==' of arrays of integers, of states; arrays of numbers that came in, as a state, as a block.
-/
import Derived.Test.YtndjaibnapilnaaShaOf
import Derived.Test.YtndjaibnapilnaaEqDig
import Derived.Test.YtndjaibnapilnaaOpen
import Derived.Laws.StructEq
namespace Go.Proofs.Ytndjaibnapilnaa
set_option linter.unusedVariables false
open Go.RowKit

theorem all_range_eqI : ∀ (xs ys : List Int), xs.length = ys.length → ((List.range xs.length).all fun i => xs.getD i 0 == ys.getD i 0) = (xs == ys)
  | [], [], _ => rfl
  | x :: xs, y :: ys, h => by
    have ih := all_range_eqI xs ys (by simpa using h)
    rw [List.length_cons, List.range_succ_eq_map, List.all_cons, List.all_map]
    simp only [List.getD_cons_zero, Function.comp_def, List.getD_cons_succ, ih]
    simp [List.cons_beq_cons]
  | [], _ :: _, h => by simp at h
  | _ :: _, [], h => by simp at h

theorem run_eql_ints {P : Program} (w : World) (t e : TypeId) (n : Nat) (k : IntKind) (ht : P.underlying t = some (.array n e)) (he : P.underlying e = some (.int k)) (hsz : ∀ w, (sizeOf e).run P w = .ok 1 w)
    (xs ys : List Int) (hx : xs.length = n) (hy : ys.length = n) :
    (binOp .eql t (.agg (xs.map (Value.int k)).toArray) (.agg (ys.map (Value.int k)).toArray)).run P w = .ok (.bool (xs == ys)) w := by
  have key : (Op.equalIn (9998 + 2) t (.agg (xs.map (Value.int k)).toArray) (.agg (ys.map (Value.int k)).toArray)).run P w = .ok (xs == ys) w := by
    rw [← all_range_eqI xs ys (hx.trans hy.symm), hx, List.range_eq_range', Op.equalIn]
    simp only [Sem.run_bind, run_underlying ht, Result.andThen_ok, hsz, Std.Legacy.Range.forIn_eq_forIn_range', Std.Legacy.Range.size, Nat.sub_zero, Nat.add_sub_cancel, Nat.div_one]
    have hl : ∀ i ∈ List.range' 0 n 1, i < n := fun i hi => by simpa using (List.mem_range'_1.1 hi).2
    generalize List.range' 0 n 1 = l at hl ⊢
    induction l with
    | nil => simp
    | cons i l ih =>
      have hi : i < n := hl i (by simp)
      have px : (part e (xs.map (Value.int k)).toArray (i * 1)).run P w = .ok (.int k (xs.getD i 0)) w := by
        simp [part, isAgg, run_underlying he, List.getD, List.getElem?_eq_getElem (show i < xs.length by omega)]
      have py : (part e (ys.map (Value.int k)).toArray (i * 1)).run P w = .ok (.int k (ys.getD i 0)) w := by
        simp [part, isAgg, run_underlying he, List.getD, List.getElem?_eq_getElem (show i < ys.length by omega)]
      have pe : (Op.equalIn (9998 + 1) e (.int k (xs.getD i 0)) (.int k (ys.getD i 0))).run P w = .ok (xs.getD i 0 == ys.getD i 0) w := by
        rw [run_equalIn_int w 9998 e k k _ _ he]
      simp only [List.forIn_cons, Sem.run_bind, px, py, pe, Result.andThen_ok, List.all_cons]
      cases hb : (xs.getD i 0 == ys.getD i 0)
      · simp
      · simp only [Bool.not_true, Bool.false_eq_true, if_false, Sem.run_pure, Result.andThen_ok, Bool.true_and]
        exact ih fun j hj => hl j (by simp [hj])
  rw [run_eql_struct, key]
  rfl

def stEq (S R : St) : Bool := S.list.map wi == R.list.map wi
theorem stEq_iff (S R : St) : stEq S R = true ↔ S = R := by
  constructor
  · intro h
    have h := LawfulBEq.eq_of_beq h
    simp only [St.list, List.map_cons, List.map_nil, List.cons.injEq, and_true] at h
    obtain ⟨h1, h2, h3, h4, h5, h6, h7, h8⟩ := h
    cases S; cases R
    simp only [St.mk.injEq]
    exact ⟨wi_inj h1, wi_inj h2, wi_inj h3, wi_inj h4, wi_inj h5, wi_inj h6, wi_inj h7, wi_inj h8⟩
  · rintro rfl
    unfold stEq
    exact beq_self_eq_true _
theorem eql_state (S R : St) (w : World) : (binOp .eql 37 (.agg S.vals) (.agg R.vals)).run Try.prog w = .ok (.bool (stEq S R)) w :=
  run_eql_ints (P := Try.prog) w 37 36 8 .u32 rfl rfl (fun _ => by kernel_rfl) (S.list.map wi) (R.list.map wi) rfl rfl

theorem eqg_state : Try.prog.eqGuardType Try.prog.depth 37 = false := by kernel_rfl

/-- eight numbers that came in -/
theorem state_of {cs : List Value} (hl : cs.length = 8) (h : ∀ j, j < 8 → ∃ z, cs[j]? = some (.int .u32 z) ∧ (Lit.int .u32 z).wf = true) : ∃ S : St, cs = S.vals.toList := by
  have one : ∀ j, j < 8 → ∃ x : W32, cs[j]? = some (vw x) := fun j hj => by
    obtain ⟨z, hz, hw⟩ := h j hj
    have hb := bounds_u32 hw
    refine ⟨BitVec.ofNat 32 z.toNat, ?_⟩
    rw [hz]
    unfold vw wi
    congr 2
    rw [BitVec.toNat_ofNat]
    omega
  obtain ⟨a, ha⟩ := one 0 (by omega)
  obtain ⟨b, hb⟩ := one 1 (by omega)
  obtain ⟨c, hc⟩ := one 2 (by omega)
  obtain ⟨d, hd⟩ := one 3 (by omega)
  obtain ⟨e, he⟩ := one 4 (by omega)
  obtain ⟨f, hf⟩ := one 5 (by omega)
  obtain ⟨g, hg⟩ := one 6 (by omega)
  obtain ⟨k, hk⟩ := one 7 (by omega)
  refine ⟨⟨a, b, c, d, e, f, g, k⟩, ?_⟩
  apply List.ext_getElem?
  intro i
  rcases Nat.lt_or_ge i 8 with hi | hi
  · match i, hi with
    | 0, _ => exact ha
    | 1, _ => exact hb
    | 2, _ => exact hc
    | 3, _ => exact hd
    | 4, _ => exact he
    | 5, _ => exact hf
    | 6, _ => exact hg
    | 7, _ => exact hk
  · rw [List.getElem?_eq_none (by omega), List.getElem?_eq_none (by rw [vals_len]; omega)]
/-- a block that came in -/
theorem block_of {cs : List Value} (hl : cs.length = 64) (h : ∀ j, j < 64 → ∃ z, cs[j]? = some (.int .u8 z) ∧ (Lit.int .u8 z).wf = true) : ∃ blk : List UInt8, blk.length = 64 ∧ cs = (bRow blk).toList := by
  obtain ⟨f, hf⟩ := Go.Deep.choose_lt (α := UInt8) (p := fun j x => cs[j]? = some (vb x)) (n := 64) (fun j hj => by
    obtain ⟨z, hz, hw⟩ := h j hj
    exact ⟨UInt8.ofNat z.toNat, by rw [hz, u8_of_wf hw]⟩)
  refine ⟨(List.range 64).map f, by simp, ?_⟩
  apply List.ext_getElem?
  intro i
  rcases Nat.lt_or_ge i 64 with hi | hi
  · rw [hf i hi]
    simp [bRow, hi]
  · rw [List.getElem?_eq_none (by omega), List.getElem?_eq_none (by simp [bRow]; omega)]

end Go.Proofs.Ytndjaibnapilnaa
