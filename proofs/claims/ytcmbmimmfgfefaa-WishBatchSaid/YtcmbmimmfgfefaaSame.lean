/-
  Wishes that are the same: contracts of EqInts, slices.Equal, bytes.Equal, wish.Same, bastideref11.Same.
-/
import Derived.Test.YtcmbmimmfgfefaaParse
import Derived.Test.YtcmbmimmfgfefaaEq
import Derived.Laws.StructEq
import Derived.Laws.IdiomStrings
import Derived.Laws.BytesArg
namespace Go.Proofs.Ytcmbmimmfgfefaa
set_option linter.unusedVariables false
open Go.RowKit

theorem getElem?_vn {xs : List Int} {k : Nat} {u : Value} (h : (xs.map vn)[k]? = some u) : ∃ (hk : k < xs.length), u = .int .i64 xs[k] := by
  rw [List.getElem?_map] at h
  rcases Nat.lt_or_ge k xs.length with hk | hk
  · rw [List.getElem?_eq_getElem hk] at h
    injection h with h
    exact ⟨hk, h.symm⟩
  · rw [List.getElem?_eq_none hk] at h; cases h
set_option maxHeartbeats 400000 in
theorem eqInts_any (A B : Option Addr) (n m c d : Nat) (xs ys : List Int) (w : World) (Bx By : Nat) (ha : Reads w Bx 1 A n (xs.map vn)) (hb : Reads w By 1 B m (ys.map vn)) (hn : n ≤ maxLen) (hm : m ≤ maxLen) :
    Calls Try.prog 35 #[.slice A n c, .slice B m d] w fun e w' => e = .returned (.bool (decide (xs = ys))) ∧ ∃ k, w' = w.drewN k := by
  have hlx : xs.length = n := by have := ha.1; simpa using this
  have hly : ys.length = m := by have := hb.1; simpa using this
  unfold maxLen at hn hm
  by_cases hnm : n = m
  · subst hnm
    go_enter Try.func35, Try.ntmps35
    go_wp2
    go_loopw [5] (fun i wr => ∃ k q : Nat, k ≤ n ∧ i = .int .i64 k ∧ xs.take k = ys.take k ∧ wr = w.drewN q) (fun i _ => n - (intOf i).toNat)
    case atStart => exact ⟨0, 0, Nat.zero_le _, rfl, by simp, rfl⟩
    case round =>
      obtain ⟨k, q, hk, rfl, heq, rfl⟩ := hrel
      have HE := Lib.hid heq
      clear heq
      by_cases hlt : k < n
      · obtain ⟨ad, u, rfl, _, hx, hcx⟩ := ha.at_ hlt
        obtain ⟨bd, v, rfl, _, hy, hcy⟩ := hb.at_ hlt
        obtain ⟨hk1, rfl⟩ := getElem?_vn hx
        obtain ⟨hk2, rfl⟩ := getElem?_vn hy
        clear hx hy ha hb
        by_cases hne : xs[k] = ys[k]
        · have hz : (xs[k] != ys[k]) = false := by simp [hne]
          have HN := Lib.hid hne
          clear hne
          go_wp2
          go_quiet (fail)
          go_wp2
          go_roundw
          case rel => exact ⟨k + 1, _, by omega, by go_num, by rw [List.take_succ_eq_append_getElem hk1, List.take_succ_eq_append_getElem hk2, HE.out, HN.out], rfl⟩
          case measure => simp [intOf]; omega
        · have hz : (xs[k] != ys[k]) = true := by
            rw [bne_iff_ne]; intro e; exact hne e
          have HN := Lib.hid hne
          clear hne
          go_wp2
          go_quiet (fail)
          go_wp2
          go_ret
          exact ⟨ret_bool (by have := HN.out; symm; rw [decide_eq_false_iff_not]; rintro rfl; exact this rfl), _, World.drewN_drewN _ _ _⟩
      · have hkn : k = n := by omega
        have HK := Lib.hid hkn
        clear hkn
        go_wp2
        go_ret
        exact ⟨ret_bool (by symm; rw [decide_eq_true_iff]; have h1 := HE.out; rw [HK.out] at h1; rwa [List.take_of_length_le (by omega), List.take_of_length_le (by omega)] at h1), q, rfl⟩
  · have h0 : ((n : Int) != (m : Int)) = true := by rw [bne_iff_ne]; omega
    have HN := Lib.hid hnm
    clear hnm
    go_enter Try.func35, Try.ntmps35
    go_wp2
    go_ret
    exact ⟨ret_bool (by symm; rw [decide_eq_false_iff_not]; rintro rfl; exact HN.out (by omega)), 0, rfl⟩

set_option maxHeartbeats 400000 in
theorem slEqual_any (A B : Option Addr) (n m c d : Nat) (xs ys : List Int) (w : World) (Bx By : Nat) (ha : Reads w Bx 1 A n (xs.map vn)) (hb : Reads w By 1 B m (ys.map vn)) (hn : n ≤ maxLen) (hm : m ≤ maxLen) :
    Calls Try.prog 44 #[.slice A n c, .slice B m d] w fun e w' => e = .returned (.bool (decide (xs = ys))) ∧ ∃ k, w' = w.drewN k := by
  have hlx : xs.length = n := by have := ha.1; simpa using this
  have hly : ys.length = m := by have := hb.1; simpa using this
  unfold maxLen at hn hm
  by_cases hnm : n = m
  · subst hnm
    go_enter Try.func44, Try.ntmps44
    go_wp2
    go_loopw [13] (fun i wr => ∃ k q : Nat, k ≤ n ∧ i = .int .i64 k ∧ xs.take k = ys.take k ∧ wr = w.drewN q) (fun i _ => n - (intOf i).toNat)
    case atStart => exact ⟨0, 0, Nat.zero_le _, rfl, by simp, rfl⟩
    case round =>
      obtain ⟨k, q, hk, rfl, heq, rfl⟩ := hrel
      have HE := Lib.hid heq
      clear heq
      by_cases hlt : k < n
      · obtain ⟨ad, u, rfl, _, hx, hcx⟩ := ha.at_ hlt
        obtain ⟨bd, v, rfl, _, hy, hcy⟩ := hb.at_ hlt
        obtain ⟨hk1, rfl⟩ := getElem?_vn hx
        obtain ⟨hk2, rfl⟩ := getElem?_vn hy
        clear hx hy ha hb
        by_cases hne : xs[k] = ys[k]
        · have hz : (xs[k] != ys[k]) = false := by simp [hne]
          have HN := Lib.hid hne
          clear hne
          go_wp2
          go_quiet (fail)
          go_wp2
          go_roundw
          case rel => exact ⟨k + 1, _, by omega, by go_num, by rw [List.take_succ_eq_append_getElem hk1, List.take_succ_eq_append_getElem hk2, HE.out, HN.out], rfl⟩
          case measure => simp [intOf]; omega
        · have hz : (xs[k] != ys[k]) = true := by
            rw [bne_iff_ne]; intro e; exact hne e
          have HN := Lib.hid hne
          clear hne
          go_wp2
          go_quiet (fail)
          go_wp2
          go_ret
          exact ⟨ret_bool (by have := HN.out; symm; rw [decide_eq_false_iff_not]; rintro rfl; exact this rfl), _, World.drewN_drewN _ _ _⟩
      · have hkn : k = n := by omega
        have HK := Lib.hid hkn
        clear hkn
        go_wp2
        go_ret
        exact ⟨ret_bool (by symm; rw [decide_eq_true_iff]; have h1 := HE.out; rw [HK.out] at h1; rwa [List.take_of_length_le (by omega), List.take_of_length_le (by omega)] at h1), q, rfl⟩
  · have h0 : ((n : Int) != (m : Int)) = true := by rw [bne_iff_ne]; omega
    have HN := Lib.hid hnm
    clear hnm
    go_enter Try.func44, Try.ntmps44
    go_wp2
    go_ret
    exact ⟨ret_bool (by symm; rw [decide_eq_false_iff_not]; rintro rfl; exact HN.out (by omega)), 0, rfl⟩


theorem conv_bytes {W : World} {B n c : Nat} {A : Option Addr} {xs : List UInt8} (h : Reads W B 1 A n (xs.map vb)) : (convert 22 9 (.slice A n c)).run Try.prog W = .ok (.string ⟨xs.toArray⟩) W := by
  have hn : xs.length = n := by have := h.1; simpa using this
  rcases Nat.eq_zero_or_pos n with h0 | h0
  · subst h0
    have hx : xs = [] := List.eq_nil_of_length_eq_zero hn
    subst hx
    cases A with
    | none => exact run_convert_bytes_nil W 22 5 Try.underlying22 Try.underlying5 0 c 9 Try.underlying9
    | some ad => exact run_convert_bytes_back W 22 9 5 ad c [] Try.underlying22 Try.underlying5 Try.underlying9 (fun j hj => by simp at hj)
  · obtain ⟨ad, rfl, _, hc⟩ := h.2 h0
    rw [← hn]
    exact run_convert_bytes_back W 22 9 5 ad c xs Try.underlying22 Try.underlying5 Try.underlying9 (fun j hj => hc j _ (by rw [List.getElem?_map, List.getElem?_eq_getElem hj]; rfl))
theorem bEqual_any (A B : Option Addr) (n m c d : Nat) (xs ys : List UInt8) (w : World) (Bx By : Nat) (ha : Reads w Bx 1 A n (xs.map vb)) (hb : Reads w By 1 B m (ys.map vb)) :
    Calls Try.prog 43 #[.slice A n c, .slice B m d] w fun e w' => e = .returned (.bool (decide (xs = ys))) ∧ ∃ k, w' = w.drewN k := by
  have h1 := conv_bytes (c := c) ha
  have h2 := conv_bytes (c := d) hb
  clear ha hb
  go_enter Try.func43, Try.ntmps43
  go_wp2_with fail
  go_ret
  refine ⟨ret_bool ?_, 0, rfl⟩
  rw [Bool.eq_iff_iff]; simp

theorem all_range_eqJ : ∀ (xs ys : List Int), xs.length = ys.length → ((List.range xs.length).all fun i => xs.getD i 0 == ys.getD i 0) = (xs == ys)
  | [], [], _ => rfl
  | x :: xs, y :: ys, h => by
    have ih := all_range_eqJ xs ys (by simpa using h)
    rw [List.length_cons, List.range_succ_eq_map, List.all_cons, List.all_map]
    simp only [List.getD_cons_zero, Function.comp_def, List.getD_cons_succ, ih]
    simp [List.cons_beq_cons]
  | [], _ :: _, h => by simp at h
  | _ :: _, [], h => by simp at h

theorem run_eql_ints8 {P : Program} (w : World) (t e : TypeId) (n : Nat) (k : IntKind) (ht : P.underlying t = some (.array n e)) (he : P.underlying e = some (.int k)) (hsz : ∀ w, (sizeOf e).run P w = .ok 1 w)
    (xs ys : List Int) (hx : xs.length = n) (hy : ys.length = n) :
    (binOp .eql t (.agg (xs.map (Value.int k)).toArray) (.agg (ys.map (Value.int k)).toArray)).run P w = .ok (.bool (xs == ys)) w := by
  have key : (Op.equalIn (9998 + 2) t (.agg (xs.map (Value.int k)).toArray) (.agg (ys.map (Value.int k)).toArray)).run P w = .ok (xs == ys) w := by
    rw [← all_range_eqJ xs ys (hx.trans hy.symm), hx, List.range_eq_range', Op.equalIn]
    simp only [Sem.run_bind, run_underlying ht, Result.andThen_ok, hsz, Std.Legacy.Range.forIn_eq_forIn_range', Std.Legacy.Range.size, Nat.sub_zero, Nat.add_sub_cancel, Nat.div_one]
    have hl : ∀ i ∈ List.range' 0 n 1, i < n := fun i hi => by simpa using (List.mem_range'_1.1 hi).2
    generalize List.range' 0 n 1 = l at hl ⊢
    induction l with
    | nil => simp
    | cons i l ih =>
      have hi : i < n := hl i (by simp)
      have px : (part e (xs.map (Value.int k)).toArray (i * 1)).run P w = .ok (.int k (xs.getD i 0)) w := by
        simp [part, isAgg, run_underlying he, List.getD, List.getElem?_eq_getElem (show i < xs.length by omega)]
      have py : (part e (ys.map (Value.int k)).toArray (i * 1)).run P w = .ok (.int k (ys.getD i 0)) w := by
        simp [part, isAgg, run_underlying he, List.getD, List.getElem?_eq_getElem (show i < ys.length by omega)]
      have pe : (Op.equalIn (9998 + 1) e (.int k (xs.getD i 0)) (.int k (ys.getD i 0))).run P w = .ok (xs.getD i 0 == ys.getD i 0) w := by
        rw [run_equalIn_int w 9998 e k k _ _ he]
      simp only [List.forIn_cons, Sem.run_bind, px, py, pe, Result.andThen_ok, List.all_cons]
      cases hb : (xs.getD i 0 == ys.getD i 0)
      · simp
      · simp only [Bool.not_true, Bool.false_eq_true, if_false, Sem.run_pure, Result.andThen_ok, Bool.true_and]
        exact ih fun j hj => hl j (by simp [hj])
  rw [run_eql_struct, key]
  rfl


def sameW (x y : Wish) : Bool := decide (x.client = y.client ∧ x.stamp = y.stamp ∧ x.group = y.group ∧ x.epoch = y.epoch ∧ x.kind = y.kind ∧ x.block = y.block ∧ x.data = y.data ∧ x.old = y.old ∧ x.new = y.new ∧ x.next = y.next)
theorem sameW_iff (x y : Wish) : sameW x y = true ↔ x = y := by
  unfold sameW
  rw [decide_eq_true_iff]
  cases x
  cases y
  simp

theorem eqg_eight : Try.prog.eqGuardType Try.prog.depth 77 = false := by kernel_rfl
def eightW (x : Wish) : List Int := [x.client, x.stamp, x.group, x.epoch, x.kind, x.block, x.old, x.new]
theorem eql_eight (x y : Wish) (w : World) : (binOp .eql 77 (.agg ((eightW x).map (Value.int .i64)).toArray) (.agg ((eightW y).map (Value.int .i64)).toArray)).run Try.prog w = .ok (.bool (eightW x == eightW y)) w :=
  run_eql_ints8 (P := Try.prog) w 77 3 8 .i64 Try.underlying77 Try.underlying3 (fun _ => by kernel_rfl) (eightW x) (eightW y) rfl rfl

set_option maxRecDepth 100000 in
set_option maxHeartbeats 1000000 in
theorem plain_any (x : Wish) (A : Option Addr) (n c : Nat) (A' : Option Addr) (n' c' : Nat) (w : World) :
    Calls Try.prog 45 #[.agg (wCells x A n c A' n' c')] w fun e w' => e = .returned (.agg ((eightW x).map (Value.int .i64)).toArray) ∧ Below w.heap.size w w' := by
  unfold wCells
  go_enter Try.func45, Try.ntmps45
  go_wp2_with fail
  have hb : Below w.heap.size w (w.alloc (.cells #[.int .i64 x.client, .int .i64 x.stamp, .int .i64 x.group, .int .i64 x.epoch, .int .i64 x.kind, .int .i64 x.block, .slice A n c, .int .i64 x.old, .int .i64 x.new, .slice A' n' c'] 26)) := (Below.refl _ _).alloc (Nat.le_refl _) _
  refine bodyPost_ret (results_part rfl _ _ (w.heap.size + 1) 8 77 _ _ rfl (Blk.newAt (by simp)) Try.underlying77 rfl rfl rfl) rfl ⟨rfl, hb.alloc (by simp) _⟩

end Go.Proofs.Ytcmbmimmfgfefaa
