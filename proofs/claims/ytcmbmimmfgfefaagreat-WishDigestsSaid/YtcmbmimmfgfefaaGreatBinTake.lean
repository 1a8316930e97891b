/-
  Contracts of bin.TakeNum, TakeFix, TakeStr.
-/
import Derived.Test.YtcmbmimmfgfefaaGreatBinJoin
import Derived.Test.YtcmbmimmfgfefaaGreatSlice
import Derived.Test.YtcmbmimmfgfefaaGreatRel
import Derived.Deep.DeepCutAuto
namespace Go.Proofs.YtcmbmimmfgfefaaGreat
set_option linter.unusedVariables false
open Go.RowKit

/-- a number taken off, with the error's number -/
def tn (b : List UInt8) : Nat × List UInt8 × Nat := match takeN b with
  | .error e => (0, [], e)
  | .ok (n, r) => (n, r, 0)

theorem ofInt_nat (n : Nat) (h : n < 18446744073709551616) : (BitVec.ofInt 64 (n : Int)).toNat = n := by
  rw [BitVec.toNat_ofInt]
  simp
  omega
theorem or_byte (x y : Nat) (hx : x < 281474976710656) (hy : y < 256) : bits .or .i64 ((x : Int) * 256) (y : Int) = ((x * 256 + y : Nat) : Int) := by
  show IntKind.i64.wrap ((BitVec.ofInt 64 ((x : Int) * 256) ||| BitVec.ofInt 64 (y : Int)).toNat : Int) = _
  rw [show ((x : Int) * 256) = ((x * 256 : Nat) : Int) by omega, BitVec.toNat_or, ofInt_nat _ (by omega), ofInt_nat _ (by omega)]
  have h := Nat.two_pow_add_eq_or_of_lt (i := 8) (b := y) (by omega) x
  rw [show x * 256 = 2 ^ 8 * x by omega, ← h]
  rw [IntKind.wrap_i64]
  omega

set_option maxRecDepth 100000 in
set_option maxHeartbeats 2000000 in
theorem takeNum_any (A : Option Addr) (n c : Nat) (xs : List UInt8) (w : World) (B : Nat) (h : Reads w B 1 A n (xs.map vb)) (hB : B ≤ w.heap.size) (hc : n ≤ c) (hcm : n ≤ 140737488355328) :
    Calls Tryz.prog 71 #[.slice A n c] w fun e w' => ∃ v, e = .returned (.tuple #[.int .i64 ((tn xs).1 : Int), v, .int .i64 ((tn xs).2.2 : Int)]) ∧ OwnB w' w.heap.size v (tn xs).2.1 ∧ Below w.heap.size w w' := by
  have hxn : xs.length = n := by have := h.1; simpa using this
  cases xs with
  | nil =>
    simp at hxn
    subst hxn
    go_enter Tryz.func71, Tryz.ntmps71
    go_wp2_with fail
    go_ret3
    exact ⟨_, rfl, OwnB.nil _ _, Below.refl _ _⟩
  | cons m r =>
    obtain ⟨ad, hA, hadb, hcell⟩ := h.2 (by simp at hxn; omega)
    subst hA
    obtain ⟨k, hk⟩ : ∃ k, k = m.toNat := ⟨_, rfl⟩
    have hk8 : k < 256 := by rw [hk]; exact m.toNat_lt
    have hwk : wrap64 (k : Int) = (k : Int) := by unfold wrap64; omega
    have c0 : ∀ q, (w.drewN q).cell? ad = some (.int .u8 (k : Int)) := fun q => by
      have h0 : w.cell? ad = some (vb m) := by have := hcell 0 (vb m) rfl; simpa [Addr.add] using this
      rw [hk]
      exact h0
    have hrn : r.length = n - 1 := by simp at hxn; omega
    have hn1 : 1 ≤ n := by simp at hxn; omega
    have hsl := fun W => run_slice_from (P := Tryz.prog) (t := 22) (e := 5) rfl rfl (some ad) n c 1 1 rfl (by omega) W
    have hrest := h.cut (cap := c) hn1 hc
    rw [Nat.one_mul, List.map_cons, List.drop_one, List.tail_cons] at hrest
    obtain ⟨A1, hA1⟩ : ∃ A1, A1 = (if c = 1 then some ad else (some ad).map (·.add 1)) := ⟨_, rfl⟩
    rw [← hA1] at hsl hrest
    obtain ⟨n1, hn1e⟩ : ∃ n1, n1 = n - 1 := ⟨_, rfl⟩
    obtain ⟨c1, hc1e⟩ : ∃ c1, c1 = c - 1 := ⟨_, rfl⟩
    rw [← hn1e] at hsl hrest hrn
    rw [← hc1e] at hsl
    have hc1 : n1 ≤ c1 := by omega
    have hc1m : n1 ≤ 140737488355328 := by omega
    have HK := Lib.hid hk
    have HR := Lib.hid hrest
    have HRN := Lib.hid hrn
    have hn0 : ¬ (n : Int) = 0 := by omega
    clear hA1 hn1e hc1e hcell hxn h hk hrest hrn
    go_enter Tryz.func71, Tryz.ntmps71
    go_upto_region 3 with fail
    go_quiet (fail)
    have hb1 : Below w.heap.size w (w.drewN nq) := below_drewN (Below.refl _ _) nq
    have HR1 := Lib.hid (HR.out.drewN nq)
    have hs1 : (w.drewN nq).heap.size = w.heap.size := rfl
    generalize w.drewN nq = w1 at hb1 HR1 hs1 ⊢
    have HB1 := Lib.hid hb1
    clear hb1 c0 hsl
    by_cases h1 : 7 < k
    · have htn : tn (m :: r) = (0, [], 4) := by unfold tn takeN; simp only [← HK.out]; rw [if_pos h1]
      have HT := Lib.hid htn
      clear htn
      go_wp2_with fail
      go_ret3
      exact ⟨_, by rw [HT.out]; rfl, by rw [HT.out]; exact OwnB.nil _ _, HB1.out⟩
    · by_cases h2 : n1 < k
      · have htn : tn (m :: r) = (0, [], 3) := by unfold tn takeN; simp only [← HK.out]; rw [if_neg h1, if_pos (by have := HRN.out; omega)]
        have HT := Lib.hid htn
        clear htn
        go_wp2_with fail
        go_ret3
        exact ⟨_, by rw [HT.out]; rfl, by rw [HT.out]; exact OwnB.nil _ _, HB1.out⟩
      · by_cases h3 : 0 < k ∧ r.head? = some 0
        · have htn : tn (m :: r) = (0, [], 4) := by unfold tn takeN; simp only [← HK.out]; rw [if_neg h1, if_neg (by have := HRN.out; omega), if_pos h3]
          have HT := Lib.hid htn
          clear htn
          obtain ⟨h3a, h3b⟩ := h3
          obtain ⟨ad1, hA1, _, hcell1⟩ := HR1.out.2 (by omega)
          subst hA1
          have c1 : w1.cell? ad1 = some (.int .u8 0) := by
            have := hcell1 0 (vb 0) (by cases r with | nil => simp at h3b | cons a t => simp at h3b; subst h3b; rfl)
            simpa [Addr.add, vb, bi] using this
          clear hcell1
          go_wp2_with fail
          go_ret3
          exact ⟨_, by rw [HT.out]; rfl, by rw [HT.out]; exact OwnB.nil _ _, HB1.out⟩
        · have hnx : (0 < k) → ∃ ad1 z, A1 = some ad1 ∧ w1.cell? ad1 = some (.int .u8 z) ∧ z ≠ 0 := fun h0 => by
            obtain ⟨ad1, hA1, _, hcell1⟩ := HR1.out.2 (by omega)
            cases r with
            | nil => have := HRN.out; simp at this; omega
            | cons a t =>
              refine ⟨ad1, bi a, hA1, by have h9 : w1.cell? ad1 = some (vb a) := (by have := hcell1 0 (vb a) rfl; simpa [Addr.add] using this); exact h9, fun e => h3 ⟨h0, ?_⟩⟩
              simp
              exact bi_inj e
          go_upto_region 8 with fail
          go_cut [25] (fun s25 wx => s25 = .bool false ∧ wx = w1)
          case first =>
            by_cases h0 : 0 < k
            · obtain ⟨ad1, z, hA1, hc1', hz⟩ := hnx h0
              subst hA1
              have hzz : (z == 0) = false := by simp [hz]
              go_wp2_with fail
              go_meet
              exact ⟨rfl, rfl⟩
            · have h0' : k = 0 := by omega
              subst h0'
              go_wp2_with fail
              go_meet
              exact ⟨rfl, rfl⟩
          case rest =>
            obtain ⟨rfl, rfl⟩ := hcut
            have hsl2 := fun W => run_slice_to (P := Tryz.prog) (t := 22) (e := 5) rfl rfl A1 n1 c1 k (k : Int) rfl (by omega) W
            have hsl3 := fun W => run_slice_from (P := Tryz.prog) (t := 22) (e := 5) rfl rfl A1 n1 c1 k (k : Int) rfl (by omega) W
            have hr2 := HR1.out.to (cap := c1) (show k ≤ n1 by omega) hc1
            have hr3 := HR1.out.cut (cap := c1) (show k ≤ n1 by omega) hc1
            obtain ⟨A2, hA2⟩ : ∃ A2, A2 = (if c1 = 0 then A1 else A1.map (·.add 0)) := ⟨_, rfl⟩
            obtain ⟨A3, hA3⟩ : ∃ A3, A3 = (if c1 = k then A1 else A1.map (·.add k)) := ⟨_, rfl⟩
            rw [Nat.mul_one, ← hA3] at hr3
            rw [← hA2] at hsl2 hr2
            rw [← hA3] at hsl3
            rw [← List.map_take] at hr2
            rw [← List.map_drop] at hr3
            have HR2 := Lib.hid hr2
            have HR3 := Lib.hid hr3
            clear hA2 hA3 hr2 hr3
            go_wp2_with fail
            go_loopw [2, 38] (fun av iv wr => ∃ i : Nat, i ≤ k ∧ iv = .int .i64 i ∧ av = .int .i64 ((valB (r.take i) : Nat) : Int) ∧ wc = wr) (fun _ iv _ => k - (intOf iv).toNat)
            case atStart => exact ⟨0, by omega, rfl, rfl, rfl⟩
            case round =>
              obtain ⟨i, hi, rfl, rfl, rfl⟩ := hrel
              have hil : i < k → i < r.length := fun h => by have := HRN.out; omega
              by_cases hik : i < k
              · obtain ⟨ad2, u, hA2, _, hu, hc2⟩ := HR2.out.at_ hik
                subst hA2
                have hu' : u = vb (r[i]'(hil hik)) := by
                  rw [List.getElem?_map, List.getElem?_take, if_pos hik, List.getElem?_eq_getElem (hil hik)] at hu
                  injection hu with hu
                  exact hu.symm
                subst hu'
                have hv : valB (r.take (i + 1)) = valB (r.take i) * 256 + (r[i]'(hil hik)).toNat := by rw [List.take_succ_eq_append_getElem (hil hik), valB_snoc]
                have hvl := valB_lt i (r.take i) (by rw [List.length_take]; have := HRN.out; omega)
                have hvl6 : valB (r.take i) < 256 ^ 6 := Nat.lt_of_lt_of_le hvl (Nat.pow_le_pow_right (by omega) (by omega))
                have h256 := (r[i]'(hil hik)).toNat_lt
                have hc2' : wc.cell? (ad2.add i) = some (.int .u8 (((r[i]'(hil hik)).toNat : Nat) : Int)) := hc2
                generalize (r[i]'(hil hik)).toNat = y at hv h256 hc2'
                obtain ⟨x, hx⟩ : ∃ x, x = valB (r.take i) := ⟨_, rfl⟩
                rw [← hx] at hv hvl6 ⊢
                have HV := Lib.hid hv
                have HX := Lib.hid hx
                have hx6 : x < 281474976710656 := hvl6
                clear hvl hvl6 hv hx hc2 hu
                have hor := or_byte x y hx6 h256
                rw [← HV.out] at hor
                have hor' := hor
                go_wp2_with fail
                go_roundw
                case rel => exact ⟨i + 1, by omega, by go_num, hor' ▸ rfl, trivial⟩
                case measure => simp [intOf]; omega
              · obtain rfl : i = k := by omega
                clear hsl2
                have htk : tn (m :: r) = if maxN < valB (r.take i) then (0, [], 9) else (valB (r.take i), r.drop i, 0) := by
                  unfold tn takeN
                  simp only [← HK.out]
                  rw [if_neg h1, if_neg (by have := HRN.out; omega), if_neg h3]
                  by_cases hq : maxN < valB (r.take i)
                  · rw [if_pos hq, if_pos hq]
                  · rw [if_neg hq, if_neg hq]
                have hvl := valB_lt i (r.take i) (by rw [List.length_take]; have := HRN.out; omega)
                have hx6 : valB (r.take i) < 72057594037927936 := Nat.lt_of_lt_of_le hvl (Nat.pow_le_pow_right (show 256 > 0 by omega) (show i ≤ 7 by omega))
                clear hvl
                generalize valB (r.take i) = x at htk hx6
                by_cases hx9 : maxN < x
                · rw [if_pos hx9] at htk
                  have HT := Lib.hid htk
                  clear htk
                  unfold maxN at hx9
                  go_wp2_with fail
                  go_ret3
                  exact ⟨_, by rw [HT.out]; rfl, by rw [HT.out]; exact OwnB.nil _ _, HB1.out⟩
                · rw [if_neg hx9] at htk
                  have HT := Lib.hid htk
                  clear htk
                  unfold maxN at hx9
                  go_wp2_with fail
                  refine (clone_any A3 (n1 - i) (c1 - i) (r.drop i) wc B HR3.out (by omega) (by omega)).mono ?_
                  rintro _ w5 ⟨v, rfl, hov, hb5⟩
                  have HO5 := Lib.hid hov
                  have HB5 := Lib.hid (HB1.out.trans (hb5.mono (by omega)))
                  clear hov hb5
                  go_wp2_with fail
                  go_ret3
                  refine ⟨v, by rw [HT.out]; rfl, ?_, HB5.out⟩
                  rw [HT.out]
                  exact HO5.out.more (by omega)

end Go.Proofs.YtcmbmimmfgfefaaGreat
