/- Parts of the proof, in one text: BinTake, BinFix, WishVal, WishBytes, VaultM. -/
import Derived.Test.YtdpoedgjehofiaaGreatZ7
import Derived.Deep.DeepCutAuto

/- Contracts of bin.TakeNum, TakeFix, TakeStr. -/
namespace Go.Proofs.YtdpoedgjehofiaaGreat
set_option linter.unusedVariables false
open Go.RowKit

/-- a number taken off, with the error's number -/
def tn (b : List UInt8) : Nat × List UInt8 × Nat := match takeN b with
  | .error e => (0, [], e)
  | .ok (n, r) => (n, r, 0)

theorem ofInt_nat (n : Nat) (h : n < 18446744073709551616) : (BitVec.ofInt 64 (n : Int)).toNat = n := by
  rw [BitVec.toNat_ofInt]
  simp
  omega
theorem or_byte (x y : Nat) (hx : x < 281474976710656) (hy : y < 256) : bits .or .i64 ((x : Int) * 256) (y : Int) = ((x * 256 + y : Nat) : Int) := by
  show IntKind.i64.wrap ((BitVec.ofInt 64 ((x : Int) * 256) ||| BitVec.ofInt 64 (y : Int)).toNat : Int) = _
  rw [show ((x : Int) * 256) = ((x * 256 : Nat) : Int) by omega, BitVec.toNat_or, ofInt_nat _ (by omega), ofInt_nat _ (by omega)]
  have h := Nat.two_pow_add_eq_or_of_lt (i := 8) (b := y) (by omega) x
  rw [show x * 256 = 2 ^ 8 * x by omega, ← h]
  rw [IntKind.wrap_i64]
  omega

set_option maxRecDepth 100000 in
set_option maxHeartbeats 2000000 in
theorem takeNum_any (A : Option Addr) (n c : Nat) (xs : List UInt8) (w : World) (B : Nat) (h : Reads w B 1 A n (xs.map vb)) (hB : B ≤ w.heap.size) (hc : n ≤ c) (hcm : n ≤ 140737488355328) :
    Calls Tryz.prog 129 #[.slice A n c] w fun e w' => ∃ v, e = .returned (.tuple #[.int .i64 ((tn xs).1 : Int), v, .int .i64 ((tn xs).2.2 : Int)]) ∧ OwnB w' w.heap.size v (tn xs).2.1 ∧ Below w.heap.size w w' := by
  have hxn : xs.length = n := by have := h.1; simpa using this
  cases xs with
  | nil =>
    simp at hxn
    subst hxn
    go_enter Tryz.func129, Tryz.ntmps129
    go_wp2_with fail
    go_ret3
    exact ⟨_, rfl, OwnB.nil _ _, Below.refl _ _⟩
  | cons m r =>
    obtain ⟨ad, hA, hadb, hcell⟩ := h.2 (by simp at hxn; omega)
    subst hA
    obtain ⟨k, hk⟩ : ∃ k, k = m.toNat := ⟨_, rfl⟩
    have hk8 : k < 256 := by rw [hk]; exact m.toNat_lt
    have hwk : wrap64 (k : Int) = (k : Int) := by unfold wrap64; omega
    have c0 : ∀ q, (w.drewN q).cell? ad = some (.int .u8 (k : Int)) := fun q => by
      have h0 : w.cell? ad = some (vb m) := by have := hcell 0 (vb m) rfl; simpa [Addr.add] using this
      rw [hk]
      exact h0
    have hrn : r.length = n - 1 := by simp at hxn; omega
    have hn1 : 1 ≤ n := by simp at hxn; omega
    have hsl := fun W => run_slice_from (P := Tryz.prog) (t := 22) (e := 5) rfl rfl (some ad) n c 1 1 rfl (by omega) W
    have hrest := h.cut (cap := c) hn1 hc
    rw [Nat.one_mul, List.map_cons, List.drop_one, List.tail_cons] at hrest
    obtain ⟨A1, hA1⟩ : ∃ A1, A1 = (if c = 1 then some ad else (some ad).map (·.add 1)) := ⟨_, rfl⟩
    rw [← hA1] at hsl hrest
    obtain ⟨n1, hn1e⟩ : ∃ n1, n1 = n - 1 := ⟨_, rfl⟩
    obtain ⟨c1, hc1e⟩ : ∃ c1, c1 = c - 1 := ⟨_, rfl⟩
    rw [← hn1e] at hsl hrest hrn
    rw [← hc1e] at hsl
    have hc1 : n1 ≤ c1 := by omega
    have hc1m : n1 ≤ 140737488355328 := by omega
    have HK := Lib.hid hk
    have HR := Lib.hid hrest
    have HRN := Lib.hid hrn
    have hn0 : ¬ (n : Int) = 0 := by omega
    clear hA1 hn1e hc1e hcell hxn h hk hrest hrn
    go_enter Tryz.func129, Tryz.ntmps129
    go_upto_region 3 with fail
    go_quiet (fail)
    have hb1 : Below w.heap.size w (w.drewN nq) := below_drewN (Below.refl _ _) nq
    have HR1 := Lib.hid (HR.out.drewN nq)
    have hs1 : (w.drewN nq).heap.size = w.heap.size := rfl
    generalize w.drewN nq = w1 at hb1 HR1 hs1 ⊢
    have HB1 := Lib.hid hb1
    clear hb1 c0 hsl
    by_cases h1 : 7 < k
    · have htn : tn (m :: r) = (0, [], 4) := by unfold tn takeN; simp only [← HK.out]; rw [if_pos h1]
      have HT := Lib.hid htn
      clear htn
      go_wp2_with fail
      go_ret3
      exact ⟨_, by rw [HT.out]; rfl, by rw [HT.out]; exact OwnB.nil _ _, HB1.out⟩
    · by_cases h2 : n1 < k
      · have htn : tn (m :: r) = (0, [], 3) := by unfold tn takeN; simp only [← HK.out]; rw [if_neg h1, if_pos (by have := HRN.out; omega)]
        have HT := Lib.hid htn
        clear htn
        go_wp2_with fail
        go_ret3
        exact ⟨_, by rw [HT.out]; rfl, by rw [HT.out]; exact OwnB.nil _ _, HB1.out⟩
      · by_cases h3 : 0 < k ∧ r.head? = some 0
        · have htn : tn (m :: r) = (0, [], 4) := by unfold tn takeN; simp only [← HK.out]; rw [if_neg h1, if_neg (by have := HRN.out; omega), if_pos h3]
          have HT := Lib.hid htn
          clear htn
          obtain ⟨h3a, h3b⟩ := h3
          obtain ⟨ad1, hA1, _, hcell1⟩ := HR1.out.2 (by omega)
          subst hA1
          have c1 : w1.cell? ad1 = some (.int .u8 0) := by
            have := hcell1 0 (vb 0) (by cases r with | nil => simp at h3b | cons a t => simp at h3b; subst h3b; rfl)
            simpa [Addr.add, vb, bi] using this
          clear hcell1
          go_wp2_with fail
          go_ret3
          exact ⟨_, by rw [HT.out]; rfl, by rw [HT.out]; exact OwnB.nil _ _, HB1.out⟩
        · have hnx : (0 < k) → ∃ ad1 z, A1 = some ad1 ∧ w1.cell? ad1 = some (.int .u8 z) ∧ z ≠ 0 := fun h0 => by
            obtain ⟨ad1, hA1, _, hcell1⟩ := HR1.out.2 (by omega)
            cases r with
            | nil => have := HRN.out; simp at this; omega
            | cons a t =>
              refine ⟨ad1, bi a, hA1, by have h9 : w1.cell? ad1 = some (vb a) := (by have := hcell1 0 (vb a) rfl; simpa [Addr.add] using this); exact h9, fun e => h3 ⟨h0, ?_⟩⟩
              simp
              exact bi_inj e
          go_upto_region 8 with fail
          go_cut [25] (fun s25 wx => s25 = .bool false ∧ wx = w1)
          case first =>
            by_cases h0 : 0 < k
            · obtain ⟨ad1, z, hA1, hc1', hz⟩ := hnx h0
              subst hA1
              have hzz : (z == 0) = false := by simp [hz]
              go_wp2_with fail
              go_meet
              exact ⟨rfl, rfl⟩
            · have h0' : k = 0 := by omega
              subst h0'
              go_wp2_with fail
              go_meet
              exact ⟨rfl, rfl⟩
          case rest =>
            obtain ⟨rfl, rfl⟩ := hcut
            have hsl2 := fun W => run_slice_to (P := Tryz.prog) (t := 22) (e := 5) rfl rfl A1 n1 c1 k (k : Int) rfl (by omega) W
            have hsl3 := fun W => run_slice_from (P := Tryz.prog) (t := 22) (e := 5) rfl rfl A1 n1 c1 k (k : Int) rfl (by omega) W
            have hr2 := HR1.out.to (cap := c1) (show k ≤ n1 by omega) hc1
            have hr3 := HR1.out.cut (cap := c1) (show k ≤ n1 by omega) hc1
            obtain ⟨A2, hA2⟩ : ∃ A2, A2 = (if c1 = 0 then A1 else A1.map (·.add 0)) := ⟨_, rfl⟩
            obtain ⟨A3, hA3⟩ : ∃ A3, A3 = (if c1 = k then A1 else A1.map (·.add k)) := ⟨_, rfl⟩
            rw [Nat.mul_one, ← hA3] at hr3
            rw [← hA2] at hsl2 hr2
            rw [← hA3] at hsl3
            rw [← List.map_take] at hr2
            rw [← List.map_drop] at hr3
            have HR2 := Lib.hid hr2
            have HR3 := Lib.hid hr3
            clear hA2 hA3 hr2 hr3
            go_wp2_with fail
            go_loopw [2, 38] (fun av iv wr => ∃ i : Nat, i ≤ k ∧ iv = .int .i64 i ∧ av = .int .i64 ((valB (r.take i) : Nat) : Int) ∧ wc = wr) (fun _ iv _ => k - (intOf iv).toNat)
            case atStart => exact ⟨0, by omega, rfl, rfl, rfl⟩
            case round =>
              obtain ⟨i, hi, rfl, rfl, rfl⟩ := hrel
              have hil : i < k → i < r.length := fun h => by have := HRN.out; omega
              by_cases hik : i < k
              · obtain ⟨ad2, u, hA2, _, hu, hc2⟩ := HR2.out.at_ hik
                subst hA2
                have hu' : u = vb (r[i]'(hil hik)) := by
                  rw [List.getElem?_map, List.getElem?_take, if_pos hik, List.getElem?_eq_getElem (hil hik)] at hu
                  injection hu with hu
                  exact hu.symm
                subst hu'
                have hv : valB (r.take (i + 1)) = valB (r.take i) * 256 + (r[i]'(hil hik)).toNat := by rw [List.take_succ_eq_append_getElem (hil hik), valB_snoc]
                have hvl := valB_lt i (r.take i) (by rw [List.length_take]; have := HRN.out; omega)
                have hvl6 : valB (r.take i) < 256 ^ 6 := Nat.lt_of_lt_of_le hvl (Nat.pow_le_pow_right (by omega) (by omega))
                have h256 := (r[i]'(hil hik)).toNat_lt
                have hc2' : wc.cell? (ad2.add i) = some (.int .u8 (((r[i]'(hil hik)).toNat : Nat) : Int)) := hc2
                generalize (r[i]'(hil hik)).toNat = y at hv h256 hc2'
                obtain ⟨x, hx⟩ : ∃ x, x = valB (r.take i) := ⟨_, rfl⟩
                rw [← hx] at hv hvl6 ⊢
                have HV := Lib.hid hv
                have HX := Lib.hid hx
                have hx6 : x < 281474976710656 := hvl6
                clear hvl hvl6 hv hx hc2 hu
                have hor := or_byte x y hx6 h256
                rw [← HV.out] at hor
                have hor' := hor
                go_wp2_with fail
                go_roundw
                case rel => exact ⟨i + 1, by omega, by go_num, hor' ▸ rfl, trivial⟩
                case measure => simp [intOf]; omega
              · obtain rfl : i = k := by omega
                clear hsl2
                have htk : tn (m :: r) = if maxN < valB (r.take i) then (0, [], 9) else (valB (r.take i), r.drop i, 0) := by
                  unfold tn takeN
                  simp only [← HK.out]
                  rw [if_neg h1, if_neg (by have := HRN.out; omega), if_neg h3]
                  by_cases hq : maxN < valB (r.take i)
                  · rw [if_pos hq, if_pos hq]
                  · rw [if_neg hq, if_neg hq]
                have hvl := valB_lt i (r.take i) (by rw [List.length_take]; have := HRN.out; omega)
                have hx6 : valB (r.take i) < 72057594037927936 := Nat.lt_of_lt_of_le hvl (Nat.pow_le_pow_right (show 256 > 0 by omega) (show i ≤ 7 by omega))
                clear hvl
                generalize valB (r.take i) = x at htk hx6
                by_cases hx9 : maxN < x
                · rw [if_pos hx9] at htk
                  have HT := Lib.hid htk
                  clear htk
                  unfold maxN at hx9
                  go_wp2_with fail
                  go_ret3
                  exact ⟨_, by rw [HT.out]; rfl, by rw [HT.out]; exact OwnB.nil _ _, HB1.out⟩
                · rw [if_neg hx9] at htk
                  have HT := Lib.hid htk
                  clear htk
                  unfold maxN at hx9
                  go_wp2_with fail
                  refine (clone_any A3 (n1 - i) (c1 - i) (r.drop i) wc B HR3.out (by omega) (by omega)).mono ?_
                  rintro _ w5 ⟨v, rfl, hov, hb5⟩
                  have HO5 := Lib.hid hov
                  have HB5 := Lib.hid (HB1.out.trans (hb5.mono (by omega)))
                  clear hov hb5
                  go_wp2_with fail
                  go_ret3
                  refine ⟨v, by rw [HT.out]; rfl, ?_, HB5.out⟩
                  rw [HT.out]
                  exact HO5.out.more (by omega)

end Go.Proofs.YtdpoedgjehofiaaGreat

/- Contracts of bin.TakeFix, TakeStr. -/
namespace Go.Proofs.YtdpoedgjehofiaaGreat
set_option linter.unusedVariables false
open Go.RowKit

theorem lasts_own (B : Nat) (xs : List UInt8) : Lasts fun w v => OwnB w B v xs := fun _ _ _ h hb => h.below hb

set_option maxRecDepth 100000 in
set_option maxHeartbeats 2000000 in
theorem takeFix_any (A : Option Addr) (n c k : Nat) (xs : List UInt8) (w : World) (B : Nat) (h : Reads w B 1 A n (xs.map vb)) (hB : B ≤ w.heap.size) (hc : n ≤ c) (hcm : n ≤ 140737488355328) (hk : k ≤ 140737488355328) :
    Calls Tryz.prog 130 #[.slice A n c, .int .i64 (k : Int)] w fun e w' => ∃ v v', e = .returned (.tuple #[v, v', .int .i64 (if n < k then 3 else 0)]) ∧ OwnB w' w.heap.size v (if n < k then [] else xs.take k) ∧ OwnB w' w.heap.size v' (if n < k then [] else xs.drop k) ∧ Below w.heap.size w w' := by
  have hxn : xs.length = n := by have := h.1; simpa using this
  have HXN := Lib.hid hxn
  have H := Lib.hid h
  clear hxn h
  by_cases hkn : n < k
  · rw [if_pos hkn, if_pos hkn, if_pos hkn]
    go_enter Tryz.func130, Tryz.ntmps130
    go_wp2_with fail
    go_ret3
    exact ⟨_, _, rfl, OwnB.nil _ _, OwnB.nil _ _, Below.refl _ _⟩
  · rw [if_neg hkn, if_neg hkn, if_neg hkn]
    have hsl2 := fun W => run_slice_to (P := Tryz.prog) (t := 22) (e := 5) rfl rfl A n c k (k : Int) rfl (by omega) W
    have hsl3 := fun W => run_slice_from (P := Tryz.prog) (t := 22) (e := 5) rfl rfl A n c k (k : Int) rfl (by omega) W
    have hr2 := H.out.to (cap := c) (show k ≤ n by omega) hc
    have hr3 := H.out.cut (cap := c) (show k ≤ n by omega) hc
    obtain ⟨A2, hA2⟩ : ∃ A2, A2 = (if c = 0 then A else A.map (·.add 0)) := ⟨_, rfl⟩
    obtain ⟨A3, hA3⟩ : ∃ A3, A3 = (if c = k then A else A.map (·.add k)) := ⟨_, rfl⟩
    rw [Nat.mul_one, ← hA3] at hr3
    rw [← hA2] at hsl2 hr2
    rw [← hA3] at hsl3
    rw [← List.map_take] at hr2
    rw [← List.map_drop] at hr3
    have HC2 := Lib.hid (fun W (hb : Below w.heap.size w W) => clone_any A2 k c (xs.take k) W B (hr2.below (hb.mono hB)) (by have := hb.size; omega) (by omega))
    have HC3 := Lib.hid (fun W (hb : Below w.heap.size w W) => clone_any A3 (n - k) (c - k) (xs.drop k) W B (hr3.below (hb.mono hB)) (by have := hb.size; omega) (by omega))
    clear hA2 hA3 hr2 hr3
    go_enter Tryz.func130, Tryz.ntmps130
    go_upto_region 5 with fail
    refine wp_region_rel' 8 23 (fun j W v => match j with
      | 0 | 4 => v = .slice A n c
      | 1 | 5 => v = .int .i64 (k : Int)
      | 2 => v = .slice A2 k c
      | 3 => OwnB W w.heap.size v (xs.take k)
      | 6 => v = .slice A3 (n - k) (c - k)
      | _ => OwnB W w.heap.size v (xs.drop k)) [15, 16, 17, 18, 19, 20, 21, 22] (by kernel_rfl) (by kernel_rfl) (by kernel_rfl) (by simp) (by kernel_rfl) (fun j => ?last) ?heads ?_
    case last =>
      match j with
      | 0 | 1 | 2 | 4 | 5 | 6 => exact Lasts.pure _
      | 3 => exact lasts_own _ _
      | j + 7 => exact lasts_own _ _
    case heads =>
      simp only [List.take_succ_cons, List.take_zero]
      refine ⟨fun a W hb hkp hd => ?_, fun a W hb hkp hd => ?_, fun a W hb hkp hd => ?_, fun a W hb hkp hd => ?_, fun a W hb hkp hd => ?_, fun a W hb hkp hd => ?_, fun a W hb hkp hd => ?_, fun a W hb hkp hd => ?_, trivial⟩
      · have e0 : a.tmps[0]?.getD undef = .slice A n c := hkp.get (by kernel_rfl) rfl
        exact rel_value rfl (.slice A n c) (by go_simp) rfl
      · have e0 : a.tmps[1]?.getD undef = .int .i64 (k : Int) := hkp.get (by kernel_rfl) rfl
        exact rel_value rfl (.int .i64 (k : Int)) (by go_simp) rfl
      · have e0 : a.tmps[15]?.getD undef = .slice A n c := (hd 0 (by kernel_rfl)).get 15 rfl rfl
        have e1 : a.tmps[16]?.getD undef = .int .i64 (k : Int) := (hd 1 (by kernel_rfl)).get 16 rfl rfl
        exact rel_value rfl (.slice A2 k c) (by go_simp) rfl
      · have e0 : a.tmps[17]?.getD undef = .slice A2 k c := (hd 2 (by kernel_rfl)).get 17 rfl rfl
        refine rel_call rfl 75 #[.slice A2 k c] (by go_simp) ((HC2.out W hb).mono ?_)
        rintro e w' ⟨v, rfl, ho, hb'⟩
        exact ⟨v, rfl, hb', ho.more hb.size⟩
      · have e0 : a.tmps[0]?.getD undef = .slice A n c := hkp.get (by kernel_rfl) rfl
        exact rel_value rfl (.slice A n c) (by go_simp) rfl
      · have e0 : a.tmps[1]?.getD undef = .int .i64 (k : Int) := hkp.get (by kernel_rfl) rfl
        exact rel_value rfl (.int .i64 (k : Int)) (by go_simp) rfl
      · have e0 : a.tmps[19]?.getD undef = .slice A n c := (hd 4 (by kernel_rfl)).get 19 rfl rfl
        have e1 : a.tmps[20]?.getD undef = .int .i64 (k : Int) := (hd 5 (by kernel_rfl)).get 20 rfl rfl
        exact rel_value rfl (.slice A3 (n - k) (c - k)) (by go_simp) rfl
      · have e0 : a.tmps[21]?.getD undef = .slice A3 (n - k) (c - k) := (hd 6 (by kernel_rfl)).get 21 rfl rfl
        refine rel_call rfl 75 #[.slice A3 (n - k) (c - k)] (by go_simp) ((HC3.out W hb).mono ?_)
        rintro e w' ⟨v, rfl, ho, hb'⟩
        exact ⟨v, rfl, hb', ho.more hb.size⟩
    intro f W hb hd
    have h3 : OwnB W w.heap.size (f 18) (xs.take k) := hd 3 (by omega) _ 18 rfl rfl
    have h7 : OwnB W w.heap.size (f 22) (xs.drop k) := hd 7 (by omega) _ 22 rfl rfl
    have H3 := Lib.hid h3
    have H7 := Lib.hid h7
    have HB := Lib.hid hb
    clear h3 h7 hd hb
    simp only [putAll, List.drop_succ_cons, List.drop_zero]
    try simp only [Act.put, List.setIfInBounds_toArray, List.set_cons_zero, List.set_cons_succ]
    go_wp2_with fail
    go_ret3
    exact ⟨_, _, rfl, H3.out, H7.out, HB.out⟩

/-- a text taken off, with the error's number -/
def ts (b : List UInt8) (most : Nat) : List UInt8 × List UInt8 × Nat := match takeS b most with
  | .error e => ([], [], e)
  | .ok (s, r) => (s, r, 0)
theorem ts_eq (b : List UInt8) (most : Nat) : ts b most = if (tn b).2.2 ≠ 0 then ([], [], (tn b).2.2) else if min most 65536 < (tn b).1 then ([], [], 5) else if (tn b).2.1.length < (tn b).1 then ([], [], 3) else ((tn b).2.1.take (tn b).1, (tn b).2.1.drop (tn b).1, 0) := by
  unfold ts takeS tn
  cases hb : takeN b with
  | error e =>
    have he : e ≠ 0 := by
      unfold takeN at hb
      match b, hb with
      | [], hb => injection hb with hb; omega
      | m :: r, hb =>
        simp only at hb
        split at hb
        · injection hb with hb; omega
        · split at hb
          · injection hb with hb; omega
          · split at hb
            · injection hb with hb; omega
            · split at hb
              · injection hb with hb; omega
              · cases hb
    simp [he]
  | ok p =>
    obtain ⟨n, r⟩ := p
    simp only [ne_eq, not_true_eq_false, if_false]
    unfold takeF
    by_cases h1 : min most 65536 < n
    · rw [if_pos h1, if_pos h1]
    · rw [if_neg h1, if_neg h1]
      by_cases h2 : r.length < n
      · rw [if_pos h2, if_pos h2]
      · rw [if_neg h2, if_neg h2]
theorem tn_len (b : List UInt8) : (tn b).2.1.length ≤ b.length := by
  unfold tn
  cases hb : takeN b with
  | error e => simp
  | ok p =>
    have := (takeN_back hb).1
    have h := congrArg List.length this
    rw [List.length_append] at h
    show p.2.length ≤ _
    omega
theorem tn_num (b : List UInt8) : (tn b).1 ≤ maxN := by
  unfold tn
  cases hb : takeN b with
  | error e => simp
  | ok p => exact (takeN_back (r := p.2) (n := p.1) hb).2
theorem tn_err (b : List UInt8) : (tn b).2.2 < 10 := by
  unfold tn takeN
  match b with
  | [] => simp
  | m :: r =>
    simp only
    by_cases h1 : 7 < m.toNat
    · rw [if_pos h1]; simp
    · rw [if_neg h1]
      by_cases h2 : r.length < m.toNat
      · rw [if_pos h2]; simp
      · rw [if_neg h2]
        by_cases h3 : 0 < m.toNat ∧ r.head? = some 0
        · rw [if_pos h3]; simp
        · rw [if_neg h3]
          by_cases h4 : maxN < valB (r.take m.toNat)
          · rw [if_pos h4]; simp
          · rw [if_neg h4]; simp

set_option maxRecDepth 100000 in
set_option maxHeartbeats 2000000 in
theorem takeStr_any (A : Option Addr) (n c most : Nat) (xs : List UInt8) (w : World) (B : Nat) (h : Reads w B 1 A n (xs.map vb)) (hB : B ≤ w.heap.size) (hc : n ≤ c) (hcm : n ≤ 140737488355328) (hm : most ≤ 65536) :
    Calls Tryz.prog 73 #[.slice A n c, .int .i64 (most : Int)] w fun e w' => ∃ v v', e = .returned (.tuple #[v, v', .int .i64 ((ts xs most).2.2 : Int)]) ∧ OwnB w' w.heap.size v (ts xs most).1 ∧ OwnB w' w.heap.size v' (ts xs most).2.1 ∧ Below w.heap.size w w' := by
  have hxn : xs.length = n := by have := h.1; simpa using this
  have HTN := Lib.hid (takeNum_any A n c xs w B h hB hc hcm)
  have hts := ts_eq xs most
  have htl := tn_len xs
  have htm := tn_num xs
  have hte := tn_err xs
  obtain ⟨p, hp⟩ : ∃ p, p = tn xs := ⟨_, rfl⟩
  rw [← hp] at HTN hts htl htm hte
  obtain ⟨k, r, e⟩ := p
  simp only at HTN hts htl htm hte
  have HTS := Lib.hid hts
  have HTL := Lib.hid htl
  unfold maxN at htm
  rw [hxn] at htl
  have HXN := Lib.hid hxn
  clear h hts hp hxn
  go_enter Tryz.func73, Tryz.ntmps73
  go_wp2_with fail
  refine HTN.out.mono ?_
  rintro _ w2 ⟨v, rfl, hov, hb2⟩
  have HO2 := Lib.hid hov
  have HB2 := Lib.hid hb2
  have hs2 := hb2.size
  clear hov hb2
  by_cases he : e = 0
  · subst he
    obtain ⟨Av, cv, rfl, hvc, hvm, hvr, hvB⟩ := own_slice_b HO2.out
    by_cases h5 : min most 65536 < k
    · have hq : ts xs most = ([], [], 5) := by rw [HTS.out, if_neg (by omega), if_pos h5]
      have HQ := Lib.hid hq
      clear hq hvr
      have hmk : most < k := by omega
      have hmin : min (most : Int) 65536 = (most : Int) := by omega
      go_wp2_with fail
      go_ret3
      exact ⟨_, _, by rw [HQ.out]; rfl, by rw [HQ.out]; exact OwnB.nil _ _, by rw [HQ.out]; exact OwnB.nil _ _, HB2.out⟩
    · have hmk : ¬ most < k := by omega
      have hmin : min (most : Int) 65536 = (most : Int) := by omega
      have hq : ts xs most = if r.length < k then ([], [], 3) else (r.take k, r.drop k, 0) := by rw [HTS.out, if_neg (by omega), if_neg h5]
      have HQ := Lib.hid hq
      have HVR := Lib.hid hvr
      clear hq hvr
      obtain ⟨rl, hrl⟩ : ∃ rl, rl = r.length := ⟨_, rfl⟩
      rw [← hrl] at HVR hvc htl HQ ⊢
      have HRL := Lib.hid hrl
      clear hrl
      go_wp2_with fail
      refine (takeFix_any Av rl cv k r w2 _ HVR.out (Nat.le_refl _) hvc (by omega) (by omega)).mono ?_
      rintro _ w3 ⟨v, v', rfl, ho, ho', hb3⟩
      have HO3 := Lib.hid (ho.more (B' := w.heap.size) hs2)
      have HO4 := Lib.hid (ho'.more (B' := w.heap.size) hs2)
      have HB3 := Lib.hid (HB2.out.trans (hb3.mono hs2))
      clear ho ho' hb3
      by_cases h6 : rl < k
      · rw [if_pos h6] at HQ
        rw [if_pos h6] at HO3 HO4 ⊢
        go_wp2_with fail
        go_ret3
        exact ⟨_, _, by rw [HQ.out]; rfl, by rw [HQ.out]; exact HO3.out, by rw [HQ.out]; exact HO4.out, HB3.out⟩
      · rw [if_neg h6] at HQ
        rw [if_neg h6] at HO3 HO4 ⊢
        go_wp2_with fail
        go_ret3
        exact ⟨_, _, by rw [HQ.out]; rfl, by rw [HQ.out]; exact HO3.out, by rw [HQ.out]; exact HO4.out, HB3.out⟩
  · have hq : ts xs most = ([], [], e) := by rw [HTS.out, if_pos he]
    have HQ := Lib.hid hq
    clear hq
    have he' : ¬ (e : Int) = 0 := by omega
    go_wp2_with fail
    go_ret3
    exact ⟨_, _, by rw [HQ.out]; rfl, by rw [HQ.out]; exact OwnB.nil _ _, by rw [HQ.out]; exact OwnB.nil _ _, HB2.out⟩

end Go.Proofs.YtdpoedgjehofiaaGreat

/- A wish as a plain value; which wishes may be; contracts of within, crew, may, Check. -/
namespace Go.Proofs.YtdpoedgjehofiaaGreat
set_option linter.unusedVariables false
open Go.RowKit
attribute [local irreducible] wpList

structure Wish where
  client : Int
  stamp : Int
  group : Int
  epoch : Int
  kind : Int
  block : Int
  data : List UInt8
  old : Int
  new : Int
  next : List Int
def wCells (x : Wish) (A : Option Addr) (n c : Nat) (A' : Option Addr) (n' c' : Nat) : Array Value :=
  #[.int .i64 x.client, .int .i64 x.stamp, .int .i64 x.group, .int .i64 x.epoch, .int .i64 x.kind, .int .i64 x.block, .slice A n c, .int .i64 x.old, .int .i64 x.new, .slice A' n' c']
def I64 (z : Int) : Prop := -9223372036854775808 ≤ z ∧ z ≤ 9223372036854775807
structure WishIn (w : World) (B : Nat) (x : Wish) (A : Option Addr) (n c : Nat) (A' : Option Addr) (n' c' : Nat) : Prop where
  data : Reads w B 1 A n (x.data.map vb)
  dc : n ≤ c
  dm : n ≤ 140737488355328
  next : Reads w B 1 A' n' (x.next.map vn)
  nc : n' ≤ c'
  nm : n' ≤ 17592186044416
  rng : I64 x.client ∧ I64 x.stamp ∧ I64 x.group ∧ I64 x.epoch ∧ I64 x.kind ∧ I64 x.block ∧ I64 x.old ∧ I64 x.new ∧ ∀ z, z ∈ x.next → I64 z
theorem WishIn.below {w w' : World} {B : Nat} {x : Wish} {A : Option Addr} {n c : Nat} {A' : Option Addr} {n' c' : Nat} (h : WishIn w B x A n c A' n' c') (hb : Below B w w') : WishIn w' B x A n c A' n' c' :=
  ⟨h.data.below hb, h.dc, h.dm, h.next.below hb, h.nc, h.nm, h.rng⟩
theorem WishIn.more {w : World} {B B' : Nat} {x : Wish} {A : Option Addr} {n c : Nat} {A' : Option Addr} {n' c' : Nat} (h : WishIn w B x A n c A' n' c') (hB : B ≤ B') : WishIn w B' x A n c A' n' c' :=
  ⟨h.data.more hB, h.dc, h.dm, h.next.more hB, h.nc, h.nm, h.rng⟩
theorem WishIn.dlen {w : World} {B : Nat} {x : Wish} {A : Option Addr} {n c : Nat} {A' : Option Addr} {n' c' : Nat} (h : WishIn w B x A n c A' n' c') : x.data.length = n := by have := h.data.1; simpa using this
theorem WishIn.nlen {w : World} {B : Nat} {x : Wish} {A : Option Addr} {n c : Nat} {A' : Option Addr} {n' c' : Nat} (h : WishIn w B x A n c A' n' c') : x.next.length = n' := by have := h.next.1; simpa using this

/-- rising, above the last -/
def risingB : Int → List Int → Bool
  | _, [] => true
  | last, n :: t => decide (last < n ∧ n ≤ 28) && risingB n t
def crewB (l : List Int) : Bool := decide (l.length % 3 = 1 ∧ l.length ≤ 7) && risingB 0 l
def MayP (x : Wish) : Prop := 0 ≤ x.epoch ∧ x.epoch ≤ 1048576 ∧ (
  (x.kind = 5 ∧ x.client = 0 ∧ x.stamp = 0 ∧ x.block = 0 ∧ x.data.length = 0 ∧ x.old = 0 ∧ x.new = 0 ∧ 1 ≤ x.group ∧ x.group ≤ 2 ∧ crewB x.next = true) ∨
  (x.kind ≠ 5 ∧ 31 ≤ x.client ∧ x.client ≤ 34 ∧ 1 ≤ x.stamp ∧ x.stamp ≤ 9007199254740991 ∧ x.next.length = 0 ∧ (
    ((x.kind = 1 ∧ x.data.length = 0 ∨ x.kind = 2 ∧ x.data.length = 16) ∧ 1 ≤ x.group ∧ x.group ≤ 2 ∧ 0 ≤ x.block ∧ x.block ≤ 7 ∧ x.old = 0 ∧ x.new = 0) ∨
    ((x.kind = 3 ∧ x.old = 0 ∧ x.new = 0 ∨ x.kind = 4 ∧ 1 ≤ x.old ∧ x.old ≤ 28 ∧ 1 ≤ x.new ∧ x.new ≤ 28 ∧ x.old ≠ x.new) ∧ x.group = 0 ∧ x.epoch = 0 ∧ 1 ≤ x.block ∧ x.block ≤ 2 ∧ x.data.length = 0))))
instance (x : Wish) : Decidable (MayP x) := by unfold MayP; infer_instance
def mayB (x : Wish) : Bool := decide (MayP x)

theorem within_any (n l m : Int) (w : World) : Calls Tryz.prog 171 #[.int .i64 n, .int .i64 l, .int .i64 m] w fun e w' => e = .returned (.bool (decide (l ≤ n ∧ n ≤ m))) ∧ w = w' := by
  by_cases h : l ≤ n
  · go_enter Tryz.func171, Tryz.ntmps171
    go_wp2
    go_ret
    exact ⟨ret_bool (by simp [h]), rfl⟩
  · have h' : ¬ (l ≤ n ∧ n ≤ m) := fun hh => h hh.1
    rw [decide_eq_false h']
    clear h'
    go_enter Tryz.func171, Tryz.ntmps171
    go_wp2
    go_ret
    exact ⟨rfl, rfl⟩

set_option maxHeartbeats 1000000 in
theorem crew_any (A : Option Addr) (n c : Nat) (zs : List Int) (w : World) (B : Nat) (h : Reads w B 1 A n (zs.map vn)) (hn : n ≤ 17592186044416) :
    Calls Tryz.prog 172 #[.slice A n c] w fun e w' => e = .returned (.bool (crewB zs)) ∧ w = w' := by
  have hzn : zs.length = n := by have := h.1; simpa using this
  have H := Lib.hid h
  have HZN := Lib.hid hzn
  clear h hzn
  by_cases h1 : n % 3 = 1
  · by_cases h2 : n ≤ 7
    · have HR := Lib.hid (show crewB zs = risingB 0 zs by unfold crewB; rw [decide_eq_true (by rw [HZN.out]; exact ⟨h1, h2⟩), Bool.true_and])
      go_enter Tryz.func172, Tryz.ntmps172
      go_wp2_with fail
      go_loopw [3, 17] (fun lv iv wr => ∃ (i : Nat) (last : Int), i ≤ n ∧ lv = .int .i64 last ∧ iv = .int .i64 i ∧ w = wr ∧ crewB zs = risingB last (zs.drop i)) (fun _ iv _ => n - (intOf iv).toNat)
      case atStart => exact ⟨0, 0, by omega, rfl, rfl, rfl, HR.out⟩
      case round =>
        obtain ⟨i, last, hi, rfl, rfl, rfl, hr⟩ := hrel
        by_cases hin : i < n
        · obtain ⟨ad, u, hA, hadb, hxi, hcell⟩ := H.out.at_ hin
          subst hA
          have hil : i < zs.length := by have := HZN.out; omega
          have hu : u = .int .i64 zs[i] := by
            rw [List.getElem?_map, List.getElem?_eq_getElem hil] at hxi
            injection hxi with hxi
            exact hxi.symm
          subst hu
          rw [List.drop_eq_getElem_cons hil] at hr
          generalize zs[i] = z at hr hcell
          simp only [risingB] at hr
          clear hxi
          by_cases hz : last < z ∧ z ≤ 28
          · rw [decide_eq_true hz, Bool.true_and] at hr
            have HRR := Lib.hid hr
            clear hr
            obtain ⟨hz1, hz2⟩ := hz
            have hz3 : ¬ z ≤ last := by omega
            go_wp2_with fail
            go_roundw
            case rel => exact ⟨i + 1, z, by omega, rfl, by go_num, trivial, HRR.out⟩
            case measure => simp [intOf]; omega
          · rw [decide_eq_false hz, Bool.false_and] at hr
            have HRR := Lib.hid hr
            clear hr
            by_cases hz1 : z ≤ last
            · go_wp2_with fail
              go_ret
              exact ⟨by rw [HRR.out]; rfl, rfl⟩
            · have hz2 : 28 < z := by omega
              go_wp2_with fail
              go_ret
              exact ⟨by rw [HRR.out]; rfl, rfl⟩
        · obtain rfl : i = n := by omega
          rw [List.drop_of_length_le (by have := HZN.out; omega)] at hr
          have HRR := Lib.hid hr
          clear hr
          go_wp2_with fail
          go_ret
          exact ⟨by rw [HRR.out]; rfl, rfl⟩
    · have HR := Lib.hid (show crewB zs = false by unfold crewB; rw [decide_eq_false (by rw [HZN.out]; exact fun h => h2 h.2), Bool.false_and])
      go_enter Tryz.func172, Tryz.ntmps172
      go_wp2_with fail
      go_ret
      exact ⟨by rw [HR.out]; rfl, rfl⟩
  · have HR := Lib.hid (show crewB zs = false by unfold crewB; rw [decide_eq_false (by rw [HZN.out]; exact fun h => h1 h.1), Bool.false_and])
    go_enter Tryz.func172, Tryz.ntmps172
    go_wp2_with fail
    go_ret
    exact ⟨by rw [HR.out]; rfl, rfl⟩

set_option maxRecDepth 100000 in
set_option maxHeartbeats 4000000 in
theorem may_any (x : Wish) (A : Option Addr) (n c : Nat) (A' : Option Addr) (n' c' : Nat) (w : World) (B : Nat) (h : WishIn w B x A n c A' n' c') (hB : B ≤ w.heap.size) :
    Calls Tryz.prog 141 #[.agg (wCells x A n c A' n' c')] w fun e w' => e = .returned (.bool (mayB x)) ∧ Below w.heap.size w w' := by
  have hdl := h.dlen
  have hnl := h.nlen
  have HCR := Lib.hid (fun W (hb : Below w.heap.size w W) => crew_any A' n' c' x.next W B (h.next.below (hb.mono hB)) h.nm)
  obtain ⟨client, stamp, group, epoch, kind, block, data, old, new, next⟩ := x
  simp only at hdl hnl HCR
  obtain ⟨cr, hcr⟩ : ∃ cr, cr = crewB next := ⟨_, rfl⟩
  have HMB := Lib.hid (show mayB ⟨client, stamp, group, epoch, kind, block, data, old, new, next⟩ = decide (0 ≤ epoch ∧ epoch ≤ 1048576 ∧ (
  (kind = 5 ∧ client = 0 ∧ stamp = 0 ∧ block = 0 ∧ n = 0 ∧ old = 0 ∧ new = 0 ∧ 1 ≤ group ∧ group ≤ 2 ∧ cr = true) ∨
  (kind ≠ 5 ∧ 31 ≤ client ∧ client ≤ 34 ∧ 1 ≤ stamp ∧ stamp ≤ 9007199254740991 ∧ n' = 0 ∧ (
    ((kind = 1 ∧ n = 0 ∨ kind = 2 ∧ n = 16) ∧ 1 ≤ group ∧ group ≤ 2 ∧ 0 ≤ block ∧ block ≤ 7 ∧ old = 0 ∧ new = 0) ∨
    ((kind = 3 ∧ old = 0 ∧ new = 0 ∨ kind = 4 ∧ 1 ≤ old ∧ old ≤ 28 ∧ 1 ≤ new ∧ new ≤ 28 ∧ old ≠ new) ∧ group = 0 ∧ epoch = 0 ∧ 1 ≤ block ∧ block ≤ 2 ∧ n = 0))))) by
    unfold mayB MayP; simp only [hdl, hnl, ← hcr])
  rw [← hcr] at HCR
  clear hdl hnl hcr h
  unfold wCells
  simp only
  go_enter Tryz.func141, Tryz.ntmps141
  go_wp2_with fail
  have hk := Blk.new w 44 #[.int .i64 client, .int .i64 stamp, .int .i64 group, .int .i64 epoch, .int .i64 kind, .int .i64 block, .slice A n c, .int .i64 old, .int .i64 new, .slice A' n' c']
  have hb : Below w.heap.size w (w.alloc (.cells #[.int .i64 client, .int .i64 stamp, .int .i64 group, .int .i64 epoch, .int .i64 kind, .int .i64 block, .slice A n c, .int .i64 old, .int .i64 new, .slice A' n' c'] 44)) := (Below.refl _ _).alloc (Nat.le_refl _) _
  generalize w.alloc _ = w1 at hk hb ⊢
  have c0 := hk.cell 0
  have c1 := hk.cell 1
  have c2 := hk.cell 2
  have c3 := hk.cell 3
  have c4 := hk.cell 4
  have c5 := hk.cell 5
  have c6 := hk.cell 6
  have c7 := hk.cell 7
  have c8 := hk.cell 8
  have c9 := hk.cell 9
  simp only [List.getElem?_toArray, List.getElem?_cons_zero, List.getElem?_cons_succ] at c0 c1 c2 c3 c4 c5 c6 c7 c8 c9
  have HB := Lib.hid hb
  have hcr := HCR.out w1 hb
  have HCW := Lib.hid hcr
  clear hk hb hcr
  obtain ⟨g, hg⟩ : ∃ g, g = w.heap.size := ⟨_, rfl⟩
  rw [← hg] at c0 c1 c2 c3 c4 c5 c6 c7 c8 c9 ⊢
  clear hg
  go_wp2_with (first
    | (go_at_call 171; refine (within_any _ _ _ _).mono ?_; rintro _ _ ⟨rfl, rfl⟩)
    | (go_at_call 172; refine HCW.out.mono ?_; rintro _ _ ⟨rfl, rfl⟩))
  all_goals go_ret
  all_goals refine ⟨?_, HB.out⟩
  all_goals rw [HMB.out]
  all_goals refine ret_bool ?_
  all_goals rw [Bool.eq_iff_iff]
  all_goals clear HCR HCW HMB HB c0 c1 c2 c3 c4 c5 c6 c7 c8 c9
  all_goals cases cr
  all_goals simp at *
  all_goals (try omega)

end Go.Proofs.YtdpoedgjehofiaaGreat

/- Contracts of wish.Check, wish.Bytes. -/
namespace Go.Proofs.YtdpoedgjehofiaaGreat
set_option linter.unusedVariables false
open Go.RowKit

def numsI (l : List Int) : List UInt8 := l.flatMap fun z => numB z.toNat
def wishB (x : Wish) : List UInt8 := numsI [x.kind, x.client, x.stamp, x.group, x.epoch, x.block] ++ strB x.data ++ numsI [x.old, x.new, (x.next.length : Int)] ++ numsI x.next
def NumI (z : Int) : Prop := 0 ≤ z ∧ z ≤ 9007199254740991

theorem rising_num : ∀ (l : List Int) (a : Int), 0 ≤ a → risingB a l = true → ∀ z, z ∈ l → 1 ≤ z ∧ z ≤ 28
  | [], _, _, _, z, hz => by cases hz
  | n :: t, a, ha, h, z, hz => by
    simp only [risingB, Bool.and_eq_true, decide_eq_true_eq] at h
    rcases List.mem_cons.1 hz with rfl | hz
    · exact ⟨by omega, h.1.2⟩
    · exact rising_num t n (by omega) h.2 z hz
theorem may_nums {x : Wish} (h : mayB x = true) : (∀ z, z ∈ [x.kind, x.client, x.stamp, x.group, x.epoch, x.block] → NumI z) ∧ (∀ z, z ∈ [x.old, x.new, (x.next.length : Int)] → NumI z) ∧ (∀ z, z ∈ x.next → NumI z) ∧ x.data.length ≤ 16 ∧ x.next.length ≤ 7 := by
  have hm : MayP x := of_decide_eq_true h
  unfold MayP at hm
  have hc : crewB x.next = true → (∀ z, z ∈ x.next → NumI z) ∧ x.next.length ≤ 7 := fun hc => by
    unfold crewB at hc
    rw [Bool.and_eq_true, decide_eq_true_eq] at hc
    exact ⟨fun z hz => by have := rising_num _ 0 (by omega) hc.2 z hz; unfold NumI; omega, hc.1.2⟩
  have hn : x.next.length = 0 → (∀ z, z ∈ x.next → NumI z) := fun h0 z hz => by rw [List.eq_nil_of_length_eq_zero h0] at hz; cases hz
  have h3 : (∀ z, z ∈ x.next → NumI z) ∧ x.next.length ≤ 7 := by
    rcases hm.2.2 with h1 | h1
    · exact hc h1.2.2.2.2.2.2.2.2.2
    · exact ⟨hn h1.2.2.2.2.2.1, by omega⟩
  refine ⟨?_, ?_, h3.1, by omega, h3.2⟩
  · intro z hz
    unfold NumI
    simp only [List.mem_cons, List.not_mem_nil, or_false] at hz
    omega
  · intro z hz
    unfold NumI
    have := h3.2
    simp only [List.mem_cons, List.not_mem_nil, or_false] at hz
    omega
theorem numsI_len {l : List Int} (h : ∀ z, z ∈ l → NumI z) : (numsI l).length ≤ 8 * l.length := by
  unfold numsI
  induction l with
  | nil => simp
  | cons a t ih =>
    have h1 := h a (by simp)
    unfold NumI at h1
    have h2 := (numB_len (n := a.toNat) (by unfold maxN; omega)).2
    have h3 := ih (fun z hz => h z (by simp [hz]))
    rw [List.flatMap_cons, List.length_append, List.length_cons]
    omega
theorem reads_cells (w : World) (vs : Array Value) (t : TypeId) : Reads (w.alloc (.cells vs t)) (w.heap.size + 1) 1 (some ⟨w.heap.size, 0, none⟩) vs.size vs.toList := by
  refine ⟨by simp, fun _ => ⟨_, rfl, Nat.lt_succ_self _, fun j u hu => ?_⟩⟩
  have hk : Blk (w.alloc (.cells vs t)) w.heap.size t vs := Blk.newAt rfl
  have := hk.cell j
  rw [Array.getElem?_toList] at hu
  rw [hu] at this
  unfold Addr.add
  split
  · rename_i h0; subst h0; exact this
  · simpa using this
theorem lasts_lit (m : Nat) (l : List Value) : Lasts fun W v => ∃ g', v = .slice (some ⟨g', 0, none⟩) m m ∧ Reads W W.heap.size 1 (some ⟨g', 0, none⟩) m l := fun W W' v ⟨g', e, h⟩ hb => ⟨g', e, (h.below hb).more hb.size⟩
/-- slices laid out in a new block -/
theorem rowsB_lit (w : World) (t : TypeId) (l : List (Option Addr × Nat × Nat × List UInt8)) (h : ∀ p, p ∈ l → Reads w w.heap.size 1 p.1 p.2.1 (p.2.2.2.map vb)) :
    RowsB (w.alloc (.cells (l.map fun p => Value.slice p.1 p.2.1 p.2.2.1).toArray t)) (w.heap.size + 1) (some ⟨w.heap.size, 0, none⟩) l.length (l.map (·.2.2.2)) := by
  have hb : Below w.heap.size w (w.alloc (.cells (l.map fun p => Value.slice p.1 p.2.1 p.2.2.1).toArray t)) := (Below.refl _ _).alloc (Nat.le_refl _) _
  have hr := reads_cells w (l.map fun p => Value.slice p.1 p.2.1 p.2.2.1).toArray t
  refine ⟨by simp, fun h0 => ⟨_, rfl, Nat.lt_succ_self _, fun k x hx => ?_⟩⟩
  obtain ⟨ad, hA, _, hc⟩ := hr.2 (by simpa using h0)
  injection hA with hA
  subst hA
  rw [List.getElem?_map] at hx
  cases hp : l[k]? with
  | none => rw [hp] at hx; cases hx
  | some p =>
    rw [hp] at hx
    injection hx with hx
    refine ⟨p.1, p.2.1, p.2.2.1, hc k _ (by simp [hp]), ?_⟩
    rw [← hx]
    exact ((h p (List.mem_of_getElem? hp)).below hb).more (by omega)

set_option maxRecDepth 100000 in
set_option maxHeartbeats 1000000 in
theorem check_any (x : Wish) (A : Option Addr) (n c : Nat) (A' : Option Addr) (n' c' : Nat) (w : World) (B : Nat) (h : WishIn w B x A n c A' n' c') (hB : B ≤ w.heap.size) :
    Calls Tryz.prog 89 #[.agg (wCells x A n c A' n' c')] w fun e w' => e = .returned (.int .i64 (if mayB x = true then 0 else 2)) ∧ Below w.heap.size w w' := by
  have HM := Lib.hid (fun W (hb : Below w.heap.size w W) => may_any x A n c A' n' c' W B (h.below (hb.mono hB)) (by have := hb.size; omega))
  clear h
  obtain ⟨mb, hmb⟩ : ∃ b, b = mayB x := ⟨_, rfl⟩
  rw [← hmb] at HM ⊢
  clear hmb
  unfold wCells at HM ⊢
  go_enter Tryz.func89, Tryz.ntmps89
  go_wp2_with fail
  have hb : Below w.heap.size w (w.alloc (.cells #[.int .i64 x.client, .int .i64 x.stamp, .int .i64 x.group, .int .i64 x.epoch, .int .i64 x.kind, .int .i64 x.block, .slice A n c, .int .i64 x.old, .int .i64 x.new, .slice A' n' c'] 44)) := (Below.refl _ _).alloc (Nat.le_refl _) _
  refine (HM.out _ hb).mono ?_
  rintro _ w2 ⟨rfl, hb2⟩
  have HB2 := Lib.hid (hb.trans (hb2.mono (by simp)))
  clear hb hb2
  cases mb with
  | true =>
    go_wp2_with fail
    go_ret
    exact ⟨rfl, HB2.out⟩
  | false =>
    go_wp2_with fail
    go_ret
    exact ⟨rfl, HB2.out⟩

end Go.Proofs.YtdpoedgjehofiaaGreat

/- A vault in plain words: blocks, the clients' last wishes, the seal; what Do, Heard, Turn make of it. -/
namespace Go.Proofs.YtdpoedgjehofiaaGreat
set_option linter.unusedVariables false

structure VM where
  group : Nat
  epoch : Nat
  blocks : List (List UInt8)
  last : List (Nat × List UInt8)
  shut : List Int
structure Ans where
  err : Nat
  data : List UInt8
  epoch : Nat
  nodes : List Int
def okA : Ans := ⟨0, [], 0, []⟩
def dataA (d : List UInt8) : Ans := ⟨0, d, 0, []⟩
def errA (e n : Nat) : Ans := ⟨e, [], n, []⟩

structure VOk (m : VM) : Prop where
  group : 1 ≤ m.group ∧ m.group ≤ 2
  epoch : m.epoch ≤ 1048576
  blocks : m.blocks.length = 8
  block : ∀ b, b ∈ m.blocks → b.length = 16
  last : m.last.length = 4
  stamp : ∀ x, x ∈ m.last → x.1 ≤ maxN ∧ (x.2 = [] ∨ x.2.length = 16 ∧ 0 < x.1)
  shut : m.shut = [] ∨ (crewB m.shut = true ∧ m.epoch < 1048576)

def blockV (m : VM) (i : Nat) : List UInt8 := m.blocks.getD i []
def lastV (m : VM) (i : Nat) : Nat × List UInt8 := m.last.getD i (0, [])
def lastB (x : Nat × List UInt8) : List UInt8 := numB x.1 ++ strB x.2
def sealB (m : VM) : List UInt8 := numB m.group ++ numB m.epoch ++ numB m.shut.length ++ numsI m.shut
def leafV (m : VM) (i : Nat) : List UInt8 := if i < 8 then blockV m i else if i < 12 then lastB (lastV m (i - 8)) else sealB m
def leavesV (m : VM) : List (List UInt8) := (List.range 13).map (leafV m)

def newV (g : Nat) : VM := ⟨g, 0, List.replicate 8 (List.replicate 16 0), List.replicate 4 (0, []), []⟩

def oldV (m : VM) (x : Wish) : Option Ans :=
  let y := lastV m (x.client - 31).toNat
  if x.stamp = (y.1 : Int) then some (dataA y.2) else if x.stamp < (y.1 : Int) then some (errA 172 0) else none
def elseV (m : VM) (e : Int) : Option Ans :=
  if e ≠ (m.epoch : Int) then some (errA 171 m.epoch) else if 0 < m.shut.length then some (errA 171 (m.epoch + 1)) else none
def inV (m : VM) (x : Wish) : Bool := mayB x && decide (x.group = (m.group : Int))
/-- what a wish that is no seal makes: its data, the vault -/
def ranV (m : VM) (x : Wish) : VM × List UInt8 :=
  let c := (x.client - 31).toNat
  let b := x.block.toNat
  let d := if x.kind = 1 then blockV m b else []
  (⟨m.group, m.epoch, if x.kind = 1 then m.blocks else m.blocks.set b x.data, m.last.set c (x.stamp.toNat, d), m.shut⟩, d)
def sealV (m : VM) (x : Wish) : VM × Ans :=
  match elseV m x.epoch with
  | some a => (m, a)
  | none => if m.epoch = 1048576 then (m, errA 5 0) else (⟨m.group, m.epoch, m.blocks, m.last, x.next⟩, okA)
def doV (m : VM) (x : Wish) : VM × Ans × Nat :=
  if inV m x = true then
    if x.kind = 5 then ((sealV m x).1, (sealV m x).2, 0)
    else match oldV m x with
      | some a => (m, a, 0)
      | none => match elseV m x.epoch with
        | some a => (m, a, 0)
        | none => ((ranV m x).1, dataA (ranV m x).2, 0)
  else (m, okA, 2)
def heardV (m : VM) (x : Wish) : Ans × Bool :=
  if inV m x = true ∧ x.kind ≠ 5 then match oldV m x with
    | some a => (a, true)
    | none => (okA, false)
  else (okA, false)
def turnV (m : VM) : VM × Nat := if m.shut.length = 0 then (m, 171) else (⟨m.group, m.epoch + 1, m.blocks, m.last, []⟩, 0)

theorem leavesV_len (m : VM) : (leavesV m).length = 13 := by simp [leavesV]
theorem leavesV_get (m : VM) (i : Nat) (h : i < 13) : (leavesV m)[i]? = some (leafV m i) := by
  unfold leavesV
  rw [List.getElem?_map, List.getElem?_range h]; rfl
theorem newV_ok (g : Nat) (h1 : 1 ≤ g) (h2 : g ≤ 2) : VOk (newV g) := by
  refine ⟨⟨h1, h2⟩, by simp [newV], by simp [newV], ?_, by simp [newV], ?_, .inl rfl⟩
  · intro b hb
    obtain ⟨_, rfl⟩ := List.mem_replicate.1 hb
    simp
  · intro x hx
    obtain ⟨_, rfl⟩ := List.mem_replicate.1 hx
    exact ⟨by unfold maxN; omega, .inl rfl⟩
theorem VOk.blk {m : VM} (h : VOk m) {i : Nat} (hi : i < 8) : (blockV m i).length = 16 := by
  unfold blockV
  rw [List.getD_eq_getElem?_getD, List.getElem?_eq_getElem (by rw [h.blocks]; exact hi)]
  exact h.block _ (List.getElem_mem _)
theorem VOk.lst {m : VM} (h : VOk m) {i : Nat} (hi : i < 4) : (lastV m i).1 ≤ maxN ∧ ((lastV m i).2 = [] ∨ (lastV m i).2.length = 16 ∧ 0 < (lastV m i).1) := by
  unfold lastV
  rw [List.getD_eq_getElem?_getD, List.getElem?_eq_getElem (by rw [h.last]; exact hi)]
  exact h.stamp _ (List.getElem_mem _)
theorem VOk.sealNum {m : VM} (h : VOk m) : (∀ z, z ∈ m.shut → NumI z) ∧ m.shut.length ≤ 7 := by
  rcases h.shut with e | ⟨e, _⟩
  · rw [e]; exact ⟨fun z hz => absurd hz (by simp), by simp⟩
  · unfold crewB at e
    simp only [Bool.and_eq_true, decide_eq_true_eq] at e
    refine ⟨fun z hz => ?_, e.1.2⟩
    have := rising_num m.shut 0 (by omega) e.2 z hz
    unfold NumI
    omega
theorem may_client {x : Wish} (h : mayB x = true) (hk : x.kind ≠ 5) : 31 ≤ x.client ∧ x.client ≤ 34 ∧ 1 ≤ x.stamp ∧ x.stamp ≤ 9007199254740991 := by
  have hm : MayP x := of_decide_eq_true h
  unfold MayP at hm
  obtain ⟨_, _, h1 | h1⟩ := hm
  · exact absurd h1.1 hk
  · exact ⟨h1.2.1, h1.2.2.1, h1.2.2.2.1, h1.2.2.2.2.1⟩
theorem may_group {x : Wish} (h : mayB x = true) (hk : x.kind ≠ 5) (hg : 1 ≤ x.group) : (x.kind = 1 ∧ x.data.length = 0 ∨ x.kind = 2 ∧ x.data.length = 16) ∧ 0 ≤ x.block ∧ x.block ≤ 7 := by
  have hm : MayP x := of_decide_eq_true h
  unfold MayP at hm
  obtain ⟨_, _, h1 | h1⟩ := hm
  · exact absurd h1.1 hk
  · rcases h1.2.2.2.2.2.2 with h2 | h2
    · exact ⟨h2.1, h2.2.2.2.1, h2.2.2.2.2.1⟩
    · omega
theorem may_seal {x : Wish} (h : mayB x = true) (hk : x.kind = 5) : crewB x.next = true := by
  have hm : MayP x := of_decide_eq_true h
  unfold MayP at hm
  obtain ⟨_, _, h1 | h1⟩ := hm
  · exact h1.2.2.2.2.2.2.2.2.2
  · exact absurd hk h1.1
theorem crewB_pos {l : List Int} (h : crewB l = true) : 0 < l.length ∧ l.length ≤ 7 := by
  unfold crewB at h
  simp only [Bool.and_eq_true, decide_eq_true_eq] at h
  omega

theorem VOk.ran {m : VM} (h : VOk m) {x : Wish} (hm : mayB x = true) (hg : x.group = (m.group : Int)) (hk : x.kind ≠ 5) : VOk (ranV m x).1 := by
  have hc := may_client hm hk
  have hb := may_group hm hk (by have := h.group; omega)
  have hd : (if x.kind = 1 then blockV m x.block.toNat else []) = [] ∨ (if x.kind = 1 then blockV m x.block.toNat else []).length = 16 := by
    split
    · right; exact h.blk (by omega)
    · left; rfl
  refine ⟨h.group, h.epoch, ?_, ?_, ?_, ?_, h.shut⟩
  · unfold ranV; simp only; split <;> simp [h.blocks]
  · intro b hb'
    unfold ranV at hb'
    simp only at hb'
    split at hb'
    · exact h.block b hb'
    · rename_i hk1
      rcases List.mem_or_eq_of_mem_set hb' with h1 | rfl
      · exact h.block b h1
      · rcases hb.1 with h1 | h1
        · exact absurd h1.1 hk1
        · exact h1.2
  · simp [ranV, h.last]
  · intro y hy
    unfold ranV at hy
    simp only at hy
    rcases List.mem_or_eq_of_mem_set hy with h1 | rfl
    · exact h.stamp y h1
    · refine ⟨by show x.stamp.toNat ≤ maxN; unfold maxN; omega, ?_⟩
      rcases hd with h1 | h1
      · exact .inl h1
      · exact .inr ⟨h1, by show 0 < x.stamp.toNat; omega⟩
theorem VOk.sealed {m : VM} (h : VOk m) {x : Wish} (hm : mayB x = true) (hk : x.kind = 5) : VOk (sealV m x).1 := by
  unfold sealV
  cases he : elseV m x.epoch with
  | some a => exact h
  | none =>
    simp only
    split
    · exact h
    · rename_i hne
      exact ⟨h.group, h.epoch, h.blocks, h.block, h.last, h.stamp, .inr ⟨may_seal hm hk, by have := h.epoch; show m.epoch < 1048576; omega⟩⟩
theorem VOk.did {m : VM} (h : VOk m) (x : Wish) : VOk (doV m x).1 := by
  unfold doV
  split
  · rename_i hi
    unfold inV at hi
    simp only [Bool.and_eq_true, decide_eq_true_eq] at hi
    split
    · rename_i hk; exact h.sealed hi.1 hk
    · rename_i hk
      cases oldV m x with
      | some a => exact h
      | none =>
        simp only
        cases elseV m x.epoch with
        | some a => exact h
        | none => exact h.ran hi.1 hi.2 hk
  · exact h
theorem VOk.turned {m : VM} (h : VOk m) : VOk (turnV m).1 := by
  unfold turnV
  split
  · exact h
  · rename_i hne
    refine ⟨h.group, ?_, h.blocks, h.block, h.last, h.stamp, .inl rfl⟩
    show m.epoch + 1 ≤ 1048576
    rcases h.shut with e | ⟨_, e⟩
    · rw [e] at hne; exact absurd rfl hne
    · omega
theorem numsI_one (n : Nat) : numsI [(n : Int)] = numB n := by simp [numsI]
theorem leafV_len {m : VM} (h : VOk m) (i : Nat) : (leafV m i).length ≤ 120 := by
  unfold leafV
  split
  · rename_i hi; rw [h.blk hi]; omega
  · split
    · rename_i h8 h12
      have hl := h.lst (i := i - 8) (by omega)
      have hn := (numB_len hl.1).2
      have hd : (lastV m (i - 8)).2.length ≤ 16 := by
        rcases hl.2 with e | e
        · rw [e]; simp
        · rw [e.1]; omega
      have hn2 := (numB_len (n := (lastV m (i - 8)).2.length) (by unfold maxN; omega)).2
      unfold lastB strB
      simp only [List.length_append]
      omega
    · have hs := h.sealNum
      have h1 := (numB_len (n := m.group) (by have := h.group; unfold maxN; omega)).2
      have h2 := (numB_len (n := m.epoch) (by have := h.epoch; unfold maxN; omega)).2
      have h3 := (numB_len (n := m.shut.length) (by unfold maxN; omega)).2
      have h4 := numsI_len hs.1
      unfold sealB
      simp only [List.length_append]
      omega

end Go.Proofs.YtdpoedgjehofiaaGreat
