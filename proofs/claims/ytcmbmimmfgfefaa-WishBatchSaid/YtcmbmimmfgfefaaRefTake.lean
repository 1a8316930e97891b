/-
  Contracts of bastideref01: TakeNum, TakeFix, TakeStr.
-/
import Derived.Test.YtcmbmimmfgfefaaRefNum
import Derived.Test.YtcmbmimmfgfefaaBinFix
namespace Go.Proofs.Ytcmbmimmfgfefaa
set_option linter.unusedVariables false
open Go.RowKit

set_option maxRecDepth 100000 in
set_option maxHeartbeats 2000000 in
theorem refTakeNum_any (A : Option Addr) (n c : Nat) (xs : List UInt8) (w : World) (B : Nat) (h : Reads w B 1 A n (xs.map vb)) (hB : B ≤ w.heap.size) (hc : n ≤ c) (hcm : n ≤ 140737488355328) :
    Calls Try.prog 51 #[.slice A n c] w fun e w' => ∃ v, e = .returned (.tuple #[.int .i64 ((tn xs).1 : Int), v, .int .i64 ((tn xs).2.2 : Int)]) ∧ OwnB w' w.heap.size v (tn xs).2.1 ∧ Below w.heap.size w w' := by
  have hxn : xs.length = n := by have := h.1; simpa using this
  cases xs with
  | nil =>
    simp at hxn
    subst hxn
    go_enter Try.func51, Try.ntmps51
    go_wp2_with fail
    go_ret3
    exact ⟨_, rfl, OwnB.nil _ _, Below.refl _ _⟩
  | cons m r =>
    obtain ⟨ad, hA, hadb, hcell⟩ := h.2 (by simp at hxn; omega)
    subst hA
    obtain ⟨k, hk⟩ : ∃ k, k = m.toNat := ⟨_, rfl⟩
    have hk8 : k < 256 := by rw [hk]; exact m.toNat_lt
    have hwk : wrap64 (k : Int) = (k : Int) := by unfold wrap64; omega
    have c0 : w.cell? ad = some (.int .u8 (k : Int)) := by
      have h0 : w.cell? ad = some (vb m) := by have := hcell 0 (vb m) rfl; simpa [Addr.add] using this
      rw [hk]
      exact h0
    have hcr : ∀ j (hj : j < r.length), w.cell? (ad.add (j + 1)) = some (vb r[j]) := fun j hj => hcell (j + 1) _ (by rw [List.map_cons, List.getElem?_cons_succ, List.getElem?_map, List.getElem?_eq_getElem hj]; rfl)
    have hrn : r.length = n - 1 := by simp at hxn; omega
    have hn1 : 1 ≤ n := by simp at hxn; omega
    have HK := Lib.hid hk
    have H := Lib.hid h
    have HCR := Lib.hid hcr
    have HRN := Lib.hid hrn
    have hn0 : ¬ (n : Int) = 0 := by omega
    have hn1' : (1 : Int) ≤ n := by omega
    clear hcell hxn h hk hrn hcr
    go_enter Try.func51, Try.ntmps51
    go_upto_region 4 with fail
    clear c0
    by_cases h1 : 7 < k
    · have htn : tn (m :: r) = (0, [], 4) := by unfold tn takeN; simp only [← HK.out]; rw [if_pos h1]
      have HT := Lib.hid htn
      clear htn
      go_wp2_with fail
      go_ret3
      exact ⟨_, by rw [HT.out]; rfl, by rw [HT.out]; exact OwnB.nil _ _, Below.refl _ _⟩
    · by_cases h2 : n - 1 < k
      · have htn : tn (m :: r) = (0, [], 3) := by unfold tn takeN; simp only [← HK.out]; rw [if_neg h1, if_pos (by have := HRN.out; omega)]
        have HT := Lib.hid htn
        have h2' : (n : Int) - 1 < k := by omega
        clear htn
        go_wp2_with fail
        go_ret3
        exact ⟨_, by rw [HT.out]; rfl, by rw [HT.out]; exact OwnB.nil _ _, Below.refl _ _⟩
      · have h2' : ¬ (n : Int) - 1 < k := by omega
        by_cases h3 : 0 < k ∧ r.head? = some 0
        · have htn : tn (m :: r) = (0, [], 4) := by unfold tn takeN; simp only [← HK.out]; rw [if_neg h1, if_neg (by have := HRN.out; omega), if_pos h3]
          have HT := Lib.hid htn
          clear htn
          obtain ⟨h3a, h3b⟩ := h3
          have c1 : w.cell? ⟨ad.block, ad.off + 1, none⟩ = some (.int .u8 0) := by
            show w.cell? (ad.add 1) = _
            cases r with
            | nil => simp at h3b
            | cons a t => simp at h3b; subst h3b; exact HCR.out 0 (by simp)
          have hn2 : (1 : Int) < n := by omega
          have hn2' : 1 < n := by omega
          go_wp2_with fail
          go_ret3
          exact ⟨_, by rw [HT.out]; rfl, by rw [HT.out]; exact OwnB.nil _ _, Below.refl _ _⟩
        · go_upto_region 8 with fail
          go_cut [29] (fun s25 wx => s25 = .bool false ∧ wx = w)
          case first =>
            by_cases h0 : 0 < k
            · have hnx : ∃ z, w.cell? ⟨ad.block, ad.off + 1, none⟩ = some (.int .u8 z) ∧ z ≠ 0 := by
                show ∃ z, w.cell? (ad.add 1) = some (.int .u8 z) ∧ z ≠ 0
                cases r with
                | nil => have := HRN.out; simp at this; omega
                | cons a t =>
                  refine ⟨bi a, HCR.out 0 (by simp), fun e => h3 ⟨h0, ?_⟩⟩
                  simp
                  exact bi_inj e
              obtain ⟨z, hc1', hz⟩ := hnx
              have hzz : (z == 0) = false := by simp [hz]
              have hn2 : (1 : Int) < n := by omega
              have hn2' : 1 < n := by omega
              go_wp2_with fail
              go_meet
              exact ⟨rfl, rfl⟩
            · have h0' : k = 0 := by omega
              subst h0'
              go_wp2_with fail
              go_meet
              exact ⟨rfl, rfl⟩
          case rest =>
            obtain ⟨rfl, rfl⟩ := hcut
            go_wp2_with fail
            go_loopw [6, 7] (fun av iv wr => ∃ j : Nat, j ≤ k ∧ iv = .int .i64 ((j + 1 : Nat) : Int) ∧ av = .int .i64 ((valB (r.take j) : Nat) : Int) ∧ wc = wr) (fun _ iv _ => k + 1 - (intOf iv).toNat)
            case atStart => exact ⟨0, by omega, rfl, rfl, rfl⟩
            case round =>
              obtain ⟨i, hi, rfl, rfl, rfl⟩ := hrel
              have hil : i < k → i < r.length := fun h => by have := HRN.out; omega
              by_cases hik : i < k
              · have hcu := HCR.out i (hil hik)
                have hv : valB (r.take (i + 1)) = valB (r.take i) * 256 + (r[i]'(hil hik)).toNat := by rw [List.take_succ_eq_append_getElem (hil hik), valB_snoc]
                have hvl := valB_lt i (r.take i) (by rw [List.length_take]; have := HRN.out; omega)
                have hvl6 : valB (r.take i) < 256 ^ 6 := Nat.lt_of_lt_of_le hvl (Nat.pow_le_pow_right (by omega) (by omega))
                have h256 := (r[i]'(hil hik)).toNat_lt
                have hc2' : wc.cell? (ad.add (i + 1)) = some (.int .u8 (((r[i]'(hil hik)).toNat : Nat) : Int)) := hcu
                have hc3' : wc.cell? ⟨ad.block, ad.off + (i + 1), none⟩ = some (.int .u8 (((r[i]'(hil hik)).toNat : Nat) : Int)) := hc2'
                generalize (r[i]'(hil hik)).toNat = y at hv h256 hc2' hc3'
                obtain ⟨x, hx⟩ : ∃ x, x = valB (r.take i) := ⟨_, rfl⟩
                rw [← hx] at hv hvl6 ⊢
                have HV := Lib.hid hv
                have HX := Lib.hid hx
                have hx6 : x < 281474976710656 := hvl6
                have hin1 : i + 1 < n := by omega
                have hie : ((i + 1 : Nat) : Int) ≤ k := by omega
                clear hvl hvl6 hv hx hcu
                go_wp2_with fail
                go_roundw
                case rel => exact ⟨i + 1, by omega, by go_num, by rw [HV.out]; go_num, trivial⟩
                case measure => simp [intOf]; omega
              · obtain rfl : i = k := by omega
                have hie : ¬ ((i + 1 : Nat) : Int) ≤ i := by omega
                have htk : tn (m :: r) = if maxN < valB (r.take i) then (0, [], 9) else (valB (r.take i), r.drop i, 0) := by
                  unfold tn takeN
                  simp only [← HK.out]
                  rw [if_neg h1, if_neg (by have := HRN.out; omega), if_neg h3]
                  by_cases hq : maxN < valB (r.take i)
                  · rw [if_pos hq, if_pos hq]
                  · rw [if_neg hq, if_neg hq]
                have hvl := valB_lt i (r.take i) (by rw [List.length_take]; have := HRN.out; omega)
                have hx6 : valB (r.take i) < 72057594037927936 := Nat.lt_of_lt_of_le hvl (Nat.pow_le_pow_right (show 256 > 0 by omega) (show i ≤ 7 by omega))
                clear hvl
                generalize valB (r.take i) = x at htk hx6
                by_cases hx9 : maxN < x
                · rw [if_pos hx9] at htk
                  have HT := Lib.hid htk
                  clear htk
                  unfold maxN at hx9
                  go_wp2_with fail
                  go_ret3
                  exact ⟨_, by rw [HT.out]; rfl, by rw [HT.out]; exact OwnB.nil _ _, Below.refl _ _⟩
                · rw [if_neg hx9] at htk
                  have HT := Lib.hid htk
                  clear htk
                  unfold maxN at hx9
                  have hsl3 := fun W => run_slice_from (P := Try.prog) (t := 22) (e := 5) rfl rfl (some ad) n c (i + 1) ((i : Int) + 1) rfl (by omega) W
                  have hr3 := H.out.cut (cap := c) (show i + 1 ≤ n by omega) hc
                  obtain ⟨A3, hA3⟩ : ∃ A3, A3 = (if c = i + 1 then some ad else (some ad).map (·.add (i + 1))) := ⟨_, rfl⟩
                  rw [Nat.mul_one, ← hA3, ← List.map_drop, List.drop_succ_cons] at hr3
                  rw [← hA3] at hsl3
                  have hwr : IntKind.i64.wrap (1 + (i : Int)) = (i : Int) + 1 := by rw [Int.add_comm]; exact IntWalk.i64_in _ (by omega)
                  have hac : (1 + (i : Int)) = (i : Int) + 1 := Int.add_comm _ _
                  have HR3 := Lib.hid hr3
                  clear hA3 hr3
                  go_wp2_with fail
                  refine (copyBytes_any A3 (n - (i + 1)) (c - (i + 1)) (r.drop i) wc B HR3.out (by omega) (by omega)).mono ?_
                  rintro _ w5 ⟨v, rfl, hov, hb5⟩
                  have HO5 := Lib.hid hov
                  have HB5 := Lib.hid hb5
                  clear hov hb5
                  go_wp2_with fail
                  go_ret3
                  refine ⟨v, by rw [HT.out]; rfl, ?_, HB5.out⟩
                  rw [HT.out]
                  exact HO5.out

set_option maxRecDepth 100000 in
set_option maxHeartbeats 2000000 in
theorem refTakeFix_any (A : Option Addr) (n c k : Nat) (xs : List UInt8) (w : World) (B : Nat) (h : Reads w B 1 A n (xs.map vb)) (hB : B ≤ w.heap.size) (hc : n ≤ c) (hcm : n ≤ 140737488355328) (hk : k ≤ 140737488355328) :
    Calls Try.prog 68 #[.slice A n c, .int .i64 (k : Int)] w fun e w' => ∃ v v', e = .returned (.tuple #[v, v', .int .i64 (if n < k then 3 else 0)]) ∧ OwnB w' w.heap.size v (if n < k then [] else xs.take k) ∧ OwnB w' w.heap.size v' (if n < k then [] else xs.drop k) ∧ Below w.heap.size w w' := by
  have hxn : xs.length = n := by have := h.1; simpa using this
  have HXN := Lib.hid hxn
  have H := Lib.hid h
  clear hxn h
  by_cases hkn : n < k
  · rw [if_pos hkn, if_pos hkn, if_pos hkn]
    go_enter Try.func68, Try.ntmps68
    go_wp2_with fail
    go_ret3
    exact ⟨_, _, rfl, OwnB.nil _ _, OwnB.nil _ _, Below.refl _ _⟩
  · rw [if_neg hkn, if_neg hkn, if_neg hkn]
    have hsl2 := fun W => run_slice_to (P := Try.prog) (t := 22) (e := 5) rfl rfl A n c k (k : Int) rfl (by omega) W
    have hsl3 := fun W => run_slice_from (P := Try.prog) (t := 22) (e := 5) rfl rfl A n c k (k : Int) rfl (by omega) W
    have hr2 := H.out.to (cap := c) (show k ≤ n by omega) hc
    have hr3 := H.out.cut (cap := c) (show k ≤ n by omega) hc
    obtain ⟨A2, hA2⟩ : ∃ A2, A2 = (if c = 0 then A else A.map (·.add 0)) := ⟨_, rfl⟩
    obtain ⟨A3, hA3⟩ : ∃ A3, A3 = (if c = k then A else A.map (·.add k)) := ⟨_, rfl⟩
    rw [Nat.mul_one, ← hA3] at hr3
    rw [← hA2] at hsl2 hr2
    rw [← hA3] at hsl3
    rw [← List.map_take] at hr2
    rw [← List.map_drop] at hr3
    have HC2 := Lib.hid (fun W (hb : Below w.heap.size w W) => copyBytes_any A2 k c (xs.take k) W B (hr2.below (hb.mono hB)) (by have := hb.size; omega) (by omega))
    have HC3 := Lib.hid (fun W (hb : Below w.heap.size w W) => copyBytes_any A3 (n - k) (c - k) (xs.drop k) W B (hr3.below (hb.mono hB)) (by have := hb.size; omega) (by omega))
    clear hA2 hA3 hr2 hr3
    go_enter Try.func68, Try.ntmps68
    go_upto_region 5 with fail
    refine wp_region_rel' 8 21 (fun j W v => match j with
      | 0 | 4 => v = .slice A n c
      | 1 | 5 => v = .int .i64 (k : Int)
      | 2 => v = .slice A2 k c
      | 3 => OwnB W w.heap.size v (xs.take k)
      | 6 => v = .slice A3 (n - k) (c - k)
      | _ => OwnB W w.heap.size v (xs.drop k)) [13, 14, 15, 16, 17, 18, 19, 20] (by kernel_rfl) (by kernel_rfl) (by kernel_rfl) (by simp) (by kernel_rfl) (fun j => ?last) ?heads ?_
    case last =>
      match j with
      | 0 | 1 | 2 | 4 | 5 | 6 => exact Lasts.pure _
      | 3 => exact lasts_own _ _
      | j + 7 => exact lasts_own _ _
    case heads =>
      simp only [List.take_succ_cons, List.take_zero]
      refine ⟨fun a W hb hkp hd => ?_, fun a W hb hkp hd => ?_, fun a W hb hkp hd => ?_, fun a W hb hkp hd => ?_, fun a W hb hkp hd => ?_, fun a W hb hkp hd => ?_, fun a W hb hkp hd => ?_, fun a W hb hkp hd => ?_, trivial⟩
      · have e0 : a.tmps[0]?.getD undef = .slice A n c := hkp.get (by kernel_rfl) rfl
        exact rel_value rfl (.slice A n c) (by go_simp) rfl
      · have e0 : a.tmps[1]?.getD undef = .int .i64 (k : Int) := hkp.get (by kernel_rfl) rfl
        exact rel_value rfl (.int .i64 (k : Int)) (by go_simp) rfl
      · have e0 : a.tmps[13]?.getD undef = .slice A n c := (hd 0 (by kernel_rfl)).get 13 rfl rfl
        have e1 : a.tmps[14]?.getD undef = .int .i64 (k : Int) := (hd 1 (by kernel_rfl)).get 14 rfl rfl
        exact rel_value rfl (.slice A2 k c) (by go_simp) rfl
      · have e0 : a.tmps[15]?.getD undef = .slice A2 k c := (hd 2 (by kernel_rfl)).get 15 rfl rfl
        refine rel_call rfl 7 #[.slice A2 k c] (by go_simp) ((HC2.out W hb).mono ?_)
        rintro e w' ⟨v, rfl, ho, hb'⟩
        exact ⟨v, rfl, hb', ho.more hb.size⟩
      · have e0 : a.tmps[0]?.getD undef = .slice A n c := hkp.get (by kernel_rfl) rfl
        exact rel_value rfl (.slice A n c) (by go_simp) rfl
      · have e0 : a.tmps[1]?.getD undef = .int .i64 (k : Int) := hkp.get (by kernel_rfl) rfl
        exact rel_value rfl (.int .i64 (k : Int)) (by go_simp) rfl
      · have e0 : a.tmps[17]?.getD undef = .slice A n c := (hd 4 (by kernel_rfl)).get 17 rfl rfl
        have e1 : a.tmps[18]?.getD undef = .int .i64 (k : Int) := (hd 5 (by kernel_rfl)).get 18 rfl rfl
        exact rel_value rfl (.slice A3 (n - k) (c - k)) (by go_simp) rfl
      · have e0 : a.tmps[19]?.getD undef = .slice A3 (n - k) (c - k) := (hd 6 (by kernel_rfl)).get 19 rfl rfl
        refine rel_call rfl 7 #[.slice A3 (n - k) (c - k)] (by go_simp) ((HC3.out W hb).mono ?_)
        rintro e w' ⟨v, rfl, ho, hb'⟩
        exact ⟨v, rfl, hb', ho.more hb.size⟩
    intro f W hb hd
    have h3 : OwnB W w.heap.size (f 16) (xs.take k) := hd 3 (by omega) _ 16 rfl rfl
    have h7 : OwnB W w.heap.size (f 20) (xs.drop k) := hd 7 (by omega) _ 20 rfl rfl
    have H3 := Lib.hid h3
    have H7 := Lib.hid h7
    have HB := Lib.hid hb
    clear h3 h7 hd hb
    simp only [putAll, List.drop_succ_cons, List.drop_zero]
    try simp only [Act.put, List.setIfInBounds_toArray, List.set_cons_zero, List.set_cons_succ]
    go_wp2_with fail
    go_ret3
    exact ⟨_, _, rfl, H3.out, H7.out, HB.out⟩


set_option maxRecDepth 100000 in
set_option maxHeartbeats 2000000 in
theorem refTakeStr_any (A : Option Addr) (n c most : Nat) (xs : List UInt8) (w : World) (B : Nat) (h : Reads w B 1 A n (xs.map vb)) (hB : B ≤ w.heap.size) (hc : n ≤ c) (hcm : n ≤ 140737488355328) (hm : most ≤ 65536) :
    Calls Try.prog 52 #[.slice A n c, .int .i64 (most : Int)] w fun e w' => ∃ v v', e = .returned (.tuple #[v, v', .int .i64 ((ts xs most).2.2 : Int)]) ∧ OwnB w' w.heap.size v (ts xs most).1 ∧ OwnB w' w.heap.size v' (ts xs most).2.1 ∧ Below w.heap.size w w' := by
  have hxn : xs.length = n := by have := h.1; simpa using this
  have HTN := Lib.hid (refTakeNum_any A n c xs w B h hB hc hcm)
  have hts := ts_eq xs most
  have htl := tn_len xs
  have htm := tn_num xs
  have hte := tn_err xs
  obtain ⟨p, hp⟩ : ∃ p, p = tn xs := ⟨_, rfl⟩
  rw [← hp] at HTN hts htl htm hte
  obtain ⟨k, r, e⟩ := p
  simp only at HTN hts htl htm hte
  have HTS := Lib.hid hts
  have HTL := Lib.hid htl
  unfold maxN at htm
  rw [hxn] at htl
  have HXN := Lib.hid hxn
  clear h hts hp hxn
  go_enter Try.func52, Try.ntmps52
  go_wp2_with fail
  refine HTN.out.mono ?_
  rintro _ w2 ⟨v, rfl, hov, hb2⟩
  have HO2 := Lib.hid hov
  have HB2 := Lib.hid hb2
  have hs2 := hb2.size
  clear hov hb2
  by_cases he : e = 0
  · subst he
    obtain ⟨Av, cv, rfl, hvc, hvm, hvr, hvB⟩ := own_slice_b HO2.out
    by_cases h5 : min most 65536 < k
    · have hq : ts xs most = ([], [], 5) := by rw [HTS.out, if_neg (by omega), if_pos h5]
      have HQ := Lib.hid hq
      clear hq hvr
      have hmk : most < k := by omega
      have hmin : min (most : Int) 65536 = (most : Int) := by omega
      go_wp2_with fail
      go_ret3
      exact ⟨_, _, by rw [HQ.out]; rfl, by rw [HQ.out]; exact OwnB.nil _ _, by rw [HQ.out]; exact OwnB.nil _ _, HB2.out⟩
    · have hmk : ¬ most < k := by omega
      have hmin : min (most : Int) 65536 = (most : Int) := by omega
      have hq : ts xs most = if r.length < k then ([], [], 3) else (r.take k, r.drop k, 0) := by rw [HTS.out, if_neg (by omega), if_neg h5]
      have HQ := Lib.hid hq
      have HVR := Lib.hid hvr
      clear hq hvr
      obtain ⟨rl, hrl⟩ : ∃ rl, rl = r.length := ⟨_, rfl⟩
      rw [← hrl] at HVR hvc htl HQ ⊢
      have HRL := Lib.hid hrl
      clear hrl
      go_wp2_with fail
      refine (refTakeFix_any Av rl cv k r w2 _ HVR.out (Nat.le_refl _) hvc (by omega) (by omega)).mono ?_
      rintro _ w3 ⟨v, v', rfl, ho, ho', hb3⟩
      have HO3 := Lib.hid (ho.more (B' := w.heap.size) hs2)
      have HO4 := Lib.hid (ho'.more (B' := w.heap.size) hs2)
      have HB3 := Lib.hid (HB2.out.trans (hb3.mono hs2))
      clear ho ho' hb3
      by_cases h6 : rl < k
      · rw [if_pos h6] at HQ
        rw [if_pos h6] at HO3 HO4 ⊢
        go_wp2_with fail
        go_ret3
        exact ⟨_, _, by rw [HQ.out]; rfl, by rw [HQ.out]; exact HO3.out, by rw [HQ.out]; exact HO4.out, HB3.out⟩
      · rw [if_neg h6] at HQ
        rw [if_neg h6] at HO3 HO4 ⊢
        go_wp2_with fail
        go_ret3
        exact ⟨_, _, by rw [HQ.out]; rfl, by rw [HQ.out]; exact HO3.out, by rw [HQ.out]; exact HO4.out, HB3.out⟩
  · have hq : ts xs most = ([], [], e) := by rw [HTS.out, if_pos he]
    have HQ := Lib.hid hq
    clear hq
    have he' : ¬ (e : Int) = 0 := by omega
    go_wp2_with fail
    go_ret3
    exact ⟨_, _, by rw [HQ.out]; rfl, by rw [HQ.out]; exact OwnB.nil _ _, by rw [HQ.out]; exact OwnB.nil _ _, HB2.out⟩


end Go.Proofs.Ytcmbmimmfgfefaa
