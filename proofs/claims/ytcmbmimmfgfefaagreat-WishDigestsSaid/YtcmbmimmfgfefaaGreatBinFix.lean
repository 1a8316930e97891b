/-
  Contracts of bin.TakeFix, TakeStr.
-/
import Derived.Test.YtcmbmimmfgfefaaGreatBinTake
namespace Go.Proofs.YtcmbmimmfgfefaaGreat
set_option linter.unusedVariables false
open Go.RowKit

theorem lasts_own (B : Nat) (xs : List UInt8) : Lasts fun w v => OwnB w B v xs := fun _ _ _ h hb => h.below hb

set_option maxRecDepth 100000 in
set_option maxHeartbeats 2000000 in
theorem takeFix_any (A : Option Addr) (n c k : Nat) (xs : List UInt8) (w : World) (B : Nat) (h : Reads w B 1 A n (xs.map vb)) (hB : B ≤ w.heap.size) (hc : n ≤ c) (hcm : n ≤ 140737488355328) (hk : k ≤ 140737488355328) :
    Calls Tryz.prog 72 #[.slice A n c, .int .i64 (k : Int)] w fun e w' => ∃ v v', e = .returned (.tuple #[v, v', .int .i64 (if n < k then 3 else 0)]) ∧ OwnB w' w.heap.size v (if n < k then [] else xs.take k) ∧ OwnB w' w.heap.size v' (if n < k then [] else xs.drop k) ∧ Below w.heap.size w w' := by
  have hxn : xs.length = n := by have := h.1; simpa using this
  have HXN := Lib.hid hxn
  have H := Lib.hid h
  clear hxn h
  by_cases hkn : n < k
  · rw [if_pos hkn, if_pos hkn, if_pos hkn]
    go_enter Tryz.func72, Tryz.ntmps72
    go_wp2_with fail
    go_ret3
    exact ⟨_, _, rfl, OwnB.nil _ _, OwnB.nil _ _, Below.refl _ _⟩
  · rw [if_neg hkn, if_neg hkn, if_neg hkn]
    have hsl2 := fun W => run_slice_to (P := Tryz.prog) (t := 22) (e := 5) rfl rfl A n c k (k : Int) rfl (by omega) W
    have hsl3 := fun W => run_slice_from (P := Tryz.prog) (t := 22) (e := 5) rfl rfl A n c k (k : Int) rfl (by omega) W
    have hr2 := H.out.to (cap := c) (show k ≤ n by omega) hc
    have hr3 := H.out.cut (cap := c) (show k ≤ n by omega) hc
    obtain ⟨A2, hA2⟩ : ∃ A2, A2 = (if c = 0 then A else A.map (·.add 0)) := ⟨_, rfl⟩
    obtain ⟨A3, hA3⟩ : ∃ A3, A3 = (if c = k then A else A.map (·.add k)) := ⟨_, rfl⟩
    rw [Nat.mul_one, ← hA3] at hr3
    rw [← hA2] at hsl2 hr2
    rw [← hA3] at hsl3
    rw [← List.map_take] at hr2
    rw [← List.map_drop] at hr3
    have HC2 := Lib.hid (fun W (hb : Below w.heap.size w W) => clone_any A2 k c (xs.take k) W B (hr2.below (hb.mono hB)) (by have := hb.size; omega) (by omega))
    have HC3 := Lib.hid (fun W (hb : Below w.heap.size w W) => clone_any A3 (n - k) (c - k) (xs.drop k) W B (hr3.below (hb.mono hB)) (by have := hb.size; omega) (by omega))
    clear hA2 hA3 hr2 hr3
    go_enter Tryz.func72, Tryz.ntmps72
    go_upto_region 5 with fail
    refine wp_region_rel' 8 23 (fun j W v => match j with
      | 0 | 4 => v = .slice A n c
      | 1 | 5 => v = .int .i64 (k : Int)
      | 2 => v = .slice A2 k c
      | 3 => OwnB W w.heap.size v (xs.take k)
      | 6 => v = .slice A3 (n - k) (c - k)
      | _ => OwnB W w.heap.size v (xs.drop k)) [15, 16, 17, 18, 19, 20, 21, 22] (by kernel_rfl) (by kernel_rfl) (by kernel_rfl) (by simp) (by kernel_rfl) (fun j => ?last) ?heads ?_
    case last =>
      match j with
      | 0 | 1 | 2 | 4 | 5 | 6 => exact Lasts.pure _
      | 3 => exact lasts_own _ _
      | j + 7 => exact lasts_own _ _
    case heads =>
      simp only [List.take_succ_cons, List.take_zero]
      refine ⟨fun a W hb hkp hd => ?_, fun a W hb hkp hd => ?_, fun a W hb hkp hd => ?_, fun a W hb hkp hd => ?_, fun a W hb hkp hd => ?_, fun a W hb hkp hd => ?_, fun a W hb hkp hd => ?_, fun a W hb hkp hd => ?_, trivial⟩
      · have e0 : a.tmps[0]?.getD undef = .slice A n c := hkp.get (by kernel_rfl) rfl
        exact rel_value rfl (.slice A n c) (by go_simp) rfl
      · have e0 : a.tmps[1]?.getD undef = .int .i64 (k : Int) := hkp.get (by kernel_rfl) rfl
        exact rel_value rfl (.int .i64 (k : Int)) (by go_simp) rfl
      · have e0 : a.tmps[15]?.getD undef = .slice A n c := (hd 0 (by kernel_rfl)).get 15 rfl rfl
        have e1 : a.tmps[16]?.getD undef = .int .i64 (k : Int) := (hd 1 (by kernel_rfl)).get 16 rfl rfl
        exact rel_value rfl (.slice A2 k c) (by go_simp) rfl
      · have e0 : a.tmps[17]?.getD undef = .slice A2 k c := (hd 2 (by kernel_rfl)).get 17 rfl rfl
        refine rel_call rfl 78 #[.slice A2 k c] (by go_simp) ((HC2.out W hb).mono ?_)
        rintro e w' ⟨v, rfl, ho, hb'⟩
        exact ⟨v, rfl, hb', ho.more hb.size⟩
      · have e0 : a.tmps[0]?.getD undef = .slice A n c := hkp.get (by kernel_rfl) rfl
        exact rel_value rfl (.slice A n c) (by go_simp) rfl
      · have e0 : a.tmps[1]?.getD undef = .int .i64 (k : Int) := hkp.get (by kernel_rfl) rfl
        exact rel_value rfl (.int .i64 (k : Int)) (by go_simp) rfl
      · have e0 : a.tmps[19]?.getD undef = .slice A n c := (hd 4 (by kernel_rfl)).get 19 rfl rfl
        have e1 : a.tmps[20]?.getD undef = .int .i64 (k : Int) := (hd 5 (by kernel_rfl)).get 20 rfl rfl
        exact rel_value rfl (.slice A3 (n - k) (c - k)) (by go_simp) rfl
      · have e0 : a.tmps[21]?.getD undef = .slice A3 (n - k) (c - k) := (hd 6 (by kernel_rfl)).get 21 rfl rfl
        refine rel_call rfl 78 #[.slice A3 (n - k) (c - k)] (by go_simp) ((HC3.out W hb).mono ?_)
        rintro e w' ⟨v, rfl, ho, hb'⟩
        exact ⟨v, rfl, hb', ho.more hb.size⟩
    intro f W hb hd
    have h3 : OwnB W w.heap.size (f 18) (xs.take k) := hd 3 (by omega) _ 18 rfl rfl
    have h7 : OwnB W w.heap.size (f 22) (xs.drop k) := hd 7 (by omega) _ 22 rfl rfl
    have H3 := Lib.hid h3
    have H7 := Lib.hid h7
    have HB := Lib.hid hb
    clear h3 h7 hd hb
    simp only [putAll, List.drop_succ_cons, List.drop_zero]
    try simp only [Act.put, List.setIfInBounds_toArray, List.set_cons_zero, List.set_cons_succ]
    go_wp2_with fail
    go_ret3
    exact ⟨_, _, rfl, H3.out, H7.out, HB.out⟩

/-- a text taken off, with the error's number -/
def ts (b : List UInt8) (most : Nat) : List UInt8 × List UInt8 × Nat := match takeS b most with
  | .error e => ([], [], e)
  | .ok (s, r) => (s, r, 0)
theorem ts_eq (b : List UInt8) (most : Nat) : ts b most = if (tn b).2.2 ≠ 0 then ([], [], (tn b).2.2) else if min most 65536 < (tn b).1 then ([], [], 5) else if (tn b).2.1.length < (tn b).1 then ([], [], 3) else ((tn b).2.1.take (tn b).1, (tn b).2.1.drop (tn b).1, 0) := by
  unfold ts takeS tn
  cases hb : takeN b with
  | error e =>
    have he : e ≠ 0 := by
      unfold takeN at hb
      match b, hb with
      | [], hb => injection hb with hb; omega
      | m :: r, hb =>
        simp only at hb
        split at hb
        · injection hb with hb; omega
        · split at hb
          · injection hb with hb; omega
          · split at hb
            · injection hb with hb; omega
            · split at hb
              · injection hb with hb; omega
              · cases hb
    simp [he]
  | ok p =>
    obtain ⟨n, r⟩ := p
    simp only [ne_eq, not_true_eq_false, if_false]
    unfold takeF
    by_cases h1 : min most 65536 < n
    · rw [if_pos h1, if_pos h1]
    · rw [if_neg h1, if_neg h1]
      by_cases h2 : r.length < n
      · rw [if_pos h2, if_pos h2]
      · rw [if_neg h2, if_neg h2]
theorem tn_len (b : List UInt8) : (tn b).2.1.length ≤ b.length := by
  unfold tn
  cases hb : takeN b with
  | error e => simp
  | ok p =>
    have := (takeN_back hb).1
    have h := congrArg List.length this
    rw [List.length_append] at h
    show p.2.length ≤ _
    omega
theorem tn_num (b : List UInt8) : (tn b).1 ≤ maxN := by
  unfold tn
  cases hb : takeN b with
  | error e => simp
  | ok p => exact (takeN_back (r := p.2) (n := p.1) hb).2
theorem tn_err (b : List UInt8) : (tn b).2.2 < 10 := by
  unfold tn takeN
  match b with
  | [] => simp
  | m :: r =>
    simp only
    by_cases h1 : 7 < m.toNat
    · rw [if_pos h1]; simp
    · rw [if_neg h1]
      by_cases h2 : r.length < m.toNat
      · rw [if_pos h2]; simp
      · rw [if_neg h2]
        by_cases h3 : 0 < m.toNat ∧ r.head? = some 0
        · rw [if_pos h3]; simp
        · rw [if_neg h3]
          by_cases h4 : maxN < valB (r.take m.toNat)
          · rw [if_pos h4]; simp
          · rw [if_neg h4]; simp

set_option maxRecDepth 100000 in
set_option maxHeartbeats 2000000 in
theorem takeStr_any (A : Option Addr) (n c most : Nat) (xs : List UInt8) (w : World) (B : Nat) (h : Reads w B 1 A n (xs.map vb)) (hB : B ≤ w.heap.size) (hc : n ≤ c) (hcm : n ≤ 140737488355328) (hm : most ≤ 65536) :
    Calls Tryz.prog 61 #[.slice A n c, .int .i64 (most : Int)] w fun e w' => ∃ v v', e = .returned (.tuple #[v, v', .int .i64 ((ts xs most).2.2 : Int)]) ∧ OwnB w' w.heap.size v (ts xs most).1 ∧ OwnB w' w.heap.size v' (ts xs most).2.1 ∧ Below w.heap.size w w' := by
  have hxn : xs.length = n := by have := h.1; simpa using this
  have HTN := Lib.hid (takeNum_any A n c xs w B h hB hc hcm)
  have hts := ts_eq xs most
  have htl := tn_len xs
  have htm := tn_num xs
  have hte := tn_err xs
  obtain ⟨p, hp⟩ : ∃ p, p = tn xs := ⟨_, rfl⟩
  rw [← hp] at HTN hts htl htm hte
  obtain ⟨k, r, e⟩ := p
  simp only at HTN hts htl htm hte
  have HTS := Lib.hid hts
  have HTL := Lib.hid htl
  unfold maxN at htm
  rw [hxn] at htl
  have HXN := Lib.hid hxn
  clear h hts hp hxn
  go_enter Tryz.func61, Tryz.ntmps61
  go_wp2_with fail
  refine HTN.out.mono ?_
  rintro _ w2 ⟨v, rfl, hov, hb2⟩
  have HO2 := Lib.hid hov
  have HB2 := Lib.hid hb2
  have hs2 := hb2.size
  clear hov hb2
  by_cases he : e = 0
  · subst he
    obtain ⟨Av, cv, rfl, hvc, hvm, hvr, hvB⟩ := own_slice_b HO2.out
    by_cases h5 : min most 65536 < k
    · have hq : ts xs most = ([], [], 5) := by rw [HTS.out, if_neg (by omega), if_pos h5]
      have HQ := Lib.hid hq
      clear hq hvr
      have hmk : most < k := by omega
      have hmin : min (most : Int) 65536 = (most : Int) := by omega
      go_wp2_with fail
      go_ret3
      exact ⟨_, _, by rw [HQ.out]; rfl, by rw [HQ.out]; exact OwnB.nil _ _, by rw [HQ.out]; exact OwnB.nil _ _, HB2.out⟩
    · have hmk : ¬ most < k := by omega
      have hmin : min (most : Int) 65536 = (most : Int) := by omega
      have hq : ts xs most = if r.length < k then ([], [], 3) else (r.take k, r.drop k, 0) := by rw [HTS.out, if_neg (by omega), if_neg h5]
      have HQ := Lib.hid hq
      have HVR := Lib.hid hvr
      clear hq hvr
      obtain ⟨rl, hrl⟩ : ∃ rl, rl = r.length := ⟨_, rfl⟩
      rw [← hrl] at HVR hvc htl HQ ⊢
      have HRL := Lib.hid hrl
      clear hrl
      go_wp2_with fail
      refine (takeFix_any Av rl cv k r w2 _ HVR.out (Nat.le_refl _) hvc (by omega) (by omega)).mono ?_
      rintro _ w3 ⟨v, v', rfl, ho, ho', hb3⟩
      have HO3 := Lib.hid (ho.more (B' := w.heap.size) hs2)
      have HO4 := Lib.hid (ho'.more (B' := w.heap.size) hs2)
      have HB3 := Lib.hid (HB2.out.trans (hb3.mono hs2))
      clear ho ho' hb3
      by_cases h6 : rl < k
      · rw [if_pos h6] at HQ
        rw [if_pos h6] at HO3 HO4 ⊢
        go_wp2_with fail
        go_ret3
        exact ⟨_, _, by rw [HQ.out]; rfl, by rw [HQ.out]; exact HO3.out, by rw [HQ.out]; exact HO4.out, HB3.out⟩
      · rw [if_neg h6] at HQ
        rw [if_neg h6] at HO3 HO4 ⊢
        go_wp2_with fail
        go_ret3
        exact ⟨_, _, by rw [HQ.out]; rfl, by rw [HQ.out]; exact HO3.out, by rw [HQ.out]; exact HO4.out, HB3.out⟩
  · have hq : ts xs most = ([], [], e) := by rw [HTS.out, if_pos he]
    have HQ := Lib.hid hq
    clear hq
    have he' : ¬ (e : Int) = 0 := by omega
    go_wp2_with fail
    go_ret3
    exact ⟨_, _, by rw [HQ.out]; rfl, by rw [HQ.out]; exact OwnB.nil _ _, by rw [HQ.out]; exact OwnB.nil _ _, HB2.out⟩

end Go.Proofs.YtcmbmimmfgfefaaGreat
