/-
  InkCounts: the law's walk.
-/
import Derived.Test.YtkfmaagikjjilaaInkFill
import Derived.Test.YtkfmaagikjjilaaEq
namespace Go.Proofs.Ytkfmaagikjjilaa
set_option linter.unusedVariables false
open Go.RowKit Go.Maps
attribute [local irreducible] wpCalm

theorem inkL_sub (xss : List (List UInt8)) (m : Nat) : ∀ x, x ∈ inkL xss m → ∃ k, k < m ∧ xss[k]? = some x := by
  induction m with
  | zero => intro x hx; simp [inkL] at hx
  | succ m ih =>
    intro x hx
    rcases Nat.lt_or_ge m xss.length with hm | hm
    · rw [inkL_next xss m hm] at hx
      have old : x ∈ inkL xss m → ∃ k, k < m + 1 ∧ xss[k]? = some x := fun h => by
        obtain ⟨k, hk, he⟩ := ih x h
        exact ⟨k, by omega, he⟩
      unfold noteInk addInk at hx
      split at hx
      · split at hx
        · exact old hx
        · rcases List.mem_append.1 hx with h | h
          · exact old h
          · obtain rfl : x = xss[m] := by simpa using h
            exact ⟨m, by omega, List.getElem?_eq_getElem hm⟩
      · exact old hx
    · have e : inkL xss (m + 1) = inkL xss m := by
        unfold inkL
        rw [List.take_of_length_le (by omega), List.take_of_length_le (by omega)]
      rw [e] at hx
      obtain ⟨k, hk, he⟩ := ih x hx
      exact ⟨k, by omega, he⟩
/-- none of the first j of a list is x -/
def freshB (xss : List (List UInt8)) (x : List UInt8) (j : Nat) : Bool := (xss.take j).all (fun y => !decide (y = x))
theorem freshB_next (xss : List (List UInt8)) (x : List UInt8) (j : Nat) (h : j < xss.length) : freshB xss x (j + 1) = (freshB xss x j && !decide (xss[j] = x)) := by
  unfold freshB
  rw [List.take_succ_eq_append_getElem h, List.all_append]; simp
theorem freshB_mem (xss : List (List UInt8)) (m : Nat) (h : m < xss.length) (hx : xss[m].length ≤ 65536) : freshB xss xss[m] m = !decide (xss[m] ∈ inkL xss m) := by
  by_cases hm : xss[m] ∈ inkL xss m
  · rw [decide_eq_true hm]
    obtain ⟨k, hk, he⟩ := inkL_sub xss m _ hm
    unfold freshB
    rw [Bool.not_true, List.all_eq_false]
    refine ⟨xss[m], ?_, by simp⟩
    rw [List.mem_take_iff_getElem]
    obtain ⟨hk2, he2⟩ := List.getElem?_eq_some_iff.1 he
    exact ⟨k, by omega, he2⟩
  · rw [decide_eq_false hm]
    unfold freshB
    rw [Bool.not_false, List.all_eq_true]
    intro y hy
    rw [List.mem_take_iff_getElem] at hy
    obtain ⟨k, hk, rfl⟩ := hy
    simp only [Bool.not_eq_true', decide_eq_false_iff_not]
    intro e
    have hk2 : k < xss.length := by omega
    exact hm (e ▸ inkL_mem xss m k (by omega) hk2 (by rw [e]; exact hx))
theorem noteInk_len {l : List (List UInt8)} {x : List UInt8} (hx : x.length ≤ 65536) : (noteInk l x).length = if !decide (x ∈ l) then l.length + 1 else l.length := by
  unfold noteInk addInk
  rw [if_pos hx]
  by_cases h : x ∈ l <;> simp [h]

set_option maxRecDepth 100000 in
set_option maxHeartbeats 4000000 in
theorem inkCounts_law (A : Option Addr) (n c : Nat) (xss : List (List UInt8)) (w : World) (h : Rows2 w A n xss) (hc : n ≤ c) (hcm : 24 * c ≤ reachBytes) :
    Calls Try.prog 7 #[.slice A n c] w fun e w' => e = .returned (.bool true) ∧ Below w.heap.size w w' := by
  have hxn := h.1
  have HXN := Lib.hid hxn
  have H := Lib.hid h
  unfold reachBytes at hcm
  clear hxn h
  go_enter Try.func7, Try.ntmps7
  go_wp2_with fail
  refine (works_any _).mono ?_
  rintro _ w1 ⟨rfl, hb1⟩
  have HB1 := Lib.hid hb1
  have hs1 := hb1.size
  clear hb1
  go_wp2_with fail
  refine (inkNew_any _).mono ?_
  rintro _ w2 ⟨b, rfl, hka, hkka, hb2⟩
  have HK2 := Lib.hid hka
  have HB2 := Lib.hid (HB1.out.trans (hb2.mono hs1))
  clear hb2 hka
  have hk0 : w.heap.size ≤ b.g ∧ w.heap.size ≤ b.b1 ∧ w.heap.size ≤ b.b2 := by omega
  clear hkka
  go_wp2_with fail
  go_loopw [4, 5, 6] (fun mv av v wr => ∃ k : Nat, k ≤ n ∧ k ≤ 20 ∧ mv = .int .i64 ((inkL xss k).length : Int) ∧ av = .int .i64 (inkN xss k : Int) ∧ v = .int .i64 k ∧ BookAt wr b (inkL xss k) (inkN xss k) ∧ Below w.heap.size w wr) (fun _ _ v _ => 20 - (intOf v).toNat)
  case atStart => exact ⟨0, by omega, by omega, rfl, rfl, rfl, HK2.out, HB2.out⟩
  case round =>
    obtain ⟨k, hk, hk20, rfl, rfl, rfl, hK, hbel⟩ := hrel
    have HK := Lib.hid hK
    have HB := Lib.hid hbel
    have hsz := hbel.size
    have hnl := inkN_le xss k
    clear hK hbel
    go_upto_region 6 with fail
    go_cut [19] (fun s19 wx => s19 = .bool (decide (k < n ∧ k < 20)) ∧ wx = wr)
    case first =>
      by_cases hkn : k < n
      · go_wp2_with fail
        go_meet
        exact ⟨by simp [hkn]; omega, rfl⟩
      · go_wp2_with fail
        go_meet
        exact ⟨by simp [hkn], rfl⟩
    case rest =>
      obtain ⟨rfl, rfl⟩ := hcut
      by_cases hlt : k < n ∧ k < 20
      · rw [decide_eq_true hlt]
        obtain ⟨ad, hA, hadb, hcell⟩ := H.out.2 (by omega)
        subst hA
        have hxk : k < xss.length := by have := HXN.out; omega
        obtain ⟨Bp, m, cp, hcp, hrp, hmp, hcp2⟩ := hcell k xss[k] (List.getElem?_eq_getElem hxk)
        have hadk : (ad.add k).block < w.heap.size := by simp [Addr.add]; split <;> exact hadb
        have hcp' := (HB.out.cell hadk).trans hcp
        have HCP := Lib.hid hcp
        have hr' := hrp.below HB.out
        have HRR := Lib.hid hr'
        have HRP := Lib.hid hrp
        unfold reachBytes at hcp2
        clear hcell hcp hrp hr'
        have hlen := HK.out.len
        go_wp2_with fail
        refine (noted_all b _ _ Bp m cp xss[k] wc w.heap.size HK.out HRR.out hsz (HRR.out.above hk0) hmp (by unfold maxLen; omega) (by omega)).mono ?_
        rintro _ w3 ⟨rfl, hk3, ho3⟩
        rw [← inkL_next xss k hxk, ← inkN_next xss k hxk] at hk3
        have HK3 := Lib.hid hk3
        have HB3 := Lib.hid (ho3.below HB.out hsz hk0)
        have hs3 := HB3.out.size
        have hxm : xss[k].length = m := by have := HRR.out.1; simpa using this
        clear hk3 ho3
        have hcp3 := (HB3.out.cell hadk).trans (HCP.out)
        by_cases hm : m ≤ 65536
        · rw [decide_eq_true hm]
          have hn : inkN xss (k + 1) = inkN xss k + 1 := by rw [inkN_next xss k hxk]; unfold noteN; rw [if_pos (by omega)]
          have hl : ((inkL xss (k + 1)).length : Int) = if freshB xss xss[k] k then ((inkL xss k).length : Int) + 1 else (inkL xss k).length := by
            rw [inkL_next xss k hxk, noteInk_len (by omega), freshB_mem xss k hxk (by omega)]
            split <;> simp
          have HL := Lib.hid hl
          have HN := Lib.hid hn
          clear hl hn
          go_wp2_with fail
          go_loopw [7, 8] (fun fv jv wr => ∃ j : Nat, j ≤ k ∧ fv = .bool (freshB xss xss[k] j) ∧ jv = .int .i64 j ∧ Below w3.heap.size w3 wr) (fun _ jv _ => k - (intOf jv).toNat)
          case atStart => exact ⟨0, by omega, rfl, rfl, Below.refl _ _⟩
          case round =>
            obtain ⟨j, hj, rfl, rfl, hE⟩ := hrel
            have HE := Lib.hid hE
            have hse := hE.size
            clear hE
            by_cases hjk : j < k
            · have hxj : j < xss.length := by omega
              obtain ⟨ad', hA', hadb', hcell⟩ := H.out.2 (by omega)
              injection hA' with hA'
              subst hA'
              obtain ⟨Bq, m', cq, hcq, hrq, hmq, hcq2⟩ := hcell j xss[j] (List.getElem?_eq_getElem hxj)
              have hadj : (ad.add j).block < w.heap.size := by simp [Addr.add]; split <;> exact hadb
              have HBE := Lib.hid (HB3.out.trans (HE.out.mono hs3))
              have hsb := HBE.out.size
              have HCQ := Lib.hid (fun (W : World) (hb : Below wr.heap.size wr W) => ((HBE.out.trans (hb.mono hsb)).cell hadj).trans hcq)
              have HCPK := Lib.hid (fun (W : World) (hb : Below wr.heap.size wr W) => ((HBE.out.trans (hb.mono hsb)).cell hadk).trans HCP.out)
              have hqe : ∀ (W : World), Below wr.heap.size wr W → Calls Try.prog 18 #[.slice Bq m' cq, .slice Bp m cp] W fun e w' => e = .returned (.bool (decide (xss[j] = xss[k]))) ∧ Below W.heap.size W w' := fun W hb =>
                (eqBytes_any Bq Bp m' m cq cp xss[j] xss[k] W w.heap.size w.heap.size (hrq.below (HBE.out.trans (hb.mono hsb))) (HRP.out.below (HBE.out.trans (hb.mono hsb))) (by unfold reachBytes at hcq2; unfold maxLen; omega) (by unfold maxLen; omega)).mono fun e w' ⟨he, z, hz⟩ => ⟨he, hz ▸ below_drewN (Below.refl _ _) z⟩
              have hfn := freshB_next xss xss[k] j hxj
              generalize decide (xss[j] = xss[k]) = p at hqe hfn
              have HQE := Lib.hid hqe
              have HFN := Lib.hid hfn
              clear hqe hfn hcell hcq hrq
              have hjn : j < n := by omega
              have hl3 : decide ((j : Int) < (k : Int)) = true := by simp; omega
              cases hf : freshB xss xss[k] j with
              | true =>
                go_upto_region 16 with fail
                refine wp_region_calm0 13 68 (by kernel_rfl) (by kernel_rfl) (by kernel_rfl) (by simp) ?_
                simp only [List.take_succ_cons, List.take_zero, List.drop_succ_cons, List.drop_zero]
                refine wpCalm_value rfl rfl (.bool true) (fun W _ => rfl) ?_
                try simp only [Act.put, List.setIfInBounds_toArray, List.set_cons_zero, List.set_cons_succ]
                refine wpCalm_value rfl rfl (.bool true) (fun W _ => rfl) ?_
                try simp only [Act.put, List.setIfInBounds_toArray, List.set_cons_zero, List.set_cons_succ]
                refine wpCalm_value rfl rfl (.slice (some ad) n c) (fun W _ => rfl) ?_
                try simp only [Act.put, List.setIfInBounds_toArray, List.set_cons_zero, List.set_cons_succ]
                refine wpCalm_value rfl rfl (.int .i64 (j : Int)) (fun W _ => rfl) ?_
                try simp only [Act.put, List.setIfInBounds_toArray, List.set_cons_zero, List.set_cons_succ]
                refine wpCalm_value rfl rfl (.pointer (some (ad.add j))) (fun W _ => by go_simp) ?_
                try simp only [Act.put, List.setIfInBounds_toArray, List.set_cons_zero, List.set_cons_succ]
                refine wpCalm_below rfl rfl (.slice Bq m' cq) (fun W hb => exec_load_one 32 (.tmp 46) rfl (ad.add j) rfl (by kernel_rfl) _ (HCQ.out W hb)) ?_
                try simp only [Act.put, List.setIfInBounds_toArray, List.set_cons_zero, List.set_cons_succ]
                refine wpCalm_value rfl rfl (.slice (some ad) n c) (fun W _ => rfl) ?_
                try simp only [Act.put, List.setIfInBounds_toArray, List.set_cons_zero, List.set_cons_succ]
                refine wpCalm_value rfl rfl (.int .i64 (k : Int)) (fun W _ => rfl) ?_
                try simp only [Act.put, List.setIfInBounds_toArray, List.set_cons_zero, List.set_cons_succ]
                refine wpCalm_value rfl rfl (.pointer (some (ad.add k))) (fun W _ => by go_simp) ?_
                try simp only [Act.put, List.setIfInBounds_toArray, List.set_cons_zero, List.set_cons_succ]
                refine wpCalm_below rfl rfl (.slice Bp m cp) (fun W hb => exec_load_one 32 (.tmp 50) rfl (ad.add k) rfl (by kernel_rfl) _ (HCPK.out W hb)) ?_
                try simp only [Act.put, List.setIfInBounds_toArray, List.set_cons_zero, List.set_cons_succ]
                refine wpCalm_call rfl rfl 18 #[.slice Bq m' cq, .slice Bp m cp] (fun W => by go_simp) (.bool p) (fun W hb => HQE.out W hb) ?_
                try simp only [Act.put, List.setIfInBounds_toArray, List.set_cons_zero, List.set_cons_succ]
                refine wpCalm_value rfl rfl (.bool (!p)) (fun W _ => by go_simp) ?_
                try simp only [Act.put, List.setIfInBounds_toArray, List.set_cons_zero, List.set_cons_succ]
                refine wpCalm_value rfl rfl (.bool (!p)) (fun W _ => by go_simp) ?_
                try simp only [Act.put, List.setIfInBounds_toArray, List.set_cons_zero, List.set_cons_succ]
                refine wpCalm_nil ?_
                intro W1 hb1
                have HE1 := Lib.hid (HE.out.trans (hb1.mono hse))
                clear hb1
                go_wp2_with fail
                go_roundw
                case rel => exact ⟨j + 1, by omega, by rw [HFN.out, hf]; rfl, by go_num, HE1.out⟩
                case measure => simp [intOf]; omega
              | false =>
                go_upto_region 16 with fail
                refine wp_region_calm0 13 68 (by kernel_rfl) (by kernel_rfl) (by kernel_rfl) (by simp) ?_
                simp only [List.take_succ_cons, List.take_zero, List.drop_succ_cons, List.drop_zero]
                refine wpCalm_value rfl rfl (.bool false) (fun W _ => rfl) ?_
                try simp only [Act.put, List.setIfInBounds_toArray, List.set_cons_zero, List.set_cons_succ]
                refine wpCalm_value rfl rfl (.bool false) (fun W _ => rfl) ?_
                try simp only [Act.put, List.setIfInBounds_toArray, List.set_cons_zero, List.set_cons_succ]
                refine wpCalm_skip rfl rfl ?_
                try simp only [Act.put, List.setIfInBounds_toArray, List.set_cons_zero, List.set_cons_succ]
                refine wpCalm_skip rfl rfl ?_
                try simp only [Act.put, List.setIfInBounds_toArray, List.set_cons_zero, List.set_cons_succ]
                refine wpCalm_skip rfl rfl ?_
                try simp only [Act.put, List.setIfInBounds_toArray, List.set_cons_zero, List.set_cons_succ]
                refine wpCalm_skip rfl rfl ?_
                try simp only [Act.put, List.setIfInBounds_toArray, List.set_cons_zero, List.set_cons_succ]
                refine wpCalm_skip rfl rfl ?_
                try simp only [Act.put, List.setIfInBounds_toArray, List.set_cons_zero, List.set_cons_succ]
                refine wpCalm_skip rfl rfl ?_
                try simp only [Act.put, List.setIfInBounds_toArray, List.set_cons_zero, List.set_cons_succ]
                refine wpCalm_skip rfl rfl ?_
                try simp only [Act.put, List.setIfInBounds_toArray, List.set_cons_zero, List.set_cons_succ]
                refine wpCalm_skip rfl rfl ?_
                try simp only [Act.put, List.setIfInBounds_toArray, List.set_cons_zero, List.set_cons_succ]
                refine wpCalm_skip rfl rfl ?_
                try simp only [Act.put, List.setIfInBounds_toArray, List.set_cons_zero, List.set_cons_succ]
                refine wpCalm_skip rfl rfl ?_
                try simp only [Act.put, List.setIfInBounds_toArray, List.set_cons_zero, List.set_cons_succ]
                refine wpCalm_value rfl rfl (.bool false) (fun W _ => by go_simp) ?_
                try simp only [Act.put, List.setIfInBounds_toArray, List.set_cons_zero, List.set_cons_succ]
                refine wpCalm_nil ?_
                intro W1 hb1
                have HE1 := Lib.hid (HE.out.trans (hb1.mono hse))
                clear hb1
                go_wp2_with fail
                go_roundw
                case rel => exact ⟨j + 1, by omega, by rw [HFN.out, hf]; rfl, by go_num, HE1.out⟩
                case measure => simp [intOf]; omega
            · obtain rfl : j = k := by omega
              have hl3 : decide ((j : Int) < (j : Int)) = false := by simp
              have HBE := Lib.hid (HB3.out.trans (HE.out.mono hs3))
              have HKE := Lib.hid (HK3.out.below HE.out)
              have hl := HL.out
              have hn := HN.out
              cases hf : freshB xss xss[j] j with
              | true =>
                rw [hf] at hl
                go_wp2_with fail
                go_roundw
                case rel => exact ⟨j + 1, by omega, by omega, by rw [hl]; rfl, by rw [hn]; rfl, by go_num, HKE.out, HBE.out⟩
                case measure => simp [intOf]; omega
              | false =>
                rw [hf] at hl
                go_wp2_with fail
                go_roundw
                case rel => exact ⟨j + 1, by omega, by omega, by rw [hl]; rfl, by rw [hn]; rfl, by go_num, HKE.out, HBE.out⟩
                case measure => simp [intOf]; omega
        · rw [decide_eq_false hm]
          have hl : inkL xss (k + 1) = inkL xss k := by rw [inkL_next xss k hxk]; unfold noteInk; rw [if_neg (by omega)]
          have hn : inkN xss (k + 1) = inkN xss k := by rw [inkN_next xss k hxk]; unfold noteN; rw [if_neg (by omega)]
          go_wp2_with fail
          go_roundw
          case rel => exact ⟨k + 1, by omega, by omega, by rw [hl], by rw [hn], by go_num, HK3.out, HB3.out⟩
          case measure => simp [intOf]; omega
      · rw [decide_eq_false hlt]
        have hlen := HK.out.len
        clear hlt
        go_wp2_with fail
        refine (inkLen_any b _ _ _ HK.out (by omega)).mono ?_
        rintro _ w8 ⟨rfl, q8, rfl⟩
        have HK8 := Lib.hid (HK.out.drewN q8)
        have HB8 := Lib.hid (below_drewN HB.out q8)
        generalize wc.drewN q8 = w8 at HK8 HB8 ⊢
        go_wp2_with fail
        refine (inkAsked_any b _ _ _ HK8.out).mono ?_
        rintro _ _ ⟨rfl, rfl⟩
        go_wp2_with fail
        go_ret
        exact ⟨rfl, HB8.out⟩

end Go.Proofs.Ytkfmaagikjjilaa
