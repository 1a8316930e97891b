/-
  InkAgain: the law's walk.
-/
import Derived.Test.YtkfmaagikjjilaaInkFill
namespace Go.Proofs.Ytkfmaagikjjilaa
set_option linter.unusedVariables false
open Go.RowKit Go.Maps

set_option maxRecDepth 100000 in
set_option maxHeartbeats 4000000 in
theorem inkAgain_law (A : Option Addr) (n c : Nat) (xss : List (List UInt8)) (i : Int) (w : World) (h : Rows2 w A n xss) (hc : n ≤ c) (hcm : 24 * c ≤ reachBytes) (hi1 : -9223372036854775808 ≤ i) (hi2 : i ≤ 9223372036854775807) :
    Calls Try.prog 6 #[.slice A n c, .int .i64 i] w fun e w' => e = .returned (.bool true) ∧ Below w.heap.size w w' := by
  have hxn := h.1
  have HXN := Lib.hid hxn
  have H := Lib.hid h
  unfold reachBytes at hcm
  clear hxn h
  go_enter Try.func6, Try.ntmps6
  go_wp2_with fail
  refine (works_any _).mono ?_
  rintro _ w1 ⟨rfl, hb1⟩
  have HB1 := Lib.hid hb1
  have hs1 := hb1.size
  clear hb1
  go_wp2_with fail
  refine (inkNew_any _).mono ?_
  rintro _ w2 ⟨b, rfl, hka, hkka, hb2⟩
  have HK2 := Lib.hid hka
  have HB2 := Lib.hid (HB1.out.trans (hb2.mono hs1))
  clear hb2 hka
  have hk0 : w.heap.size ≤ b.g ∧ w.heap.size ≤ b.b1 ∧ w.heap.size ≤ b.b2 := by omega
  clear hkka
  go_wp2_with fail
  go_loopw [6] (fun v wr => ∃ k : Nat, k ≤ n ∧ k ≤ 20 ∧ v = .int .i64 k ∧ BookAt wr b (inkL xss k) (inkN xss k) ∧ Below w.heap.size w wr) (fun v _ => 20 - (intOf v).toNat)
  case atStart => exact ⟨0, by omega, by omega, rfl, HK2.out, HB2.out⟩
  case round =>
    obtain ⟨k, hk, hk20, rfl, hK, hbel⟩ := hrel
    have HK := Lib.hid hK
    have HB := Lib.hid hbel
    have hsz := hbel.size
    have hnl := inkN_le xss k
    clear hK hbel
    go_upto_region 5 with fail
    go_cut [22] (fun s22 wx => s22 = .bool (decide (k < n ∧ k < 20)) ∧ wx = wr)
    case first =>
      by_cases hkn : k < n
      · go_wp2_with fail
        go_meet
        exact ⟨by simp [hkn]; omega, rfl⟩
      · go_wp2_with fail
        go_meet
        exact ⟨by simp [hkn], rfl⟩
    case rest =>
      obtain ⟨rfl, rfl⟩ := hcut
      by_cases hlt : k < n ∧ k < 20
      · rw [decide_eq_true hlt]
        obtain ⟨ad, hA, hadb, hcell⟩ := H.out.2 (by omega)
        subst hA
        have hxk : k < xss.length := by have := HXN.out; omega
        obtain ⟨Bp, m, cp, hcp, hrp, hmp, hcp2⟩ := hcell k xss[k] (List.getElem?_eq_getElem hxk)
        have hadk : (ad.add k).block < w.heap.size := by simp [Addr.add]; split <;> exact hadb
        have hcp' := (HB.out.cell hadk).trans hcp
        have hr' := hrp.below HB.out
        have HRR := Lib.hid hr'
        unfold reachBytes at hcp2
        clear hcell hcp hrp hr'
        go_wp2_with fail
        refine (inkOf_all b _ _ Bp m cp xss[k] wc w.heap.size HK.out HRR.out hsz (HRR.out.above hk0) hmp (by unfold maxLen; omega) (by omega)).mono ?_
        rintro _ w3 ⟨D, code, rfl, ha, hk3, ho3⟩
        rw [← inkL_next xss k hxk, ← inkN_next xss k hxk] at hk3
        have HK3 := Lib.hid hk3
        have HB3 := Lib.hid (ho3.below HB.out hsz hk0)
        clear ha hk3 ho3
        go_wp2_with fail
        go_roundw
        case rel => exact ⟨k + 1, by omega, by omega, by go_num, HK3.out, HB3.out⟩
        case measure => simp [intOf]; omega
      · rw [decide_eq_false hlt]
        have hend : k = n ∨ k = 20 := by omega
        clear hlt
        by_cases hn0 : n = 0
        · obtain rfl : k = 0 := by omega
          subst hn0
          go_wp2_with fail
          refine (inkLen_any b _ 0 _ HK.out (by decide)).mono ?_
          rintro _ w5 ⟨rfl, q, rfl⟩
          have HK5 := Lib.hid (HK.out.drewN q)
          have HB5 := Lib.hid (below_drewN HB.out q)
          simp only [show (inkL xss 0).length = 0 from rfl]
          go_wp2_with fail
          refine (inkAsked_any b _ 0 _ HK5.out).mono ?_
          rintro _ _ ⟨rfl, rfl⟩
          go_wp2_with fail
          go_ret
          exact ⟨rfl, HB5.out⟩
        · go_upto_region 10 with fail
          have hk1 : 0 < k := by omega
          have hbl := bringF_lt i k hk1
          go_cut [1] (fun s1 wx => s1 = .int .i64 (bringF i k : Int) ∧ wx = wc)
          case first =>
            have hbr := bring_any i k hk1 (by unfold maxLen; omega) hi1 hi2 wc
            have hbr2 : ∀ z : Int, z = (k : Int) → Calls Try.prog 26 #[.int .i64 i, .int .i64 z] wc fun e w' => e = .returned (.int .i64 (bringF i k : Int)) ∧ wc = w' := fun z hz => by rw [hz]; exact hbr
            clear hbr
            go_wp2_with fail
            all_goals
              refine (hbr2 _ (by omega)).mono ?_
              rintro _ _ ⟨rfl, rfl⟩
              go_wp2_with fail
              go_meet
              exact ⟨rfl, rfl⟩
          case rest =>
            obtain ⟨rfl, rfl⟩ := hcut
            generalize bringF i k = j at hbl ⊢
            obtain ⟨ad, hA, hadb, hcell⟩ := H.out.2 (by omega)
            subst hA
            have hxj : j < xss.length := by have := HXN.out; omega
            obtain ⟨Bp, m, cp, hcp, hrp, hmp, hcp2⟩ := hcell j xss[j] (List.getElem?_eq_getElem hxj)
            have hadk : (ad.add j).block < w.heap.size := by simp [Addr.add]; split <;> exact hadb
            have HME := Lib.hid (inkL_mem xss k j hbl hxj)
            have HCP := Lib.hid hcp
            have HRP := Lib.hid hrp
            generalize xss[j] = x at HME HRP
            unfold reachBytes at hcp2
            clear hcell hcp hrp
            generalize hL : inkL xss k = L at HK HME
            generalize hN : inkN xss k = N at HK hnl
            clear hL hN
            go_wp2_with fail
            refine (inkLen_any b _ N _ HK.out (by omega)).mono ?_
            rintro _ w5 ⟨rfl, q, rfl⟩
            have HK5 := Lib.hid (HK.out.drewN q)
            have HB5 := Lib.hid (below_drewN HB.out q)
            have hs5 := HB5.out.size
            generalize wc.drewN q = w5 at HK5 HB5 hs5 ⊢
            go_wp2_with fail
            refine (inkAsked_any b _ N _ HK5.out).mono ?_
            rintro _ _ ⟨rfl, rfl⟩
            go_wp2_with fail
            refine (inkClash_any b _ N _ HK5.out).mono ?_
            rintro _ _ ⟨rfl, rfl⟩
            have hcp5 := (HB5.out.cell hadk).trans HCP.out
            have hr5 := HRP.out.below HB5.out
            have hxm : x.length = m := by have := hr5.1; simpa using this
            have HXM := Lib.hid hxm
            clear hxm
            go_wp2_with fail
            refine (inkOf_all b _ _ Bp m cp x w5 w.heap.size HK5.out hr5 hs5 (hr5.above hk0) hmp (by unfold maxLen; omega) (by omega)).mono ?_
            rintro _ w6 ⟨D, code, rfl, ha, hk6, ho6⟩
            have HA := Lib.hid ha
            have HK6 := Lib.hid hk6
            have HB6 := Lib.hid (ho6.below HB5.out hs5 hk0)
            have hs6 := HB6.out.size
            clear ha hk6 ho6 hr5 hcp5
            go_upto_region 13 with (refine wpList_store_part rfl 28 (.tmp 10) (.tmp 60) rfl w6.heap.size 0 D rfl rfl 28 _ (Blk.newAt rfl) (by rw [HA.out.size]; rfl) (by rw [HA.out.size]; simp) HA.out.one ?_; intro W6 hT6 hD6; rw [spl_self _ _ (by rw [HA.out.size]; simp)] at hD6)
            have hX6 : Below w6.heap.size w6 W6 := hT6.below ((Below.refl _ _).alloc (Nat.le_refl _) _) (Nat.le_refl _)
            have HB7 := Lib.hid (HB6.out.trans (hX6.mono hs6))
            have hK7 := HK6.out.below hX6
            have hs7 := HB7.out.size
            have hcp7 := (HB7.out.cell hadk).trans HCP.out
            have hNN := noteN_le N x
            have hLL : noteInk L x = L := by
              unfold noteInk
              split
              · rename_i hx; exact addInk_mem (HME.out hx)
              · rfl
            rw [hLL] at hK7
            have HK7 := Lib.hid hK7
            clear hX6 hT6 hD6 hK7 hLL
            by_cases hm : m ≤ 65536
            · obtain ⟨rfl, -⟩ := HA.out.small (by have := HXM.out; omega)
              have hN : noteN N x = N + 1 := by unfold noteN; rw [if_pos (by have := HXM.out; omega)]
              rw [hN] at HK7
              go_wp2_with fail
              refine (inkLen_any b _ _ _ HK7.out (by omega)).mono ?_
              rintro _ w8 ⟨rfl, q8, rfl⟩
              have HK8 := Lib.hid (HK7.out.drewN q8)
              have HB8 := Lib.hid (below_drewN HB7.out q8)
              generalize W6.drewN q8 = w8 at HK8 HB8 ⊢
              go_wp2_with fail
              refine (inkAsked_any b _ _ _ HK8.out).mono ?_
              rintro _ _ ⟨rfl, rfl⟩
              go_wp2_with fail
              refine (inkClash_any b _ _ _ HK8.out).mono ?_
              rintro _ _ ⟨rfl, rfl⟩
              go_wp2_with fail
              go_ret
              exact ⟨rfl, HB8.out⟩
            · obtain ⟨rfl, -⟩ := HA.out.big (by have := HXM.out; omega)
              have hN : noteN N x = N := by unfold noteN; rw [if_neg (by have := HXM.out; omega)]
              rw [hN] at HK7
              have hm2 : decide (65536 < (m : Int)) = true := by simp; omega
              go_wp2_with fail
              refine (inkLen_any b _ _ _ HK7.out (by omega)).mono ?_
              rintro _ w8 ⟨rfl, q8, rfl⟩
              have HK8 := Lib.hid (HK7.out.drewN q8)
              have HB8 := Lib.hid (below_drewN HB7.out q8)
              generalize W6.drewN q8 = w8 at HK8 HB8 ⊢
              go_wp2_with fail
              refine (inkAsked_any b _ _ _ HK8.out).mono ?_
              rintro _ _ ⟨rfl, rfl⟩
              go_wp2_with fail
              go_ret
              exact ⟨rfl, HB8.out⟩

end Go.Proofs.Ytkfmaagikjjilaa
