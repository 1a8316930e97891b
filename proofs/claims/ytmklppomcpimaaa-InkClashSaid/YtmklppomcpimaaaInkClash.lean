/-
  InkClash: the law's walk.
-/
import Derived.Test.YtmklppomcpimaaaClashMath
import Derived.Test.YtmklppomcpimaaaEq
namespace Go.Proofs.Ytmklppomcpimaaa
set_option linter.unusedVariables false
open Go.RowKit Go.Maps
attribute [local irreducible] wpCalm

theorem wpList_load_guarded {P : Program} {ops : Array Oper} {rest : List Oper} {o : Oper} {a : Act} {w : World} {Q : Exit → Act → World → Prop} (hw : Region.wanted o (yielded ops a.tmps) = true) (ty : TypeId) (x : Operand) (ho : o.op = .load ty x)
    (g off n : Nat) (hx : a.eval x = .pointer (some ⟨g, off, none⟩)) (t : TypeId) (cs vs : Array Value) (d : TypeDesc) (hB : Blk w g t cs)
    (hu : P.underlying ty = some d) (hd : (match d with | .struct _ | .array _ _ => true | _ => false) = true) (hi : (P.info? ty).map (·.size) = some n)
    (hn : vs.size = n) (hv : ∀ j, j < n → cs[off + j]? = vs[j]?)
    (h : wpList P ops Q rest (a.put o.dst (.agg vs)) w) : wpList P ops Q (o :: rest) a w := by
  unfold wpList
  rw [if_pos hw]
  exact .inl (wp_load_part ty x ho g off n hx t cs vs d hB hu hd hi hn hv h)

set_option maxRecDepth 100000 in
set_option maxHeartbeats 4000000 in
theorem inkClash_law (A : Option Addr) (n c : Nat) (xss : List (List UInt8)) (w : World) (h : Rows2 w A n xss) (hc : n ≤ c) (hcm : 24 * c ≤ reachBytes) :
    Calls Try.prog 5 #[.slice A n c] w fun e w' => e = .returned (.bool true) ∧ Below w.heap.size w w' := by
  have hxn := h.1
  have HXN := Lib.hid hxn
  have H := Lib.hid h
  unfold reachBytes at hcm
  clear hxn h
  go_enter Try.func5, Try.ntmps5
  go_wp2_with fail
  refine (works_any _).mono ?_
  rintro _ w1 ⟨rfl, hb1⟩
  have HB1 := Lib.hid hb1
  have hs1 := hb1.size
  clear hb1
  go_wp2_with fail
  refine (inkNew_any _).mono ?_
  rintro _ w2 ⟨b, rfl, hka, hkka, hb2⟩
  have HK2 := Lib.hid hka
  have HB2 := Lib.hid (HB1.out.trans (hb2.mono hs1))
  clear hb2 hka
  have hk0 : w.heap.size ≤ b.g ∧ w.heap.size ≤ b.b1 ∧ w.heap.size ≤ b.b2 := by omega
  clear hkka
  go_wp2_with fail
  go_loopw [4, 5] (fun cv v wr => ∃ k : Nat, k ≤ n ∧ k ≤ 20 ∧ cv = .bool (clashB (inkL xss k)) ∧ v = .int .i64 k ∧ BookAt wr b (inkL xss k) (inkN xss k) ∧ Below w.heap.size w wr) (fun _ v _ => 20 - (intOf v).toNat)
  case atStart => exact ⟨0, by omega, by omega, rfl, rfl, HK2.out, HB2.out⟩
  case round =>
    obtain ⟨k, hk, hk20, rfl, rfl, hK, hbel⟩ := hrel
    have HK := Lib.hid hK
    have HB := Lib.hid hbel
    have hsz := hbel.size
    have hnl := inkN_le xss k
    clear hK hbel
    go_upto_region 6 with fail
    go_cut [19] (fun s19 wx => s19 = .bool (decide (k < n ∧ k < 20)) ∧ wx = wr)
    case first =>
      by_cases hkn : k < n
      · go_wp2_with fail
        go_meet
        exact ⟨by simp [hkn]; omega, rfl⟩
      · go_wp2_with fail
        go_meet
        exact ⟨by simp [hkn], rfl⟩
    case rest =>
      obtain ⟨rfl, rfl⟩ := hcut
      by_cases hlt : k < n ∧ k < 20
      · rw [decide_eq_true hlt]
        obtain ⟨ad, hA, hadb, hcell⟩ := H.out.2 (by omega)
        subst hA
        have hxk : k < xss.length := by have := HXN.out; omega
        obtain ⟨Bp, m, cp, hcp, hrp, hmp, hcp2⟩ := hcell k xss[k] (List.getElem?_eq_getElem hxk)
        have hadk : (ad.add k).block < w.heap.size := by simp [Addr.add]; split <;> exact hadb
        have hcp' := (HB.out.cell hadk).trans hcp
        have HCP := Lib.hid hcp
        have hr' := hrp.below HB.out
        have HRR := Lib.hid hr'
        have HRP := Lib.hid hrp
        unfold reachBytes at hcp2
        clear hcell hcp hrp hr'
        have hlen := HK.out.len
        go_wp2_with fail
        refine (inkOf_all b _ _ Bp m cp xss[k] wc w.heap.size HK.out HRR.out hsz (HRR.out.above hk0) hmp (by unfold maxLen; omega) (by omega)).mono ?_
        rintro _ w3 ⟨D, code, rfl, ha, hk3, ho3⟩
        rw [← inkL_next xss k hxk, ← inkN_next xss k hxk] at hk3
        have HA := Lib.hid ha
        have HK3 := Lib.hid hk3
        have HB3 := Lib.hid (ho3.below HB.out hsz hk0)
        have hs3 := HB3.out.size
        have hxm : xss[k].length = m := by have := HRR.out.1; simpa using this
        have HXM := Lib.hid hxm
        clear ha hk3 ho3 hxm
        have hcx := clash_next xss k hxk
        generalize hx : xss[k] = x at HRR HRP HA hcx HXM
        generalize hC : clashB (inkL xss k) = C at hcx ⊢
        have HCX := Lib.hid hcx
        have HCC := Lib.hid hC
        have HX := Lib.hid hx
        clear hcx hC hx
        go_upto_region 9 with (refine wpList_store_part rfl 28 (.tmp 6) (.tmp 29) rfl w3.heap.size 0 D rfl rfl 28 _ (Blk.newAt rfl) (by rw [HA.out.size]; rfl) (by rw [HA.out.size]; simp) HA.out.one ?_; intro W6 hT6 hD6; rw [spl_self _ _ (by rw [HA.out.size]; simp)] at hD6)
        have hX6 : Below w3.heap.size w3 W6 := hT6.below ((Below.refl _ _).alloc (Nat.le_refl _) _) (Nat.le_refl _)
        have HB6 := Lib.hid (HB3.out.trans (hX6.mono hs3))
        have HK6 := Lib.hid (HK3.out.below hX6)
        have HD6 := Lib.hid hD6
        have hs6 := HB6.out.size
        clear hX6 hT6 hD6
        by_cases hm : m ≤ 65536
        · obtain ⟨rfl, hd⟩ := HA.out.small (by have := HXM.out; omega)
          have hz : bRow (List.replicate 32 0) = #[.int .u8 0, .int .u8 0, .int .u8 0, .int .u8 0, .int .u8 0, .int .u8 0, .int .u8 0, .int .u8 0, .int .u8 0, .int .u8 0, .int .u8 0, .int .u8 0, .int .u8 0, .int .u8 0, .int .u8 0, .int .u8 0, .int .u8 0, .int .u8 0, .int .u8 0, .int .u8 0, .int .u8 0, .int .u8 0, .int .u8 0, .int .u8 0, .int .u8 0, .int .u8 0, .int .u8 0, .int .u8 0, .int .u8 0, .int .u8 0, .int .u8 0, .int .u8 0] := by kernel_rfl
          have z1 := eql_digest (shaOf x) (List.replicate 32 0) (shaOf_len _) (by simp)
          rw [← hd, hz] at z1
          have hcx := HCX.out (by have := HXM.out; omega)
          generalize (shaOf x == List.replicate 32 0) = z at z1 hcx
          have HCE := Lib.hid hcx
          have Z1 := Lib.hid z1
          clear hz z1 hcx hd
          go_cut [4] (fun s4 wx => s4 = .bool (C || z) ∧ wx = W6)
          case first =>
            cases C with
            | true =>
              go_wp2_with fail
              go_meet
              exact ⟨rfl, rfl⟩
            | false =>
              have z1 := Z1.out
              go_wp2_with (refine wpList_load_guarded rfl 28 (.tmp 6) rfl w3.heap.size 0 32 rfl 28 _ D _ HD6.out Try.underlying28 rfl rfl HA.out.size (fun _ _ => by rw [Nat.zero_add]) ?_)
              go_meet
              exact ⟨rfl, rfl⟩
          case rest =>
            obtain ⟨rfl, rfl⟩ := hcut
            generalize hG : (C || z) = G at HCE ⊢
            clear hG
            go_wp2_with fail
            go_loopw [4, 8] (fun cv jv wr => ∃ j : Nat, j ≤ k ∧ cv = .bool (G || anyB xss x j) ∧ jv = .int .i64 j ∧ Below wc.heap.size wc wr) (fun _ jv _ => k - (intOf jv).toNat)
            case atStart => exact ⟨0, by omega, by simp [anyB], rfl, Below.refl _ _⟩
            case round =>
              obtain ⟨j, hj, rfl, rfl, hE⟩ := hrel
              have HE := Lib.hid hE
              have hse := hE.size
              clear hE
              by_cases hjk : j < k
              · have hxj : j < xss.length := by omega
                obtain ⟨ad', hA', hadb', hcell⟩ := H.out.2 (by omega)
                injection hA' with hA'
                subst hA'
                obtain ⟨Bq, m', cq, hcq, hrq, hmq, hcq2⟩ := hcell j xss[j] (List.getElem?_eq_getElem hxj)
                unfold reachBytes at hcq2
                have hadj : (ad.add j).block < w.heap.size := by simp [Addr.add]; split <;> exact hadb
                have HBE := Lib.hid (HB6.out.trans (HE.out.mono hs6))
                have hsb := HBE.out.size
                have HCQ := Lib.hid (fun (W : World) (hb : Below wr.heap.size wr W) => ((HBE.out.trans (hb.mono hsb)).cell hadj).trans hcq)
                have HCPK := Lib.hid (fun (W : World) (hb : Below wr.heap.size wr W) => ((HBE.out.trans (hb.mono hsb)).cell hadk).trans HCP.out)
                have hfn : (G || anyB xss x (j + 1)) = ((G || anyB xss x j) || sameB x xss[j]) := by rw [anyB_next xss x j hxj, Bool.or_assoc]
                have hym : xss[j].length = m' := by have := hrq.1; simpa using this
                have HYM := Lib.hid hym
                have HRQ := Lib.hid hrq
                have HFN := Lib.hid hfn
                clear hfn hcell hcq hrq hym
                generalize xss[j] = y at HRQ HFN HYM
                have hqe : ∀ (W : World), Below wr.heap.size wr W → Calls Try.prog 15 #[.slice Bq m' cq, .slice Bp m cp] W fun e w' => e = .returned (.bool (decide (y = x))) ∧ Below W.heap.size W w' := fun W hb =>
                  (eqBytes_any Bq Bp m' m cq cp y x W w.heap.size w.heap.size (HRQ.out.below (HBE.out.trans (hb.mono hsb))) (HRP.out.below (HBE.out.trans (hb.mono hsb))) (by unfold maxLen; omega) (by unfold maxLen; omega)).mono fun e w' ⟨he, z, hz⟩ => ⟨he, hz ▸ below_drewN (Below.refl _ _) z⟩
                have hjn : j < n := by omega
                have hl3 : decide ((j : Int) < (k : Int)) = true := by simp; omega
                cases hf : (G || anyB xss x j) with
                | true =>
                  clear hqe
                  go_upto_region 13 with fail
                  refine wp_region_calm0 34 88 (by kernel_rfl) (by kernel_rfl) (by kernel_rfl) (by simp) ?_
                  simp only [List.take_succ_cons, List.take_zero, List.drop_succ_cons, List.drop_zero]
                  refine wpCalm_value rfl rfl (.bool true) (fun W _ => rfl) ?_
                  try simp only [Act.put, List.setIfInBounds_toArray, List.set_cons_zero, List.set_cons_succ]
                  refine wpCalm_value rfl rfl (.bool true) (fun W _ => rfl) ?_
                  try simp only [Act.put, List.setIfInBounds_toArray, List.set_cons_zero, List.set_cons_succ]
                  refine wpCalm_skip rfl rfl ?_
                  try simp only [Act.put, List.setIfInBounds_toArray, List.set_cons_zero, List.set_cons_succ]
                  refine wpCalm_skip rfl rfl ?_
                  try simp only [Act.put, List.setIfInBounds_toArray, List.set_cons_zero, List.set_cons_succ]
                  refine wpCalm_skip rfl rfl ?_
                  try simp only [Act.put, List.setIfInBounds_toArray, List.set_cons_zero, List.set_cons_succ]
                  refine wpCalm_skip rfl rfl ?_
                  try simp only [Act.put, List.setIfInBounds_toArray, List.set_cons_zero, List.set_cons_succ]
                  refine wpCalm_skip rfl rfl ?_
                  try simp only [Act.put, List.setIfInBounds_toArray, List.set_cons_zero, List.set_cons_succ]
                  refine wpCalm_skip rfl rfl ?_
                  try simp only [Act.put, List.setIfInBounds_toArray, List.set_cons_zero, List.set_cons_succ]
                  refine wpCalm_skip rfl rfl ?_
                  try simp only [Act.put, List.setIfInBounds_toArray, List.set_cons_zero, List.set_cons_succ]
                  refine wpCalm_skip rfl rfl ?_
                  try simp only [Act.put, List.setIfInBounds_toArray, List.set_cons_zero, List.set_cons_succ]
                  refine wpCalm_skip rfl rfl ?_
                  try simp only [Act.put, List.setIfInBounds_toArray, List.set_cons_zero, List.set_cons_succ]
                  refine wpCalm_skip rfl rfl ?_
                  try simp only [Act.put, List.setIfInBounds_toArray, List.set_cons_zero, List.set_cons_succ]
                  refine wpCalm_skip rfl rfl ?_
                  try simp only [Act.put, List.setIfInBounds_toArray, List.set_cons_zero, List.set_cons_succ]
                  refine wpCalm_skip rfl rfl ?_
                  try simp only [Act.put, List.setIfInBounds_toArray, List.set_cons_zero, List.set_cons_succ]
                  refine wpCalm_skip rfl rfl ?_
                  try simp only [Act.put, List.setIfInBounds_toArray, List.set_cons_zero, List.set_cons_succ]
                  refine wpCalm_skip rfl rfl ?_
                  try simp only [Act.put, List.setIfInBounds_toArray, List.set_cons_zero, List.set_cons_succ]
                  refine wpCalm_skip rfl rfl ?_
                  try simp only [Act.put, List.setIfInBounds_toArray, List.set_cons_zero, List.set_cons_succ]
                  refine wpCalm_skip rfl rfl ?_
                  try simp only [Act.put, List.setIfInBounds_toArray, List.set_cons_zero, List.set_cons_succ]
                  refine wpCalm_skip rfl rfl ?_
                  try simp only [Act.put, List.setIfInBounds_toArray, List.set_cons_zero, List.set_cons_succ]
                  refine wpCalm_skip rfl rfl ?_
                  try simp only [Act.put, List.setIfInBounds_toArray, List.set_cons_zero, List.set_cons_succ]
                  refine wpCalm_skip rfl rfl ?_
                  try simp only [Act.put, List.setIfInBounds_toArray, List.set_cons_zero, List.set_cons_succ]
                  refine wpCalm_skip rfl rfl ?_
                  try simp only [Act.put, List.setIfInBounds_toArray, List.set_cons_zero, List.set_cons_succ]
                  refine wpCalm_skip rfl rfl ?_
                  try simp only [Act.put, List.setIfInBounds_toArray, List.set_cons_zero, List.set_cons_succ]
                  refine wpCalm_skip rfl rfl ?_
                  try simp only [Act.put, List.setIfInBounds_toArray, List.set_cons_zero, List.set_cons_succ]
                  refine wpCalm_skip rfl rfl ?_
                  try simp only [Act.put, List.setIfInBounds_toArray, List.set_cons_zero, List.set_cons_succ]
                  refine wpCalm_skip rfl rfl ?_
                  try simp only [Act.put, List.setIfInBounds_toArray, List.set_cons_zero, List.set_cons_succ]
                  refine wpCalm_skip rfl rfl ?_
                  try simp only [Act.put, List.setIfInBounds_toArray, List.set_cons_zero, List.set_cons_succ]
                  refine wpCalm_skip rfl rfl ?_
                  try simp only [Act.put, List.setIfInBounds_toArray, List.set_cons_zero, List.set_cons_succ]
                  refine wpCalm_skip rfl rfl ?_
                  try simp only [Act.put, List.setIfInBounds_toArray, List.set_cons_zero, List.set_cons_succ]
                  refine wpCalm_skip rfl rfl ?_
                  try simp only [Act.put, List.setIfInBounds_toArray, List.set_cons_zero, List.set_cons_succ]
                  refine wpCalm_skip rfl rfl ?_
                  try simp only [Act.put, List.setIfInBounds_toArray, List.set_cons_zero, List.set_cons_succ]
                  refine wpCalm_skip rfl rfl ?_
                  try simp only [Act.put, List.setIfInBounds_toArray, List.set_cons_zero, List.set_cons_succ]
                  refine wpCalm_skip rfl rfl ?_
                  try simp only [Act.put, List.setIfInBounds_toArray, List.set_cons_zero, List.set_cons_succ]
                  refine wpCalm_value rfl rfl (.bool true) (fun W _ => by go_simp) ?_
                  try simp only [Act.put, List.setIfInBounds_toArray, List.set_cons_zero, List.set_cons_succ]
                  refine wpCalm_nil ?_
                  intro W1 hb1
                  have HE1 := Lib.hid (HE.out.trans (hb1.mono hse))
                  clear hb1
                  go_wp2_with fail
                  go_roundw
                  case rel => exact ⟨j + 1, by omega, by rw [HFN.out, hf]; rfl, by go_num, HE1.out⟩
                  case measure => simp [intOf]; omega
                | false =>
                  by_cases hsm : m' ≤ 65536
                  · by_cases hyx : y = x
                    · rw [decide_eq_true hyx] at hqe
                      have HQE := Lib.hid hqe
                      clear hqe
                      go_upto_region 13 with fail
                      refine wp_region_calm0 34 88 (by kernel_rfl) (by kernel_rfl) (by kernel_rfl) (by simp) ?_
                      simp only [List.take_succ_cons, List.take_zero, List.drop_succ_cons, List.drop_zero]
                      refine wpCalm_value rfl rfl (.bool false) (fun W _ => rfl) ?_
                      try simp only [Act.put, List.setIfInBounds_toArray, List.set_cons_zero, List.set_cons_succ]
                      refine wpCalm_value rfl rfl (.bool false) (fun W _ => rfl) ?_
                      try simp only [Act.put, List.setIfInBounds_toArray, List.set_cons_zero, List.set_cons_succ]
                      refine wpCalm_value rfl rfl (.slice (some ad) n c) (fun W _ => rfl) ?_
                      try simp only [Act.put, List.setIfInBounds_toArray, List.set_cons_zero, List.set_cons_succ]
                      refine wpCalm_value rfl rfl (.int .i64 (j : Int)) (fun W _ => rfl) ?_
                      try simp only [Act.put, List.setIfInBounds_toArray, List.set_cons_zero, List.set_cons_succ]
                      refine wpCalm_value rfl rfl (.pointer (some (ad.add j))) (fun W _ => by go_simp) ?_
                      try simp only [Act.put, List.setIfInBounds_toArray, List.set_cons_zero, List.set_cons_succ]
                      refine wpCalm_below rfl rfl (.slice Bq m' cq) (fun W hb => exec_load_one 32 (.tmp 54) rfl (ad.add j) rfl (by kernel_rfl) _ (HCQ.out W hb)) ?_
                      try simp only [Act.put, List.setIfInBounds_toArray, List.set_cons_zero, List.set_cons_succ]
                      refine wpCalm_value rfl rfl (.int .i64 (m' : Int)) (fun W _ => by go_simp) ?_
                      try simp only [Act.put, List.setIfInBounds_toArray, List.set_cons_zero, List.set_cons_succ]
                      refine wpCalm_value rfl rfl (.bool true) (fun W _ => by go_simp; omega) ?_
                      try simp only [Act.put, List.setIfInBounds_toArray, List.set_cons_zero, List.set_cons_succ]
                      refine wpCalm_value rfl rfl (.bool true) (fun W _ => rfl) ?_
                      try simp only [Act.put, List.setIfInBounds_toArray, List.set_cons_zero, List.set_cons_succ]
                      refine wpCalm_value rfl rfl (.slice (some ad) n c) (fun W _ => rfl) ?_
                      try simp only [Act.put, List.setIfInBounds_toArray, List.set_cons_zero, List.set_cons_succ]
                      refine wpCalm_value rfl rfl (.int .i64 (j : Int)) (fun W _ => rfl) ?_
                      try simp only [Act.put, List.setIfInBounds_toArray, List.set_cons_zero, List.set_cons_succ]
                      refine wpCalm_value rfl rfl (.pointer (some (ad.add j))) (fun W _ => by go_simp) ?_
                      try simp only [Act.put, List.setIfInBounds_toArray, List.set_cons_zero, List.set_cons_succ]
                      refine wpCalm_below rfl rfl (.slice Bq m' cq) (fun W hb => exec_load_one 32 (.tmp 61) rfl (ad.add j) rfl (by kernel_rfl) _ (HCQ.out W hb)) ?_
                      try simp only [Act.put, List.setIfInBounds_toArray, List.set_cons_zero, List.set_cons_succ]
                      refine wpCalm_value rfl rfl (.slice (some ad) n c) (fun W _ => rfl) ?_
                      try simp only [Act.put, List.setIfInBounds_toArray, List.set_cons_zero, List.set_cons_succ]
                      refine wpCalm_value rfl rfl (.int .i64 (k : Int)) (fun W _ => rfl) ?_
                      try simp only [Act.put, List.setIfInBounds_toArray, List.set_cons_zero, List.set_cons_succ]
                      refine wpCalm_value rfl rfl (.pointer (some (ad.add k))) (fun W _ => by go_simp) ?_
                      try simp only [Act.put, List.setIfInBounds_toArray, List.set_cons_zero, List.set_cons_succ]
                      refine wpCalm_below rfl rfl (.slice Bp m cp) (fun W hb => exec_load_one 32 (.tmp 65) rfl (ad.add k) rfl (by kernel_rfl) _ (HCPK.out W hb)) ?_
                      try simp only [Act.put, List.setIfInBounds_toArray, List.set_cons_zero, List.set_cons_succ]
                      refine wpCalm_call rfl rfl 15 #[.slice Bq m' cq, .slice Bp m cp] (fun W => by go_simp) (.bool true) (fun W hb => HQE.out W hb) ?_
                      try simp only [Act.put, List.setIfInBounds_toArray, List.set_cons_zero, List.set_cons_succ]
                      refine wpCalm_value rfl rfl (.bool false) (fun W _ => by go_simp) ?_
                      try simp only [Act.put, List.setIfInBounds_toArray, List.set_cons_zero, List.set_cons_succ]
                      refine wpCalm_value rfl rfl (.bool false) (fun W _ => by go_simp) ?_
                      try simp only [Act.put, List.setIfInBounds_toArray, List.set_cons_zero, List.set_cons_succ]
                      refine wpCalm_value rfl rfl (.bool false) (fun W _ => rfl) ?_
                      try simp only [Act.put, List.setIfInBounds_toArray, List.set_cons_zero, List.set_cons_succ]
                      refine wpCalm_skip rfl rfl ?_
                      try simp only [Act.put, List.setIfInBounds_toArray, List.set_cons_zero, List.set_cons_succ]
                      refine wpCalm_skip rfl rfl ?_
                      try simp only [Act.put, List.setIfInBounds_toArray, List.set_cons_zero, List.set_cons_succ]
                      refine wpCalm_skip rfl rfl ?_
                      try simp only [Act.put, List.setIfInBounds_toArray, List.set_cons_zero, List.set_cons_succ]
                      refine wpCalm_skip rfl rfl ?_
                      try simp only [Act.put, List.setIfInBounds_toArray, List.set_cons_zero, List.set_cons_succ]
                      refine wpCalm_skip rfl rfl ?_
                      try simp only [Act.put, List.setIfInBounds_toArray, List.set_cons_zero, List.set_cons_succ]
                      refine wpCalm_skip rfl rfl ?_
                      try simp only [Act.put, List.setIfInBounds_toArray, List.set_cons_zero, List.set_cons_succ]
                      refine wpCalm_skip rfl rfl ?_
                      try simp only [Act.put, List.setIfInBounds_toArray, List.set_cons_zero, List.set_cons_succ]
                      refine wpCalm_skip rfl rfl ?_
                      try simp only [Act.put, List.setIfInBounds_toArray, List.set_cons_zero, List.set_cons_succ]
                      refine wpCalm_skip rfl rfl ?_
                      try simp only [Act.put, List.setIfInBounds_toArray, List.set_cons_zero, List.set_cons_succ]
                      refine wpCalm_skip rfl rfl ?_
                      try simp only [Act.put, List.setIfInBounds_toArray, List.set_cons_zero, List.set_cons_succ]
                      refine wpCalm_skip rfl rfl ?_
                      try simp only [Act.put, List.setIfInBounds_toArray, List.set_cons_zero, List.set_cons_succ]
                      refine wpCalm_value rfl rfl (.bool false) (fun W _ => by go_simp) ?_
                      try simp only [Act.put, List.setIfInBounds_toArray, List.set_cons_zero, List.set_cons_succ]
                      refine wpCalm_value rfl rfl (.bool false) (fun W _ => by go_simp) ?_
                      try simp only [Act.put, List.setIfInBounds_toArray, List.set_cons_zero, List.set_cons_succ]
                      refine wpCalm_nil ?_
                      intro W1 hb1
                      have HE1 := Lib.hid (HE.out.trans (hb1.mono hse))
                      clear hb1
                      go_wp2_with fail
                      go_roundw
                      case rel => exact ⟨j + 1, by omega, by rw [HFN.out, hf]; unfold sameB; rw [decide_eq_true hyx]; simp, by go_num, HE1.out⟩
                      case measure => simp [intOf]; omega
                    · rw [decide_eq_false hyx] at hqe
                      have HQE := Lib.hid hqe
                      have HSY := Lib.hid (fun (W : World) (hb : Below wr.heap.size wr W) => shaOf_any Bq m' cq y W w.heap.size (HRQ.out.below (HBE.out.trans (hb.mono hsb))) (by have := hb.size; omega) hmq (by unfold maxLen; omega))
                      have HSX := Lib.hid (fun (W : World) (hb : Below wr.heap.size wr W) => shaOf_any Bp m cp x W w.heap.size (HRP.out.below (HBE.out.trans (hb.mono hsb))) (by have := hb.size; omega) hmp (by unfold maxLen; omega))
                      have EQ := Lib.hid (eql_digest (shaOf y) (shaOf x) (shaOf_len _) (shaOf_len _))
                      clear hqe
                      go_upto_region 13 with fail
                      refine wp_region_calm0 34 88 (by kernel_rfl) (by kernel_rfl) (by kernel_rfl) (by simp) ?_
                      simp only [List.take_succ_cons, List.take_zero, List.drop_succ_cons, List.drop_zero]
                      refine wpCalm_value rfl rfl (.bool false) (fun W _ => rfl) ?_
                      try simp only [Act.put, List.setIfInBounds_toArray, List.set_cons_zero, List.set_cons_succ]
                      refine wpCalm_value rfl rfl (.bool false) (fun W _ => rfl) ?_
                      try simp only [Act.put, List.setIfInBounds_toArray, List.set_cons_zero, List.set_cons_succ]
                      refine wpCalm_value rfl rfl (.slice (some ad) n c) (fun W _ => rfl) ?_
                      try simp only [Act.put, List.setIfInBounds_toArray, List.set_cons_zero, List.set_cons_succ]
                      refine wpCalm_value rfl rfl (.int .i64 (j : Int)) (fun W _ => rfl) ?_
                      try simp only [Act.put, List.setIfInBounds_toArray, List.set_cons_zero, List.set_cons_succ]
                      refine wpCalm_value rfl rfl (.pointer (some (ad.add j))) (fun W _ => by go_simp) ?_
                      try simp only [Act.put, List.setIfInBounds_toArray, List.set_cons_zero, List.set_cons_succ]
                      refine wpCalm_below rfl rfl (.slice Bq m' cq) (fun W hb => exec_load_one 32 (.tmp 54) rfl (ad.add j) rfl (by kernel_rfl) _ (HCQ.out W hb)) ?_
                      try simp only [Act.put, List.setIfInBounds_toArray, List.set_cons_zero, List.set_cons_succ]
                      refine wpCalm_value rfl rfl (.int .i64 (m' : Int)) (fun W _ => by go_simp) ?_
                      try simp only [Act.put, List.setIfInBounds_toArray, List.set_cons_zero, List.set_cons_succ]
                      refine wpCalm_value rfl rfl (.bool true) (fun W _ => by go_simp; omega) ?_
                      try simp only [Act.put, List.setIfInBounds_toArray, List.set_cons_zero, List.set_cons_succ]
                      refine wpCalm_value rfl rfl (.bool true) (fun W _ => rfl) ?_
                      try simp only [Act.put, List.setIfInBounds_toArray, List.set_cons_zero, List.set_cons_succ]
                      refine wpCalm_value rfl rfl (.slice (some ad) n c) (fun W _ => rfl) ?_
                      try simp only [Act.put, List.setIfInBounds_toArray, List.set_cons_zero, List.set_cons_succ]
                      refine wpCalm_value rfl rfl (.int .i64 (j : Int)) (fun W _ => rfl) ?_
                      try simp only [Act.put, List.setIfInBounds_toArray, List.set_cons_zero, List.set_cons_succ]
                      refine wpCalm_value rfl rfl (.pointer (some (ad.add j))) (fun W _ => by go_simp) ?_
                      try simp only [Act.put, List.setIfInBounds_toArray, List.set_cons_zero, List.set_cons_succ]
                      refine wpCalm_below rfl rfl (.slice Bq m' cq) (fun W hb => exec_load_one 32 (.tmp 61) rfl (ad.add j) rfl (by kernel_rfl) _ (HCQ.out W hb)) ?_
                      try simp only [Act.put, List.setIfInBounds_toArray, List.set_cons_zero, List.set_cons_succ]
                      refine wpCalm_value rfl rfl (.slice (some ad) n c) (fun W _ => rfl) ?_
                      try simp only [Act.put, List.setIfInBounds_toArray, List.set_cons_zero, List.set_cons_succ]
                      refine wpCalm_value rfl rfl (.int .i64 (k : Int)) (fun W _ => rfl) ?_
                      try simp only [Act.put, List.setIfInBounds_toArray, List.set_cons_zero, List.set_cons_succ]
                      refine wpCalm_value rfl rfl (.pointer (some (ad.add k))) (fun W _ => by go_simp) ?_
                      try simp only [Act.put, List.setIfInBounds_toArray, List.set_cons_zero, List.set_cons_succ]
                      refine wpCalm_below rfl rfl (.slice Bp m cp) (fun W hb => exec_load_one 32 (.tmp 65) rfl (ad.add k) rfl (by kernel_rfl) _ (HCPK.out W hb)) ?_
                      try simp only [Act.put, List.setIfInBounds_toArray, List.set_cons_zero, List.set_cons_succ]
                      refine wpCalm_call rfl rfl 15 #[.slice Bq m' cq, .slice Bp m cp] (fun W => by go_simp) (.bool false) (fun W hb => HQE.out W hb) ?_
                      try simp only [Act.put, List.setIfInBounds_toArray, List.set_cons_zero, List.set_cons_succ]
                      refine wpCalm_value rfl rfl (.bool true) (fun W _ => by go_simp) ?_
                      try simp only [Act.put, List.setIfInBounds_toArray, List.set_cons_zero, List.set_cons_succ]
                      refine wpCalm_value rfl rfl (.bool true) (fun W _ => by go_simp) ?_
                      try simp only [Act.put, List.setIfInBounds_toArray, List.set_cons_zero, List.set_cons_succ]
                      refine wpCalm_value rfl rfl (.bool true) (fun W _ => rfl) ?_
                      try simp only [Act.put, List.setIfInBounds_toArray, List.set_cons_zero, List.set_cons_succ]
                      refine wpCalm_value rfl rfl (.slice (some ad) n c) (fun W _ => rfl) ?_
                      try simp only [Act.put, List.setIfInBounds_toArray, List.set_cons_zero, List.set_cons_succ]
                      refine wpCalm_value rfl rfl (.int .i64 (j : Int)) (fun W _ => rfl) ?_
                      try simp only [Act.put, List.setIfInBounds_toArray, List.set_cons_zero, List.set_cons_succ]
                      refine wpCalm_value rfl rfl (.pointer (some (ad.add j))) (fun W _ => by go_simp) ?_
                      try simp only [Act.put, List.setIfInBounds_toArray, List.set_cons_zero, List.set_cons_succ]
                      refine wpCalm_below rfl rfl (.slice Bq m' cq) (fun W hb => exec_load_one 32 (.tmp 73) rfl (ad.add j) rfl (by kernel_rfl) _ (HCQ.out W hb)) ?_
                      try simp only [Act.put, List.setIfInBounds_toArray, List.set_cons_zero, List.set_cons_succ]
                      refine wpCalm_call rfl rfl 24 #[.slice Bq m' cq] (fun W => by go_simp) (.agg (bRow (shaOf y))) (fun W hb => HSY.out W hb) ?_
                      try simp only [Act.put, List.setIfInBounds_toArray, List.set_cons_zero, List.set_cons_succ]
                      refine wpCalm_value rfl rfl (.slice (some ad) n c) (fun W _ => rfl) ?_
                      try simp only [Act.put, List.setIfInBounds_toArray, List.set_cons_zero, List.set_cons_succ]
                      refine wpCalm_value rfl rfl (.int .i64 (k : Int)) (fun W _ => rfl) ?_
                      try simp only [Act.put, List.setIfInBounds_toArray, List.set_cons_zero, List.set_cons_succ]
                      refine wpCalm_value rfl rfl (.pointer (some (ad.add k))) (fun W _ => by go_simp) ?_
                      try simp only [Act.put, List.setIfInBounds_toArray, List.set_cons_zero, List.set_cons_succ]
                      refine wpCalm_below rfl rfl (.slice Bp m cp) (fun W hb => exec_load_one 32 (.tmp 78) rfl (ad.add k) rfl (by kernel_rfl) _ (HCPK.out W hb)) ?_
                      try simp only [Act.put, List.setIfInBounds_toArray, List.set_cons_zero, List.set_cons_succ]
                      refine wpCalm_call rfl rfl 24 #[.slice Bp m cp] (fun W => by go_simp) (.agg (bRow (shaOf x))) (fun W hb => HSX.out W hb) ?_
                      try simp only [Act.put, List.setIfInBounds_toArray, List.set_cons_zero, List.set_cons_succ]
                      refine wpCalm_value rfl rfl (.bool (shaOf y == shaOf x)) (fun W _ => exec_eql_agg 28 (.tmp 75) (.tmp 80) _ rfl _ _ rfl rfl eqg_digest _ (EQ.out W)) ?_
                      try simp only [Act.put, List.setIfInBounds_toArray, List.set_cons_zero, List.set_cons_succ]
                      refine wpCalm_value rfl rfl (.bool (shaOf y == shaOf x)) (fun W _ => by go_simp) ?_
                      try simp only [Act.put, List.setIfInBounds_toArray, List.set_cons_zero, List.set_cons_succ]
                      refine wpCalm_value rfl rfl (.bool (shaOf y == shaOf x)) (fun W _ => by go_simp) ?_
                      try simp only [Act.put, List.setIfInBounds_toArray, List.set_cons_zero, List.set_cons_succ]
                      refine wpCalm_nil ?_
                      intro W1 hb1
                      have HE1 := Lib.hid (HE.out.trans (hb1.mono hse))
                      clear hb1
                      go_wp2_with fail
                      go_roundw
                      case rel => exact ⟨j + 1, by omega, by rw [HFN.out, hf]; unfold sameB; rw [decide_eq_false hyx, decide_eq_true (by have := HYM.out; omega)]; simp, by go_num, HE1.out⟩
                      case measure => simp [intOf]; omega
                  · clear hqe
                    go_upto_region 13 with fail
                    refine wp_region_calm0 34 88 (by kernel_rfl) (by kernel_rfl) (by kernel_rfl) (by simp) ?_
                    simp only [List.take_succ_cons, List.take_zero, List.drop_succ_cons, List.drop_zero]
                    refine wpCalm_value rfl rfl (.bool false) (fun W _ => rfl) ?_
                    try simp only [Act.put, List.setIfInBounds_toArray, List.set_cons_zero, List.set_cons_succ]
                    refine wpCalm_value rfl rfl (.bool false) (fun W _ => rfl) ?_
                    try simp only [Act.put, List.setIfInBounds_toArray, List.set_cons_zero, List.set_cons_succ]
                    refine wpCalm_value rfl rfl (.slice (some ad) n c) (fun W _ => rfl) ?_
                    try simp only [Act.put, List.setIfInBounds_toArray, List.set_cons_zero, List.set_cons_succ]
                    refine wpCalm_value rfl rfl (.int .i64 (j : Int)) (fun W _ => rfl) ?_
                    try simp only [Act.put, List.setIfInBounds_toArray, List.set_cons_zero, List.set_cons_succ]
                    refine wpCalm_value rfl rfl (.pointer (some (ad.add j))) (fun W _ => by go_simp) ?_
                    try simp only [Act.put, List.setIfInBounds_toArray, List.set_cons_zero, List.set_cons_succ]
                    refine wpCalm_below rfl rfl (.slice Bq m' cq) (fun W hb => exec_load_one 32 (.tmp 54) rfl (ad.add j) rfl (by kernel_rfl) _ (HCQ.out W hb)) ?_
                    try simp only [Act.put, List.setIfInBounds_toArray, List.set_cons_zero, List.set_cons_succ]
                    refine wpCalm_value rfl rfl (.int .i64 (m' : Int)) (fun W _ => by go_simp) ?_
                    try simp only [Act.put, List.setIfInBounds_toArray, List.set_cons_zero, List.set_cons_succ]
                    refine wpCalm_value rfl rfl (.bool false) (fun W _ => by go_simp; omega) ?_
                    try simp only [Act.put, List.setIfInBounds_toArray, List.set_cons_zero, List.set_cons_succ]
                    refine wpCalm_value rfl rfl (.bool false) (fun W _ => rfl) ?_
                    try simp only [Act.put, List.setIfInBounds_toArray, List.set_cons_zero, List.set_cons_succ]
                    refine wpCalm_skip rfl rfl ?_
                    try simp only [Act.put, List.setIfInBounds_toArray, List.set_cons_zero, List.set_cons_succ]
                    refine wpCalm_skip rfl rfl ?_
                    try simp only [Act.put, List.setIfInBounds_toArray, List.set_cons_zero, List.set_cons_succ]
                    refine wpCalm_skip rfl rfl ?_
                    try simp only [Act.put, List.setIfInBounds_toArray, List.set_cons_zero, List.set_cons_succ]
                    refine wpCalm_skip rfl rfl ?_
                    try simp only [Act.put, List.setIfInBounds_toArray, List.set_cons_zero, List.set_cons_succ]
                    refine wpCalm_skip rfl rfl ?_
                    try simp only [Act.put, List.setIfInBounds_toArray, List.set_cons_zero, List.set_cons_succ]
                    refine wpCalm_skip rfl rfl ?_
                    try simp only [Act.put, List.setIfInBounds_toArray, List.set_cons_zero, List.set_cons_succ]
                    refine wpCalm_skip rfl rfl ?_
                    try simp only [Act.put, List.setIfInBounds_toArray, List.set_cons_zero, List.set_cons_succ]
                    refine wpCalm_skip rfl rfl ?_
                    try simp only [Act.put, List.setIfInBounds_toArray, List.set_cons_zero, List.set_cons_succ]
                    refine wpCalm_skip rfl rfl ?_
                    try simp only [Act.put, List.setIfInBounds_toArray, List.set_cons_zero, List.set_cons_succ]
                    refine wpCalm_skip rfl rfl ?_
                    try simp only [Act.put, List.setIfInBounds_toArray, List.set_cons_zero, List.set_cons_succ]
                    refine wpCalm_value rfl rfl (.bool false) (fun W _ => by go_simp) ?_
                    try simp only [Act.put, List.setIfInBounds_toArray, List.set_cons_zero, List.set_cons_succ]
                    refine wpCalm_value rfl rfl (.bool false) (fun W _ => rfl) ?_
                    try simp only [Act.put, List.setIfInBounds_toArray, List.set_cons_zero, List.set_cons_succ]
                    refine wpCalm_skip rfl rfl ?_
                    try simp only [Act.put, List.setIfInBounds_toArray, List.set_cons_zero, List.set_cons_succ]
                    refine wpCalm_skip rfl rfl ?_
                    try simp only [Act.put, List.setIfInBounds_toArray, List.set_cons_zero, List.set_cons_succ]
                    refine wpCalm_skip rfl rfl ?_
                    try simp only [Act.put, List.setIfInBounds_toArray, List.set_cons_zero, List.set_cons_succ]
                    refine wpCalm_skip rfl rfl ?_
                    try simp only [Act.put, List.setIfInBounds_toArray, List.set_cons_zero, List.set_cons_succ]
                    refine wpCalm_skip rfl rfl ?_
                    try simp only [Act.put, List.setIfInBounds_toArray, List.set_cons_zero, List.set_cons_succ]
                    refine wpCalm_skip rfl rfl ?_
                    try simp only [Act.put, List.setIfInBounds_toArray, List.set_cons_zero, List.set_cons_succ]
                    refine wpCalm_skip rfl rfl ?_
                    try simp only [Act.put, List.setIfInBounds_toArray, List.set_cons_zero, List.set_cons_succ]
                    refine wpCalm_skip rfl rfl ?_
                    try simp only [Act.put, List.setIfInBounds_toArray, List.set_cons_zero, List.set_cons_succ]
                    refine wpCalm_skip rfl rfl ?_
                    try simp only [Act.put, List.setIfInBounds_toArray, List.set_cons_zero, List.set_cons_succ]
                    refine wpCalm_skip rfl rfl ?_
                    try simp only [Act.put, List.setIfInBounds_toArray, List.set_cons_zero, List.set_cons_succ]
                    refine wpCalm_skip rfl rfl ?_
                    try simp only [Act.put, List.setIfInBounds_toArray, List.set_cons_zero, List.set_cons_succ]
                    refine wpCalm_value rfl rfl (.bool false) (fun W _ => by go_simp) ?_
                    try simp only [Act.put, List.setIfInBounds_toArray, List.set_cons_zero, List.set_cons_succ]
                    refine wpCalm_value rfl rfl (.bool false) (fun W _ => by go_simp) ?_
                    try simp only [Act.put, List.setIfInBounds_toArray, List.set_cons_zero, List.set_cons_succ]
                    refine wpCalm_nil ?_
                    intro W1 hb1
                    have HE1 := Lib.hid (HE.out.trans (hb1.mono hse))
                    clear hb1
                    go_wp2_with fail
                    go_roundw
                    case rel => exact ⟨j + 1, by omega, by rw [HFN.out, hf]; unfold sameB; rw [decide_eq_false (by have := HYM.out; omega)]; rfl, by go_num, HE1.out⟩
                    case measure => simp [intOf]; omega
              · obtain rfl : j = k := by omega
                have hl3 : decide ((j : Int) < (j : Int)) = false := by simp
                have HBE := Lib.hid (HB6.out.trans (HE.out.mono hs6))
                have HKE := Lib.hid (HK6.out.below HE.out)
                go_wp2_with fail
                refine (inkClash_any b _ _ _ HKE.out).mono ?_
                rintro _ _ ⟨rfl, rfl⟩
                rw [HCE.out]
                go_wp2_with fail
                go_roundw
                case rel => exact ⟨j + 1, by omega, by omega, by rw [HCE.out], by go_num, HKE.out, HBE.out⟩
                case measure => simp [intOf]; omega
        · obtain ⟨rfl, hd⟩ := HA.out.big (by have := HXM.out; omega)
          have hl : inkL xss (k + 1) = inkL xss k := by rw [inkL_next xss k hxk]; unfold noteInk; rw [if_neg (by rw [HX.out, HXM.out]; omega)]
          have HCE := Lib.hid (show clashB (inkL xss (k + 1)) = C by rw [hl, HCC.out])
          clear hl hd
          go_cut [4] (fun s4 wx => s4 = .bool C ∧ wx = W6)
          case first =>
            cases C with
            | true =>
              go_wp2_with fail
              go_meet
              exact ⟨rfl, rfl⟩
            | false =>
              go_wp2_with fail
              go_meet
              exact ⟨rfl, rfl⟩
          case rest =>
            obtain ⟨rfl, rfl⟩ := hcut
            go_wp2_with fail
            go_loopw [4, 8] (fun cv jv wr => cv = .bool C ∧ jv = .int .i64 0 ∧ wr = wc) (fun _ _ _ => 0)
            case atStart => exact ⟨rfl, rfl, rfl⟩
            case round =>
              obtain ⟨rfl, rfl, rfl⟩ := hrel
              by_cases h0 : 0 < k
              · have hl3 : decide ((0 : Int) < (k : Int)) = true := by simp; omega
                go_wp2_with fail
                refine (inkClash_any b _ _ _ HK6.out).mono ?_
                rintro _ _ ⟨rfl, rfl⟩
                rw [HCE.out]
                go_wp2_with fail
                go_roundw
                case rel => exact ⟨k + 1, by omega, by omega, by rw [HCE.out], by go_num, HK6.out, HB6.out⟩
                case measure => simp [intOf]; omega
              · have hl3 : decide ((0 : Int) < (k : Int)) = false := by simp; omega
                go_wp2_with fail
                refine (inkClash_any b _ _ _ HK6.out).mono ?_
                rintro _ _ ⟨rfl, rfl⟩
                rw [HCE.out]
                go_wp2_with fail
                go_roundw
                case rel => exact ⟨k + 1, by omega, by omega, by rw [HCE.out], by go_num, HK6.out, HB6.out⟩
                case measure => simp [intOf]; omega
      · rw [decide_eq_false hlt]
        clear hlt
        go_wp2_with fail
        go_ret
        exact ⟨rfl, HB.out⟩

end Go.Proofs.Ytmklppomcpimaaa
