/- Parts of the proof, in one text: AoC. -/
import Derived.Test.YtlaodmmjhjpfmaaGreatZ24
import Derived.Test.YtlaodmmjhjpfmaaGreatZ19

/- atlas.told: what a client's leaf says. -/
namespace Go.Proofs.YtlaodmmjhjpfmaaGreat
set_option linter.unusedVariables false
set_option linter.unusedSimpArgs false
open Go.RowKit Go.Maps

attribute [local irreducible] wpList wpCalm
def ToldPost (w : World) (B : Nat) (u : Value) (nl : List Int) (o : Option (Nat × Ans)) (e : Ending) (w' : World) : Prop :=
  Below w.heap.size w w' ∧ (o = none → ∃ D : Array Value, e = .returned (.tuple #[.agg D, .bool false]) ∧ D.size = 5 ∧ D.all (·.oneCell') = true) ∧
  ∀ x, o = some x → ∃ A c, e = .returned (.tuple #[.agg (lsC x.1 x.2 A c), .bool true]) ∧ (∀ W, OwnN W B u nl → Reads W W.heap.size 1 A x.2.nodes.length (x.2.nodes.map vn)) ∧ x.2.nodes.length ≤ c ∧ c ≤ maxLen ∧ ∀ a, 0 < x.2.nodes.length → A = some a → u.ownBlock = some a.block
theorem toldQ_bad {l : List Nat} (h : badT l) : toldQ l = none := if_pos h
theorem toldQ_good {l : List Nat} (h : ¬ badT l) : toldQ l = some (l.getD 0 0, ⟨l.getD 1 0, [], l.getD 2 0, nI (l.drop 4)⟩) := if_neg h
theorem told_info : (Tryz.prog.info? 144).map (·.size) = some zLastA.size := by kernel_rfl
theorem five_set {w wc : World} {g : Nat} {t : TypeId} {a b c d e : Value} (h : Blk wc g t #[a, b, c, d, e]) (hX : Below w.heap.size w wc) (hg : w.heap.size ≤ g) (a' b' c' d' e' : Value) (W : World) (hW : W = (((((wc.setCell ⟨g, 0, none⟩ a').setCell ⟨g, 1, none⟩ b').setCell ⟨g, 2, none⟩ c').setCell ⟨g, 3, none⟩ d').setCell ⟨g, 4, none⟩ e').drew) :
    Blk W g t #[a', b', c', d', e'] ∧ Below w.heap.size w W ∧ ∀ k, k ≠ g → W.heap[k]? = wc.heap[k]? := by
  obtain ⟨w1, e1⟩ : ∃ x, x = wc.setCell ⟨g, 0, none⟩ a' := ⟨_, rfl⟩
  obtain ⟨w2, e2⟩ : ∃ x, x = w1.setCell ⟨g, 1, none⟩ b' := ⟨_, rfl⟩
  obtain ⟨w3, e3⟩ : ∃ x, x = w2.setCell ⟨g, 2, none⟩ c' := ⟨_, rfl⟩
  obtain ⟨w4, e4⟩ : ∃ x, x = w3.setCell ⟨g, 3, none⟩ d' := ⟨_, rfl⟩
  obtain ⟨w5, e5⟩ : ∃ x, x = w4.setCell ⟨g, 4, none⟩ e' := ⟨_, rfl⟩
  have h1 : Blk w1 g t #[a', b, c, d, e] := e1 ▸ h.set_ 0 a'
  have h2 : Blk w2 g t #[a', b', c, d, e] := e2 ▸ h1.set_ 1 b'
  have h3 : Blk w3 g t #[a', b', c', d, e] := e3 ▸ h2.set_ 2 c'
  have h4 : Blk w4 g t #[a', b', c', d', e] := e4 ▸ h3.set_ 3 d'
  have h5 : Blk w5 g t #[a', b', c', d', e'] := e5 ▸ h4.set_ 4 e'
  have t1 : Turned g wc w1 := e1 ▸ Turned.setCell wc ⟨g, 0, none⟩ a'
  have t2 : Turned g w1 w2 := e2 ▸ Turned.setCell w1 ⟨g, 1, none⟩ b'
  have t3 : Turned g w2 w3 := e3 ▸ Turned.setCell w2 ⟨g, 2, none⟩ c'
  have t4 : Turned g w3 w4 := e4 ▸ Turned.setCell w3 ⟨g, 3, none⟩ d'
  have t5 : Turned g w4 w5 := e5 ▸ Turned.setCell w4 ⟨g, 4, none⟩ e'
  have hT := (((t1.trans t2).trans t3).trans t4).trans t5
  have hb := hT.below hX hg
  rw [← e1, ← e2, ← e3, ← e4, ← e5] at hW
  subst hW
  exact ⟨h5.drew, ⟨hb.os, hb.tape, hb.output, hb.size, hb.block⟩, fun k hk => hT.block k hk⟩
theorem lastD_spl (a b c d e a' b' c' d' e' : Value) : spl #[a, b, c, d, e] 0 (#[a', b', c', d', e'] : Array Value).toList = #[a', b', c', d', e'] := rfl

set_option maxRecDepth 100000 in
set_option maxHeartbeats 8000000 in
theorem atold_any (v : Value) (l : List Nat) (w : World) (B : Nat) (h : OwnN w B v (nI l)) (hl : l.length ≤ 1000000000000) (hm : ∀ x, x ∈ l → x ≤ maxN) :
    Calls Tryz.prog 107 #[v] w (ToldPost w B v (nI l) (toldQ l)) := by
  have hX := below_lit w (.cells zLastA 144)
  have hk0 : Blk (w.alloc (.cells zLastA 144)) w.heap.size 144 zLastA := Blk.newAt rfl
  have hZ : zLastA = #[.int .i64 0, .int .i64 0, .slice none 0 0, .int .i64 0, .slice none 0 0] := rfl
  have HX := Lib.hid hX
  have HK := Lib.hid hk0
  obtain ⟨o, ho⟩ : ∃ o, o = toldQ l := ⟨_, rfl⟩
  have HO := Lib.hid ho
  obtain ⟨g2, hg2⟩ : ∃ g, g = w.heap.size := ⟨_, rfl⟩
  have hgw : w.heap.size ≤ g2 := by omega
  obtain ⟨n, hn⟩ : ∃ n, n = l.length := ⟨_, rfl⟩
  have HN := Lib.hid hn
  rw [← ho]
  by_cases h4 : n < 4
  · have h4b : (n : Int) < 4 := by omega
    have hon : o = none := by rw [HO.out, toldQ_bad (.inl (by omega))]
    obtain ⟨A, c, hv, _⟩ := own_slice_n h
    rw [nI_len, ← hn] at hv
    subst hv
    subst hon
    clear h hm hX hk0 ho hn
    go_enter Tryz.func107, Tryz.ntmps107
    go_upto_region 1 with fail
    rw [← hZ]
    generalize World.alloc w _ = w1 at HX HK ⊢
    rw [← hg2] at HK ⊢
    have hlw := HK.out.lt
    clear hg2 hZ
    go_wp2_with (refine wpList_store_part (o := ⟨none, _, _, _, _, _⟩) rfl 144 (.tmp 2) (.tmp 24) rfl g2 0 zLastA rfl rfl 144 _ HK.out told_info (by simp [zLastA]) (by simp [zLastA, Value.oneCell']) ?_; intro w9 hT9 hD9)
    exact bodyPost_ret (results_part2 rfl _ _ g2 5 144 _ _ rfl hD9 Tryz.underlying144 rfl rfl rfl) rfl ⟨hT9.below HX.out hgw, fun _ => ⟨_, rfl, rfl, by simp [zLastA, spl, Value.oneCell']⟩, fun q hq => by cases hq⟩
  · have h4b : ¬ (n : Int) < 4 := by omega
    obtain ⟨g, c, rfl, hgB, hcc, hrd, hcell⟩ := own_cellsN h (by omega)
    have hcm : c ≤ maxLen := by
      obtain ⟨_, c', e, _, q, _⟩ := own_slice_n h
      injection e with _ _ e3
      rw [e3]; exact q
    have hgl : g < w.heap.size := (rowD_lt h (b := g) (by rfl)).2
    have c0 := (hX.cell (p := ⟨g, 0, none⟩) hgl).trans (hcell 0 (by omega))
    have c1 := (hX.cell (p := ⟨g, 1, none⟩) hgl).trans (hcell 1 (by omega))
    have c2 := (hX.cell (p := ⟨g, 2, none⟩) hgl).trans (hcell 2 (by omega))
    have c3 := (hX.cell (p := ⟨g, 3, none⟩) hgl).trans (hcell 3 (by omega))
    obtain ⟨l0, hl0⟩ : ∃ k, k = l.getD 0 0 := ⟨_, rfl⟩
    obtain ⟨l1, hl1⟩ : ∃ k, k = l.getD 1 0 := ⟨_, rfl⟩
    obtain ⟨l2, hl2⟩ : ∃ k, k = l.getD 2 0 := ⟨_, rfl⟩
    obtain ⟨l3, hl3⟩ : ∃ k, k = l.getD 3 0 := ⟨_, rfl⟩
    rw [← hl0] at c0
    rw [← hl1] at c1
    rw [← hl2] at c2
    rw [← hl3] at c3
    rw [← hn] at hcc hrd ⊢
    obtain ⟨ns, hns⟩ : ∃ k, k = nI (l.drop 4) := ⟨_, rfl⟩
    have hbd : badT l ↔ (l3 + 4 ≠ n ∨ 22 ≤ l2) ∨ ¬ (l1 = 0 ∨ l1 = 5 ∨ l1 = 180) ∨ (4 < n ∧ crewB ns = false) ∨ ¬ (0 < l0 ∨ (l1 = 0 ∧ l2 = 0 ∧ n = 4)) := by
      unfold badT
      rw [← hl0, ← hl1, ← hl2, ← hl3, ← hn, ← hns]
      constructor
      · rintro (q | q | q | q | q | q)
        · omega
        · exact .inl (.inl q)
        · exact .inl (.inr q)
        · exact .inr (.inl q)
        · exact .inr (.inr (.inl q))
        · exact .inr (.inr (.inr q))
      · rintro ((q | q) | q | q | q)
        · exact .inr (.inl q)
        · exact .inr (.inr (.inl q))
        · exact .inr (.inr (.inr (.inl q)))
        · exact .inr (.inr (.inr (.inr (.inl q))))
        · exact .inr (.inr (.inr (.inr (.inr q))))
    have HBD := Lib.hid hbd
    have HGD := Lib.hid (show ¬ badT l → o = some (l0, ⟨l1, [], l2, ns⟩) from fun hb => by rw [HO.out, toldQ_good hb, ← hl0, ← hl1, ← hl2, ← hns])
    have HRD := Lib.hid (fun (W : World) (hW : OwnN W B (.slice (some ⟨g, 0, none⟩) n c) (nI l)) => (own_reads hW).2)
    have HRW := Lib.hid (fun (W : World) (hb : Below w.heap.size w W) => (hrd.below hb).more hb.size)
    have hmn : ∀ z, z ∈ ns → I64 z := fun z hz => by
      rw [hns] at hz
      obtain ⟨k, hk, rfl⟩ := List.mem_map.1 hz
      have := hm k (List.mem_of_mem_drop hk)
      unfold maxN at this
      unfold I64; omega
    have HMN := Lib.hid hmn
    have b0 : l0 ≤ maxN := by rw [hl0, List.getD_eq_getElem?_getD, List.getElem?_eq_getElem (by omega)]; exact hm _ (List.getElem_mem _)
    have b1 : l1 ≤ maxN := by rw [hl1, List.getD_eq_getElem?_getD, List.getElem?_eq_getElem (by omega)]; exact hm _ (List.getElem_mem _)
    unfold maxN at b0 b1
    have hn12 : n ≤ 1000000000000 := by omega
    have HNS := Lib.hid hns
    have h0n : (0 : Int) < (n : Int) := by omega
    have h1n : (1 : Int) < (n : Int) := by omega
    have h2n : (2 : Int) < (n : Int) := by omega
    have h3n : (3 : Int) < (n : Int) := by omega
    have h0N : 0 < n := by omega
    have h1N : 1 < n := by omega
    have h2N : 2 < n := by omega
    have h3N : 3 < n := by omega
    clear h hm hX hk0 ho hn hbd hrd hcell hl0 hl1 hl2 hl3 hmn hns
    go_enter Tryz.func107, Tryz.ntmps107
    go_upto_region 1 with fail
    rw [← hZ]
    generalize World.alloc w _ = w1 at HX HK c0 c1 c2 c3 ⊢
    rw [← hg2] at HK ⊢
    have hlw := HK.out.lt
    have hX1 := HX.out.size
    clear hg2 hZ
    go_cut [23] (fun s23 wx => s23 = .bool (decide (l3 + 4 ≠ n ∨ 22 ≤ l2)) ∧ wx = w1)
    case first =>
      by_cases b3 : l3 + 4 = n
      · have b3b : ((l3 : Int) != (n : Int) - 4) = false := by simp; omega
        by_cases b2 : 22 ≤ l2
        · have b2b : (22 : Int) ≤ (l2 : Int) := by omega
          go_wp2_with fail
          go_meet
          exact ⟨by rw [decide_eq_true (.inr b2)], rfl⟩
        · have b2b : ¬ (22 : Int) ≤ (l2 : Int) := by omega
          go_wp2_with fail
          go_meet
          exact ⟨by rw [decide_eq_false (by omega)], rfl⟩
      · have b3b : ((l3 : Int) != (n : Int) - 4) = true := by simp; omega
        go_wp2_with fail
        go_meet
        exact ⟨by rw [decide_eq_true (.inl b3)], rfl⟩
    case rest =>
      obtain ⟨rfl, rfl⟩ := hcut
      by_cases hb1 : l3 + 4 ≠ n ∨ 22 ≤ l2
      · have hon : o = none := by rw [HO.out, toldQ_bad (HBD.out.2 (.inl hb1))]
        rw [decide_eq_true hb1]
        subst hon
        clear c0 c1 c2 c3
        go_wp2_with (refine wpList_store_part (o := ⟨none, _, _, _, _, _⟩) rfl 144 (.tmp 2) (.tmp 24) rfl g2 0 zLastA rfl rfl 144 _ HK.out told_info (by simp [zLastA]) (by simp [zLastA, Value.oneCell']) ?_; intro w9 hT9 hD9)
        exact bodyPost_ret (results_part2 rfl _ _ g2 5 144 _ _ rfl hD9 Tryz.underlying144 rfl rfl rfl) rfl ⟨hT9.below HX.out hgw, fun _ => ⟨_, rfl, rfl, by simp [zLastA, spl, Value.oneCell']⟩, fun q hq => by cases hq⟩
      · rw [decide_eq_false hb1]
        have hl22 : l2 ≤ 21 := by omega
        by_cases hb2 : l1 = 0 ∨ l1 = 5 ∨ l1 = 180
        · have HS1 := Lib.hid (fun (W : World) => run_slice_from (P := Tryz.prog) (t := 41) (e := 3) Tryz.underlying41 (by kernel_rfl) (some ⟨g, 0, none⟩) n c 4 4 rfl (by omega) W)
          have hr1 := fun W hW => (HRD.out W hW).sub (l := 4) (k := n) (cap := c) (by omega) (Nat.le_refl _) hcc
          have hr2 := fun W hb => (HRW.out W hb).sub (l := 4) (k := n) (cap := c) (by omega) (Nat.le_refl _) hcc
          obtain ⟨A1, hA1⟩ : ∃ A1, A1 = (if c = 4 then (some (⟨g, 0, none⟩ : Addr)) else (some (⟨g, 0, none⟩ : Addr)).map (·.add 4)) := ⟨_, rfl⟩
          simp only [Nat.mul_one] at hr1 hr2
          rw [← hA1] at HS1 hr1 hr2
          obtain ⟨m4, hm4⟩ : ∃ m4, m4 = n - 4 := ⟨_, rfl⟩
          obtain ⟨d4, hd4⟩ : ∃ d4, d4 = c - 4 := ⟨_, rfl⟩
          rw [← hm4] at HS1 hr1 hr2
          rw [← hd4] at HS1
          have e1 : (((nI l).map vn).drop 4).take m4 = ns.map vn := by
            rw [HNS.out]
            unfold nI
            rw [List.take_of_length_le (by simp only [List.length_drop, List.length_map]; rw [← HN.out]; omega)]
            simp only [List.map_drop]
          rw [e1] at hr1 hr2
          have hlen : ns.length = m4 := by rw [HNS.out, nI_len, List.length_drop, ← HN.out]; omega
          have hA1b : ∀ a, A1 = some a → a.block = g := fun a ha => by
            rw [hA1] at ha
            split at ha
            · rw [← Option.some.inj ha]
            · rw [← Option.some.inj ha]; exact block_of_add _ _
          have HR1 := Lib.hid hr1
          have HR2 := Lib.hid hr2
          have HLEN := Lib.hid hlen
          have HA1 := Lib.hid hA1b
          have hmd : m4 ≤ d4 := by omega
          have hdm : d4 ≤ maxLen := by omega
          have hn4 : n = 4 ↔ m4 = 0 := by omega
          have HN4 := Lib.hid hn4
          have hm41 : m4 ≤ 1000000000000 := by have := HN.out; omega
          clear hA1 hr1 hr2 e1 hlen hA1b hm4 hd4 hn4
          rcases hb2 with hl1 | hl1 | hl1
          · have hl1b : ((l1 : Int) == 0) = true := by simp [hl1]
            have HL1 := Lib.hid hl1
            clear hl1
            go_upto_region 9 with fail
            have hs1 := fun W => HS1.out W
            have k0 : wc.cell? ⟨g2, 0, none⟩ = some (.int .i64 0) := HK.out.cell 0
            have k1 : wc.cell? ⟨g2, 1, none⟩ = some (.int .i64 0) := HK.out.cell 1
            have k2 : wc.cell? ⟨g2, 2, none⟩ = some (.slice none 0 0) := HK.out.cell 2
            have k3 : wc.cell? ⟨g2, 3, none⟩ = some (.int .i64 0) := HK.out.cell 3
            have k4 : wc.cell? ⟨g2, 4, none⟩ = some (.slice none 0 0) := HK.out.cell 4
            have kf0 : wc.frozen? ⟨g2, 0, none⟩ = false := HK.out.frozen 0
            have kf1 : wc.frozen? ⟨g2, 1, none⟩ = false := HK.out.frozen 1
            have kf2 : wc.frozen? ⟨g2, 2, none⟩ = false := HK.out.frozen 2
            have kf3 : wc.frozen? ⟨g2, 3, none⟩ = false := HK.out.frozen 3
            have kf4 : wc.frozen? ⟨g2, 4, none⟩ = false := HK.out.frozen 4
            obtain ⟨hB9, hX9, hk9⟩ := five_set HK.out HX.out hgw (.int .i64 (l0 : Int)) (.int .i64 (l1 : Int)) (.slice none 0 0) (.int .i64 (l2 : Int)) (.slice A1 m4 d4) _ rfl
            have HBX := Lib.hid hB9
            have HXX := Lib.hid hX9
            have HKX := Lib.hid hk9
            clear hB9 hX9 hk9
            have C1 := Lib.hid ((World.cell?_of_block (a := ⟨g, 1, none⟩) (HKX.out g (by omega))).trans c1)
            have C2 := Lib.hid ((World.cell?_of_block (a := ⟨g, 2, none⟩) (HKX.out g (by omega))).trans c2)
            go_region
            generalize World.drew _ = w9 at HBX HXX HKX C1 C2 ⊢
            clear hs1 k0 k1 k2 k3 k4 kf0 kf1 kf2 kf3 kf4 c0 c1 c2 c3 HKX
            have hX9s := HXX.out.size
            have hl9 := HBX.out.lt
            have k4 : w9.cell? ⟨g2, 4, none⟩ = some (.slice A1 m4 d4) := HBX.out.cell 4
            by_cases m0 : m4 = 0
            · subst m0
              go_upto_region 13 with fail
              clear k4
              by_cases hl0 : 0 < l0
              · have hl0I : (0 : Int) < (l0 : Int) := by omega
                have k0 : w9.cell? ⟨g2, 0, none⟩ = some (.int .i64 (l0 : Int)) := HBX.out.cell 0
                have k1 : w9.cell? ⟨g2, 1, none⟩ = some (.int .i64 (l1 : Int)) := HBX.out.cell 1
                have k2 : w9.cell? ⟨g2, 2, none⟩ = some (.slice none 0 0) := HBX.out.cell 2
                have k3 : w9.cell? ⟨g2, 3, none⟩ = some (.int .i64 (l2 : Int)) := HBX.out.cell 3
                have k4 : w9.cell? ⟨g2, 4, none⟩ = some (.slice A1 0 d4) := HBX.out.cell 4
                have kf0 : w9.frozen? ⟨g2, 0, none⟩ = false := HBX.out.frozen 0
                have kf1 : w9.frozen? ⟨g2, 1, none⟩ = false := HBX.out.frozen 1
                have kf2 : w9.frozen? ⟨g2, 2, none⟩ = false := HBX.out.frozen 2
                have kf3 : w9.frozen? ⟨g2, 3, none⟩ = false := HBX.out.frozen 3
                have kf4 : w9.frozen? ⟨g2, 4, none⟩ = false := HBX.out.frozen 4
                have c1 := C1.out
                have c2 := C2.out
                obtain ⟨hB8, hX8, hk8⟩ := five_set HBX.out HXX.out hgw (.int .i64 (l0 : Int)) (.int .i64 (l1 : Int)) (.slice none 0 0) (.int .i64 (l2 : Int)) (.slice A1 0 d4) _ rfl
                have HB8 := Lib.hid hB8
                have HX8 := Lib.hid hX8
                have HK8 := Lib.hid hk8
                clear hB8 hX8 hk8
                go_upto_region 13 with fail
                go_region
                generalize World.drew _ = w8 at HB8 HX8 HK8 ⊢
                clear k0 k1 k2 k3 k4 kf0 kf1 kf2 kf3 kf4 c1 c2
                go_wp2_with fail
                refine bodyPost_ret (results_part2 rfl _ _ g2 5 144 _ _ rfl HB8.out Tryz.underlying144 rfl rfl rfl) rfl ?_
                have ho : o = some (l0, ⟨l1, [], l2, ns⟩) := HGD.out (fun hb => by
                  have := HBD.out.1 hb
                  rcases this with q | q | q | q
                  · exact hb1 q
                  · have := HL1.out; omega
                  · exact absurd q.1 (by have := HN4.out.2 (by simp); omega)
                  · exact q (.inl hl0))
                subst ho
                have hbl := HX8.out
                refine ⟨hbl, (fun q => by cases q), fun x hx => ?_⟩
                obtain rfl := Option.some.inj hx
                refine ⟨A1, d4, ?_, ?_, ?_, hdm, fun a h0 ha => ?_⟩
                · show _ = Ending.returned (.tuple #[.agg #[_, _, _, _, .slice A1 ns.length d4], .bool true])
                  rw [HLEN.out]
                  rfl
                · intro W hW
                  show Reads W _ 1 A1 ns.length (ns.map vn)
                  rw [HLEN.out]
                  exact HR1.out W hW
                · show ns.length ≤ d4
                  rw [HLEN.out]; exact hmd
                · rw [HA1.out a ha]; rfl
              · have hl0I : ¬ (0 : Int) < (l0 : Int) := by omega
                by_cases hl2 : l2 = 0
                · have hl2b : ((l2 : Int) == 0) = true := by simp [hl2]
                  have HL2 := Lib.hid hl2
                  clear hl2
                  have k0 : w9.cell? ⟨g2, 0, none⟩ = some (.int .i64 (l0 : Int)) := HBX.out.cell 0
                  have k1 : w9.cell? ⟨g2, 1, none⟩ = some (.int .i64 (l1 : Int)) := HBX.out.cell 1
                  have k2 : w9.cell? ⟨g2, 2, none⟩ = some (.slice none 0 0) := HBX.out.cell 2
                  have k3 : w9.cell? ⟨g2, 3, none⟩ = some (.int .i64 (l2 : Int)) := HBX.out.cell 3
                  have k4 : w9.cell? ⟨g2, 4, none⟩ = some (.slice A1 0 d4) := HBX.out.cell 4
                  have kf0 : w9.frozen? ⟨g2, 0, none⟩ = false := HBX.out.frozen 0
                  have kf1 : w9.frozen? ⟨g2, 1, none⟩ = false := HBX.out.frozen 1
                  have kf2 : w9.frozen? ⟨g2, 2, none⟩ = false := HBX.out.frozen 2
                  have kf3 : w9.frozen? ⟨g2, 3, none⟩ = false := HBX.out.frozen 3
                  have kf4 : w9.frozen? ⟨g2, 4, none⟩ = false := HBX.out.frozen 4
                  have c1 := C1.out
                  have c2 := C2.out
                  obtain ⟨hB8, hX8, hk8⟩ := five_set HBX.out HXX.out hgw (.int .i64 (l0 : Int)) (.int .i64 (l1 : Int)) (.slice none 0 0) (.int .i64 (l2 : Int)) (.slice A1 0 d4) _ rfl
                  have HB8 := Lib.hid hB8
                  have HX8 := Lib.hid hX8
                  have HK8 := Lib.hid hk8
                  clear hB8 hX8 hk8
                  go_upto_region 13 with fail
                  go_region
                  generalize World.drew _ = w8 at HB8 HX8 HK8 ⊢
                  clear k0 k1 k2 k3 k4 kf0 kf1 kf2 kf3 kf4 c1 c2
                  go_wp2_with fail
                  refine bodyPost_ret (results_part2 rfl _ _ g2 5 144 _ _ rfl HB8.out Tryz.underlying144 rfl rfl rfl) rfl ?_
                  have ho : o = some (l0, ⟨l1, [], l2, ns⟩) := HGD.out (fun hb => by
                    have := HBD.out.1 hb
                    rcases this with q | q | q | q
                    · exact hb1 q
                    · have := HL1.out; omega
                    · exact absurd q.1 (by have := HN4.out.2 (by simp); omega)
                    · exact q (.inr ⟨HL1.out, HL2.out, HN4.out.2 (by simp)⟩))
                  subst ho
                  have hbl := HX8.out
                  refine ⟨hbl, (fun q => by cases q), fun x hx => ?_⟩
                  obtain rfl := Option.some.inj hx
                  refine ⟨A1, d4, ?_, ?_, ?_, hdm, fun a h0 ha => ?_⟩
                  · show _ = Ending.returned (.tuple #[.agg #[_, _, _, _, .slice A1 ns.length d4], .bool true])
                    rw [HLEN.out]
                    rfl
                  · intro W hW
                    show Reads W _ 1 A1 ns.length (ns.map vn)
                    rw [HLEN.out]
                    exact HR1.out W hW
                  · show ns.length ≤ d4
                    rw [HLEN.out]; exact hmd
                  · rw [HA1.out a ha]; rfl
                · have hl2b : ((l2 : Int) == 0) = false := by simp [hl2]
                  have k0 : w9.cell? ⟨g2, 0, none⟩ = some (.int .i64 (l0 : Int)) := HBX.out.cell 0
                  have k1 : w9.cell? ⟨g2, 1, none⟩ = some (.int .i64 (l1 : Int)) := HBX.out.cell 1
                  have k2 : w9.cell? ⟨g2, 2, none⟩ = some (.slice none 0 0) := HBX.out.cell 2
                  have k3 : w9.cell? ⟨g2, 3, none⟩ = some (.int .i64 (l2 : Int)) := HBX.out.cell 3
                  have k4 : w9.cell? ⟨g2, 4, none⟩ = some (.slice A1 0 d4) := HBX.out.cell 4
                  have kf0 : w9.frozen? ⟨g2, 0, none⟩ = false := HBX.out.frozen 0
                  have kf1 : w9.frozen? ⟨g2, 1, none⟩ = false := HBX.out.frozen 1
                  have kf2 : w9.frozen? ⟨g2, 2, none⟩ = false := HBX.out.frozen 2
                  have kf3 : w9.frozen? ⟨g2, 3, none⟩ = false := HBX.out.frozen 3
                  have kf4 : w9.frozen? ⟨g2, 4, none⟩ = false := HBX.out.frozen 4
                  have c1 := C1.out
                  have c2 := C2.out
                  obtain ⟨hB8, hX8, hk8⟩ := five_set HBX.out HXX.out hgw (.int .i64 (l0 : Int)) (.int .i64 (l1 : Int)) (.slice none 0 0) (.int .i64 (l2 : Int)) (.slice A1 0 d4) _ rfl
                  have HB8 := Lib.hid hB8
                  have HX8 := Lib.hid hX8
                  have HK8 := Lib.hid hk8
                  clear hB8 hX8 hk8
                  go_upto_region 13 with fail
                  go_region
                  generalize World.drew _ = w8 at HB8 HX8 HK8 ⊢
                  clear k0 k1 k2 k3 k4 kf0 kf1 kf2 kf3 kf4 c1 c2
                  go_wp2_with fail
                  refine bodyPost_ret (results_part2 rfl _ _ g2 5 144 _ _ rfl HB8.out Tryz.underlying144 rfl rfl rfl) rfl ?_
                  have ho : o = none := by rw [HO.out, toldQ_bad (HBD.out.2 (.inr (.inr (.inr (fun q => by omega)))))]
                  subst ho
                  exact ⟨HX8.out, fun _ => ⟨_, rfl, rfl, by simp [Value.oneCell']⟩, fun q hq => by cases hq⟩
            · have hm4I : (0 : Int) < (m4 : Int) := by omega
              have hm40 : ((m4 : Int) == 0) = false := by simp [m0]
              have HCK := Lib.hid (check_any (parseWish 1 ns) none 0 0 A1 m4 d4 w9 w9.heap.size ⟨Reads.none_, by simp, by simp, HR2.out w9 HXX.out, by omega, by omega, ⟨by show I64 0; unfold I64; omega, by show I64 0; unfold I64; omega, by show I64 ((1 : Nat) : Int); unfold I64; omega, by show I64 0; unfold I64; omega, by show I64 5; unfold I64; omega, by show I64 0; unfold I64; omega, by show I64 0; unfold I64; omega, by show I64 0; unfold I64; omega, HMN.out⟩⟩ (Nat.le_refl _))
              rw [parseWish_may (by omega) (by omega)] at HCK
              obtain ⟨cb, hcb⟩ : ∃ b, b = crewB ns := ⟨_, rfl⟩
              rw [← hcb] at HCK
              have HCB := Lib.hid hcb.symm
              clear hcb
              unfold parseWish wCells at HCK
              go_wp2_with fail
              refine HCK.out.mono ?_
              rintro _ w10 ⟨rfl, hb10⟩
              have HB9' := Lib.hid (HBX.out.below' hb10)
              have HX9' := Lib.hid (HXX.out.trans (hb10.mono hX9s))
              have C1' := Lib.hid ((hb10.cell (p := ⟨g, 1, none⟩) (by show g < _; omega)).trans C1.out)
              have C2' := Lib.hid ((hb10.cell (p := ⟨g, 2, none⟩) (by show g < _; omega)).trans C2.out)
              clear hb10 HCK HBX HXX C1 C2 k4
              rename Hid (Blk w10 g2 144 _) => HBX
              rename Hid (Below w.heap.size w w10) => HXX
              rename Hid (w10.cell? ⟨g, 1, none⟩ = _) => C1
              rename Hid (w10.cell? ⟨g, 2, none⟩ = _) => C2
              cases cb with
              | true =>
                simp only [if_true]
                go_upto_region 13 with fail
                by_cases hl0 : 0 < l0
                · have hl0I : (0 : Int) < (l0 : Int) := by omega
                  have k0 : w10.cell? ⟨g2, 0, none⟩ = some (.int .i64 (l0 : Int)) := HBX.out.cell 0
                  have k1 : w10.cell? ⟨g2, 1, none⟩ = some (.int .i64 (l1 : Int)) := HBX.out.cell 1
                  have k2 : w10.cell? ⟨g2, 2, none⟩ = some (.slice none 0 0) := HBX.out.cell 2
                  have k3 : w10.cell? ⟨g2, 3, none⟩ = some (.int .i64 (l2 : Int)) := HBX.out.cell 3
                  have k4 : w10.cell? ⟨g2, 4, none⟩ = some (.slice A1 m4 d4) := HBX.out.cell 4
                  have kf0 : w10.frozen? ⟨g2, 0, none⟩ = false := HBX.out.frozen 0
                  have kf1 : w10.frozen? ⟨g2, 1, none⟩ = false := HBX.out.frozen 1
                  have kf2 : w10.frozen? ⟨g2, 2, none⟩ = false := HBX.out.frozen 2
                  have kf3 : w10.frozen? ⟨g2, 3, none⟩ = false := HBX.out.frozen 3
                  have kf4 : w10.frozen? ⟨g2, 4, none⟩ = false := HBX.out.frozen 4
                  have c1 := C1.out
                  have c2 := C2.out
                  obtain ⟨hB8, hX8, hk8⟩ := five_set HBX.out HXX.out hgw (.int .i64 (l0 : Int)) (.int .i64 (l1 : Int)) (.slice none 0 0) (.int .i64 (l2 : Int)) (.slice A1 m4 d4) _ rfl
                  have HB8 := Lib.hid hB8
                  have HX8 := Lib.hid hX8
                  have HK8 := Lib.hid hk8
                  clear hB8 hX8 hk8
                  go_upto_region 13 with fail
                  go_region
                  generalize World.drew _ = w8 at HB8 HX8 HK8 ⊢
                  clear k0 k1 k2 k3 k4 kf0 kf1 kf2 kf3 kf4 c1 c2
                  go_wp2_with fail
                  refine bodyPost_ret (results_part2 rfl _ _ g2 5 144 _ _ rfl HB8.out Tryz.underlying144 rfl rfl rfl) rfl ?_
                  have ho : o = some (l0, ⟨l1, [], l2, ns⟩) := HGD.out (fun hb => by
                    have := HBD.out.1 hb
                    rcases this with q | q | q | q
                    · exact hb1 q
                    · have := HL1.out; omega
                    · rw [HCB.out] at q; exact absurd q.2 (by simp)
                    · exact q (.inl hl0))
                  subst ho
                  have hbl := HX8.out
                  refine ⟨hbl, (fun q => by cases q), fun x hx => ?_⟩
                  obtain rfl := Option.some.inj hx
                  refine ⟨A1, d4, ?_, ?_, ?_, hdm, fun a h0 ha => ?_⟩
                  · show _ = Ending.returned (.tuple #[.agg #[_, _, _, _, .slice A1 ns.length d4], .bool true])
                    rw [HLEN.out]
                    rfl
                  · intro W hW
                    show Reads W _ 1 A1 ns.length (ns.map vn)
                    rw [HLEN.out]
                    exact HR1.out W hW
                  · show ns.length ≤ d4
                    rw [HLEN.out]; exact hmd
                  · rw [HA1.out a ha]; rfl
                · have hl0I : ¬ (0 : Int) < (l0 : Int) := by omega
                  by_cases hl2 : l2 = 0
                  · have hl2b : ((l2 : Int) == 0) = true := by simp [hl2]
                    have HL2 := Lib.hid hl2
                    clear hl2
                    have k0 : w10.cell? ⟨g2, 0, none⟩ = some (.int .i64 (l0 : Int)) := HBX.out.cell 0
                    have k1 : w10.cell? ⟨g2, 1, none⟩ = some (.int .i64 (l1 : Int)) := HBX.out.cell 1
                    have k2 : w10.cell? ⟨g2, 2, none⟩ = some (.slice none 0 0) := HBX.out.cell 2
                    have k3 : w10.cell? ⟨g2, 3, none⟩ = some (.int .i64 (l2 : Int)) := HBX.out.cell 3
                    have k4 : w10.cell? ⟨g2, 4, none⟩ = some (.slice A1 m4 d4) := HBX.out.cell 4
                    have kf0 : w10.frozen? ⟨g2, 0, none⟩ = false := HBX.out.frozen 0
                    have kf1 : w10.frozen? ⟨g2, 1, none⟩ = false := HBX.out.frozen 1
                    have kf2 : w10.frozen? ⟨g2, 2, none⟩ = false := HBX.out.frozen 2
                    have kf3 : w10.frozen? ⟨g2, 3, none⟩ = false := HBX.out.frozen 3
                    have kf4 : w10.frozen? ⟨g2, 4, none⟩ = false := HBX.out.frozen 4
                    have c1 := C1.out
                    have c2 := C2.out
                    obtain ⟨hB8, hX8, hk8⟩ := five_set HBX.out HXX.out hgw (.int .i64 (l0 : Int)) (.int .i64 (l1 : Int)) (.slice none 0 0) (.int .i64 (l2 : Int)) (.slice A1 m4 d4) _ rfl
                    have HB8 := Lib.hid hB8
                    have HX8 := Lib.hid hX8
                    have HK8 := Lib.hid hk8
                    clear hB8 hX8 hk8
                    go_upto_region 13 with fail
                    go_region
                    generalize World.drew _ = w8 at HB8 HX8 HK8 ⊢
                    clear k0 k1 k2 k3 k4 kf0 kf1 kf2 kf3 kf4 c1 c2
                    go_wp2_with fail
                    refine bodyPost_ret (results_part2 rfl _ _ g2 5 144 _ _ rfl HB8.out Tryz.underlying144 rfl rfl rfl) rfl ?_
                    have ho : o = none := by rw [HO.out, toldQ_bad (HBD.out.2 (.inr (.inr (.inr (fun q => by have := HN4.out; omega)))))]
                    subst ho
                    exact ⟨HX8.out, fun _ => ⟨_, rfl, rfl, by simp [Value.oneCell']⟩, fun q hq => by cases hq⟩
                  · have hl2b : ((l2 : Int) == 0) = false := by simp [hl2]
                    have k0 : w10.cell? ⟨g2, 0, none⟩ = some (.int .i64 (l0 : Int)) := HBX.out.cell 0
                    have k1 : w10.cell? ⟨g2, 1, none⟩ = some (.int .i64 (l1 : Int)) := HBX.out.cell 1
                    have k2 : w10.cell? ⟨g2, 2, none⟩ = some (.slice none 0 0) := HBX.out.cell 2
                    have k3 : w10.cell? ⟨g2, 3, none⟩ = some (.int .i64 (l2 : Int)) := HBX.out.cell 3
                    have k4 : w10.cell? ⟨g2, 4, none⟩ = some (.slice A1 m4 d4) := HBX.out.cell 4
                    have kf0 : w10.frozen? ⟨g2, 0, none⟩ = false := HBX.out.frozen 0
                    have kf1 : w10.frozen? ⟨g2, 1, none⟩ = false := HBX.out.frozen 1
                    have kf2 : w10.frozen? ⟨g2, 2, none⟩ = false := HBX.out.frozen 2
                    have kf3 : w10.frozen? ⟨g2, 3, none⟩ = false := HBX.out.frozen 3
                    have kf4 : w10.frozen? ⟨g2, 4, none⟩ = false := HBX.out.frozen 4
                    have c1 := C1.out
                    have c2 := C2.out
                    obtain ⟨hB8, hX8, hk8⟩ := five_set HBX.out HXX.out hgw (.int .i64 (l0 : Int)) (.int .i64 (l1 : Int)) (.slice none 0 0) (.int .i64 (l2 : Int)) (.slice A1 m4 d4) _ rfl
                    have HB8 := Lib.hid hB8
                    have HX8 := Lib.hid hX8
                    have HK8 := Lib.hid hk8
                    clear hB8 hX8 hk8
                    go_upto_region 13 with fail
                    go_region
                    generalize World.drew _ = w8 at HB8 HX8 HK8 ⊢
                    clear k0 k1 k2 k3 k4 kf0 kf1 kf2 kf3 kf4 c1 c2
                    go_wp2_with fail
                    refine bodyPost_ret (results_part2 rfl _ _ g2 5 144 _ _ rfl HB8.out Tryz.underlying144 rfl rfl rfl) rfl ?_
                    have ho : o = none := by rw [HO.out, toldQ_bad (HBD.out.2 (.inr (.inr (.inr (fun q => by omega)))))]
                    subst ho
                    exact ⟨HX8.out, fun _ => ⟨_, rfl, rfl, by simp [Value.oneCell']⟩, fun q hq => by cases hq⟩
              | false =>
                have ho : o = none := by rw [HO.out, toldQ_bad (HBD.out.2 (.inr (.inr (.inl ⟨by have := HN4.out; omega, HCB.out⟩))))]
                subst ho
                simp only [Bool.false_eq_true, if_false]
                go_wp2_with (refine wpList_store_part (o := ⟨none, _, _, _, _, _⟩) rfl 144 (.tmp 2) (.tmp 57) rfl g2 0 zLastA rfl rfl 144 _ HBX.out told_info (by simp [zLastA]) (by simp [zLastA, Value.oneCell']) ?_; intro w11 hT9 hD9)
                exact bodyPost_ret (results_part2 rfl _ _ g2 5 144 _ _ rfl hD9 Tryz.underlying144 rfl rfl rfl) rfl ⟨hT9.below HXX.out hgw, fun _ => ⟨_, rfl, rfl, by simp [zLastA, spl, Value.oneCell']⟩, fun q hq => by cases hq⟩
          · have hl1b : ((l1 : Int) == 5) = true := by simp [hl1]
            have hl1b0 : ((l1 : Int) == 0) = false := by simp [hl1]
            have HL1 := Lib.hid hl1
            clear hl1
            go_upto_region 9 with fail
            have hs1 := fun W => HS1.out W
            have k0 : wc.cell? ⟨g2, 0, none⟩ = some (.int .i64 0) := HK.out.cell 0
            have k1 : wc.cell? ⟨g2, 1, none⟩ = some (.int .i64 0) := HK.out.cell 1
            have k2 : wc.cell? ⟨g2, 2, none⟩ = some (.slice none 0 0) := HK.out.cell 2
            have k3 : wc.cell? ⟨g2, 3, none⟩ = some (.int .i64 0) := HK.out.cell 3
            have k4 : wc.cell? ⟨g2, 4, none⟩ = some (.slice none 0 0) := HK.out.cell 4
            have kf0 : wc.frozen? ⟨g2, 0, none⟩ = false := HK.out.frozen 0
            have kf1 : wc.frozen? ⟨g2, 1, none⟩ = false := HK.out.frozen 1
            have kf2 : wc.frozen? ⟨g2, 2, none⟩ = false := HK.out.frozen 2
            have kf3 : wc.frozen? ⟨g2, 3, none⟩ = false := HK.out.frozen 3
            have kf4 : wc.frozen? ⟨g2, 4, none⟩ = false := HK.out.frozen 4
            obtain ⟨hB9, hX9, hk9⟩ := five_set HK.out HX.out hgw (.int .i64 (l0 : Int)) (.int .i64 (l1 : Int)) (.slice none 0 0) (.int .i64 (l2 : Int)) (.slice A1 m4 d4) _ rfl
            have HBX := Lib.hid hB9
            have HXX := Lib.hid hX9
            have HKX := Lib.hid hk9
            clear hB9 hX9 hk9
            have C1 := Lib.hid ((World.cell?_of_block (a := ⟨g, 1, none⟩) (HKX.out g (by omega))).trans c1)
            have C2 := Lib.hid ((World.cell?_of_block (a := ⟨g, 2, none⟩) (HKX.out g (by omega))).trans c2)
            go_region
            generalize World.drew _ = w9 at HBX HXX HKX C1 C2 ⊢
            clear hs1 k0 k1 k2 k3 k4 kf0 kf1 kf2 kf3 kf4 c0 c1 c2 c3 HKX
            have hX9s := HXX.out.size
            have hl9 := HBX.out.lt
            have k4 : w9.cell? ⟨g2, 4, none⟩ = some (.slice A1 m4 d4) := HBX.out.cell 4
            by_cases m0 : m4 = 0
            · subst m0
              go_upto_region 13 with fail
              clear k4
              by_cases hl0 : 0 < l0
              · have hl0I : (0 : Int) < (l0 : Int) := by omega
                have k0 : w9.cell? ⟨g2, 0, none⟩ = some (.int .i64 (l0 : Int)) := HBX.out.cell 0
                have k1 : w9.cell? ⟨g2, 1, none⟩ = some (.int .i64 (l1 : Int)) := HBX.out.cell 1
                have k2 : w9.cell? ⟨g2, 2, none⟩ = some (.slice none 0 0) := HBX.out.cell 2
                have k3 : w9.cell? ⟨g2, 3, none⟩ = some (.int .i64 (l2 : Int)) := HBX.out.cell 3
                have k4 : w9.cell? ⟨g2, 4, none⟩ = some (.slice A1 0 d4) := HBX.out.cell 4
                have kf0 : w9.frozen? ⟨g2, 0, none⟩ = false := HBX.out.frozen 0
                have kf1 : w9.frozen? ⟨g2, 1, none⟩ = false := HBX.out.frozen 1
                have kf2 : w9.frozen? ⟨g2, 2, none⟩ = false := HBX.out.frozen 2
                have kf3 : w9.frozen? ⟨g2, 3, none⟩ = false := HBX.out.frozen 3
                have kf4 : w9.frozen? ⟨g2, 4, none⟩ = false := HBX.out.frozen 4
                have c1 := C1.out
                have c2 := C2.out
                obtain ⟨hB8, hX8, hk8⟩ := five_set HBX.out HXX.out hgw (.int .i64 (l0 : Int)) (.int .i64 (l1 : Int)) (.slice none 0 0) (.int .i64 (l2 : Int)) (.slice A1 0 d4) _ rfl
                have HB8 := Lib.hid hB8
                have HX8 := Lib.hid hX8
                have HK8 := Lib.hid hk8
                clear hB8 hX8 hk8
                go_upto_region 13 with fail
                go_region
                generalize World.drew _ = w8 at HB8 HX8 HK8 ⊢
                clear k0 k1 k2 k3 k4 kf0 kf1 kf2 kf3 kf4 c1 c2
                go_wp2_with fail
                refine bodyPost_ret (results_part2 rfl _ _ g2 5 144 _ _ rfl HB8.out Tryz.underlying144 rfl rfl rfl) rfl ?_
                have ho : o = some (l0, ⟨l1, [], l2, ns⟩) := HGD.out (fun hb => by
                  have := HBD.out.1 hb
                  rcases this with q | q | q | q
                  · exact hb1 q
                  · have := HL1.out; omega
                  · exact absurd q.1 (by have := HN4.out.2 (by simp); omega)
                  · exact q (.inl hl0))
                subst ho
                have hbl := HX8.out
                refine ⟨hbl, (fun q => by cases q), fun x hx => ?_⟩
                obtain rfl := Option.some.inj hx
                refine ⟨A1, d4, ?_, ?_, ?_, hdm, fun a h0 ha => ?_⟩
                · show _ = Ending.returned (.tuple #[.agg #[_, _, _, _, .slice A1 ns.length d4], .bool true])
                  rw [HLEN.out]
                  rfl
                · intro W hW
                  show Reads W _ 1 A1 ns.length (ns.map vn)
                  rw [HLEN.out]
                  exact HR1.out W hW
                · show ns.length ≤ d4
                  rw [HLEN.out]; exact hmd
                · rw [HA1.out a ha]; rfl
              · have hl0I : ¬ (0 : Int) < (l0 : Int) := by omega
                have k0 : w9.cell? ⟨g2, 0, none⟩ = some (.int .i64 (l0 : Int)) := HBX.out.cell 0
                have k1 : w9.cell? ⟨g2, 1, none⟩ = some (.int .i64 (l1 : Int)) := HBX.out.cell 1
                have k2 : w9.cell? ⟨g2, 2, none⟩ = some (.slice none 0 0) := HBX.out.cell 2
                have k3 : w9.cell? ⟨g2, 3, none⟩ = some (.int .i64 (l2 : Int)) := HBX.out.cell 3
                have k4 : w9.cell? ⟨g2, 4, none⟩ = some (.slice A1 0 d4) := HBX.out.cell 4
                have kf0 : w9.frozen? ⟨g2, 0, none⟩ = false := HBX.out.frozen 0
                have kf1 : w9.frozen? ⟨g2, 1, none⟩ = false := HBX.out.frozen 1
                have kf2 : w9.frozen? ⟨g2, 2, none⟩ = false := HBX.out.frozen 2
                have kf3 : w9.frozen? ⟨g2, 3, none⟩ = false := HBX.out.frozen 3
                have kf4 : w9.frozen? ⟨g2, 4, none⟩ = false := HBX.out.frozen 4
                have c1 := C1.out
                have c2 := C2.out
                obtain ⟨hB8, hX8, hk8⟩ := five_set HBX.out HXX.out hgw (.int .i64 (l0 : Int)) (.int .i64 (l1 : Int)) (.slice none 0 0) (.int .i64 (l2 : Int)) (.slice A1 0 d4) _ rfl
                have HB8 := Lib.hid hB8
                have HX8 := Lib.hid hX8
                have HK8 := Lib.hid hk8
                clear hB8 hX8 hk8
                go_upto_region 13 with fail
                go_region
                generalize World.drew _ = w8 at HB8 HX8 HK8 ⊢
                clear k0 k1 k2 k3 k4 kf0 kf1 kf2 kf3 kf4 c1 c2
                go_wp2_with fail
                refine bodyPost_ret (results_part2 rfl _ _ g2 5 144 _ _ rfl HB8.out Tryz.underlying144 rfl rfl rfl) rfl ?_
                have ho : o = none := by rw [HO.out, toldQ_bad (HBD.out.2 (.inr (.inr (.inr (fun q => by have := HL1.out; omega)))))]
                subst ho
                exact ⟨HX8.out, fun _ => ⟨_, rfl, rfl, by simp [Value.oneCell']⟩, fun q hq => by cases hq⟩
            · have hm4I : (0 : Int) < (m4 : Int) := by omega
              have hm40 : ((m4 : Int) == 0) = false := by simp [m0]
              have HCK := Lib.hid (check_any (parseWish 1 ns) none 0 0 A1 m4 d4 w9 w9.heap.size ⟨Reads.none_, by simp, by simp, HR2.out w9 HXX.out, by omega, by omega, ⟨by show I64 0; unfold I64; omega, by show I64 0; unfold I64; omega, by show I64 ((1 : Nat) : Int); unfold I64; omega, by show I64 0; unfold I64; omega, by show I64 5; unfold I64; omega, by show I64 0; unfold I64; omega, by show I64 0; unfold I64; omega, by show I64 0; unfold I64; omega, HMN.out⟩⟩ (Nat.le_refl _))
              rw [parseWish_may (by omega) (by omega)] at HCK
              obtain ⟨cb, hcb⟩ : ∃ b, b = crewB ns := ⟨_, rfl⟩
              rw [← hcb] at HCK
              have HCB := Lib.hid hcb.symm
              clear hcb
              unfold parseWish wCells at HCK
              go_wp2_with fail
              refine HCK.out.mono ?_
              rintro _ w10 ⟨rfl, hb10⟩
              have HB9' := Lib.hid (HBX.out.below' hb10)
              have HX9' := Lib.hid (HXX.out.trans (hb10.mono hX9s))
              have C1' := Lib.hid ((hb10.cell (p := ⟨g, 1, none⟩) (by show g < _; omega)).trans C1.out)
              have C2' := Lib.hid ((hb10.cell (p := ⟨g, 2, none⟩) (by show g < _; omega)).trans C2.out)
              clear hb10 HCK HBX HXX C1 C2 k4
              rename Hid (Blk w10 g2 144 _) => HBX
              rename Hid (Below w.heap.size w w10) => HXX
              rename Hid (w10.cell? ⟨g, 1, none⟩ = _) => C1
              rename Hid (w10.cell? ⟨g, 2, none⟩ = _) => C2
              cases cb with
              | true =>
                simp only [if_true]
                go_upto_region 13 with fail
                by_cases hl0 : 0 < l0
                · have hl0I : (0 : Int) < (l0 : Int) := by omega
                  have k0 : w10.cell? ⟨g2, 0, none⟩ = some (.int .i64 (l0 : Int)) := HBX.out.cell 0
                  have k1 : w10.cell? ⟨g2, 1, none⟩ = some (.int .i64 (l1 : Int)) := HBX.out.cell 1
                  have k2 : w10.cell? ⟨g2, 2, none⟩ = some (.slice none 0 0) := HBX.out.cell 2
                  have k3 : w10.cell? ⟨g2, 3, none⟩ = some (.int .i64 (l2 : Int)) := HBX.out.cell 3
                  have k4 : w10.cell? ⟨g2, 4, none⟩ = some (.slice A1 m4 d4) := HBX.out.cell 4
                  have kf0 : w10.frozen? ⟨g2, 0, none⟩ = false := HBX.out.frozen 0
                  have kf1 : w10.frozen? ⟨g2, 1, none⟩ = false := HBX.out.frozen 1
                  have kf2 : w10.frozen? ⟨g2, 2, none⟩ = false := HBX.out.frozen 2
                  have kf3 : w10.frozen? ⟨g2, 3, none⟩ = false := HBX.out.frozen 3
                  have kf4 : w10.frozen? ⟨g2, 4, none⟩ = false := HBX.out.frozen 4
                  have c1 := C1.out
                  have c2 := C2.out
                  obtain ⟨hB8, hX8, hk8⟩ := five_set HBX.out HXX.out hgw (.int .i64 (l0 : Int)) (.int .i64 (l1 : Int)) (.slice none 0 0) (.int .i64 (l2 : Int)) (.slice A1 m4 d4) _ rfl
                  have HB8 := Lib.hid hB8
                  have HX8 := Lib.hid hX8
                  have HK8 := Lib.hid hk8
                  clear hB8 hX8 hk8
                  go_upto_region 13 with fail
                  go_region
                  generalize World.drew _ = w8 at HB8 HX8 HK8 ⊢
                  clear k0 k1 k2 k3 k4 kf0 kf1 kf2 kf3 kf4 c1 c2
                  go_wp2_with fail
                  refine bodyPost_ret (results_part2 rfl _ _ g2 5 144 _ _ rfl HB8.out Tryz.underlying144 rfl rfl rfl) rfl ?_
                  have ho : o = some (l0, ⟨l1, [], l2, ns⟩) := HGD.out (fun hb => by
                    have := HBD.out.1 hb
                    rcases this with q | q | q | q
                    · exact hb1 q
                    · have := HL1.out; omega
                    · rw [HCB.out] at q; exact absurd q.2 (by simp)
                    · exact q (.inl hl0))
                  subst ho
                  have hbl := HX8.out
                  refine ⟨hbl, (fun q => by cases q), fun x hx => ?_⟩
                  obtain rfl := Option.some.inj hx
                  refine ⟨A1, d4, ?_, ?_, ?_, hdm, fun a h0 ha => ?_⟩
                  · show _ = Ending.returned (.tuple #[.agg #[_, _, _, _, .slice A1 ns.length d4], .bool true])
                    rw [HLEN.out]
                    rfl
                  · intro W hW
                    show Reads W _ 1 A1 ns.length (ns.map vn)
                    rw [HLEN.out]
                    exact HR1.out W hW
                  · show ns.length ≤ d4
                    rw [HLEN.out]; exact hmd
                  · rw [HA1.out a ha]; rfl
                · have hl0I : ¬ (0 : Int) < (l0 : Int) := by omega
                  have k0 : w10.cell? ⟨g2, 0, none⟩ = some (.int .i64 (l0 : Int)) := HBX.out.cell 0
                  have k1 : w10.cell? ⟨g2, 1, none⟩ = some (.int .i64 (l1 : Int)) := HBX.out.cell 1
                  have k2 : w10.cell? ⟨g2, 2, none⟩ = some (.slice none 0 0) := HBX.out.cell 2
                  have k3 : w10.cell? ⟨g2, 3, none⟩ = some (.int .i64 (l2 : Int)) := HBX.out.cell 3
                  have k4 : w10.cell? ⟨g2, 4, none⟩ = some (.slice A1 m4 d4) := HBX.out.cell 4
                  have kf0 : w10.frozen? ⟨g2, 0, none⟩ = false := HBX.out.frozen 0
                  have kf1 : w10.frozen? ⟨g2, 1, none⟩ = false := HBX.out.frozen 1
                  have kf2 : w10.frozen? ⟨g2, 2, none⟩ = false := HBX.out.frozen 2
                  have kf3 : w10.frozen? ⟨g2, 3, none⟩ = false := HBX.out.frozen 3
                  have kf4 : w10.frozen? ⟨g2, 4, none⟩ = false := HBX.out.frozen 4
                  have c1 := C1.out
                  have c2 := C2.out
                  obtain ⟨hB8, hX8, hk8⟩ := five_set HBX.out HXX.out hgw (.int .i64 (l0 : Int)) (.int .i64 (l1 : Int)) (.slice none 0 0) (.int .i64 (l2 : Int)) (.slice A1 m4 d4) _ rfl
                  have HB8 := Lib.hid hB8
                  have HX8 := Lib.hid hX8
                  have HK8 := Lib.hid hk8
                  clear hB8 hX8 hk8
                  go_upto_region 13 with fail
                  go_region
                  generalize World.drew _ = w8 at HB8 HX8 HK8 ⊢
                  clear k0 k1 k2 k3 k4 kf0 kf1 kf2 kf3 kf4 c1 c2
                  go_wp2_with fail
                  refine bodyPost_ret (results_part2 rfl _ _ g2 5 144 _ _ rfl HB8.out Tryz.underlying144 rfl rfl rfl) rfl ?_
                  have ho : o = none := by rw [HO.out, toldQ_bad (HBD.out.2 (.inr (.inr (.inr (fun q => by have := HL1.out; omega)))))]
                  subst ho
                  exact ⟨HX8.out, fun _ => ⟨_, rfl, rfl, by simp [Value.oneCell']⟩, fun q hq => by cases hq⟩
              | false =>
                have ho : o = none := by rw [HO.out, toldQ_bad (HBD.out.2 (.inr (.inr (.inl ⟨by have := HN4.out; omega, HCB.out⟩))))]
                subst ho
                simp only [Bool.false_eq_true, if_false]
                go_wp2_with (refine wpList_store_part (o := ⟨none, _, _, _, _, _⟩) rfl 144 (.tmp 2) (.tmp 57) rfl g2 0 zLastA rfl rfl 144 _ HBX.out told_info (by simp [zLastA]) (by simp [zLastA, Value.oneCell']) ?_; intro w11 hT9 hD9)
                exact bodyPost_ret (results_part2 rfl _ _ g2 5 144 _ _ rfl hD9 Tryz.underlying144 rfl rfl rfl) rfl ⟨hT9.below HXX.out hgw, fun _ => ⟨_, rfl, rfl, by simp [zLastA, spl, Value.oneCell']⟩, fun q hq => by cases hq⟩
          · have hl1b : ((l1 : Int) == 180) = true := by simp [hl1]
            have hl1b0 : ((l1 : Int) == 0) = false := by simp [hl1]
            have hl1b5 : ((l1 : Int) == 5) = false := by simp [hl1]
            have HL1 := Lib.hid hl1
            clear hl1
            go_upto_region 9 with fail
            have hs1 := fun W => HS1.out W
            have k0 : wc.cell? ⟨g2, 0, none⟩ = some (.int .i64 0) := HK.out.cell 0
            have k1 : wc.cell? ⟨g2, 1, none⟩ = some (.int .i64 0) := HK.out.cell 1
            have k2 : wc.cell? ⟨g2, 2, none⟩ = some (.slice none 0 0) := HK.out.cell 2
            have k3 : wc.cell? ⟨g2, 3, none⟩ = some (.int .i64 0) := HK.out.cell 3
            have k4 : wc.cell? ⟨g2, 4, none⟩ = some (.slice none 0 0) := HK.out.cell 4
            have kf0 : wc.frozen? ⟨g2, 0, none⟩ = false := HK.out.frozen 0
            have kf1 : wc.frozen? ⟨g2, 1, none⟩ = false := HK.out.frozen 1
            have kf2 : wc.frozen? ⟨g2, 2, none⟩ = false := HK.out.frozen 2
            have kf3 : wc.frozen? ⟨g2, 3, none⟩ = false := HK.out.frozen 3
            have kf4 : wc.frozen? ⟨g2, 4, none⟩ = false := HK.out.frozen 4
            obtain ⟨hB9, hX9, hk9⟩ := five_set HK.out HX.out hgw (.int .i64 (l0 : Int)) (.int .i64 (l1 : Int)) (.slice none 0 0) (.int .i64 (l2 : Int)) (.slice A1 m4 d4) _ rfl
            have HBX := Lib.hid hB9
            have HXX := Lib.hid hX9
            have HKX := Lib.hid hk9
            clear hB9 hX9 hk9
            have C1 := Lib.hid ((World.cell?_of_block (a := ⟨g, 1, none⟩) (HKX.out g (by omega))).trans c1)
            have C2 := Lib.hid ((World.cell?_of_block (a := ⟨g, 2, none⟩) (HKX.out g (by omega))).trans c2)
            go_region
            generalize World.drew _ = w9 at HBX HXX HKX C1 C2 ⊢
            clear hs1 k0 k1 k2 k3 k4 kf0 kf1 kf2 kf3 kf4 c0 c1 c2 c3 HKX
            have hX9s := HXX.out.size
            have hl9 := HBX.out.lt
            have k4 : w9.cell? ⟨g2, 4, none⟩ = some (.slice A1 m4 d4) := HBX.out.cell 4
            by_cases m0 : m4 = 0
            · subst m0
              go_upto_region 13 with fail
              clear k4
              by_cases hl0 : 0 < l0
              · have hl0I : (0 : Int) < (l0 : Int) := by omega
                have k0 : w9.cell? ⟨g2, 0, none⟩ = some (.int .i64 (l0 : Int)) := HBX.out.cell 0
                have k1 : w9.cell? ⟨g2, 1, none⟩ = some (.int .i64 (l1 : Int)) := HBX.out.cell 1
                have k2 : w9.cell? ⟨g2, 2, none⟩ = some (.slice none 0 0) := HBX.out.cell 2
                have k3 : w9.cell? ⟨g2, 3, none⟩ = some (.int .i64 (l2 : Int)) := HBX.out.cell 3
                have k4 : w9.cell? ⟨g2, 4, none⟩ = some (.slice A1 0 d4) := HBX.out.cell 4
                have kf0 : w9.frozen? ⟨g2, 0, none⟩ = false := HBX.out.frozen 0
                have kf1 : w9.frozen? ⟨g2, 1, none⟩ = false := HBX.out.frozen 1
                have kf2 : w9.frozen? ⟨g2, 2, none⟩ = false := HBX.out.frozen 2
                have kf3 : w9.frozen? ⟨g2, 3, none⟩ = false := HBX.out.frozen 3
                have kf4 : w9.frozen? ⟨g2, 4, none⟩ = false := HBX.out.frozen 4
                have c1 := C1.out
                have c2 := C2.out
                obtain ⟨hB8, hX8, hk8⟩ := five_set HBX.out HXX.out hgw (.int .i64 (l0 : Int)) (.int .i64 (l1 : Int)) (.slice none 0 0) (.int .i64 (l2 : Int)) (.slice A1 0 d4) _ rfl
                have HB8 := Lib.hid hB8
                have HX8 := Lib.hid hX8
                have HK8 := Lib.hid hk8
                clear hB8 hX8 hk8
                go_upto_region 13 with fail
                go_region
                generalize World.drew _ = w8 at HB8 HX8 HK8 ⊢
                clear k0 k1 k2 k3 k4 kf0 kf1 kf2 kf3 kf4 c1 c2
                go_wp2_with fail
                refine bodyPost_ret (results_part2 rfl _ _ g2 5 144 _ _ rfl HB8.out Tryz.underlying144 rfl rfl rfl) rfl ?_
                have ho : o = some (l0, ⟨l1, [], l2, ns⟩) := HGD.out (fun hb => by
                  have := HBD.out.1 hb
                  rcases this with q | q | q | q
                  · exact hb1 q
                  · have := HL1.out; omega
                  · exact absurd q.1 (by have := HN4.out.2 (by simp); omega)
                  · exact q (.inl hl0))
                subst ho
                have hbl := HX8.out
                refine ⟨hbl, (fun q => by cases q), fun x hx => ?_⟩
                obtain rfl := Option.some.inj hx
                refine ⟨A1, d4, ?_, ?_, ?_, hdm, fun a h0 ha => ?_⟩
                · show _ = Ending.returned (.tuple #[.agg #[_, _, _, _, .slice A1 ns.length d4], .bool true])
                  rw [HLEN.out]
                  rfl
                · intro W hW
                  show Reads W _ 1 A1 ns.length (ns.map vn)
                  rw [HLEN.out]
                  exact HR1.out W hW
                · show ns.length ≤ d4
                  rw [HLEN.out]; exact hmd
                · rw [HA1.out a ha]; rfl
              · have hl0I : ¬ (0 : Int) < (l0 : Int) := by omega
                have k0 : w9.cell? ⟨g2, 0, none⟩ = some (.int .i64 (l0 : Int)) := HBX.out.cell 0
                have k1 : w9.cell? ⟨g2, 1, none⟩ = some (.int .i64 (l1 : Int)) := HBX.out.cell 1
                have k2 : w9.cell? ⟨g2, 2, none⟩ = some (.slice none 0 0) := HBX.out.cell 2
                have k3 : w9.cell? ⟨g2, 3, none⟩ = some (.int .i64 (l2 : Int)) := HBX.out.cell 3
                have k4 : w9.cell? ⟨g2, 4, none⟩ = some (.slice A1 0 d4) := HBX.out.cell 4
                have kf0 : w9.frozen? ⟨g2, 0, none⟩ = false := HBX.out.frozen 0
                have kf1 : w9.frozen? ⟨g2, 1, none⟩ = false := HBX.out.frozen 1
                have kf2 : w9.frozen? ⟨g2, 2, none⟩ = false := HBX.out.frozen 2
                have kf3 : w9.frozen? ⟨g2, 3, none⟩ = false := HBX.out.frozen 3
                have kf4 : w9.frozen? ⟨g2, 4, none⟩ = false := HBX.out.frozen 4
                have c1 := C1.out
                have c2 := C2.out
                obtain ⟨hB8, hX8, hk8⟩ := five_set HBX.out HXX.out hgw (.int .i64 (l0 : Int)) (.int .i64 (l1 : Int)) (.slice none 0 0) (.int .i64 (l2 : Int)) (.slice A1 0 d4) _ rfl
                have HB8 := Lib.hid hB8
                have HX8 := Lib.hid hX8
                have HK8 := Lib.hid hk8
                clear hB8 hX8 hk8
                go_upto_region 13 with fail
                go_region
                generalize World.drew _ = w8 at HB8 HX8 HK8 ⊢
                clear k0 k1 k2 k3 k4 kf0 kf1 kf2 kf3 kf4 c1 c2
                go_wp2_with fail
                refine bodyPost_ret (results_part2 rfl _ _ g2 5 144 _ _ rfl HB8.out Tryz.underlying144 rfl rfl rfl) rfl ?_
                have ho : o = none := by rw [HO.out, toldQ_bad (HBD.out.2 (.inr (.inr (.inr (fun q => by have := HL1.out; omega)))))]
                subst ho
                exact ⟨HX8.out, fun _ => ⟨_, rfl, rfl, by simp [Value.oneCell']⟩, fun q hq => by cases hq⟩
            · have hm4I : (0 : Int) < (m4 : Int) := by omega
              have hm40 : ((m4 : Int) == 0) = false := by simp [m0]
              have HCK := Lib.hid (check_any (parseWish 1 ns) none 0 0 A1 m4 d4 w9 w9.heap.size ⟨Reads.none_, by simp, by simp, HR2.out w9 HXX.out, by omega, by omega, ⟨by show I64 0; unfold I64; omega, by show I64 0; unfold I64; omega, by show I64 ((1 : Nat) : Int); unfold I64; omega, by show I64 0; unfold I64; omega, by show I64 5; unfold I64; omega, by show I64 0; unfold I64; omega, by show I64 0; unfold I64; omega, by show I64 0; unfold I64; omega, HMN.out⟩⟩ (Nat.le_refl _))
              rw [parseWish_may (by omega) (by omega)] at HCK
              obtain ⟨cb, hcb⟩ : ∃ b, b = crewB ns := ⟨_, rfl⟩
              rw [← hcb] at HCK
              have HCB := Lib.hid hcb.symm
              clear hcb
              unfold parseWish wCells at HCK
              go_wp2_with fail
              refine HCK.out.mono ?_
              rintro _ w10 ⟨rfl, hb10⟩
              have HB9' := Lib.hid (HBX.out.below' hb10)
              have HX9' := Lib.hid (HXX.out.trans (hb10.mono hX9s))
              have C1' := Lib.hid ((hb10.cell (p := ⟨g, 1, none⟩) (by show g < _; omega)).trans C1.out)
              have C2' := Lib.hid ((hb10.cell (p := ⟨g, 2, none⟩) (by show g < _; omega)).trans C2.out)
              clear hb10 HCK HBX HXX C1 C2 k4
              rename Hid (Blk w10 g2 144 _) => HBX
              rename Hid (Below w.heap.size w w10) => HXX
              rename Hid (w10.cell? ⟨g, 1, none⟩ = _) => C1
              rename Hid (w10.cell? ⟨g, 2, none⟩ = _) => C2
              cases cb with
              | true =>
                simp only [if_true]
                go_upto_region 13 with fail
                by_cases hl0 : 0 < l0
                · have hl0I : (0 : Int) < (l0 : Int) := by omega
                  have k0 : w10.cell? ⟨g2, 0, none⟩ = some (.int .i64 (l0 : Int)) := HBX.out.cell 0
                  have k1 : w10.cell? ⟨g2, 1, none⟩ = some (.int .i64 (l1 : Int)) := HBX.out.cell 1
                  have k2 : w10.cell? ⟨g2, 2, none⟩ = some (.slice none 0 0) := HBX.out.cell 2
                  have k3 : w10.cell? ⟨g2, 3, none⟩ = some (.int .i64 (l2 : Int)) := HBX.out.cell 3
                  have k4 : w10.cell? ⟨g2, 4, none⟩ = some (.slice A1 m4 d4) := HBX.out.cell 4
                  have kf0 : w10.frozen? ⟨g2, 0, none⟩ = false := HBX.out.frozen 0
                  have kf1 : w10.frozen? ⟨g2, 1, none⟩ = false := HBX.out.frozen 1
                  have kf2 : w10.frozen? ⟨g2, 2, none⟩ = false := HBX.out.frozen 2
                  have kf3 : w10.frozen? ⟨g2, 3, none⟩ = false := HBX.out.frozen 3
                  have kf4 : w10.frozen? ⟨g2, 4, none⟩ = false := HBX.out.frozen 4
                  have c1 := C1.out
                  have c2 := C2.out
                  obtain ⟨hB8, hX8, hk8⟩ := five_set HBX.out HXX.out hgw (.int .i64 (l0 : Int)) (.int .i64 (l1 : Int)) (.slice none 0 0) (.int .i64 (l2 : Int)) (.slice A1 m4 d4) _ rfl
                  have HB8 := Lib.hid hB8
                  have HX8 := Lib.hid hX8
                  have HK8 := Lib.hid hk8
                  clear hB8 hX8 hk8
                  go_upto_region 13 with fail
                  go_region
                  generalize World.drew _ = w8 at HB8 HX8 HK8 ⊢
                  clear k0 k1 k2 k3 k4 kf0 kf1 kf2 kf3 kf4 c1 c2
                  go_wp2_with fail
                  refine bodyPost_ret (results_part2 rfl _ _ g2 5 144 _ _ rfl HB8.out Tryz.underlying144 rfl rfl rfl) rfl ?_
                  have ho : o = some (l0, ⟨l1, [], l2, ns⟩) := HGD.out (fun hb => by
                    have := HBD.out.1 hb
                    rcases this with q | q | q | q
                    · exact hb1 q
                    · have := HL1.out; omega
                    · rw [HCB.out] at q; exact absurd q.2 (by simp)
                    · exact q (.inl hl0))
                  subst ho
                  have hbl := HX8.out
                  refine ⟨hbl, (fun q => by cases q), fun x hx => ?_⟩
                  obtain rfl := Option.some.inj hx
                  refine ⟨A1, d4, ?_, ?_, ?_, hdm, fun a h0 ha => ?_⟩
                  · show _ = Ending.returned (.tuple #[.agg #[_, _, _, _, .slice A1 ns.length d4], .bool true])
                    rw [HLEN.out]
                    rfl
                  · intro W hW
                    show Reads W _ 1 A1 ns.length (ns.map vn)
                    rw [HLEN.out]
                    exact HR1.out W hW
                  · show ns.length ≤ d4
                    rw [HLEN.out]; exact hmd
                  · rw [HA1.out a ha]; rfl
                · have hl0I : ¬ (0 : Int) < (l0 : Int) := by omega
                  have k0 : w10.cell? ⟨g2, 0, none⟩ = some (.int .i64 (l0 : Int)) := HBX.out.cell 0
                  have k1 : w10.cell? ⟨g2, 1, none⟩ = some (.int .i64 (l1 : Int)) := HBX.out.cell 1
                  have k2 : w10.cell? ⟨g2, 2, none⟩ = some (.slice none 0 0) := HBX.out.cell 2
                  have k3 : w10.cell? ⟨g2, 3, none⟩ = some (.int .i64 (l2 : Int)) := HBX.out.cell 3
                  have k4 : w10.cell? ⟨g2, 4, none⟩ = some (.slice A1 m4 d4) := HBX.out.cell 4
                  have kf0 : w10.frozen? ⟨g2, 0, none⟩ = false := HBX.out.frozen 0
                  have kf1 : w10.frozen? ⟨g2, 1, none⟩ = false := HBX.out.frozen 1
                  have kf2 : w10.frozen? ⟨g2, 2, none⟩ = false := HBX.out.frozen 2
                  have kf3 : w10.frozen? ⟨g2, 3, none⟩ = false := HBX.out.frozen 3
                  have kf4 : w10.frozen? ⟨g2, 4, none⟩ = false := HBX.out.frozen 4
                  have c1 := C1.out
                  have c2 := C2.out
                  obtain ⟨hB8, hX8, hk8⟩ := five_set HBX.out HXX.out hgw (.int .i64 (l0 : Int)) (.int .i64 (l1 : Int)) (.slice none 0 0) (.int .i64 (l2 : Int)) (.slice A1 m4 d4) _ rfl
                  have HB8 := Lib.hid hB8
                  have HX8 := Lib.hid hX8
                  have HK8 := Lib.hid hk8
                  clear hB8 hX8 hk8
                  go_upto_region 13 with fail
                  go_region
                  generalize World.drew _ = w8 at HB8 HX8 HK8 ⊢
                  clear k0 k1 k2 k3 k4 kf0 kf1 kf2 kf3 kf4 c1 c2
                  go_wp2_with fail
                  refine bodyPost_ret (results_part2 rfl _ _ g2 5 144 _ _ rfl HB8.out Tryz.underlying144 rfl rfl rfl) rfl ?_
                  have ho : o = none := by rw [HO.out, toldQ_bad (HBD.out.2 (.inr (.inr (.inr (fun q => by have := HL1.out; omega)))))]
                  subst ho
                  exact ⟨HX8.out, fun _ => ⟨_, rfl, rfl, by simp [Value.oneCell']⟩, fun q hq => by cases hq⟩
              | false =>
                have ho : o = none := by rw [HO.out, toldQ_bad (HBD.out.2 (.inr (.inr (.inl ⟨by have := HN4.out; omega, HCB.out⟩))))]
                subst ho
                simp only [Bool.false_eq_true, if_false]
                go_wp2_with (refine wpList_store_part (o := ⟨none, _, _, _, _, _⟩) rfl 144 (.tmp 2) (.tmp 57) rfl g2 0 zLastA rfl rfl 144 _ HBX.out told_info (by simp [zLastA]) (by simp [zLastA, Value.oneCell']) ?_; intro w11 hT9 hD9)
                exact bodyPost_ret (results_part2 rfl _ _ g2 5 144 _ _ rfl hD9 Tryz.underlying144 rfl rfl rfl) rfl ⟨hT9.below HXX.out hgw, fun _ => ⟨_, rfl, rfl, by simp [zLastA, spl, Value.oneCell']⟩, fun q hq => by cases hq⟩
        · have hon : o = none := by rw [HO.out, toldQ_bad (HBD.out.2 (.inr (.inl hb2)))]
          have d0 : ((l1 : Int) == 0) = false := by simp; omega
          have d5 : ((l1 : Int) == 5) = false := by simp; omega
          have d180 : ((l1 : Int) == 180) = false := by simp; omega
          subst hon
          go_wp2_with (refine wpList_store_part (o := ⟨none, _, _, _, _, _⟩) rfl 144 (.tmp 2) (.tmp 29) rfl g2 0 zLastA rfl rfl 144 _ HK.out told_info (by simp [zLastA]) (by simp [zLastA, Value.oneCell']) ?_; intro w11 hT9 hD9)
          exact bodyPost_ret (results_part2 rfl _ _ g2 5 144 _ _ rfl hD9 Tryz.underlying144 rfl rfl rfl) rfl ⟨hT9.below HX.out hgw, fun _ => ⟨_, rfl, rfl, by simp [zLastA, spl, Value.oneCell']⟩, fun q hq => by cases hq⟩

end Go.Proofs.YtlaodmmjhjpfmaaGreat
