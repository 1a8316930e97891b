/- Parts of the proof, in one text: VaultN, VaultQ, VaultR, VaultW, VaultT, Wanted. -/
import Derived.Test.YtcpngeiahgoacaaGreatZ20
import Derived.BigRegion
import Derived.Test.YtcpngeiahgoacaaGreatZ14
import Derived.Test.YtcpngeiahgoacaaGreatZ13
import Derived.Test.YtcpngeiahgoacaaGreatZ6
import Derived.Test.YtcpngeiahgoacaaGreatZ1

/- Contract of a vault's Do. -/
namespace Go.Proofs.YtcpngeiahgoacaaGreat
set_option linter.unusedVariables false
open Go.RowKit Go.Maps

attribute [local irreducible] wpList
set_option maxRecDepth 100000 in
set_option maxHeartbeats 16000000 in
theorem vDo_any (w : World) (V : VLoc) (N : Nat → Prop) (m : VM) (L : List (List UInt8)) (asked : Nat) (h : VAt w V N m) (hN : ∀ b, N b → b < w.heap.size) (hbk : BookAt w V.k L asked) (hin : InBook L (leavesV m)) (has : asked ≤ 700000)
    (x : Wish) (A : Option Addr) (n c : Nat) (A' : Option Addr) (n' c' : Nat) (B : Nat) (hx : WishIn w B x A n c A' n' c') (hB : B ≤ w.heap.size) (hap : ∀ a, 0 < n → A = some a → a.block ≠ V.g) :
    Calls Tryz.prog 20 #[.pointer (some ⟨V.g, 0, none⟩), .agg (wCells x A n c A' n' c')] w (DoPost w V N L asked (doV m x)) := by
  by_cases hlate : mayB x = true ∧ x.group = (m.group : Int) ∧ x.kind ≠ 5 ∧ oldV m x = none
  · exact vDo_late w V N m L asked h hN hbk hin has x A n c A' n' c' B hx hB hap hlate.1 hlate.2.1 hlate.2.2.1 hlate.2.2.2
  obtain ⟨S, hd⟩ := h.dat
  have hX : Below w.heap.size w ((w.alloc (.cells (wCells x A n c A' n' c') 44)).alloc (.cells (aC 0 none 0 0 0) 47)) := ((Below.refl _ _).alloc (Nat.le_refl _) _).alloc (by simp) _
  have k3 : Blk ((w.alloc (.cells (wCells x A n c A' n' c') 44)).alloc (.cells (aC 0 none 0 0 0) 47)) w.heap.size 44 (wCells x A n c A' n' c') := (Blk.newAt rfl).alloc _
  have k4 : Blk ((w.alloc (.cells (wCells x A n c A' n' c') 44)).alloc (.cells (aC 0 none 0 0 0) 47)) (w.heap.size + 1) 47 (aC 0 none 0 0 0) := Blk.newAt (by simp)
  have hz1 : ((w.alloc (.cells (wCells x A n c A' n' c') 44)).alloc (.cells (aC 0 none 0 0 0) 47)).heap.size = w.heap.size + 2 := by simp
  have hZ : aC 0 none 0 0 0 = #[.int .i64 0, .slice none 0 0, .int .i64 0, .slice none 0 0] := rfl
  have lg := hd.blk.lt
  have hgr := hd.ok.group
  have HV := Lib.hid h
  have HD := Lib.hid hd
  have HBK := Lib.hid hbk
  have HIN := Lib.hid hin
  have HNN := Lib.hid hN
  have HXW := Lib.hid hx
  have HAP := Lib.hid hap
  have HX := Lib.hid hX
  have K3 := Lib.hid k3
  have K4 := Lib.hid k4
  have HZ1 := Lib.hid hz1
  obtain ⟨g3, hg3⟩ : ∃ b, b = w.heap.size := ⟨_, rfl⟩
  obtain ⟨g4, hg4⟩ : ∃ b, b = w.heap.size + 1 := ⟨_, rfl⟩
  obtain ⟨p, hp⟩ : ∃ p, p = doV m x := ⟨_, rfl⟩
  rw [← hp]
  have HP := Lib.hid hp
  clear h hd hbk hin hN hx hX k3 k4 hz1 hap hp
  go_enter Tryz.func20, Tryz.ntmps20
  go_upto_region 1 with fail
  rw [← hZ]
  generalize World.alloc (World.alloc w _) _ = w1 at HX K3 K4 HZ1 ⊢
  rw [← hg4] at K4 ⊢
  rw [← hg3] at K3 ⊢
  have hz1 := HZ1.out
  have hgw3 : w.heap.size ≤ g3 := by omega
  have hgw4 : w.heap.size ≤ g4 := by omega
  have hg34 : g3 ≠ g4 := by omega
  have hw1 : w.heap.size ≤ w1.heap.size := by omega
  have hl3 := K3.out.lt
  have hl4 := K4.out.lt
  have hv1 := HV.out.below HX.out
  have HNO := Lib.hid (vNone_any w1 V.g V.T.t hv1.none_)
  have HCK0 := Lib.hid (fun (W : World) (hb : Below w1.heap.size w1 W) => check_any x A n c A' n' c' W B (HXW.out.below ((HX.out.trans (hb.mono hw1)).mono hB)) (by have := hb.size; omega))
  have c32 : ∀ W, Below w1.heap.size w1 W → W.cell? ⟨g3, 2, none⟩ = some (.int .i64 x.group) := fun W hb => ((K3.out.below' hb).cell 2).trans (rfl : (wCells x A n c A' n' c')[2]? = some (.int .i64 x.group))
  have cg := fun (W : World) (hb : Below w1.heap.size w1 W) => ((HD.out.below HX.out).below hb).cGroup
  have C32 := Lib.hid c32
  have CG := Lib.hid cg
  clear hg3 hg4 HZ1 hz1 hZ hv1 c32 cg
  go_wp2_with fail
  refine HNO.out.mono ?_
  rintro _ _ ⟨rfl, rfl⟩
  go_upto_region 3 with fail
  clear HNO
  cases hmb : mayB x with
  | false =>
    have hpp : p = (m, okA, 2) := by rw [HP.out]; unfold doV inV; rw [hmb]; simp
    subst hpp
    have HCK := Lib.hid (show ∀ W, Below w1.heap.size w1 W → Calls Tryz.prog 77 #[.agg (wCells x A n c A' n' c')] W fun e w' => e = .returned (.int .i64 2) ∧ Below W.heap.size W w' from fun W hb => by have h := HCK0.out W hb; rw [hmb] at h; exact h)
    clear hmb HCK0
    refine wp_region_calm0 12 109 (by kernel_rfl) (by kernel_rfl) (by kernel_rfl) (by simp) ?_
    simp only [List.take_succ_cons, List.take_zero, List.drop_succ_cons, List.drop_zero]
    refine wpCalm_load_part rfl 44 (.tmp 3) rfl g3 0 10 rfl 44 _ (wCells x A n c A' n' c') _ K3.out Tryz.underlying44 rfl rfl rfl (fun _ _ => by rw [Nat.zero_add]) ?_
    try simp only [Act.put, List.setIfInBounds_toArray, List.set_cons_zero, List.set_cons_succ]
    refine wpCalm_call rfl rfl 77 #[.agg (wCells x A n c A' n' c')] (fun W => by go_simp) (.int .i64 2) (fun W hb => HCK.out W hb) ?_
    try simp only [Act.put, List.setIfInBounds_toArray, List.set_cons_zero, List.set_cons_succ]
    refine wpCalm_value rfl rfl (.bool true) (fun W _ => by go_simp) ?_
    try simp only [Act.put, List.setIfInBounds_toArray, List.set_cons_zero, List.set_cons_succ]
    refine wpCalm_value rfl rfl (.bool true) (fun W _ => rfl) ?_
    try simp only [Act.put, List.setIfInBounds_toArray, List.set_cons_zero, List.set_cons_succ]
    refine wpCalm_skip rfl rfl ?_
    try simp only [Act.put, List.setIfInBounds_toArray, List.set_cons_zero, List.set_cons_succ]
    refine wpCalm_skip rfl rfl ?_
    try simp only [Act.put, List.setIfInBounds_toArray, List.set_cons_zero, List.set_cons_succ]
    refine wpCalm_skip rfl rfl ?_
    try simp only [Act.put, List.setIfInBounds_toArray, List.set_cons_zero, List.set_cons_succ]
    refine wpCalm_skip rfl rfl ?_
    try simp only [Act.put, List.setIfInBounds_toArray, List.set_cons_zero, List.set_cons_succ]
    refine wpCalm_skip rfl rfl ?_
    try simp only [Act.put, List.setIfInBounds_toArray, List.set_cons_zero, List.set_cons_succ]
    refine wpCalm_skip rfl rfl ?_
    try simp only [Act.put, List.setIfInBounds_toArray, List.set_cons_zero, List.set_cons_succ]
    refine wpCalm_skip rfl rfl ?_
    try simp only [Act.put, List.setIfInBounds_toArray, List.set_cons_zero, List.set_cons_succ]
    refine wpCalm_value rfl rfl (.bool true) (fun W _ => by go_simp) ?_
    try simp only [Act.put, List.setIfInBounds_toArray, List.set_cons_zero, List.set_cons_succ]
    refine wpCalm_nil ?_
    intro w2 hb2
    have K42 := Lib.hid (K4.out.below' hb2)
    have HX2 := Lib.hid (HX.out.trans (hb2.mono hw1))
    clear hb2
    go_wp2_with (refine wpList_store_part (o := ⟨none, _, _, _, _, _⟩) rfl 47 (.tmp 4) (.tmp 28) rfl g4 0 (aC 0 none 0 0 0) rfl rfl 47 _ K42.out (aC_info _ _ _ _ _) (by simp [aC]) (aC_one _ _ _ _ _) ?_; intro w9 hT9 hD9; rw [aC_spl] at hD9)
    refine bodyPost_ret (results_part2 rfl _ _ g4 4 47 _ _ rfl hD9 Tryz.underlying47 rfl rfl rfl) rfl ⟨_, rfl, ⟨none, 0, rfl, OwnB.nil _ _⟩, VDone.same HV.out HBK.out HIN.out (hT9.below HX2.out hgw4)⟩
  | true =>
    have HCK := Lib.hid (show ∀ W, Below w1.heap.size w1 W → Calls Tryz.prog 77 #[.agg (wCells x A n c A' n' c')] W fun e w' => e = .returned (.int .i64 0) ∧ Below W.heap.size W w' from fun W hb => by have h := HCK0.out W hb; rw [hmb] at h; exact h)
    have HMB := Lib.hid hmb
    clear hmb HCK0
    have c32 := C32.out
    have cg := CG.out
    by_cases hgq : x.group = (m.group : Int)
    · have hgb : (x.group != (m.group : Int)) = false := by simpa using hgq
      refine wp_region_calm0 12 109 (by kernel_rfl) (by kernel_rfl) (by kernel_rfl) (by simp) ?_
      simp only [List.take_succ_cons, List.take_zero, List.drop_succ_cons, List.drop_zero]
      refine wpCalm_load_part rfl 44 (.tmp 3) rfl g3 0 10 rfl 44 _ (wCells x A n c A' n' c') _ K3.out Tryz.underlying44 rfl rfl rfl (fun _ _ => by rw [Nat.zero_add]) ?_
      try simp only [Act.put, List.setIfInBounds_toArray, List.set_cons_zero, List.set_cons_succ]
      refine wpCalm_call rfl rfl 77 #[.agg (wCells x A n c A' n' c')] (fun W => by go_simp) (.int .i64 0) (fun W hb => HCK.out W hb) ?_
      try simp only [Act.put, List.setIfInBounds_toArray, List.set_cons_zero, List.set_cons_succ]
      refine wpCalm_value rfl rfl (.bool false) (fun W _ => by go_simp) ?_
      try simp only [Act.put, List.setIfInBounds_toArray, List.set_cons_zero, List.set_cons_succ]
      refine wpCalm_value rfl rfl (.bool false) (fun W _ => rfl) ?_
      try simp only [Act.put, List.setIfInBounds_toArray, List.set_cons_zero, List.set_cons_succ]
      refine wpCalm_value rfl rfl (.pointer (some ⟨g3, 2, none⟩)) (fun W _ => by go_simp) ?_
      try simp only [Act.put, List.setIfInBounds_toArray, List.set_cons_zero, List.set_cons_succ]
      refine wpCalm_below rfl rfl (.int .i64 x.group) (fun W hb => by have := c32 W hb; go_simp) ?_
      try simp only [Act.put, List.setIfInBounds_toArray, List.set_cons_zero, List.set_cons_succ]
      refine wpCalm_value rfl rfl (.pointer (some ⟨V.g, 0, none⟩)) (fun W _ => rfl) ?_
      try simp only [Act.put, List.setIfInBounds_toArray, List.set_cons_zero, List.set_cons_succ]
      refine wpCalm_value rfl rfl (.pointer (some ⟨V.g, 0, none⟩)) (fun W _ => by go_simp) ?_
      try simp only [Act.put, List.setIfInBounds_toArray, List.set_cons_zero, List.set_cons_succ]
      refine wpCalm_value rfl rfl (.pointer (some ⟨V.g, 1, none⟩)) (fun W _ => by go_simp) ?_
      try simp only [Act.put, List.setIfInBounds_toArray, List.set_cons_zero, List.set_cons_succ]
      refine wpCalm_below rfl rfl (.int .i64 (m.group : Int)) (fun W hb => by have := cg W hb; go_simp) ?_
      try simp only [Act.put, List.setIfInBounds_toArray, List.set_cons_zero, List.set_cons_succ]
      refine wpCalm_value rfl rfl (.bool false) (fun W _ => by go_simp) ?_
      try simp only [Act.put, List.setIfInBounds_toArray, List.set_cons_zero, List.set_cons_succ]
      refine wpCalm_value rfl rfl (.bool false) (fun W _ => by go_simp) ?_
      try simp only [Act.put, List.setIfInBounds_toArray, List.set_cons_zero, List.set_cons_succ]
      refine wpCalm_nil ?_
      intro w2 hb2
      have K32 := Lib.hid (K3.out.below' hb2)
      have K42 := Lib.hid (K4.out.below' hb2)
      have HX2 := Lib.hid (HX.out.trans (hb2.mono hw1))
      have hw12 := hb2.size
      clear hb2 c32 cg hgb
      have c34 : w2.cell? ⟨g3, 4, none⟩ = some (.int .i64 x.kind) := (K32.out.cell 4).trans rfl
      by_cases hk5 : x.kind = 5
      · have hpp : p = ((sealV m x).1, (sealV m x).2, 0) := by rw [HP.out]; unfold doV inV; rw [HMB.out, decide_eq_true hgq]; simp only [Bool.and_self, if_true, if_pos hk5]
        obtain ⟨sv, hsv⟩ : ∃ sv, sv = sealV m x := ⟨_, rfl⟩
        have hv2 : VAt w2 V (fun b => N b ∨ b = g4) m := ((HV.out.mono (N' := fun b => N b ∨ b = g4) (fun b hb hn => hn.elim id (fun e => by omega)) (fun b hb => .inl (HV.out.all b hb)))).below HX2.out
        have HSL := Lib.hid (vsealing_any w2 V (fun b => N b ∨ b = g4) m L asked hv2 (fun b hb => by rcases hb with hb | hb; have := HNN.out b hb; omega; omega) (HBK.out.below HX2.out) HIN.out (by omega) x A n c A' n' c' B (HXW.out.below (HX2.out.mono hB)) (by omega) HMB.out hk5)
        have HDT := Lib.hid (show (sealV m x).2.data = [] by
          unfold sealV
          cases hel : elseV m x.epoch with
          | some a => obtain ⟨q, rfl⟩ := else_some hel; rfl
          | none => simp only; split <;> rfl)
        rw [← hsv] at HSL hpp HDT
        subst hpp
        have hk5b : (x.kind == 5) = true := by simpa using hk5
        clear hsv hv2
        go_wp2_with (refine wpList_load_part (o := ⟨some 34, _, _, _, _, _⟩) rfl 44 (.tmp 3) rfl g3 0 10 rfl 44 _ (wCells x A n c A' n' c') _ K32.out Tryz.underlying44 rfl rfl rfl (fun _ _ => by rw [Nat.zero_add]) ?_)
        refine HSL.out.mono ?_
        rintro _ w5 ⟨rfl, hvd⟩
        have hkh : ¬ V.has g4 := fun hb => by have := HNN.out _ (HV.out.all _ hb); omega
        have K45 := Lib.hid (hvd.only.blk K42.out hkh)
        have HVD := Lib.hid hvd
        have HAP5 := Lib.hid (show ansP sv.2 = aC sv.2.err none 0 0 sv.2.epoch from rfl)
        rw [HAP5.out]
        clear hvd HSL c34
        go_wp2_with (refine wpList_store_part (o := ⟨none, _, _, _, _, _⟩) rfl 47 (.tmp 4) (.tmp 35) rfl g4 0 (aC sv.2.err none 0 0 sv.2.epoch) rfl rfl 47 _ K45.out (aC_info _ _ _ _ _) (by simp [aC]) (aC_one _ _ _ _ _) ?_; intro w9 hT9 hD9; rw [aC_spl] at hD9)
        refine bodyPost_ret (results_part2 rfl _ _ g4 4 47 _ _ rfl hD9 Tryz.underlying47 rfl rfl rfl) rfl ⟨_, rfl, ?_, (VDone.last HV.out HNN.out HX2.out HVD.out hT9 hgw4).more (by omega)⟩
        have hdt : sv.2.data = [] := HDT.out
        unfold AnsVal
        simp only [hdt]
        exact ⟨none, 0, rfl, OwnB.nil _ _⟩
      · have hk5b : (x.kind == 5) = false := by simpa using hk5
        have hcl := may_client HMB.out hk5
        have HOL := Lib.hid (vold_any w2 V.g _ N m S (HD.out.below HX2.out) x A n c A' n' c' ⟨hcl.1, hcl.2.1⟩)
        have hp2 : p = match oldV m x with | some a => (m, a, 0) | none => match elseV m x.epoch with | some a => (m, a, 0) | none => ((ranV m x).1, dataA (ranV m x).2, 0) := by
          rw [HP.out]; unfold doV inV; rw [HMB.out, decide_eq_true hgq]; simp only [Bool.and_self, if_true, if_neg hk5]
          cases oldV m x with
          | some a => rfl
          | none => cases elseV m x.epoch <;> rfl
        have HP2 := Lib.hid hp2
        clear hp2
        cases hol : oldV m x with
        | some a =>
          rw [hol] at HOL HP2
          have hpa : p = (m, a, 0) := HP2.out
          subst hpa
          go_wp2_with (refine wpList_load_part (o := ⟨some 38, _, _, _, _, _⟩) rfl 44 (.tmp 3) rfl g3 0 10 rfl 44 _ (wCells x A n c A' n' c') _ K32.out Tryz.underlying44 rfl rfl rfl (fun _ _ => by rw [Nat.zero_add]) ?_)
          refine HOL.out.mono ?_
          rintro _ w3 ⟨D, rfl, ⟨A3, q3, hDe, ho3⟩, hb3⟩
          simp only [Option.getD_some] at hDe ho3
          subst hDe
          simp only [Option.isSome_some]
          have K43 := Lib.hid (K42.out.below' hb3)
          have HX3 := Lib.hid (HX2.out.trans (hb3.mono (by omega)))
          have HO3 := Lib.hid ho3
          have hs3 := hb3.size
          clear ho3 hb3 HOL
          go_upto_region 8 with (refine wpList_store_part (o := ⟨none, _, _, _, _, _⟩) rfl 47 (.tmp 6) (.tmp 40) rfl w3.heap.size 0 (aC a.err A3 a.data.length q3 a.epoch) rfl rfl 47 (aC 0 none 0 0 0) (Blk.newAt rfl) (aC_info _ _ _ _ _) (by simp [aC]) (aC_one _ _ _ _ _) ?_; intro w5 hT5 hD5; rw [aC_spl] at hD5)
          have hb5 : Below w3.heap.size w3 w5 := hT5.below ((Below.refl _ _).alloc (Nat.le_refl _) _) (Nat.le_refl _)
          have K45 := Lib.hid (K43.out.below' hb5)
          have HX5 := Lib.hid (HX3.out.trans (hb5.mono (by omega)))
          have HO5 := Lib.hid (HO3.out.below hb5)
          have HD5 := Lib.hid hD5
          obtain ⟨g6, hg6⟩ : ∃ g, g = w3.heap.size := ⟨_, rfl⟩
          rw [← hg6] at HD5 ⊢
          clear hT5 hD5 hb5 hg6
          go_wp2_with (first
            | (refine wpList_load_part (o := ⟨some 43, _, _, _, _, _⟩) rfl 47 (.tmp 6) rfl g6 0 4 rfl 47 _ (aC a.err A3 a.data.length q3 a.epoch) _ HD5.out Tryz.underlying47 rfl rfl rfl (fun _ _ => by rw [Nat.zero_add]) ?_)
            | (refine wpList_store_part (o := ⟨none, _, _, _, _, _⟩) rfl 47 (.tmp 4) (.tmp 43) rfl g4 0 (aC a.err A3 a.data.length q3 a.epoch) rfl rfl 47 _ K45.out (aC_info _ _ _ _ _) (by simp [aC]) (aC_one _ _ _ _ _) ?_; intro w9 hT9 hD9; rw [aC_spl] at hD9))
          refine bodyPost_ret (results_part2 rfl _ _ g4 4 47 _ _ rfl hD9 Tryz.underlying47 rfl rfl rfl) rfl ⟨_, rfl, ⟨A3, q3, rfl, ?_⟩, VDone.same HV.out HBK.out HIN.out (hT9.below HX5.out hgw4)⟩
          exact (HO5.out.more (by have := HX2.out.size; omega)).keep fun b hb => hT9.block b (fun e => by have := HO5.out.ge hb; omega)
        | none => exact absurd ⟨HMB.out, hgq, hk5, hol⟩ hlate
    · have hgb : (x.group != (m.group : Int)) = true := by simpa using hgq
      have hpp : p = (m, okA, 2) := by rw [HP.out]; unfold doV inV; rw [decide_eq_false hgq]; simp
      subst hpp
      refine wp_region_calm0 12 109 (by kernel_rfl) (by kernel_rfl) (by kernel_rfl) (by simp) ?_
      simp only [List.take_succ_cons, List.take_zero, List.drop_succ_cons, List.drop_zero]
      refine wpCalm_load_part rfl 44 (.tmp 3) rfl g3 0 10 rfl 44 _ (wCells x A n c A' n' c') _ K3.out Tryz.underlying44 rfl rfl rfl (fun _ _ => by rw [Nat.zero_add]) ?_
      try simp only [Act.put, List.setIfInBounds_toArray, List.set_cons_zero, List.set_cons_succ]
      refine wpCalm_call rfl rfl 77 #[.agg (wCells x A n c A' n' c')] (fun W => by go_simp) (.int .i64 0) (fun W hb => HCK.out W hb) ?_
      try simp only [Act.put, List.setIfInBounds_toArray, List.set_cons_zero, List.set_cons_succ]
      refine wpCalm_value rfl rfl (.bool false) (fun W _ => by go_simp) ?_
      try simp only [Act.put, List.setIfInBounds_toArray, List.set_cons_zero, List.set_cons_succ]
      refine wpCalm_value rfl rfl (.bool false) (fun W _ => rfl) ?_
      try simp only [Act.put, List.setIfInBounds_toArray, List.set_cons_zero, List.set_cons_succ]
      refine wpCalm_value rfl rfl (.pointer (some ⟨g3, 2, none⟩)) (fun W _ => by go_simp) ?_
      try simp only [Act.put, List.setIfInBounds_toArray, List.set_cons_zero, List.set_cons_succ]
      refine wpCalm_below rfl rfl (.int .i64 x.group) (fun W hb => by have := c32 W hb; go_simp) ?_
      try simp only [Act.put, List.setIfInBounds_toArray, List.set_cons_zero, List.set_cons_succ]
      refine wpCalm_value rfl rfl (.pointer (some ⟨V.g, 0, none⟩)) (fun W _ => rfl) ?_
      try simp only [Act.put, List.setIfInBounds_toArray, List.set_cons_zero, List.set_cons_succ]
      refine wpCalm_value rfl rfl (.pointer (some ⟨V.g, 0, none⟩)) (fun W _ => by go_simp) ?_
      try simp only [Act.put, List.setIfInBounds_toArray, List.set_cons_zero, List.set_cons_succ]
      refine wpCalm_value rfl rfl (.pointer (some ⟨V.g, 1, none⟩)) (fun W _ => by go_simp) ?_
      try simp only [Act.put, List.setIfInBounds_toArray, List.set_cons_zero, List.set_cons_succ]
      refine wpCalm_below rfl rfl (.int .i64 (m.group : Int)) (fun W hb => by have := cg W hb; go_simp) ?_
      try simp only [Act.put, List.setIfInBounds_toArray, List.set_cons_zero, List.set_cons_succ]
      refine wpCalm_value rfl rfl (.bool true) (fun W _ => by go_simp) ?_
      try simp only [Act.put, List.setIfInBounds_toArray, List.set_cons_zero, List.set_cons_succ]
      refine wpCalm_value rfl rfl (.bool true) (fun W _ => by go_simp) ?_
      try simp only [Act.put, List.setIfInBounds_toArray, List.set_cons_zero, List.set_cons_succ]
      refine wpCalm_nil ?_
      intro w2 hb2
      have K42 := Lib.hid (K4.out.below' hb2)
      have HX2 := Lib.hid (HX.out.trans (hb2.mono hw1))
      clear hb2
      go_wp2_with (refine wpList_store_part (o := ⟨none, _, _, _, _, _⟩) rfl 47 (.tmp 4) (.tmp 28) rfl g4 0 (aC 0 none 0 0 0) rfl rfl 47 _ K42.out (aC_info _ _ _ _ _) (by simp [aC]) (aC_one _ _ _ _ _) ?_; intro w9 hT9 hD9; rw [aC_spl] at hD9)
      refine bodyPost_ret (results_part2 rfl _ _ g4 4 47 _ _ rfl hD9 Tryz.underlying47 rfl rfl rfl) rfl ⟨_, rfl, ⟨none, 0, rfl, OwnB.nil _ _⟩, VDone.same HV.out HBK.out HIN.out (hT9.below HX2.out hgw4)⟩

end Go.Proofs.YtcpngeiahgoacaaGreat

/- Contracts of bastideref16.SameAnswer and of the laws' does. -/
namespace Go.Proofs.YtcpngeiahgoacaaGreat
set_option linter.unusedVariables false
open Go.RowKit Go.Maps

attribute [local irreducible] wpList
def anC (err : Int) (A : Option Addr) (n c : Nat) (ep : Int) (A' : Option Addr) (n' c' : Nat) : Array Value := #[.int .i64 err, .slice A n c, .int .i64 ep, .slice A' n' c']

set_option maxRecDepth 100000 in
set_option maxHeartbeats 4000000 in
theorem sameAnswer_any (e1 e2 p1 p2 : Int) (A : Option Addr) (n c : Nat) (A' : Option Addr) (n' c' : Nat) (D : Option Addr) (m d : Nat) (D' : Option Addr) (m' d' : Nat) (xs ys : List UInt8) (xt yt : List Int) (w : World) (B : Nat)
    (hx : Reads w B 1 A n (xs.map vb)) (hx' : Reads w B 1 A' n' (xt.map vn)) (hy : Reads w B 1 D m (ys.map vb)) (hy' : Reads w B 1 D' m' (yt.map vn)) (hB : B ≤ w.heap.size) (hn : n ≤ maxLen) (hn' : n' ≤ maxLen) (hm : m ≤ maxLen) (hm' : m' ≤ maxLen) :
    Calls Tryz.prog 41 #[.agg (anC e1 A n c p1 A' n' c'), .agg (anC e2 D m d p2 D' m' d')] w fun e w' => e = .returned (.bool (decide (e1 = e2 ∧ xs = ys ∧ p1 = p2 ∧ xt = yt))) ∧ Below w.heap.size w w' := by
  have HEB := Lib.hid (fun W (hb : Below w.heap.size w W) => eqBytes_any A D n m c d xs ys W B B (hx.below (hb.mono hB)) (hy.below (hb.mono hB)) hn hm)
  have HEI := Lib.hid (fun W (hb : Below w.heap.size w W) => eqInts_any A' D' n' m' c' d' xt yt W B B (hx'.below (hb.mono hB)) (hy'.below (hb.mono hB)) hn' hm')
  clear hx hy hx' hy'
  unfold anC
  go_enter Tryz.func41, Tryz.ntmps41
  go_upto_region 1 with fail
  have hX : Below w.heap.size w ((w.alloc (.cells #[.int .i64 e1, .slice A n c, .int .i64 p1, .slice A' n' c'] 47)).alloc (.cells #[.int .i64 e2, .slice D m d, .int .i64 p2, .slice D' m' d'] 47)) := ((Below.refl _ _).alloc (Nat.le_refl _) _).alloc (by simp) _
  have k1 : Blk ((w.alloc (.cells #[.int .i64 e1, .slice A n c, .int .i64 p1, .slice A' n' c'] 47)).alloc (.cells #[.int .i64 e2, .slice D m d, .int .i64 p2, .slice D' m' d'] 47)) w.heap.size 47 #[.int .i64 e1, .slice A n c, .int .i64 p1, .slice A' n' c'] := (Blk.newAt rfl).alloc _
  have k2 : Blk ((w.alloc (.cells #[.int .i64 e1, .slice A n c, .int .i64 p1, .slice A' n' c'] 47)).alloc (.cells #[.int .i64 e2, .slice D m d, .int .i64 p2, .slice D' m' d'] 47)) (w.heap.size + 1) 47 #[.int .i64 e2, .slice D m d, .int .i64 p2, .slice D' m' d'] := Blk.newAt (by simp)
  generalize World.alloc _ _ = w1 at hX k1 k2 ⊢
  have c0 := k1.cell 0
  have c1 := k1.cell 1
  have c2 := k1.cell 2
  have c3 := k1.cell 3
  have d0 := k2.cell 0
  have d1 := k2.cell 1
  have d2 := k2.cell 2
  have d3 := k2.cell 3
  simp only [List.getElem?_toArray, List.getElem?_cons_zero, List.getElem?_cons_succ] at c0 c1 c2 c3 d0 d1 d2 d3
  have HB := Lib.hid hX
  have HE1 := Lib.hid (HEB.out w1 hX)
  have HE2 := Lib.hid (fun q => HEI.out (w1.drewN q) (below_drewN HB.out q))
  clear k1 k2 hX HEB HEI
  obtain ⟨g1, hg1⟩ : ∃ g, g = w.heap.size := ⟨_, rfl⟩
  obtain ⟨g3, hg3⟩ : ∃ g, g = w.heap.size + 1 := ⟨_, rfl⟩
  rw [← hg1] at c0 c1 c2 c3
  rw [← hg3] at d0 d1 d2 d3 ⊢
  rw [← hg1]
  clear hg1 hg3
  go_wp2_with (first
    | (go_at_call 14; refine HE1.out.mono ?_; rintro _ _ ⟨rfl, q, rfl⟩)
    | (go_at_call 75; refine (HE2.out _).mono ?_; rintro _ _ ⟨rfl, q2, rfl⟩))
  all_goals go_ret
  all_goals refine ⟨ret_bool ?_, by first | exact HB.out | exact below_drewN HB.out _ | exact below_drewN (below_drewN HB.out _) _⟩
  all_goals clear HB HE1 HE2 c0 c1 c2 c3 d0 d1 d2 d3
  all_goals rw [Bool.eq_iff_iff]
  all_goals simp_all

theorem VDone.under {w w1 w' : World} {V : VLoc} {N : Nat → Prop} {m : VM} {L : List (List UInt8)} {asked q : Nat} (hb : Below w.heap.size w w1) (h : VDone w1 w' V N m L asked q) : VDone w w' V N m L asked q := ⟨h.vat, h.book, (Only.of_below hb).trans h.only⟩
def DoesPost (w : World) (V : VLoc) (N : Nat → Prop) (L : List (List UInt8)) (asked : Nat) (p : VM × Ans × Nat) (y : Ans) (r : Ending) (w' : World) : Prop :=
  r = .returned (.bool (decide (p.2.2 = 0 ∧ p.2.1.err = y.err ∧ p.2.1.data = y.data ∧ p.2.1.epoch = y.epoch))) ∧ VDone w w' V N p.1 L asked 6
theorem doV_len {m : VM} (h : VOk m) (x : Wish) : (doV m x).2.1.data.length ≤ 16 := by
  unfold doV
  split
  · rename_i hi
    unfold inV at hi
    simp only [Bool.and_eq_true, decide_eq_true_eq] at hi
    split
    · unfold sealV
      cases hel : elseV m x.epoch with
      | some a => obtain ⟨q, rfl⟩ := else_some hel; simp [errA]
      | none => simp only; split <;> simp [errA, okA]
    · rename_i hk
      have hc := may_client hi.1 hk
      have hb := may_group hi.1 hk (by have := h.group; omega)
      cases ho : oldV m x with
      | some a =>
        simp only
        unfold oldV at ho
        simp only at ho
        split at ho
        · rw [← Option.some.inj ho]
          rcases (h.lst (i := (x.client - 31).toNat) (by omega)).2 with e | e
          · simp [dataA, e]
          · simp [dataA, e.1]
        · split at ho
          · rw [← Option.some.inj ho]; simp [errA]
          · cases ho
      | none =>
        simp only
        cases hel : elseV m x.epoch with
        | some a => obtain ⟨q, rfl⟩ := else_some hel; simp [errA]
        | none =>
          simp only [dataA, ranV]
          split
          · rw [h.blk (by omega)]; omega
          · simp
  · simp [okA]

set_option maxRecDepth 100000 in
set_option maxHeartbeats 4000000 in
theorem vdoes_any (w : World) (V : VLoc) (N : Nat → Prop) (m : VM) (L : List (List UInt8)) (asked : Nat) (h : VAt w V N m) (hN : ∀ b, N b → b < w.heap.size) (hbk : BookAt w V.k L asked) (hin : InBook L (leavesV m)) (has : asked ≤ 700000)
    (x : Wish) (A : Option Addr) (n c : Nat) (A' : Option Addr) (n' c' : Nat) (B : Nat) (hx : WishIn w B x A n c A' n' c') (hB : B ≤ w.heap.size) (hap : ∀ a, 0 < n → A = some a → a.block ≠ V.g)
    (y : Ans) (D : Option Addr) (k d : Nat) (hy : Reads w B 1 D k (y.data.map vb)) (hyp : ∀ a, 0 < k → D = some a → ¬ V.has a.block) (hk : k ≤ 1000000) :
    Calls Tryz.prog 22 #[.pointer (some ⟨V.g, 0, none⟩), .agg (wCells x A n c A' n' c'), .agg (aC y.err D k d y.epoch)] w (DoesPost w V N L asked (doV m x) y) := by
  have hX : Below w.heap.size w ((w.alloc (.cells (wCells x A n c A' n' c') 44)).alloc (.cells (aC y.err D k d y.epoch) 47)) := ((Below.refl _ _).alloc (Nat.le_refl _) _).alloc (by simp) _
  have k3 : Blk ((w.alloc (.cells (wCells x A n c A' n' c') 44)).alloc (.cells (aC y.err D k d y.epoch) 47)) w.heap.size 44 (wCells x A n c A' n' c') := (Blk.newAt rfl).alloc _
  have k4 : Blk ((w.alloc (.cells (wCells x A n c A' n' c') 44)).alloc (.cells (aC y.err D k d y.epoch) 47)) (w.heap.size + 1) 47 (aC y.err D k d y.epoch) := Blk.newAt (by simp)
  have hz1 : ((w.alloc (.cells (wCells x A n c A' n' c') 44)).alloc (.cells (aC y.err D k d y.epoch) 47)).heap.size = w.heap.size + 2 := by simp
  have hdl : (doV m x).2.1.data.length ≤ 16 := by obtain ⟨S, hd⟩ := h.dat; exact doV_len hd.ok x
  have HV := Lib.hid h
  have HNN := Lib.hid hN
  have HX := Lib.hid hX
  have K3 := Lib.hid k3
  have K4 := Lib.hid k4
  have HY := Lib.hid hy
  have HYP := Lib.hid hyp
  have HDO := Lib.hid (fun (W : World) (hb : Below w.heap.size w W) => vDo_any W V N m L asked (h.below hb) (fun b hn => by have := hN b hn; have := hb.size; omega) (hbk.below hb) hin has x A n c A' n' c' B (hx.below (hb.mono hB)) (by have := hb.size; omega) hap)
  obtain ⟨g4, hg4⟩ : ∃ b, b = w.heap.size := ⟨_, rfl⟩
  obtain ⟨g5, hg5⟩ : ∃ b, b = w.heap.size + 1 := ⟨_, rfl⟩
  obtain ⟨p, hp⟩ : ∃ p, p = doV m x := ⟨_, rfl⟩
  rw [← hp] at HDO hdl ⊢
  clear h hN hbk hin hx hX k3 k4 hy hyp hap hp
  go_enter Tryz.func22, Tryz.ntmps22
  go_upto_region 1 with fail
  generalize World.alloc (World.alloc w _) _ = w1 at HX K3 K4 hz1 ⊢
  rw [← hg5] at K4 ⊢
  rw [← hg4] at K3 ⊢
  have hl3 := K3.out.lt
  have hl4 := K4.out.lt
  have hw1 : w.heap.size ≤ w1.heap.size := by omega
  have hgw4 : w.heap.size ≤ g4 := by omega
  have hgw5 : w.heap.size ≤ g5 := by omega
  clear hg4 hg5 hz1
  go_wp2_with (refine wpList_load_part (o := ⟨some 11, _, _, _, _, _⟩) rfl 44 (.tmp 4) rfl g4 0 10 rfl 44 _ (wCells x A n c A' n' c') _ K3.out Tryz.underlying44 rfl rfl rfl (fun _ _ => by rw [Nat.zero_add]) ?_)
  refine (HDO.out w1 HX.out).mono ?_
  rintro _ w2 ⟨Dc, rfl, ⟨A3, q3, hDe, ho3⟩, hvd⟩
  have hVh : ∀ b, V.has b → b < w.heap.size := fun b hb => HNN.out b (HV.out.all b hb)
  have K42 := Lib.hid (hvd.only.blk K4.out (fun hb => by have := hVh _ hb; omega))
  have HY2 := Lib.hid (hvd.only.reads (HY.out.below (HX.out.mono hB) |>.more (show B ≤ w1.heap.size by omega)) (fun a h0 ha => HYP.out a h0 ha))
  have HO2 := Lib.hid ho3
  have HVD := Lib.hid (VDone.under HX.out hvd)
  have hs2 := hvd.only.size
  obtain ⟨q1, q2, q5, r3, q4⟩ := OwnB.reads ho3
  have HR3 := Lib.hid r3
  subst hDe
  obtain ⟨⟨pm, pa, pf⟩, hpe⟩ : ∃ r, r = p := ⟨_, rfl⟩
  subst hpe
  simp only at HVD HR3 HO2 hdl
  clear hvd ho3 HDO r3 q4 hVh q1 q2
  by_cases hz : pf = 0
  · have hzb : ((pf : Int) == 0) = true := by simp [hz]
    go_upto_region 2 with (refine wpList_store_part (o := ⟨none, _, _, _, _, _⟩) rfl 47 (.tmp 7) (.tmp 13) rfl w2.heap.size 0 (aC pa.err A3 pa.data.length q3 pa.epoch) rfl rfl 47 (aC 0 none 0 0 0) (Blk.newAt rfl) (aC_info _ _ _ _ _) (by simp [aC]) (aC_one _ _ _ _ _) ?_; intro w5 hT5 hD5; rw [aC_spl] at hD5)
    have hb5 : Below w2.heap.size w2 w5 := hT5.below ((Below.refl _ _).alloc (Nat.le_refl _) _) (Nat.le_refl _)
    have K45 := Lib.hid (K42.out.below' hb5)
    have HD5 := Lib.hid hD5
    have hs5 := hb5.size
    have HSA := Lib.hid (sameAnswer_any pa.err y.err pa.epoch y.epoch A3 pa.data.length q3 none 0 0 D k d none 0 0 pa.data y.data [] [] w5 w2.heap.size (HR3.out.below hb5) Reads.none_ (HY2.out.below hb5) Reads.none_ hs5 (by unfold maxLen; omega) (by unfold maxLen; omega) (by unfold maxLen; omega) (by unfold maxLen; omega))
    have HVD5 := Lib.hid (HVD.out.below hb5)
    obtain ⟨g6, hg6⟩ : ∃ g, g = w2.heap.size := ⟨_, rfl⟩
    rw [← hg6] at HD5 ⊢
    clear hT5 hD5 hb5 hg6
    have e1 : aC pa.err A3 pa.data.length q3 pa.epoch = anC pa.err A3 pa.data.length q3 pa.epoch none 0 0 := rfl
    have e2 : aC y.err D k d y.epoch = anC y.err D k d y.epoch none 0 0 := rfl
    rw [e1] at HD5
    rw [e2] at K45
    clear e1 e2
    go_wp2_with (first
      | (refine wpList_load_guarded (o := ⟨some 18, _, _, _, _, _⟩) rfl 47 (.tmp 7) rfl g6 0 4 rfl 47 _ (anC pa.err A3 pa.data.length q3 pa.epoch none 0 0) _ HD5.out Tryz.underlying47 rfl rfl rfl (fun _ _ => by rw [Nat.zero_add]) ?_)
      | (refine wpList_load_guarded (o := ⟨some 19, _, _, _, _, _⟩) rfl 47 (.tmp 5) rfl g5 0 4 rfl 47 _ (anC y.err D k d y.epoch none 0 0) _ K45.out Tryz.underlying47 rfl rfl rfl (fun _ _ => by rw [Nat.zero_add]) ?_))
    refine HSA.out.mono ?_
    rintro _ w6 ⟨rfl, hb6⟩
    have HVD6 := Lib.hid (HVD5.out.below hb6)
    clear hb6 HSA
    go_wp2_with fail
    go_ret
    refine ⟨ret_bool ?_, HVD6.out⟩
    rw [Bool.eq_iff_iff]
    simp only [Bool.and_eq_true, decide_eq_true_eq]
    constructor
    · rintro ⟨h1, h2, h3⟩; exact ⟨hz, by omega, h2, by omega⟩
    · rintro ⟨_, h1, h2, h3⟩; exact ⟨by omega, h2, by omega⟩
  · have hzb : ((pf : Int) == 0) = false := by simpa using hz
    have HZ := Lib.hid hz
    clear hz
    go_upto_region 2 with (refine wpList_store_part (o := ⟨none, _, _, _, _, _⟩) rfl 47 (.tmp 7) (.tmp 13) rfl w2.heap.size 0 (aC pa.err A3 pa.data.length q3 pa.epoch) rfl rfl 47 (aC 0 none 0 0 0) (Blk.newAt rfl) (aC_info _ _ _ _ _) (by simp [aC]) (aC_one _ _ _ _ _) ?_; intro w5 hT5 hD5; rw [aC_spl] at hD5)
    have HVD5 := Lib.hid (HVD.out.below (hT5.below ((Below.refl _ _).alloc (Nat.le_refl _) _) (Nat.le_refl _)))
    clear hT5 hD5
    go_wp2_with fail
    go_ret
    refine ⟨ret_bool ?_, HVD5.out⟩
    rw [decide_eq_false]
    rintro ⟨h1, _⟩
    exact HZ.out h1

end Go.Proofs.YtcpngeiahgoacaaGreat

/- Contracts of a vault's Heard (of a read or a write that may be), and of the laws' root. -/


/- Contracts of the laws' small functions: sixteen, read, write, seal, root. -/
namespace Go.Proofs.YtcpngeiahgoacaaGreat
set_option linter.unusedVariables false
open Go.RowKit Go.Maps
attribute [local irreducible] wpList

def rep16 (b : UInt8) : List UInt8 := List.replicate 16 b
def sixF (b : UInt8) (i j : Nat) : Value := if j < i then vb b else .int .u8 0
theorem sixF_zero (b : UInt8) : Array.replicate 16 (Value.int .u8 0) = rng 16 (sixF b 0) := by
  apply Array.ext_getElem?
  intro j
  rcases Nat.lt_or_ge j 16 with h | h
  · rw [rng_get _ _ _ h, Array.getElem?_replicate, if_pos h]; rfl
  · rw [Array.getElem?_eq_none (by simpa using h), Array.getElem?_eq_none (by rw [rng_size]; exact h)]
theorem sixF_next (b : UInt8) (i : Nat) (hi : i < 16) : (rng 16 (sixF b i)).setIfInBounds i (vb b) = rng 16 (sixF b (i + 1)) := by
  apply Array.ext_getElem?
  intro j
  rw [Array.getElem?_setIfInBounds, rng_size]
  rcases Nat.lt_or_ge j 16 with h | h
  · rw [rng_get _ _ _ h, rng_get _ _ _ h]
    unfold sixF
    by_cases e : i = j
    · subst e; rw [if_pos rfl, if_pos h, if_pos (by omega)]
    · rw [if_neg e]
      have : (j < i) = (j < i + 1) := propext (by omega)
      simp only [this]
  · rw [if_neg (by omega), Array.getElem?_eq_none (by rw [rng_size]; exact h), Array.getElem?_eq_none (by rw [rng_size]; exact h)]
theorem sixF_end (b : UInt8) : (rng 16 (sixF b 16)).toList = (rep16 b).map vb := by
  apply List.ext_getElem?
  intro j
  rcases Nat.lt_or_ge j 16 with h | h
  · rw [Array.getElem?_toList, rng_get _ _ _ h]
    unfold sixF rep16
    rw [if_pos h, List.getElem?_map, List.getElem?_replicate, if_pos h]; rfl
  · rw [Array.getElem?_toList, Array.getElem?_eq_none (by rw [rng_size]; exact h), List.getElem?_eq_none (by simp [rep16]; exact h)]

set_option maxRecDepth 100000 in
set_option maxHeartbeats 2000000 in
theorem sixteen_any (b : UInt8) (w : World) :
    Calls Tryz.prog 23 #[vb b] w fun e w' => ∃ v, e = .returned v ∧ OwnB w' w.heap.size v (rep16 b) ∧ Below w.heap.size w w' := by
  obtain ⟨i0, hi0, hz0, hz1, hz2⟩ := info_parts u8_info
  have hmk : (Instr.makeSlice 22 (.int .i64 16) (.int .i64 16)).run Tryz.prog w = .ok (.slice (some ⟨w.heap.size, 0, none⟩) 16 16) (w.alloc (.cells (rng 16 (sixF b 0)) 5)) := by
    have h := run_make_rowN (P := Tryz.prog) 22 5 i0 _ Tryz.underlying22 hi0 hz0 .i64 .i64 16 16 (by omega) (by rw [hz2]; omega) (by omega) w
    rw [hz1] at h
    rw [show ((16 : Nat) : Int) = 16 from rfl] at h
    rw [h, show madeCells (Value.int .u8 0).cells (16 * 1) = Array.replicate 16 (.int .u8 0) from by kernel_rfl, sixF_zero b]
  have hb0 := below_lit w (.cells (rng 16 (sixF b 0)) 5)
  have hk0 : Blk (w.alloc (.cells (rng 16 (sixF b 0)) 5)) w.heap.size 5 (rng 16 (sixF b 0)) := Blk.newAt rfl
  have HB0 := Lib.hid hb0
  have HK0 := Lib.hid hk0
  obtain ⟨g, hg⟩ : ∃ g, g = w.heap.size := ⟨_, rfl⟩
  rw [← hg] at hmk HK0
  have hgw : w.heap.size ≤ g := by omega
  have HG := Lib.hid hg
  generalize w.alloc (.cells (rng 16 (sixF b 0)) 5) = w1 at hmk HB0 HK0
  have hvb : vb b = .int .u8 (bi b) := rfl
  clear hb0 hk0 hg
  go_enter Tryz.func23, Tryz.ntmps23
  go_wp2_with fail
  clear hmk
  go_loopw [4] (fun iv wr => ∃ i : Nat, i ≤ 16 ∧ iv = .int .i64 i ∧ Blk wr g 5 (rng 16 (sixF b i)) ∧ Below w.heap.size w wr) (fun iv _ => 16 - (intOf iv).toNat)
  case atStart => exact ⟨0, by omega, rfl, HK0.out, HB0.out⟩
  case round =>
    obtain ⟨i, hi, rfl, hk, hb⟩ := hrel
    have HK := Lib.hid hk
    have HB := Lib.hid hb
    clear hk hb
    by_cases hin : i < 16
    · have hinI : (i : Int) < 16 := by omega
      have cc : wr.cell? ⟨g, i, none⟩ = some (sixF b i i) := (HK.out.cell i).trans (rng_get _ _ _ hin)
      have ff := HK.out.frozen i
      have hk2 := HK.out.set_ i (vb b)
      rw [sixF_next b i hin] at hk2
      have hT := Turned.setCell wr ⟨g, i, none⟩ (vb b)
      have HK2 := Lib.hid hk2
      have HB2 := Lib.hid (hT.below HB.out hgw)
      clear hk2 hT
      go_wp2_with fail
      go_roundw
      case rel => exact ⟨i + 1, by omega, by go_num, HK2.out, HB2.out⟩
      case measure => simp [intOf]; omega
    · obtain rfl : i = 16 := by omega
      have hinI : ¬ (16 : Int) < 16 := by omega
      go_wp2_with fail
      go_ret
      refine ⟨_, rfl, ⟨by simp [rep16], .inr ⟨g, 16, _, rfl, hgw, HK.out, by simp [rep16], by unfold maxLen; omega, by rw [rng_size], ?_⟩⟩, HB.out⟩
      rw [sixF_end, List.take_of_length_le (by simp [rep16])]

def readV (c s e b : Int) : Wish := ⟨c, s, 1, e, 1, b, [], 0, 0, []⟩
def writeV (c s e k : Int) (b : UInt8) : Wish := ⟨c, s, 1, e, 2, k, rep16 b, 0, 0, []⟩
def shutV (e : Int) : Wish := ⟨0, 0, 1, e, 5, 0, [], 0, 0, [1, 2, 3, 4]⟩
theorem wC_spl (x y : Wish) (A B A' B' : Option Addr) (n c n' c' m d m' d' : Nat) : spl (wCells x A n c A' n' c') 0 (wCells y B m d B' m' d').toList = wCells y B m d B' m' d' := spl_self (wCells x A n c A' n' c') (wCells y B m d B' m' d') rfl
set_option maxRecDepth 100000 in
set_option maxHeartbeats 2000000 in
theorem vread_any (c s e b : Int) (w : World) :
    Calls Tryz.prog 19 #[.int .i64 c, .int .i64 s, .int .i64 e, .int .i64 b] w fun r w' => r = .returned (.agg (wCells (readV c s e b) none 0 0 none 0 0)) ∧ Below w.heap.size w w' := by
  go_enter Tryz.func19, Tryz.ntmps19
  go_wp2_with (refine wpList_store_part (o := ⟨none, _, _, _, _, _⟩) rfl 44 (.tmp 8) (.tmp 13) rfl w.heap.size 0 (wCells (readV c s e b) none 0 0 none 0 0) rfl rfl 44 (wCells zeroW none 0 0 none 0 0) (Blk.newAt rfl) (wCells_info _ _ _ _ _ _ _) (by simp [wCells]) (wCells_one _ _ _ _ _ _ _) ?_; intro w3 hT3 hD3; rw [wC_spl] at hD3)
  refine bodyPost_ret (results_part rfl _ _ w.heap.size 10 44 _ _ rfl hD3 Tryz.underlying44 rfl rfl rfl) rfl ⟨rfl, ?_⟩
  exact hT3.below ((Below.refl _ _).alloc (Nat.le_refl _) _) (Nat.le_refl _)

set_option maxRecDepth 100000 in
set_option maxHeartbeats 2000000 in
theorem vwrite_any (c s e k : Int) (b : UInt8) (w : World) :
    Calls Tryz.prog 24 #[.int .i64 c, .int .i64 s, .int .i64 e, .int .i64 k, vb b] w fun r w' => ∃ A q, r = .returned (.agg (wCells (writeV c s e k b) A 16 q none 0 0)) ∧ OwnB w' w.heap.size (.slice A 16 q) (rep16 b) ∧ Below w.heap.size w w' := by
  have hX := below_lit w (.cells (wCells zeroW none 0 0 none 0 0) 44)
  have hk0 : Blk (w.alloc (.cells (wCells zeroW none 0 0 none 0 0) 44)) w.heap.size 44 (wCells zeroW none 0 0 none 0 0) := Blk.newAt rfl
  have HX := Lib.hid hX
  have HK := Lib.hid hk0
  have hZ : wCells zeroW none 0 0 none 0 0 = #[.int .i64 0, .int .i64 0, .int .i64 0, .int .i64 0, .int .i64 0, .int .i64 0, .slice none 0 0, .int .i64 0, .int .i64 0, .slice none 0 0] := rfl
  obtain ⟨g, hg⟩ : ∃ g, g = w.heap.size := ⟨_, rfl⟩
  have hgw : w.heap.size ≤ g := by omega
  have hvb : vb b = .int .u8 (bi b) := rfl
  have HSX := Lib.hid (fun W => sixteen_any b W)
  rw [hvb] at HSX ⊢
  clear hX hk0
  go_enter Tryz.func24, Tryz.ntmps24
  go_upto_region 1 with fail
  rw [← hZ]
  generalize World.alloc w _ = w1 at HX HK ⊢
  rw [← hg] at HK ⊢
  clear hg hZ
  go_wp2_with fail
  refine (HSX.out w1).mono ?_
  rintro _ w2 ⟨v, rfl, ho, hb⟩
  obtain ⟨A, q, hv, q1, q2, q3, q4⟩ := own_slice_b ho
  have e16 : (rep16 b).length = 16 := by simp [rep16]
  rw [e16] at hv
  subst hv
  have HO := Lib.hid ho
  have HK2 := Lib.hid (HK.out.below' hb)
  have HB2 := Lib.hid (HX.out.trans (hb.mono HX.out.size))
  have hgl := HK.out.lt
  have hs1 := HX.out.size
  clear ho hb q3 q1 e16
  go_wp2_with (refine wpList_store_part (o := ⟨none, _, _, _, _, _⟩) rfl 44 (.tmp 10) (.tmp 17) rfl g 0 (wCells (writeV c s e k b) A 16 q none 0 0) rfl rfl 44 (wCells zeroW none 0 0 none 0 0) HK2.out (wCells_info _ _ _ _ _ _ _) (by simp [wCells]) (wCells_one _ _ _ _ _ _ _) ?_; intro w3 hT3 hD3; rw [wC_spl] at hD3)
  refine bodyPost_ret (results_part rfl _ _ g 10 44 _ _ rfl hD3 Tryz.underlying44 rfl rfl rfl) rfl ⟨A, q, rfl, ?_, hT3.below HB2.out hgw⟩
  exact (HO.out.more hs1).keep fun b hb => hT3.block b (fun e => by have := HO.out.ge hb; omega)

set_option maxRecDepth 100000 in
set_option maxHeartbeats 2000000 in
theorem vshut_any (e : Int) (w : World) :
    Calls Tryz.prog 25 #[.int .i64 e] w fun r w' => ∃ A q, r = .returned (.agg (wCells (shutV e) none 0 0 A 4 q)) ∧ Reads w' w'.heap.size 1 A 4 ([1, 2, 3, 4].map vn) ∧ (∀ a, A = some a → w.heap.size ≤ a.block) ∧ 4 ≤ q ∧ Below w.heap.size w w' := by
  have hk0 : Blk (w.alloc (.cells (wCells zeroW none 0 0 none 0 0) 44)) w.heap.size 44 (wCells zeroW none 0 0 none 0 0) := Blk.newAt rfl
  have hk1 := hk0.alloc (.cells #[.int .i64 1, .int .i64 2, .int .i64 3, .int .i64 4] 3)
  have hr := reads_cells (w.alloc (.cells (wCells zeroW none 0 0 none 0 0) 44)) #[.int .i64 1, .int .i64 2, .int .i64 3, .int .i64 4] 3
  have hz : (w.alloc (.cells (wCells zeroW none 0 0 none 0 0) 44)).heap.size = w.heap.size + 1 := by simp
  rw [hz] at hr
  have HK := Lib.hid hk1
  have HR := Lib.hid hr
  clear hk0 hk1 hr hz
  go_enter Tryz.func25, Tryz.ntmps25
  go_wp2_with (refine wpList_store_part (o := ⟨none, _, _, _, _, _⟩) rfl 44 (.tmp 2) (.tmp 5) rfl w.heap.size 0 (wCells (shutV e) none 0 0 (some ⟨w.heap.size + 1, 0, none⟩) 4 4) rfl rfl 44 (wCells zeroW none 0 0 none 0 0) HK.out (wCells_info _ _ _ _ _ _ _) (by simp [wCells]) (wCells_one _ _ _ _ _ _ _) ?_; intro w3 hT3 hD3; rw [wC_spl] at hD3)
  refine bodyPost_ret (results_part rfl _ _ w.heap.size 10 44 _ _ rfl hD3 Tryz.underlying44 rfl rfl rfl) rfl ⟨_, 4, rfl, ?_, fun a ha => ?_, Nat.le_refl _, ?_⟩
  · refine (Only.of_turned (N := fun b => b = w.heap.size) hT3 rfl).reads (HR.out.more (by simp)) fun a _ ha e => ?_
    injection ha with ha
    subst ha
    simp only at e
    omega
  · injection ha with ha; subst ha; exact Nat.le_succ _
  · exact hT3.below (((Below.refl _ _).alloc (Nat.le_refl _) _).alloc (by simp) _) (Nat.le_refl _)

end Go.Proofs.YtcpngeiahgoacaaGreat

/- Contract of the laws' wish: one that is told by a number. -/
namespace Go.Proofs.YtcpngeiahgoacaaGreat
set_option linter.unusedVariables false
open Go.RowKit Go.Maps

attribute [local irreducible] wpList wpCalm
theorem wishIn_read {w : World} {c s e b : Int} (h : I64 c ∧ I64 s ∧ I64 e ∧ I64 b) : WishIn w w.heap.size (readV c s e b) none (readV c s e b).data.length 0 none (readV c s e b).next.length 0 :=
  ⟨Reads.none_, by simp [readV], by simp [readV], Reads.none_, by simp [readV], by simp [readV], ⟨h.1, h.2.1, by show I64 1; unfold I64; omega, h.2.2.1, by show I64 1; unfold I64; omega, h.2.2.2, by show I64 0; unfold I64; omega, by show I64 0; unfold I64; omega, fun z hz => by simp [readV] at hz⟩⟩

end Go.Proofs.YtcpngeiahgoacaaGreat

/- A guarded operation is wanted where its guard's slot holds the value. -/
namespace Go.Proofs.YtcpngeiahgoacaaGreat
open Go.RowKit

theorem wanted_at {o : Oper} {ops : Array Oper} {tm : Array Value} {j d : Nat} {b : Bool} (hg : o.guard = some (j, b)) (hd : (ops[j]?).bind (·.dst) = some d) (he : tm[d]?.getD undef = .bool b) : Region.wanted o (yielded ops tm) = true := by
  unfold Region.wanted yielded
  rw [hg]
  simp only [hd, Option.bind_some]
  cases ht : tm[d]? with
  | none => rw [ht] at he; simp [undef] at he
  | some v =>
    rw [ht] at he
    simp only [Option.getD_some] at he
    subst he
    simp

end Go.Proofs.YtcpngeiahgoacaaGreat
