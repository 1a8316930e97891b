/- Parts of the proof, in one text: AtR, AtS. -/
import Derived.Test.YtlaodmmjhjpfmaaGreatZ18

/- Contract of (*Atlas).answer. -/
namespace Go.Proofs.YtlaodmmjhjpfmaaGreat
set_option linter.unusedVariables false
set_option linter.unusedSimpArgs false
open Go.RowKit Go.Maps

attribute [local irreducible] wpList wpCalm
structure ADone (w w' : World) (V : ALoc) (N : Nat → Prop) (m' : AM) (L : List (List UInt8)) (asked q : Nat) : Prop where
  vat : AAt w' V N m'
  book : ∃ L' a', BookAt w' V.k L' a' ∧ a' ≤ asked + q ∧ (∀ x, x ∈ L → x ∈ L') ∧ InBook L' (leavesQ m')
  only : Only (V.hasN N) w w'
theorem ADone.idle {w w' : World} {V : ALoc} {N : Nat → Prop} {m : AM} {L : List (List UInt8)} {asked q : Nat} (hb : Below w.heap.size w w') (h : AAt w V N m) (hbk : BookAt w V.k L asked) (hin : InBook L (leavesQ m)) : ADone w w' V N m L asked q :=
  ⟨h.below hb, ⟨L, asked, hbk.below hb, by omega, fun _ h => h, hin⟩, Only.of_below hb⟩
theorem ADone.under {w w1 w2 : World} {V : ALoc} {N : Nat → Prop} {m : AM} {L : List (List UInt8)} {asked q : Nat} (hb : Below w.heap.size w w1) (h : ADone w1 w2 V N m L asked q) : ADone w w2 V N m L asked q :=
  ⟨h.vat, h.book, (Only.of_below hb).trans h.only⟩
theorem ADone.after {w w1 w2 : World} {V : ALoc} {N : Nat → Prop} {m : AM} {L : List (List UInt8)} {asked q : Nat} (h : ADone w w1 V N m L asked q) (hb : Below w1.heap.size w1 w2) : ADone w w2 V N m L asked q := by
  obtain ⟨L', a', h1, h2, h3, h4⟩ := h.book
  exact ⟨h.vat.below hb, ⟨L', a', h1.below hb, h2, h3, h4⟩, h.only.trans (Only.of_below hb)⟩
/-- a block that is new stays out of what an atlas turns -/
theorem AAt.hasN_lt {w : World} {V : ALoc} {N : Nat → Prop} {m : AM} {S : ASl} (hd : ADat w V.g V.gc (some ⟨V.T.t, 0, none⟩) N m S) (hN : ∀ b, N b → b < w.heap.size) (hall : ∀ b, V.all b → N b) {b : Nat} (h : b = V.gc ∨ IsMv S m.chunks.length b) : b < w.heap.size := by
  rcases h with e | e
  · exact hN b (hall b (.inr (.inl e)))
  · exact hd.mlt e
theorem leafQ_mv {m : AM} {c i : Nat} {s : Srv} {o z : Int} (h : i ≠ c) : leafQ (mvQ m c s o z) i = leafQ m i := by
  unfold leafQ leafI
  split
  · have : (mvQ m c s o z).chunks[i]? = m.chunks[i]? := by
      unfold mvQ
      simp only [List.getElem?_set]
      rw [if_neg (fun e => h e.symm)]
    rw [this]
  · rfl
theorem leavesQ_mv {m : AM} {c : Nat} {s : Srv} {o z : Int} (hc : c < 6) : (leavesQ m).set c (leafQ (mvQ m c s o z) c) = leavesQ (mvQ m c s o z) := by
  apply List.ext_getElem?
  intro i
  rw [List.getElem?_set, leavesQ_len]
  rcases Nat.lt_or_ge i 6 with hi | hi
  · rw [leavesQ_get _ i hi]
    by_cases e : c = i
    · subst e; rw [if_pos rfl, if_pos hi, leavesQ_get _ c hi]
    · rw [if_neg e, leavesQ_get _ i hi, leafQ_mv (fun q => e q.symm)]
  · rw [if_neg (by omega), List.getElem?_eq_none (by rw [leavesQ_len]; exact hi), List.getElem?_eq_none (by rw [leavesQ_len]; exact hi)]
def AnPost (w : World) (V : ALoc) (N : Nat → Prop) (L : List (List UInt8)) (asked : Nat) (p : AM × Ans) (r : Ending) (w' : World) : Prop :=
  ∃ D, r = .returned (.agg D) ∧ AnsN w' w.heap.size D p.2 ∧ D.size = 4 ∧ ADone w w' V N p.1 L asked 3

theorem zSrv_eq : zSrvC = #[.int .i64 0, .slice none 0 0, .int .i64 0, .slice none 0 0, .slice none 0 0] := rfl
theorem anZ : anC 0 none 0 0 0 none 0 0 = #[.int .i64 0, .slice none 0 0, .int .i64 0, .slice none 0 0] := rfl

set_option maxRecDepth 100000 in
set_option maxHeartbeats 4000000 in
theorem aAnswer_any (w : World) (V : ALoc) (N : Nat → Prop) (m : AM) (L : List (List UInt8)) (asked : Nat) (h : AAt w V N m) (hN : ∀ b, N b → b < w.heap.size) (hbk : BookAt w V.k L asked) (hin : InBook L (leavesQ m)) (has : asked ≤ 800000)
    (x : Wish) (A : Option Addr) (n c : Nat) (A' : Option Addr) (n' c' : Nat) (hx : inQ x = true) :
    Calls Tryz.prog 85 #[.pointer (some ⟨V.g, 0, none⟩), .agg (wCells x A n c A' n' c')] w (AnPost w V N L asked (answerQ m x)) := by
  obtain ⟨S, hd⟩ := h.dat
  obtain ⟨_, _, _, _, b1, b2, hkind⟩ := may_move hx
  obtain ⟨q, hq⟩ : ∃ q, q = (x.block - 1).toNat := ⟨_, rfl⟩
  have hqb : x.block - 1 = (q : Int) := by omega
  have hq2 : q < 2 := by omega
  have hlt := hd.lt
  have hX : Below w.heap.size w ((w.alloc (.cells (wCells x A n c A' n' c') 48)).alloc (.cells (anC 0 none 0 0 0 none 0 0) 52)) := ((Below.refl _ _).alloc (Nat.le_refl _) _).alloc (by simp) _
  have k3 : Blk ((w.alloc (.cells (wCells x A n c A' n' c') 48)).alloc (.cells (anC 0 none 0 0 0 none 0 0) 52)) w.heap.size 48 (wCells x A n c A' n' c') := (Blk.newAt rfl).alloc _
  have k4 : Blk ((w.alloc (.cells (wCells x A n c A' n' c') 48)).alloc (.cells (anC 0 none 0 0 0 none 0 0) 52)) (w.heap.size + 1) 52 (anC 0 none 0 0 0 none 0 0) := Blk.newAt (by simp)
  have hz1 : ((w.alloc (.cells (wCells x A n c A' n' c') 48)).alloc (.cells (anC 0 none 0 0 0 none 0 0) 52)).heap.size = w.heap.size + 2 := by simp
  have HV := Lib.hid h
  have HNL := Lib.hid hN
  have HBK := Lib.hid hbk
  have HIN := Lib.hid hin
  have HD := Lib.hid (fun (W : World) (hb : Below w.heap.size w W) => hd.below hb)
  have HD0 := Lib.hid hd
  have HX := Lib.hid hX
  have K3 := Lib.hid k3
  have K4 := Lib.hid k4
  have HZ1 := Lib.hid hz1
  have HK := Lib.hid hkind
  have HQ := Lib.hid hq
  obtain ⟨P, hP⟩ : ∃ P, P = AnPost w V N L asked (answerQ m x) := ⟨_, rfl⟩
  rw [← hP]
  have HA : Hid (answerQ m x = match m.chunks[q]? with | none => (m, errA 180 0) | some s => if x.kind = 3 then (m, ⟨0, [], s.moves.length, s.now⟩) else if x.client ≠ 34 then (m, errA 180 0) else if ¬ x.old ∈ s.now ∨ usedA m.chunks s.f x.new = true then (m, errA 180 s.moves.length) else if s.moves.length + 1 = 22 then (m, errA 5 0) else (mvQ m q s x.old x.new, errA 0 (s.moves.length + 1))) := Lib.hid (by unfold answerQ; rw [← hq]; rfl)
  have HPI := Lib.hid (show ∀ w' a D, answerQ m x = (m, a) → AnsN w' w.heap.size D a → D.size = 4 → Below w.heap.size w w' → P (.returned (.agg D)) w' from fun w' a D ha hD hs hb => by
    rw [hP, ha]; exact ⟨D, rfl, hD, hs, ADone.idle hb h hbk hin⟩)
  have HPM := Lib.hid (show ∀ w' m' a D, answerQ m x = (m', a) → AnsN w' w.heap.size D a → D.size = 4 → ADone w w' V N m' L asked 3 → P (.returned (.agg D)) w' from fun w' m' a D ha hD hs hb => by
    rw [hP, ha]; exact ⟨D, rfl, hD, hs, hb⟩)
  obtain ⟨g3, hg3⟩ : ∃ b, b = w.heap.size := ⟨_, rfl⟩
  obtain ⟨g4, hg4⟩ : ∃ b, b = w.heap.size + 1 := ⟨_, rfl⟩
  obtain ⟨nc, hnc⟩ : ∃ k, k = m.chunks.length := ⟨_, rfl⟩
  have hnc2 : nc ≤ 2 := by rw [hnc]; exact hd.ok.one.2
  have C1 := Lib.hid (fun (W : World) (hb : Below w.heap.size w W) => (show W.cell? ⟨V.g, 1, none⟩ = some (.slice (some ⟨V.gc, 0, none⟩) nc S.cap) from by rw [hnc]; exact ((hd.below hb).blk.cell 1).trans (aCs_at _ _ _ _ 1 (by omega))))
  have HNC := Lib.hid hnc
  have hl1 := hlt.1
  have hl2 := hlt.2
  clear h hN hbk hin hd hX k3 k4 hz1 hP hq hkind hx hlt hnc
  go_enter Tryz.func85, Tryz.ntmps85
  go_upto_region 1 with fail
  rw [← anZ]
  generalize World.alloc (World.alloc w _) _ = w1 at HX K3 K4 HZ1 ⊢
  rw [← hg4] at K4 ⊢
  rw [← hg3] at K3 ⊢
  have hz1 := HZ1.out
  have hgw3 : w.heap.size ≤ g3 := by omega
  have hgw4 : w.heap.size ≤ g4 := by omega
  have hg34 : g3 ≠ g4 := by omega
  have hw1 : w.heap.size ≤ w1.heap.size := by omega
  have hl3 := K3.out.lt
  have hl4 := K4.out.lt
  clear hg3 hg4 HZ1 hz1
  have c35 : w1.cell? ⟨g3, 5, none⟩ = some (.int .i64 x.block) := (K3.out.cell 5).trans rfl
  have c1 := C1.out w1 HX.out
  by_cases hqn : nc ≤ q
  · have hqI : (nc : Int) ≤ (q : Int) := by omega
    have ha : answerQ m x = (m, errA 180 0) := by rw [HA.out, List.getElem?_eq_none (by rw [← HNC.out]; exact hqn)]
    have HAA := Lib.hid ha
    clear ha
    go_wp2_with (refine wpList_store_part (o := ⟨none, _, _, _, _, _⟩) rfl 52 (.tmp 4) (.tmp 18) rfl g4 0 (anC 180 none 0 0 0 none 0 0) rfl rfl 52 _ K4.out (anC_info _ _ _ _ _ _ _ _) (by simp [anC]) (anC_one _ _ _ _ _ _ _ _) ?_; intro w7 hT7 hD7; rw [anC_spl _ rfl] at hD7)
    refine bodyPost_ret (results_part rfl _ _ g4 4 52 _ _ rfl hD7 Tryz.underlying52 rfl rfl rfl) rfl ?_
    exact HPI.out _ _ _ HAA.out (AnsN.bare _ _ 180 0) rfl (hT7.below HX.out hgw4)
  · have hqI : (q : Int) < (nc : Int) := by omega
    have hqN : ¬ (nc : Int) ≤ (q : Int) := by omega
    have hql : q < m.chunks.length := by have := HNC.out; omega
    obtain ⟨s, hs⟩ : ∃ s, m.chunks[q]? = some s := ⟨_, List.getElem?_eq_getElem hql⟩
    have ha1 : answerQ m x = if x.kind = 3 then (m, ⟨0, [], s.moves.length, s.now⟩) else if x.client ≠ 34 then (m, errA 180 0) else if ¬ x.old ∈ s.now ∨ usedA m.chunks s.f x.new = true then (m, errA 180 s.moves.length) else if s.moves.length + 1 = 22 then (m, errA 5 0) else (mvQ m q s x.old x.new, errA 0 (s.moves.length + 1)) := by rw [HA.out, hs]
    have HA1 := Lib.hid ha1
    have HS := Lib.hid hs
    have hsk := HD0.out.ok.srv s (List.mem_of_getElem? hs)
    have hnow := hsk.now_ok
    have hml := hsk.len
    have HNOW := Lib.hid hnow
    have hns := hnow.short
    have hnf := hnow.faults
    have HLC := Lib.hid (HD0.out.srv q s hs)
    have HROW1 := Lib.hid (HD.out w1 HX.out).row
    have HNRD := Lib.hid (HD0.out.now q s hs).rd
    obtain ⟨at_, hat⟩ : ∃ k, k = s.moves.length := ⟨_, rfl⟩
    obtain ⟨nn, hnn⟩ : ∃ k, k = s.now.length := ⟨_, rfl⟩
    have hDe : srvC s S q = #[.int .i64 (s.f : Int), .slice (S.fA q) s.first.length (S.fC q), .int .i64 (s.f : Int), .slice (S.nA q) nn (S.nC q), .slice (S.mA q) at_ (S.mC q)] := by rw [hat, hnn]; rfl
    obtain ⟨D, hD⟩ : ∃ D, D = srvC s S q := ⟨_, rfl⟩
    have hDs : D.size = 5 := by rw [hD]; rfl
    have hDo : D.all (·.oneCell') = true := by rw [hD]; exact srvC_one s S q
    rw [← hD] at HLC hDe
    rw [← hat] at hml
    rw [← hnn] at HNRD hns
    have HDE := Lib.hid hDe
    have HAT := Lib.hid hat
    have HNN := Lib.hid hnn
    clear hs ha1 hsk hnow hat hnn hD hDe hqn
    go_upto_region 5 with (first
      | (refine wpList_load_part (o := ⟨some 25, _, _, _, _, _⟩) rfl 150 (.tmp 24) rfl V.gc (q * 5) 5 rfl 150 _ D _ HROW1.out Tryz.underlying150 rfl rfl hDs HLC.out ?_)
      | (refine wpList_store_part (o := ⟨none, _, _, _, _, _⟩) rfl 150 (.tmp 6) (.tmp 25) rfl w1.heap.size 0 D rfl rfl 150 zSrvC (by rw [zSrv_eq]; exact Blk.newAt rfl) (by rw [hDs]; exact served_info) (by rw [hDs]; simp [zSrvC]) hDo ?_; intro w2 hT2 hD2; rw [spl_self _ _ (by rw [hDs]; rfl)] at hD2))
    have hb2 : Below w1.heap.size w1 w2 := hT2.below (below_lit w1 _) (Nat.le_refl _)
    obtain ⟨g6, hg6⟩ : ∃ g, g = w1.heap.size := ⟨_, rfl⟩
    rw [← hg6] at hD2 ⊢
    have HB2 := Lib.hid (HX.out.trans (hb2.mono hw1))
    have HD2 := Lib.hid hD2
    have K32 := Lib.hid (K3.out.below' hb2)
    have K42 := Lib.hid (K4.out.below' hb2)
    have hs2 := HB2.out.size
    have hs12 := hb2.size
    have hg6l := hD2.lt
    have hg36 : g3 ≠ g6 := by omega
    have hg46 : g4 ≠ g6 := by omega
    have hgw6 : w.heap.size ≤ g6 := by omega
    have d4 : w2.cell? ⟨g6, 4, none⟩ = some (.slice (S.mA q) at_ (S.mC q)) := (hD2.cell 4).trans (by rw [HDE.out]; rfl)
    have d3 : w2.cell? ⟨g6, 3, none⟩ = some (.slice (S.nA q) nn (S.nC q)) := (hD2.cell 3).trans (by rw [HDE.out]; rfl)
    have e4 : w2.cell? ⟨g3, 4, none⟩ = some (.int .i64 x.kind) := (K32.out.cell 4).trans rfl
    have e0 : w2.cell? ⟨g3, 0, none⟩ = some (.int .i64 x.client) := (K32.out.cell 0).trans rfl
    clear hT2 hD2 hb2 hg6 HROW1 K3 K4 c35 c1
    by_cases hk3 : x.kind = 3
    · have hk3b : (x.kind == 3) = true := by simpa using hk3
      have HAA := Lib.hid (show answerQ m x = (m, ⟨0, [], s.moves.length, s.now⟩) by rw [HA1.out, if_pos hk3])
      have HCN := Lib.hid (cloneN_any (S.nA q) nn (S.nC q) s.now w2 w.heap.size (HNRD.out.below HB2.out) hs2 (by omega))
      clear hk3
      go_wp2_with fail
      refine HCN.out.mono ?_
      rintro _ w5 ⟨v, rfl, ho5, hb5⟩
      obtain ⟨A5, k5, hv5, _⟩ := own_slice_n ho5
      rw [← HNN.out] at hv5
      subst hv5
      have HO5 := Lib.hid ho5
      have HB5 := Lib.hid (HB2.out.trans (hb5.mono hs2))
      have K45 := Lib.hid (K42.out.below' hb5)
      clear ho5 hb5 HCN
      go_wp2_with (refine wpList_store_part (o := ⟨none, _, _, _, _, _⟩) rfl 52 (.tmp 4) (.tmp 38) rfl g4 0 (anC 0 none 0 0 (at_ : Int) A5 nn k5) rfl rfl 52 _ K45.out (anC_info _ _ _ _ _ _ _ _) (by simp [anC]) (anC_one _ _ _ _ _ _ _ _) ?_; intro w7 hT7 hD7; rw [anC_spl _ rfl] at hD7)
      refine bodyPost_ret (results_part rfl _ _ g4 4 52 _ _ rfl hD7 Tryz.underlying52 rfl rfl rfl) rfl ?_
      refine HPI.out _ _ _ HAA.out ⟨A5, k5, by rw [HAT.out, HNN.out]; rfl, ?_⟩ rfl (hT7.below HB5.out hgw4)
      have := HO5.out.keep_ (w' := w7) fun b hb => hT7.block b (fun e => by have := HO5.out.ge_ hb; omega)
      rw [← HNN.out]
      exact OwnN.more this hs2
    · have hk3b : (x.kind == 3) = false := by simpa using hk3
      by_cases hcl : x.client = 34
      · have hclb : (x.client != 34) = false := by simp [hcl]
        have HH := Lib.hid (crHas_any s.f (S.nA q) nn (S.nC q) s.now x.old w2 ((HNRD.out.below HB2.out).more hs2) HNOW.out)
        obtain ⟨C, hC⟩ : ∃ C, C = crC s.f (S.nA q) nn (S.nC q) := ⟨_, rfl⟩
        rw [← hC] at HH
        have hcs : C.size = 2 := by rw [hC]; rfl
        have hcd : ∀ j, j < 2 → D[2 + j]? = C[j]? := fun j hj => by
          rw [HDE.out, hC]
          obtain rfl | rfl : j = 0 ∨ j = 1 := by omega
          · rfl
          · rfl
        have HCD := Lib.hid hcd
        have e7 : w2.cell? ⟨g3, 7, none⟩ = some (.int .i64 x.old) := (K32.out.cell 7).trans rfl
        have HK3 := Lib.hid hk3
        have HCLI := Lib.hid hcl
        clear hC hcd hk3 hcl
        go_wp2_with (refine wpList_load_part (o := ⟨some 46, _, _, _, _, _⟩) rfl 57 (.tmp 45) rfl g6 2 2 rfl 150 _ C _ HD2.out Tryz.underlying57 rfl rfl hcs HCD.out ?_)
        refine HH.out.mono ?_
        rintro _ w3 ⟨rfl, hb3⟩
        have hs3 := hb3.size
        have HB3 := Lib.hid (HB2.out.trans (hb3.mono hs2))
        have K33 := Lib.hid (K32.out.below' hb3)
        have K43 := Lib.hid (K42.out.below' hb3)
        have HD3 := Lib.hid (HD2.out.below' hb3)
        have hs13 := HB3.out.size
        clear hb3 HH K32 K42 HD2 d3 d4 e4 e0 e7
        have HAA1 := Lib.hid (show answerQ m x = if ¬ x.old ∈ s.now ∨ usedA m.chunks s.f x.new = true then (m, errA 180 s.moves.length) else if s.moves.length + 1 = 22 then (m, errA 5 0) else (mvQ m q s x.old x.new, errA 0 (s.moves.length + 1)) by rw [HA1.out, if_neg HK3.out, if_neg (by rw [HCLI.out]; simp)])
        by_cases hold : x.old ∈ s.now
        · rw [decide_eq_true hold]
          have HU := Lib.hid (used_any w3 V.g V.gc s.f _ N m S x.new (HD.out w3 HB3.out) hnf)
          have d2 : w3.cell? ⟨g6, 2, none⟩ = some (.int .i64 (s.f : Int)) := (HD3.out.cell 2).trans (by rw [HDE.out]; rfl)
          have e8 : w3.cell? ⟨g3, 8, none⟩ = some (.int .i64 x.new) := (K33.out.cell 8).trans rfl
          have HOLD := Lib.hid hold
          obtain ⟨u, hu⟩ : ∃ u, u = usedA m.chunks s.f x.new := ⟨_, rfl⟩
          rw [← hu] at HU
          have HUE := Lib.hid hu
          clear hold hu
          go_wp2_with fail
          refine HU.out.mono ?_
          rintro _ w4 ⟨rfl, hb4⟩
          have hs4 := hb4.size
          have HB4 := Lib.hid (HB3.out.trans (hb4.mono hs13))
          have K34 := Lib.hid (K33.out.below' hb4)
          have K44 := Lib.hid (K43.out.below' hb4)
          have hs14 := HB4.out.size
          clear hb4 HU K33 K43 HD3 d2 e8
          cases u with
          | true =>
            have HAA := Lib.hid (show answerQ m x = (m, errA 180 s.moves.length) by rw [HAA1.out, if_pos (.inr HUE.out.symm)])
            go_wp2_with (refine wpList_store_part (o := ⟨none, _, _, _, _, _⟩) rfl 52 (.tmp 4) (.tmp 61) rfl g4 0 (anC 180 none 0 0 (at_ : Int) none 0 0) rfl rfl 52 _ K44.out (anC_info _ _ _ _ _ _ _ _) (by simp [anC]) (anC_one _ _ _ _ _ _ _ _) ?_; intro w7 hT7 hD7; rw [anC_spl _ rfl] at hD7)
            refine bodyPost_ret (results_part rfl _ _ g4 4 52 _ _ rfl hD7 Tryz.underlying52 rfl rfl rfl) rfl ?_
            exact HPI.out _ _ _ HAA.out (by rw [← HAT.out]; exact AnsN.bare _ _ 180 at_) rfl (hT7.below HB4.out hgw4)
          | false =>
            have HAA2 := Lib.hid (show answerQ m x = if s.moves.length + 1 = 22 then (m, errA 5 0) else (mvQ m q s x.old x.new, errA 0 (s.moves.length + 1)) by rw [HAA1.out, if_neg (fun h => by
              rcases h with h | h
              · exact h HOLD.out
              · rw [← HUE.out] at h; cases h)])
            by_cases h22 : at_ = 21
            · have h22b : ((at_ : Int) + 1 == 22) = true := by simp [h22]
              have HAA := Lib.hid (show answerQ m x = (m, errA 5 0) by rw [HAA2.out, if_pos (by rw [← HAT.out]; omega)])
              clear h22
              go_wp2_with (refine wpList_store_part (o := ⟨none, _, _, _, _, _⟩) rfl 52 (.tmp 4) (.tmp 66) rfl g4 0 (anC 5 none 0 0 0 none 0 0) rfl rfl 52 _ K44.out (anC_info _ _ _ _ _ _ _ _) (by simp [anC]) (anC_one _ _ _ _ _ _ _ _) ?_; intro w7 hT7 hD7; rw [anC_spl _ rfl] at hD7)
              refine bodyPost_ret (results_part rfl _ _ g4 4 52 _ _ rfl hD7 Tryz.underlying52 rfl rfl rfl) rfl ?_
              exact HPI.out _ _ _ HAA.out (AnsN.bare _ _ 5 0) rfl (hT7.below HB4.out hgw4)
            · have h22b : ((at_ : Int) + 1 == 22) = false := by simp; omega
              have HAA := Lib.hid (show answerQ m x = (mvQ m q s x.old x.new, errA 0 (s.moves.length + 1)) by rw [HAA2.out, if_neg (by rw [← HAT.out]; omega)])
              have hk4 : 1 ≤ x.new ∧ x.new ≤ 28 := by
                rcases HK.out with e | e
                · exact absurd e HK3.out
                · exact ⟨e.2.2.2.1, e.2.2.2.2.1⟩
              have HGD := Lib.hid (show usedA m.chunks s.f x.new = false ∧ goodR s.now x.old x.new from ⟨HUE.out.symm, HOLD.out, fun e => (usedA_false HUE.out.symm).2 (served_in (List.mem_of_getElem? HS.out) (now_served e)), hk4.1, hk4.2⟩)
              have hd4 : ADat w4 V.g V.gc (some ⟨V.T.t, 0, none⟩) (fun b => N b ∨ b = g4) m S := (HD0.out.mono (fun b hb hn => hn.elim id (fun e => by omega)) ⟨.inl HD0.out.gN.1, .inl HD0.out.gN.2⟩).below HB4.out
              have HMV := Lib.hid (aMove_any w4 V.g V.gc q _ (fun b => N b ∨ b = g4) m S s x.old x.new hd4 HS.out (fun b hb => by
                rcases hb with hb | hb
                · have := HNL.out b hb; omega
                · have := K44.out.lt; omega) HV.out.far.1 (by rw [← HAT.out]; omega))
              have HD4 := Lib.hid hd4
              have e7 : w4.cell? ⟨g3, 7, none⟩ = some (.int .i64 x.old) := (K34.out.cell 7).trans rfl
              have e8 : w4.cell? ⟨g3, 8, none⟩ = some (.int .i64 x.new) := (K34.out.cell 8).trans rfl
              clear hd4 h22
              go_wp2_with fail
              refine HMV.out.mono ?_
              rintro _ w5 ⟨hgo, _⟩
              obtain ⟨rfl, S', hd5, ho5⟩ := hgo HGD.out
              have hmv5 : ∀ b, (b = V.gc ∨ MvC S q b) → b = V.gc ∨ IsMv S m.chunks.length b := fun b hb => by
                rcases hb with e | ⟨a, e1, e2⟩
                · exact .inl e
                · exact .inr ⟨q, a, hql, e1, e2⟩
              have hlt5 : ∀ b, (b = V.gc ∨ MvC S q b) → b < w.heap.size := fun b hb => AAt.hasN_lt HD0.out HNL.out HV.out.all (hmv5 b hb)
              have hnT : ∀ b, V.T.has b → ¬ (b = V.gc ∨ MvC S q b) := fun b hb e => by
                rcases hmv5 b e with e | e
                · exact HV.out.far.2.2.1 (e ▸ hb)
                · exact HD0.out.mvN b e (HV.out.all b (.inr (.inr (.inr hb))))
              have hnk : ∀ b, V.k.has b → ¬ (b = V.gc ∨ MvC S q b) := fun b hb e => by
                rcases hmv5 b e with e | e
                · exact HV.out.far.2.2.2.2 (e ▸ hb)
                · exact HD0.out.mvN b e (HV.out.all b (.inr (.inr (.inl hb))))
              have ht5 := (HV.out.tree.below HB4.out).only ho5 hnT
              have hbk5 := (HBK.out.below HB4.out).only ho5 (hnk _ (.inl rfl)) (hnk _ (.inr (.inl rfl))) (hnk _ (.inr (.inr rfl)))
              have HST := Lib.hid (aset_any w5 V.g V.gc q V.T V.k (fun b => N b ∨ b = g4) _ S' _ L asked hd5 (by omega) ht5 (leavesQ_len m) hbk5 (by omega))
              rw [leavesQ_mv (by omega)] at HST
              have HD5 := Lib.hid hd5
              have HO5 := Lib.hid ho5
              have HMV5 := Lib.hid hmv5
              have K45 := Lib.hid (ho5.blk K44.out (fun e => by have := hlt5 g4 e; omega))
              have hs5 := ho5.size
              clear hgo hd5 ho5 hmv5 hlt5 hnT hnk ht5 hbk5 HMV e7 e8
              go_wp2_with fail
              refine HST.out.mono ?_
              rintro _ w6 ⟨rfl, hsb⟩
              obtain ⟨L', a', p1, p2, p3, p4⟩ := hsb.book
              have hkT : ∀ b, (V.T.mut b ∨ V.k.has b) → b < w.heap.size := fun b hb => HNL.out b (HV.out.all b (by
                rcases hb with e | e
                · exact .inr (.inr (.inr (.inr (.inr e))))
                · exact .inr (.inr (.inl e))))
              have hd6 : ADat w6 V.g V.gc (some ⟨V.T.t, 0, none⟩) (fun b => N b ∨ b = g4) (mvQ m q s x.old x.new) S' := HD5.out.only hsb.only (fun b hb => .inl (HV.out.all b (by
                  rcases hb with e | e
                  · exact .inr (.inr (.inr (.inr (.inr e))))
                  · exact .inr (.inr (.inl e))))) (fun e => by
                  rcases e with e | e
                  · exact HV.out.far.2.1 (.inr (.inr e))
                  · exact HV.out.far.2.2.2.1 e) (fun e => by
                  rcases e with e | e
                  · exact HV.out.far.2.2.1 (.inr (.inr e))
                  · exact HV.out.far.2.2.2.2 e)
              have hT6 := hsb.tree
              have hin6 := p4 L (fun _ h => h) HIN.out
              have ho6 : Only (V.hasN N) w w6 := by
                refine ((Only.of_below HB4.out).trans (HO5.out.mono fun b _ e => ?_)).trans (hsb.only.mono fun b _ e => ?_)
                · rcases HMV5.out b e with e | e
                  · exact .inl (.inr (.inl e))
                  · exact .inr (HD0.out.mvN b e)
                · rcases e with e | e
                  · exact .inl (.inr (.inr (.inl e)))
                  · exact .inl (.inr (.inr (.inr e)))
              have hdone : ∀ w7, Turned g4 w6 w7 → ADone w w7 V N (mvQ m q s x.old x.new) L asked 3 := fun w7 hT => by
                have ht4 : Only (fun b => b = g4) w6 w7 := Only.of_turned hT rfl
                have hold : ∀ b, V.all b → b ≠ g4 := fun b hb e => by have := HNL.out b (HV.out.all b hb); omega
                refine ⟨⟨⟨S', (hd6.only ht4 (fun b e => .inr e) (fun e => hold _ (.inl rfl) e) (fun e => hold _ (.inr (.inl rfl)) e)).mono (fun b _ hn => .inl hn) ⟨HD0.out.gN.1, HD0.out.gN.2⟩⟩, hT6.only ht4 (fun b hb e => hold b (.inr (.inr (.inr hb))) e), HV.out.far, HV.out.all⟩, ⟨L', a', p1.only ht4 (fun e => hold _ (.inr (.inr (.inl (.inl rfl)))) e) (fun e => hold _ (.inr (.inr (.inl (.inr (.inl rfl))))) e) (fun e => hold _ (.inr (.inr (.inl (.inr (.inr rfl))))) e), p2, p3, hin6⟩, ⟨ht4.os.trans ho6.os, ht4.tape.trans ho6.tape, ht4.output.trans ho6.output, Nat.le_trans ho6.size ht4.size, fun b hb hn => (ht4.block b (by have := ho6.size; omega) (fun e => by omega)).trans (ho6.block b hb hn)⟩⟩
              have K46 := Lib.hid (hsb.only.blk K45.out (fun e => by have := hkT g4 e; omega))
              have HDN := Lib.hid hdone
              have hs6 := hsb.only.size
              clear hsb hdone hkT p1 p2 p3 p4 HST hd6 hT6 hin6 ho6
              go_wp2_with (refine wpList_store_part (o := ⟨none, _, _, _, _, _⟩) rfl 52 (.tmp 4) (.tmp 80) rfl g4 0 (anC 0 none 0 0 ((at_ : Int) + 1) none 0 0) rfl rfl 52 _ K46.out (anC_info _ _ _ _ _ _ _ _) (by simp [anC]) (anC_one _ _ _ _ _ _ _ _) ?_; intro w7 hT7 hD7; rw [anC_spl _ rfl] at hD7)
              refine bodyPost_ret (results_part rfl _ _ g4 4 52 _ _ rfl hD7 Tryz.underlying52 rfl rfl rfl) rfl ?_
              exact HPM.out _ _ _ _ HAA.out (by rw [← HAT.out]; exact AnsN.bare w7 w.heap.size 0 (at_ + 1)) rfl (HDN.out w7 hT7)
        · rw [decide_eq_false hold]
          have HAA := Lib.hid (show answerQ m x = (m, errA 180 s.moves.length) by rw [HAA1.out, if_pos (.inl hold)])
          clear hold
          go_wp2_with (refine wpList_store_part (o := ⟨none, _, _, _, _, _⟩) rfl 52 (.tmp 4) (.tmp 61) rfl g4 0 (anC 180 none 0 0 (at_ : Int) none 0 0) rfl rfl 52 _ K43.out (anC_info _ _ _ _ _ _ _ _) (by simp [anC]) (anC_one _ _ _ _ _ _ _ _) ?_; intro w7 hT7 hD7; rw [anC_spl _ rfl] at hD7)
          refine bodyPost_ret (results_part rfl _ _ g4 4 52 _ _ rfl hD7 Tryz.underlying52 rfl rfl rfl) rfl ?_
          exact HPI.out _ _ _ HAA.out (by rw [← HAT.out]; exact AnsN.bare _ _ 180 at_) rfl (hT7.below HB3.out hgw4)
      · have hclb : (x.client != 34) = true := by simpa using hcl
        have HAA := Lib.hid (show answerQ m x = (m, errA 180 0) by rw [HA1.out, if_neg hk3, if_pos hcl])
        clear hk3 hcl
        go_wp2_with (refine wpList_store_part (o := ⟨none, _, _, _, _, _⟩) rfl 52 (.tmp 4) (.tmp 43) rfl g4 0 (anC 180 none 0 0 0 none 0 0) rfl rfl 52 _ K42.out (anC_info _ _ _ _ _ _ _ _) (by simp [anC]) (anC_one _ _ _ _ _ _ _ _) ?_; intro w7 hT7 hD7; rw [anC_spl _ rfl] at hD7)
        refine bodyPost_ret (results_part rfl _ _ g4 4 52 _ _ rfl hD7 Tryz.underlying52 rfl rfl rfl) rfl ?_
        exact HPI.out _ _ _ HAA.out (AnsN.bare _ _ 180 0) rfl (hT7.below HB2.out hgw4)

end Go.Proofs.YtlaodmmjhjpfmaaGreat

/- An atlas with another answer of a client's, in memory. -/
namespace Go.Proofs.YtlaodmmjhjpfmaaGreat
set_option linter.unusedVariables false
set_option linter.unusedSimpArgs false
open Go.RowKit Go.Maps

attribute [local irreducible] wpList wpCalm
def lsQ (m : AM) (j st : Nat) (a : Ans) : AM := ⟨m.chunks, m.last.set j (st, a)⟩
theorem lsQ_same {m : AM} {j st : Nat} {a : Ans} (hl : m.last.length = 4) (hj : j < 4) : lastQ (lsQ m j st a) j = (st, a) := by
  unfold lastQ lsQ
  rw [List.getD_eq_getElem?_getD]
  simp only [List.getElem?_set]
  rw [if_pos trivial, if_pos (by omega)]
  rfl
theorem lsQ_other {m : AM} {j st i : Nat} {a : Ans} (hi : i ≠ j) : lastQ (lsQ m j st a) i = lastQ m i := by
  unfold lastQ lsQ
  rw [List.getD_eq_getElem?_getD, List.getD_eq_getElem?_getD]
  simp only [List.getElem?_set]
  rw [if_neg (fun e => hi e.symm)]
def lsS (S : ASl) (j : Nat) (A : Option Addr) (k : Nat) : ASl := { S with lA := upd S.lA j A, lC := upd S.lC j k }
def lsC (st : Nat) (a : Ans) (A : Option Addr) (k : Nat) : Array Value := #[.int .i64 (st : Int), .int .i64 (a.err : Int), .slice none 0 0, .int .i64 (a.epoch : Int), .slice A a.nodes.length k]
theorem aCs_ls (t : Option Addr) (gc : Nat) (m : AM) (S : ASl) (j st : Nat) (a : Ans) (A : Option Addr) (k : Nat) (hl : m.last.length = 4) (hj : j < 4) : spl (aCs t gc m S) (2 + j * 5) (lsC st a A k).toList = aCs t gc (lsQ m j st a) (lsS S j A k) := by
  have hle : 2 + j * 5 + (lsC st a A k).toList.length ≤ (aCs t gc m S).size := by rw [aCs_size]; show 2 + j * 5 + 5 ≤ 22; omega
  apply Array.ext_getElem?
  intro q
  rw [spl_get hle]
  have hls : (lsC st a A k).toList.length = 5 := rfl
  rw [hls]
  rcases Nat.lt_or_ge q 22 with hq | hq
  · rw [aCs_at t gc (lsQ m j st a) (lsS S j A k) q hq]
    by_cases hin : 2 + j * 5 ≤ q ∧ q < 2 + j * 5 + 5
    · rw [if_pos hin]
      unfold aF
      rw [if_neg (by omega), if_neg (by omega), show (q - 2) / 5 = j by omega]
      have e : lastCq (lsS S j A k) (lsQ m j st a) j = lsC st a A k := by
        unfold lastCq
        rw [lsQ_same hl hj]
        show #[_, _, _, _, Value.slice (upd S.lA j A j) _ (upd S.lC j k j)] = _
        rw [upd_at, upd_at]
        rfl
      rw [e, show (q - 2) % 5 = q - (2 + j * 5) by omega, Array.getElem?_toList]
      have hz : q - (2 + j * 5) < (lsC st a A k).size := by show _ < 5; omega
      rw [Array.getElem?_eq_getElem hz]
      simp [Array.getD, hz]
    · rw [if_neg hin, aCs_at _ _ _ _ _ hq]
      unfold aF
      split
      · rfl
      · split
        · rfl
        · have hne : (q - 2) / 5 ≠ j := by omega
          have e : lastCq (lsS S j A k) (lsQ m j st a) ((q - 2) / 5) = lastCq S m ((q - 2) / 5) := by
            unfold lastCq
            rw [lsQ_other hne]
            show #[_, _, _, _, Value.slice (upd S.lA j A _) _ (upd S.lC j k _)] = _
            rw [upd_ne _ _ _ hne, upd_ne _ _ _ hne]
          rw [e]
  · rw [if_neg (by omega), Array.getElem?_eq_none (by rw [aCs_size]; exact hq), Array.getElem?_eq_none (by rw [aCs_size]; exact hq)]
theorem ADat.lasted {w w' : World} {g gc j st B0 : Nat} {t : Option Addr} {N : Nat → Prop} {m : AM} {S : ASl} {a : Ans} {A : Option Addr} {k : Nat} (h : ADat w g gc t N m S) (hj : j < 4) (hg : g ≠ gc) (hT : Turned g w w')
    (hb : Blk w' g 147 (spl (aCs t gc m S) (2 + j * 5) (lsC st a A k).toList)) (hn : OwnN w B0 (.slice A a.nodes.length k) a.nodes) (hB0 : ∀ b, N b → b < B0) (hok : AOk (lsQ m j st a)) : ADat w' g gc t N (lsQ m j st a) (lsS S j A k) := by
  have ho : Only (fun b => b = g) w w' := Only.of_turned hT rfl
  rw [aCs_ls _ _ _ _ _ _ _ _ _ h.ok.last hj] at hb
  refine h.head ho hg hb rfl hok rfl fun i hi => ?_
  by_cases e : i = j
  · subst e
    rw [lsQ_same h.ok.last hi]
    show FarN w' _ (upd S.lA i A i) (upd S.lC i k i) _
    rw [upd_at, upd_at]
    have hn' : OwnN w' B0 (.slice A a.nodes.length k) a.nodes := hn.keep_ fun b hb' => hT.block b (fun e => own_blk_ne hn h.blk (by decide) (by rw [hb', e]))
    obtain ⟨A', c', e, q1, q2, q3, q4⟩ := own_slice_n hn'
    injection e with e1 _ e2
    subst e1 e2
    refine ⟨q3, ⟨q1, q2⟩, fun ad h0 ha hbad => ?_⟩
    rcases hbad with hbad | hbad
    · have := hB0 _ hbad; have := q4 ad ha; omega
    · obtain ⟨i', a', hi', ha', hbb⟩ := hbad
      rcases (h.mv i' _ (List.getElem?_eq_getElem hi')).2 with ⟨e1, _⟩ | ⟨g', cap', cur', e1, _, e3, _⟩
      · injection e1 with e1; rw [ha'] at e1; cases e1
      · injection e1 with e1
        rw [ha'] at e1
        injection e1 with e1
        subst e1
        have hB : Blk w g' 153 cur' := e3
        exact own_far hn hB (by decide) ad ha hbb.symm
  · rw [lsQ_other e]
    show FarN w' _ (upd S.lA j A i) (upd S.lC j k i) _
    rw [upd_ne _ _ _ e, upd_ne _ _ _ e]
    exact (h.nodes i hi).only ho (fun b e => .inl (e ▸ h.gN.1))
theorem leafQ_ls {m : AM} {j st i : Nat} {a : Ans} (h : i ≠ 2 + j) : leafQ (lsQ m j st a) i = leafQ m i := by
  unfold leafQ leafI
  split
  · rfl
  · rw [lsQ_other (by omega)]
theorem leavesQ_ls {m : AM} {j st : Nat} {a : Ans} (hj : j < 4) : (leavesQ m).set (2 + j) (leafQ (lsQ m j st a) (2 + j)) = leavesQ (lsQ m j st a) := by
  apply List.ext_getElem?
  intro i
  rw [List.getElem?_set, leavesQ_len]
  rcases Nat.lt_or_ge i 6 with hi | hi
  · rw [leavesQ_get _ i hi]
    by_cases e : 2 + j = i
    · subst e; rw [if_pos rfl, if_pos hi, leavesQ_get _ _ hi]
    · rw [if_neg e, leavesQ_get _ i hi, leafQ_ls (fun q => e q.symm)]
  · rw [if_neg (by omega), List.getElem?_eq_none (by rw [leavesQ_len]; exact hi), List.getElem?_eq_none (by rw [leavesQ_len]; exact hi)]
theorem didQ_new {m : AM} {x : Wish} {j : Nat} (hj : j = (x.client - 31).toNat) (h : ((lastQ m j).1 : Int) < x.stamp) (hx : inQ x = true) (hm : AOk m) : didQ m x = lsQ (answerQ m x).1 j x.stamp.toNat (answerQ m x).2 := by
  unfold didQ
  rw [← hj, if_pos h]
  rfl

end Go.Proofs.YtlaodmmjhjpfmaaGreat
