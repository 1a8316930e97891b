/- Parts of the proof, in one text: AtP, VaultP. -/
import Derived.Test.YtdpoedgjehofiaaGreatZ21
import Derived.Test.YtdpoedgjehofiaaGreatZ17

/- Contract of (*Atlas).move. -/
namespace Go.Proofs.YtdpoedgjehofiaaGreat
set_option linter.unusedVariables false
set_option linter.unusedSimpArgs false
open Go.RowKit Go.Maps

attribute [local irreducible] wpList wpCalm
def MvPost (w : World) (g gc c : Nat) (t : Option Addr) (N : Nat → Prop) (m : AM) (S : ASl) (s : Srv) (o z : Int) (e : Ending) (w' : World) : Prop :=
  (usedA m.chunks s.f z = false ∧ goodR s.now o z → e = .returned (.bool true) ∧ ∃ S', ADat w' g gc t N (mvQ m c s o z) S' ∧ Only (fun b => b = gc ∨ MvC S c b) w w') ∧
  (¬ (usedA m.chunks s.f z = false ∧ goodR s.now o z) → e = .returned (.bool false) ∧ Below w.heap.size w w')
theorem mv_info : (Tryz.prog.info? 163).map (fun i => (i.zero, i.size, i.bytes)) = some (some (.agg #[.int .i64 0, .int .i64 0]), 2, 16) := by kernel_rfl

theorem reads2 (w : World) (o z : Int) : Reads (w.alloc (.cells #[.int .i64 o, .int .i64 z] 163)) (w.alloc (.cells #[.int .i64 o, .int .i64 z] 163)).heap.size 2 (some ⟨w.heap.size, 0, none⟩) 1 [.int .i64 o, .int .i64 z] := by
  have hk : Blk (w.alloc (.cells #[.int .i64 o, .int .i64 z] 163)) w.heap.size 163 #[.int .i64 o, .int .i64 z] := Blk.newAt rfl
  exact ⟨rfl, fun _ => ⟨⟨w.heap.size, 0, none⟩, rfl, hk.lt, fun j u hu => by rw [add_off, Nat.zero_add, hk.cell, ← Array.getElem?_toList]; exact hu⟩⟩

set_option maxRecDepth 100000 in
set_option maxHeartbeats 1000000 in
theorem aMove_any (w : World) (g gc c : Nat) (t : Option Addr) (N : Nat → Prop) (m : AM) (S : ASl) (s : Srv) (o z : Int) (h : ADat w g gc t N m S) (hs : m.chunks[c]? = some s) (hN : ∀ b, N b → b < w.heap.size) (hg : g ≠ gc) (hl : s.moves.length ≤ 20) :
    Calls Tryz.prog 122 #[.pointer (some ⟨g, 0, none⟩), .int .i64 (c : Int), .int .i64 o, .int .i64 z] w (MvPost w g gc c t N m S s o z) := by
  have hcl : c < m.chunks.length := (List.getElem?_eq_some_iff.1 hs).1
  have h2 := h.ok.one
  have hsk := h.ok.srv s (List.mem_of_getElem? hs)
  have hnow := hsk.now_ok
  have hlt := h.lt
  have hcap := h.cap
  have hc1 : w.cell? ⟨g, 1, none⟩ = some (.slice (some ⟨gc, 0, none⟩) m.chunks.length S.cap) := (h.blk.cell 1).trans (aCs_at _ _ _ _ 1 (by omega))
  have hsrv := h.srv c s hs
  have hcf : w.cell? ⟨gc, c * 5 + 2, none⟩ = some (.int .i64 (s.f : Int)) := (h.row.cell _).trans ((hsrv 2 (by omega)).trans rfl)
  have HU := Lib.hid (used_any w g gc s.f t N m S z h hnow.faults)
  have HMK := Lib.hid (fun (ho : o ∈ s.now) (hu : usedA m.chunks s.f z = false) (h1 : 1 ≤ z) (h2 : z ≤ 28) => h.ok.cok.moved hs ho hu h1 h2 hl)
  obtain ⟨n, hn⟩ : ∃ n, n = m.chunks.length := ⟨_, rfl⟩
  have hcn : c < n := by omega
  rw [← hn] at hc1
  have hcI : (c : Int) < (n : Int) := by omega
  have HD := Lib.hid h
  have HS := Lib.hid hs
  have HNN := Lib.hid hN
  have HNOW := Lib.hid hnow
  have HSRV := Lib.hid hsrv
  have HRW := Lib.hid (h.now c s hs).rd
  have HMV := Lib.hid (h.mv c s hs)
  obtain ⟨u, hu⟩ : ∃ u, u = usedA m.chunks s.f z := ⟨_, rfl⟩
  rw [← hu] at HU
  have HUE := Lib.hid hu
  obtain ⟨f, hf⟩ : ∃ f, f = s.f := ⟨_, rfl⟩
  rw [← hf] at hcf HU
  have HF := Lib.hid hf
  have hl1 := hlt.1
  have hl2 := hlt.2
  have hcap1 := hcap.1
  have hcap2 := hcap.2.1
  obtain ⟨P, hP⟩ : ∃ P, P = MvPost w g gc c t N m S s o z := ⟨_, rfl⟩
  rw [← hP]
  have HPF := Lib.hid (show ∀ w', ¬ (usedA m.chunks s.f z = false ∧ goodR s.now o z) → Below w.heap.size w w' → P (.returned (.bool false)) w' from fun w' hb hbl => by rw [hP]; exact ⟨fun h => absurd h hb, fun _ => ⟨rfl, hbl⟩⟩)
  have HPT := Lib.hid (show ∀ w' S', (usedA m.chunks s.f z = false ∧ goodR s.now o z) → ADat w' g gc t N (mvQ m c s o z) S' → Only (fun b => b = gc ∨ MvC S c b) w w' → P (.returned (.bool true)) w' from fun w' S' hb hd ho => by rw [hP]; exact ⟨fun _ => ⟨rfl, S', hd, ho⟩, fun h => absurd hb h⟩)
  clear h hs hN hsk hnow hlt hcap hsrv hu hf hn hP h2
  go_enter Tryz.func122, Tryz.ntmps122
  go_wp2_with fail
  refine HU.out.mono ?_
  rintro _ w2 ⟨rfl, hb2⟩
  have hs2 := hb2.size
  have HB2 := Lib.hid hb2
  clear hb2 HU
  cases u with
  | true =>
    have hbad : ¬ (usedA m.chunks s.f z = false ∧ goodR s.now o z) := fun h => by rw [← HUE.out] at h; cases h.1
    have HBAD := Lib.hid hbad
    clear hbad
    go_wp2_with fail
    exact HPF.out _ HBAD.out HB2.out
  | false =>
    obtain ⟨A, hA⟩ : ∃ A, A = S.nA c := ⟨_, rfl⟩
    obtain ⟨nn, hnn⟩ : ∃ k, k = s.now.length := ⟨_, rfl⟩
    obtain ⟨cn, hcn2⟩ : ∃ k, k = S.nC c := ⟨_, rfl⟩
    have HRW2 := Lib.hid (HRW.out.below HB2.out)
    rw [← hA, ← hnn] at HRW2
    have HRP := Lib.hid (crReplace_any f A nn cn s.now o z w2 (HRW2.out.more hs2) (by rw [HF.out]; exact HNOW.out))
    obtain ⟨C, hC⟩ : ∃ C, C = crC f A nn cn := ⟨_, rfl⟩
    rw [← hC] at HRP
    have hcs : C.size = 2 := by rw [hC]; rfl
    have hcd : ∀ j, j < 2 → S.arr[c * 5 + 2 + j]? = C[j]? := fun j hj => by
      rw [hC, hA, hnn, hcn2]
      obtain rfl | rfl : j = 0 ∨ j = 1 := by omega
      · rw [HF.out]; exact HSRV.out 2 (by omega)
      · exact HSRV.out 3 (by omega)
    have HCD := Lib.hid hcd
    have HROW2 := Lib.hid (HD.out.row.below' HB2.out)
    clear hA hnn hcn2 hC hcd
    go_wp2_with (refine wpList_load_part (o := ⟨some 30, _, _, _, _, _⟩) rfl 85 (.tmp 29) rfl gc (c * 5 + 2) 2 rfl 161 _ C _ HROW2.out Tryz.underlying85 rfl rfl hcs HCD.out ?_)
    refine HRP.out.mono ?_
    rintro _ w3 ⟨hb3, hgd, hbd⟩
    have hs3 := hb3.size
    by_cases hgood : goodR s.now o z
    · obtain ⟨A3, k3, c3, rfl, ho3⟩ := hgd hgood
      have hk3 : k3 = (replL s.now o z).length := by
        obtain ⟨A', c', e, _⟩ := own_slice_n ho3
        injection e
      have hbt := Lib.hid (show usedA m.chunks s.f z = false ∧ goodR s.now o z from ⟨HUE.out.symm, hgood⟩)
      have hmk := HMK.out hgood.1 HUE.out.symm hgood.2.2.1 hgood.2.2.2
      have HCOK := Lib.hid hmk
      have HB3 := Lib.hid (HB2.out.trans (hb3.mono hs2))
      have HO3 := Lib.hid (OwnN.more ho3 hs2)
      obtain ⟨E, hE⟩ : ∃ E, E = crC f A3 k3 c3 := ⟨_, rfl⟩
      rw [← hE]
      have hes : E.size = 2 := by rw [hE]; rfl
      have heo : E.all (·.oneCell') = true := by rw [hE]; exact crC_one _ _ _ _
      have HE := Lib.hid hE
      have HK3 := Lib.hid hk3
      clear hb3 hgd hbd hgood HRP ho3 hmk hE hk3
      go_upto_region 7 with (refine wpList_store_part (o := ⟨none, _, _, _, _, _⟩) rfl 85 (.tmp 10) (.tmp 34) rfl w3.heap.size 0 E rfl rfl 85 (crC 0 none 0 0) (by rw [crZ]; exact Blk.newAt rfl) (by rw [hes]; exact crC_info 0 none 0 0) (by rw [hes]; simp [crC]) heo ?_; intro w4 hT4 hD4; rw [spl_self _ _ (by rw [hes]; rfl)] at hD4)
      have hb4 : Below w3.heap.size w3 w4 := hT4.below (below_lit w3 _) (Nat.le_refl _)
      obtain ⟨g10, hg10⟩ : ∃ g, g = w3.heap.size := ⟨_, rfl⟩
      rw [← hg10] at hD4 ⊢
      have HD4 := Lib.hid hD4
      have HB4 := Lib.hid (HB3.out.trans (hb4.mono HB3.out.size))
      have HO4 := Lib.hid (HO3.out.below_ hb4)
      have HROW4 := Lib.hid (HD.out.row.below' HB4.out)
      have HMV4 := Lib.hid (rowD_keep HMV.out (fun b hb => HB4.out.block b (rowD_lt HMV.out hb).2) : w4.ownsRow 0 163 2 (.slice (S.mA c) s.moves.length (S.mC c)) s.moves.length (mvCells s.moves))
      clear hT4 hD4 hb4 HO3 HROW2
      have hidx : c * 5 + 2 + 2 ≤ S.arr.size := by omega
      go_upto_region 8 with (first
        | (refine wpList_load_part (o := ⟨some 39, _, _, _, _, _⟩) rfl 85 (.tmp 10) rfl g10 0 2 rfl 85 _ E _ HD4.out Tryz.underlying85 rfl rfl hes (fun _ _ => by rw [Nat.zero_add]; try rfl) ?_)
        | (refine wpList_store_part (o := ⟨none, _, _, _, _, _⟩) rfl 85 (.tmp 41) (.tmp 39) rfl gc (c * 5 + 2) E rfl rfl 161 S.arr HROW4.out (by rw [hes]; exact crC_info 0 none 0 0) (by rw [hes]; exact hidx) heo ?_; intro w5 hT5 hD5))
      have hmvg : (Value.slice (S.mA c) s.moves.length (S.mC c)).ownBlock ≠ some gc := own_blk_ne HMV4.out HROW4.out (by decide)
      have HMV5 := Lib.hid (rowD_keep HMV4.out (fun b hb => hT5.block b (fun e => hmvg (by rw [hb, e]))) : w5.ownsRow 0 163 2 (.slice (S.mA c) s.moves.length (S.mC c)) s.moves.length (mvCells s.moves))
      have HO5 := Lib.hid (HO4.out.keep_ fun b hb => hT5.block b (fun e => own_blk_ne HO4.out HROW4.out (by decide) (by rw [hb, e])) : OwnN w5 w.heap.size (.slice A3 k3 c3) (replL s.now o z))
      have hsp := hes
      have hg4 : ∀ j, (spl S.arr (c * 5 + 2) E.toList)[j]? = if c * 5 + 2 ≤ j ∧ j < c * 5 + 2 + 2 then E[j - (c * 5 + 2)]? else S.arr[j]? := fun j => by
        rw [spl_get (by rw [Array.length_toList, hes]; exact hidx), Array.length_toList, hes]
        split
        · rw [Array.getElem?_toList]
        · rfl
      have hmc : w5.cell? ⟨gc, c * 5 + 4, none⟩ = some (.slice (S.mA c) s.moves.length (S.mC c)) := by
        rw [hD5.cell, hg4, if_neg (by omega)]
        exact HSRV.out 4 (by omega)
      have hfzc := hD5.frozen (c * 5 + 4)
      have HG4 := Lib.hid hg4
      have HD5 := Lib.hid hD5
      have HT5 := Lib.hid hT5
      obtain ⟨mn, hmn⟩ : ∃ k, k = s.moves.length := ⟨_, rfl⟩
      rw [← hmn] at hmc HMV5 hl
      have HMN := Lib.hid hmn
      obtain ⟨i0, hi0, hz0, hz1, hz2⟩ := info_parts mv_info
      have hb6 := below_lit w5 (.cells #[.int .i64 o, .int .i64 z] 163)
      have HMV6 := Lib.hid (rowD_keep HMV5.out (fun b hb => hb6.block b (rowD_lt HMV5.out hb).2) : (w5.alloc (.cells #[.int .i64 o, .int .i64 z] 163)).ownsRow 0 163 2 (.slice (S.mA c) mn (S.mC c)) mn (mvCells s.moves))
      have HRD6 := Lib.hid (reads2 w5 o z)
      clear hT5 hD5 hg4 hmn hsp hmvg HROW4 HMV4 HO4 HD4 hb6
      go_wp2_with (at_builtin; go_must (refine wpList_append_any _ rfl (.tmp 46) (.tmp 50) 159 rfl 0 163 i0 _ 2 16 Tryz.underlying159 hi0 hz0 hz1 hz2 rfl (by omega) _ _ _ rfl HMV6.out _ (some ⟨w5.heap.size, 0, none⟩) 1 1 [.int .i64 o, .int .i64 z] rfl HRD6.out ?d1 ?d2 ?d3 ?d4 ?_))
      case d1 => first | (intro u hu; simp only [List.mem_cons, List.not_mem_nil, or_false] at hu; rcases hu with rfl | rfl <;> rfl) | simp [Value.oneCell']
      case d2 => unfold maxLen; omega
      case d3 => omega
      case d4 => omega
      intro v6 w6 hown6 hg6 hor6
      obtain ⟨A8, c8, hv6, _⟩ := own_slice hown6
      subst hv6
      obtain ⟨arr, harr⟩ : ∃ arr, arr = spl S.arr (c * 5 + 2) E.toList := ⟨_, rfl⟩
      rw [← harr] at HD5 HG4
      have hD6a := HD5.out.alloc (.cells #[.int .i64 o, .int .i64 z] 163)
      have hmg : (Value.slice (S.mA c) mn (S.mC c)).ownBlock ≠ some gc := own_blk_ne HMV6.out hD6a (by decide)
      have hD6 := hD6a.grown hg6 (fun e => hmg e.symm)
      have hO6a : OwnN (w5.alloc (.cells #[.int .i64 o, .int .i64 z] 163)) w.heap.size (.slice A3 k3 c3) (replL s.now o z) := HO5.out.below_ (below_lit w5 _)
      have hO6 : OwnN w6 w.heap.size (.slice A3 k3 c3) (replL s.now o z) := hO6a.keep_ fun b hb => hg6.block b (rowD_lt hO6a hb).2 (fun e => by
        rcases HMV6.out.2 with ⟨e1, _⟩ | ⟨g', cap', cur', e1, _, e3, _⟩
        · rw [e1] at e; cases e
        · have hB : Blk (w5.alloc (.cells #[.int .i64 o, .int .i64 z] 163)) g' 163 cur' := e3
          rw [e1] at e
          have e' : b = g' := by simpa [Value.ownBlock] using e
          exact own_blk_ne hO6a hB (by decide) (by rw [hb, e']))
      have hcm6 : w6.cell? ⟨gc, c * 5 + 4, none⟩ = some (.slice (S.mA c) mn (S.mC c)) := by
        rw [hD6.cell, HG4.out, if_neg (by omega), HMN.out]
        exact HSRV.out 4 (by omega)
      have hfz6 := hD6.frozen (c * 5 + 4)
      have hT7 := Turned.setCell w6 ⟨gc, c * 5 + 4, none⟩ (.slice A8 (mn + 1) c8)
      have hD7 := hD6.set_ (c * 5 + 4) (.slice A8 (mn + 1) c8)
      have hO7 : OwnN (w6.setCell ⟨gc, c * 5 + 4, none⟩ (.slice A8 (mn + 1) c8)) w.heap.size (.slice A3 k3 c3) (replL s.now o z) := hO6.keep_ fun b hb => hT7.block b (fun e => own_blk_ne hO6 hD6 (by decide) (by have e' : b = gc := e; rw [hb, e']))
      have hM7 : (w6.setCell ⟨gc, c * 5 + 4, none⟩ (.slice A8 (mn + 1) c8)).ownsRow 0 163 2 (.slice A8 (mn + 1) c8) (mn + 1) (mvCells (s.moves ++ [(o, z)])) := by
        have : mvCells (s.moves ++ [(o, z)]) = mvCells s.moves ++ [.int .i64 o, .int .i64 z] := by rw [mvCells_app]; rfl
        rw [this]
        exact rowD_keep hown6 (fun b hb => hT7.block b (fun e => own_blk_ne hown6 hD6 (by decide) (by have e' : b = gc := e; rw [hb, e'])))
      have hasz : arr.size = S.cap * 5 := by rw [harr, spl_size (by rw [Array.length_toList, hes]; exact hidx)]; exact hcap1
      have hobk : ∀ b, (Value.slice (S.mA c) mn (S.mC c)).ownBlock = some b → MvC S c b := fun b hb => by
        cases hma : S.mA c with
        | none => rw [hma] at hb; cases hb
        | some a => rw [hma] at hb; exact ⟨a, hma, by simpa [Value.ownBlock] using hb⟩
      have hz5 : (w5.alloc (.cells #[.int .i64 o, .int .i64 z] 163)).heap.size = w5.heap.size + 1 := by simp
      have hs4 := HB4.out.size
      have ho7 : Only (fun b => b = gc ∨ MvC S c b) w (w6.setCell ⟨gc, c * 5 + 4, none⟩ (.slice A8 (mn + 1) c8)) := by
        have h4 : Only (fun b => b = gc ∨ MvC S c b) w w4 := Only.of_below HB4.out
        have h5 : Only (fun b => b = gc ∨ MvC S c b) w4 w5 := Only.of_turned HT5.out (.inl rfl)
        have h6 : Only (fun b => b = gc ∨ MvC S c b) w5 (w5.alloc (.cells #[.int .i64 o, .int .i64 z] 163)) := Only.of_below (below_lit w5 _)
        have h7 : Only (fun b => b = gc ∨ MvC S c b) (w5.alloc (.cells #[.int .i64 o, .int .i64 z] 163)) w6 := ⟨hg6.os, hg6.tape, hg6.output, hg6.size, fun b hb hn => hg6.block b hb (fun e => hn (.inr (hobk b e.symm)))⟩
        have h8 : Only (fun b => b = gc ∨ MvC S c b) w6 (w6.setCell ⟨gc, c * 5 + 4, none⟩ (.slice A8 (mn + 1) c8)) := Only.of_turned hT7 (.inl rfl)
        exact (((h4.trans h5).trans h6).trans h7).trans h8
      have hdat := ADat.moved HD.out HS.out HNN.out hg ho7 (arr := arr.setIfInBounds (c * 5 + 4) (.slice A8 (mn + 1) c8)) hD7 (by simp [hasz]) (nA := A3) (nC := c3) (mA := A8) (mC := c8)
        (fun i j hi hne hj => by
          rw [Array.getElem?_setIfInBounds, if_neg (by omega), HG4.out, if_neg (by omega)])
        (fun j hj => by rw [Array.getElem?_setIfInBounds, if_neg (by omega), HG4.out, if_neg (by omega)])
        (by rw [Array.getElem?_setIfInBounds, if_neg (by omega), HG4.out, if_pos (by omega), HE.out, show c * 5 + 2 - (c * 5 + 2) = 0 by omega, HF.out]; rfl)
        (by rw [Array.getElem?_setIfInBounds, if_neg (by omega), HG4.out, if_pos (by omega), HE.out, show c * 5 + 3 - (c * 5 + 2) = 1 by omega, ← HK3.out]; rfl)
        (by rw [Array.getElem?_setIfInBounds, if_pos rfl, if_pos (by omega), HMN.out])
        (by rw [← HK3.out]; exact hO7) (by rw [← HMN.out]; exact hM7)
        (fun a ha => by
          rcases hor6 with e | e
          · left
            have e2 : (Value.slice (S.mA c) mn (S.mC c)).ownBlock = some a.block := by rw [← e, ha]; rfl
            rcases HMV6.out.2 with ⟨e1, _⟩ | ⟨g', cap', cur', e1, _, e3, _⟩
            · rw [e1] at e2; cases e2
            · rw [e1] at e2
              have e' : a.block = g' := by simpa [Value.ownBlock] using e2.symm
              injection e1 with e1
              rw [e', e1]
          · right
            rw [ha] at e
            have e' : a.block = w5.heap.size + 1 := by simpa [Value.ownBlock] using e
            have := HT5.out.size
            omega) HCOK.out
      have HDD := Lib.hid hdat
      have HOO := Lib.hid ho7
      clear hdat ho7 hM7 hO7 hD7 hT7 hO6 hO6a hD6 hD6a hown6 hg6 hor6 hobk hasz harr HMV5 HMV6 HRD6 HO5 HD5 hmc
      go_wp2_with fail
      exact HPT.out _ _ hbt.out HDD.out HOO.out
    · obtain ⟨er, her, rfl⟩ := hbd hgood
      have HB3 := Lib.hid (HB2.out.trans (hb3.mono hs2))
      have hb : ¬ (usedA m.chunks s.f z = false ∧ goodR s.now o z) := fun h => hgood h.2
      have HBAD := Lib.hid hb
      have heb : ((er : Int) != 0) = true := by simp; omega
      have HOO := Lib.hid (Blk.newAt rfl : Blk (w3.alloc (.cells (crC 0 none 0 0) 85)) w3.heap.size 85 (crC 0 none 0 0))
      clear hb3 hgd hbd hgood hb HRP
      go_wp2_with (refine wpList_store_part (o := ⟨none, _, _, _, _, _⟩) rfl 85 (.tmp 10) (.tmp 34) rfl w3.heap.size 0 (crC 0 none 0 0) rfl rfl 85 (crC 0 none 0 0) (Blk.newAt rfl) (crC_info _ _ _ _) (by simp [crC]) (crC_one _ _ _ _) ?_; intro w4 hT4 hD4; rw [crC_spl] at hD4)
      have hb4 : Below w3.heap.size w3 w4 := hT4.below (below_lit w3 _) (Nat.le_refl _)
      exact HPF.out _ HBAD.out (HB3.out.trans (hb4.mono HB3.out.size))

end Go.Proofs.YtdpoedgjehofiaaGreat

/- What a vault's Do hands back, and the state ahead of its last leaf's turn: plain lemmas. -/
namespace Go.Proofs.YtdpoedgjehofiaaGreat
set_option linter.unusedVariables false
open Go.RowKit Go.Maps

/-- what Do hands back -/
def DoPost (w : World) (V : VLoc) (N : Nat → Prop) (L : List (List UInt8)) (asked : Nat) (p : VM × Ans × Nat) (r : Ending) (w' : World) : Prop :=
  ∃ D, r = .returned (.tuple #[.agg D, .int .i64 (p.2.2 : Int)]) ∧ AnsVal w' w.heap.size D p.2.1 ∧ VDone w w' V N p.1 L asked 6
theorem VDone.more {w w' : World} {V : VLoc} {N : Nat → Prop} {m : VM} {L : List (List UInt8)} {asked q q' : Nat} (h : VDone w w' V N m L asked q) (hq : q ≤ q') : VDone w w' V N m L asked q' := by
  obtain ⟨L', a', h1, h2, h3, h4⟩ := h.book
  exact ⟨h.vat, ⟨L', a', h1, by omega, h3, h4⟩, h.only⟩

theorem VAt.mono {w : World} {V : VLoc} {N N' : Nat → Prop} {m : VM} (h : VAt w V N m) (hN : ∀ b, b < w.heap.size → N' b → N b) (ha : ∀ b, V.has b → N' b) : VAt w V N' m := by
  obtain ⟨S, hd⟩ := h.dat
  exact ⟨⟨S, hd.mono hN⟩, h.tree, h.far, ha⟩
/-- a call's own variable is laid behind -/
theorem VDone.last {w w2 w5 w9 : World} {V : VLoc} {N : Nat → Prop} {m m' : VM} {L : List (List UInt8)} {asked q g4 : Nat} (h0 : VAt w V N m) (hN : ∀ b, N b → b < w.heap.size) (hb : Below w.heap.size w w2) (h : VDone w2 w5 V (fun b => N b ∨ b = g4) m' L asked q) (hT : Turned g4 w5 w9) (hg : w.heap.size ≤ g4) : VDone w w9 V N m' L asked q := by
  have ho : Only (fun b => b = g4) w5 w9 := Only.of_turned hT rfl
  have hlt : ∀ b, V.has b → b ≠ g4 := fun b hb e => by have := hN b (h0.all b hb); omega
  obtain ⟨L', a', q1, q2, q3, q4⟩ := h.book
  refine ⟨(h.vat.only ho (fun b e => .inr e) (hlt _ (.inl rfl)) (fun b hb e => by have := h0.tree.lt hb; omega)).mono (fun b _ hn => .inl hn) h0.all, ⟨L', a', q1.only ho (hlt _ (.inr (.inr (.inl rfl)))) (hlt _ (.inr (.inr (.inr (.inl rfl))))) (hlt _ (.inr (.inr (.inr (.inr rfl))))), q2, q3, q4⟩, ?_⟩
  have h1 := (Only.of_below hb : Only V.has w w2).trans h.only
  exact ⟨hT.os.trans h1.os, hT.tape.trans h1.tape, hT.output.trans h1.output, by have := hT.size; have := h1.size; omega, fun b hb hn => (hT.block b (by omega)).trans (h1.block b hb hn)⟩

theorem spl2_size {cs : Array Value} {o : Nat} {a b : Value} (h : o + 2 ≤ cs.size) : (spl cs o [a, b]).size = cs.size := spl_size (by simpa using h)
theorem spl2_at {cs : Array Value} {o : Nat} {a b : Value} (h : o + 2 ≤ cs.size) : (spl cs o [a, b])[o]? = some a := by
  rw [spl_get (by simpa using h), if_pos (by simp), Nat.sub_self]; rfl
theorem spl2_at1 {cs : Array Value} {o : Nat} {a b : Value} (h : o + 2 ≤ cs.size) : (spl cs o [a, b])[o + 1]? = some b := by
  rw [spl_get (by simpa using h), if_pos (by simp), show o + 1 - o = 1 by omega]; rfl
theorem spl2_else {cs : Array Value} {o i : Nat} {a b : Value} (h : o + 2 ≤ cs.size) (h0 : i ≠ o) (h1 : i ≠ o + 1) : (spl cs o [a, b])[i]? = cs[i]? := by
  rw [spl_get (by simpa using h), if_neg (by simp; omega)]
/-- a client's stamp is turned, its data struck -/
theorem VDat.setL0 {w w' : World} {g : Nat} {t : Option Addr} {N : Nat → Prop} {m : VM} {S : VSl} {j st : Nat} (h : VDat w g t N m S) (hT : Turned g w w') (hN : N g) (hB : Blk w' g 73 (spl (vC t m S) (11 + j * 2) [.int .i64 (st : Int), .slice none 0 0])) (hj : j < 4) (hst : st ≤ maxN) : VDat w' g t N (Go.Proofs.YtdpoedgjehofiaaGreat.setL m j (st, [])) (sLast S j none 0) := by
  have hz : 11 + j * 2 + 2 ≤ (vC t m S).size := by rw [vC_size]; omega
  refine h.setL (d := []) hT hN hB hj (by rw [spl2_size hz, vC_size]) (spl2_at hz) (spl2_at1 hz) (fun i hi h0 h1 => spl2_else hz h0 h1) (Far.nil _ _) hst (.inl rfl)
theorem setL_setL (m : VM) (j : Nat) (y z : Nat × List UInt8) : Go.Proofs.YtdpoedgjehofiaaGreat.setL (Go.Proofs.YtdpoedgjehofiaaGreat.setL m j y) j z = Go.Proofs.YtdpoedgjehofiaaGreat.setL m j z := by
  unfold Go.Proofs.YtdpoedgjehofiaaGreat.setL; simp
/-- a client's data is turned -/
theorem VDat.setLd {w w' : World} {g : Nat} {t : Option Addr} {N : Nat → Prop} {m : VM} {S : VSl} {j st : Nat} {d0 d : List UInt8} {A : Option Addr} {c : Nat} (h : VDat w g t N (Go.Proofs.YtdpoedgjehofiaaGreat.setL m j (st, d0)) S) (hl : m.last.length = 4) (hT : Turned g w w') (hN : N g) (hB : Blk w' g 73 ((vC t (Go.Proofs.YtdpoedgjehofiaaGreat.setL m j (st, d0)) S).setIfInBounds (11 + j * 2 + 1) (.slice A d.length c))) (hj : j < 4) (hf : Far w' N A c d) (hst : st ≤ maxN) (hd : d = [] ∨ d.length = 16 ∧ 0 < st) : ∃ S', VDat w' g t N (Go.Proofs.YtdpoedgjehofiaaGreat.setL m j (st, d)) S' := by
  have hz : (vC t (Go.Proofs.YtdpoedgjehofiaaGreat.setL m j (st, d0)) S).size = 20 := vC_size _ _ _
  have e := setL_setL m j (st, d0) (st, d)
  refine ⟨_, e ▸ h.setL (d := d) (st := st) (A := A) (c := c) hT hN hB hj (by simp [hz]) ?_ ?_ ?_ hf hst hd⟩
  · rw [Array.getElem?_setIfInBounds, if_neg (by omega), vC_stamp _ _ _ _ hj, setL_last m j j _ hl hj, if_pos rfl]
  · rw [Array.getElem?_setIfInBounds, if_pos rfl, hz, if_pos (by omega)]
  · intro i hi h0 h1
    rw [Array.getElem?_setIfInBounds, if_neg (by omega)]
/-- a block is turned -/
theorem VDat.setBd {w w' : World} {g : Nat} {t : Option Addr} {N : Nat → Prop} {m : VM} {S : VSl} {b : Nat} {d : List UInt8} {A : Option Addr} {c : Nat} (h : VDat w g t N m S) (hT : Turned g w w') (hN : N g) (hB : Blk w' g 73 ((vC t m S).setIfInBounds (3 + b) (.slice A d.length c))) (hb : b < 8) (hf : Far w' N A c d) (hd : d.length = 16) : VDat w' g t N (Go.Proofs.YtdpoedgjehofiaaGreat.setB m b d) (sBlock S b A c) := by
  have hz : (vC t m S).size = 20 := vC_size _ _ _
  refine h.setB (d := d) hT hN hB hb (by simp [hz]) ?_ ?_ hf hd
  · rw [Array.getElem?_setIfInBounds, if_pos rfl, hz, if_pos (by omega)]
  · intro i hi h0
    rw [Array.getElem?_setIfInBounds, if_neg (by omega)]
theorem leaves_set2 {m m' : VM} {a b : Nat} (ha : a < 13) (hb : b < 13) (h : ∀ j, j < 13 → j ≠ a → j ≠ b → leafV m' j = leafV m j) : ((leavesV m).set a (leafV m' a)).set b (leafV m' b) = leavesV m' := by
  refine leaves_ext (by rw [List.length_set, List.length_set, leavesV_len]) fun j hj => ?_
  rw [List.getElem?_set]
  by_cases e : b = j
  · subst e; rw [if_pos rfl, List.length_set, leavesV_len, if_pos hb]
  · rw [if_neg e, List.getElem?_set]
    by_cases e2 : a = j
    · subst e2; rw [if_pos rfl, leavesV_len, if_pos ha]
    · rw [if_neg e2, leavesV_get m j hj, h j hj (fun e' => e2 e'.symm) (fun e' => e e'.symm)]

/-- the vault ahead of its last leaf's turn -/
structure TailSt (w : World) (V : VLoc) (N : Nat → Prop) (m' : VM) (L : List (List UInt8)) (asked q i : Nat) (wx : World) : Prop where
  dat : ∃ S, VDat wx V.g (some ⟨V.T.t, 0, none⟩) N m' S
  tree : ∃ ls, TreeAt wx V.T V.k ls ∧ ls.length = 13 ∧ ls.set i (leafV m' i) = leavesV m' ∧ ∃ L' a', BookAt wx V.k L' a' ∧ a' ≤ asked + q ∧ (∀ x, x ∈ L → x ∈ L') ∧ InBook L' ls
  only : Only V.has w wx
/-- only the vault's own block was turned -/
theorem TailSt.start {w w' : World} {V : VLoc} {N N' : Nat → Prop} {m m' : VM} {L : List (List UInt8)} {asked q i : Nat} {S : VSl} (h : VAt w V N m) (hbk : BookAt w V.k L asked) (hin : InBook L (leavesV m)) (ho : Only (fun b => b = V.g) w w') (hd : VDat w' V.g (some ⟨V.T.t, 0, none⟩) N' m' S) (hi : i < 13) (hl : ∀ j, j < 13 → j ≠ i → leafV m' j = leafV m j) : TailSt w V N' m' L asked q i w' :=
  ⟨⟨S, hd⟩, ⟨leavesV m, h.tree.only ho (fun b hb e => h.far.1 (e ▸ hb)), leavesV_len m, leaves_set1 hi hl, L, asked, hbk.only ho (fun e => h.far.2 (.inl e.symm)) (fun e => h.far.2 (.inr (.inl e.symm))) (fun e => h.far.2 (.inr (.inr e.symm))), by omega, fun _ h => h, hin⟩, ho.mono fun b _ e => .inl e⟩
/-- the last leaf is turned -/
theorem TailSt.done {w w0 w' wx : World} {V : VLoc} {N N' : Nat → Prop} {m m' : VM} {L : List (List UInt8)} {asked q i : Nat} (h0 : VAt w0 V N m) (hN : ∀ b, V.has b → N' b) (h : TailSt w V N' m' L asked q i wx) {ls : List (List UInt8)} {L1 : List (List UInt8)} {a1 : Nat} (hls : ls.set i (leafV m' i) = leavesV m') (h1 : a1 ≤ asked + q) (h2 : ∀ x, x ∈ L → x ∈ L1) (h3 : InBook L1 ls) (hs : SetBy wx w' V.T V.k ls (ls.set i (leafV m' i)) L1 a1 3) : VDone w w' V N' m' L asked (q + 3) := by
  obtain ⟨S, hd⟩ := h.dat
  obtain ⟨L', a', p1, p2, p3, p4⟩ := hs.book
  have hfar := h0.far
  refine ⟨⟨⟨S, hd.only hs.only (fun b hb => hN b (.inr hb)) ?_⟩, hls ▸ hs.tree, hfar, hN⟩, ⟨L', a', p1, by omega, fun x hx => p3 x (h2 x hx), hls ▸ p4 L1 (fun _ h => h) h3⟩, h.only.trans (hs.only.mono fun b _ e => .inr e)⟩
  rintro (e | e)
  · exact hfar.1 (.inr (.inr e))
  · exact hfar.2 e
theorem VDone.below {w w' w'' : World} {V : VLoc} {N : Nat → Prop} {m : VM} {L : List (List UInt8)} {asked q : Nat} (h : VDone w w' V N m L asked q) (hb : Below w'.heap.size w' w'') : VDone w w'' V N m L asked q := by
  obtain ⟨L', a', h1, h2, h3, h4⟩ := h.book
  exact ⟨h.vat.below hb, ⟨L', a', h1.below hb, h2, h3, h4⟩, h.only.trans (Only.of_below hb)⟩
theorem ran_last {m : VM} (hl : m.last.length = 4) {x : Wish} {j : Nat} (hj : j = (x.client - 31).toNat) (hj4 : j < 4) : (lastV (ranV m x).1 j).2 = (ranV m x).2 := by
  by_cases hk : x.kind = 1
  · rw [(ran_read hk).1, (ran_read hk).2, ← hj, setL_last m j j _ hl hj4, if_pos rfl]
  · rw [(ran_write hk).1, (ran_write hk).2, ← hj]
    show (lastV (Go.Proofs.YtdpoedgjehofiaaGreat.setL m j (x.stamp.toNat, [])) j).2 = _
    rw [setL_last m j j _ hl hj4, if_pos rfl]
theorem leafV_ran {m : VM} (h : VOk m) {x : Wish} {j b : Nat} (hj : j = (x.client - 31).toNat) (hb : b = x.block.toNat) (hj4 : j < 4) (hb8 : b < 8) (i : Nat) (hi : i ≠ 8 + j) (hib : x.kind = 1 ∨ i ≠ b) : leafV (ranV m x).1 i = leafV m i := by
  by_cases hk : x.kind = 1
  · rw [(ran_read hk).1, ← hj]
    exact leafV_setL h.last hj4 i hi
  · rw [(ran_write hk).1, ← hj, ← hb, leafV_setB (m := Go.Proofs.YtdpoedgjehofiaaGreat.setL m j (x.stamp.toNat, [])) h.blocks hb8 i (hib.resolve_left hk)]
    exact leafV_setL h.last hj4 i hi

end Go.Proofs.YtdpoedgjehofiaaGreat
