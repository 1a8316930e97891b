/- Parts of the proof, in one text: AtV, AtW, VaultW, AtX, VaultR, VaultT, AtY. -/
import Derived.Test.YtlaodmmjhjpfmaaGreatZ20
import Derived.BigRegion
import Derived.Deep.DeepCutAuto
import Derived.Test.YtlaodmmjhjpfmaaGreatZ18
import Derived.Test.YtlaodmmjhjpfmaaGreatZ14
import Derived.Test.YtlaodmmjhjpfmaaGreatZ6

/- Contract of (*Atlas).Crews, of a chunk that is. -/
namespace Go.Proofs.YtlaodmmjhjpfmaaGreat
set_option linter.unusedVariables false
set_option linter.unusedSimpArgs false
open Go.RowKit Go.Maps

attribute [local irreducible] wpList wpCalm
def CrewsPost (w : World) (s : Srv) (e : Ending) (w' : World) : Prop := ∃ v nA nC, e = .returned v ∧ OwnCr w' w.heap.size v s.f (crewsL s.first s.moves) nA nC ∧ Below w.heap.size w w'
theorem mv_at {w : World} {A : Option Addr} {n c : Nat} {ms : List (Int × Int)} {k : Nat} {o z : Int} (h : w.ownsRow 0 153 2 (.slice A n c) n (mvCells ms)) (hk : ms[k]? = some (o, z)) : ∃ gm cur, A = some ⟨gm, 0, none⟩ ∧ Blk w gm 153 cur ∧ ∀ j, j < 2 → cur[k * 2 + j]? = (#[.int .i64 o, .int .i64 z] : Array Value)[j]? := by
  obtain ⟨hkl, hke⟩ := List.getElem?_eq_some_iff.1 hk
  have hl := h.1
  rw [mvCells_len] at hl
  rcases h.2 with ⟨_, h0⟩ | ⟨gm, cap, cur, e, _, h3, h4, h5, h6, h7⟩
  · omega
  · injection e with e
    refine ⟨gm, cur, e, h3, fun j hj => ?_⟩
    have hget := mvCells_get ms k hkl
    rw [hke] at hget
    have ht : ∀ q, q < n * 2 → cur[q]? = (mvCells ms)[q]? := fun q hq => by
      rw [← h7, List.getElem?_take, if_pos hq, Array.getElem?_toList]
    obtain rfl | rfl : j = 0 ∨ j = 1 := by omega
    · rw [Nat.add_zero, ht _ (by omega), hget.1]; rfl
    · rw [ht _ (by omega), hget.2]; rfl
theorem own_reads {w : World} {B n : Nat} {A : Option Addr} {c : Nat} {zs : List Int} (h : OwnN w B (.slice A n c) zs) : zs.length = n ∧ Reads w w.heap.size 1 A n (zs.map vn) := by
  obtain ⟨A', c', e, _, _, h3, _⟩ := own_slice_n h
  injection e with e1 e2 _
  subst e1 e2
  exact ⟨rfl, h3⟩
theorem reads_crew (w : World) (C : Array Value) (h : C.size = 2) : Reads (w.alloc (.cells C 57)) (w.alloc (.cells C 57)).heap.size 2 (some ⟨w.heap.size, 0, none⟩) 1 C.toList := by
  have hk : Blk (w.alloc (.cells C 57)) w.heap.size 57 C := Blk.newAt rfl
  exact ⟨by simp [h], fun _ => ⟨⟨w.heap.size, 0, none⟩, rfl, hk.lt, fun j u hu => by rw [add_off, Nat.zero_add, hk.cell, ← Array.getElem?_toList]; exact hu⟩⟩
theorem rowD_less {w : World} {base base' : Nat} {e : TypeId} {size : Nat} {v : Value} {n : Nat} {xs : List Value} (h : w.ownsRow base e size v n xs) (hb : base' ≤ base) : w.ownsRow base' e size v n xs := by
  refine ⟨h.1, ?_⟩
  rcases h.2 with h1 | ⟨g, cap, cur, h1, h2, h3⟩
  · exact .inl h1
  · exact .inr ⟨g, cap, cur, h1, Nat.le_trans hb h2, h3⟩
theorem CrewsPost.of {w w6 wr : World} {s : Srv} {v : Value} {nA : Nat → Option Addr} {nC : Nat → Nat} (h : OwnCr wr w6.heap.size v s.f (crewsL s.first s.moves) nA nC) (hb : Below w.heap.size w wr) (hw : w.heap.size ≤ w6.heap.size) : CrewsPost w s (.returned v) wr :=
  ⟨v, nA, nC, rfl, ⟨rowD_less h.row hw, fun i l hl => OwnN.more (h.nodes i l hl) hw⟩, hb⟩
structure CrLp (w w6 : World) (g6 f : Nat) (s : Srv) (k : Nat) (ov : Value) (wr : World) : Prop where
  own : ∃ nA nC, OwnCr wr w6.heap.size ov f (crewsL s.first (s.moves.take k)) nA nC
  cur : ∃ A n c, Blk wr g6 57 (crC f A n c) ∧ Reads wr wr.heap.size 1 A n ((nowL s.first (s.moves.take k)).map vn)
  below : Below w.heap.size w wr
  size : w6.heap.size ≤ wr.heap.size

set_option maxRecDepth 100000 in
set_option maxHeartbeats 1000000 in
theorem aCrews_any (w : World) (g gc i : Nat) (T : Nat) (N : Nat → Prop) (m : AM) (S : ASl) (s : Srv) (h : ADat w g gc (some ⟨T, 0, none⟩) N m S) (hs : m.chunks[i]? = some s) :
    Calls Tryz.prog 23 #[.pointer (some ⟨g, 0, none⟩), .int .i64 ((i : Int) + 1)] w (CrewsPost w s) := by
  have hil : i < m.chunks.length := (List.getElem?_eq_some_iff.1 hs).1
  have h2 := h.ok.one
  have hok := h.ok.srv s (List.mem_of_getElem? hs)
  have hc1 : w.cell? ⟨g, 1, none⟩ = some (.slice (some ⟨gc, 0, none⟩) m.chunks.length S.cap) := (h.blk.cell 1).trans (aCs_at _ _ _ _ 1 (by omega))
  have HNO := Lib.hid (aNone_any w g T ((h.blk.cell 0).trans (aCs_at _ _ _ _ 0 (by omega))))
  have hsrv := h.srv i s hs
  have hi := h.srvIn hs
  obtain ⟨n, hn⟩ : ∃ n, n = m.chunks.length := ⟨_, rfl⟩
  have hin : i < n := by omega
  rw [← hn] at hc1
  have hx1 : ¬ ((i : Int) + 1 < 1) := by omega
  have hx2 : ¬ ((n : Int) < (i : Int) + 1) := by omega
  have hx3 : (i : Int) + 1 - 1 = (i : Int) := by omega
  have hx4 : (i : Int) < (n : Int) := by omega
  have hx5 : (0 : Int) ≤ (i : Int) := by omega
  obtain ⟨D, hD⟩ : ∃ D, D = srvC s S i := ⟨_, rfl⟩
  have hds : D.size = 5 := by rw [hD]; rfl
  have hd1 : D.all (·.oneCell') = true := by rw [hD]; simp [srvC, Value.oneCell']
  rw [← hD] at hsrv
  have HROW := Lib.hid h.row
  have HSRV := Lib.hid hsrv
  have HD := Lib.hid hD
  have HI := Lib.hid hi
  have HOK := Lib.hid hok
  have hl1 := h.lt.1
  have hl2 := h.lt.2
  obtain ⟨f, hf⟩ : ∃ f, f = s.f := ⟨_, rfl⟩
  have HF := Lib.hid hf
  obtain ⟨P, hP⟩ : ∃ P, P = CrewsPost w s := ⟨_, rfl⟩
  have HP := Lib.hid hP
  rw [← hP]
  clear h hs hok hsrv hi hn hD hf hP
  go_enter Tryz.func23, Tryz.ntmps23
  go_wp2_with fail
  refine HNO.out.mono ?_
  rintro _ _ ⟨rfl, rfl⟩
  have hzs : zSrvC.size = 5 := rfl
  go_upto_region 4 with (first | refine wpList_load_part (o := ⟨some 32, _, _, _, _, _⟩) rfl 150 (.tmp 31) rfl gc (i * 5) 5 rfl 150 _ D _ HROW.out Tryz.underlying150 rfl rfl hds HSRV.out ?_ | (refine wpList_store_part (o := ⟨none, _, _, _, _, _⟩) rfl 150 (.tmp 5) (.tmp 32) rfl w.heap.size 0 D rfl rfl 150 zSrvC (Blk.newAt rfl) (by rw [hds]; kernel_rfl) (by rw [hds, hzs]; omega) hd1 ?_; intro w5 hT5 hD5))
  rw [spl_self _ _ (by rw [hds, hzs])] at hD5
  have hb5 : Below w.heap.size w w5 := hT5.below ((Below.refl _ _).alloc (Nat.le_refl _) _) (Nat.le_refl _)
  obtain ⟨g5, hg5⟩ : ∃ b, b = w.heap.size := ⟨_, rfl⟩
  rw [← hg5] at hD5 ⊢
  have hgw5 : w.heap.size ≤ g5 := by omega
  have HB5 := Lib.hid hb5
  have HD5 := Lib.hid hD5
  have hs5 := hb5.size
  have hl5 := hD5.lt
  obtain ⟨C, hC⟩ : ∃ C, C = crC f (S.fA i) s.first.length (S.fC i) := ⟨_, rfl⟩
  have hcs : C.size = 2 := by rw [hC]; rfl
  have hc1 : C.all (·.oneCell') = true := by rw [hC]; exact crC_one _ _ _ _
  have hcd : ∀ j, j < 2 → D[0 + j]? = C[j]? := fun j hj => by
    rw [HD.out, hC, HF.out, Nat.zero_add]
    obtain rfl | rfl : j = 0 ∨ j = 1 := by omega
    · rfl
    · rfl
  have HC := Lib.hid hC
  have HCD := Lib.hid hcd
  clear hb5 hT5 hD5 hC hcd hg5
  go_upto_region 5 with (first | refine wpList_load_part (o := ⟨some 34, _, _, _, _, _⟩) rfl 57 (.tmp 33) rfl g5 0 2 rfl 150 _ C _ HD5.out Tryz.underlying57 rfl rfl hcs HCD.out ?_ | (refine wpList_store_part (o := ⟨none, _, _, _, _, _⟩) rfl 57 (.tmp 6) (.tmp 34) rfl w5.heap.size 0 C rfl rfl 57 (crC 0 none 0 0) (Blk.newAt rfl) (by rw [hcs]; kernel_rfl) (by rw [hcs]; simp [crC]) hc1 ?_; intro w6 hT6 hD6))
  rw [spl_self _ _ (by rw [hcs]; rfl)] at hD6
  have hb6 : Below w5.heap.size w5 w6 := hT6.below ((Below.refl _ _).alloc (Nat.le_refl _) _) (Nat.le_refl _)
  obtain ⟨g6, hg6⟩ : ∃ b, b = w5.heap.size := ⟨_, rfl⟩
  rw [← hg6] at hD6 ⊢
  have HB6 := Lib.hid (HB5.out.trans (hb6.mono hs5))
  have HD6 := Lib.hid hD6
  have HD56 := Lib.hid (HD5.out.below' hb6)
  have hs6 := hb6.size
  have hl6 := hD6.lt
  have hg56 : g5 < g6 := by omega
  clear hb6 hT6 hD6 hg6 HD5 HB5 HCD
  have HI6 := Lib.hid (HI.out.below HB6.out)
  obtain ⟨nn, hnn⟩ : ∃ k, k = s.first.length := ⟨_, rfl⟩
  rw [← hnn] at HC
  have HNN := Lib.hid hnn
  have hnn7 : nn ≤ 7 := by rw [hnn]; exact HOK.out.crew.short.2
  obtain ⟨Af, hAf⟩ : ∃ A, A = S.fA i := ⟨_, rfl⟩
  obtain ⟨cf, hcf⟩ : ∃ c, c = S.fC i := ⟨_, rfl⟩
  rw [← hAf, ← hcf] at HC
  have HCL := Lib.hid (fun (W : World) (hb : Below w6.heap.size w6 W) => cloneN_any Af nn cf s.first W w6.heap.size (by have := HI6.out.first; rw [← hAf, ← hnn] at this; exact this.below hb) hb.size (by omega))
  have C60 := Lib.hid (show w6.cell? ⟨g6, 0, none⟩ = some (.int .i64 (f : Int)) from (HD6.out.cell 0).trans (by rw [HC.out]; rfl))
  have C61 := Lib.hid (show w6.cell? ⟨g6, 1, none⟩ = some (.slice Af nn cf) from (HD6.out.cell 1).trans (by rw [HC.out]; rfl))
  have hAe := Lib.hid hAf.symm
  clear hnn hAf hcf
  refine wp_region_rel' 7 64 (fun jx W v => match jx with
    | 0 => v = .pointer (some ⟨g6, 0, none⟩)
    | 1 => v = .int .i64 (f : Int)
    | 2 => v = .pointer (some ⟨g6, 1, none⟩)
    | 3 => v = .slice Af nn cf
    | 4 => ∃ A' c', v = .slice A' nn c' ∧ OwnN W w6.heap.size (.slice A' nn c') s.first
    | 5 => ∃ A' c', v = .agg (crC f A' nn c') ∧ OwnN W w6.heap.size (.slice A' nn c') s.first
    | _ => ∃ g9 A' c', v = .slice (some ⟨g9, 0, none⟩) 1 1 ∧ w6.heap.size ≤ g9 ∧ Blk W g9 57 (crC f A' nn c') ∧ OwnN W w6.heap.size (.slice A' nn c') s.first) [35, 36, 37, 38, 39, 40, 41] (by kernel_rfl) (by kernel_rfl) (by kernel_rfl) (by first | rfl | simp) (by kernel_rfl) (fun jx => ?last) ?heads ?_
  case last =>
    match jx with
    | 0 | 1 | 2 | 3 => exact Lasts.pure _
    | 4 | 5 => exact fun W W' u ⟨A', c', h1, h2⟩ hb => ⟨A', c', h1, h2.below_ hb⟩
    | jx + 6 => exact fun W W' u ⟨g9, A', c', h1, h2, h3, h4⟩ hb => ⟨g9, A', c', h1, h2, h3.below' hb, h4.below_ hb⟩
  case heads =>
    simp only [List.take_succ_cons, List.take_zero]
    refine ⟨fun a W hb hkp hd => ?_, fun a W hb hkp hd => ?_, fun a W hb hkp hd => ?_, fun a W hb hkp hd => ?_, fun a W hb hkp hd => ?_, fun a W hb hkp hd => ?_, fun a W hb hkp hd => ?_, trivial⟩
    · have e0 : a.tmps[6]?.getD undef = .pointer (some ⟨g6, 0, none⟩) := hkp.get (by kernel_rfl) rfl
      exact rel_value rfl (.pointer (some ⟨g6, 0, none⟩)) (by go_simp) rfl
    · have e0 : a.tmps[35]?.getD undef = .pointer (some ⟨g6, 0, none⟩) := (hd 0 (by kernel_rfl)).get 35 rfl rfl
      have cc := (hb.cell (p := ⟨g6, 0, none⟩) hl6).trans C60.out
      exact rel_value rfl (.int .i64 (f : Int)) (by go_simp) rfl
    · have e0 : a.tmps[6]?.getD undef = .pointer (some ⟨g6, 0, none⟩) := hkp.get (by kernel_rfl) rfl
      exact rel_value rfl (.pointer (some ⟨g6, 1, none⟩)) (by go_simp) rfl
    · have e0 : a.tmps[37]?.getD undef = .pointer (some ⟨g6, 1, none⟩) := (hd 2 (by kernel_rfl)).get 37 rfl rfl
      have cc := (hb.cell (p := ⟨g6, 1, none⟩) hl6).trans C61.out
      exact rel_value rfl (.slice Af nn cf) (by go_simp) rfl
    · have e0 : a.tmps[38]?.getD undef = .slice Af nn cf := (hd 3 (by kernel_rfl)).get 38 rfl rfl
      refine rel_call rfl 82 #[.slice Af nn cf] (by go_simp) ((HCL.out W hb).mono ?_)
      rintro e w' ⟨v, rfl, ho, hb'⟩
      obtain ⟨A', c', hv, _⟩ := own_slice_n ho
      rw [← HNN.out] at hv
      subst hv
      exact ⟨_, rfl, hb', A', c', rfl, OwnN.more ho hb.size⟩
    · have e0 : a.tmps[36]?.getD undef = .int .i64 (f : Int) := (hd 1 (by kernel_rfl)).get 36 rfl rfl
      obtain ⟨A', c', e1, ho⟩ := (hd 4 (by kernel_rfl)).get 39 rfl rfl
      exact rel_value rfl (.agg (crC f A' nn c')) (by unfold crC; go_simp) ⟨A', c', rfl, ho⟩
    · obtain ⟨A', c', e0, ho⟩ := (hd 5 (by kernel_rfl)).get 40 rfl rfl
      exact rel_exec rfl (.slice (some ⟨W.heap.size, 0, none⟩) 1 1) (W.alloc (.cells (crC f A' nn c') 57)) (by unfold crC at e0 ⊢; go_simp; try rfl) (below_lit _ _) ⟨W.heap.size, A', c', rfl, hb.size, Blk.new W _ _, ho.below_ (below_lit _ _)⟩
  intro fv W hb hd
  obtain ⟨g9, A9, c9, h41, hg9, hB9, ho9⟩ := hd 6 (by omega) _ 41 rfl rfl
  simp only [putAll, List.drop_succ_cons, List.drop_zero, h41]
  have HBW := Lib.hid (HB6.out.trans (hb.mono (by omega)))
  have HST := Lib.hid (show CrLp w w6 g6 f s 0 (.slice (some ⟨g9, 0, none⟩) 1 1) W from ⟨⟨_, _, by
      have := OwnCr.one hg9 (by rw [HNN.out] at hB9; exact hB9) (by rw [HNN.out] at ho9; exact ho9)
      have e : crewsL s.first (s.moves.take 0) = [s.first] := by simp [crewsL]
      rw [e]; exact this⟩, ⟨Af, nn, cf, by rw [← HC.out]; exact HD6.out.below' hb, by
      have := (HI6.out.below hb).first
      have e : nowL s.first (s.moves.take 0) = s.first := by simp [nowL]
      rw [e]
      have e2 : S.fA i = Af := by
        have := HC.out
        exact hAe.out
      rw [e2, ← HNN.out] at this; exact this⟩, HBW.out, hb.size⟩)
  obtain ⟨mn, hmn⟩ : ∃ k, k = s.moves.length := ⟨_, rfl⟩
  have hmn21 : mn ≤ 21 := by rw [hmn]; exact HOK.out.len
  obtain ⟨mA, hmA⟩ : ∃ k, k = S.mA i := ⟨_, rfl⟩
  obtain ⟨mC, hmC⟩ : ∃ k, k = S.mC i := ⟨_, rfl⟩
  have c54 : W.cell? ⟨g5, 4, none⟩ = some (.slice mA mn mC) := ((HD56.out.below' hb).cell 4).trans (by rw [HD.out, hmA, hmn, hmC]; rfl)
  have HMR := Lib.hid (fun (W' : World) (hb : Below w.heap.size w W') => (show W'.ownsRow 0 153 2 (.slice mA mn mC) mn (mvCells s.moves) by rw [hmA, hmn, hmC]; exact (HI.out.below hb).mv))
  have HMN := Lib.hid hmn
  have hg6w : g6 < w6.heap.size := hl6
  have hw6w : w.heap.size ≤ w6.heap.size := HB6.out.size
  clear hd hb hB9 ho9 h41 hmn hmA hmC HI HI6 HCL C60 C61 HD6 HD56 HC HBW HB6 HROW HSRV
  try simp only [Act.put, List.setIfInBounds_toArray, List.set_cons_zero, List.set_cons_succ]
  go_wp2_with fail
  go_loopw [7, 45] (fun ov iv wr => ∃ k : Nat, k ≤ mn ∧ iv = .int .i64 (k : Int) ∧ CrLp w w6 g6 f s k ov wr) (fun _ iv _ => mn - (intOf iv).toNat)
  case atStart => exact ⟨0, by omega, rfl, HST.out⟩
  case round =>
    obtain ⟨k, hk, rfl, hlp⟩ := hrel
    by_cases hkn : k < mn
    · have hkI : (k : Int) < (mn : Int) := by omega
      have h0I : (0 : Int) ≤ (k : Int) := by omega
      have hkl : k < s.moves.length := by have := HMN.out; omega
      obtain ⟨⟨o, z⟩, hoz⟩ : ∃ q, s.moves[k]? = some q := ⟨_, List.getElem?_eq_getElem hkl⟩
      obtain ⟨gm, cur, hmA, hBm, hcur⟩ := mv_at (HMR.out wr hlp.below) hoz
      subst hmA
      obtain ⟨M, hM⟩ : ∃ M : Array Value, M = #[.int .i64 o, .int .i64 z] := ⟨_, rfl⟩
      rw [← hM] at hcur
      have hms : M.size = 2 := by rw [hM]; rfl
      have hm1 : M.all (·.oneCell') = true := by rw [hM]; simp [Value.oneCell']
      obtain ⟨A, n, c, hB6, hrd⟩ := hlp.cur
      obtain ⟨nA, nC, hown⟩ := hlp.own
      obtain ⟨C', hC'⟩ : ∃ C', C' = crC f A n c := ⟨_, rfl⟩
      rw [← hC'] at hB6
      have hcs' : C'.size = 2 := by rw [hC']; rfl
      have HLP := Lib.hid hlp
      have HBM := Lib.hid hBm
      have HCU := Lib.hid hcur
      have HM := Lib.hid hM
      have HC' := Lib.hid hC'
      have HB6 := Lib.hid hB6
      have HRD := Lib.hid hrd
      have HOW := Lib.hid hown
      have HOZ := Lib.hid hoz
      have hszr := hlp.size
      have hlr := hlp.below.size
      clear hlp hoz hBm hcur hM hC' hB6 hrd hown HST c54
      go_upto_region 9 with (first | refine wpList_load_part (o := ⟨some 48, _, _, _, _, _⟩) rfl 153 (.tmp 47) rfl gm (k * 2) 2 rfl 153 _ M _ HBM.out Tryz.underlying153 rfl rfl hms HCU.out ?_ | (refine wpList_store_part (o := ⟨none, _, _, _, _, _⟩) rfl 153 (.tmp 9) (.tmp 48) rfl wr.heap.size 0 M rfl rfl 153 #[.int .i64 0, .int .i64 0] (Blk.newAt rfl) (by rw [hms]; kernel_rfl) (by rw [hms]; simp) hm1 ?_; intro w3 hT3 hD3))
      rw [spl_self _ _ (by rw [hms]; rfl)] at hD3
      have hb3 : Below wr.heap.size wr w3 := hT3.below ((Below.refl _ _).alloc (Nat.le_refl _) _) (Nat.le_refl _)
      obtain ⟨q9, hq9⟩ : ∃ b, b = wr.heap.size := ⟨_, rfl⟩
      rw [← hq9] at hD3 ⊢
      have hs3 := hb3.size
      have c90 : w3.cell? ⟨q9, 0, none⟩ = some (.int .i64 o) := (hD3.cell 0).trans (by rw [HM.out]; rfl)
      have c91 : w3.cell? ⟨q9, 1, none⟩ = some (.int .i64 z) := (hD3.cell 1).trans (by rw [HM.out]; rfl)
      have hmok := HOK.out.mv
      have hnok : OkC f (nowL s.first (s.moves.take k)) := by rw [HF.out]; exact (hmok.take k).now HOK.out.crew
      have HRP := Lib.hid (crReplace_any f A n c _ o z w3 ((HRD.out.below hb3).more hb3.size) hnok)
      rw [← HC'.out] at HRP
      have HGD := Lib.hid (hmok.at_ HOZ.out)
      have HB3 := Lib.hid hb3
      have HB63 := Lib.hid (HB6.out.below' hb3)
      have hl9 := hD3.lt
      clear hT3 hb3 hD3 hmok hnok hq9
      go_upto_region 10 with (refine wpList_load_part (o := ⟨some 50, _, _, _, _, _⟩) rfl 57 (.tmp 6) rfl g6 0 2 rfl 57 _ C' _ HB63.out Tryz.underlying57 rfl rfl hcs' (fun _ _ => by rw [Nat.zero_add]) ?_)
      refine HRP.out.mono ?_
      rintro _ w4 ⟨hb4, hgo, _⟩
      obtain ⟨A', n', c', rfl, ho4⟩ := hgo HGD.out
      obtain ⟨hn4, _⟩ := own_reads ho4
      obtain ⟨E, hE⟩ : ∃ E, E = crC f A' n' c' := ⟨_, rfl⟩
      have hes : E.size = 2 := by rw [hE]; rfl
      have he1 : E.all (·.oneCell') = true := by rw [hE]; exact crC_one _ _ _ _
      rw [← hE]
      have HE := Lib.hid hE
      have HO4 := Lib.hid ho4
      have HB64 := Lib.hid (HB63.out.below' hb4)
      have HB4 := Lib.hid hb4
      have HN4 := Lib.hid hn4
      have hs4 := hb4.size
      clear hb4 hgo ho4 hE hn4 HRP HB63 c90 c91
      go_upto_region 10 with (refine wpList_store_part (o := ⟨none, _, _, _, _, _⟩) rfl 57 (.tmp 6) (.tmp 56) rfl g6 0 E rfl rfl 57 C' HB64.out (by rw [hes]; kernel_rfl) (by rw [hes, hcs']; omega) he1 ?_; intro w5' hT5 hD5)
      rw [spl_self _ _ (by rw [hes, hcs'])] at hD5
      have hb4w : Below wr.heap.size wr w4 := HB3.out.trans (HB4.out.mono hs3)
      have HS5 := Lib.hid hT5.size
      have HO5 := Lib.hid (HO4.out.keep_ (w' := w5') fun b hb => hT5.block b (fun e => by have := HO4.out.ge_ hb; omega))
      have HOW5 := Lib.hid ((HOW.out.below hb4w).keep (w' := w5') fun b hb _ => hT5.block b (by omega))
      have HD5 := Lib.hid hD5
      have hw65 : w6.heap.size ≤ w5'.heap.size := by rw [hT5.size]; omega
      have HB5s := Lib.hid (show w.heap.size ≤ w5'.heap.size by rw [hT5.size]; omega)
      have HB5 := Lib.hid (hT5.below ((HLP.out.below.trans (hb4w.mono hlr))) (show w.heap.size ≤ g6 by omega))
      clear hb4w hT5 hD5 HO4 HB3 HB4 HB64 HOW
      have hlt5 := HD5.out.lt
      have hfold : Array.foldl (fun (cs : Array Value) (x : Value × Nat) => cs.setIfInBounds x.snd x.fst) #[Value.int .i64 0, Value.slice none 0 0] E.zipIdx 0 2 = E := by rw [HE.out]; rfl
      obtain ⟨i0, hi0, hz0, hz1, hz2⟩ := info_parts cr_info
      have hb6 := below_lit w5' (.cells E 57)
      have hcl : (crewsL s.first (s.moves.take k)).length = k + 1 := by rw [crewsL_len, List.length_take]; omega
      have hrow6 := (HOW5.out.below hb6).row
      rw [hcl] at hrow6
      obtain ⟨cells, hcells⟩ : ∃ l, l = crRows f nA nC 0 (crewsL s.first (s.moves.take k)) := ⟨_, rfl⟩
      rw [← hcells] at hrow6
      have HCE := Lib.hid hcells
      have HCL := Lib.hid hcl
      have HROW6 := Lib.hid hrow6
      have HRD6 := Lib.hid (reads_crew w5' E hes)
      have HOW6 := Lib.hid (HOW5.out.below hb6)
      have HO6 := Lib.hid (HO5.out.below_ hb6)
      have HD6' := Lib.hid (HD5.out.below' hb6)
      have HB6' := Lib.hid (HB5.out.trans (hb6.mono (by have := HB5.out.size; omega)))
      have hs6' := hb6.size
      clear hb6 hcl hrow6 hcells HOW5 HO5 HB5 HLP HRD HB6 HBM HCU HM HC'
      go_wp2_with (first
        | refine wpList_load_part (o := ⟨some 59, _, _, _, _, _⟩) rfl 57 (.tmp 6) rfl g6 0 2 rfl 57 _ E _ HD5.out Tryz.underlying57 rfl rfl hes (fun _ _ => by rw [Nat.zero_add]) ?_
        | (at_builtin; go_must (refine wpList_append_any _ rfl (.tmp 58) (.tmp 60) 45 rfl w6.heap.size 57 i0 _ 2 32 Tryz.underlying45 hi0 hz0 hz1 hz2 rfl (by omega) _ _ _ rfl HROW6.out _ (some ⟨w5'.heap.size, 0, none⟩) 1 1 E.toList rfl HRD6.out ?d1 ?d2 ?d3 ?d4 ?_)))
      case d1 => exact fun u hu => (Array.all_eq_true'.1 he1) u (by simpa using hu)
      case d2 => unfold maxLen; omega
      case d3 => first | omega | (simp; omega)
      case d4 => first | omega | (simp; omega)
      intro v6 w6' hown6 hg6 hor6
      obtain ⟨l', hl'⟩ : ∃ l, l = replL (nowL s.first (s.moves.take k)) o z := ⟨_, rfl⟩
      have hn' := HN4.out
      have ho6 := HO6.out
      rw [← hl'] at hn' ho6
      have hown : OwnCr w6' w6.heap.size v6 f (crewsL s.first (s.moves.take k) ++ [l']) _ _ := HOW6.out.push (l := l') (A := A') (c := c') hg6 (by rw [hn']; exact OwnN.more ho6 (by omega)) (by rw [HCL.out, hn', ← HCE.out]; rw [HE.out] at hown6; exact hown6)
      have hb66 : Below w.heap.size w w6' := grown_below HB6'.out (by simp; have := HB5s.out; omega) hg6 (fun b hb => by have := (rowD_lt HROW6.out hb).1; omega)
      have htk : s.moves.take (k + 1) = s.moves.take k ++ [(o, z)] := by rw [List.take_add_one, HOZ.out]; rfl
      have hcrew : crewsL s.first (s.moves.take (k + 1)) = crewsL s.first (s.moves.take k) ++ [l'] := by rw [htk, crewsL_append, hl']
      have hnow : nowL s.first (s.moves.take (k + 1)) = l' := by rw [htk, nowL_append, hl']
      have hlast := hown.nodes _ l' List.getElem?_concat_length
      rw [if_pos rfl, if_pos rfl] at hlast
      have hbl6 : Blk w6' g6 57 (crC f A' n' c') := by
        rw [← HE.out]
        exact HD6'.out.grown hg6 (fun e => by have := (rowD_lt HROW6.out e.symm).1; omega)
      have HLP' := Lib.hid (show CrLp w w6 g6 f s (k + 1) v6 w6' from ⟨⟨_, _, by rw [hcrew]; exact hown⟩, ⟨A', n', c', hbl6, by rw [hnow, ← hn']; exact (own_reads hlast).2⟩, hb66, by have := hg6.size; have := HS5.out; omega⟩)
      clear hown hb66 htk hcrew hnow hlast hbl6 hl' hn' ho6 hown6 hg6 hor6 HS5 HB5s hfold
      go_wp2_with fail
      go_roundw
      case rel => exact ⟨k + 1, by omega, by go_num, HLP'.out⟩
      case measure => simp [intOf]; omega
    · obtain rfl : k = mn := by omega
      have hkI : ¬ (k : Int) < (k : Int) := by omega
      have htk : s.moves.take k = s.moves := List.take_of_length_le (by rw [HMN.out]; omega)
      obtain ⟨nA, nC, hown⟩ := hlp.own
      rw [htk] at hown
      rw [HF.out] at hown
      have hpost := CrewsPost.of hown hlp.below hw6w
      rw [← HP.out] at hpost
      have HR := Lib.hid hpost
      clear hlp htk hown hpost
      go_wp2_with fail
      exact HR.out

end Go.Proofs.YtlaodmmjhjpfmaaGreat

/- Contract of the laws' does. -/
namespace Go.Proofs.YtlaodmmjhjpfmaaGreat
set_option linter.unusedVariables false
set_option linter.unusedSimpArgs false
open Go.RowKit Go.Maps

attribute [local irreducible] wpList wpCalm
def ADoesPost (w : World) (V : ALoc) (N : Nat → Prop) (L : List (List UInt8)) (asked : Nat) (p : AM × Ans × Nat) (err ep : Nat) (nodes : List Int) (r : Ending) (w' : World) : Prop :=
  r = .returned (.bool (decide (p.2.2 = 0 ∧ p.2.1.err = err ∧ p.2.1.epoch = ep ∧ p.2.1.nodes = nodes))) ∧ ADone w w' V N p.1 L asked 6
theorem AAt.has_all {w : World} {V : ALoc} {N : Nat → Prop} {m : AM} {b : Nat} (hb : V.has b) : V.all b := by
  rcases hb with e | e | e | e
  · exact .inl e
  · exact .inr (.inl e)
  · exact .inr (.inr (.inr (.inr (.inr e))))
  · exact .inr (.inr (.inl e))

set_option maxRecDepth 100000 in
set_option maxHeartbeats 4000000 in
theorem adoes_any (w : World) (V : ALoc) (N : Nat → Prop) (m : AM) (L : List (List UInt8)) (asked : Nat) (h : AAt w V N m) (hN : ∀ b, N b → b < w.heap.size) (hbk : BookAt w V.k L asked) (hin : InBook L (leavesQ m)) (has : asked ≤ 700000)
    (x : Wish) (A : Option Addr) (n c : Nat) (A' : Option Addr) (n' c' : Nat) (B : Nat) (hx : WishIn w B x A n c A' n' c') (hB : B ≤ w.heap.size)
    (err ep : Nat) (nodes : List Int) (D : Option Addr) (k d : Nat) (hy : Reads w B 1 D k (nodes.map vn)) (hyp : ∀ a, 0 < k → D = some a → N a.block ∧ ¬ V.all a.block) (hk : k ≤ 1000000) :
    Calls Tryz.prog 75 #[.pointer (some ⟨V.g, 0, none⟩), .agg (wCells x A n c A' n' c'), .int .i64 (err : Int), .int .i64 (ep : Int), .slice D k d] w (ADoesPost w V N L asked (doQ m x) err ep nodes) := by
  have hX : Below w.heap.size w (w.alloc (.cells (wCells x A n c A' n' c') 48)) := below_lit _ _
  have k3 : Blk (w.alloc (.cells (wCells x A n c A' n' c') 48)) w.heap.size 48 (wCells x A n c A' n' c') := Blk.newAt rfl
  have hz1 : (w.alloc (.cells (wCells x A n c A' n' c') 48)).heap.size = w.heap.size + 1 := by simp
  have HV := Lib.hid h
  have HNN := Lib.hid hN
  have HX := Lib.hid hX
  have K3 := Lib.hid k3
  have HY := Lib.hid hy
  have HYP := Lib.hid hyp
  have HDO := Lib.hid (fun (W : World) (hb : Below w.heap.size w W) => aDo_any W V _ m L asked (h.later hb) (fun b hn => hn.elim (fun e => by have := hN b e; have := hb.size; omega) (fun e => e.2)) (hbk.below hb) hin has x A n c A' n' c' B (hx.below (hb.mono hB)) (by have := hb.size; omega))
  obtain ⟨g4, hg4⟩ : ∃ b, b = w.heap.size := ⟨_, rfl⟩
  obtain ⟨p, hp⟩ : ∃ p, p = doQ m x := ⟨_, rfl⟩
  rw [← hp] at HDO ⊢
  clear h hN hbk hin hx hX k3 hy hyp hp
  obtain ⟨W0, hW0⟩ : ∃ W0, W0 = wCells x A n c A' n' c' := ⟨_, rfl⟩
  have hws : W0.size = 10 := by rw [hW0]; simp [wCells]
  rw [← hW0] at HX K3 HDO hz1 ⊢
  clear hW0
  go_enter Tryz.func75, Tryz.ntmps75
  go_upto_region 1 with fail
  generalize World.alloc w _ = w1 at HX K3 hz1 ⊢
  rw [← hg4] at K3 ⊢
  have hl3 := K3.out.lt
  have hw1 : w.heap.size ≤ w1.heap.size := by omega
  have hgw4 : w.heap.size ≤ g4 := by omega
  clear hg4 hz1
  go_wp2_with (refine wpList_load_part (o := ⟨some 15, _, _, _, _, _⟩) rfl 48 (.tmp 6) rfl g4 0 10 rfl 48 _ W0 _ K3.out Tryz.underlying48 rfl rfl hws (fun _ _ => by rw [Nat.zero_add]; try rfl) ?_)
  refine (HDO.out w1 HX.out).mono ?_
  rintro _ w2 ⟨Dc, rfl, hds, hans, hvd⟩
  obtain ⟨⟨pm, pa, pf⟩, hpe⟩ : ∃ r, r = p := ⟨_, rfl⟩
  subst hpe
  simp only at hvd hans ⊢
  have HVD := Lib.hid (ADone.fold HNN.out HV.out.all (fun b hb => .inr (.inr hb)) HX.out hvd).1
  have HY2 := Lib.hid (hvd.only.reads ((HY.out.below (HX.out.mono hB)).more (show B ≤ w1.heap.size by omega)) (fun a h0 ha e => by
    have hh := HYP.out a h0 ha
    rcases e with e | e
    · exact hh.2 (AAt.has_all (w := w) (m := m) (N := N) e)
    · exact e (.inl hh.1)))
  have hs2 := hvd.only.size
  obtain ⟨A3, q3, hDe, ho3⟩ := hans
  have hd1 : Dc.all (·.oneCell') = true := by rw [hDe]; exact anC_one _ _ _ _ _ _ _ _
  obtain ⟨A4, q4, e4, b1, b2, r3, _⟩ := own_slice_n ho3
  injection e4 with e5 _ e6
  subst e5 e6
  have HR3 := Lib.hid r3
  have HDE := Lib.hid hDe
  obtain ⟨kn, hkn⟩ : ∃ q, q = pa.nodes.length := ⟨_, rfl⟩
  rw [← hkn] at b1 HR3 HDE
  clear hvd ho3 HDO r3 hDe hkn
  by_cases hz : pf = 0
  · have hzb : ((pf : Int) == 0) = true := by simp [hz]
    go_upto_region 2 with (refine wpList_store_part (o := ⟨none, _, _, _, _, _⟩) rfl 52 (.tmp 11) (.tmp 17) rfl w2.heap.size 0 Dc rfl rfl 52 (anC 0 none 0 0 0 none 0 0) (Blk.newAt rfl) (by rw [hds]; kernel_rfl) (by rw [hds]; simp [anC]) hd1 ?_; intro w5 hT5 hD5)
    rw [spl_self _ _ (by rw [hds]; rfl)] at hD5
    have hb5 : Below w2.heap.size w2 w5 := hT5.below ((Below.refl _ _).alloc (Nat.le_refl _) _) (Nat.le_refl _)
    have HD5 := Lib.hid hD5
    have hs5 := hb5.size
    have HSA := Lib.hid (sameAnswer_any pa.err err pa.epoch ep none 0 0 A3 kn q3 none 0 0 D k d [] [] pa.nodes nodes w5 w2.heap.size Reads.none_ (HR3.out.below hb5) Reads.none_ (HY2.out.below hb5) hs5 (by unfold maxLen; omega) (Nat.le_trans b1 b2) (by unfold maxLen; omega) (by unfold maxLen; omega))
    rw [← HDE.out] at HSA
    unfold anC at HSA
    have HVD5 := Lib.hid (HVD.out.after hb5)
    obtain ⟨g6, hg6⟩ : ∃ g, g = w2.heap.size := ⟨_, rfl⟩
    rw [← hg6] at HD5 ⊢
    clear hT5 hD5 hb5 hg6
    go_wp2_with (refine wpList_load_guarded (o := ⟨some 22, _, _, _, _, _⟩) rfl 52 (.tmp 11) rfl g6 0 4 rfl 52 _ Dc _ HD5.out Tryz.underlying52 rfl rfl hds (fun _ _ => by rw [Nat.zero_add]) ?_)
    refine HSA.out.mono ?_
    rintro _ w6 ⟨rfl, hb6⟩
    have HVD6 := Lib.hid (HVD5.out.after hb6)
    clear hb6 HSA
    go_wp2_with fail
    go_ret
    refine ⟨ret_bool ?_, HVD6.out⟩
    rw [Bool.eq_iff_iff]
    simp only [Bool.and_eq_true, decide_eq_true_eq]
    constructor
    · rintro ⟨h1, h2, h3⟩; exact ⟨hz, by omega, by omega, h3⟩
    · rintro ⟨_, h1, h2, h3⟩; exact ⟨by omega, by omega, h3⟩
  · have hzb : ((pf : Int) == 0) = false := by simpa using hz
    have HZ := Lib.hid hz
    clear hz
    go_upto_region 2 with (refine wpList_store_part (o := ⟨none, _, _, _, _, _⟩) rfl 52 (.tmp 11) (.tmp 17) rfl w2.heap.size 0 Dc rfl rfl 52 (anC 0 none 0 0 0 none 0 0) (Blk.newAt rfl) (by rw [hds]; kernel_rfl) (by rw [hds]; simp [anC]) hd1 ?_; intro w5 hT5 hD5)
    have HVD5 := Lib.hid (HVD.out.after (hT5.below ((Below.refl _ _).alloc (Nat.le_refl _) _) (Nat.le_refl _)))
    clear hT5 hD5
    go_wp2_with fail
    go_ret
    refine ⟨ret_bool ?_, HVD5.out⟩
    rw [decide_eq_false]
    rintro ⟨h1, _⟩
    exact HZ.out h1

end Go.Proofs.YtlaodmmjhjpfmaaGreat

/- Contracts of the laws' small functions: sixteen, read, write, seal, root. -/
namespace Go.Proofs.YtlaodmmjhjpfmaaGreat
set_option linter.unusedVariables false
open Go.RowKit Go.Maps
attribute [local irreducible] wpList

def rep16 (b : UInt8) : List UInt8 := List.replicate 16 b
def readV (c s e b : Int) : Wish := ⟨c, s, 1, e, 1, b, [], 0, 0, []⟩
def writeV (c s e k : Int) (b : UInt8) : Wish := ⟨c, s, 1, e, 2, k, rep16 b, 0, 0, []⟩
def shutV (e : Int) : Wish := ⟨0, 0, 1, e, 5, 0, [], 0, 0, [1, 2, 3, 4]⟩
theorem wC_spl (x y : Wish) (A B A' B' : Option Addr) (n c n' c' m d m' d' : Nat) : spl (wCells x A n c A' n' c') 0 (wCells y B m d B' m' d').toList = wCells y B m d B' m' d' := spl_self (wCells x A n c A' n' c') (wCells y B m d B' m' d') rfl
end Go.Proofs.YtlaodmmjhjpfmaaGreat

/- Contracts of Chunks, of the laws' two, query, replace. -/
namespace Go.Proofs.YtlaodmmjhjpfmaaGreat
set_option linter.unusedVariables false
set_option linter.unusedSimpArgs false
open Go.RowKit Go.Maps

attribute [local irreducible] wpList wpCalm
set_option maxRecDepth 100000 in
set_option maxHeartbeats 1000000 in
theorem aChunks_any (w : World) (g gc T : Nat) (N : Nat → Prop) (m : AM) (S : ASl) (h : ADat w g gc (some ⟨T, 0, none⟩) N m S) :
    Calls Tryz.prog 78 #[.pointer (some ⟨g, 0, none⟩)] w fun e w' => e = .returned (.int .i64 (m.chunks.length : Int)) ∧ w' = w := by
  have hc1 : w.cell? ⟨g, 1, none⟩ = some (.slice (some ⟨gc, 0, none⟩) m.chunks.length S.cap) := (h.blk.cell 1).trans (aCs_at _ _ _ _ 1 (by omega))
  have HNO := Lib.hid (aNone_any w g T ((h.blk.cell 0).trans (aCs_at _ _ _ _ 0 (by omega))))
  obtain ⟨n, hn⟩ : ∃ n, n = m.chunks.length := ⟨_, rfl⟩
  rw [← hn] at hc1 ⊢
  clear h hn
  go_enter Tryz.func78, Tryz.ntmps78
  go_wp2_with fail
  refine HNO.out.mono ?_
  rintro _ _ ⟨rfl, rfl⟩
  go_wp2_with fail
  go_ret
  exact ⟨rfl, rfl⟩

def queryQ (c s b : Int) : Wish := { client := c, stamp := s, group := 0, epoch := 0, kind := 3, block := b, data := [], old := 0, new := 0, next := [] }
def replQ (c s b o z : Int) : Wish := { client := c, stamp := s, group := 0, epoch := 0, kind := 4, block := b, data := [], old := o, new := z, next := [] }

set_option maxRecDepth 100000 in
set_option maxHeartbeats 1000000 in
theorem aquery_any (c s b : Int) (w : World) :
    Calls Tryz.prog 76 #[.int .i64 c, .int .i64 s, .int .i64 b] w fun e w' => e = .returned (.agg (wCells (queryQ c s b) none 0 0 none 0 0)) ∧ Below w.heap.size w w' := by
  have hX : Below w.heap.size w (w.alloc (.cells (wCells zeroW none 0 0 none 0 0) 48)) := below_lit _ _
  have hk : Blk (w.alloc (.cells (wCells zeroW none 0 0 none 0 0) 48)) w.heap.size 48 (wCells zeroW none 0 0 none 0 0) := Blk.newAt rfl
  have HZ := Lib.hid (show wCells zeroW none 0 0 none 0 0 = #[.int .i64 0, .int .i64 0, .int .i64 0, .int .i64 0, .int .i64 0, .int .i64 0, .slice none 0 0, .int .i64 0, .int .i64 0, .slice none 0 0] from rfl)
  have HX := Lib.hid hX
  have HK := Lib.hid hk
  obtain ⟨g, hg⟩ : ∃ g, g = w.heap.size := ⟨_, rfl⟩
  clear hX hk
  go_enter Tryz.func76, Tryz.ntmps76
  go_upto_region 1 with fail
  rw [← HZ.out]
  generalize World.alloc w _ = w1 at HX HK ⊢
  rw [← hg] at HK ⊢
  have hgw : w.heap.size ≤ g := by omega
  clear hg
  go_wp2_with (refine wpList_store_part (o := ⟨none, _, _, _, _, _⟩) rfl 48 (.tmp 6) (.tmp 10) rfl g 0 (wCells (queryQ c s b) none 0 0 none 0 0) rfl rfl 48 (wCells zeroW none 0 0 none 0 0) HK.out (wCells_info _ _ _ _ _ _ _) (by simp [wCells]) (wCells_one _ _ _ _ _ _ _) ?_; intro w3 hT3 hD3; rw [wC_spl] at hD3)
  refine bodyPost_ret (results_part rfl _ _ g 10 48 _ _ rfl hD3 Tryz.underlying48 rfl rfl rfl) rfl ?_
  exact ⟨rfl, hT3.below HX.out hgw⟩

set_option maxRecDepth 100000 in
set_option maxHeartbeats 1000000 in
theorem areplace_any (c s b o z : Int) (w : World) :
    Calls Tryz.prog 77 #[.int .i64 c, .int .i64 s, .int .i64 b, .int .i64 o, .int .i64 z] w fun e w' => e = .returned (.agg (wCells (replQ c s b o z) none 0 0 none 0 0)) ∧ Below w.heap.size w w' := by
  have hX : Below w.heap.size w (w.alloc (.cells (wCells zeroW none 0 0 none 0 0) 48)) := below_lit _ _
  have hk : Blk (w.alloc (.cells (wCells zeroW none 0 0 none 0 0) 48)) w.heap.size 48 (wCells zeroW none 0 0 none 0 0) := Blk.newAt rfl
  have HZ := Lib.hid (show wCells zeroW none 0 0 none 0 0 = #[.int .i64 0, .int .i64 0, .int .i64 0, .int .i64 0, .int .i64 0, .int .i64 0, .slice none 0 0, .int .i64 0, .int .i64 0, .slice none 0 0] from rfl)
  have HX := Lib.hid hX
  have HK := Lib.hid hk
  obtain ⟨g, hg⟩ : ∃ g, g = w.heap.size := ⟨_, rfl⟩
  clear hX hk
  go_enter Tryz.func77, Tryz.ntmps77
  go_upto_region 1 with fail
  rw [← HZ.out]
  generalize World.alloc w _ = w1 at HX HK ⊢
  rw [← hg] at HK ⊢
  have hgw : w.heap.size ≤ g := by omega
  clear hg
  go_wp2_with (refine wpList_store_part (o := ⟨none, _, _, _, _, _⟩) rfl 48 (.tmp 10) (.tmp 16) rfl g 0 (wCells (replQ c s b o z) none 0 0 none 0 0) rfl rfl 48 (wCells zeroW none 0 0 none 0 0) HK.out (wCells_info _ _ _ _ _ _ _) (by simp [wCells]) (wCells_one _ _ _ _ _ _ _) ?_; intro w3 hT3 hD3; rw [wC_spl] at hD3)
  refine bodyPost_ret (results_part rfl _ _ g 10 48 _ _ rfl hD3 Tryz.underlying48 rfl rfl rfl) rfl ?_
  exact ⟨rfl, hT3.below HX.out hgw⟩

def twoL : List (Int × List Int) := [(1, [5, 6, 7, 8]), (1, [9, 10, 11, 12])]
set_option maxRecDepth 100000 in
set_option maxHeartbeats 1000000 in
theorem atwo_any (w : World) :
    Calls Tryz.prog 21 #[] w fun e w' => ∃ A c, e = .returned (.slice A 2 c) ∧ CrewsAt w' A 2 twoL ∧ Below w.heap.size w w' := by
  go_enter Tryz.func21, Tryz.ntmps21
  go_wp2_with fail
  have h1 := below_lit w (.cells #[.int .i64 5, .int .i64 6, .int .i64 7, .int .i64 8] 3)
  have k1 : Blk (w.alloc (.cells #[.int .i64 5, .int .i64 6, .int .i64 7, .int .i64 8] 3)) w.heap.size 3 #[.int .i64 5, .int .i64 6, .int .i64 7, .int .i64 8] := Blk.newAt rfl
  have hs1 : (w.alloc (.cells #[.int .i64 5, .int .i64 6, .int .i64 7, .int .i64 8] 3)).heap.size = w.heap.size + 1 := by simp
  generalize w.alloc (.cells #[.int .i64 5, .int .i64 6, .int .i64 7, .int .i64 8] 3) = w1 at h1 k1 hs1 ⊢
  have h2 := below_lit w1 (.cells #[.int .i64 9, .int .i64 10, .int .i64 11, .int .i64 12] 3)
  have k2 : Blk (w1.alloc (.cells #[.int .i64 9, .int .i64 10, .int .i64 11, .int .i64 12] 3)) w1.heap.size 3 #[.int .i64 9, .int .i64 10, .int .i64 11, .int .i64 12] := Blk.newAt rfl
  have hs2 : (w1.alloc (.cells #[.int .i64 9, .int .i64 10, .int .i64 11, .int .i64 12] 3)).heap.size = w1.heap.size + 1 := by simp
  generalize w1.alloc (.cells #[.int .i64 9, .int .i64 10, .int .i64 11, .int .i64 12] 3) = w2 at h2 k2 hs2 ⊢
  have h3 := below_lit w2 (.cells #[.int .i64 1, .slice (some ⟨w.heap.size, 0, none⟩) 4 4, .int .i64 1, .slice (some ⟨w.heap.size + 1, 0, none⟩) 4 4] 57)
  have k3 : Blk (w2.alloc (.cells #[.int .i64 1, .slice (some ⟨w.heap.size, 0, none⟩) 4 4, .int .i64 1, .slice (some ⟨w.heap.size + 1, 0, none⟩) 4 4] 57)) w2.heap.size 57 #[.int .i64 1, .slice (some ⟨w.heap.size, 0, none⟩) 4 4, .int .i64 1, .slice (some ⟨w.heap.size + 1, 0, none⟩) 4 4] := Blk.newAt rfl
  generalize w2.alloc (.cells #[.int .i64 1, .slice (some ⟨w.heap.size, 0, none⟩) 4 4, .int .i64 1, .slice (some ⟨w.heap.size + 1, 0, none⟩) 4 4] 57) = w3 at h3 k3 ⊢
  have k13 : Blk w3 w.heap.size 3 #[.int .i64 5, .int .i64 6, .int .i64 7, .int .i64 8] := (k1.below' h2).below' h3
  have k23 : Blk w3 (w.heap.size + 1) 3 #[.int .i64 9, .int .i64 10, .int .i64 11, .int .i64 12] := by rw [← hs1]; exact k2.below' h3
  have hrd : ∀ (q a b c d : Int) (g : Nat), Blk w3 g 3 #[.int .i64 a, .int .i64 b, .int .i64 c, .int .i64 d] → Reads w3 w3.heap.size 1 (some ⟨g, 0, none⟩) 4 ([a, b, c, d].map vn) := fun q a b c d g hb => ⟨rfl, fun _ => ⟨⟨g, 0, none⟩, rfl, hb.lt, fun j u hu => by rw [add_off, Nat.zero_add, hb.cell, ← Array.getElem?_toList]; exact hu⟩⟩
  have e : w2.heap.size = w.heap.size + 1 + 1 := by omega
  go_ret
  refine ⟨some ⟨w.heap.size + 1 + 1, 0, none⟩, 2, rfl, ⟨rfl, fun _ => ⟨w2.heap.size, _, by rw [e], k3, fun i f l hi => ?_⟩⟩, (h1.trans (h2.mono (by omega))).trans (h3.mono (by omega))⟩
  match i, hi with
  | 0, hi =>
    obtain ⟨rfl, rfl⟩ := Prod.mk.inj (Option.some.inj hi)
    exact ⟨_, _, rfl, rfl, hrd 0 _ _ _ _ _ k13, by decide⟩
  | 1, hi =>
    obtain ⟨rfl, rfl⟩ := Prod.mk.inj (Option.some.inj hi)
    exact ⟨_, _, rfl, rfl, hrd 0 _ _ _ _ _ k23, by decide⟩
  | i + 2, hi => simp [twoL] at hi

end Go.Proofs.YtlaodmmjhjpfmaaGreat

/- Contracts of a vault's Heard (of a read or a write that may be), and of the laws' root. -/
namespace Go.Proofs.YtlaodmmjhjpfmaaGreat
set_option linter.unusedVariables false
open Go.RowKit Go.Maps

attribute [local irreducible] wpList wpCalm
def RootPost (w : World) (m : VM) (e : Ending) (w' : World) : Prop := e = .returned (.tuple #[.agg (bRow (rootL (leavesV m))), .bool true]) ∧ Below w.heap.size w w'
end Go.Proofs.YtlaodmmjhjpfmaaGreat

/- Contract of the laws' wish: one that is told by a number. -/
namespace Go.Proofs.YtlaodmmjhjpfmaaGreat
set_option linter.unusedVariables false
open Go.RowKit Go.Maps

attribute [local irreducible] wpList wpCalm
def epochW (ep : Nat) (n : Int) : Nat := if bringF (n / 512) 8 = 0 ∧ 0 < ep then ep - 1 else ep
def clientW (n : Int) : Int := 31 + (bringF (n / 16) 4 : Int)
def blockW (n : Int) : Int := (bringF (n / 64) 8 : Int)
def byteW (n : Int) : UInt8 := UInt8.ofNat ((n / 32) % 256).toNat
def wishV (ep : Nat) (n stamp : Int) : Wish :=
  if bringF n 12 = 0 then shutV (epochW ep n) else if bringF n 12 < 5 then readV (clientW n) stamp (epochW ep n) (blockW n) else writeV (clientW n) stamp (epochW ep n) (blockW n) (byteW n)
theorem clientW_le (n : Int) : 31 ≤ clientW n ∧ clientW n ≤ 34 := by
  have := bringF_lt (n / 16) 4 (by omega)
  unfold clientW; omega
def WishPost (w : World) (x : Wish) (e : Ending) (w' : World) : Prop := ∃ A q A' q', e = .returned (.agg (wCells x A x.data.length q A' x.next.length q')) ∧ WishIn w' w'.heap.size x A x.data.length q A' x.next.length q' ∧ (∀ a, A = some a → w.heap.size ≤ a.block) ∧ (∀ a, A' = some a → w.heap.size ≤ a.block) ∧ Below w.heap.size w w'
end Go.Proofs.YtlaodmmjhjpfmaaGreat

/- Contract of the laws' wish: one that is told by a number. -/
namespace Go.Proofs.YtlaodmmjhjpfmaaGreat
set_option linter.unusedVariables false
set_option linter.unusedSimpArgs false
open Go.RowKit Go.Maps

attribute [local irreducible] wpList wpCalm
/-- what a wish asks for, of a chunk's nodes -/
def wishS (now : List Int) (n stamp : Int) : Wish :=
  if bringF n 4 = 0 then queryQ (clientW n) stamp (1 + (bringF (n / 64) 2 : Int))
  else replQ (if bringF n 16 = 1 then clientW n else 34) stamp (1 + (bringF (n / 64) 2 : Int))
    (if (if bringF n 16 = 3 then 28 else now.getD (bringF (n / 128) now.length) 0) = (if bringF n 16 = 2 then 5 else 13 + (bringF (n / 512) 16 : Int)) then 1 else (if bringF n 16 = 3 then 28 else now.getD (bringF (n / 128) now.length) 0))
    (if bringF n 16 = 2 then 5 else 13 + (bringF (n / 512) 16 : Int))
theorem OwnCr.at_ {w : World} {B f i : Nat} {v : Value} {ls : List (List Int)} {nA : Nat → Option Addr} {nC : Nat → Nat} {l : List Int} (h : OwnCr w B v f ls nA nC) (hi : ls[i]? = some l) : ∃ gl cap, v = .slice (some ⟨gl, 0, none⟩) ls.length cap ∧ B ≤ gl ∧ gl < w.heap.size ∧ w.cell? ⟨gl, i * 2 + 1, none⟩ = some (.slice (nA i) l.length (nC i)) := by
  have hil : i < ls.length := (List.getElem?_eq_some_iff.1 hi).1
  have hr := h.row
  rcases h.row.2 with ⟨_, h0⟩ | ⟨gl, cap, cur, hv, h2, h3, h4, h5, h6, h7⟩
  · omega
  · have hB : Blk w gl 57 cur := h3
    refine ⟨gl, cap, hv, h2, hB.lt, ?_⟩
    rw [hB.cell]
    have := (crRows_get f nA nC ls 0 i l hi).2
    rw [Nat.zero_add] at this
    rw [← this, ← h7, List.getElem?_take, if_pos (by omega), Array.getElem?_toList]
theorem own_at {w : World} {B n : Nat} {A : Option Addr} {c : Nat} {l : List Int} (h : OwnN w B (.slice A n c) l) (h0 : 0 < n) : ∃ gn, A = some ⟨gn, 0, none⟩ ∧ B ≤ gn ∧ gn < w.heap.size ∧ ∀ j x, l[j]? = some x → w.cell? ⟨gn, j, none⟩ = some (.int .i64 x) := by
  obtain ⟨hl, hrd⟩ := own_reads h
  rcases h.2 with ⟨e, h1⟩ | ⟨gn, cap, cur, e, h2, h3, h4, h5, h6, h7⟩
  · rw [hl] at h1; omega
  · injection e with e
    subst e
    have hB : Blk w gn 3 cur := h3
    refine ⟨gn, rfl, h2, hB.lt, fun j x hj => ?_⟩
    have hjl := (List.getElem?_eq_some_iff.1 hj).1
    rw [hB.cell]
    have : (l.map vn)[j]? = some (vn x) := by rw [List.getElem?_map, hj]; rfl
    rw [← h7, List.getElem?_take, if_pos (by omega), Array.getElem?_toList] at this
    exact this

end Go.Proofs.YtlaodmmjhjpfmaaGreat
