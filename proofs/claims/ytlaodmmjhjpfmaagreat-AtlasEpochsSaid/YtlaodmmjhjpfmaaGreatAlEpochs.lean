/-
  AtlasEpochs: the law's walk.
-/
import Derived.Test.YtlaodmmjhjpfmaaGreatZ22
import Derived.BigRegion
import Derived.IntWalk
import Derived.Deep.DeepCutAuto
namespace Go.Proofs.YtlaodmmjhjpfmaaGreat
set_option linter.unusedVariables false
set_option linter.unusedSimpArgs false
open Go.RowKit Go.Maps

attribute [local irreducible] wpList wpCalm
theorem OwnCr.crew_at {w : World} {B f g n c : Nat} {ls : List (List Int)} {nA : Nat → Option Addr} {nC : Nat → Nat} (h : OwnCr w B (.slice (some ⟨g, 0, none⟩) n c) f ls nA nC) (hl : ∀ l, l ∈ ls → l.length ≤ 1000) (h0 : 0 < ls.length) (k : Nat) (hk : k ≤ ls.length) : CrewsAt w (some ⟨g, 0, none⟩) k (crewsOf f (ls.take k)) := by
  obtain ⟨g', cap, e, _, hc⟩ := h.shape h0 hl
  injection e with e1 e2 e3
  rw [e1]
  exact hc k hk
theorem sameGrown {w : World} {g g' n c n' c' B B' : Nat} {s s' : Srv} {d : Nat} {nA nA' : Nat → Option Addr} {nC nC' : Nat → Nat} (hs : SOk s) (hs' : SOk s') (hg : GrownS s s' d) (hn : n = (crewsL s.first s.moves).length)
    (h : OwnCr w B (.slice (some ⟨g, 0, none⟩) n c) s.f (crewsL s.first s.moves) nA nC) (h' : OwnCr w B' (.slice (some ⟨g', 0, none⟩) n' c') s'.f (crewsL s'.first s'.moves) nA' nC') :
    Calls Tryz.prog 25 #[.slice (some ⟨g, 0, none⟩) n c, .slice (some ⟨g', 0, none⟩) n c'] w fun e w' => e = .returned (.bool true) ∧ Below w.heap.size w w' := by
  have hl := hs.len
  have l1 := crewsL_len s.first s.moves
  have l2 := crewsL_len s'.first s'.moves
  have l3 := hg.2.2
  have h1 := h.crew_at (fun l hl => crews_short hs hl) (by omega) n (by omega)
  have h2 := h'.crew_at (fun l hl => crews_short hs' hl) (by omega) n (by omega)
  have := sameCrews_any _ _ n c n c' _ _ w h1 h2 (by omega) (by omega)
  rw [hg.1, hn, hg.2.1, List.take_of_length_le (Nat.le_refl _), decide_eq_true rfl] at this
  rw [hn]
  exact this
theorem AeSt.below {w0 W W' : World} {V : ALoc} {i : Nat} (h : AeSt w0 V i W) (hb : Below W.heap.size W W') : AeSt w0 V i W' := by
  obtain ⟨m, N, h1, h2, h3⟩ := h.ex
  exact ⟨m, N, h1, h2, h3.below hb⟩
set_option maxRecDepth 100000 in
set_option maxHeartbeats 8000000 in
theorem atlasEpochs_law (A : Option Addr) (n c : Nat) (xs : List Int) (w : World) (hr : Reads w w.heap.size 1 A n (xs.map vn)) (hxs : ∀ z, z ∈ xs → -9223372036854775808 ≤ z ∧ z ≤ 9223372036854775807) (hn : n ≤ 1000000000000000000) :
    Calls Tryz.prog 4 #[.slice A n c] w fun e w' => e = .returned (.bool true) ∧ Below w.heap.size w w' := by
  have hxl : xs.length = n := by have := hr.1; simpa using this
  have HR := Lib.hid hr
  have HXS := Lib.hid hxs
  have HXL := Lib.hid hxl
  obtain ⟨i0, hi0, hz0, hz1, hz2⟩ := info_parts ci_info
  clear hr hxs hxl
  go_enter Tryz.func4, Tryz.ntmps4
  go_wp2_with fail
  refine (aworks_any w).mono ?_
  rintro _ wa ⟨rfl, hba⟩
  have HBA := Lib.hid hba
  clear hba
  go_wp2_with fail
  refine (inkNew_any wa).mono ?_
  rintro _ w1 ⟨k, rfl, hbk, hkn, hb1⟩
  have hsa := HBA.out.size
  have HB1 := Lib.hid (HBA.out.trans (hb1.mono hsa))
  have HKN := Lib.hid (show w.heap.size ≤ k.g ∧ w.heap.size ≤ k.b1 ∧ w.heap.size ≤ k.b2 by omega)
  have HBK := Lib.hid hbk
  clear hb1 hkn hbk HBA
  go_wp2_with fail
  refine (atwo_any w1).mono ?_
  rintro _ wt ⟨At, ct, rfl, hct, hbt⟩
  have hs1 := HB1.out.size
  have HNW := Lib.hid (aNew_any k [] 0 At 2 ct twoL wt (HBK.out.below hbt) (by omega) hct (by omega))
  have HBT := Lib.hid (HB1.out.trans (hbt.mono hs1))
  clear hct hbt
  go_wp2_with fail
  refine HNW.out.mono ?_
  rintro _ w2 ⟨_, hgo⟩
  obtain ⟨V, rfl, hna⟩ := hgo ak0 newQ_two
  have hkk := hna.kk
  subst hkk
  have HRD := Lib.hid (show AeSt w V 0 w2 from ⟨ak0, _, ARun.fresh, OneF.fresh, (ALSt.start HBT.out HKN.out hna).more (by omega)⟩)
  clear hgo hna HNW HBK HBT HB1 HKN
  go_wp2_with fail
  go_loopw [5] (fun iv wr => ∃ i : Nat, i ≤ n ∧ i ≤ 60 ∧ iv = .int .i64 i ∧ AeSt w V i wr) (fun iv _ => n - (intOf iv).toNat)
  case atStart => exact ⟨0, by omega, by omega, rfl, HRD.out⟩
  case round =>
    obtain ⟨i, hi, hi60, rfl, hst⟩ := hrel
    obtain ⟨m, N, hrun, h1f, hls⟩ := hst.ex
    have HRUN := Lib.hid hrun
    have H1F := Lib.hid h1f
    have HL := Lib.hid hls
    clear hst hrun hls HRD h1f
    go_upto_region 7 with fail
    go_cut [39] (fun s39 wx => s39 = .bool (decide (i < n ∧ i < 60)) ∧ wx = wr)
    case first =>
      by_cases hin : i < n
      · go_wp2_with fail
        go_meet
        exact ⟨by simp [hin]; omega, rfl⟩
      · go_wp2_with fail
        go_meet
        exact ⟨by simp [hin], rfl⟩
    case rest =>
      obtain ⟨rfl, rfl⟩ := hcut
      by_cases hlt : i < n ∧ i < 60
      · rw [decide_eq_true hlt]
        obtain ⟨ad, hA, hadb, hcell⟩ := HR.out.2 (by omega)
        subst hA
        have hxi : i < xs.length := by have := HXL.out; omega
        obtain ⟨z, hz⟩ : ∃ z, z = xs[i] := ⟨_, rfl⟩
        have hzb : -9223372036854775808 ≤ z ∧ z ≤ 9223372036854775807 := by rw [hz]; exact HXS.out _ (List.getElem_mem hxi)
        have hcz := hcell i (.int .i64 z) (by rw [List.getElem?_map, List.getElem?_eq_getElem hxi, hz]; rfl)
        have hcz2 : wc.cell? (ad.add i) = some (.int .i64 z) := (HL.out.low.cell (show (ad.add i).block < w.heap.size by rw [block_of_add]; omega)).trans hcz
        obtain ⟨S, hd⟩ := HL.out.vat.dat
        have h2 := HRUN.out.two
        have hbl := bringF_lt (z / 64) 2 (by omega)
        obtain ⟨s, hs⟩ : ∃ s, m.chunks[bringF (z / 64) 2]? = some s := ⟨_, List.getElem?_eq_getElem (by omega)⟩
        obtain ⟨s0, hs0⟩ : ∃ s, m.chunks[0]? = some s := ⟨_, List.getElem?_eq_getElem (by omega)⟩
        obtain ⟨s1, hs1⟩ : ∃ s, m.chunks[1]? = some s := ⟨_, List.getElem?_eq_getElem (by omega)⟩
        have hnok := (hd.ok.srv s (List.mem_of_getElem? hs)).now_ok
        have hok0 := hd.ok.srv s0 (List.mem_of_getElem? hs0)
        have hok1 := hd.ok.srv s1 (List.mem_of_getElem? hs1)
        obtain ⟨x, hx⟩ : ∃ x, x = wishS s.now z ((i + 1 : Nat) : Int) := ⟨_, rfl⟩
        have hxst : x.stamp = ((i + 1 : Nat) : Int) := by rw [hx, wishS_stamp]
        have hxq : inQ x = true := by
          rw [hx]
          exact wishS_inQ (fun q hq => hnok.bound hq) hnok.short.1 (by omega) (by omega)
        have hfr : ((lastQ m (x.client - 31).toNat).1 : Int) < x.stamp := by
          have := HRUN.out.last (x.client - 31).toNat
          rw [hxst]; omega
        obtain ⟨hp0, s0', s1', d0, d1, hc0, hc1, hg0, hg1, hdd⟩ := epochs_step hd.ok h2 hxq hfr hs0 hs1
        have HWI := Lib.hid (fun (t : Int) (ht : t = ((i + 1 : Nat) : Int)) => (show Calls Tryz.prog 22 #[.pointer (some ⟨V.g, 0, none⟩), .int .i64 z, .int .i64 t] wc (AWishPost wc x) from by
          rw [hx, ← ht]
          exact awish_any wc _ _ _ _ _ _ _ s hd z t hs rfl hzb.1 hzb.2 (by omega) (by omega)))
        have HIN := Lib.hid (fun (W : World) => (show WishIn W W.heap.size x none 0 0 none 0 0 from by
          rw [hx]
          exact wishS_in (w := W) (now := s.now) (n := z) (fun q hq => hnok.bound hq) (by omega) (by omega)))
        have HSTP := Lib.hid (HRUN.out.step (x := x) (by rw [hxst]; omega))
        have H1F2 := Lib.hid (H1F.out.step (x := x))
        have HC0 := Lib.hid hc0
        have HC1 := Lib.hid hc1
        have HG0 := Lib.hid hg0
        have HG1 := Lib.hid hg1
        have HDD := Lib.hid hdd
        have HP0 := Lib.hid hp0
        have HS0 := Lib.hid hs0
        have HS1 := Lib.hid hs1
        have ho0 := hok0.len
        have ho1 := hok1.len
        have HO0 := Lib.hid hok0
        have HO1 := Lib.hid hok1
        have hiI : (i : Int) < (n : Int) := by omega
        have h0I : (0 : Int) ≤ (i : Int) := by omega
        clear hcell hzb hcz hz hd hs hnok h2 hbl hs0 hs1 hok0 hok1 hx hxst hxq hfr hp0 hc0 hc1 hg0 hg1 hdd
        go_wp2_with fail
        refine (HWI.out _ (by omega)).mono ?_
        unfold AWishPost
        rintro _ w4 ⟨rfl, hb4⟩
        have hs4 := hb4.size
        have HB4 := Lib.hid hb4
        clear hb4 HWI hcz2
        go_upto_region 10 with (refine wpList_store_part (o := ⟨none, _, _, _, _, _⟩) rfl 48 (.tmp 6) (.tmp 49) rfl w4.heap.size 0 (wCells x none 0 0 none 0 0) rfl rfl 48 (wCells zeroW none 0 0 none 0 0) (Blk.newAt rfl) (wCells_info _ _ _ _ _ _ _) (by simp [wCells]) (wCells_one _ _ _ _ _ _ _) ?_; intro w5 hT hD3; rw [wC_spl] at hD3)
        have hbw5 : Below w4.heap.size w4 w5 := hT.below ((Below.refl _ _).alloc (Nat.le_refl _) _) (Nat.le_refl _)
        have hs5 := hbw5.size
        have HB5 := Lib.hid (HB4.out.trans (hbw5.mono hs4))
        obtain ⟨g6, hg⟩ : ∃ g, g = w4.heap.size := ⟨_, rfl⟩
        have hg6 : wc.heap.size ≤ g6 := by omega
        rw [← hg] at hD3 ⊢
        have K6 := Lib.hid hD3
        clear hT hg hD3 hbw5 HB4
        have HCA := Lib.hid ((HL.out.later HB5.out).crews_ (z := 1) HS0.out (by omega))
        go_wp2_with fail
        refine HCA.out.mono ?_
        rintro _ w6 ⟨v, nA7, nC7, rfl, hown, hb6⟩
        obtain ⟨g7, c7, rfl, hl7, _⟩ := hown.shape (by rw [crewsL_len]; omega) (fun l hl => (crews_short HO0.out hl))
        obtain ⟨n7, hn7⟩ : ∃ k, k = (crewsL s0.first s0.moves).length := ⟨_, rfl⟩
        have hn7b : n7 = s0.moves.length + 1 := by rw [hn7, crewsL_len]
        have HNB7 := Lib.hid hn7b
        have hn7l : n7 ≤ 22 := by omega
        have hn7o : 1 ≤ n7 := by omega
        rw [← hn7] at hown hl7 ⊢
        clear hn7b
        have HW7 := Lib.hid hown
        have HN7 := Lib.hid hn7
        have hs6 := hb6.size
        have hs5' := HB5.out.size
        have HB6 := Lib.hid (HB5.out.trans (hb6.mono hs5'))
        have K6_6 := Lib.hid (K6.out.below' hb6)
        have HCB := Lib.hid ((HL.out.later HB6.out).crews_ (z := 2) HS1.out (by omega))
        clear hown hn7 hb6 HCA K6
        go_wp2_with fail
        refine HCB.out.mono ?_
        rintro _ w7 ⟨v, nA8, nC8, rfl, hown, hb7⟩
        obtain ⟨g8, c8, rfl, hl8, _⟩ := hown.shape (by rw [crewsL_len]; omega) (fun l hl => (crews_short HO1.out hl))
        obtain ⟨n8, hn8⟩ : ∃ k, k = (crewsL s1.first s1.moves).length := ⟨_, rfl⟩
        have hn8b : n8 = s1.moves.length + 1 := by rw [hn8, crewsL_len]
        have HNB8 := Lib.hid hn8b
        have hn8l : n8 ≤ 22 := by omega
        have hn8o : 1 ≤ n8 := by omega
        rw [← hn8] at hown hl8 ⊢
        clear hn8b
        have HW8 := Lib.hid hown
        have HN8 := Lib.hid hn8
        have hs7 := hb7.size
        have HB7 := Lib.hid (HB6.out.trans (hb7.mono (by omega)))
        have HW7b := Lib.hid (HW7.out.below hb7)
        have K6_7 := Lib.hid (K6_6.out.below' hb7)
        have HDO := Lib.hid (HL.out.do3 HB7.out (by omega) x (HIN.out w7))
        unfold ADid3 at HDO
        rw [HP0.out] at HDO
        clear hown hn8 hb7 HCB K6_6 HW7
        go_wp2_with (refine wpList_load_part (o := ⟨some 56, _, _, _, _, _⟩) rfl 48 (.tmp 6) rfl g6 0 10 rfl 48 _ (wCells x none 0 0 none 0 0) _ K6_7.out Tryz.underlying48 rfl rfl rfl (fun _ _ => by rw [Nat.zero_add]; try rfl) ?_)
        refine HDO.out.mono ?_
        rintro _ w8 ⟨A9, q9, N8, rfl, hal, hkeep, hs8⟩
        have HL8 := Lib.hid hal
        have K6_8 := Lib.hid (show Blk w8 g6 48 (wCells x none 0 0 none 0 0) from (hkeep g6 hg6 K6_7.out.lt).trans K6_7.out)
        have HW7_8 := Lib.hid (HW7b.out.keep (w' := w8) fun b hb hlt => hkeep b (by omega) hlt)
        have HW8_8 := Lib.hid (HW8.out.keep (w' := w8) fun b hb hlt => hkeep b (by omega) hlt)
        have hok' := hal.vat.ok
        have HO0' := Lib.hid (hok'.srv s0' (List.mem_of_getElem? HC0.out))
        have HO1' := Lib.hid (hok'.srv s1' (List.mem_of_getElem? HC1.out))
        obtain ⟨er, her⟩ : ∃ e, e = (doQ m x).2.1.err := ⟨_, rfl⟩
        obtain ⟨pe, hpe⟩ : ∃ e, e = (doQ m x).2.1.epoch := ⟨_, rfl⟩
        obtain ⟨nl, hnl⟩ : ∃ e, e = (doQ m x).2.1.nodes.length := ⟨_, rfl⟩
        rw [← her, ← hpe, ← hnl]
        rw [← her] at HDD
        clear hal hkeep HDO her hpe hnl hok' HW7b HW8 K6_7
        go_upto_region 12 with (refine wpList_store_part (o := ⟨none, _, _, _, _, _⟩) rfl 52 (.tmp 9) (.tmp 58) rfl w8.heap.size 0 (anC (er : Int) none 0 0 (pe : Int) A9 nl q9) rfl rfl 52 (anC 0 none 0 0 0 none 0 0) (Blk.newAt rfl) (anC_info _ _ _ _ _ _ _ _) (by simp [anC]) (anC_one _ _ _ _ _ _ _ _) ?_; intro w9 hT hD3; rw [anC_spl _ rfl] at hD3)
        have hbw9 : Below w8.heap.size w8 w9 := hT.below ((Below.refl _ _).alloc (Nat.le_refl _) _) (Nat.le_refl _)
        have hs9 := hbw9.size
        have HB9 := Lib.hid hbw9
        have K6_9 := Lib.hid (K6_8.out.below' hbw9)
        have HW7_9 := Lib.hid (HW7_8.out.below hbw9)
        have HW8_9 := Lib.hid (HW8_8.out.below hbw9)
        obtain ⟨g9, hg⟩ : ∃ g, g = w8.heap.size := ⟨_, rfl⟩
        rw [← hg] at hD3 ⊢
        have K9 := Lib.hid hD3
        clear hT hg hD3 hbw9 K6_8 HW7_8 HW8_8
        have HCA := Lib.hid ((HL8.out.later HB9.out).crews_ (z := 1) HC0.out (by omega))
        go_wp2_with fail
        refine HCA.out.mono ?_
        rintro _ w10 ⟨v, nA11, nC11, rfl, hown, hb10⟩
        obtain ⟨g11, c11, rfl, hl11, _⟩ := hown.shape (by rw [crewsL_len]; omega) (fun l hl => (crews_short HO0'.out hl))
        obtain ⟨n11, hn11⟩ : ∃ k, k = (crewsL s0'.first s0'.moves).length := ⟨_, rfl⟩
        have hn11b : n11 = s0'.moves.length + 1 := by rw [hn11, crewsL_len]
        have hq11 := HO0'.out.len
        have HNB11 := Lib.hid hn11b
        have hn11l : n11 ≤ 22 := by omega
        have hn11o : 1 ≤ n11 := by omega
        rw [← hn11] at hown hl11 ⊢
        clear hn11b hq11
        have HW11 := Lib.hid hown
        have HN11 := Lib.hid hn11
        have hs10 := hb10.size
        have HB10 := Lib.hid (HB9.out.trans (hb10.mono hs9))
        have K6_10 := Lib.hid (K6_9.out.below' hb10)
        have K9_10 := Lib.hid (K9.out.below' hb10)
        have HW7_10 := Lib.hid (HW7_9.out.below hb10)
        have HW8_10 := Lib.hid (HW8_9.out.below hb10)
        have HCB := Lib.hid ((HL8.out.later HB10.out).crews_ (z := 2) HC1.out (by omega))
        clear hown hn11 hb10 HCA K6_9 K9 HW7_9 HW8_9
        go_wp2_with fail
        refine HCB.out.mono ?_
        rintro _ w11 ⟨v, nA12, nC12, rfl, hown, hb11⟩
        obtain ⟨g12, c12, rfl, hl12, _⟩ := hown.shape (by rw [crewsL_len]; omega) (fun l hl => (crews_short HO1'.out hl))
        obtain ⟨n12, hn12⟩ : ∃ k, k = (crewsL s1'.first s1'.moves).length := ⟨_, rfl⟩
        have hn12b : n12 = s1'.moves.length + 1 := by rw [hn12, crewsL_len]
        have hq12 := HO1'.out.len
        have HNB12 := Lib.hid hn12b
        have hn12l : n12 ≤ 22 := by omega
        have hn12o : 1 ≤ n12 := by omega
        rw [← hn12] at hown hl12 ⊢
        clear hn12b hq12
        have HW12 := Lib.hid hown
        have HN12 := Lib.hid hn12
        have hs11 := hb11.size
        have HB11 := Lib.hid (HB10.out.trans (hb11.mono (by omega)))
        have HW11b := Lib.hid (HW11.out.below hb11)
        have HW7_11 := Lib.hid (HW7_10.out.below hb11)
        have HW8_11 := Lib.hid (HW8_10.out.below hb11)
        have ck : w11.cell? ⟨g6, 4, none⟩ = some (.int .i64 x.kind) := (K6_10.out.below' hb11).cell 4
        have ce : w11.cell? ⟨g9, 0, none⟩ = some (.int .i64 (er : Int)) := (K9_10.out.below' hb11).cell 0
        obtain ⟨kd, hkd⟩ : ∃ k, k = x.kind := ⟨_, rfl⟩
        rw [← hkd] at ck HDD
        clear hown hn12 hb11 HCB K6_10 K9_10 HW7_10 HW8_10 HW11 hkd
        have HN11C := Lib.hid (show n11 = n7 + d0 from by have := HG0.out.2.2; have := HNB7.out; have := HNB11.out; omega)
        have HN12C := Lib.hid (show n12 = n8 + d1 from by have := HG1.out.2.2; have := HNB8.out; have := HNB12.out; omega)
        go_upto_region 14 with fail
        go_cut [14] (fun s14 wx => s14 = .bool (decide (kd = 4 ∧ er = 0)) ∧ wx = w11)
        case first =>
          by_cases hk : kd = 4
          · have hkb : (kd == 4) = true := by simp [hk]
            by_cases he : er = 0
            · have heb : ((er : Int) == 0) = true := by simp [he]
              go_wp2_with fail
              go_meet
              exact ⟨by rw [decide_eq_true ⟨hk, he⟩], rfl⟩
            · have heb : ((er : Int) == 0) = false := by simp [he]
              go_wp2_with fail
              go_meet
              exact ⟨by rw [decide_eq_false (fun e => he e.2)], rfl⟩
          · have hkb : (kd == 4) = false := by simp [hk]
            go_wp2_with fail
            go_meet
            exact ⟨by rw [decide_eq_false (fun e => hk e.1)], rfl⟩
        case rest =>
          obtain ⟨rfl, rfl⟩ := hcut
          have hn7_11 : n7 ≤ n11 := by have := HN11C.out; omega
          have hn8_12 : n8 ≤ n12 := by have := HN12C.out; omega
          obtain ⟨dn, hdn⟩ : ∃ b, b = decide (kd = 4 ∧ er = 0) := ⟨_, rfl⟩
          have hgr : (n11 : Int) + (n12 : Int) - (n7 : Int) - (n8 : Int) = if dn = true then 1 else 0 := by
            have e1 := HN11C.out
            have e2 := HN12C.out
            have e3 := HDD.out
            rw [hdn]
            by_cases h : kd = 4 ∧ er = 0
            · rw [if_pos h] at e3
              rw [decide_eq_true h, if_pos rfl]; omega
            · rw [if_neg h] at e3
              rw [decide_eq_false h, if_neg (by simp)]; omega
          rw [hgr, ← hdn]
          have HSC7 := Lib.hid (fun (W : World) (hb : Below wc.heap.size wc W) => sameGrown HO0.out HO0'.out HG0.out HN7.out (HW7_11.out.below hb) (HW11b.out.below hb))
          have HSC8 := Lib.hid (fun (W : World) (hb : Below wc.heap.size wc W) => sameGrown HO1.out HO1'.out HG1.out HN8.out (HW8_11.out.below hb) (HW12.out.below hb))
          have HSL7 := Lib.hid (fun (W : World) => run_slice_toS (P := Tryz.prog) (t := 45) (e := 57) (m := 2) Tryz.underlying45 (by kernel_rfl) ⟨g11, 0, none⟩ n11 c11 n7 (n7 : Int) rfl (by omega) (by omega) W)
          have HSL8 := Lib.hid (fun (W : World) => run_slice_toS (P := Tryz.prog) (t := 45) (e := 57) (m := 2) Tryz.underlying45 (by kernel_rfl) ⟨g12, 0, none⟩ n12 c12 n8 (n8 : Int) rfl (by omega) (by omega) W)
          have HL11 := Lib.hid ((HL8.out.below HB11.out).more (a' := 60 + 6 * (i + 1)) (by omega))
          have HST := Lib.hid (show AeSt w V (i + 1) wc from ⟨_, _, HSTP.out, H1F2.out, HL11.out⟩)
          clear hgr hdn ck ce HDD
          cases dn with
          | true =>
            simp only [if_true]
            go_upto_region 17 with fail
            go_wp2_with (refine wpList_exec_want (o := ⟨some 103, _, _, _, _, _⟩) rfl (.slice (some ⟨g11, 0, none⟩) n7 c11) (HSL7.out wc) ?_)
            refine (HSC7.out wc (Below.refl _ _)).mono ?_
            rintro _ w12 ⟨rfl, hb12⟩
            have HB12 := Lib.hid hb12
            have hs12 := hb12.size
            clear hb12 HSC7
            go_wp2_with (refine wpList_exec_want (o := ⟨some 111, _, _, _, _, _⟩) rfl (.slice (some ⟨g12, 0, none⟩) n8 c12) (HSL8.out w12) ?_)
            refine (HSC8.out w12 HB12.out).mono ?_
            rintro _ w13 ⟨rfl, hb13⟩
            have HST3 := Lib.hid (HST.out.below (HB12.out.trans (hb13.mono hs12)))
            clear hb13 HSC8
            go_wp2_with fail
            go_roundw
            case rel => exact ⟨i + 1, by omega, by omega, by go_num, HST3.out⟩
            case measure => simp [intOf]; omega
          | false =>
            simp only [Bool.false_eq_true, if_false]
            go_upto_region 17 with fail
            go_wp2_with (refine wpList_exec_want (o := ⟨some 103, _, _, _, _, _⟩) rfl (.slice (some ⟨g11, 0, none⟩) n7 c11) (HSL7.out wc) ?_)
            refine (HSC7.out wc (Below.refl _ _)).mono ?_
            rintro _ w12 ⟨rfl, hb12⟩
            have HB12 := Lib.hid hb12
            have hs12 := hb12.size
            clear hb12 HSC7
            go_wp2_with (refine wpList_exec_want (o := ⟨some 111, _, _, _, _, _⟩) rfl (.slice (some ⟨g12, 0, none⟩) n8 c12) (HSL8.out w12) ?_)
            refine (HSC8.out w12 HB12.out).mono ?_
            rintro _ w13 ⟨rfl, hb13⟩
            have HST3 := Lib.hid (HST.out.below (HB12.out.trans (hb13.mono hs12)))
            clear hb13 HSC8
            go_wp2_with fail
            go_roundw
            case rel => exact ⟨i + 1, by omega, by omega, by go_num, HST3.out⟩
            case measure => simp [intOf]; omega
      · rw [decide_eq_false hlt]
        have HAK := Lib.hid HL.out.vat.ok
        have H2 := Lib.hid HRUN.out.two
        clear hlt hi60 hi HR HXS HXL
        go_wp2_with fail
        go_loopw [15, 16] (fun sv cv wr => ∃ cc : Nat, 1 ≤ cc ∧ cc ≤ 3 ∧ cv = .int .i64 cc ∧ OwnN wr wc.heap.size sv (servedA (m.chunks.take (cc - 1))) ∧ Below wc.heap.size wc wr) (fun _ cv _ => 3 - (intOf cv).toNat)
        case atStart => exact ⟨1, by omega, by omega, rfl, OwnN.nil_ _ _, Below.refl _ _⟩
        case round =>
          obtain ⟨cc, hc1, hc3, rfl, hov, hbl⟩ := hrel
          obtain ⟨w16, rfl⟩ : ∃ x, x = wr := ⟨_, rfl⟩
          have HOV := Lib.hid hov
          have HBL := Lib.hid hbl
          have hsz := hbl.size
          clear hov hbl
          by_cases hc : cc ≤ 2
          · have hcI : (cc : Int) ≤ 2 := by omega
            obtain ⟨s, hs⟩ : ∃ s, m.chunks[cc - 1]? = some s := ⟨_, List.getElem?_eq_getElem (by have := H2.out; omega)⟩
            have HSK := Lib.hid (HAK.out.srv s (List.mem_of_getElem? hs))
            have HSF := Lib.hid (H1F.out s (List.mem_of_getElem? hs))
            have HCW := Lib.hid ((HL.out.below HBL.out).crews_ (z := (cc : Int)) hs (by omega))
            have HTK := Lib.hid (servedA_take hs)
            have hpl : (servedA (m.chunks.take (cc - 1))).length ≤ 56 := by
              have h1 := served_len (m.chunks.take (cc - 1)) (fun q hq => HAK.out.srv q (List.mem_of_mem_take hq))
              rw [List.length_take] at h1
              omega
            obtain ⟨pre, hpre⟩ : ∃ p, p = servedA (m.chunks.take (cc - 1)) := ⟨_, rfl⟩
            rw [← hpre] at HOV HTK hpl
            obtain ⟨Av, cv, hv, hvc, _, _, _⟩ := own_slice_n HOV.out
            subst hv
            obtain ⟨pl, hpl'⟩ : ∃ p, p = pre.length := ⟨_, rfl⟩
            rw [← hpl'] at HOV hpl ⊢
            have HPL := Lib.hid hpl'
            clear hs hpre hvc hpl'
            go_wp2_with fail
            refine HCW.out.mono ?_
            rintro _ w17 ⟨v, nA, nC, rfl, hown, hb17⟩
            obtain ⟨gl, cl, rfl, hll, _⟩ := hown.shape (by rw [crewsL_len]; omega) (fun l hl => crews_short HSK.out hl)
            have hml := HSK.out.len
            obtain ⟨nn, hnn⟩ : ∃ k, k = (crewsL s.first s.moves).length := ⟨_, rfl⟩
            have hnn2 : nn = s.moves.length + 1 := by rw [hnn, crewsL_len]
            have HNN := Lib.hid hnn2
            have hnl : nn ≤ 22 := by omega
            have hn1 : 1 ≤ nn := by omega
            rw [← hnn] at hown hll ⊢
            clear hnn2
            have e0 : (crewsL s.first s.moves)[0]? = some s.first := crewsL_at _ _ 0 (Nat.zero_le _)
            obtain ⟨A0, q0, C0, cur0, _, _, _, _, hc0, hr0⟩ := hown.elem e0
            have hc0' : w17.cell? ⟨gl, 1, none⟩ = some (.slice A0 s.first.length q0) := hc0
            have HOW := Lib.hid hown
            have hs17 := hb17.size
            have hsv : SvSt wc w16 w17 (.slice Av pl cv) pre w17 := ⟨HBL.out.trans (hb17.mono hsz), HOV.out.below_ hb17, fun b hb => .inl (rowD_lt HOV.out hb).2, fun b h1 h2 => rfl, Nat.le_refl _⟩
            have HSV := Lib.hid hsv
            obtain ⟨fl, hfl⟩ : ∃ k, k = s.first.length := ⟨_, rfl⟩
            have hfl7 : fl ≤ 7 := by rw [hfl]; exact HSK.out.crew.short.2
            rw [← hfl] at hc0' hr0
            have HR0 := Lib.hid hr0
            have HFL := Lib.hid hfl
            have HOWR := Lib.hid (show w17.ownsRow wc.heap.size 3 1 (.slice Av pl cv) pl (pre.map vn) from by
              have := hsv.own
              unfold OwnN at this
              rw [← HPL.out] at this
              exact this)
            have hsl := hsv.low.size
            have hn1I : (0 : Int) < (nn : Int) := by omega
            have hn1N : 0 < nn := by omega
            clear hown hnn e0 hc0 hr0 hfl hsv HCW hb17
            go_wp2_with (at_builtin; go_must (refine wpList_append_any _ rfl (.tmp 122) (.tmp 126) 41 rfl wc.heap.size 3 i0 _ 1 8 Tryz.underlying41 hi0 hz0 hz1 hz2 rfl (by omega) _ pl (pre.map vn) rfl HOWR.out w17.heap.size A0 fl q0 (s.first.map vn) rfl HR0.out ?c1 ?c2 ?c3 ?c4 ?_))
            case c1 => intro z hz; obtain ⟨q, _, rfl⟩ := List.mem_map.1 hz; rfl
            case c2 => unfold maxLen; omega
            case c3 => omega
            case c4 => omega
            intro v6 w6 hown6 hg6 hor6
            have HSV6 := Lib.hid (HSV.out.push (ys := s.first) (Below.refl _ _) (by rw [← HPL.out, ← HFL.out]; exact hown6) hg6 hor6)
            clear hown6 hg6 hor6 HOWR HR0 HSV hc0'
            rw [show s.first = servedK s (1 - 1) by simp [servedK]] at HSV6
            go_wp2_with fail
            go_loopw [15, 18] (fun sv iv w3 => ∃ i : Nat, 1 ≤ i ∧ i ≤ nn ∧ iv = .int .i64 i ∧ SvSt wc w16 w17 sv (pre ++ servedK s (i - 1)) w3) (fun _ iv _ => nn - (intOf iv).toNat)
            case atStart => exact ⟨1, by omega, by omega, rfl, HSV6.out⟩
            case round =>
              obtain ⟨i, hi1, hin, rfl, hsv⟩ := hrel
              obtain ⟨w3, rfl⟩ : ∃ x, x = wr := ⟨_, rfl⟩
              obtain ⟨As, cs, hv, hsc, _, _, _⟩ := own_slice_n hsv.own
              obtain ⟨l3, hl3⟩ : ∃ x, x = (pre ++ servedK s (i - 1)).length := ⟨_, rfl⟩
              rw [← hl3] at hv
              subst hv
              have HSV := Lib.hid hsv
              clear hl3
              have hsl := hsv.low.size
              have hsz3 := hsv.size
              clear hsv HSV6 hsc
              by_cases hlt : i < nn
              · obtain ⟨k, hk⟩ : ∃ k, k = i - 1 := ⟨_, rfl⟩
                have hik : (i : Int) - 1 = (k : Int) := by omega
                have hki : i = k + 1 := by omega
                obtain ⟨o, z, hm, hg, hok1, hok2, heq⟩ := crew_next HSK.out HSF.out (k := k) (by have := HNN.out; omega)
                have eo : (crewsL s.first s.moves)[k]? = some (nowL s.first (s.moves.take k)) := crewsL_at _ _ k (by have := HNN.out; omega)
                have en : (crewsL s.first s.moves)[i]? = some (nowL s.first (s.moves.take (k + 1))) := by rw [hki]; exact crewsL_at _ _ (k + 1) (by have := HNN.out; omega)
                obtain ⟨old, hold⟩ : ∃ l, l = nowL s.first (s.moves.take k) := ⟨_, rfl⟩
                obtain ⟨new, hnew⟩ : ∃ l, l = nowL s.first (s.moves.take (k + 1)) := ⟨_, rfl⟩
                rw [← hold] at hg hok1 heq eo
                rw [← hnew] at hok2 heq en
                have hvt : (new.filter fun z => decide (z ∈ old)).length = 3 := by rw [heq]; have := repl_votes hok1 hg; omega
                have HNEW := Lib.hid (show (new.filter fun z => !decide (z ∈ old)) = [z] by rw [heq]; exact repl_new hg)
                have HNX := Lib.hid (servedK_next s k o z hm)
                have hok1' : OkC s.f old := by rw [HSF.out]; exact hok1
                have hok2' : OkC s.f new := by rw [HSF.out]; exact hok2
                have HEO := Lib.hid eo
                have HEN := Lib.hid en
                have HOK1 := Lib.hid hok1'
                have HOK2 := Lib.hid hok2'
                have HN4 := Lib.hid (show new.length = 4 from by rw [hok2.len])
                have HCR := Lib.hid (HSV.out.crews HOW.out)
                obtain ⟨Ao, qo, Co, curo, hCo, hszo, hBo, hvo, hco, hro⟩ := HCR.out.elem eo
                obtain ⟨An, qn, Cn, curn, hCn, hszn, hBn, hvn, hcn, hrn⟩ := HCR.out.elem en
                have ho7 := hok1.short.2
                have hn7 := hok2.short.2
                have HCK := Lib.hid (fun (W : World) (hb : Below w3.heap.size w3 W) => crCheck_any (s.f : Int) An new.length qn new W ((hrn.below hb).more hb.size) (by omega))
                have HVT := Lib.hid (fun (W : World) (hb : Below w3.heap.size w3 W) => crVotes_any s.f An new.length qn new Ao old.length qo old W ((hrn.below hb).more hb.size) hok2' ((hro.below hb).more hb.size) (by omega))
                rw [okCB_of hok2', if_pos rfl] at HCK
                rw [hvt] at HVT
                rw [← hCn] at HCK HVT
                have HBO := Lib.hid hBo
                have HBN := Lib.hid hBn
                have HVO := Lib.hid hvo
                have HVN := Lib.hid hvn
                obtain ⟨ol, hol⟩ : ∃ k, k = old.length := ⟨_, rfl⟩
                rw [← hol] at HVT hco
                have HCO := Lib.hid hco
                have hiI : (i : Int) < (nn : Int) := by omega
                have h0I : (0 : Int) ≤ (i : Int) := by omega
                have hkI : (k : Int) < (nn : Int) := by omega
                have h0k : (0 : Int) ≤ (k : Int) := by omega
                have hi22 : i ≤ 22 := by omega
                have hlt' : i < nn := hlt
                have hkn : k < nn := by omega
                have hwk : IntKind.i64.wrap (k : Int) = (k : Int) := IntWalk.i64_in _ (by omega)
                clear hm hg hok1 hok2 heq eo en hvt hok1' hok2' hCo hCn hBo hBn hvo hvn hco hcn hro hrn hold hnew hki hk hol
                go_upto_region 28 with fail
                refine wp_region_calm0 19 209 (by kernel_rfl) (by kernel_rfl) (by kernel_rfl) (by first | rfl | simp) ?_
                simp only [List.take_succ_cons, List.take_zero, List.drop_succ_cons, List.drop_zero]
                refine wpCalm_value rfl rfl (.slice (some ⟨gl, 0, none⟩) nn cl) (fun W _ => rfl) ?_
                try simp only [Act.put, List.setIfInBounds_toArray, List.set_cons_zero, List.set_cons_succ]
                refine wpCalm_value rfl rfl (.int .i64 (i : Int)) (fun W _ => rfl) ?_
                try simp only [Act.put, List.setIfInBounds_toArray, List.set_cons_zero, List.set_cons_succ]
                refine wpCalm_value rfl rfl (.pointer (some ⟨gl, i * 2, none⟩)) (fun W _ => by go_simp) ?_
                try simp only [Act.put, List.setIfInBounds_toArray, List.set_cons_zero, List.set_cons_succ]
                refine wpCalm_load_part rfl 57 (.tmp 136) rfl gl (i * 2) 2 rfl 57 _ Cn _ HBN.out Tryz.underlying57 rfl rfl hszn HVN.out ?_
                try simp only [Act.put, List.setIfInBounds_toArray, List.set_cons_zero, List.set_cons_succ]
                refine wpCalm_call rfl rfl 26 #[.agg Cn] (fun W => by go_simp) (.int .i64 0) (fun W hb => HCK.out W hb) ?_
                try simp only [Act.put, List.setIfInBounds_toArray, List.set_cons_zero, List.set_cons_succ]
                refine wpCalm_value rfl rfl (.bool false) (fun W _ => by go_simp) ?_
                try simp only [Act.put, List.setIfInBounds_toArray, List.set_cons_zero, List.set_cons_succ]
                refine wpCalm_value rfl rfl (.bool false) (fun W _ => rfl) ?_
                try simp only [Act.put, List.setIfInBounds_toArray, List.set_cons_zero, List.set_cons_succ]
                refine wpCalm_value rfl rfl (.slice (some ⟨gl, 0, none⟩) nn cl) (fun W _ => rfl) ?_
                try simp only [Act.put, List.setIfInBounds_toArray, List.set_cons_zero, List.set_cons_succ]
                refine wpCalm_value rfl rfl (.int .i64 (i : Int)) (fun W _ => rfl) ?_
                try simp only [Act.put, List.setIfInBounds_toArray, List.set_cons_zero, List.set_cons_succ]
                refine wpCalm_value rfl rfl (.pointer (some ⟨gl, i * 2, none⟩)) (fun W _ => by go_simp) ?_
                try simp only [Act.put, List.setIfInBounds_toArray, List.set_cons_zero, List.set_cons_succ]
                refine wpCalm_load_part rfl 57 (.tmp 143) rfl gl (i * 2) 2 rfl 57 _ Cn _ HBN.out Tryz.underlying57 rfl rfl hszn HVN.out ?_
                try simp only [Act.put, List.setIfInBounds_toArray, List.set_cons_zero, List.set_cons_succ]
                refine wpCalm_value rfl rfl (.slice (some ⟨gl, 0, none⟩) nn cl) (fun W _ => rfl) ?_
                try simp only [Act.put, List.setIfInBounds_toArray, List.set_cons_zero, List.set_cons_succ]
                refine wpCalm_value rfl rfl (.int .i64 (i : Int)) (fun W _ => rfl) ?_
                try simp only [Act.put, List.setIfInBounds_toArray, List.set_cons_zero, List.set_cons_succ]
                refine wpCalm_value rfl rfl (.int .i64 (k : Int)) (fun W _ => by go_simp) ?_
                try simp only [Act.put, List.setIfInBounds_toArray, List.set_cons_zero, List.set_cons_succ]
                refine wpCalm_value rfl rfl (.pointer (some ⟨gl, k * 2, none⟩)) (fun W _ => by go_simp) ?_
                try simp only [Act.put, List.setIfInBounds_toArray, List.set_cons_zero, List.set_cons_succ]
                refine wpCalm_value rfl rfl (.pointer (some ⟨gl, k * 2 + 1, none⟩)) (fun W _ => by go_simp) ?_
                try simp only [Act.put, List.setIfInBounds_toArray, List.set_cons_zero, List.set_cons_succ]
                refine wpCalm_below rfl rfl (.slice Ao ol qo) (fun W hb => by
                  have h := (hb.cell (p := ⟨gl, k * 2 + 1, none⟩) HBO.out.lt).trans HCO.out
                  go_simp) ?_
                try simp only [Act.put, List.setIfInBounds_toArray, List.set_cons_zero, List.set_cons_succ]
                refine wpCalm_call rfl rfl 27 #[.agg Cn, .slice Ao ol qo] (fun W => by go_simp) (.int .i64 3) (fun W hb => HVT.out W hb) ?_
                try simp only [Act.put, List.setIfInBounds_toArray, List.set_cons_zero, List.set_cons_succ]
                refine wpCalm_value rfl rfl (.bool false) (fun W _ => by go_simp) ?_
                try simp only [Act.put, List.setIfInBounds_toArray, List.set_cons_zero, List.set_cons_succ]
                refine wpCalm_nil ?_
                intro w4 hb4
                have HSV4 := Lib.hid (HSV.out.below hb4)
                clear hb4 HSV HCK HVT HBO HBN HVO HVN HCO HCR
                go_wp2_with fail
                go_loopw [15, 19] (fun sv jv w5 => ∃ j : Nat, j ≤ 4 ∧ jv = .int .i64 j ∧ SvSt wc w16 w17 sv (pre ++ servedK s k ++ (new.take j).filter (fun z => !decide (z ∈ old))) w5) (fun _ jv _ => 4 - (intOf jv).toNat)
                case atStart =>
                  refine ⟨0, by omega, rfl, ?_⟩
                  have := HSV4.out
                  rw [show i - 1 = k by omega] at this
                  rw [List.take_zero, List.filter_nil, List.append_nil]
                  exact this
                case round =>
                  obtain ⟨j, hj, rfl, hsv⟩ := hrel
                  obtain ⟨w5, rfl⟩ : ∃ x, x = wr := ⟨_, rfl⟩
                  obtain ⟨As, cs, hv, hsc, _, _, _⟩ := own_slice_n hsv.own
                  obtain ⟨l4, hl4⟩ : ∃ x, x = (pre ++ servedK s k ++ (new.take j).filter (fun z => !decide (z ∈ old))).length := ⟨_, rfl⟩
                  rw [← hl4] at hv
                  subst hv
                  have HSV := Lib.hid hsv
                  have HL4 := Lib.hid hl4
                  clear hl4
                  have hsl5 := hsv.low.size
                  have hsz5 := hsv.size
                  have HCR := Lib.hid (hsv.crews HOW.out)
                  clear hsv HSV4 hsc
                  by_cases hj4 : j < 4
                  · have hj4I : (j : Int) < 4 := by omega
                    have h0j : (0 : Int) ≤ (j : Int) := by omega
                    obtain ⟨Ao, qo, Co, curo, hCo, hszo, hBo, hvo, hco, hro⟩ := HCR.out.elem HEO.out
                    obtain ⟨An, qn, Cn, curn, hCn, hszn, hBn, hvn, hcn, hrn⟩ := HCR.out.elem HEN.out
                    have hjn : j < new.length := by rw [HN4.out]; exact hj4
                    obtain ⟨zj, hzj⟩ : ∃ z, z = new[j] := ⟨_, rfl⟩
                    obtain ⟨ad, hA, had, hcell⟩ := hrn.2 (by omega)
                    subst hA
                    have hcz := hcell j (.int .i64 zj) (by rw [List.getElem?_map, List.getElem?_eq_getElem hjn, hzj]; rfl)
                    have hfil := filter_take (p := fun z => !decide (z ∈ old)) hjn
                    rw [← hzj] at hfil
                    have HFIL := Lib.hid hfil
                    have HHS := Lib.hid (fun (W : World) (hb : Below w5.heap.size w5 W) => crHas_any s.f Ao old.length qo old zj W ((hro.below hb).more hb.size) HOK1.out)
                    rw [← hCo] at HHS
                    obtain ⟨bq, hbq⟩ : ∃ b, b = decide (zj ∈ old) := ⟨_, rfl⟩
                    rw [← hbq] at HHS
                    have HBQ := Lib.hid hbq
                    have HBO := Lib.hid hBo
                    have HVO := Lib.hid hvo
                    rw [HN4.out] at hcn
                    have HCN := Lib.hid hcn
                    have HCZ := Lib.hid hcz
                    have hadl : (ad.add j).block < w5.heap.size := by rw [block_of_add]; exact had
                    have HBN := Lib.hid hBn
                    clear hCo hCn hBo hBn hvo hvn hcn hco hro hrn hzj hcell hcz hfil hbq hjn
                    go_upto_region 33 with fail
                    refine wp_region_calm0 14 209 (by kernel_rfl) (by kernel_rfl) (by kernel_rfl) (by first | rfl | simp) ?_
                    simp only [List.take_succ_cons, List.take_zero, List.drop_succ_cons, List.drop_zero]
                    refine wpCalm_value rfl rfl (.slice (some ⟨gl, 0, none⟩) nn cl) (fun W _ => rfl) ?_
                    try simp only [Act.put, List.setIfInBounds_toArray, List.set_cons_zero, List.set_cons_succ]
                    refine wpCalm_value rfl rfl (.int .i64 (i : Int)) (fun W _ => rfl) ?_
                    try simp only [Act.put, List.setIfInBounds_toArray, List.set_cons_zero, List.set_cons_succ]
                    refine wpCalm_value rfl rfl (.int .i64 (k : Int)) (fun W _ => by go_simp) ?_
                    try simp only [Act.put, List.setIfInBounds_toArray, List.set_cons_zero, List.set_cons_succ]
                    refine wpCalm_value rfl rfl (.pointer (some ⟨gl, k * 2, none⟩)) (fun W _ => by go_simp) ?_
                    try simp only [Act.put, List.setIfInBounds_toArray, List.set_cons_zero, List.set_cons_succ]
                    refine wpCalm_load_part rfl 57 (.tmp 161) rfl gl (k * 2) 2 rfl 57 _ Co _ HBO.out Tryz.underlying57 rfl rfl hszo HVO.out ?_
                    try simp only [Act.put, List.setIfInBounds_toArray, List.set_cons_zero, List.set_cons_succ]
                    refine wpCalm_value rfl rfl (.slice (some ⟨gl, 0, none⟩) nn cl) (fun W _ => rfl) ?_
                    try simp only [Act.put, List.setIfInBounds_toArray, List.set_cons_zero, List.set_cons_succ]
                    refine wpCalm_value rfl rfl (.int .i64 (i : Int)) (fun W _ => rfl) ?_
                    try simp only [Act.put, List.setIfInBounds_toArray, List.set_cons_zero, List.set_cons_succ]
                    refine wpCalm_value rfl rfl (.pointer (some ⟨gl, i * 2, none⟩)) (fun W _ => by go_simp) ?_
                    try simp only [Act.put, List.setIfInBounds_toArray, List.set_cons_zero, List.set_cons_succ]
                    refine wpCalm_value rfl rfl (.pointer (some ⟨gl, i * 2 + 1, none⟩)) (fun W _ => by go_simp) ?_
                    try simp only [Act.put, List.setIfInBounds_toArray, List.set_cons_zero, List.set_cons_succ]
                    refine wpCalm_below rfl rfl (.slice (some ad) 4 qn) (fun W hb => by
                      have h := (hb.cell (p := ⟨gl, i * 2 + 1, none⟩) HBN.out.lt).trans HCN.out
                      go_simp) ?_
                    try simp only [Act.put, List.setIfInBounds_toArray, List.set_cons_zero, List.set_cons_succ]
                    refine wpCalm_value rfl rfl (.int .i64 (j : Int)) (fun W _ => rfl) ?_
                    try simp only [Act.put, List.setIfInBounds_toArray, List.set_cons_zero, List.set_cons_succ]
                    refine wpCalm_value rfl rfl (.pointer (some (ad.add j))) (fun W _ => by go_simp) ?_
                    try simp only [Act.put, List.setIfInBounds_toArray, List.set_cons_zero, List.set_cons_succ]
                    refine wpCalm_below rfl rfl (.int .i64 zj) (fun W hb => by
                      have h := (hb.cell hadl).trans HCZ.out
                      go_simp) ?_
                    try simp only [Act.put, List.setIfInBounds_toArray, List.set_cons_zero, List.set_cons_succ]
                    refine wpCalm_call rfl rfl 28 #[.agg Co, .int .i64 zj] (fun W => by go_simp) (.bool bq) (fun W hb => HHS.out W hb) ?_
                    try simp only [Act.put, List.setIfInBounds_toArray, List.set_cons_zero, List.set_cons_succ]
                    refine wpCalm_nil ?_
                    intro w6 hb6
                    have HSV6 := Lib.hid (HSV.out.below hb6)
                    have HCN6 := Lib.hid ((hb6.cell (p := ⟨gl, i * 2 + 1, none⟩) HBN.out.lt).trans HCN.out)
                    have HCZ6 := Lib.hid ((hb6.cell hadl).trans HCZ.out)
                    have hs6 := hb6.size
                    clear hb6 HSV HHS HBO HVO HBN HCN HCZ HCR
                    cases bq with
                    | true =>
                      have HSV7 := Lib.hid (show SvSt wc w16 w17 (.slice As l4 cs) (pre ++ servedK s k ++ (new.take (j + 1)).filter (fun z => !decide (z ∈ old))) w6 from by
                        rw [HFIL.out, ← HBQ.out]
                        simp only [Bool.not_true, Bool.false_eq_true, if_false, List.append_nil]
                        exact HSV6.out)
                      go_wp2_with fail
                      go_roundw
                      case rel => exact ⟨j + 1, by omega, by go_num, HSV7.out⟩
                      case measure => simp [intOf]; omega
                    | false =>
                      obtain ⟨sl, hsl'⟩ : ∃ l, l = pre ++ servedK s k ++ (new.take j).filter (fun z => !decide (z ∈ old)) := ⟨_, rfl⟩
                      rw [← hsl'] at HSV6
                      obtain ⟨ln, hln, hln4⟩ : ∃ l, l = sl.length ∧ l = l4 := ⟨l4, by rw [HL4.out, hsl'], rfl⟩
                      rw [← hln4] at HSV6 ⊢
                      have hln99 : ln ≤ 99 := by
                        rw [hln, hsl', List.length_append, List.length_append]
                        have h1 : (servedK s k).length ≤ 28 := by
                          unfold servedK
                          have := HSK.out.crew.short
                          rw [List.length_append, List.length_map, List.length_take]; omega
                        have h2 : ((new.take j).filter (fun z => !decide (z ∈ old))).length ≤ 4 := Nat.le_trans (List.length_filter_le _ _) (by rw [List.length_take]; omega)
                        have h3 : pre.length ≤ 56 := by rw [← HPL.out]; exact hpl
                        omega
                      have HE := Lib.hid (show sl ++ [zj] = pre ++ servedK s k ++ (new.take (j + 1)).filter (fun z => !decide (z ∈ old)) from by
                        rw [HFIL.out, ← HBQ.out, hsl']
                        simp only [Bool.not_false, if_true, List.append_assoc])
                      have HOWR := Lib.hid (show (w6.alloc (.cells #[.int .i64 zj] 3)).ownsRow wc.heap.size 3 1 (.slice As ln cs) ln (sl.map vn) from by
                        have := World.ownsRow.alloc HSV6.out.own (.cells #[.int .i64 zj] 3)
                        rw [← hln] at this
                        exact this)
                      have HR3 := Lib.hid (reads_cells w6 #[.int .i64 zj] 3)
                      have HLN := Lib.hid hln
                      have c1 := HCN6.out
                      have c2 := HCZ6.out
                      clear hsl' hln hln4
                      go_wp2_with (at_builtin; go_must (refine wpList_append_any _ rfl (.tmp 173) (.tmp 182) 41 rfl wc.heap.size 3 i0 _ 1 8 Tryz.underlying41 hi0 hz0 hz1 hz2 rfl (by omega) _ ln (sl.map vn) rfl HOWR.out (w6.heap.size + 1) (some ⟨w6.heap.size, 0, none⟩) 1 1 [.int .i64 zj] rfl HR3.out ?d1 ?d2 ?d3 ?d4 ?_))
                      case d1 => rfl
                      case d2 => unfold maxLen; omega
                      case d3 => omega
                      case d4 => omega
                      intro v7 w7 hown7 hg7 hor7
                      have HSV7 := Lib.hid (HSV6.out.push (ys := [zj]) (below_lit w6 (.cells #[.int .i64 zj] 3)) (by rw [← HLN.out]; exact hown7) hg7 (by simpa using hor7))
                      rw [HE.out] at HSV7
                      clear hown7 hg7 hor7 HOWR HR3 c1 c2
                      go_wp2_with fail
                      go_roundw
                      case rel => exact ⟨j + 1, by omega, by go_num, HSV7.out⟩
                      case measure => simp [intOf]; omega
                  · obtain rfl : j = 4 := by omega
                    have HSV7 := Lib.hid (show SvSt wc w16 w17 (.slice As l4 cs) (pre ++ servedK s (i + 1 - 1)) w5 from by
                      have h := HSV.out
                      have e : pre ++ servedK s k ++ (new.take 4).filter (fun z => !decide (z ∈ old)) = pre ++ servedK s (i + 1 - 1) := by
                        rw [List.take_of_length_le (by rw [HN4.out]; exact Nat.le_refl _), HNEW.out, show i + 1 - 1 = k + 1 by omega, HNX.out, List.append_assoc]
                      rw [← e]
                      exact h)
                    clear HSV
                    go_wp2_with fail
                    go_roundw
                    case rel => exact ⟨i + 1, by omega, by omega, by go_num, HSV7.out⟩
                    case measure => simp [intOf]; omega
              · obtain rfl : i = nn := by omega
                have HSV7 := Lib.hid (show SvSt wc w16 w17 (.slice As l3 cs) (servedA (m.chunks.take (cc + 1 - 1))) w3 from by
                  have h := HSV.out
                  have e : pre ++ servedK s (i - 1) = servedA (m.chunks.take (cc + 1 - 1)) := by
                    rw [servedK_all s (i - 1) (by have := HNN.out; omega), show cc + 1 - 1 = cc - 1 + 1 by omega, HTK.out]
                  rw [← e]
                  exact h)
                clear HSV
                go_wp2_with fail
                go_roundw
                case rel => exact ⟨cc + 1, by omega, by omega, by go_num, HSV7.out.own, HSV7.out.low⟩
                case measure => simp [intOf]; omega
          · obtain rfl : cc = 3 := by omega
            have hall : servedA (m.chunks.take (3 - 1)) = servedA m.chunks := by rw [List.take_of_length_le (by rw [H2.out]; exact Nat.le_refl _)]
            rw [hall] at HOV
            have hzl : (servedA m.chunks).length ≤ 56 := by
              have h1 := served_len m.chunks HAK.out.srv
              have := H2.out
              omega
            have HND := Lib.hid HAK.out.apart
            have hhi : ∀ x, x ∈ servedA m.chunks → 4 < x := fun x hx => by
              obtain ⟨l, hl, hxl⟩ := List.mem_flatten.1 hx
              obtain ⟨s, hs, rfl⟩ := List.mem_map.1 hl
              have := HAK.out.high s hs x hxl
              rw [H1F.out s hs] at this
              omega
            obtain ⟨zs, hzs⟩ : ∃ z, z = servedA m.chunks := ⟨_, rfl⟩
            rw [← hzs] at HOV HND hhi hzl
            have HHI := Lib.hid hhi
            obtain ⟨Av, cv, hv, _, _, hrd, _⟩ := own_slice_n HOV.out
            obtain ⟨zl, hzl'⟩ : ∃ l, l = zs.length := ⟨_, rfl⟩
            rw [← hzl'] at hv hrd hzl
            subst hv
            have HRD := Lib.hid hrd
            have HZL := Lib.hid hzl'
            have HLOW := Lib.hid (HL.out.low.trans (HBL.out.mono HL.out.low.size))
            have hlw := HLOW.out.size
            clear hall hhi hzs hrd hzl' HOV HAK HL HRUN H1F
            go_wp2_with fail
            go_loopw [20] (fun iv w3 => ∃ i : Nat, i ≤ zl ∧ iv = .int .i64 i ∧ Below w16.heap.size w16 w3) (fun iv _ => zl - (intOf iv).toNat)
            case atStart => exact ⟨0, by omega, rfl, Below.refl _ _⟩
            case round =>
              obtain ⟨i, hi, rfl, hb3⟩ := hrel
              obtain ⟨w3, rfl⟩ : ∃ x, x = wr := ⟨_, rfl⟩
              have HB3 := Lib.hid hb3
              have hs3 := hb3.size
              by_cases hlt : i < zl
              · have hiI : (i : Int) < (zl : Int) := by omega
                have h0I : (0 : Int) ≤ (i : Int) := by omega
                obtain ⟨ad, hA, had, hcell⟩ := (HRD.out.below hb3).2 (by omega)
                subst hA
                have hix : i < zs.length := by rw [← HZL.out]; exact hlt
                obtain ⟨zi, hzi⟩ : ∃ z, z = zs[i] := ⟨_, rfl⟩
                have hci := hcell i (.int .i64 zi) (by rw [List.getElem?_map, List.getElem?_eq_getElem hix, hzi]; rfl)
                have hz4 : ¬ zi ≤ 4 := by
                  have := HHI.out zi (by rw [hzi]; exact List.getElem_mem hix)
                  omega
                have HZI := Lib.hid hzi
                have HC := Lib.hid hcell
                have HCI := Lib.hid hci
                have hadl : ad.block < w3.heap.size := by omega
                have HIX := Lib.hid hix
                clear hb3 hcell hzi
                go_wp2_with fail
                go_loopw [21] (fun jv w4 => ∃ j : Nat, j ≤ i ∧ jv = .int .i64 j ∧ Below w3.heap.size w3 w4) (fun jv _ => i - (intOf jv).toNat)
                case atStart => exact ⟨0, by omega, rfl, Below.refl _ _⟩
                case round =>
                  obtain ⟨j, hj, rfl, hb4⟩ := hrel
                  obtain ⟨w4, rfl⟩ : ∃ x, x = wr := ⟨_, rfl⟩
                  have HB4 := Lib.hid hb4
                  have hs4 := hb4.size
                  clear hb4
                  by_cases hji : j < i
                  · have hjI : (j : Int) < (i : Int) := by omega
                    have h0j : (0 : Int) ≤ (j : Int) := by omega
                    have hjz : (j : Int) < (zl : Int) := by omega
                    have hjx : j < zs.length := by have := HIX.out; omega
                    obtain ⟨zj, hzj⟩ : ∃ z, z = zs[j] := ⟨_, rfl⟩
                    have HCJ4 := Lib.hid ((HB4.out.cell (p := ad.add j) (by rw [block_of_add]; exact hadl)).trans (HC.out j (.int .i64 zj) (by rw [List.getElem?_map, List.getElem?_eq_getElem hjx, hzj]; rfl)))
                    have HCI4 := Lib.hid ((HB4.out.cell (p := ad.add i) (by rw [block_of_add]; exact hadl)).trans HCI.out)
                    have hneq : zj ≠ zi := by
                      rw [hzj, HZI.out]
                      intro e
                      have h1 : zs[j]? = zs[i]? := by rw [List.getElem?_eq_getElem hjx, List.getElem?_eq_getElem hix, e]
                      have := (List.getElem?_inj hjx HND.out).1 h1
                      omega
                    have hne : (zj == zi) = false := by simpa using hneq
                    have hadj : (ad.add j).block < w4.heap.size := by rw [block_of_add]; omega
                    have hadi : (ad.add i).block < w4.heap.size := by rw [block_of_add]; omega
                    clear hneq hzj hjx hci
                    go_upto_region 43 with fail
                    refine wp_region_calm0 8 209 (by kernel_rfl) (by kernel_rfl) (by kernel_rfl) (by first | rfl | simp) ?_
                    simp only [List.take_succ_cons, List.take_zero, List.drop_succ_cons, List.drop_zero]
                    refine wpCalm_value rfl rfl (.slice (some ad) zl cv) (fun W _ => rfl) ?_
                    try simp only [Act.put, List.setIfInBounds_toArray, List.set_cons_zero, List.set_cons_succ]
                    refine wpCalm_value rfl rfl (.int .i64 (j : Int)) (fun W _ => rfl) ?_
                    try simp only [Act.put, List.setIfInBounds_toArray, List.set_cons_zero, List.set_cons_succ]
                    refine wpCalm_value rfl rfl (.pointer (some (ad.add j))) (fun W _ => by go_simp) ?_
                    try simp only [Act.put, List.setIfInBounds_toArray, List.set_cons_zero, List.set_cons_succ]
                    refine wpCalm_below rfl rfl (.int .i64 zj) (fun W hb => by
                      have h := (hb.cell hadj).trans HCJ4.out
                      go_simp) ?_
                    try simp only [Act.put, List.setIfInBounds_toArray, List.set_cons_zero, List.set_cons_succ]
                    refine wpCalm_value rfl rfl (.slice (some ad) zl cv) (fun W _ => rfl) ?_
                    try simp only [Act.put, List.setIfInBounds_toArray, List.set_cons_zero, List.set_cons_succ]
                    refine wpCalm_value rfl rfl (.int .i64 (i : Int)) (fun W _ => rfl) ?_
                    try simp only [Act.put, List.setIfInBounds_toArray, List.set_cons_zero, List.set_cons_succ]
                    refine wpCalm_value rfl rfl (.pointer (some (ad.add i))) (fun W _ => by go_simp) ?_
                    try simp only [Act.put, List.setIfInBounds_toArray, List.set_cons_zero, List.set_cons_succ]
                    refine wpCalm_below rfl rfl (.int .i64 zi) (fun W hb => by
                      have h := (hb.cell hadi).trans HCI4.out
                      go_simp) ?_
                    try simp only [Act.put, List.setIfInBounds_toArray, List.set_cons_zero, List.set_cons_succ]
                    refine wpCalm_nil ?_
                    intro w5 hb5
                    have HB5 := Lib.hid (HB4.out.trans (hb5.mono hs4))
                    clear hb5
                    go_wp2_with fail
                    go_roundw
                    case rel => exact ⟨j + 1, by omega, by go_num, HB5.out⟩
                    case measure => simp [intOf]; omega
                  · obtain rfl : j = i := by omega
                    have HB5 := Lib.hid (HB3.out.trans (HB4.out.mono hs3))
                    clear hci
                    go_wp2_with fail
                    go_roundw
                    case rel => ((repeat apply Exists.intro); exact ⟨⟨j + 1, by omega, by go_num, HB5.out⟩, rfl⟩)
                    case measure => simp [intOf]; omega
              · obtain rfl : i = zl := by omega
                clear hb3
                go_wp2_with fail
                go_ret
                exact ⟨rfl, HLOW.out.trans (HB3.out.mono hlw)⟩

end Go.Proofs.YtlaodmmjhjpfmaaGreat
