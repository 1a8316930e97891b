/-
  AtlasAgain: the law's walk.
-/
import Derived.Test.YtlaodmmjhjpfmaaGreatAlR
import Derived.Test.YtlaodmmjhjpfmaaGreatZ23
import Derived.Test.YtlaodmmjhjpfmaaGreatZ4
import Derived.Test.YtlaodmmjhjpfmaaGreatZ18
import Derived.Test.YtlaodmmjhjpfmaaGreatZ6
import Derived.BigRegion
import Derived.Deep.DeepCutAuto
namespace Go.Proofs.YtlaodmmjhjpfmaaGreat
set_option linter.unusedVariables false
set_option linter.unusedSimpArgs false
open Go.RowKit Go.Maps

attribute [local irreducible] wpList wpCalm
theorem tree_book {W W' : World} {k : Book} {V : ALoc} {L : List (List UInt8)} {asked : Nat} {m : AM} (h : ANew W W' k V L asked m) (hk : ∀ b, k.has b → b < W.heap.size) : ∀ b, V.T.has b → ¬ V.k.has b := fun b hb e => by
  have h1 := h.new.2.2 b hb
  have h2 := hk b (h.kk ▸ e)
  omega
theorem book_has_lt {W : World} {k : Book} {L : List (List UInt8)} {a : Nat} (h : BookAt W k L a) : ∀ b, k.has b → b < W.heap.size := fun b hb => by
  have := h.lt
  rcases hb with e | e | e <;> omega
theorem sameOwn {w : World} {B B' g g' n c c' f : Nat} {ls : List (List Int)} {nA nA' : Nat → Option Addr} {nC nC' : Nat → Nat} (h : OwnCr w B (.slice (some ⟨g, 0, none⟩) n c) f ls nA nC) (h' : OwnCr w B' (.slice (some ⟨g', 0, none⟩) n c') f ls nA' nC') (hl : ∀ l, l ∈ ls → l.length ≤ 1000) (h0 : 0 < ls.length) (hn : n = ls.length) (hb : n ≤ 1000000) :
    Calls Tryz.prog 25 #[.slice (some ⟨g, 0, none⟩) n c, .slice (some ⟨g', 0, none⟩) n c'] w fun e w' => e = .returned (.bool true) ∧ Below w.heap.size w w' := by
  obtain ⟨q, cap, e, _, h1⟩ := h.shape h0 hl
  obtain ⟨q', cap', e', _, h2⟩ := h'.shape h0 hl
  injection e with e1 _ _
  injection e' with e1' _ _
  have k1 := h1 n (by omega)
  have k2 := h2 n (by omega)
  rw [← e1] at k1
  rw [← e1'] at k2
  have := sameCrews_any _ _ n c n c' _ _ w k1 k2 hb hb
  rw [decide_eq_true rfl] at this
  exact this

set_option maxRecDepth 100000 in
set_option maxHeartbeats 16000000 in
theorem atlasAgain_law (A : Option Addr) (n c : Nat) (xs : List Int) (t : Int) (bb : Bool) (w : World) (hr : Reads w w.heap.size 1 A n (xs.map vn)) (hxs : ∀ z, z ∈ xs → -9223372036854775808 ≤ z ∧ z ≤ 9223372036854775807) (hn : n ≤ 1000000000000000000) (ht1 : -9223372036854775808 ≤ t) (ht2 : t ≤ 9223372036854775807) :
    Calls Tryz.prog 8 #[.slice A n c, .int .i64 t, .bool bb] w fun e w' => e = .returned (.bool true) ∧ Below w.heap.size w w' := by
  have hxl : xs.length = n := by have := hr.1; simpa using this
  have HR := Lib.hid hr
  have HXS := Lib.hid hxs
  have HXL := Lib.hid hxl
  clear hr hxs hxl
  have HBT := Lib.hid (fun (W : World) => bring_any t 41 (by omega) (by unfold maxLen; omega) ht1 ht2 W)
  obtain ⟨at_, hat⟩ : ∃ k, k = bringF t 41 := ⟨_, rfl⟩
  rw [← hat] at HBT
  clear ht1 ht2 hat
  go_enter Tryz.func8, Tryz.ntmps8
  go_wp2_with fail
  refine (aworks_any w).mono ?_
  rintro _ wa ⟨rfl, hba⟩
  have HBA := Lib.hid hba
  clear hba
  go_wp2_with fail
  refine (inkNew_any wa).mono ?_
  rintro _ w1 ⟨k, rfl, hbk, hkn, hb1⟩
  have hsa := HBA.out.size
  have HB1 := Lib.hid (HBA.out.trans (hb1.mono hsa))
  have HKN := Lib.hid (show w.heap.size ≤ k.g ∧ w.heap.size ≤ k.b1 ∧ w.heap.size ≤ k.b2 by omega)
  have HBK := Lib.hid hbk
  clear hb1 hkn hbk HBA
  go_wp2_with fail
  refine (atwo_any w1).mono ?_
  rintro _ wt ⟨At, ct, rfl, hct, hbt⟩
  have hs1 := HB1.out.size
  have HNW := Lib.hid (aNew_any k [] 0 At 2 ct twoL wt (HBK.out.below hbt) (by omega) hct (by omega))
  have HBT := Lib.hid (HB1.out.trans (hbt.mono hs1))
  have HBK2 := Lib.hid (HBK.out.below hbt)
  clear hct hbt
  go_wp2_with fail
  refine HNW.out.mono ?_
  rintro _ w2 ⟨_, hgo⟩
  obtain ⟨Va, rfl, hna⟩ := hgo ak0 newQ_two
  have hkk := hna.kk
  subst hkk
  have HTK := Lib.hid (tree_book hna (book_has_lt HBK2.out))
  have HS1 := Lib.hid (ALSt.start HBT.out HKN.out hna)
  obtain ⟨L1, a1, hbk1, ha1, _, hin1⟩ := hna.book
  have HBK1 := Lib.hid hbk1
  have HIN1 := Lib.hid hin1
  clear hgo hna HNW HBK HBT HB1 HKN hbk1 hin1 HBK2
  go_wp2_with fail
  refine (atwo_any w2).mono ?_
  rintro _ wu ⟨Au, cu, rfl, hcu, hbu⟩
  have HNW2 := Lib.hid (aNew_any Va.k L1 a1 Au 2 cu twoL wu (HBK1.out.below hbu) (by omega) hcu (by omega))
  have HBU := Lib.hid hbu
  clear hcu hbu
  go_wp2_with fail
  refine HNW2.out.mono ?_
  rintro _ w3 ⟨_, hgo⟩
  obtain ⟨Vb, rfl, hnb⟩ := hgo ak0 newQ_two
  obtain ⟨Na, Nb, hst⟩ := ALSt2.start HS1.out HBU.out (HBK1.out.below HBU.out) HIN1.out HTK.out hnb
  have HRD := Lib.hid (show AgS w Va Vb 0 0 w3 from ⟨ak0, _, _, ARun.fresh, hst.more (by omega)⟩)
  clear hgo hnb hst HNW2 HS1 HBK1 HIN1 HTK HBU
  have HBR0 := Lib.hid (show Calls Tryz.prog 45 #[.int .i64 t, .int .i64 41] w3 fun e w' => e = .returned (.int .i64 (at_ : Int)) ∧ w3 = w' from HBT.out w3)
  clear HBT
  go_wp2_with fail
  refine HBR0.out.mono ?_
  rintro _ _ ⟨rfl, rfl⟩
  clear HBR0
  go_wp2_with fail
  go_loopw [10, 12] (fun bv iv wr => ∃ (i : Nat) (Vb : ALoc), i ≤ n ∧ i ≤ 40 ∧ bv = .pointer (some ⟨Vb.g, 0, none⟩) ∧ iv = .int .i64 i ∧ AgS w Va Vb i 0 wr) (fun _ iv _ => n - (intOf iv).toNat)
  case atStart => exact ⟨0, Vb, by omega, by omega, rfl, rfl, HRD.out⟩
  case round =>
    clear HRD
    obtain ⟨i, Vb, hi, hi40, rfl, rfl, hst⟩ := hrel
    have HST := Lib.hid hst
    clear hst
    go_upto_region 10 with fail
    go_cut [56] (fun s56 wx => s56 = .bool (decide (i < n ∧ i < 40)) ∧ wx = wr)
    case first =>
      by_cases hin : i < n
      · go_wp2_with fail
        go_meet
        exact ⟨by simp [hin]; omega, rfl⟩
      · go_wp2_with fail
        go_meet
        exact ⟨by simp [hin], rfl⟩
    case rest =>
      obtain ⟨rfl, rfl⟩ := hcut
      by_cases hlt : i < n ∧ i < 40
      · rw [decide_eq_true hlt]
        go_upto_if 61 with (fail)
        go_cut [10] (fun bv wx => ∃ V : ALoc, bv = .pointer (some ⟨V.g, 0, none⟩) ∧ AgS w Va V i 62 wx)
        case first =>
          by_cases hia : i = at_
          · have hiab : ((i : Int) == (at_ : Int)) = true := by simp [hia]
            obtain ⟨m, Na, Nb, hrun, hls⟩ := HST.out.ex
            obtain ⟨L, a', hbk, ha', hin, _⟩ := hls.book
            have hok := hls.vata.ok
            have HRUN := Lib.hid hrun
            have HL := Lib.hid hls
            have HLV := Lib.hid (aLeaves_any wc Vb Nb m hls.vatb)
            have HBK := Lib.hid hbk
            have HIN := Lib.hid hin
            have HOL := Lib.hid (openQ_leaves hok)
            have HLD := Lib.hid (loadQ_bytes hok)
            have hlen := leavesQ_len m
            have hbl : ∀ x, x ∈ leavesQ m → x.length ≤ 120 := fun x hx => by
              obtain ⟨i, _, rfl⟩ := List.mem_map.1 hx
              exact leafQ_len hok i
            have hfl := flatQ_le _ hbl
            rw [hlen] at hfl
            have HFL := Lib.hid (show (bytesQ m).length ≤ 128 * 6 from hfl)
            have HLN := Lib.hid hlen
            have HBL := Lib.hid hbl
            have ha2 : a' ≤ 60 + 80 * i := by omega
            clear hrun hls hbk hin hok hlen hbl hfl ha' hia
            unfold ALvPost at HLV
            go_wp2_with fail
            refine HLV.out.mono ?_
            rintro _ w4 ⟨v, vs, rfl, how, hb4⟩
            obtain ⟨A4, c4, hv4, hc4, hrows⟩ := how.rowsC
            rw [HLN.out] at hv4 hrows
            subst hv4
            have hs4 := hb4.size
            have HB4 := Lib.hid hb4
            have HOP := Lib.hid (aOpen_any Va.k L a' A4 6 c4 (leavesQ m) w4 (HBK.out.below hb4) (by omega) hrows (by omega) (fun x hx => by have := HBL.out x hx; omega))
            rw [HOL.out] at HOP
            clear how hb4 hc4 hrows HLV
            go_wp2_with fail
            refine HOP.out.mono ?_
            rintro _ w5 ⟨_, hso⟩
            obtain ⟨V1, rfl, hn1⟩ := hso m rfl
            obtain ⟨Na5, Nb5, hl5⟩ := HL.out.one.again HB4.out (HBK.out.below HB4.out) HIN.out hn1
            have HL5 := Lib.hid hl5
            have HV5 := Lib.hid ((HL.out.vatb.below HB4.out).stands (w' := w5) (by rw [HL.out.kk]; exact hn1.only))
            obtain ⟨L5, a5, hbk5, ha5, hsub5, _⟩ := hn1.book
            have HBK5 := Lib.hid hbk5
            have HIN5 := Lib.hid (HIN.out.more hsub5)
            clear hso hn1 hbk5 hsub5 HOP HL HIN hl5
            cases bb with
            | false =>
              have HFIN := Lib.hid (show AgS w Va V1 i 62 w5 from ⟨m, _, _, HRUN.out, HL5.out.more (by omega)⟩)
              go_wp2_with fail
              go_meet
              exact ⟨V1, rfl, HFIN.out⟩
            | true =>
              have HBY := Lib.hid (aBytes_any w5 Vb _ m HV5.out)
              unfold ABytesPost at HBY
              go_wp2_with fail
              refine HBY.out.mono ?_
              rintro _ w6 ⟨v, rfl, ho6, hb6⟩
              obtain ⟨A6, c6, hv6, hc6, _, hr6, _⟩ := own_slice_b ho6
              subst hv6
              have HB6 := Lib.hid hb6
              have HLO := Lib.hid (aLoad_any Va.k L5 a5 A6 (bytesQ m).length c6 (bytesQ m) w6 (HBK5.out.below hb6) (by omega) hr6 hc6 (by have := HFL.out; omega))
              rw [HLD.out] at HLO
              obtain ⟨n6, hn6⟩ : ∃ k, k = (bytesQ m).length := ⟨_, rfl⟩
              rw [← hn6] at HLO ⊢
              have HLO2 := Lib.hid (show Calls Tryz.prog 41 #[.pointer (some ⟨Va.k.g, 0, none⟩), .slice A6 n6 c6] w6 (ALoadPost w6 Va.k L5 a5 (some m) 0) from HLO.out)
              clear ho6 hb6 hc6 hr6 HBY HV5 HLO hn6
              go_wp2_with fail
              refine HLO2.out.mono ?_
              rintro _ w7 ⟨_, hso⟩
              obtain ⟨V2, rfl, hn2⟩ := hso m rfl
              obtain ⟨Na7, Nb7, hl7⟩ := HL5.out.one.again HB6.out (HBK5.out.below HB6.out) HIN5.out hn2
              have HFIN := Lib.hid (show AgS w Va V2 i 62 w7 from ⟨m, _, _, HRUN.out, hl7.more (by omega)⟩)
              clear hso hn2 HLO2 HL5 hl7
              go_wp2_with fail
              go_meet
              exact ⟨V2, rfl, HFIN.out⟩
          · have hiab : ((i : Int) == (at_ : Int)) = false := by rw [beq_eq_false_iff_ne]; omega
            have HFIN := Lib.hid (show AgS w Va Vb i 62 wc from by
              obtain ⟨m, Na, Nb, h1, h2⟩ := HST.out.ex
              exact ⟨m, Na, Nb, h1, h2.more (by omega)⟩)
            go_wp2_with fail
            go_meet
            exact ⟨Vb, rfl, HFIN.out⟩
        case rest =>
          clear HST
          obtain ⟨Vb, rfl, hst⟩ := hcut
          obtain ⟨m, Na, Nb, hrun, hls⟩ := hst.ex
          have HRUN := Lib.hid hrun
          have HL := Lib.hid hls
          clear hst hrun hls
          obtain ⟨ad, hA, hadb, hcell⟩ := HR.out.2 (by omega)
          subst hA
          have hxi : i < xs.length := by have := HXL.out; omega
          obtain ⟨z, hz⟩ : ∃ z, z = xs[i] := ⟨_, rfl⟩
          have hzb : -9223372036854775808 ≤ z ∧ z ≤ 9223372036854775807 := by rw [hz]; exact HXS.out _ (List.getElem_mem hxi)
          have hcz := hcell i (.int .i64 z) (by rw [List.getElem?_map, List.getElem?_eq_getElem hxi, hz]; rfl)
          have hcz2 : wc.cell? (ad.add i) = some (.int .i64 z) := (HL.out.low.cell (show (ad.add i).block < w.heap.size by rw [block_of_add]; omega)).trans hcz
          obtain ⟨S, hd⟩ := HL.out.vata.dat
          have h2 := HRUN.out.two
          have hbl := bringF_lt (z / 64) 2 (by omega)
          obtain ⟨s, hs⟩ : ∃ s, m.chunks[bringF (z / 64) 2]? = some s := ⟨_, List.getElem?_eq_getElem (by omega)⟩
          have hnok := (hd.ok.srv s (List.mem_of_getElem? hs)).now_ok
          obtain ⟨x, hx⟩ : ∃ x, x = wishS s.now z ((i + 1 : Nat) : Int) := ⟨_, rfl⟩
          have hxst : x.stamp = ((i + 1 : Nat) : Int) := by rw [hx, wishS_stamp]
          have hxq : inQ x = true := by
            rw [hx]
            exact wishS_inQ (fun q hq => hnok.bound hq) hnok.short.1 (by omega) (by omega)
          have hfr : ((lastQ m (x.client - 31).toNat).1 : Int) < x.stamp := by
            have := HRUN.out.last (x.client - 31).toNat
            rw [hxst]; omega
          have hp0 := (doQ_fresh hd.ok hxq hfr).2.2
          have HWI := Lib.hid (fun (t : Int) (ht : t = ((i + 1 : Nat) : Int)) => (show Calls Tryz.prog 22 #[.pointer (some ⟨Va.g, 0, none⟩), .int .i64 z, .int .i64 t] wc (AWishPost wc x) from by
            rw [hx, ← ht]
            exact awish_any wc _ _ _ _ _ _ _ s hd z t hs rfl hzb.1 hzb.2 (by omega) (by omega)))
          have HIN := Lib.hid (fun (W : World) => (show WishIn W W.heap.size x none 0 0 none 0 0 from by
            rw [hx]
            exact wishS_in (w := W) (now := s.now) (n := z) (fun q hq => hnok.bound hq) (by omega) (by omega)))
          have HSTP := Lib.hid (HRUN.out.step (x := x) (by rw [hxst]; omega))
          obtain ⟨p, hp⟩ : ∃ p, p = doQ m x := ⟨_, rfl⟩
          rw [← hp] at hp0 HSTP
          have HP := Lib.hid hp
          have HP0 := Lib.hid hp0
          have hnsl : p.2.1.nodes.length ≤ maxLen := by
            rw [hp, (doQ_fresh hd.ok hxq hfr).2.1]
            have := (hd.ok.cok.answered hxq).2.2.bound.1
            unfold maxLen; omega
          have hiI : (i : Int) < (n : Int) := by omega
          have h0I : (0 : Int) ≤ (i : Int) := by omega
          clear hcell hzb hcz hz hd hs hnok h2 hbl hx hxst hxq hfr hp0 hp
          go_wp2_with fail
          refine (HWI.out _ (by omega)).mono ?_
          unfold AWishPost
          rintro _ w4 ⟨rfl, hb4⟩
          have hs4 := hb4.size
          have HF4 := Lib.hid (HL.out.alf.below hb4)
          clear hb4 HWI hcz2
          go_upto_region 23 with (refine wpList_store_part (o := ⟨none, _, _, _, _, _⟩) rfl 48 (.tmp 17) (.tmp 93) rfl w4.heap.size 0 (wCells x none 0 0 none 0 0) rfl rfl 48 (wCells zeroW none 0 0 none 0 0) (Blk.newAt rfl) (wCells_info _ _ _ _ _ _ _) (by simp [wCells]) (wCells_one _ _ _ _ _ _ _) ?_; intro w5 hT hD3; rw [wC_spl] at hD3)
          have hb5 : Below w4.heap.size w4 w5 := hT.below ((Below.refl _ _).alloc (Nat.le_refl _) _) (Nat.le_refl _)
          have hs5 := hb5.size
          have HF5 := Lib.hid (HF4.out.below hb5)
          obtain ⟨g17, hg⟩ : ∃ g, g = w4.heap.size := ⟨_, rfl⟩
          have hg17 : wc.heap.size ≤ g17 := by omega
          rw [← hg] at hD3 ⊢
          have K17 := Lib.hid hD3
          have HDO := Lib.hid (HF5.out.do_ (by omega) x (HIN.out w5))
          unfold ADidA at HDO
          rw [← HP.out, HP0.out] at HDO
          clear hT hg hD3 hb5 HF4
          go_wp2_with (refine wpList_load_part (o := ⟨some 96, _, _, _, _, _⟩) rfl 48 (.tmp 17) rfl g17 0 10 rfl 48 _ (wCells x none 0 0 none 0 0) _ K17.out Tryz.underlying48 rfl rfl rfl (fun _ _ => by rw [Nat.zero_add]; try rfl) ?_)
          refine HDO.out.mono ?_
          rintro _ w6 ⟨A3, q3, rfl, ho3, hg6, hk6, hs6⟩
          have K17_6 := Lib.hid (show Blk w6 g17 48 (wCells x none 0 0 none 0 0) from (hk6 g17 hg17 K17.out.lt).trans K17.out)
          have HG6 := Lib.hid hg6
          have HO3 := Lib.hid ho3
          obtain ⟨er, her⟩ : ∃ e, e = p.2.1.err := ⟨_, rfl⟩
          obtain ⟨pe, hpe⟩ : ∃ e, e = p.2.1.epoch := ⟨_, rfl⟩
          obtain ⟨ns, hns⟩ : ∃ e, e = p.2.1.nodes := ⟨_, rfl⟩
          obtain ⟨nl, hnl⟩ : ∃ e, e = ns.length := ⟨_, rfl⟩
          rw [← hns, ← hnl] at HO3 hnsl
          rw [← her, ← hpe, ← hns, ← hnl]
          have HER := Lib.hid her
          have HPE := Lib.hid hpe
          have HNS := Lib.hid hns
          have HNL := Lib.hid hnl
          clear ho3 hg6 hk6 HDO her hpe hns hnl K17 HF5
          go_upto_region 24 with (refine wpList_store_part (o := ⟨none, _, _, _, _, _⟩) rfl 52 (.tmp 18) (.tmp 98) rfl w6.heap.size 0 (anC (er : Int) none 0 0 (pe : Int) A3 nl q3) rfl rfl 52 (anC 0 none 0 0 0 none 0 0) (Blk.newAt rfl) (anC_info _ _ _ _ _ _ _ _) (by simp [anC]) (anC_one _ _ _ _ _ _ _ _) ?_; intro w7 hT hD3; rw [anC_spl _ rfl] at hD3)
          have hb7 : Below w6.heap.size w6 w7 := hT.below ((Below.refl _ _).alloc (Nat.le_refl _) _) (Nat.le_refl _)
          have hs7 := hb7.size
          have HG7 := Lib.hid (HG6.out.below hb7)
          have K17_7 := Lib.hid (K17_6.out.below' hb7)
          have HO3_7 := Lib.hid (HO3.out.below_ hb7)
          obtain ⟨g18, hg⟩ : ∃ g, g = w6.heap.size := ⟨_, rfl⟩
          have hg18 : wc.heap.size ≤ g18 := by omega
          rw [← hg] at hD3 ⊢
          have K18 := Lib.hid hD3
          have HDB := Lib.hid (HG7.out.do_ (by omega) x (HIN.out w7))
          unfold ADidB at HDB
          rw [← HP.out, HP0.out, ← HER.out, ← HPE.out, ← HNS.out, ← HNL.out] at HDB
          clear hT hg hD3 hb7 HG6 K17_6 HO3
          go_wp2_with (refine wpList_load_part (o := ⟨some 102, _, _, _, _, _⟩) rfl 48 (.tmp 17) rfl g17 0 10 rfl 48 _ (wCells x none 0 0 none 0 0) _ K17_7.out Tryz.underlying48 rfl rfl rfl (fun _ _ => by rw [Nat.zero_add]; try rfl) ?_)
          refine HDB.out.mono ?_
          rintro _ w8 ⟨A5, q5, Na8, Nb8, rfl, ho5, hl8, hk8, hs8⟩
          have K18_8 := Lib.hid (show Blk w8 g18 52 (anC (er : Int) none 0 0 (pe : Int) A3 nl q3) from (hk8 g18 hg18 K18.out.lt).trans K18.out)
          have HO3_8 := Lib.hid (HO3_7.out.kept (w' := w8) (C := wc.heap.size) (by omega) hk8)
          have HO5 := Lib.hid ho5
          have HL8 := Lib.hid hl8
          clear ho5 hl8 hk8 HDB HG7 K17_7 K18 HO3_7
          go_upto_region 25 with (refine wpList_store_part (o := ⟨none, _, _, _, _, _⟩) rfl 52 (.tmp 20) (.tmp 104) rfl w8.heap.size 0 (anC (er : Int) none 0 0 (pe : Int) A5 nl q5) rfl rfl 52 (anC 0 none 0 0 0 none 0 0) (Blk.newAt rfl) (anC_info _ _ _ _ _ _ _ _) (by simp [anC]) (anC_one _ _ _ _ _ _ _ _) ?_; intro w9 hT hD3; rw [anC_spl _ rfl] at hD3)
          have hb9 : Below w8.heap.size w8 w9 := hT.below ((Below.refl _ _).alloc (Nat.le_refl _) _) (Nat.le_refl _)
          have hs9 := hb9.size
          obtain ⟨Na9, Nb9, hl9⟩ := HL8.out.below hb9
          have HL9 := Lib.hid hl9
          have K18_9 := Lib.hid (K18_8.out.below' hb9)
          have RA := Lib.hid (own_reads (HO3_8.out.below_ hb9)).2
          have RB := Lib.hid (own_reads (HO5.out.below_ hb9)).2
          obtain ⟨g20, hg⟩ : ∃ g, g = w8.heap.size := ⟨_, rfl⟩
          rw [← hg] at hD3 ⊢
          have K20 := Lib.hid hD3
          have HSA := Lib.hid (sameAnswer_any (er : Int) (er : Int) (pe : Int) (pe : Int) none 0 0 A3 nl q3 none 0 0 A5 nl q5 [] [] ns ns w9 w9.heap.size Reads.none_ RA.out Reads.none_ RB.out (Nat.le_refl _) (by unfold maxLen; omega) hnsl (by unfold maxLen; omega) hnsl)
          rw [decide_eq_true ⟨rfl, rfl, rfl, rfl⟩] at HSA
          clear hT hg hD3 hb9 hl9 HL8 K18_8 HO3_8 HO5 RA RB
          go_wp2_with (first
            | (refine wpList_load_guarded (o := ⟨some 110, _, _, _, _, _⟩) rfl 52 (.tmp 18) rfl g18 0 4 rfl 52 _ (anC (er : Int) none 0 0 (pe : Int) A3 nl q3) _ K18_9.out Tryz.underlying52 rfl rfl rfl (fun _ _ => by rw [Nat.zero_add]; try rfl) ?_)
            | (refine wpList_load_guarded (o := ⟨some 111, _, _, _, _, _⟩) rfl 52 (.tmp 20) rfl g20 0 4 rfl 52 _ (anC (er : Int) none 0 0 (pe : Int) A5 nl q5) _ K20.out Tryz.underlying52 rfl rfl rfl (fun _ _ => by rw [Nat.zero_add]; try rfl) ?_))
          refine HSA.out.mono ?_
          rintro _ wd ⟨rfl, hbd⟩
          obtain ⟨Nad, Nbd, hld⟩ := HL9.out.below hbd
          have HFIN := Lib.hid (show AgS w Va Vb (i + 1) 0 wd from ⟨_, _, _, HSTP.out, hld.more (by omega)⟩)
          clear hbd hld HL9 HSA K18_9 K20
          go_wp2_with fail
          go_roundw
          case rel => exact ⟨i + 1, Vb, by omega, by omega, rfl, by go_num, HFIN.out⟩
          case measure => simp [intOf]; omega
      · rw [decide_eq_false hlt]
        clear hlt
        obtain ⟨m, Na, Nb, hrun, hls⟩ := HST.out.ex
        have h2 := hrun.two
        obtain ⟨s0, hs0⟩ : ∃ s, m.chunks[0]? = some s := ⟨_, List.getElem?_eq_getElem (by omega)⟩
        obtain ⟨s1, hs1⟩ : ∃ s, m.chunks[1]? = some s := ⟨_, List.getElem?_eq_getElem (by omega)⟩
        have HOK0 := Lib.hid (hls.vata.ok.srv s0 (List.mem_of_getElem? hs0))
        have HOK1 := Lib.hid (hls.vata.ok.srv s1 (List.mem_of_getElem? hs1))
        have HS0 := Lib.hid hs0
        have HS1 := Lib.hid hs1
        have HL := Lib.hid hls
        have hln := leavesQ_len m
        have HRL := Lib.hid (show (rootL (leavesQ m)).length = 32 from (lv_one (leavesQ m) (by omega) (by omega)).2)
        have HRTA := Lib.hid (arootL_any wc Va _ m hls.vata)
        have HRTB := Lib.hid (fun (W : World) (h : ∃ N, AAt W Vb N m) => (show Calls Tryz.prog 29 #[.pointer (some ⟨Vb.g, 0, none⟩)] W (ARootPost W m) from h.elim fun N h => arootL_any W Vb N m h))
        unfold ARootPost at HRTA HRTB
        have hds : (bRow (rootL (leavesQ m))).size = 32 := bRow_size32 HRL.out
        have hdo := bRow_one (rootL (leavesQ m))
        have HEQ := Lib.hid (fun (W : World) => eql_digest (rootL (leavesQ m)) (rootL (leavesQ m)) HRL.out HRL.out W)
        rw [show (rootL (leavesQ m) == rootL (leavesQ m)) = true by simp] at HEQ
        obtain ⟨D, hD⟩ : ∃ D, D = bRow (rootL (leavesQ m)) := ⟨_, rfl⟩
        rw [← hD] at HRTA HRTB hds hdo HEQ
        have HDS := Lib.hid hds
        have HDO := Lib.hid hdo
        have HZ := Lib.hid treeZ_eq
        have HZS := Lib.hid (show inkZ.size = 32 by simp [inkZ, bRow])
        clear hds hdo hD hln hrun hls HST h2 hs0 hs1
        go_wp2_with fail
        refine HRTA.out.mono ?_
        rintro _ w8 ⟨rfl, hb8⟩
        have hs8 := hb8.size
        obtain ⟨Na8, Nb8, hl8⟩ := HL.out.below hb8
        have HL8 := Lib.hid hl8
        clear hb8 HL HRTA hl8
        go_upto_region 28 with (refine wpList_store_part (o := ⟨none, _, _, _, _, _⟩) rfl 63 (.tmp 22) (.tmp 118) rfl w8.heap.size 0 D rfl rfl 63 inkZ (by rw [HZ.out]; exact Blk.newAt rfl) (by rw [HDS.out]; rfl) (by rw [HDS.out, HZS.out]; omega) HDO.out ?_; intro w9 hT hD3; rw [spl_self _ _ (by rw [HDS.out, HZS.out])] at hD3)
        have hb : Below w8.heap.size w8 w9 := hT.below ((Below.refl _ _).alloc (Nat.le_refl _) _) (Nat.le_refl _)
        have hs_w9 := hb.size
        obtain ⟨Na9, Nb9, hl9⟩ := HL8.out.below hb
        have HL9 := Lib.hid hl9
        obtain ⟨g22, hg⟩ : ∃ g, g = w8.heap.size := ⟨_, rfl⟩
        rw [← hg] at hD3 ⊢
        have K22 := Lib.hid hD3
        clear hb hT hD3 hg HL8 hl9
        go_wp2_with fail
        refine (HRTB.out w9 ⟨_, HL9.out.vatb⟩).mono ?_
        rintro _ w10 ⟨rfl, hb10⟩
        have hs10 := hb10.size
        obtain ⟨Na10, Nb10, hl10⟩ := HL9.out.below hb10
        have HL10 := Lib.hid hl10
        have K22b := Lib.hid (K22.out.below' hb10)
        clear hb10 HL9 HRTB K22 hl10
        go_upto_region 29 with (refine wpList_store_part (o := ⟨none, _, _, _, _, _⟩) rfl 63 (.tmp 24) (.tmp 123) rfl w10.heap.size 0 D rfl rfl 63 inkZ (by rw [HZ.out]; exact Blk.newAt rfl) (by rw [HDS.out]; rfl) (by rw [HDS.out, HZS.out]; omega) HDO.out ?_; intro w11 hT hD3; rw [spl_self _ _ (by rw [HDS.out, HZS.out])] at hD3)
        have hb : Below w10.heap.size w10 w11 := hT.below ((Below.refl _ _).alloc (Nat.le_refl _) _) (Nat.le_refl _)
        have hs_w11 := hb.size
        obtain ⟨Na11, Nb11, hl11⟩ := HL10.out.below hb
        have HL11 := Lib.hid hl11
        obtain ⟨g24, hg⟩ : ∃ g, g = w10.heap.size := ⟨_, rfl⟩
        rw [← hg] at hD3 ⊢
        have K24 := Lib.hid hD3
        have K22 := Lib.hid (K22b.out.below' hb)
        clear hb hT hD3 hg HL10 K22b hl11
        have HCA := Lib.hid (HL11.out.one.crews_ (z := 1) HS0.out (by omega))
        go_wp2_with (first
          | (refine wpList_load_guarded (o := ⟨some 130, _, _, _, _, _⟩) rfl 63 (.tmp 22) rfl g22 0 32 rfl 63 _ D _ K22.out Tryz.underlying63 rfl rfl HDS.out (fun _ _ => by rw [Nat.zero_add]; try rfl) ?_)
          | (refine wpList_load_guarded (o := ⟨some 131, _, _, _, _, _⟩) rfl 63 (.tmp 24) rfl g24 0 32 rfl 63 _ D _ K24.out Tryz.underlying63 rfl rfl HDS.out (fun _ _ => by rw [Nat.zero_add]; try rfl) ?_)
          | (refine wpList_exec_want (o := ⟨some 132, _, _, _, _, _⟩) rfl (.bool true) (exec_eql_agg 63 (.tmp 130) (.tmp 131) _ rfl D D rfl rfl eqg_digest _ (HEQ.out _)) ?_))
        refine HCA.out.mono ?_
        rintro _ wa1 ⟨v, nA1, nC1, rfl, hown, hb⟩
        obtain ⟨ga1, ca1, rfl, _, _⟩ := hown.shape (by rw [crewsL_len]; omega) (fun l hl => (crews_short HOK0.out hl))
        obtain ⟨n1, hn1⟩ : ∃ k, k = (crewsL s0.first s0.moves).length := ⟨_, rfl⟩
        have hn1b : n1 = s0.moves.length + 1 := by rw [hn1, crewsL_len]
        have hn1l : n1 ≤ 22 := by have := HOK0.out.len; omega
        have hn10 : 0 < n1 := by omega
        rw [← hn1] at hown ⊢
        have HN1 := Lib.hid hn1
        have HWA1 := Lib.hid hown
        obtain ⟨NaA1, NbA1, hla⟩ := HL11.out.below hb
        have HLA1 := Lib.hid hla
        have HCB := Lib.hid (hla.swap.one.crews_ (z := 1) HS0.out (by omega))
        clear hown hb hla hn1 hn1b HCA
        go_wp2_with fail
        refine HCB.out.mono ?_
        rintro _ wb1 ⟨v, nB1, nD1, rfl, hown, hb⟩
        obtain ⟨gb1, cb1, rfl, _, _⟩ := hown.shape (by rw [crewsL_len]; omega) (fun l hl => (crews_short HOK0.out hl))
        rw [← HN1.out] at hown ⊢
        have HSC := Lib.hid (sameOwn (HWA1.out.below hb) hown (fun l hl => crews_short HOK0.out hl) (by rw [← HN1.out]; omega) HN1.out (by omega))
        obtain ⟨NaB1, NbB1, hlb⟩ := HLA1.out.below hb
        have HLB1 := Lib.hid hlb
        clear hown hb hlb HCB HWA1 HLA1
        go_wp2_with fail
        refine HSC.out.mono ?_
        rintro _ wc1 ⟨rfl, hb⟩
        obtain ⟨NaC1, NbC1, hlc⟩ := HLB1.out.below hb
        have HLC1 := Lib.hid hlc
        have HCA := Lib.hid (hlc.one.crews_ (z := 2) HS1.out (by omega))
        clear hb hlc HSC HLB1
        go_wp2_with fail
        refine HCA.out.mono ?_
        rintro _ wa2 ⟨v, nA2, nC2, rfl, hown, hb⟩
        obtain ⟨ga2, ca2, rfl, _, _⟩ := hown.shape (by rw [crewsL_len]; omega) (fun l hl => (crews_short HOK1.out hl))
        obtain ⟨n2, hn2⟩ : ∃ k, k = (crewsL s1.first s1.moves).length := ⟨_, rfl⟩
        have hn2b : n2 = s1.moves.length + 1 := by rw [hn2, crewsL_len]
        have hn2l : n2 ≤ 22 := by have := HOK1.out.len; omega
        have hn20 : 0 < n2 := by omega
        rw [← hn2] at hown ⊢
        have HN2 := Lib.hid hn2
        have HWA2 := Lib.hid hown
        obtain ⟨NaA2, NbA2, hla⟩ := HLC1.out.below hb
        have HLA2 := Lib.hid hla
        have HCB := Lib.hid (hla.swap.one.crews_ (z := 2) HS1.out (by omega))
        clear hown hb hla hn2 hn2b HCA
        go_wp2_with fail
        refine HCB.out.mono ?_
        rintro _ wb2 ⟨v, nB2, nD2, rfl, hown, hb⟩
        obtain ⟨gb2, cb2, rfl, _, _⟩ := hown.shape (by rw [crewsL_len]; omega) (fun l hl => (crews_short HOK1.out hl))
        rw [← HN2.out] at hown ⊢
        have HSC := Lib.hid (sameOwn (HWA2.out.below hb) hown (fun l hl => crews_short HOK1.out hl) (by rw [← HN2.out]; omega) HN2.out (by omega))
        obtain ⟨NaB2, NbB2, hlb⟩ := HLA2.out.below hb
        have HLB2 := Lib.hid hlb
        clear hown hb hlb HCB HWA2 HLA2
        go_wp2_with fail
        refine HSC.out.mono ?_
        rintro _ wc2 ⟨rfl, hb⟩
        obtain ⟨NaC2, NbC2, hlc⟩ := HLB2.out.below hb
        have HLC2 := Lib.hid hlc
        clear hb hlc HSC HLB2
        go_wp2_with fail
        go_ret
        exact ⟨rfl, HLC2.out.low⟩

end Go.Proofs.YtlaodmmjhjpfmaaGreat
