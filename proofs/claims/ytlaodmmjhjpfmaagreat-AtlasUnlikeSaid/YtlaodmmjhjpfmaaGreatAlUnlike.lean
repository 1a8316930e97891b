/-
  AtlasUnlike: the law's walk.
-/
import Derived.Test.YtlaodmmjhjpfmaaGreatZ23
import Derived.Test.YtlaodmmjhjpfmaaGreatZ22
import Derived.Test.YtlaodmmjhjpfmaaGreatZ14
import Derived.Test.YtlaodmmjhjpfmaaGreatZ4
import Derived.BigRegion
import Derived.Deep.DeepCutAuto
namespace Go.Proofs.YtlaodmmjhjpfmaaGreat
set_option linter.unusedVariables false
set_option linter.unusedSimpArgs false
open Go.RowKit Go.Maps

attribute [local irreducible] wpList wpCalm
theorem lasts_leaves (xss : List (List UInt8)) : Lasts fun W v => ∃ A c, v = .slice A 6 c ∧ RowsB W W.heap.size A 6 xss := fun W W' v ⟨A, c, h1, h2⟩ hb => ⟨A, c, h1, (h2.below hb).more hb.size⟩
theorem root_iff {L cs bs : List (List UInt8)} (hc : clashB L = false) (ha : InBook L cs) (hb : InBook L bs) (hl : cs.length = 6) (hl2 : bs.length = 6) : (rootL cs == rootL bs) = decide (cs = bs) := by
  by_cases h : cs = bs
  · subst h; simp
  · rw [decide_eq_false h]
    rw [beq_eq_false_iff_ne]
    exact fun e => h (root_inj hc ha hb (by omega) (by omega) (by omega) e)
/-- the state at a round's head: i wishes to the first one, j to the second one -/
structure AuSt (w0 : World) (Va Vb : ALoc) (i j : Nat) (W : World) : Prop where
  ex : ∃ ma mb Na Nb, ARun ma i ∧ ARun mb j ∧ ALSt2 w0 Va Vb Na Nb ma mb (60 + 6 * i + 6 * j) W
theorem tree_book {W W' : World} {k : Book} {V : ALoc} {L : List (List UInt8)} {asked : Nat} {m : AM} (h : ANew W W' k V L asked m) (hk : ∀ b, k.has b → b < W.heap.size) : ∀ b, V.T.has b → ¬ V.k.has b := fun b hb e => by
  have h1 := h.new.2.2 b hb
  have h2 := hk b (h.kk ▸ e)
  omega
theorem book_has_lt {W : World} {k : Book} {L : List (List UInt8)} {a : Nat} (h : BookAt W k L a) : ∀ b, k.has b → b < W.heap.size := fun b hb => by
  have := h.lt
  rcases hb with e | e | e <;> omega

set_option maxRecDepth 100000 in
set_option maxHeartbeats 4000000 in
theorem atlasUnlike_law (A : Option Addr) (n c : Nat) (xs : List Int) (A' : Option Addr) (n' c' : Nat) (ys : List Int) (w : World) (hr : Reads w w.heap.size 1 A n (xs.map vn)) (hxs : ∀ z, z ∈ xs → -9223372036854775808 ≤ z ∧ z ≤ 9223372036854775807) (hn : n ≤ 1000000000000000000) (hr' : Reads w w.heap.size 1 A' n' (ys.map vn)) (hys : ∀ z, z ∈ ys → -9223372036854775808 ≤ z ∧ z ≤ 9223372036854775807) (hn' : n' ≤ 1000000000000000000) :
    Calls Tryz.prog 5 #[.slice A n c, .slice A' n' c'] w fun e w' => e = .returned (.bool true) ∧ Below w.heap.size w w' := by
  have hxl : xs.length = n := by have := hr.1; simpa using this
  have hyl : ys.length = n' := by have := hr'.1; simpa using this
  have HR := Lib.hid hr
  have HXS := Lib.hid hxs
  have HXL := Lib.hid hxl
  have HR' := Lib.hid hr'
  have HYS := Lib.hid hys
  have HYL := Lib.hid hyl
  clear hr hxs hxl hr' hys hyl
  go_enter Tryz.func5, Tryz.ntmps5
  go_wp2_with fail
  refine (aworks_any w).mono ?_
  rintro _ wa ⟨rfl, hba⟩
  have HBA := Lib.hid hba
  clear hba
  go_wp2_with fail
  refine (inkNew_any wa).mono ?_
  rintro _ w1 ⟨k, rfl, hbk, hkn, hb1⟩
  have hsa := HBA.out.size
  have HB1 := Lib.hid (HBA.out.trans (hb1.mono hsa))
  have HKN := Lib.hid (show w.heap.size ≤ k.g ∧ w.heap.size ≤ k.b1 ∧ w.heap.size ≤ k.b2 by omega)
  have HBK := Lib.hid hbk
  clear hb1 hkn hbk HBA
  go_wp2_with fail
  refine (atwo_any w1).mono ?_
  rintro _ wt ⟨At, ct, rfl, hct, hbt⟩
  have hs1 := HB1.out.size
  have HNW := Lib.hid (aNew_any k [] 0 At 2 ct twoL wt (HBK.out.below hbt) (by omega) hct (by omega))
  have HBT := Lib.hid (HB1.out.trans (hbt.mono hs1))
  have HBK2 := Lib.hid (HBK.out.below hbt)
  clear hct hbt
  go_wp2_with fail
  refine HNW.out.mono ?_
  rintro _ w2 ⟨_, hgo⟩
  obtain ⟨Va, rfl, hna⟩ := hgo ak0 newQ_two
  have hkk := hna.kk
  subst hkk
  have HTK := Lib.hid (tree_book hna (book_has_lt HBK2.out))
  have HS1 := Lib.hid (ALSt.start HBT.out HKN.out hna)
  obtain ⟨L1, a1, hbk1, ha1, _, hin1⟩ := hna.book
  have HBK1 := Lib.hid hbk1
  have HIN1 := Lib.hid hin1
  clear hgo hna HNW HBK HBT HB1 HKN hbk1 hin1 HBK2
  go_wp2_with fail
  refine (atwo_any w2).mono ?_
  rintro _ wu ⟨Au, cu, rfl, hcu, hbu⟩
  have HNW2 := Lib.hid (aNew_any Va.k L1 a1 Au 2 cu twoL wu (HBK1.out.below hbu) (by omega) hcu (by omega))
  have HBU := Lib.hid hbu
  clear hcu hbu
  go_wp2_with fail
  refine HNW2.out.mono ?_
  rintro _ w3 ⟨_, hgo⟩
  obtain ⟨Vb, rfl, hnb⟩ := hgo ak0 newQ_two
  obtain ⟨Na, Nb, hst⟩ := ALSt2.start HS1.out HBU.out (HBK1.out.below HBU.out) HIN1.out HTK.out hnb
  have HRD := Lib.hid (show AuSt w Va Vb 0 0 w3 from ⟨ak0, ak0, _, _, ARun.fresh, ARun.fresh, hst.more (by omega)⟩)
  clear hgo hnb hst HNW2 HS1 HBK1 HIN1 HTK HBU
  go_wp2_with fail
  go_loopw [10] (fun iv wr => ∃ i : Nat, i ≤ n ∧ i ≤ 30 ∧ iv = .int .i64 i ∧ AuSt w Va Vb i 0 wr) (fun iv _ => n - (intOf iv).toNat)
  case atStart => exact ⟨0, by omega, by omega, rfl, HRD.out⟩
  case round =>
    obtain ⟨i, hi, hi30, rfl, hst⟩ := hrel
    obtain ⟨ma, mb, Na, Nb, hra, hrb, hls⟩ := hst.ex
    have HRA := Lib.hid hra
    have HRB := Lib.hid hrb
    have HL := Lib.hid hls
    clear hst hra hrb hls HRD
    go_upto_region 9 with fail
    go_cut [44] (fun s27 wx => s27 = .bool (decide (i < n ∧ i < 30)) ∧ wx = wr)
    case first =>
      by_cases hin : i < n
      · go_wp2_with fail
        go_meet
        exact ⟨by simp [hin]; omega, rfl⟩
      · go_wp2_with fail
        go_meet
        exact ⟨by simp [hin], rfl⟩
    case rest =>
      obtain ⟨rfl, rfl⟩ := hcut
      by_cases hlt : i < n ∧ i < 30
      · rw [decide_eq_true hlt]
        obtain ⟨ad, hA, hadb, hcell⟩ := HR.out.2 (by omega)
        subst hA
        have hxi : i < xs.length := by have := HXL.out; omega
        obtain ⟨z, hz⟩ : ∃ z, z = xs[i] := ⟨_, rfl⟩
        have hzb : -9223372036854775808 ≤ z ∧ z ≤ 9223372036854775807 := by rw [hz]; exact HXS.out _ (List.getElem_mem hxi)
        have hcz := hcell i (.int .i64 z) (by rw [List.getElem?_map, List.getElem?_eq_getElem hxi, hz]; rfl)
        have hcz2 : wc.cell? (ad.add i) = some (.int .i64 z) := (HL.out.low.cell (show (ad.add i).block < w.heap.size by rw [block_of_add]; omega)).trans hcz
        obtain ⟨S, hd⟩ := HL.out.vata.dat
        have h2 := HRA.out.two
        have hbl := bringF_lt (z / 64) 2 (by omega)
        obtain ⟨s, hs⟩ : ∃ s, ma.chunks[bringF (z / 64) 2]? = some s := ⟨_, List.getElem?_eq_getElem (by omega)⟩
        have hnok := (hd.ok.srv s (List.mem_of_getElem? hs)).now_ok
        have HWI := Lib.hid (fun (t : Int) (ht : t = ((i + 1 : Nat) : Int)) => awish_any wc _ _ _ _ _ _ _ s hd z t hs rfl hzb.1 hzb.2 (by omega) (by omega))
        have HIN := Lib.hid (fun (W : World) (t : Int) (ht : t = ((i + 1 : Nat) : Int)) => (wishS_in (w := W) (now := s.now) (n := z) (stamp := t) (fun q hq => hnok.bound hq) (by omega) (by omega)))
        have hiI : (i : Int) < (n : Int) := by omega
        have h0I : (0 : Int) ≤ (i : Int) := by omega
        clear hcell hzb hcz hz hd hs hnok h2 hbl
        go_wp2_with fail
        refine (HWI.out _ (by omega)).mono ?_
        rintro _ w4 ⟨rfl, hb4⟩
        obtain ⟨Na4, Nb4, hl4⟩ := HL.out.below hb4
        have HD := Lib.hid (fun (t : Int) (ht : t = ((i + 1 : Nat) : Int)) => hl4.do_ (by omega) (wishS s.now z t) (HIN.out w4 t ht))
        have HSTP := Lib.hid (fun (t : Int) (ht : t = ((i + 1 : Nat) : Int)) => HRA.out.step (x := wishS s.now z t) (by rw [wishS_stamp]; omega))
        clear hb4 HWI HIN hcz2 hl4
        go_wp2_with fail
        refine (HD.out _ (by omega)).mono ?_
        rintro _ w5 ⟨Dv, rfl, _, _, hls, _⟩
        have HST := Lib.hid (show AuSt w Va Vb (i + 1) 0 w5 from ⟨_, _, _, _, HSTP.out _ (by omega), HRB.out, hls.more (by omega)⟩)
        clear hls HD HSTP
        go_wp2_with fail
        go_roundw
        case rel => exact ⟨i + 1, by omega, by omega, by go_num, HST.out⟩
        case measure => simp [intOf]; omega
      · rw [decide_eq_false hlt]
        obtain ⟨i0, hi0⟩ : ∃ q, q = i := ⟨_, rfl⟩
        have hi030 : i0 ≤ 30 := by omega
        have HRD := Lib.hid (show AuSt w Va Vb i0 0 wc from ⟨_, _, _, _, hi0 ▸ HRA.out, HRB.out, hi0 ▸ HL.out⟩)
        clear HL HRA HRB hi0 hlt
        go_wp2_with fail
        go_loopw [11] (fun iv wr => ∃ i : Nat, i ≤ n' ∧ i ≤ 30 ∧ iv = .int .i64 i ∧ AuSt w Va Vb i0 i wr) (fun iv _ => n' - (intOf iv).toNat)
        case atStart => exact ⟨0, by omega, by omega, rfl, HRD.out⟩
        case round =>
          obtain ⟨i, hi, hi30, rfl, hst⟩ := hrel
          obtain ⟨ma, mb, Na, Nb, hra, hrb, hls⟩ := hst.ex
          have HRA := Lib.hid hra
          have HRB := Lib.hid hrb
          have HL := Lib.hid hls
          clear hst hra hrb hls HRD
          go_upto_region 13 with fail
          go_cut [64] (fun s27 wx => s27 = .bool (decide (i < n' ∧ i < 30)) ∧ wx = wr)
          case first =>
            by_cases hin : i < n'
            · go_wp2_with fail
              go_meet
              exact ⟨by simp [hin]; omega, rfl⟩
            · go_wp2_with fail
              go_meet
              exact ⟨by simp [hin], rfl⟩
          case rest =>
            obtain ⟨rfl, rfl⟩ := hcut
            by_cases hlt : i < n' ∧ i < 30
            · rw [decide_eq_true hlt]
              obtain ⟨ad, hA, hadb, hcell⟩ := HR'.out.2 (by omega)
              subst hA
              have hxi : i < ys.length := by have := HYL.out; omega
              obtain ⟨z, hz⟩ : ∃ z, z = ys[i] := ⟨_, rfl⟩
              have hzb : -9223372036854775808 ≤ z ∧ z ≤ 9223372036854775807 := by rw [hz]; exact HYS.out _ (List.getElem_mem hxi)
              have hcz := hcell i (.int .i64 z) (by rw [List.getElem?_map, List.getElem?_eq_getElem hxi, hz]; rfl)
              have hcz2 : wc.cell? (ad.add i) = some (.int .i64 z) := (HL.out.low.cell (show (ad.add i).block < w.heap.size by rw [block_of_add]; omega)).trans hcz
              obtain ⟨S, hd⟩ := HL.out.vatb.dat
              have h2 := HRB.out.two
              have hbl := bringF_lt (z / 64) 2 (by omega)
              obtain ⟨s, hs⟩ : ∃ s, mb.chunks[bringF (z / 64) 2]? = some s := ⟨_, List.getElem?_eq_getElem (by omega)⟩
              have hnok := (hd.ok.srv s (List.mem_of_getElem? hs)).now_ok
              have HWI := Lib.hid (fun (t : Int) (ht : t = ((i + 1 : Nat) : Int)) => awish_any wc _ _ _ _ _ _ _ s hd z t hs rfl hzb.1 hzb.2 (by omega) (by omega))
              have HIN := Lib.hid (fun (W : World) (t : Int) (ht : t = ((i + 1 : Nat) : Int)) => (wishS_in (w := W) (now := s.now) (n := z) (stamp := t) (fun q hq => hnok.bound hq) (by omega) (by omega)))
              have hiI : (i : Int) < (n' : Int) := by omega
              have h0I : (0 : Int) ≤ (i : Int) := by omega
              clear hcell hzb hcz hz hd hs hnok h2 hbl
              go_wp2_with fail
              refine (HWI.out _ (by omega)).mono ?_
              rintro _ w4 ⟨rfl, hb4⟩
              obtain ⟨Na4, Nb4, hl4⟩ := HL.out.below hb4
              have HD := Lib.hid (fun (t : Int) (ht : t = ((i + 1 : Nat) : Int)) => hl4.swap.do_ (by omega) (wishS s.now z t) (HIN.out w4 t ht))
              have HSTP := Lib.hid (fun (t : Int) (ht : t = ((i + 1 : Nat) : Int)) => HRB.out.step (x := wishS s.now z t) (by rw [wishS_stamp]; omega))
              clear hb4 HWI HIN hcz2 hl4
              go_wp2_with fail
              refine (HD.out _ (by omega)).mono ?_
              rintro _ w5 ⟨Dv, rfl, _, _, hls, _⟩
              have HST := Lib.hid (show AuSt w Va Vb i0 (i + 1) w5 from ⟨_, _, _, _, HRA.out, HSTP.out _ (by omega), hls.swap.more (by omega)⟩)
              clear hls HD HSTP
              go_wp2_with fail
              go_roundw
              case rel => exact ⟨i + 1, by omega, by omega, by go_num, HST.out⟩
              case measure => simp [intOf]; omega
            · rw [decide_eq_false hlt]
              clear hlt hi
              have HLA := Lib.hid HL.out
              clear HL
              have hlna := leavesQ_len ma
              have hlnb := leavesQ_len mb
              have HLNA := Lib.hid hlna
              have HLNB := Lib.hid hlnb
              have HRA := Lib.hid (show (rootL (leavesQ ma)).length = 32 from (lv_one (leavesQ ma) (by omega) (by omega)).2)
              have HRB := Lib.hid (show (rootL (leavesQ mb)).length = 32 from (lv_one (leavesQ mb) (by omega) (by omega)).2)
              have HRTA := Lib.hid (arootL_any wc Va _ ma HLA.out.vata)
              have HRTB := Lib.hid (fun (W : World) (h : ∃ N, AAt W Vb N mb) => (show Calls Tryz.prog 29 #[.pointer (some ⟨Vb.g, 0, none⟩)] W (ARootPost W mb) from h.elim fun N h => arootL_any W Vb N mb h))
              unfold ARootPost at HRTA HRTB
              have hds : (bRow (rootL (leavesQ ma))).size = 32 := bRow_size32 HRA.out
              have hdo := bRow_one (rootL (leavesQ ma))
              have hds2 : (bRow (rootL (leavesQ mb))).size = 32 := bRow_size32 HRB.out
              have hdo2 := bRow_one (rootL (leavesQ mb))
              have HEQ := Lib.hid (fun (W : World) => eql_digest (rootL (leavesQ ma)) (rootL (leavesQ mb)) HRA.out HRB.out W)
              obtain ⟨D, hD⟩ : ∃ D, D = bRow (rootL (leavesQ ma)) := ⟨_, rfl⟩
              obtain ⟨D2, hD2⟩ : ∃ D, D = bRow (rootL (leavesQ mb)) := ⟨_, rfl⟩
              rw [← hD] at HRTA hds hdo HEQ
              rw [← hD2] at HRTB hds2 hdo2 HEQ
              have HDS := Lib.hid hds
              have HDO := Lib.hid hdo
              have HDS2 := Lib.hid hds2
              have HDO2 := Lib.hid hdo2
              have HZ := Lib.hid treeZ_eq
              have HZS := Lib.hid (show inkZ.size = 32 by simp [inkZ, bRow])
              clear hds hdo hds2 hdo2 hD hD2 hlna hlnb
              go_wp2_with fail
              refine HRTA.out.mono ?_
              rintro _ w8 ⟨rfl, hb8⟩
              have hs8 := hb8.size
              obtain ⟨Na8, Nb8, hl8⟩ := HLA.out.below hb8
              have HL8 := Lib.hid hl8
              clear hl8
              clear hb8 HLA HRTA
              go_upto_region 17 with (refine wpList_store_part (o := ⟨none, _, _, _, _, _⟩) rfl 63 (.tmp 12) (.tmp 80) rfl w8.heap.size 0 D rfl rfl 63 inkZ (by rw [HZ.out]; exact Blk.newAt rfl) (by rw [HDS.out]; rfl) (by rw [HDS.out, HZS.out]; omega) HDO.out ?_; intro w9 hT hD3; rw [spl_self _ _ (by rw [HDS.out, HZS.out])] at hD3)
              have hb : Below w8.heap.size w8 w9 := hT.below ((Below.refl _ _).alloc (Nat.le_refl _) _) (Nat.le_refl _)
              have hs_w9 := hb.size
              obtain ⟨Na9, Nb9, hl9⟩ := HL8.out.below hb
              have HL9 := Lib.hid hl9
              clear hl9
              obtain ⟨g12, hg⟩ : ∃ g, g = w8.heap.size := ⟨_, rfl⟩
              rw [← hg] at hD3 ⊢
              have K12 := Lib.hid hD3
              clear hb hT hD3 hg HL8
              go_wp2_with fail
              refine (HRTB.out w9 ⟨_, HL9.out.vatb⟩).mono ?_
              rintro _ w10 ⟨rfl, hb10⟩
              have hs10 := hb10.size
              obtain ⟨Na10, Nb10, hl10⟩ := HL9.out.below hb10
              have HL10 := Lib.hid hl10
              clear hl10
              have K12b := Lib.hid (K12.out.below' hb10)
              clear hb10 HL9 HRTB K12
              go_upto_region 18 with (refine wpList_store_part (o := ⟨none, _, _, _, _, _⟩) rfl 63 (.tmp 14) (.tmp 85) rfl w10.heap.size 0 D2 rfl rfl 63 inkZ (by rw [HZ.out]; exact Blk.newAt rfl) (by rw [HDS2.out]; rfl) (by rw [HDS2.out, HZS.out]; omega) HDO2.out ?_; intro w11 hT hD3; rw [spl_self _ _ (by rw [HDS2.out, HZS.out])] at hD3)
              have hb : Below w10.heap.size w10 w11 := hT.below ((Below.refl _ _).alloc (Nat.le_refl _) _) (Nat.le_refl _)
              have hs_w11 := hb.size
              obtain ⟨Na11, Nb11, hl11⟩ := HL10.out.below hb
              have HL11 := Lib.hid hl11
              clear hl11
              obtain ⟨g14, hg⟩ : ∃ g, g = w10.heap.size := ⟨_, rfl⟩
              rw [← hg] at hD3 ⊢
              have K14 := Lib.hid hD3
              have K12 := Lib.hid (K12b.out.below' hb)
              clear hb hT hD3 hg HL10 K12b
              obtain ⟨Lk, ak, hbk, _, hia, hib⟩ := HL11.out.book
              have HRI := Lib.hid (fun (hc : clashB Lk = false) => root_iff hc hia hib HLNA.out HLNB.out)
              have HCL := Lib.hid (fun (W : World) (hb : Below w11.heap.size w11 W) => (show Calls Tryz.prog 30 #[.pointer (some ⟨Va.k.g, 0, none⟩)] W fun e w' => e = .returned (.bool (clashB Lk)) ∧ Below W.heap.size W w' from by
                have h := inkClash_any Va.k Lk ak W (hbk.below hb)
                exact h.mono fun e w' ⟨h1, h2⟩ => ⟨h1, by rw [← h2]; exact Below.refl _ _⟩))
              clear hbk hia hib
              cases hcb : clashB Lk with
              | true =>
                rw [hcb] at HCL
                clear hcb HRI
                refine wp_region_calm0 19 106 (by kernel_rfl) (by kernel_rfl) (by kernel_rfl) (by simp) ?_
                simp only [List.take_succ_cons, List.take_zero, List.drop_succ_cons, List.drop_zero]
                refine wpCalm_value rfl rfl (.bool true) (fun W _ => rfl) ?_
                try simp only [Act.put, List.setIfInBounds_toArray, List.set_cons_zero, List.set_cons_succ]
                refine wpCalm_value rfl rfl (.bool true) (fun W _ => rfl) ?_
                try simp only [Act.put, List.setIfInBounds_toArray, List.set_cons_zero, List.set_cons_succ]
                refine wpCalm_value rfl rfl (.bool true) (fun W _ => rfl) ?_
                try simp only [Act.put, List.setIfInBounds_toArray, List.set_cons_zero, List.set_cons_succ]
                refine wpCalm_value rfl rfl (.bool true) (fun W _ => by go_simp) ?_
                try simp only [Act.put, List.setIfInBounds_toArray, List.set_cons_zero, List.set_cons_succ]
                refine wpCalm_value rfl rfl (.bool true) (fun W _ => rfl) ?_
                try simp only [Act.put, List.setIfInBounds_toArray, List.set_cons_zero, List.set_cons_succ]
                refine wpCalm_value rfl rfl (.pointer (some ⟨Va.k.g, 0, none⟩)) (fun W _ => rfl) ?_
                try simp only [Act.put, List.setIfInBounds_toArray, List.set_cons_zero, List.set_cons_succ]
                refine wpCalm_call rfl rfl 30 #[.pointer (some ⟨Va.k.g, 0, none⟩)] (fun W => by go_simp) (.bool true) (fun W hb => HCL.out W hb) ?_
                try simp only [Act.put, List.setIfInBounds_toArray, List.set_cons_zero, List.set_cons_succ]
                refine wpCalm_value rfl rfl (.bool true) (fun W _ => rfl) ?_
                try simp only [Act.put, List.setIfInBounds_toArray, List.set_cons_zero, List.set_cons_succ]
                refine wpCalm_skip rfl rfl ?_
                try simp only [Act.put, List.setIfInBounds_toArray, List.set_cons_zero, List.set_cons_succ]
                refine wpCalm_skip rfl rfl ?_
                try simp only [Act.put, List.setIfInBounds_toArray, List.set_cons_zero, List.set_cons_succ]
                refine wpCalm_skip rfl rfl ?_
                try simp only [Act.put, List.setIfInBounds_toArray, List.set_cons_zero, List.set_cons_succ]
                refine wpCalm_skip rfl rfl ?_
                try simp only [Act.put, List.setIfInBounds_toArray, List.set_cons_zero, List.set_cons_succ]
                refine wpCalm_skip rfl rfl ?_
                try simp only [Act.put, List.setIfInBounds_toArray, List.set_cons_zero, List.set_cons_succ]
                refine wpCalm_skip rfl rfl ?_
                try simp only [Act.put, List.setIfInBounds_toArray, List.set_cons_zero, List.set_cons_succ]
                refine wpCalm_skip rfl rfl ?_
                try simp only [Act.put, List.setIfInBounds_toArray, List.set_cons_zero, List.set_cons_succ]
                refine wpCalm_skip rfl rfl ?_
                try simp only [Act.put, List.setIfInBounds_toArray, List.set_cons_zero, List.set_cons_succ]
                refine wpCalm_skip rfl rfl ?_
                try simp only [Act.put, List.setIfInBounds_toArray, List.set_cons_zero, List.set_cons_succ]
                refine wpCalm_value rfl rfl (.bool true) (fun W _ => by go_simp) ?_
                try simp only [Act.put, List.setIfInBounds_toArray, List.set_cons_zero, List.set_cons_succ]
                refine wpCalm_value rfl rfl (.bool true) (fun W _ => by go_simp) ?_
                try simp only [Act.put, List.setIfInBounds_toArray, List.set_cons_zero, List.set_cons_succ]
                refine wpCalm_nil ?_
                intro W hbW
                have HLW := Lib.hid (HL11.out.low.trans (hbW.mono HL11.out.low.size))
                go_wp2_with fail
                go_ret
                exact ⟨rfl, HLW.out⟩
              | false =>
                have hri := HRI.out hcb
                rw [hcb] at HCL
                rw [hri] at HEQ
                have HLVA := Lib.hid (fun (W : World) (hb : Below w11.heap.size w11 W) => aLeaves_any W Va _ ma (HL11.out.vata.below hb))
                have HLVB := Lib.hid (fun (W : World) (hb : Below w11.heap.size w11 W) => aLeaves_any W Vb _ mb (HL11.out.vatb.below hb))
                obtain ⟨S, hS⟩ := HL11.out.vata.dat
                obtain ⟨S2, hS2⟩ := HL11.out.vatb.dat
                have HML := Lib.hid (show ∀ x, x ∈ leavesQ ma → x.length ≤ maxLen from fun x hx => by obtain ⟨i, _, rfl⟩ := List.mem_map.1 hx; have := leafQ_len hS.ok i; unfold maxLen; omega)
                have HML2 := Lib.hid (show ∀ x, x ∈ leavesQ mb → x.length ≤ maxLen from fun x hx => by obtain ⟨i, _, rfl⟩ := List.mem_map.1 hx; have := leafQ_len hS2.ok i; unfold maxLen; omega)
                obtain ⟨bq, hbq⟩ : ∃ b, b = decide (leavesQ ma = leavesQ mb) := ⟨_, rfl⟩
                rw [← hbq] at HEQ
                have HBQ := Lib.hid hbq
                clear hcb hri HRI hS hS2 hbq
                refine wp_region_rel' 19 106 (fun jx W v => match jx with
                  | 0 => v = .bool true
                  | 1 => v = .bool true
                  | 2 => v = .bool true
                  | 3 => v = .bool true
                  | 4 => v = .bool true
                  | 5 => v = .pointer (some ⟨Va.k.g, 0, none⟩)
                  | 6 => v = .bool false
                  | 7 => v = .bool false
                  | 8 => v = .agg D
                  | 9 => v = .agg D2
                  | 10 => v = .bool bq
                  | 11 => v = .pointer (some ⟨Va.g, 0, none⟩)
                  | 12 => ∃ A c, v = .slice A 6 c ∧ RowsB W W.heap.size A 6 (leavesQ ma)
                  | 13 => v = .pointer (some ⟨Vb.g, 0, none⟩)
                  | 14 => ∃ A c, v = .slice A 6 c ∧ RowsB W W.heap.size A 6 (leavesQ mb)
                  | 15 => v = .bool bq
                  | 16 => v = .bool true
                  | 17 => v = .bool true
                  | _ => v = .bool true) [87, 88, 89, 90, 91, 92, 93, 94, 95, 96, 97, 98, 99, 100, 101, 102, 103, 104, 105] (by kernel_rfl) (by kernel_rfl) (by kernel_rfl) (by simp) (by kernel_rfl) (fun jx => ?last) ?heads ?_
                case last =>
                  match jx with
                  | 0 | 1 | 2 | 3 | 4 | 5 | 6 | 7 | 8 | 9 | 10 | 11 | 13 | 15 | 16 | 17 | jx + 18 => exact Lasts.pure _
                  | 12 => exact lasts_leaves _
                  | 14 => exact lasts_leaves _
                case heads =>
                  simp only [List.take_succ_cons, List.take_zero]
                  refine ⟨fun a W hb hkp hd => ?_, fun a W hb hkp hd => ?_, fun a W hb hkp hd => ?_, fun a W hb hkp hd => ?_, fun a W hb hkp hd => ?_, fun a W hb hkp hd => ?_, fun a W hb hkp hd => ?_, fun a W hb hkp hd => ?_, fun a W hb hkp hd => ?_, fun a W hb hkp hd => ?_, fun a W hb hkp hd => ?_, fun a W hb hkp hd => ?_, fun a W hb hkp hd => ?_, fun a W hb hkp hd => ?_, fun a W hb hkp hd => ?_, fun a W hb hkp hd => ?_, fun a W hb hkp hd => ?_, fun a W hb hkp hd => ?_, fun a W hb hkp hd => ?_, trivial⟩
                  · have e0 : a.tmps[13]?.getD undef = .bool true := hkp.get (by kernel_rfl) rfl
                    exact rel_value rfl (.bool true) (by go_simp) rfl
                  · have e0 : a.tmps[87]?.getD undef = .bool true := (hd 0 (by kernel_rfl)).get 87 rfl rfl
                    exact rel_value rfl (.bool true) (by go_simp) rfl
                  · have e0 : a.tmps[15]?.getD undef = .bool true := hkp.get (by kernel_rfl) rfl
                    have eg : a.tmps[88]?.getD undef = .bool true := (hd 1 (by kernel_rfl)).get 88 rfl rfl
                    exact rel_value (wanted_at rfl rfl eg) (.bool true) (by go_simp) rfl
                  · have e0 : a.tmps[88]?.getD undef = .bool true := (hd 1 (by kernel_rfl)).get 88 rfl rfl
                    have e1 : a.tmps[89]?.getD undef = .bool true := (hd 2 (by kernel_rfl)).get 89 rfl rfl
                    exact rel_value rfl (.bool true) (by go_simp) rfl
                  · have e0 : a.tmps[90]?.getD undef = .bool true := (hd 3 (by kernel_rfl)).get 90 rfl rfl
                    exact rel_value rfl (.bool true) (by go_simp) rfl
                  · have e0 : a.tmps[5]?.getD undef = .pointer (some ⟨Va.k.g, 0, none⟩) := hkp.get (by kernel_rfl) rfl
                    have eg : a.tmps[91]?.getD undef = .bool true := (hd 4 (by kernel_rfl)).get 91 rfl rfl
                    exact rel_value (wanted_at rfl rfl eg) (.pointer (some ⟨Va.k.g, 0, none⟩)) (by go_simp) rfl
                  · have e0 : a.tmps[92]?.getD undef = .pointer (some ⟨Va.k.g, 0, none⟩) := (hd 5 (by kernel_rfl)).get 92 rfl rfl
                    have eg : a.tmps[91]?.getD undef = .bool true := (hd 4 (by kernel_rfl)).get 91 rfl rfl
                    exact rel_call (wanted_at rfl rfl eg) 30 #[.pointer (some ⟨Va.k.g, 0, none⟩)] (by go_simp) ((HCL.out W hb).mono fun e w h => ⟨_, h.1, h.2, rfl⟩)
                  · have e0 : a.tmps[93]?.getD undef = .bool false := (hd 6 (by kernel_rfl)).get 93 rfl rfl
                    have eg : a.tmps[91]?.getD undef = .bool true := (hd 4 (by kernel_rfl)).get 91 rfl rfl
                    exact rel_value (wanted_at rfl rfl eg) (.bool false) (by go_simp) rfl
                  · have e0 : a.eval (.tmp 12) = .pointer (some ⟨g12, 0, none⟩) := hkp.at_ (by kernel_rfl)
                    have eg : a.tmps[94]?.getD undef = .bool false := (hd 7 (by kernel_rfl)).get 94 rfl rfl
                    exact rel_value (wanted_at rfl rfl eg) (.agg D) (exec_load_part 63 (.tmp 12) rfl g12 0 32 e0 63 _ D _ (K12.out.below' hb) Tryz.underlying63 rfl rfl HDS.out (fun _ _ => by rw [Nat.zero_add])) rfl
                  · have e0 : a.eval (.tmp 14) = .pointer (some ⟨g14, 0, none⟩) := hkp.at_ (by kernel_rfl)
                    have eg : a.tmps[94]?.getD undef = .bool false := (hd 7 (by kernel_rfl)).get 94 rfl rfl
                    exact rel_value (wanted_at rfl rfl eg) (.agg D2) (exec_load_part 63 (.tmp 14) rfl g14 0 32 e0 63 _ D2 _ (K14.out.below' hb) Tryz.underlying63 rfl rfl HDS2.out (fun _ _ => by rw [Nat.zero_add])) rfl
                  · have e0 : a.eval (.tmp 95) = .agg D := (hd 8 (by kernel_rfl)) _ 95 rfl rfl
                    have e1 : a.eval (.tmp 96) = .agg D2 := (hd 9 (by kernel_rfl)) _ 96 rfl rfl
                    have eg : a.tmps[94]?.getD undef = .bool false := (hd 7 (by kernel_rfl)).get 94 rfl rfl
                    exact rel_value (wanted_at rfl rfl eg) (.bool bq) (exec_eql_agg 63 (.tmp 95) (.tmp 96) _ rfl D D2 e0 e1 eqg_digest _ (HEQ.out W)) rfl
                  · have e0 : a.tmps[6]?.getD undef = .pointer (some ⟨Va.g, 0, none⟩) := hkp.get (by kernel_rfl) rfl
                    have eg : a.tmps[94]?.getD undef = .bool false := (hd 7 (by kernel_rfl)).get 94 rfl rfl
                    exact rel_value (wanted_at rfl rfl eg) (.pointer (some ⟨Va.g, 0, none⟩)) (by go_simp) rfl
                  · have e0 : a.tmps[98]?.getD undef = .pointer (some ⟨Va.g, 0, none⟩) := (hd 11 (by kernel_rfl)).get 98 rfl rfl
                    have eg : a.tmps[94]?.getD undef = .bool false := (hd 7 (by kernel_rfl)).get 94 rfl rfl
                    refine rel_call (wanted_at rfl rfl eg) 31 #[.pointer (some ⟨Va.g, 0, none⟩)] (by go_simp) ((HLVA.out W hb).mono ?_)
                    rintro e w ⟨v, vs, rfl, ho, hb'⟩
                    obtain ⟨A, c, h1, _, _, h4, _⟩ := ho.slice
                    rw [leavesQ_len] at h1 h4
                    exact ⟨v, rfl, hb', A, c, h1, h4⟩
                  · have e0 : a.tmps[8]?.getD undef = .pointer (some ⟨Vb.g, 0, none⟩) := hkp.get (by kernel_rfl) rfl
                    have eg : a.tmps[94]?.getD undef = .bool false := (hd 7 (by kernel_rfl)).get 94 rfl rfl
                    exact rel_value (wanted_at rfl rfl eg) (.pointer (some ⟨Vb.g, 0, none⟩)) (by go_simp) rfl
                  · have e0 : a.tmps[100]?.getD undef = .pointer (some ⟨Vb.g, 0, none⟩) := (hd 13 (by kernel_rfl)).get 100 rfl rfl
                    have eg : a.tmps[94]?.getD undef = .bool false := (hd 7 (by kernel_rfl)).get 94 rfl rfl
                    refine rel_call (wanted_at rfl rfl eg) 31 #[.pointer (some ⟨Vb.g, 0, none⟩)] (by go_simp) ((HLVB.out W hb).mono ?_)
                    rintro e w ⟨v, vs, rfl, ho, hb'⟩
                    obtain ⟨A, c, h1, _, _, h4, _⟩ := ho.slice
                    rw [leavesQ_len] at h1 h4
                    exact ⟨v, rfl, hb', A, c, h1, h4⟩
                  · obtain ⟨Aa, ca, e1, r1⟩ := (hd 12 (by kernel_rfl)).get 99 rfl rfl
                    obtain ⟨Ab, cb, e2, r2⟩ := (hd 14 (by kernel_rfl)).get 101 rfl rfl
                    have eg : a.tmps[94]?.getD undef = .bool false := (hd 7 (by kernel_rfl)).get 94 rfl rfl
                    exact rel_call (wanted_at rfl rfl eg) 16 #[.slice Aa 6 ca, .slice Ab 6 cb] (by go_simp) ((sameLeaves_any Aa Ab 6 ca 6 cb (leavesQ ma) (leavesQ mb) W W.heap.size r1 r2 (Nat.le_refl _) (by omega) (by omega) HML.out HML2.out).mono fun e w h => ⟨.bool bq, by rw [h.1, HBQ.out], h.2, rfl⟩)
                  · have e0 : a.tmps[97]?.getD undef = .bool bq := (hd 10 (by kernel_rfl)).get 97 rfl rfl
                    have e1 : a.tmps[102]?.getD undef = .bool bq := (hd 15 (by kernel_rfl)).get 102 rfl rfl
                    have eg : a.tmps[94]?.getD undef = .bool false := (hd 7 (by kernel_rfl)).get 94 rfl rfl
                    exact rel_value (wanted_at rfl rfl eg) (.bool true) (by go_simp) rfl
                  · have e0 : a.tmps[94]?.getD undef = .bool false := (hd 7 (by kernel_rfl)).get 94 rfl rfl
                    have e1 : a.tmps[103]?.getD undef = .bool true := (hd 16 (by kernel_rfl)).get 103 rfl rfl
                    have eg : a.tmps[91]?.getD undef = .bool true := (hd 4 (by kernel_rfl)).get 91 rfl rfl
                    exact rel_value (wanted_at rfl rfl eg) (.bool true) (by go_simp) rfl
                  · have e0 : a.tmps[91]?.getD undef = .bool true := (hd 4 (by kernel_rfl)).get 91 rfl rfl
                    have e1 : a.tmps[104]?.getD undef = .bool true := (hd 17 (by kernel_rfl)).get 104 rfl rfl
                    exact rel_value rfl (.bool true) (by go_simp) rfl
                intro f W hbW hd
                have f103 : f 105 = .bool true := hd 18 (by omega) _ 105 rfl rfl
                have HLW := Lib.hid (HL11.out.low.trans (hbW.mono HL11.out.low.size))
                clear hd hbW
                simp only [putAll, List.drop_succ_cons, List.drop_zero, f103]
                try simp only [Act.put, List.setIfInBounds_toArray, List.set_cons_zero, List.set_cons_succ]
                go_wp2_with fail
                go_ret
                exact ⟨rfl, HLW.out⟩

end Go.Proofs.YtlaodmmjhjpfmaaGreat
