/-
  VaultUnlike: the law's walk.
-/
import Derived.Test.YtfjopbbgcjgpbaaGreatZ18
import Derived.Test.YtfjopbbgcjgpbaaGreatZ4
import Derived.Deep.DeepCutAuto
namespace Go.Proofs.YtfjopbbgcjgpbaaGreat
set_option linter.unusedVariables false
open Go.RowKit Go.Maps

attribute [local irreducible] wpList wpCalm
structure UnSt (w0 : World) (Va Vb : VLoc) (N : Nat → Prop) (i j : Nat) (W : World) : Prop where
  ex : ∃ ma mb, RunOk ma 0 i ∧ RunOk mb 0 j ∧ LSt2 w0 Va Vb N ma mb (100 + 10 * i + 10 * j) W
theorem lasts_leaves (xss : List (List UInt8)) : Lasts fun W v => ∃ A c, v = .slice A 13 c ∧ RowsB W W.heap.size A 13 xss := fun W W' v ⟨A, c, h1, h2⟩ hb => ⟨A, c, h1, (h2.below hb).more hb.size⟩
theorem root_iff {L cs bs : List (List UInt8)} (hc : clashB L = false) (ha : InBook L cs) (hb : InBook L bs) (hl : cs.length = 13) (hl2 : bs.length = 13) : (rootL cs == rootL bs) = decide (cs = bs) := by
  by_cases h : cs = bs
  · subst h; simp
  · rw [decide_eq_false h]
    rw [beq_eq_false_iff_ne]
    exact fun e => h (root_inj hc ha hb (by omega) (by omega) (by omega) e)

set_option maxRecDepth 100000 in
set_option maxHeartbeats 16000000 in
theorem vaultUnlike_law (A : Option Addr) (n c : Nat) (xs : List Int) (A2 : Option Addr) (n2 c2 : Nat) (xs2 : List Int) (w : World) (hr : Reads w w.heap.size 1 A n (xs.map vn)) (hxs : ∀ z, z ∈ xs → -9223372036854775808 ≤ z ∧ z ≤ 9223372036854775807) (hn : n ≤ 1000000000000000000) (hr2 : Reads w w.heap.size 1 A2 n2 (xs2.map vn)) (hxs2 : ∀ z, z ∈ xs2 → -9223372036854775808 ≤ z ∧ z ≤ 9223372036854775807) (hn2 : n2 ≤ 1000000000000000000) :
    Calls Tryz.prog 6 #[.slice A n c, .slice A2 n2 c2] w fun e w' => e = .returned (.bool true) ∧ Below w.heap.size w w' := by
  have hxl : xs.length = n := by have := hr.1; simpa using this
  have HR := Lib.hid hr
  have HXS := Lib.hid hxs
  have HXL := Lib.hid hxl
  clear hr hxs hxl
  have hxl2 : xs2.length = n2 := by have := hr2.1; simpa using this
  have HR2 := Lib.hid hr2
  have HXS2 := Lib.hid hxs2
  have HXL2 := Lib.hid hxl2
  clear hr2 hxs2 hxl2
  go_enter Tryz.func6, Tryz.ntmps6
  go_wp2_with fail
  refine (vworks_any w).mono ?_
  rintro _ wa ⟨rfl, hba⟩
  have HBA := Lib.hid hba
  clear hba
  go_wp2_with fail
  refine (inkNew_any wa).mono ?_
  rintro _ w1 ⟨k, rfl, hbk, hkn, hb1⟩
  have hsa := HBA.out.size
  have HNW := Lib.hid (vNew_at k [] 0 1 w1 hbk (by omega) (by omega))
  have HB1 := Lib.hid (HBA.out.trans (hb1.mono hsa))
  have HKN := Lib.hid (show w.heap.size ≤ k.g ∧ w.heap.size ≤ k.b1 ∧ w.heap.size ≤ k.b2 by omega)
  have HKL := Lib.hid hbk.lt
  clear hb1 hkn hbk HBA
  go_wp2_with fail
  refine (HNW.out _ rfl).mono ?_
  rintro _ w2 ⟨Va, rfl, hna⟩
  obtain ⟨La, aa, hbka, haa, _, hina⟩ := hna.book
  have HNW2 := Lib.hid (vNew_at k La aa 1 w2 hbka (by omega) (by omega))
  have HNA := Lib.hid hna
  have HINA := Lib.hid hina
  clear hna hina hbka HNW
  go_wp2_with fail
  refine (HNW2.out _ rfl).mono ?_
  rintro _ w3 ⟨Vb, rfl, hnb⟩
  have HLS := Lib.hid ((LSt2.start HB1.out HKN.out HKL.out HNA.out HINA.out hnb).more (show aa + 48 ≤ 100 + 10 * 0 + 10 * 0 by omega))
  have HKA := Lib.hid HNA.out.kk
  obtain ⟨N, hN⟩ : ∃ N, N = fun b => Va.all b ∨ Vb.all b := ⟨_, rfl⟩
  rw [← hN] at HLS
  clear hN hnb HNA HINA HNW2 HB1 HKN HKL
  go_wp2_with fail
  go_loopw [10] (fun iv wr => ∃ i : Nat, i ≤ n ∧ i ≤ 30 ∧ iv = .int .i64 i ∧ UnSt w Va Vb N i 0 wr) (fun iv _ => n - (intOf iv).toNat)
  case atStart => exact ⟨0, by omega, by omega, rfl, ⟨_, _, RunOk.new, RunOk.new, HLS.out⟩⟩
  case round =>
    obtain ⟨i, hi, hi60, rfl, hst⟩ := hrel
    obtain ⟨ma, mb, hrun, hrunb, hls⟩ := hst.ex
    have HRUN := Lib.hid hrun
    have HRUNB := Lib.hid hrunb
    have HL := Lib.hid hls
    clear hst hrun hrunb hls
    go_upto_region 9 with fail
    go_cut [42] (fun s42 wx => s42 = .bool (decide (i < n ∧ i < 30)) ∧ wx = wr)
    case first =>
      by_cases hin : i < n
      · go_wp2_with fail
        go_meet
        exact ⟨by simp [hin]; omega, rfl⟩
      · go_wp2_with fail
        go_meet
        exact ⟨by simp [hin], rfl⟩
    case rest =>
      obtain ⟨rfl, rfl⟩ := hcut
      by_cases hlt : i < n ∧ i < 30
      · rw [decide_eq_true hlt]
        obtain ⟨ad, hA, hadb, hcell⟩ := HR.out.2 (by omega)
        subst hA
        have hxi : i < xs.length := by have := HXL.out; omega
        obtain ⟨z, hz⟩ : ∃ z, z = xs[i] := ⟨_, rfl⟩
        have hzb : -9223372036854775808 ≤ z ∧ z ≤ 9223372036854775807 := by rw [hz]; exact HXS.out _ (List.getElem_mem hxi)
        have hcz := hcell i (.int .i64 z) (by rw [List.getElem?_map, List.getElem?_eq_getElem hxi, hz]; rfl)
        have CZ := Lib.hid (fun (W : World) (hb : Below w.heap.size w W) => (hb.cell (show (ad.add i).block < w.heap.size by rw [block_of_add]; omega)).trans hcz)
        have hz1 := hzb.1
        have hz2 := hzb.2
        have hcz2 := CZ.out wc HL.out.low
        have hlow := (HL.out.low).size
        have hiI : (i : Int) < (n : Int) := by omega
        have h0I : (0 : Int) ≤ (i : Int) := by omega
        clear hcell hzb hcz hz
        obtain ⟨x, hx⟩ : ∃ x, x = wishV ma.epoch z ((i + 1 : Nat) : Int) := ⟨_, rfl⟩
        have HWI := Lib.hid (fun (s : Int) (hs : s = ((i + 1 : Nat) : Int)) => (show Calls Tryz.prog 15 #[.pointer (some ⟨Va.g, 0, none⟩), .int .i64 z, .int .i64 s] wc (WishPost wc x) from hs ▸ hx ▸ vwish_any wc Va _ ma HL.out.vata z ((i + 1 : Nat) : Int) hz1 hz2 (by omega) (by omega)))
        have hstep := HRUN.out.step z (k := i + 1) (by omega) (by omega)
        rw [← hx] at hstep
        obtain ⟨p, hp⟩ : ∃ p, p = doV ma x := ⟨_, rfl⟩
        rw [← hp] at hstep
        have HP := Lib.hid hp
        have HSTEP := Lib.hid hstep
        have HMUT := Lib.hid HL.out.mut
        clear hx hstep hp
        go_wp2_with fail
        refine (HWI.out _ (by omega)).mono ?_
        rintro _ w4 ⟨Ax, qx, Ay, qy, rfl, hwi, hAx, hAy, hb4⟩
        have HDO := Lib.hid ((HL.out.below hb4).do_ (by omega) x Ax x.data.length qx Ay x.next.length qy w4.heap.size hwi (Nat.le_refl _) (fun ad h0 ha => by have := hAx ad ha; have := HMUT.out Va.g (.inl rfl); omega))
        rw [← HP.out] at HDO
        clear hwi hAx hAy hb4 hcz2 HL HWI
        go_wp2_with fail
        refine HDO.out.mono ?_
        rintro _ w6 ⟨A3, q3, rfl, ho3, hl6, hon⟩
        have HL6 := Lib.hid hl6
        clear ho3 hl6 hon HDO
        go_wp2_with fail
        go_roundw
        case rel => exact ⟨i + 1, by omega, by omega, by go_num, ⟨_, _, HSTEP.out.2, HRUNB.out, HL6.out.more (by omega)⟩⟩
        case measure => simp [intOf]; omega
      · rw [decide_eq_false hlt]
        clear hlt
        obtain ⟨i1, hi1⟩ : ∃ k, k = i := ⟨_, rfl⟩
        rw [← hi1] at HRUN HL hi60
        have HLS2 := Lib.hid HL.out
        have HRUNA := Lib.hid HRUN.out
        clear HRUN HL hi1 hi HLS
        go_wp2_with fail
        go_loopw [11] (fun iv wr => ∃ i : Nat, i ≤ n2 ∧ i ≤ 30 ∧ iv = .int .i64 i ∧ UnSt w Vb Va N i i1 wr) (fun iv _ => n2 - (intOf iv).toNat)
        case atStart => exact ⟨0, by omega, by omega, rfl, ⟨_, _, HRUNB.out, HRUNA.out, HLS2.out.swap.more (by omega)⟩⟩
        case round =>
          obtain ⟨i, hi, hi30, rfl, hst⟩ := hrel
          obtain ⟨mb, ma, hrunb, hrun, hls⟩ := hst.ex
          have HRUNB := Lib.hid hrunb
          have HRUNA := Lib.hid hrun
          have HL := Lib.hid hls
          clear hst hrun hrunb hls
          go_upto_region 13 with fail
          go_cut [62] (fun s62 wx => s62 = .bool (decide (i < n2 ∧ i < 30)) ∧ wx = wr)
          case first =>
            by_cases hin : i < n2
            · go_wp2_with fail
              go_meet
              exact ⟨by simp [hin]; omega, rfl⟩
            · go_wp2_with fail
              go_meet
              exact ⟨by simp [hin], rfl⟩
          case rest =>
            obtain ⟨rfl, rfl⟩ := hcut
            by_cases hlt : i < n2 ∧ i < 30
            · rw [decide_eq_true hlt]
              obtain ⟨ad, hA, hadb, hcell⟩ := HR2.out.2 (by omega)
              subst hA
              have hxi : i < xs2.length := by have := HXL2.out; omega
              obtain ⟨z, hz⟩ : ∃ z, z = xs2[i] := ⟨_, rfl⟩
              have hzb : -9223372036854775808 ≤ z ∧ z ≤ 9223372036854775807 := by rw [hz]; exact HXS2.out _ (List.getElem_mem hxi)
              have hcz := hcell i (.int .i64 z) (by rw [List.getElem?_map, List.getElem?_eq_getElem hxi, hz]; rfl)
              have CZ := Lib.hid (fun (W : World) (hb : Below w.heap.size w W) => (hb.cell (show (ad.add i).block < w.heap.size by rw [block_of_add]; omega)).trans hcz)
              have hz1 := hzb.1
              have hz2 := hzb.2
              have hcz2 := CZ.out wc HL.out.low
              have hlow := (HL.out.low).size
              have hiI : (i : Int) < (n2 : Int) := by omega
              have h0I : (0 : Int) ≤ (i : Int) := by omega
              clear hcell hzb hcz hz
              obtain ⟨x, hx⟩ : ∃ x, x = wishV mb.epoch z ((i + 1 : Nat) : Int) := ⟨_, rfl⟩
              have HWI := Lib.hid (fun (s : Int) (hs : s = ((i + 1 : Nat) : Int)) => (show Calls Tryz.prog 15 #[.pointer (some ⟨Vb.g, 0, none⟩), .int .i64 z, .int .i64 s] wc (WishPost wc x) from hs ▸ hx ▸ vwish_any wc Vb _ mb HL.out.vata z ((i + 1 : Nat) : Int) hz1 hz2 (by omega) (by omega)))
              have hstep := HRUNB.out.step z (k := i + 1) (by omega) (by omega)
              rw [← hx] at hstep
              obtain ⟨p, hp⟩ : ∃ p, p = doV mb x := ⟨_, rfl⟩
              rw [← hp] at hstep
              have HP := Lib.hid hp
              have HSTEP := Lib.hid hstep
              have HMUT := Lib.hid HL.out.mut
              clear hx hstep hp
              go_wp2_with fail
              refine (HWI.out _ (by omega)).mono ?_
              rintro _ w4 ⟨Ax, qx, Ay, qy, rfl, hwi, hAx, hAy, hb4⟩
              have HDO := Lib.hid ((HL.out.below hb4).do_ (by omega) x Ax x.data.length qx Ay x.next.length qy w4.heap.size hwi (Nat.le_refl _) (fun ad h0 ha => by have := hAx ad ha; have := HMUT.out Vb.g (.inl rfl); omega))
              rw [← HP.out] at HDO
              clear hwi hAx hAy hb4 hcz2 HL HWI
              go_wp2_with fail
              refine HDO.out.mono ?_
              rintro _ w6 ⟨A3, q3, rfl, ho3, hl6, hon⟩
              have HL6 := Lib.hid hl6
              clear ho3 hl6 hon HDO
              go_wp2_with fail
              go_roundw
              case rel => exact ⟨i + 1, by omega, by omega, by go_num, ⟨_, _, HSTEP.out.2, HRUNA.out, HL6.out.more (by omega)⟩⟩
              case measure => simp [intOf]; omega
            · rw [decide_eq_false hlt]
              clear hlt hi
              have HLA := Lib.hid HL.out.swap
              clear HL
              have hlna := leavesV_len ma
              have hlnb := leavesV_len mb
              have HLNA := Lib.hid hlna
              have HLNB := Lib.hid hlnb
              have HRA := Lib.hid (show (rootL (leavesV ma)).length = 32 from (lv_one (leavesV ma) (by omega) (by omega)).2)
              have HRB := Lib.hid (show (rootL (leavesV mb)).length = 32 from (lv_one (leavesV mb) (by omega) (by omega)).2)
              have HRTA := Lib.hid (vrootL_any wc Va N ma HLA.out.vata)
              have HRTB := Lib.hid (fun (W : World) (h : VAt W Vb N mb) => vrootL_any W Vb N mb h)
              unfold RootPost at HRTA HRTB
              have hds : (bRow (rootL (leavesV ma))).size = 32 := bRow_size32 HRA.out
              have hdo := bRow_one (rootL (leavesV ma))
              have hds2 : (bRow (rootL (leavesV mb))).size = 32 := bRow_size32 HRB.out
              have hdo2 := bRow_one (rootL (leavesV mb))
              have HEQ := Lib.hid (fun (W : World) => eql_digest (rootL (leavesV ma)) (rootL (leavesV mb)) HRA.out HRB.out W)
              obtain ⟨D, hD⟩ : ∃ D, D = bRow (rootL (leavesV ma)) := ⟨_, rfl⟩
              obtain ⟨D2, hD2⟩ : ∃ D, D = bRow (rootL (leavesV mb)) := ⟨_, rfl⟩
              rw [← hD] at HRTA hds hdo HEQ
              rw [← hD2] at HRTB hds2 hdo2 HEQ
              have HDS := Lib.hid hds
              have HDO := Lib.hid hdo
              have HDS2 := Lib.hid hds2
              have HDO2 := Lib.hid hdo2
              have HZ := Lib.hid treeZ_eq
              have HZS := Lib.hid (show inkZ.size = 32 by simp [inkZ, bRow])
              clear hds hdo hds2 hdo2 hD hD2 hlna hlnb
              go_wp2_with fail
              refine HRTA.out.mono ?_
              rintro _ w8 ⟨rfl, hb8⟩
              have hs8 := hb8.size
              have HL8 := Lib.hid (HLA.out.below hb8)
              clear hb8 HLA HRTA
              go_upto_region 17 with (refine wpList_store_part (o := ⟨none, _, _, _, _, _⟩) rfl 56 (.tmp 12) (.tmp 78) rfl w8.heap.size 0 D rfl rfl 56 inkZ (by rw [HZ.out]; exact Blk.newAt rfl) (by rw [HDS.out]; rfl) (by rw [HDS.out, HZS.out]; omega) HDO.out ?_; intro w9 hT hD3; rw [spl_self _ _ (by rw [HDS.out, HZS.out])] at hD3)
              have hb : Below w8.heap.size w8 w9 := hT.below ((Below.refl _ _).alloc (Nat.le_refl _) _) (Nat.le_refl _)
              have hs_w9 := hb.size
              have HL9 := Lib.hid (HL8.out.below hb)
              obtain ⟨g12, hg⟩ : ∃ g, g = w8.heap.size := ⟨_, rfl⟩
              rw [← hg] at hD3 ⊢
              have K12 := Lib.hid hD3
              clear hb hT hD3 hg HL8
              go_wp2_with fail
              refine (HRTB.out w9 HL9.out.vatb).mono ?_
              rintro _ w10 ⟨rfl, hb10⟩
              have hs10 := hb10.size
              have HL10 := Lib.hid (HL9.out.below hb10)
              have K12b := Lib.hid (K12.out.below' hb10)
              clear hb10 HL9 HRTB K12
              go_upto_region 18 with (refine wpList_store_part (o := ⟨none, _, _, _, _, _⟩) rfl 56 (.tmp 14) (.tmp 83) rfl w10.heap.size 0 D2 rfl rfl 56 inkZ (by rw [HZ.out]; exact Blk.newAt rfl) (by rw [HDS2.out]; rfl) (by rw [HDS2.out, HZS.out]; omega) HDO2.out ?_; intro w11 hT hD3; rw [spl_self _ _ (by rw [HDS2.out, HZS.out])] at hD3)
              have hb : Below w10.heap.size w10 w11 := hT.below ((Below.refl _ _).alloc (Nat.le_refl _) _) (Nat.le_refl _)
              have hs_w11 := hb.size
              have HL11 := Lib.hid (HL10.out.below hb)
              obtain ⟨g14, hg⟩ : ∃ g, g = w10.heap.size := ⟨_, rfl⟩
              rw [← hg] at hD3 ⊢
              have K14 := Lib.hid hD3
              have K12 := Lib.hid (K12b.out.below' hb)
              clear hb hT hD3 hg HL10 K12b
              obtain ⟨Lk, ak, hbk, _, hia, hib⟩ := HL11.out.book
              have HRI := Lib.hid (fun (hc : clashB Lk = false) => root_iff hc hia hib HLNA.out HLNB.out)
              have HCL := Lib.hid (fun (W : World) (hb : Below w11.heap.size w11 W) => (show Calls Tryz.prog 31 #[.pointer (some ⟨k.g, 0, none⟩)] W fun e w' => e = .returned (.bool (clashB Lk)) ∧ Below W.heap.size W w' from by
                have h := inkClash_any Va.k Lk ak W (hbk.below hb)
                rw [HKA.out] at h
                exact h.mono fun e w' ⟨h1, h2⟩ => ⟨h1, by rw [← h2]; exact Below.refl _ _⟩))
              clear hbk hia hib
              cases hcb : clashB Lk with
              | true =>
                rw [hcb] at HCL
                clear hcb HRI
                refine wp_region_calm0 19 104 (by kernel_rfl) (by kernel_rfl) (by kernel_rfl) (by simp) ?_
                simp only [List.take_succ_cons, List.take_zero, List.drop_succ_cons, List.drop_zero]
                refine wpCalm_value rfl rfl (.bool true) (fun W _ => rfl) ?_
                try simp only [Act.put, List.setIfInBounds_toArray, List.set_cons_zero, List.set_cons_succ]
                refine wpCalm_value rfl rfl (.bool true) (fun W _ => rfl) ?_
                try simp only [Act.put, List.setIfInBounds_toArray, List.set_cons_zero, List.set_cons_succ]
                refine wpCalm_value rfl rfl (.bool true) (fun W _ => rfl) ?_
                try simp only [Act.put, List.setIfInBounds_toArray, List.set_cons_zero, List.set_cons_succ]
                refine wpCalm_value rfl rfl (.bool true) (fun W _ => by go_simp) ?_
                try simp only [Act.put, List.setIfInBounds_toArray, List.set_cons_zero, List.set_cons_succ]
                refine wpCalm_value rfl rfl (.bool true) (fun W _ => rfl) ?_
                try simp only [Act.put, List.setIfInBounds_toArray, List.set_cons_zero, List.set_cons_succ]
                refine wpCalm_value rfl rfl (.pointer (some ⟨k.g, 0, none⟩)) (fun W _ => rfl) ?_
                try simp only [Act.put, List.setIfInBounds_toArray, List.set_cons_zero, List.set_cons_succ]
                refine wpCalm_call rfl rfl 31 #[.pointer (some ⟨k.g, 0, none⟩)] (fun W => by go_simp) (.bool true) (fun W hb => HCL.out W hb) ?_
                try simp only [Act.put, List.setIfInBounds_toArray, List.set_cons_zero, List.set_cons_succ]
                refine wpCalm_value rfl rfl (.bool true) (fun W _ => rfl) ?_
                try simp only [Act.put, List.setIfInBounds_toArray, List.set_cons_zero, List.set_cons_succ]
                refine wpCalm_skip rfl rfl ?_
                try simp only [Act.put, List.setIfInBounds_toArray, List.set_cons_zero, List.set_cons_succ]
                refine wpCalm_skip rfl rfl ?_
                try simp only [Act.put, List.setIfInBounds_toArray, List.set_cons_zero, List.set_cons_succ]
                refine wpCalm_skip rfl rfl ?_
                try simp only [Act.put, List.setIfInBounds_toArray, List.set_cons_zero, List.set_cons_succ]
                refine wpCalm_skip rfl rfl ?_
                try simp only [Act.put, List.setIfInBounds_toArray, List.set_cons_zero, List.set_cons_succ]
                refine wpCalm_skip rfl rfl ?_
                try simp only [Act.put, List.setIfInBounds_toArray, List.set_cons_zero, List.set_cons_succ]
                refine wpCalm_skip rfl rfl ?_
                try simp only [Act.put, List.setIfInBounds_toArray, List.set_cons_zero, List.set_cons_succ]
                refine wpCalm_skip rfl rfl ?_
                try simp only [Act.put, List.setIfInBounds_toArray, List.set_cons_zero, List.set_cons_succ]
                refine wpCalm_skip rfl rfl ?_
                try simp only [Act.put, List.setIfInBounds_toArray, List.set_cons_zero, List.set_cons_succ]
                refine wpCalm_skip rfl rfl ?_
                try simp only [Act.put, List.setIfInBounds_toArray, List.set_cons_zero, List.set_cons_succ]
                refine wpCalm_value rfl rfl (.bool true) (fun W _ => by go_simp) ?_
                try simp only [Act.put, List.setIfInBounds_toArray, List.set_cons_zero, List.set_cons_succ]
                refine wpCalm_value rfl rfl (.bool true) (fun W _ => by go_simp) ?_
                try simp only [Act.put, List.setIfInBounds_toArray, List.set_cons_zero, List.set_cons_succ]
                refine wpCalm_nil ?_
                intro W hbW
                have HLW := Lib.hid (HL11.out.low.trans (hbW.mono HL11.out.low.size))
                go_wp2_with fail
                go_ret
                exact ⟨rfl, HLW.out⟩
              | false =>
                have hri := HRI.out hcb
                rw [hcb] at HCL
                rw [hri] at HEQ
                have HLVA := Lib.hid (fun (W : World) (hb : Below w11.heap.size w11 W) => vLeaves_any W Va N ma (HL11.out.vata.below hb))
                have HLVB := Lib.hid (fun (W : World) (hb : Below w11.heap.size w11 W) => vLeaves_any W Vb N mb (HL11.out.vatb.below hb))
                obtain ⟨S, hS⟩ := HL11.out.vata.dat
                obtain ⟨S2, hS2⟩ := HL11.out.vatb.dat
                have HML := Lib.hid (show ∀ x, x ∈ leavesV ma → x.length ≤ maxLen from fun x hx => by obtain ⟨i, _, rfl⟩ := List.mem_map.1 hx; have := leafV_len hS.ok i; unfold maxLen; omega)
                have HML2 := Lib.hid (show ∀ x, x ∈ leavesV mb → x.length ≤ maxLen from fun x hx => by obtain ⟨i, _, rfl⟩ := List.mem_map.1 hx; have := leafV_len hS2.ok i; unfold maxLen; omega)
                obtain ⟨bq, hbq⟩ : ∃ b, b = decide (leavesV ma = leavesV mb) := ⟨_, rfl⟩
                rw [← hbq] at HEQ
                have HBQ := Lib.hid hbq
                clear hcb hri HRI hS hS2 hbq
                refine wp_region_rel' 19 104 (fun jx W v => match jx with
                  | 0 => v = .bool true
                  | 1 => v = .bool true
                  | 2 => v = .bool true
                  | 3 => v = .bool true
                  | 4 => v = .bool true
                  | 5 => v = .pointer (some ⟨k.g, 0, none⟩)
                  | 6 => v = .bool false
                  | 7 => v = .bool false
                  | 8 => v = .agg D
                  | 9 => v = .agg D2
                  | 10 => v = .bool bq
                  | 11 => v = .pointer (some ⟨Va.g, 0, none⟩)
                  | 12 => ∃ A c, v = .slice A 13 c ∧ RowsB W W.heap.size A 13 (leavesV ma)
                  | 13 => v = .pointer (some ⟨Vb.g, 0, none⟩)
                  | 14 => ∃ A c, v = .slice A 13 c ∧ RowsB W W.heap.size A 13 (leavesV mb)
                  | 15 => v = .bool bq
                  | 16 => v = .bool true
                  | 17 => v = .bool true
                  | _ => v = .bool true) [85, 86, 87, 88, 89, 90, 91, 92, 93, 94, 95, 96, 97, 98, 99, 100, 101, 102, 103] (by kernel_rfl) (by kernel_rfl) (by kernel_rfl) (by simp) (by kernel_rfl) (fun jx => ?last) ?heads ?_
                case last =>
                  match jx with
                  | 0 | 1 | 2 | 3 | 4 | 5 | 6 | 7 | 8 | 9 | 10 | 11 | 13 | 15 | 16 | 17 | jx + 18 => exact Lasts.pure _
                  | 12 => exact lasts_leaves _
                  | 14 => exact lasts_leaves _
                case heads =>
                  simp only [List.take_succ_cons, List.take_zero]
                  refine ⟨fun a W hb hkp hd => ?_, fun a W hb hkp hd => ?_, fun a W hb hkp hd => ?_, fun a W hb hkp hd => ?_, fun a W hb hkp hd => ?_, fun a W hb hkp hd => ?_, fun a W hb hkp hd => ?_, fun a W hb hkp hd => ?_, fun a W hb hkp hd => ?_, fun a W hb hkp hd => ?_, fun a W hb hkp hd => ?_, fun a W hb hkp hd => ?_, fun a W hb hkp hd => ?_, fun a W hb hkp hd => ?_, fun a W hb hkp hd => ?_, fun a W hb hkp hd => ?_, fun a W hb hkp hd => ?_, fun a W hb hkp hd => ?_, fun a W hb hkp hd => ?_, trivial⟩
                  · have e0 : a.tmps[13]?.getD undef = .bool true := hkp.get (by kernel_rfl) rfl
                    exact rel_value rfl (.bool true) (by go_simp) rfl
                  · have e0 : a.tmps[85]?.getD undef = .bool true := (hd 0 (by kernel_rfl)).get 85 rfl rfl
                    exact rel_value rfl (.bool true) (by go_simp) rfl
                  · have e0 : a.tmps[15]?.getD undef = .bool true := hkp.get (by kernel_rfl) rfl
                    have eg : a.tmps[86]?.getD undef = .bool true := (hd 1 (by kernel_rfl)).get 86 rfl rfl
                    exact rel_value (wanted_at rfl rfl eg) (.bool true) (by go_simp) rfl
                  · have e0 : a.tmps[86]?.getD undef = .bool true := (hd 1 (by kernel_rfl)).get 86 rfl rfl
                    have e1 : a.tmps[87]?.getD undef = .bool true := (hd 2 (by kernel_rfl)).get 87 rfl rfl
                    exact rel_value rfl (.bool true) (by go_simp) rfl
                  · have e0 : a.tmps[88]?.getD undef = .bool true := (hd 3 (by kernel_rfl)).get 88 rfl rfl
                    exact rel_value rfl (.bool true) (by go_simp) rfl
                  · have e0 : a.tmps[5]?.getD undef = .pointer (some ⟨k.g, 0, none⟩) := hkp.get (by kernel_rfl) rfl
                    have eg : a.tmps[89]?.getD undef = .bool true := (hd 4 (by kernel_rfl)).get 89 rfl rfl
                    exact rel_value (wanted_at rfl rfl eg) (.pointer (some ⟨k.g, 0, none⟩)) (by go_simp) rfl
                  · have e0 : a.tmps[90]?.getD undef = .pointer (some ⟨k.g, 0, none⟩) := (hd 5 (by kernel_rfl)).get 90 rfl rfl
                    have eg : a.tmps[89]?.getD undef = .bool true := (hd 4 (by kernel_rfl)).get 89 rfl rfl
                    exact rel_call (wanted_at rfl rfl eg) 31 #[.pointer (some ⟨k.g, 0, none⟩)] (by go_simp) ((HCL.out W hb).mono fun e w h => ⟨_, h.1, h.2, rfl⟩)
                  · have e0 : a.tmps[91]?.getD undef = .bool false := (hd 6 (by kernel_rfl)).get 91 rfl rfl
                    have eg : a.tmps[89]?.getD undef = .bool true := (hd 4 (by kernel_rfl)).get 89 rfl rfl
                    exact rel_value (wanted_at rfl rfl eg) (.bool false) (by go_simp) rfl
                  · have e0 : a.eval (.tmp 12) = .pointer (some ⟨g12, 0, none⟩) := hkp.at_ (by kernel_rfl)
                    have eg : a.tmps[92]?.getD undef = .bool false := (hd 7 (by kernel_rfl)).get 92 rfl rfl
                    exact rel_value (wanted_at rfl rfl eg) (.agg D) (exec_load_part 56 (.tmp 12) rfl g12 0 32 e0 56 _ D _ (K12.out.below' hb) Tryz.underlying56 rfl rfl HDS.out (fun _ _ => by rw [Nat.zero_add])) rfl
                  · have e0 : a.eval (.tmp 14) = .pointer (some ⟨g14, 0, none⟩) := hkp.at_ (by kernel_rfl)
                    have eg : a.tmps[92]?.getD undef = .bool false := (hd 7 (by kernel_rfl)).get 92 rfl rfl
                    exact rel_value (wanted_at rfl rfl eg) (.agg D2) (exec_load_part 56 (.tmp 14) rfl g14 0 32 e0 56 _ D2 _ (K14.out.below' hb) Tryz.underlying56 rfl rfl HDS2.out (fun _ _ => by rw [Nat.zero_add])) rfl
                  · have e0 : a.eval (.tmp 93) = .agg D := (hd 8 (by kernel_rfl)) _ 93 rfl rfl
                    have e1 : a.eval (.tmp 94) = .agg D2 := (hd 9 (by kernel_rfl)) _ 94 rfl rfl
                    have eg : a.tmps[92]?.getD undef = .bool false := (hd 7 (by kernel_rfl)).get 92 rfl rfl
                    exact rel_value (wanted_at rfl rfl eg) (.bool bq) (exec_eql_agg 56 (.tmp 93) (.tmp 94) _ rfl D D2 e0 e1 eqg_digest _ (HEQ.out W)) rfl
                  · have e0 : a.tmps[6]?.getD undef = .pointer (some ⟨Va.g, 0, none⟩) := hkp.get (by kernel_rfl) rfl
                    have eg : a.tmps[92]?.getD undef = .bool false := (hd 7 (by kernel_rfl)).get 92 rfl rfl
                    exact rel_value (wanted_at rfl rfl eg) (.pointer (some ⟨Va.g, 0, none⟩)) (by go_simp) rfl
                  · have e0 : a.tmps[96]?.getD undef = .pointer (some ⟨Va.g, 0, none⟩) := (hd 11 (by kernel_rfl)).get 96 rfl rfl
                    have eg : a.tmps[92]?.getD undef = .bool false := (hd 7 (by kernel_rfl)).get 92 rfl rfl
                    refine rel_call (wanted_at rfl rfl eg) 21 #[.pointer (some ⟨Va.g, 0, none⟩)] (by go_simp) ((HLVA.out W hb).mono ?_)
                    rintro e w ⟨v, vs, rfl, ho, hb'⟩
                    obtain ⟨A, c, h1, _, _, h4, _⟩ := ho.slice
                    rw [leavesV_len] at h1 h4
                    exact ⟨v, rfl, hb', A, c, h1, h4⟩
                  · have e0 : a.tmps[8]?.getD undef = .pointer (some ⟨Vb.g, 0, none⟩) := hkp.get (by kernel_rfl) rfl
                    have eg : a.tmps[92]?.getD undef = .bool false := (hd 7 (by kernel_rfl)).get 92 rfl rfl
                    exact rel_value (wanted_at rfl rfl eg) (.pointer (some ⟨Vb.g, 0, none⟩)) (by go_simp) rfl
                  · have e0 : a.tmps[98]?.getD undef = .pointer (some ⟨Vb.g, 0, none⟩) := (hd 13 (by kernel_rfl)).get 98 rfl rfl
                    have eg : a.tmps[92]?.getD undef = .bool false := (hd 7 (by kernel_rfl)).get 92 rfl rfl
                    refine rel_call (wanted_at rfl rfl eg) 21 #[.pointer (some ⟨Vb.g, 0, none⟩)] (by go_simp) ((HLVB.out W hb).mono ?_)
                    rintro e w ⟨v, vs, rfl, ho, hb'⟩
                    obtain ⟨A, c, h1, _, _, h4, _⟩ := ho.slice
                    rw [leavesV_len] at h1 h4
                    exact ⟨v, rfl, hb', A, c, h1, h4⟩
                  · obtain ⟨Aa, ca, e1, r1⟩ := (hd 12 (by kernel_rfl)).get 97 rfl rfl
                    obtain ⟨Ab, cb, e2, r2⟩ := (hd 14 (by kernel_rfl)).get 99 rfl rfl
                    have eg : a.tmps[92]?.getD undef = .bool false := (hd 7 (by kernel_rfl)).get 92 rfl rfl
                    exact rel_call (wanted_at rfl rfl eg) 22 #[.slice Aa 13 ca, .slice Ab 13 cb] (by go_simp) ((sameLeaves_any Aa Ab 13 ca 13 cb (leavesV ma) (leavesV mb) W W.heap.size r1 r2 (Nat.le_refl _) (by omega) (by omega) HML.out HML2.out).mono fun e w h => ⟨.bool bq, by rw [h.1, HBQ.out], h.2, rfl⟩)
                  · have e0 : a.tmps[95]?.getD undef = .bool bq := (hd 10 (by kernel_rfl)).get 95 rfl rfl
                    have e1 : a.tmps[100]?.getD undef = .bool bq := (hd 15 (by kernel_rfl)).get 100 rfl rfl
                    have eg : a.tmps[92]?.getD undef = .bool false := (hd 7 (by kernel_rfl)).get 92 rfl rfl
                    exact rel_value (wanted_at rfl rfl eg) (.bool true) (by go_simp) rfl
                  · have e0 : a.tmps[92]?.getD undef = .bool false := (hd 7 (by kernel_rfl)).get 92 rfl rfl
                    have e1 : a.tmps[101]?.getD undef = .bool true := (hd 16 (by kernel_rfl)).get 101 rfl rfl
                    have eg : a.tmps[89]?.getD undef = .bool true := (hd 4 (by kernel_rfl)).get 89 rfl rfl
                    exact rel_value (wanted_at rfl rfl eg) (.bool true) (by go_simp) rfl
                  · have e0 : a.tmps[89]?.getD undef = .bool true := (hd 4 (by kernel_rfl)).get 89 rfl rfl
                    have e1 : a.tmps[102]?.getD undef = .bool true := (hd 17 (by kernel_rfl)).get 102 rfl rfl
                    exact rel_value rfl (.bool true) (by go_simp) rfl
                intro f W hbW hd
                have f103 : f 103 = .bool true := hd 18 (by omega) _ 103 rfl rfl
                have HLW := Lib.hid (HL11.out.low.trans (hbW.mono HL11.out.low.size))
                clear hd hbW
                simp only [putAll, List.drop_succ_cons, List.drop_zero, f103]
                try simp only [Act.put, List.setIfInBounds_toArray, List.set_cons_zero, List.set_cons_succ]
                go_wp2_with fail
                go_ret
                exact ⟨rfl, HLW.out⟩

end Go.Proofs.YtfjopbbgcjgpbaaGreat
