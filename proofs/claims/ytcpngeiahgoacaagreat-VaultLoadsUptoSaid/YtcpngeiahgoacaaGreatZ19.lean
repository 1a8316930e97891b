/- Parts of the proof, in one text: RvC, VaultI, VaultP. -/
import Derived.Test.YtcpngeiahgoacaaGreatZ18
import Derived.Test.YtcpngeiahgoacaaGreatZ13
import Derived.Test.YtcpngeiahgoacaaGreatZ14

/- the document's vault: Leaves. -/
namespace Go.Proofs.YtcpngeiahgoacaaGreat
set_option linter.unusedVariables false
set_option linter.unusedSimpArgs false
open Go.RowKit Go.Maps

attribute [local irreducible] wpList wpCalm

set_option maxRecDepth 100000 in
set_option maxHeartbeats 4000000 in
theorem rLeaves_any (w : World) (g : Nat) (m : VM) (S : RVs) (h : RVAt w g m S) :
    Calls Tryz.prog 71 #[.pointer (some ⟨g, 0, none⟩)] w (LvPost w m) := by
  have H := Lib.hid h
  have hlen := leavesV_len m
  have HLN := Lib.hid hlen
  obtain ⟨i0, hi0, hz0, hz1, hz2⟩ := info_parts sl8_info
  obtain ⟨j0, hj0, hy0, hy1, hy2⟩ := info_parts u8_info
  clear h hlen
  go_enter Tryz.func71, Tryz.ntmps71
  go_wp2_with fail
  go_loopw [3, 4] (fun ov iv wr => ∃ (i : Nat) (vs : List Value), i ≤ 8 ∧ iv = .int .i64 i ∧ OwnL wr w.heap.size ov ((leavesV m).take i) vs ∧ Below w.heap.size w wr) (fun _ iv _ => 8 - (intOf iv).toNat)
  case atStart => exact ⟨0, [], by omega, rfl, OwnL.nil _ _, Below.refl _ _⟩
  case round =>
    obtain ⟨i, vs, hi, rfl, hov, hbel⟩ := hrel
    have HOV := Lib.hid hov
    have HB := Lib.hid hbel
    have hsz := hbel.size
    obtain ⟨wo, hwo⟩ : ∃ x, x = wr := ⟨_, rfl⟩
    rw [← hwo] at HOV HB hsz ⊢
    clear hov hbel hwo
    by_cases hin : i < 8
    · have hinI : (i : Int) < 8 := by omega
      have htl : ((leavesV m).take i).length = i := by rw [List.length_take, HLN.out]; omega
      have HTL := Lib.hid htl
      have htk : (leavesV m).take (i + 1) = (leavesV m).take i ++ [blockV m i] := by
        rw [leavesV_take m i (by omega)]; unfold leafV; rw [if_pos hin]
      have HTK := Lib.hid htk
      have HBL := Lib.hid (H.out.ok.block_len i hin)
      have HBY := Lib.hid (fun (k : Nat) (hk : k < 16) (W : World) (hb : Below w.heap.size w W) => (H.out.below hb).byte i k hin hk)
      clear htl htk
      generalize blockV m i = x at HBL HBY HTK
      go_wp2_with fail
      go_loopw [5, 6] (fun bv kv wr => ∃ k : Nat, k ≤ 16 ∧ kv = .int .i64 k ∧ OwnB wr wo.heap.size bv (x.take k) ∧ Below wo.heap.size wo wr) (fun _ kv _ => 16 - (intOf kv).toNat)
      case atStart => exact ⟨0, by omega, rfl, OwnB.nil _ _, Below.refl _ _⟩
      case round =>
        obtain ⟨k, hk, rfl, hbv, hbk⟩ := hrel
        have HBV := Lib.hid hbv
        have HBK := Lib.hid hbk
        have hsk := hbk.size
        by_cases hkn : k < 16
        · have hkI : (k : Int) < 16 := by omega
          have hkl : k < x.length := by have := HBL.out; omega
          have hcl := HBY.out k hkn wr (HB.out.trans (hbk.mono hsz))
          have hnext : x.take (k + 1) = x.take k ++ [x[k]] := List.take_succ_eq_append_getElem hkl
          have hlx : (x.take k).length = k := by rw [List.length_take]; omega
          rw [List.getD_eq_getElem?_getD, List.getElem?_eq_getElem hkl, Option.getD_some] at hcl
          generalize x[k] = u at hcl hnext
          unfold vb at hcl
          generalize hxc : x.take k = xc at hnext hlx HBV
          have HNX := Lib.hid hnext
          have HLX := Lib.hid hlx
          have HWN := Lib.hid (show wr.ownsRow wo.heap.size 5 1 _ xc.length (xc.map vb) from HBV.out)
          have HR1 := Lib.hid (reads_u8 wr u)
          clear hnext hlx hxc hbv hbk
          go_wp2_with (at_builtin; go_must (refine wpList_append_any _ rfl (.tmp 20) (.tmp 29) 22 rfl wo.heap.size 5 j0 _ 1 1 Tryz.underlying22 hj0 hy0 hy1 hy2 rfl (by omega) _ _ _ rfl (HWN.out.alloc _) (wr.heap.size + 1) (some ⟨wr.heap.size, 0, none⟩) 1 1 [.int .u8 (u.toNat : Int)] rfl HR1.out (by simp [Value.oneCell']) ?c1 ?c2 ?c3 ?_))
          case c1 => have := HLX.out; unfold maxLen; omega
          case c2 => have := HLX.out; omega
          case c3 => simp; omega
          intro v3 w3 hown3 hg3 hor3
          have hb3 := grown_below (HBK.out.trans ((below_lit wr (.cells #[vb u] 5)).mono hsk)) (by simp; omega) hg3 (fun b hb => HBV.out.ge hb)
          have HB3 := Lib.hid hb3
          have HO3 := Lib.hid (show OwnB w3 wo.heap.size v3 (x.take (k + 1)) by
            unfold OwnB
            rw [HNX.out, List.length_append, List.map_append, List.length_singleton, List.map_singleton]
            exact hown3)
          clear hb3 hown3 hg3 hor3
          go_wp2_with fail
          go_roundw
          case rel => exact ⟨k + 1, by omega, by go_num, HO3.out, HB3.out⟩
          case measure => simp [intOf]; omega
        · obtain rfl : k = 16 := by omega
          have hkI : ¬ ((16 : Nat) : Int) < 16 := by omega
          rw [List.take_of_length_le (by have := HBL.out; omega)] at HBV
          obtain ⟨Au, cu, hue, _⟩ := own_slice_b HBV.out
          subst hue
          obtain ⟨nu, hnu⟩ : ∃ k, k = x.length := ⟨_, rfl⟩
          rw [← hnu] at HBV ⊢
          obtain ⟨u, hu0⟩ : ∃ u, u = Value.slice Au nu cu := ⟨_, rfl⟩
          rw [← hu0] at HBV
          have HU := Lib.hid (HBV.out.more hsz)
          have HR3 := Lib.hid (reads_cells wr #[u] 22)
          have HU0 := Lib.hid hu0
          have HW := Lib.hid (show (wr.alloc (.cells #[u] 22)).ownsRow w.heap.size 22 1 _ i vs from by
            have := (rowD_keep HOV.out.row (w' := wr) fun b hb'' => HBK.out.block b (rowD_lt HOV.out.row hb'').2).alloc (.cells #[u] 22)
            rw [HTL.out] at this
            exact this)
          rw [hu0] at HW HR3
          clear hnu hu0 hbv hbk
          go_wp2_with (at_builtin; go_must (refine wpList_append_any _ rfl (.tmp 31) (.tmp 33) 23 rfl w.heap.size 22 i0 _ 1 24 Tryz.underlying23 hi0 hz0 hz1 hz2 rfl (by omega) _ i vs rfl HW.out (wr.heap.size + 1) (some ⟨wr.heap.size, 0, none⟩) 1 1 [.slice Au nu cu] rfl HR3.out ?c1 ?c2 ?c3 ?c4 ?_))
          case c1 => first | rfl | (intro z hz; rw [List.mem_singleton] at hz; subst hz; rfl)
          case c2 => unfold maxLen; omega
          case c3 => omega
          case c4 => first | omega | (simp; omega)
          intro v6 w6 hown6 hg6 hor6
          rw [← HU0.out] at hown6 hg6
          have ho6 : OwnL w6 w.heap.size v6 ((leavesV m).take (i + 1)) (vs ++ [u]) := by
            rw [HTK.out]
            exact HOV.out.push HBK.out HU.out (by rw [HTL.out]; exact hown6) hg6
          have hb6 : Below w.heap.size w w6 := grown_below ((HB.out.trans (HBK.out.mono hsz)).trans ((below_lit wr (.cells #[u] 22)).mono (by omega))) (by simp; omega) hg6 (fun b hb => (rowD_lt HOV.out.row hb).1)
          have HO6 := Lib.hid ho6
          have HB6 := Lib.hid hb6
          clear hown6 hg6 hor6 ho6 hb6
          go_wp2_with fail
          go_roundw
          case rel => exact ⟨i + 1, _, by omega, by go_num, HO6.out, HB6.out⟩
          case measure => simp [intOf]; omega
    · obtain rfl : i = 8 := by omega
      have hinI : ¬ ((8 : Nat) : Int) < 8 := by omega
      go_wp2_with fail
      rw [show (8 : Nat) = 8 + 0 by rfl] at HOV
      go_loopw [3, 7] (fun ov iv wr => ∃ (i : Nat) (vs : List Value), i ≤ 4 ∧ iv = .int .i64 i ∧ OwnL wr w.heap.size ov ((leavesV m).take (8 + i)) vs ∧ Below w.heap.size w wr) (fun _ iv _ => 4 - (intOf iv).toNat)
      case atStart => exact ⟨0, vs, by omega, rfl, HOV.out, HB.out⟩
      clear HOV HB hsz
      case round =>
        obtain ⟨i, vs, hi, rfl, hov, hbel⟩ := hrel
        have HOV := Lib.hid hov
        have HB := Lib.hid hbel
        have hsz := hbel.size
        by_cases hin : i < 4
        · have hinI : (i : Int) < 4 := by omega
          have htl : ((leavesV m).take (8 + i)).length = 8 + i := by rw [List.length_take, HLN.out]; omega
          have HTL := Lib.hid htl
          have htk : (leavesV m).take (8 + (i + 1)) = (leavesV m).take (8 + i) ++ [lastB (lastV m i)] := by
            rw [show 8 + (i + 1) = 8 + i + 1 by omega, leavesV_take m (8 + i) (by omega)]
            unfold leafV
            rw [if_neg (by omega), if_pos (by omega), show 8 + i - 8 = i by omega]
          have HTK := Lib.hid htk
          have hst := (H.out.below hbel).stamp i hin
          have hdt := (H.out.below hbel).dat i hin
          have hmem : lastV m i ∈ m.last := by
            have := H.out.ok.last
            unfold lastV
            rw [List.getD_eq_getElem?_getD, List.getElem?_eq_getElem (by omega)]
            exact List.getElem_mem _
          have hso := H.out.ok.stamp _ hmem
          have HNUM := Lib.hid (fun (W : World) => rnum_any (lastV m i).1 hso.1 W)
          have hdl : (lastV m i).2.length ≤ 16 := by rcases hso.2 with e | e; · rw [e]; simp
                                                     · omega
          have HSTR := Lib.hid (refStr_any (S.dA i) (lastV m i).2.length (S.dC i) (lastV m i).2 wr wr.heap.size ((H.out.below hbel).data i hin).1 (Nat.le_refl _) (by omega))
          have HST := Lib.hid (fun (W : World) (hb : Below w.heap.size w W) => (H.out.below hb).stamp i hin)
          have hnl := (numB_len hso.1).2
          have hsl : (strB (lastV m i).2).length ≤ 30 := by
            have := (numB_len (n := (lastV m i).2.length) (by unfold maxN; omega)).2
            unfold strB; rw [List.length_append]; omega
          have HLB := Lib.hid (show lastB (lastV m i) = numB (lastV m i).1 ++ strB (lastV m i).2 from rfl)
          generalize lastB (lastV m i) = x at HTK HLB
          generalize (lastV m i).1 = st at hst HNUM HST hnl HLB
          generalize (lastV m i).2 = dt at hdt hdl HSTR hsl HLB
          clear hov htl htk hmem hso hst
          go_wp2_with fail
          refine HSTR.out.mono ?_
          rintro _ w3 ⟨u1, rfl, hu1, hb3⟩
          have hst3 := HST.out w3 (hbel.trans (hb3.mono hsz))
          have HB3 := Lib.hid hb3
          have HU1 := Lib.hid hu1
          have HN3 := Lib.hid (HNUM.out w3)
          have hs3 := hb3.size
          clear hb3 hu1 HSTR HNUM hdt hbel
          go_wp2_with fail
          refine HN3.out.mono ?_
          rintro _ w4 ⟨u2, rfl, hu2, hb4⟩
          have hs4 := hb4.size
          obtain ⟨A1, k1, e1, _, _, r1, _⟩ := own_slice_b (HU1.out.below hb4)
          obtain ⟨A2, k2, e2, _, _, r2, _⟩ := own_slice_b hu2
          subst e1 e2
          have hrow := rowsB_lit w4 22 [(A2, (numB st).length, k2, numB st), (A1, (strB dt).length, k1, strB dt)] (by
            intro p hp
            simp only [List.mem_cons, List.not_mem_nil, or_false] at hp
            rcases hp with rfl | rfl
            · exact r2
            · exact r1)
          simp only [List.map_cons, List.map_nil, List.length_cons, List.length_nil] at hrow
          have HJ := Lib.hid (refJoin_any _ 2 2 [numB st, strB dt] _ _ hrow (by simp) (by omega) (by simp only [List.flatten_cons, List.flatten_nil, List.length_append, List.length_nil]; omega))
          have HB4 := Lib.hid ((HB3.out.trans (hb4.mono hs3)).trans ((below_lit w4 (.cells #[.slice A2 (numB st).length k2, .slice A1 (strB dt).length k1] 22)).mono (by omega)))
          have hz4 : (w4.alloc (.cells #[.slice A2 (numB st).length k2, .slice A1 (strB dt).length k1] 22)).heap.size = w4.heap.size + 1 := by simp
          have HZ4 := Lib.hid hz4
          clear hu2 r1 r2 hrow hst3 HU1 HN3 hb4 hz4 HST
          go_wp2_with fail
          refine HJ.out.mono ?_
          rintro _ w5 ⟨u5, rfl, hu5, hb5⟩
          have hj : [numB st, strB dt].flatten = x := by rw [HLB.out]; simp
          rw [hj] at hu5
          have HB5 := Lib.hid (HB4.out.trans (hb5.mono (by have := HZ4.out; omega)))
          have hu5' := hu5.more (B' := w.heap.size) (by have := HZ4.out; omega)
          have hs5 := hb5.size
          have hs5' : w4.heap.size + 1 ≤ w5.heap.size := by have := HZ4.out; omega
          obtain ⟨Au, cu, hue, _⟩ := own_slice_b hu5'
          subst hue
          obtain ⟨nu, hnu⟩ : ∃ k, k = x.length := ⟨_, rfl⟩
          rw [← hnu] at hu5' ⊢
          obtain ⟨u, hu0⟩ : ∃ u, u = Value.slice Au nu cu := ⟨_, rfl⟩
          rw [← hu0] at hu5'
          have HU := Lib.hid hu5'
          have HR5 := Lib.hid (reads_cells w5 #[u] 22)
          have HU0 := Lib.hid hu0
          have HW := Lib.hid (show (w5.alloc (.cells #[u] 22)).ownsRow w.heap.size 22 1 _ (8 + i) vs from by
            have := (rowD_keep HOV.out.row (w' := w5) fun b hb'' => HB5.out.block b (rowD_lt HOV.out.row hb'').2).alloc (.cells #[u] 22)
            rw [HTL.out] at this
            exact this)
          rw [hu0] at HW HR5
          clear hnu hu0 hu5 hu5' hb5 hs5 HJ hj
          go_wp2_with (at_builtin; go_must (refine wpList_append_any _ rfl (.tmp 49) (.tmp 60) 23 rfl w.heap.size 22 i0 _ 1 24 Tryz.underlying23 hi0 hz0 hz1 hz2 rfl (by omega) _ (8 + i) vs rfl HW.out (w5.heap.size + 1) (some ⟨w5.heap.size, 0, none⟩) 1 1 [.slice Au nu cu] rfl HR5.out ?c1 ?c2 ?c3 ?c4 ?_))
          case c1 => first | rfl | (intro z hz; rw [List.mem_singleton] at hz; subst hz; rfl)
          case c2 => unfold maxLen; omega
          case c3 => omega
          case c4 => first | omega | (simp; omega)
          intro v6 w6 hown6 hg6 hor6
          rw [← HU0.out] at hown6 hg6
          have ho6 : OwnL w6 w.heap.size v6 ((leavesV m).take (8 + (i + 1))) (vs ++ [u]) := by
            rw [HTK.out]
            exact HOV.out.push HB5.out HU.out (by rw [HTL.out]; exact hown6) hg6
          have hb6 : Below w.heap.size w w6 := grown_below ((HB.out.trans (HB5.out.mono hsz)).trans ((below_lit w5 (.cells #[u] 22)).mono (by omega))) (by simp; omega) hg6 (fun b hb => (rowD_lt HOV.out.row hb).1)
          have HO6 := Lib.hid ho6
          have HB6 := Lib.hid hb6
          clear hown6 hg6 hor6 ho6 hb6
          go_wp2_with fail
          go_roundw
          case rel => exact ⟨i + 1, _, by omega, by go_num, HO6.out, HB6.out⟩
          case measure => simp [intOf]; omega
        · obtain rfl : i = 4 := by omega
          have hinI : ¬ ((4 : Nat) : Int) < 4 := by omega
          clear hov hbel
          have hsn := H.out.ok.sealNum
          have hgn : m.group ≤ maxN := by have := H.out.ok.group; unfold maxN; omega
          have hen : m.epoch ≤ maxN := by have := H.out.ok.epoch; unfold maxN; omega
          have hln : m.shut.length ≤ maxN := by have := hsn.2; unfold maxN; omega
          have HS := Lib.hid hsn
          have hl7 := hsn.2
          have hg8 := (numB_len hgn).2
          have he8 := (numB_len hen).2
          have hl8 := (numB_len hln).2
          clear hsn
          obtain ⟨wo, hwo⟩ : ∃ x, x = wr := ⟨_, rfl⟩
          rw [← hwo] at HOV HB hsz ⊢
          clear hwo
          go_upto_region 16 with fail
          refine wp_region_rel' 18 103 (fun jx W v => match jx with
            | 0 => v = .pointer (some ⟨g, 0, none⟩)
            | 1 => v = .pointer (some ⟨g, 0, none⟩)
            | 2 => v = .pointer (some ⟨g, 0, none⟩)
            | 3 => v = .int .i64 (m.group : Int)
            | 4 => OwnB W wo.heap.size v (numB m.group)
            | 5 => v = .pointer (some ⟨g, 0, none⟩)
            | 6 => v = .pointer (some ⟨g, 0, none⟩)
            | 7 => v = .pointer (some ⟨g, 1, none⟩)
            | 8 => v = .int .i64 (m.epoch : Int)
            | 9 => OwnB W wo.heap.size v (numB m.epoch)
            | 10 => v = .pointer (some ⟨g, 0, none⟩)
            | 11 => v = .pointer (some ⟨g, 0, none⟩)
            | 12 => v = .pointer (some ⟨g, 138, none⟩)
            | 13 => v = .slice S.sA m.shut.length S.sC
            | 14 => v = .int .i64 (m.shut.length : Int)
            | 15 => OwnB W wo.heap.size v (numB m.shut.length)
            | 16 => ∃ g', v = .slice (some ⟨g', 0, none⟩) 3 3 ∧ RowsB W W.heap.size (some ⟨g', 0, none⟩) 3 [numB m.group, numB m.epoch, numB m.shut.length]
            | _ => OwnB W wo.heap.size v ([numB m.group, numB m.epoch, numB m.shut.length].flatten)) [62, 63, 64, 65, 66, 67, 68, 69, 70, 71, 72, 73, 74, 75, 76, 77, 78, 79] (by kernel_rfl) (by kernel_rfl) (by kernel_rfl) (by simp) (by kernel_rfl) (fun jx => ?last) ?heads ?_
          case last =>
            match jx with
            | 0 | 1 | 2 | 3 | 5 | 6 | 7 | 8 | 10 | 11 | 12 | 13 | 14 => exact Lasts.pure _
            | 4 => exact lasts_own _ _
            | 9 => exact lasts_own _ _
            | 15 => exact lasts_own _ _
            | 16 => exact lasts_rows _ _
            | jx + 17 => exact lasts_own _ _
          case heads =>
            simp only [List.take_succ_cons, List.take_zero]
            refine ⟨fun a W hb hkp hd => ?_, fun a W hb hkp hd => ?_, fun a W hb hkp hd => ?_, fun a W hb hkp hd => ?_, fun a W hb hkp hd => ?_, fun a W hb hkp hd => ?_, fun a W hb hkp hd => ?_, fun a W hb hkp hd => ?_, fun a W hb hkp hd => ?_, fun a W hb hkp hd => ?_, fun a W hb hkp hd => ?_, fun a W hb hkp hd => ?_, fun a W hb hkp hd => ?_, fun a W hb hkp hd => ?_, fun a W hb hkp hd => ?_, fun a W hb hkp hd => ?_, fun a W hb hkp hd => ?_, fun a W hb hkp hd => ?_, trivial⟩
            · have e0 : a.tmps[0]?.getD undef = .pointer (some ⟨g, 0, none⟩) := hkp.get (by kernel_rfl) rfl
              exact rel_value rfl (.pointer (some ⟨g, 0, none⟩)) (by go_simp) rfl
            · have e0 : a.tmps[62]?.getD undef = .pointer (some ⟨g, 0, none⟩) := (hd 0 (by kernel_rfl)).get 62 rfl rfl
              exact rel_value rfl (.pointer (some ⟨g, 0, none⟩)) (by go_simp) rfl
            · have e0 : a.tmps[63]?.getD undef = .pointer (some ⟨g, 0, none⟩) := (hd 1 (by kernel_rfl)).get 63 rfl rfl
              exact rel_value rfl (.pointer (some ⟨g, 0, none⟩)) (by go_simp) rfl
            · have e0 : a.tmps[64]?.getD undef = .pointer (some ⟨g, 0, none⟩) := (hd 2 (by kernel_rfl)).get 64 rfl rfl
              have cc := (H.out.below (HB.out.trans (hb.mono hsz))).group
              exact rel_value rfl (.int .i64 (m.group : Int)) (by go_simp) rfl
            · have e0 : a.tmps[65]?.getD undef = .int .i64 (m.group : Int) := (hd 3 (by kernel_rfl)).get 65 rfl rfl
              refine rel_call rfl 123 #[.int .i64 (m.group : Int)] (by go_simp) ((rnum_any (m.group) hgn W).mono ?_)
              rintro e w' ⟨v, rfl, ho, hb'⟩
              exact ⟨v, rfl, hb', ho.more hb.size⟩
            · have e0 : a.tmps[0]?.getD undef = .pointer (some ⟨g, 0, none⟩) := hkp.get (by kernel_rfl) rfl
              exact rel_value rfl (.pointer (some ⟨g, 0, none⟩)) (by go_simp) rfl
            · have e0 : a.tmps[67]?.getD undef = .pointer (some ⟨g, 0, none⟩) := (hd 5 (by kernel_rfl)).get 67 rfl rfl
              exact rel_value rfl (.pointer (some ⟨g, 0, none⟩)) (by go_simp) rfl
            · have e0 : a.tmps[68]?.getD undef = .pointer (some ⟨g, 0, none⟩) := (hd 6 (by kernel_rfl)).get 68 rfl rfl
              exact rel_value rfl (.pointer (some ⟨g, 1, none⟩)) (by go_simp) rfl
            · have e0 : a.tmps[69]?.getD undef = .pointer (some ⟨g, 1, none⟩) := (hd 7 (by kernel_rfl)).get 69 rfl rfl
              have cc := (H.out.below (HB.out.trans (hb.mono hsz))).epoch
              exact rel_value rfl (.int .i64 (m.epoch : Int)) (by go_simp) rfl
            · have e0 : a.tmps[70]?.getD undef = .int .i64 (m.epoch : Int) := (hd 8 (by kernel_rfl)).get 70 rfl rfl
              refine rel_call rfl 123 #[.int .i64 (m.epoch : Int)] (by go_simp) ((rnum_any (m.epoch) hen W).mono ?_)
              rintro e w' ⟨v, rfl, ho, hb'⟩
              exact ⟨v, rfl, hb', ho.more hb.size⟩
            · have e0 : a.tmps[0]?.getD undef = .pointer (some ⟨g, 0, none⟩) := hkp.get (by kernel_rfl) rfl
              exact rel_value rfl (.pointer (some ⟨g, 0, none⟩)) (by go_simp) rfl
            · have e0 : a.tmps[72]?.getD undef = .pointer (some ⟨g, 0, none⟩) := (hd 10 (by kernel_rfl)).get 72 rfl rfl
              exact rel_value rfl (.pointer (some ⟨g, 0, none⟩)) (by go_simp) rfl
            · have e0 : a.tmps[73]?.getD undef = .pointer (some ⟨g, 0, none⟩) := (hd 11 (by kernel_rfl)).get 73 rfl rfl
              exact rel_value rfl (.pointer (some ⟨g, 138, none⟩)) (by go_simp) rfl
            · have e0 : a.tmps[74]?.getD undef = .pointer (some ⟨g, 138, none⟩) := (hd 12 (by kernel_rfl)).get 74 rfl rfl
              have cc := (H.out.below (HB.out.trans (hb.mono hsz))).shut
              exact rel_value rfl (.slice S.sA m.shut.length S.sC) (by go_simp) rfl
            · have e0 : a.tmps[75]?.getD undef = .slice S.sA m.shut.length S.sC := (hd 13 (by kernel_rfl)).get 75 rfl rfl
              exact rel_value rfl (.int .i64 (m.shut.length : Int)) (by go_simp) rfl
            · have e0 : a.tmps[76]?.getD undef = .int .i64 (m.shut.length : Int) := (hd 14 (by kernel_rfl)).get 76 rfl rfl
              refine rel_call rfl 123 #[.int .i64 (m.shut.length : Int)] (by go_simp) ((rnum_any (m.shut.length) hln W).mono ?_)
              rintro e w' ⟨v, rfl, ho, hb'⟩
              exact ⟨v, rfl, hb', ho.more hb.size⟩
            · have o1 : OwnB W wo.heap.size (a.tmps[66]?.getD undef) (numB m.group) := (hd 4 (by kernel_rfl)).get 66 rfl rfl
              have o2 : OwnB W wo.heap.size (a.tmps[71]?.getD undef) (numB m.epoch) := (hd 9 (by kernel_rfl)).get 71 rfl rfl
              have o3 : OwnB W wo.heap.size (a.tmps[77]?.getD undef) (numB m.shut.length) := (hd 15 (by kernel_rfl)).get 77 rfl rfl
              obtain ⟨A1, k1, e1, _, _, r1, _⟩ := own_slice_b o1
              obtain ⟨A2, k2, e2, _, _, r2, _⟩ := own_slice_b o2
              obtain ⟨A3, k3, e3, _, _, r3, _⟩ := own_slice_b o3
              have hrow := rowsB_lit W 22 [(A1, (numB m.group).length, k1, numB m.group), (A2, (numB m.epoch).length, k2, numB m.epoch), (A3, (numB m.shut.length).length, k3, numB m.shut.length)] (by
                intro p hp
                simp only [List.mem_cons, List.not_mem_nil, or_false] at hp
                rcases hp with rfl | rfl | rfl
                · exact r1
                · exact r2
                · exact r3)
              simp only [List.map_cons, List.map_nil, List.length_cons, List.length_nil] at hrow
              clear o1 o2 o3 r1 r2 r3
              refine rel_exec rfl (.slice (some ⟨W.heap.size, 0, none⟩) 3 3) (W.alloc (.cells #[.slice A1 (numB m.group).length k1, .slice A2 (numB m.epoch).length k2, .slice A3 (numB m.shut.length).length k3] 22)) (by go_simp) ((Below.refl _ _).alloc (Nat.le_refl _) _) ⟨W.heap.size, rfl, ?_⟩
              have hz : (W.alloc (.cells #[.slice A1 (numB m.group).length k1, .slice A2 (numB m.epoch).length k2, .slice A3 (numB m.shut.length).length k3] 22)).heap.size = W.heap.size + 1 := by simp
              rw [hz]
              exact hrow
            · obtain ⟨g', e0, hr⟩ : ∃ g', a.tmps[78]?.getD undef = .slice (some ⟨g', 0, none⟩) 3 3 ∧ RowsB W W.heap.size (some ⟨g', 0, none⟩) 3 [numB m.group, numB m.epoch, numB m.shut.length] := (hd 16 (by kernel_rfl)).get 78 rfl rfl
              refine rel_call rfl 122 #[.slice (some ⟨g', 0, none⟩) 3 3] (by go_simp) ((refJoin_any _ 3 3 _ W _ hr (Nat.le_refl _) (by omega) (by simp only [List.flatten_cons, List.flatten_nil, List.length_append, List.length_nil]; omega)).mono ?_)
              rintro e w' ⟨v, rfl, ho, hb'⟩
              exact ⟨v, rfl, hb', ho.more hb.size⟩
          intro f W hb hd
          have h79 : OwnB W wo.heap.size (f 79) ([numB m.group, numB m.epoch, numB m.shut.length].flatten) := hd 17 (by omega) _ 79 rfl rfl
          have HO := Lib.hid (show OwnB W wo.heap.size (f 79) (numB m.group ++ numB m.epoch ++ numB m.shut.length ++ numsI (m.shut.take 0)) by simpa [numsI] using h79)
          have HBW := Lib.hid hb
          have hz := hb.size
          simp only [putAll, List.drop_succ_cons, List.drop_zero]
          clear hd h79 hb
          try simp only [Act.put, List.setIfInBounds_toArray, List.set_cons_zero, List.set_cons_succ]
          go_wp2_with fail
          have HF := Lib.hid (fun (W' : World) (hb' : Below w.heap.size w W') => H.out.below hb')
          obtain ⟨sl, hsl⟩ : ∃ sl, sl = m.shut := ⟨_, rfl⟩
          obtain ⟨pre, hpre⟩ : ∃ p, p = numB m.group ++ numB m.epoch ++ numB m.shut.length := ⟨_, rfl⟩
          have hpl : pre.length ≤ 24 := by rw [hpre]; simp only [List.length_append]; omega
          have HSB := Lib.hid (show sealB m = pre ++ numsI sl by rw [hpre, hsl]; rfl)
          rw [← hpre, ← hsl] at HO
          rw [← hsl] at HS hl7
          have HSL := Lib.hid hsl
          clear hsl hpre
          go_loopw [10, 11] (fun bv iv wr => ∃ i : Nat, i ≤ sl.length ∧ iv = .int .i64 i ∧ OwnB wr wo.heap.size bv (pre ++ numsI (sl.take i)) ∧ Below wo.heap.size wo wr) (fun _ iv _ => sl.length - (intOf iv).toNat)
          case atStart => exact ⟨0, by omega, rfl, HO.out, HBW.out⟩
          case round =>
            obtain ⟨i, hi, rfl, hbv, hbi⟩ := hrel
            have HBV := Lib.hid hbv
            have HBI := Lib.hid hbi
            have hsi := hbi.size
            have hWI : Below w.heap.size w wr := HB.out.trans (hbi.mono hsz)
            have hsh := (H.out.below hWI).shut
            have hrd := (H.out.below hWI).seal_.1
            rw [← HSL.out] at hsh hrd
            obtain ⟨sA, hsA⟩ : ∃ x, x = S.sA := ⟨_, rfl⟩
            rw [← hsA] at hsh hrd
            have HWI := Lib.hid hWI
            clear hbv hbi hsA hWI
            by_cases hin : i < sl.length
            · have hinI : (i : Int) < (sl.length : Int) := by omega
              obtain ⟨ad, hA, hadb, hcell⟩ := hrd.2 (by omega)
              have hcz := hcell i (vn sl[i]) (by rw [List.getElem?_map, List.getElem?_eq_getElem hin]; rfl)
              have hz0' := HS.out.1 sl[i] (List.getElem_mem hin)
              have htk : numsI (sl.take (i + 1)) = numsI (sl.take i) ++ numB sl[i].toNat := by
                unfold numsI
                rw [List.take_succ_eq_append_getElem hin, List.flatMap_append]
                simp only [List.flatMap_cons, List.flatMap_nil, List.append_nil]
              have hln := numsI_len (l := sl.take i) (fun z hz => HS.out.1 z (List.mem_of_mem_take hz))
              rw [List.length_take] at hln
              obtain ⟨z, hzz⟩ : ∃ z, z = sl[i].toNat := ⟨_, rfl⟩
              have hzi : sl[i] = (z : Int) := by unfold NumI at hz0'; omega
              have hzm : z ≤ maxN := by unfold NumI at hz0'; unfold maxN; omega
              rw [← hzz] at htk
              rw [hzi] at hcz
              have hcz' : wr.cell? (ad.add i) = some (.int .i64 (z : Int)) := hcz
              have HN := Lib.hid (rnum_any z hzm wr)
              have HTK := Lib.hid htk
              have hzl := (numB_len hzm).2
              subst hA
              clear hz0' htk hzz hzi hcell hcz hrd
              go_wp2_with fail
              refine HN.out.mono ?_
              rintro _ w5 ⟨v, rfl, ho5, hb5⟩
              obtain ⟨A5, k5, rfl, q1, q2, r5, q3⟩ := own_slice_b ho5
              have HB5 := Lib.hid (HBI.out.trans (hb5.mono hsi))
              have HO5 := Lib.hid (HBV.out.below hb5)
              have HWN := Lib.hid HO5.out.row
              have HR5 := Lib.hid r5
              have hs5 := hb5.size
              have hge := fun b (hb : (_ : Value).ownBlock = some b) => HO5.out.ge hb
              have HGE := Lib.hid hge
              obtain ⟨ob, hobe⟩ : ∃ ob, ob = pre ++ numsI (sl.take i) := ⟨_, rfl⟩
              obtain ⟨sb, hsbe⟩ : ∃ sb, sb = numB z := ⟨_, rfl⟩
              have hol : ob.length ≤ 100 := by rw [hobe, List.length_append]; omega
              rw [← hobe] at HWN
              rw [← hsbe] at HR5 hzl q1 ⊢
              have hnext : pre ++ numsI (sl.take (i + 1)) = ob ++ sb := by rw [HTK.out, hobe, hsbe, List.append_assoc]
              have HNX := Lib.hid hnext
              clear ho5 hb5 r5 hge hobe hsbe hnext hcz' HN HTK hsh
              go_wp2_with (at_builtin; go_must (refine wpList_append_any _ rfl (.tmp 89) (.tmp 97) 22 rfl wo.heap.size 5 j0 _ 1 1 Tryz.underlying22 hj0 hy0 hy1 hy2 rfl (by omega) _ _ _ rfl HWN.out w5.heap.size A5 sb.length k5 (sb.map vb) rfl HR5.out (by intro u hu; first | rfl | (obtain ⟨y, _, rfl⟩ := List.mem_map.1 hu; rfl)) (by unfold maxLen; omega) (by omega) (by omega) ?_))
              intro v6 w6 hown6 hg6 hor6
              have HB6 := Lib.hid (grown_below HB5.out (by omega) hg6 (fun b hb => HGE.out b hb))
              have HO6 := Lib.hid (show OwnB w6 wo.heap.size v6 (pre ++ numsI (sl.take (i + 1))) by
                unfold OwnB
                rw [HNX.out, List.length_append, List.map_append]
                exact hown6)
              clear hown6 hg6 hor6
              go_wp2_with fail
              go_roundw
              case rel => exact ⟨i + 1, by omega, by go_num, HO6.out, HB6.out⟩
              case measure => simp [intOf]; omega
            · obtain rfl : i = sl.length := by omega
              have hinI : ¬ (sl.length : Int) < (sl.length : Int) := by omega
              rw [List.take_of_length_le (Nat.le_refl _)] at HBV
              rw [← HSB.out] at HBV
              have htl : ((leavesV m).take (8 + 4)).length = 12 := by rw [List.length_take, HLN.out]; omega
              have HTL := Lib.hid htl
              have htk : leavesV m = (leavesV m).take (8 + 4) ++ [sealB m] := by
                have h12 := leavesV_take m 12 (by omega)
                rw [List.take_of_length_le (by rw [HLN.out]; omega)] at h12
                exact h12
              have HTK := Lib.hid htk
              clear htl htk
              generalize sealB m = x at HBV HTK
              obtain ⟨Au, cu, hue, _⟩ := own_slice_b HBV.out
              subst hue
              obtain ⟨nu, hnu⟩ : ∃ k, k = x.length := ⟨_, rfl⟩
              rw [← hnu] at HBV ⊢
              obtain ⟨u, hu0⟩ : ∃ u, u = Value.slice Au nu cu := ⟨_, rfl⟩
              rw [← hu0] at HBV
              have HU := Lib.hid (HBV.out.more hsz)
              have HR3 := Lib.hid (reads_cells wr #[u] 22)
              have HU0 := Lib.hid hu0
              have HW := Lib.hid (show (wr.alloc (.cells #[u] 22)).ownsRow w.heap.size 22 1 _ 12 vs from by
                have := (rowD_keep HOV.out.row (w' := wr) fun b hb'' => HBI.out.block b (rowD_lt HOV.out.row hb'').2).alloc (.cells #[u] 22)
                rw [HTL.out] at this
                exact this)
              rw [hu0] at HW HR3
              clear hnu hu0 hrd
              go_wp2_with (at_builtin; go_must (refine wpList_append_any _ rfl (.tmp 99) (.tmp 101) 23 rfl w.heap.size 22 i0 _ 1 24 Tryz.underlying23 hi0 hz0 hz1 hz2 rfl (by omega) _ 12 vs rfl HW.out (wr.heap.size + 1) (some ⟨wr.heap.size, 0, none⟩) 1 1 [.slice Au nu cu] rfl HR3.out ?c1 ?c2 ?c3 ?c4 ?_))
              case c1 => first | rfl | (intro z hz; rw [List.mem_singleton] at hz; subst hz; rfl)
              case c2 => unfold maxLen; omega
              case c4 => first | omega | (simp; omega)
              intro v6 w6 hown6 hg6 hor6
              rw [← HU0.out] at hown6 hg6
              have ho6 : OwnL w6 w.heap.size v6 (leavesV m) (vs ++ [u]) := by
                rw [HTK.out]
                exact HOV.out.push HBI.out HU.out (by rw [HTL.out]; exact hown6) hg6
              have hb6 : Below w.heap.size w w6 := grown_below (HWI.out.trans ((below_lit wr (.cells #[u] 22)).mono (by omega))) (by simp; omega) hg6 (fun b hb => (rowD_lt HOV.out.row hb).1)
              have HO6 := Lib.hid ho6
              have HB6 := Lib.hid hb6
              clear hown6 hg6 hor6 ho6 hb6
              go_wp2_with fail
              go_ret
              exact ⟨_, _, rfl, HO6.out, HB6.out⟩

end Go.Proofs.YtcpngeiahgoacaaGreat

/- Contract of a vault's New. -/
namespace Go.Proofs.YtcpngeiahgoacaaGreat
set_option linter.unusedVariables false
open Go.RowKit Go.Maps

def zer16 : List UInt8 := List.replicate 16 0
/-- a new vault, the first i blocks of which are made -/
def midV (q i : Nat) : VM := ⟨q, 0, List.replicate i zer16 ++ List.replicate (8 - i) [], List.replicate 4 (0, []), []⟩
theorem midV_end (q : Nat) : midV q 8 = newV q := by
  unfold midV newV zer16
  simp
theorem midV_block (q i j : Nat) (hi : i ≤ 8) : blockV (midV q i) j = if j < i then zer16 else [] := by
  unfold blockV midV
  simp only [List.getD_eq_getElem?_getD]
  by_cases h : j < i
  · rw [if_pos h, List.getElem?_append_left (by simpa using h), List.getElem?_replicate, if_pos h]; rfl
  · rw [if_neg h, List.getElem?_append_right (by simpa using h), List.getElem?_replicate]
    split <;> rfl
theorem midV_last (q i j : Nat) : lastV (midV q i) j = (0, []) := by
  unfold lastV midV
  simp only [List.getD_eq_getElem?_getD, List.getElem?_replicate]
  split <;> rfl
def midS (S : VSl) (i g : Nat) : VSl := ⟨fun j => if j = i then some ⟨g, 0, none⟩ else S.bA j, fun j => if j = i then 16 else S.bC j, S.lA, S.lC, S.sA, S.sC⟩
theorem vC_mid (q i g : Nat) (S : VSl) (hi : i < 8) : (vC none (midV q i) S).setIfInBounds (3 + i) (.slice (some ⟨g, 0, none⟩) 16 16) = vC none (midV q (i + 1)) (midS S i g) := by
  apply Array.ext_getElem?
  intro j
  rw [Array.getElem?_setIfInBounds, vC_size]
  rcases Nat.lt_or_ge j 20 with hj | hj
  · rw [vC_at _ _ _ _ hj, vC_at _ _ _ _ hj]
    by_cases h : 3 + i = j
    · subst h
      rw [if_pos rfl, if_pos hj]
      unfold vF
      rw [if_neg (by omega), if_neg (by omega), if_neg (by omega), if_pos (by omega), show 3 + i - 3 = i by omega, midV_block _ _ _ (by omega), if_pos (by omega)]
      simp [midS, zer16]
    · rw [if_neg h]
      unfold vF
      by_cases h0 : j = 0
      · rw [if_pos h0, if_pos h0]
      · rw [if_neg h0, if_neg h0]
        by_cases h1 : j = 1
        · rw [if_pos h1, if_pos h1]; rfl
        · rw [if_neg h1, if_neg h1]
          by_cases h2 : j = 2
          · rw [if_pos h2, if_pos h2]; rfl
          · rw [if_neg h2, if_neg h2]
            by_cases h11 : j < 11
            · rw [if_pos h11, if_pos h11, midV_block _ _ _ (by omega), midV_block _ _ _ (by omega)]
              have : (j - 3 < i) = (j - 3 < i + 1) := by
                apply propext
                omega
              simp only [midS, this, if_neg (show ¬ j - 3 = i by omega)]
            · rw [if_neg h11, if_neg h11]
              simp only [midV_last]
              rfl
  · rw [if_neg (by omega), Array.getElem?_eq_none (by rw [vC_size]; exact hj), Array.getElem?_eq_none (by rw [vC_size]; exact hj)]
def noS : VSl := ⟨fun _ => none, fun _ => 0, fun _ => none, fun _ => 0, none, 0⟩
theorem vC_new (q : Nat) : vC none (midV q 0) noS = #[.pointer none, .int .i64 (q : Int), .int .i64 0, .slice none 0 0, .slice none 0 0, .slice none 0 0, .slice none 0 0, .slice none 0 0, .slice none 0 0, .slice none 0 0, .slice none 0 0, .int .i64 0, .slice none 0 0, .int .i64 0, .slice none 0 0, .int .i64 0, .slice none 0 0, .int .i64 0, .slice none 0 0, .slice none 0 0] := by kernel_rfl
/-- how far New has come -/
structure NewSt (w wr : World) (g q i : Nat) (S : VSl) : Prop where
  blk : Blk wr g 73 (vC none (midV q i) S)
  block : ∀ j, j < i → ∃ g', S.bA j = some ⟨g', 0, none⟩ ∧ g < g' ∧ S.bC j = 16 ∧ Blk wr g' 5 (Array.replicate 16 (.int .u8 0))
  rest : S.lA = noS.lA ∧ S.lC = noS.lC ∧ S.sA = none ∧ S.sC = 0
  low : Below w.heap.size w wr
theorem zer16_row : (zer16.map vb) = (Array.replicate 16 (Value.int .u8 0)).toList := by kernel_rfl
theorem NewSt.done {w wr : World} {g q : Nat} {S : VSl} {k : Book} (h : NewSt w wr g q 8 S) (hg : w.heap.size ≤ g) (hk : k.g < w.heap.size ∧ k.b1 < w.heap.size ∧ k.b2 < w.heap.size) (hq : 1 ≤ q ∧ q ≤ 2) : VDat wr g none (fun b => b = g ∨ k.has b ∨ b < g) (newV q) S := by
  refine ⟨by rw [← midV_end]; exact h.blk, fun i hi => ?_, fun i hi => ?_, ?_, newV_ok q hq.1 hq.2⟩
  · obtain ⟨g', e1, e2, e3, e4⟩ := h.block i hi
    have hb : blockV (newV q) i = zer16 := by rw [← midV_end, midV_block _ _ _ (by omega), if_pos hi]
    rw [hb, e1, e3]
    refine ⟨?_, by simp [zer16, maxLen], fun a _ ha hn => ?_⟩
    · have := reads_blk e4 (n := 16) (by simp)
      rw [zer16_row]
      exact this
    · injection ha with ha
      subst ha
      rcases hn with e | (e | e | e) | e <;> simp only at e <;> omega
  · rw [← midV_end, midV_last, h.rest.1, h.rest.2.1]
    exact Far.nil _ _
  · rw [h.rest.2.2.1, h.rest.2.2.2]
    exact FarN.nil _ _

set_option maxRecDepth 100000 in
set_option maxHeartbeats 4000000 in
theorem vNew_any (k : Book) (L : List (List UInt8)) (asked q : Nat) (w : World) (hbk : BookAt w k L asked) (has : asked ≤ 600000) (hq : 1 ≤ q ∧ q ≤ 2) :
    Calls Tryz.prog 18 #[.pointer (some ⟨k.g, 0, none⟩), .int .i64 (q : Int)] w fun e w' => ∃ (g : Nat) (T : TreeLoc) (w1 : World), e = .returned (.tuple #[.pointer (some ⟨g, 0, none⟩), .int .i64 0]) ∧ w.heap.size ≤ g ∧ g < w1.heap.size ∧ Below w.heap.size w w1 ∧ MadeSt (fun b => b < g) w1 w' g T k L asked (newV q) 13 := by
  have hq1 : ¬ (q : Int) < 1 := by omega
  have hq2 : ¬ (2 : Int) < (q : Int) := by omega
  have hlt := hbk.lt
  have HBK := Lib.hid hbk
  obtain ⟨i0, hi0, hz0, hz1, hz2⟩ := info_parts u8_info
  have hVN := vC_new q
  have hX := below_lit w (.cells (vC none (midV q 0) noS) 73)
  have hk0 : Blk (w.alloc (.cells (vC none (midV q 0) noS) 73)) w.heap.size 73 (vC none (midV q 0) noS) := Blk.newAt rfl
  have hst : NewSt w (w.alloc (.cells (vC none (midV q 0) noS) 73)) w.heap.size q 0 noS := ⟨hk0, fun j hj => by omega, ⟨rfl, rfl, rfl, rfl⟩, hX⟩
  have HST := Lib.hid hst
  have HVN := Lib.hid hVN
  obtain ⟨g, hg⟩ : ∃ g, g = w.heap.size := ⟨_, rfl⟩
  have hgw : w.heap.size ≤ g := by omega
  clear hbk hst hX hk0 hVN
  go_enter Tryz.func18, Tryz.ntmps18
  go_upto_region 4 with fail
  rw [← HVN.out]
  generalize World.alloc w _ = w1 at HST ⊢
  rw [← hg] at HST ⊢
  clear hg HVN
  go_wp2_with fail
  go_loopw [17] (fun iv wr => ∃ (i : Nat) (S : VSl), i ≤ 8 ∧ iv = .int .i64 i ∧ NewSt w wr g q i S) (fun iv _ => 8 - (intOf iv).toNat)
  case atStart => exact ⟨0, noS, by omega, rfl, HST.out⟩
  case round =>
    obtain ⟨i, S, hi, rfl, hst⟩ := hrel
    have HS := Lib.hid hst
    have hgl := hst.blk.lt
    have hsz := hst.low.size
    clear hst
    by_cases hin : i < 8
    · have hinI : (i : Int) < 8 := by omega
      go_upto_region 7 with fail
      refine wp_region_rel' 6 32 (fun jx W v => match jx with
        | 0 => v = .pointer (some ⟨g, 0, none⟩)
        | 1 => v = .int .i64 (i : Int)
        | 2 => ∃ g', v = .slice (some ⟨g', 0, none⟩) 16 16 ∧ wr.heap.size ≤ g' ∧ Blk W g' 5 (Array.replicate 16 (.int .u8 0))
        | 3 => v = .pointer (some ⟨g, 0, none⟩)
        | 4 => v = .pointer (some ⟨g, 3, none⟩)
        | _ => v = .pointer (some ⟨g, 3 + i, none⟩)) [20, 21, 22, 23, 24, 25] (by kernel_rfl) (by kernel_rfl) (by kernel_rfl) (by simp) (by kernel_rfl) (fun jx => ?last) ?heads ?_
      case last =>
        match jx with
        | 0 | 1 | 3 | 4 | jx + 5 => exact Lasts.pure _
        | 2 => exact fun W W' v ⟨g', h1, h2, h3⟩ hb => ⟨g', h1, h2, h3.below' hb⟩
      case heads =>
        simp only [List.take_succ_cons, List.take_zero]
        refine ⟨fun a W hb hkp hd => ?_, fun a W hb hkp hd => ?_, fun a W hb hkp hd => ?_, fun a W hb hkp hd => ?_, fun a W hb hkp hd => ?_, fun a W hb hkp hd => ?_, trivial⟩
        · have e0 : a.tmps[6]?.getD undef = .pointer (some ⟨g, 0, none⟩) := hkp.get (by kernel_rfl) rfl
          exact rel_value rfl (.pointer (some ⟨g, 0, none⟩)) (by go_simp) rfl
        · have e0 : a.tmps[7]?.getD undef = .int .i64 (i : Int) := hkp.get (by kernel_rfl) rfl
          exact rel_value rfl (.int .i64 (i : Int)) (by go_simp) rfl
        · refine rel_exec rfl (.slice (some ⟨W.heap.size, 0, none⟩) 16 16) (W.alloc (.cells (Array.replicate 16 (.int .u8 0)) 5)) (by
            go_simp
            have h := run_make_rowN (P := Tryz.prog) 22 5 i0 _ Tryz.underlying22 hi0 hz0 .i64 .i64 16 16 (by omega) (by rw [hz2]; omega) (by omega) W
            rw [hz1] at h
            rw [show ((16 : Nat) : Int) = 16 from rfl] at h
            rw [h, show madeCells (Value.int .u8 0).cells (16 * 1) = Array.replicate 16 (.int .u8 0) from by kernel_rfl]
            rfl) ((Below.refl _ _).alloc (Nat.le_refl _) _) ⟨W.heap.size, rfl, hb.size, Blk.new W _ _⟩
        · have e0 : a.tmps[20]?.getD undef = .pointer (some ⟨g, 0, none⟩) := (hd 0 (by kernel_rfl)).get 20 rfl rfl
          exact rel_value rfl (.pointer (some ⟨g, 0, none⟩)) (by go_simp) rfl
        · have e0 : a.tmps[23]?.getD undef = .pointer (some ⟨g, 0, none⟩) := (hd 3 (by kernel_rfl)).get 23 rfl rfl
          exact rel_value rfl (.pointer (some ⟨g, 3, none⟩)) (by go_simp) rfl
        · have e0 : a.tmps[24]?.getD undef = .pointer (some ⟨g, 3, none⟩) := (hd 4 (by kernel_rfl)).get 24 rfl rfl
          have e1 : a.tmps[21]?.getD undef = .int .i64 (i : Int) := (hd 1 (by kernel_rfl)).get 21 rfl rfl
          exact rel_value rfl (.pointer (some ⟨g, 3 + i, none⟩)) (by go_simp) rfl
      intro f W hb hd
      obtain ⟨g', h22, hg', hB'⟩ : ∃ g', f 22 = .slice (some ⟨g', 0, none⟩) 16 16 ∧ wr.heap.size ≤ g' ∧ Blk W g' 5 (Array.replicate 16 (.int .u8 0)) := hd 2 (by omega) _ 22 rfl rfl
      have h25 : f 25 = .pointer (some ⟨g, 3 + i, none⟩) := hd 5 (by omega) _ 25 rfl rfl
      have hkW := HS.out.blk.below' hb
      have cc : W.cell? ⟨g, 3 + i, none⟩ = some (.slice (S.bA i) (blockV (midV q i) i).length (S.bC i)) := (hkW.cell _).trans (vC_block _ _ _ i hin)
      have ff := hkW.frozen (3 + i)
      have hB2 := hkW.set_ (3 + i) (.slice (some ⟨g', 0, none⟩) 16 16)
      rw [vC_mid q i g' S hin] at hB2
      have hT2 := Turned.setCell W ⟨g, 3 + i, none⟩ (.slice (some ⟨g', 0, none⟩) 16 16)
      have hst2 : NewSt w (W.setCell ⟨g, 3 + i, none⟩ (.slice (some ⟨g', 0, none⟩) 16 16)) g q (i + 1) (midS S i g') := by
        refine ⟨hB2, fun j hj => ?_, HS.out.rest, hT2.below (HS.out.low.trans (hb.mono hsz)) hgw⟩
        by_cases hji : j = i
        · subst hji
          exact ⟨g', by simp [midS], by omega, by simp [midS], hT2.blk hB' (by simp only; omega)⟩
        · obtain ⟨g'', e1, e2, e3, e4⟩ := HS.out.block j (by omega)
          exact ⟨g'', by simp only [midS, if_neg hji]; exact e1, e2, by simp only [midS, if_neg hji]; exact e3, hT2.blk (e4.below' hb) (by simp only; omega)⟩
      have HST2 := Lib.hid hst2
      simp only [putAll, List.drop_succ_cons, List.drop_zero, h22, h25]
      clear hd hB' hkW hB2 hT2 hst2
      try simp only [Act.put, List.setIfInBounds_toArray, List.set_cons_zero, List.set_cons_succ]
      go_wp2_with fail
      go_roundw
      case rel => exact ⟨i + 1, midS S i g', by omega, by go_num, HST2.out⟩
      case measure => simp [intOf]; omega
    · obtain rfl : i = 8 := by omega
      have hinI : ¬ (8 : Int) < 8 := by omega
      have hd := HS.out.done (k := k) hgw hlt hq
      have HM := Lib.hid (made_any (fun b => b < g) k L asked g (newV q) S wr (HBK.out.below HS.out.low) has hd (by rintro (e | e | e) <;> omega))
      clear hd
      go_wp2_with fail
      refine HM.out.mono ?_
      rintro _ w3 ⟨T, rfl, hms⟩
      have HMS := Lib.hid hms
      clear hms HM
      go_wp2_with fail
      go_ret2
      exact ⟨g, T, wr, rfl, hgw, hgl, HS.out.low, HMS.out⟩

end Go.Proofs.YtcpngeiahgoacaaGreat

/- What a vault's Do hands back, and the state ahead of its last leaf's turn: plain lemmas. -/
namespace Go.Proofs.YtcpngeiahgoacaaGreat
set_option linter.unusedVariables false
open Go.RowKit Go.Maps

/-- what Do hands back -/
def DoPost (w : World) (V : VLoc) (N : Nat → Prop) (L : List (List UInt8)) (asked : Nat) (p : VM × Ans × Nat) (r : Ending) (w' : World) : Prop :=
  ∃ D, r = .returned (.tuple #[.agg D, .int .i64 (p.2.2 : Int)]) ∧ AnsVal w' w.heap.size D p.2.1 ∧ VDone w w' V N p.1 L asked 6
theorem VDone.more {w w' : World} {V : VLoc} {N : Nat → Prop} {m : VM} {L : List (List UInt8)} {asked q q' : Nat} (h : VDone w w' V N m L asked q) (hq : q ≤ q') : VDone w w' V N m L asked q' := by
  obtain ⟨L', a', h1, h2, h3, h4⟩ := h.book
  exact ⟨h.vat, ⟨L', a', h1, by omega, h3, h4⟩, h.only⟩

theorem VAt.mono {w : World} {V : VLoc} {N N' : Nat → Prop} {m : VM} (h : VAt w V N m) (hN : ∀ b, b < w.heap.size → N' b → N b) (ha : ∀ b, V.has b → N' b) : VAt w V N' m := by
  obtain ⟨S, hd⟩ := h.dat
  exact ⟨⟨S, hd.mono hN⟩, h.tree, h.far, ha⟩
/-- a call's own variable is laid behind -/
theorem VDone.last {w w2 w5 w9 : World} {V : VLoc} {N : Nat → Prop} {m m' : VM} {L : List (List UInt8)} {asked q g4 : Nat} (h0 : VAt w V N m) (hN : ∀ b, N b → b < w.heap.size) (hb : Below w.heap.size w w2) (h : VDone w2 w5 V (fun b => N b ∨ b = g4) m' L asked q) (hT : Turned g4 w5 w9) (hg : w.heap.size ≤ g4) : VDone w w9 V N m' L asked q := by
  have ho : Only (fun b => b = g4) w5 w9 := Only.of_turned hT rfl
  have hlt : ∀ b, V.has b → b ≠ g4 := fun b hb e => by have := hN b (h0.all b hb); omega
  obtain ⟨L', a', q1, q2, q3, q4⟩ := h.book
  refine ⟨(h.vat.only ho (fun b e => .inr e) (hlt _ (.inl rfl)) (fun b hb e => by have := h0.tree.lt hb; omega)).mono (fun b _ hn => .inl hn) h0.all, ⟨L', a', q1.only ho (hlt _ (.inr (.inr (.inl rfl)))) (hlt _ (.inr (.inr (.inr (.inl rfl))))) (hlt _ (.inr (.inr (.inr (.inr rfl))))), q2, q3, q4⟩, ?_⟩
  have h1 := (Only.of_below hb : Only V.has w w2).trans h.only
  exact ⟨hT.os.trans h1.os, hT.tape.trans h1.tape, hT.output.trans h1.output, by have := hT.size; have := h1.size; omega, fun b hb hn => (hT.block b (by omega)).trans (h1.block b hb hn)⟩

theorem spl2_size {cs : Array Value} {o : Nat} {a b : Value} (h : o + 2 ≤ cs.size) : (spl cs o [a, b]).size = cs.size := spl_size (by simpa using h)
theorem spl2_at {cs : Array Value} {o : Nat} {a b : Value} (h : o + 2 ≤ cs.size) : (spl cs o [a, b])[o]? = some a := by
  rw [spl_get (by simpa using h), if_pos (by simp), Nat.sub_self]; rfl
theorem spl2_at1 {cs : Array Value} {o : Nat} {a b : Value} (h : o + 2 ≤ cs.size) : (spl cs o [a, b])[o + 1]? = some b := by
  rw [spl_get (by simpa using h), if_pos (by simp), show o + 1 - o = 1 by omega]; rfl
theorem spl2_else {cs : Array Value} {o i : Nat} {a b : Value} (h : o + 2 ≤ cs.size) (h0 : i ≠ o) (h1 : i ≠ o + 1) : (spl cs o [a, b])[i]? = cs[i]? := by
  rw [spl_get (by simpa using h), if_neg (by simp; omega)]
/-- a client's stamp is turned, its data struck -/
theorem VDat.setL0 {w w' : World} {g : Nat} {t : Option Addr} {N : Nat → Prop} {m : VM} {S : VSl} {j st : Nat} (h : VDat w g t N m S) (hT : Turned g w w') (hN : N g) (hB : Blk w' g 73 (spl (vC t m S) (11 + j * 2) [.int .i64 (st : Int), .slice none 0 0])) (hj : j < 4) (hst : st ≤ maxN) : VDat w' g t N (Go.Proofs.YtcpngeiahgoacaaGreat.setL m j (st, [])) (sLast S j none 0) := by
  have hz : 11 + j * 2 + 2 ≤ (vC t m S).size := by rw [vC_size]; omega
  refine h.setL (d := []) hT hN hB hj (by rw [spl2_size hz, vC_size]) (spl2_at hz) (spl2_at1 hz) (fun i hi h0 h1 => spl2_else hz h0 h1) (Far.nil _ _) hst (.inl rfl)
theorem setL_setL (m : VM) (j : Nat) (y z : Nat × List UInt8) : Go.Proofs.YtcpngeiahgoacaaGreat.setL (Go.Proofs.YtcpngeiahgoacaaGreat.setL m j y) j z = Go.Proofs.YtcpngeiahgoacaaGreat.setL m j z := by
  unfold Go.Proofs.YtcpngeiahgoacaaGreat.setL; simp
/-- a client's data is turned -/
theorem VDat.setLd {w w' : World} {g : Nat} {t : Option Addr} {N : Nat → Prop} {m : VM} {S : VSl} {j st : Nat} {d0 d : List UInt8} {A : Option Addr} {c : Nat} (h : VDat w g t N (Go.Proofs.YtcpngeiahgoacaaGreat.setL m j (st, d0)) S) (hl : m.last.length = 4) (hT : Turned g w w') (hN : N g) (hB : Blk w' g 73 ((vC t (Go.Proofs.YtcpngeiahgoacaaGreat.setL m j (st, d0)) S).setIfInBounds (11 + j * 2 + 1) (.slice A d.length c))) (hj : j < 4) (hf : Far w' N A c d) (hst : st ≤ maxN) (hd : d = [] ∨ d.length = 16 ∧ 0 < st) : ∃ S', VDat w' g t N (Go.Proofs.YtcpngeiahgoacaaGreat.setL m j (st, d)) S' := by
  have hz : (vC t (Go.Proofs.YtcpngeiahgoacaaGreat.setL m j (st, d0)) S).size = 20 := vC_size _ _ _
  have e := setL_setL m j (st, d0) (st, d)
  refine ⟨_, e ▸ h.setL (d := d) (st := st) (A := A) (c := c) hT hN hB hj (by simp [hz]) ?_ ?_ ?_ hf hst hd⟩
  · rw [Array.getElem?_setIfInBounds, if_neg (by omega), vC_stamp _ _ _ _ hj, setL_last m j j _ hl hj, if_pos rfl]
  · rw [Array.getElem?_setIfInBounds, if_pos rfl, hz, if_pos (by omega)]
  · intro i hi h0 h1
    rw [Array.getElem?_setIfInBounds, if_neg (by omega)]
/-- a block is turned -/
theorem VDat.setBd {w w' : World} {g : Nat} {t : Option Addr} {N : Nat → Prop} {m : VM} {S : VSl} {b : Nat} {d : List UInt8} {A : Option Addr} {c : Nat} (h : VDat w g t N m S) (hT : Turned g w w') (hN : N g) (hB : Blk w' g 73 ((vC t m S).setIfInBounds (3 + b) (.slice A d.length c))) (hb : b < 8) (hf : Far w' N A c d) (hd : d.length = 16) : VDat w' g t N (Go.Proofs.YtcpngeiahgoacaaGreat.setB m b d) (sBlock S b A c) := by
  have hz : (vC t m S).size = 20 := vC_size _ _ _
  refine h.setB (d := d) hT hN hB hb (by simp [hz]) ?_ ?_ hf hd
  · rw [Array.getElem?_setIfInBounds, if_pos rfl, hz, if_pos (by omega)]
  · intro i hi h0
    rw [Array.getElem?_setIfInBounds, if_neg (by omega)]
theorem leaves_set2 {m m' : VM} {a b : Nat} (ha : a < 13) (hb : b < 13) (h : ∀ j, j < 13 → j ≠ a → j ≠ b → leafV m' j = leafV m j) : ((leavesV m).set a (leafV m' a)).set b (leafV m' b) = leavesV m' := by
  refine leaves_ext (by rw [List.length_set, List.length_set, leavesV_len]) fun j hj => ?_
  rw [List.getElem?_set]
  by_cases e : b = j
  · subst e; rw [if_pos rfl, List.length_set, leavesV_len, if_pos hb]
  · rw [if_neg e, List.getElem?_set]
    by_cases e2 : a = j
    · subst e2; rw [if_pos rfl, leavesV_len, if_pos ha]
    · rw [if_neg e2, leavesV_get m j hj, h j hj (fun e' => e2 e'.symm) (fun e' => e e'.symm)]

/-- the vault ahead of its last leaf's turn -/
structure TailSt (w : World) (V : VLoc) (N : Nat → Prop) (m' : VM) (L : List (List UInt8)) (asked q i : Nat) (wx : World) : Prop where
  dat : ∃ S, VDat wx V.g (some ⟨V.T.t, 0, none⟩) N m' S
  tree : ∃ ls, TreeAt wx V.T V.k ls ∧ ls.length = 13 ∧ ls.set i (leafV m' i) = leavesV m' ∧ ∃ L' a', BookAt wx V.k L' a' ∧ a' ≤ asked + q ∧ (∀ x, x ∈ L → x ∈ L') ∧ InBook L' ls
  only : Only V.has w wx
/-- only the vault's own block was turned -/
theorem TailSt.start {w w' : World} {V : VLoc} {N N' : Nat → Prop} {m m' : VM} {L : List (List UInt8)} {asked q i : Nat} {S : VSl} (h : VAt w V N m) (hbk : BookAt w V.k L asked) (hin : InBook L (leavesV m)) (ho : Only (fun b => b = V.g) w w') (hd : VDat w' V.g (some ⟨V.T.t, 0, none⟩) N' m' S) (hi : i < 13) (hl : ∀ j, j < 13 → j ≠ i → leafV m' j = leafV m j) : TailSt w V N' m' L asked q i w' :=
  ⟨⟨S, hd⟩, ⟨leavesV m, h.tree.only ho (fun b hb e => h.far.1 (e ▸ hb)), leavesV_len m, leaves_set1 hi hl, L, asked, hbk.only ho (fun e => h.far.2 (.inl e.symm)) (fun e => h.far.2 (.inr (.inl e.symm))) (fun e => h.far.2 (.inr (.inr e.symm))), by omega, fun _ h => h, hin⟩, ho.mono fun b _ e => .inl e⟩
/-- the last leaf is turned -/
theorem TailSt.done {w w0 w' wx : World} {V : VLoc} {N N' : Nat → Prop} {m m' : VM} {L : List (List UInt8)} {asked q i : Nat} (h0 : VAt w0 V N m) (hN : ∀ b, V.has b → N' b) (h : TailSt w V N' m' L asked q i wx) {ls : List (List UInt8)} {L1 : List (List UInt8)} {a1 : Nat} (hls : ls.set i (leafV m' i) = leavesV m') (h1 : a1 ≤ asked + q) (h2 : ∀ x, x ∈ L → x ∈ L1) (h3 : InBook L1 ls) (hs : SetBy wx w' V.T V.k ls (ls.set i (leafV m' i)) L1 a1 3) : VDone w w' V N' m' L asked (q + 3) := by
  obtain ⟨S, hd⟩ := h.dat
  obtain ⟨L', a', p1, p2, p3, p4⟩ := hs.book
  have hfar := h0.far
  refine ⟨⟨⟨S, hd.only hs.only (fun b hb => hN b (.inr hb)) ?_⟩, hls ▸ hs.tree, hfar, hN⟩, ⟨L', a', p1, by omega, fun x hx => p3 x (h2 x hx), hls ▸ p4 L1 (fun _ h => h) h3⟩, h.only.trans (hs.only.mono fun b _ e => .inr e)⟩
  rintro (e | e)
  · exact hfar.1 (.inr (.inr e))
  · exact hfar.2 e
theorem VDone.below {w w' w'' : World} {V : VLoc} {N : Nat → Prop} {m : VM} {L : List (List UInt8)} {asked q : Nat} (h : VDone w w' V N m L asked q) (hb : Below w'.heap.size w' w'') : VDone w w'' V N m L asked q := by
  obtain ⟨L', a', h1, h2, h3, h4⟩ := h.book
  exact ⟨h.vat.below hb, ⟨L', a', h1.below hb, h2, h3, h4⟩, h.only.trans (Only.of_below hb)⟩
theorem ran_last {m : VM} (hl : m.last.length = 4) {x : Wish} {j : Nat} (hj : j = (x.client - 31).toNat) (hj4 : j < 4) : (lastV (ranV m x).1 j).2 = (ranV m x).2 := by
  by_cases hk : x.kind = 1
  · rw [(ran_read hk).1, (ran_read hk).2, ← hj, setL_last m j j _ hl hj4, if_pos rfl]
  · rw [(ran_write hk).1, (ran_write hk).2, ← hj]
    show (lastV (Go.Proofs.YtcpngeiahgoacaaGreat.setL m j (x.stamp.toNat, [])) j).2 = _
    rw [setL_last m j j _ hl hj4, if_pos rfl]
theorem leafV_ran {m : VM} (h : VOk m) {x : Wish} {j b : Nat} (hj : j = (x.client - 31).toNat) (hb : b = x.block.toNat) (hj4 : j < 4) (hb8 : b < 8) (i : Nat) (hi : i ≠ 8 + j) (hib : x.kind = 1 ∨ i ≠ b) : leafV (ranV m x).1 i = leafV m i := by
  by_cases hk : x.kind = 1
  · rw [(ran_read hk).1, ← hj]
    exact leafV_setL h.last hj4 i hi
  · rw [(ran_write hk).1, ← hj, ← hb, leafV_setB (m := Go.Proofs.YtcpngeiahgoacaaGreat.setL m j (x.stamp.toNat, [])) h.blocks hb8 i (hib.resolve_left hk)]
    exact leafV_setL h.last hj4 i hi

end Go.Proofs.YtcpngeiahgoacaaGreat
