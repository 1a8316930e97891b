/- Parts of the proof, in one text: AoE, LoadH, AoG. -/
import Derived.Test.YtlaodmmjhjpfmaaGreatZ26
import Derived.Test.YtlaodmmjhjpfmaaGreatZ18
import Derived.Test.YtlaodmmjhjpfmaaGreatZ10
import Derived.BigRegion
import Derived.Deep.DeepCutAuto
import Derived.Test.YtlaodmmjhjpfmaaGreatZ8
import Derived.Test.YtlaodmmjhjpfmaaGreatZ15

/- Contract of atlas.Open. -/
namespace Go.Proofs.YtlaodmmjhjpfmaaGreat
set_option linter.unusedVariables false
set_option linter.unusedSimpArgs false
open Go.RowKit Go.Maps

attribute [local irreducible] wpList wpCalm
set_option maxRecDepth 100000 in
set_option maxHeartbeats 8000000 in
theorem aOpen_any (k : Book) (L : List (List UInt8)) (asked : Nat) (A : Option Addr) (n c : Nat) (xss : List (List UInt8)) (w : World) (hbk : BookAt w k L asked) (has : asked ≤ 600000) (hr : RowsC w w.heap.size A n xss) (hn : n ≤ 1000000000000) (hlx : ∀ x, x ∈ xss → x.length ≤ 1000000000000) :
    Calls Tryz.prog 43 #[.pointer (some ⟨k.g, 0, none⟩), .slice A n c] w (ANewPost w k L asked (openQ xss)) := by
  have hxl := hr.1
  obtain ⟨o, ho⟩ : ∃ o, o = openQ xss := ⟨_, rfl⟩
  rw [← ho]
  have HO := Lib.hid ho
  clear ho
  by_cases h6 : n = 6
  · have h6b : ((n : Int) != 6) = false := by simp [h6]
    obtain ⟨ad, hA, hadb, hcell⟩ := hr.2 (by omega)
    subst hA
    have HXL := Lib.hid (show xss.length = 6 by omega)
    have HBK := Lib.hid hbk
    have HLX := Lib.hid hlx
    have hkl := hbk.lt
    have HCELL := Lib.hid (fun (W : World) (hb : Below w.heap.size w W) (q : Nat) (hq : q < 6) => (show ∃ Ak mk ck, W.cell? (ad.add q) = some (.slice Ak mk ck) ∧ Reads W w.heap.size 1 Ak mk ((xss.getD q []).map vb) ∧ mk ≤ ck ∧ mk ≤ 1000000000000 from by
      have hqx : q < xss.length := by omega
      obtain ⟨Ak, mk, ck, h1, h2, h3⟩ := hcell q xss[q] (List.getElem?_eq_getElem hqx)
      have e : xss.getD q [] = xss[q] := by rw [List.getD_eq_getElem?_getD, List.getElem?_eq_getElem hqx]; rfl
      rw [e]
      have hmk : xss[q].length = mk := by have := h2.1; simpa using this
      exact ⟨Ak, mk, ck, (hb.cell (by rw [block_of_add]; exact hadb)).trans h1, h2.below hb, h3, by have := hlx _ (List.getElem_mem hqx); omega⟩))
    obtain ⟨g6, hg⟩ : ∃ g, g = w.heap.size := ⟨_, rfl⟩
    have HST := Lib.hid (show NmSt w g6 xss 0 (w.alloc (.cells (sixV (fun _ => undef) 0) 171)) from ⟨⟨fun _ => undef, Blk.newAt hg, fun j h => by omega⟩, fun j h => by omega, fun j h => by omega, below_lit _ _, by omega⟩)
    rw [sixV_zero] at HST
    have hgw : w.heap.size ≤ g6 := by omega
    clear hr hbk hlx hcell hxl
    subst h6
    go_enter Tryz.func43, Tryz.ntmps43
    go_upto_region 4 with fail
    generalize World.alloc w _ = w1 at HST ⊢
    rw [← hg]
    clear hg
    go_wp2_with fail
    go_loopw [27] (fun iv wr => ∃ i : Nat, i ≤ 6 ∧ iv = .int .i64 i ∧ NmSt w g6 xss i wr) (fun iv _ => 6 - (intOf iv).toNat)
    case atStart => exact ⟨0, by omega, rfl, HST.out⟩
    case round =>
      obtain ⟨i, hi, rfl, hst⟩ := hrel
      have HS := Lib.hid hst
      have hlow := hst.low.size
      clear hst HST
      by_cases hin : i < 6
      · have hinI : (i : Int) < 6 := by omega
        have h0I : (0 : Int) ≤ (i : Int) := by omega
        obtain ⟨Ak, mk, ck, h1, h2, h3, h4⟩ := HCELL.out wr HS.out.low i hin
        have HNM := Lib.hid (anumbers_any Ak mk ck (xss.getD i []) wr w.heap.size h2 hlow h3 h4)
        obtain ⟨oq, hoq⟩ : ∃ q, q = numsV (xss.getD i []) := ⟨_, rfl⟩
        rw [← hoq] at HNM
        have HOQ := Lib.hid hoq
        clear h2 hoq
        go_wp2_with fail
        refine HNM.out.mono ?_
        rintro _ w2 ⟨v, rfl, hown, hmx, hb2⟩
        have hs2 := hb2.size
        have HB2 := Lib.hid hb2
        have HOW := Lib.hid hown
        have HMX := Lib.hid hmx
        obtain ⟨Av, cv, hv, _⟩ := own_slice_n hown
        obtain ⟨ln, hln⟩ : ∃ q, q = (nI (oq.getD [])).length := ⟨_, rfl⟩
        rw [← hln] at hv
        subst hv
        clear hb2 hown hmx hln HNM h1
        cases oq with
        | none =>
          have hon : o = none := by
            rw [HO.out]
            refine openQ_bad fun hh => ?_
            have := hh.2 i hin
            rw [← HOQ.out] at this
            cases this
          subst hon
          go_wp2_with fail
          go_ret2
          exact ⟨fun _ => ⟨rfl, HS.out.low.trans (HB2.out.mono hlow)⟩, fun m hm => by cases hm⟩
        | some l =>
          have hnf : numF xss i = l := by unfold numF; rw [← HOQ.out]; rfl
          have hpush := HS.out.push (v := .slice Av ln cv) HB2.out (by rw [hnf]; exact HOW.out) (by rw [hnf]; exact HMX.out) (by rw [← HOQ.out]; rfl)
          have HPU := Lib.hid hpush
          obtain ⟨vs, hb6, _⟩ := (HS.out.below HB2.out).blk
          have cc : w2.cell? ⟨g6, i, none⟩ = some (.slice none 0 0) := (hb6.cell i).trans (by rw [sixV_at _ _ _ hin, if_neg (by omega)])
          have cf : w2.frozen? ⟨g6, i, none⟩ = false := hb6.frozen i
          clear hnf hpush hb6
          go_wp2_with fail
          go_roundw
          case rel => exact ⟨i + 1, by omega, by go_num, HPU.out⟩
          case measure => simp [intOf]; omega
      · obtain rfl : i = 6 := by omega
        go_upto_region 13 with fail
        obtain ⟨nch, hnch⟩ : ∃ q : Nat, q = if numF xss 1 = [0] then 1 else 2 := ⟨_, rfl⟩
        have HNCH := Lib.hid hnch
        have hn12 : 1 ≤ nch ∧ nch ≤ 2 := by rw [hnch]; split <;> omega
        clear hnch
        obtain ⟨vs, hb6, hv6⟩ := HS.out.blk
        have hv1 := hv6 1 (by omega)
        obtain ⟨A1, c1, hvs, q1, q2, q3, q4⟩ := own_slice_n hv1
        have cc : wr.cell? ⟨g6, 1, none⟩ = some (.slice A1 (nI (numF xss 1)).length c1) := by
          rw [← hvs]
          exact (hb6.cell 1).trans (by rw [sixV_at _ _ _ (by omega), if_pos (by omega)])
        obtain ⟨n1, hn1⟩ : ∃ q, q = (nI (numF xss 1)).length := ⟨_, rfl⟩
        rw [← hn1] at cc q3 q1
        have hal := below_lit wr (.cells #[.int .i64 0] 3)
        have HEQ := Lib.hid (slEqual_any A1 (some ⟨wr.heap.size, 0, none⟩) n1 1 c1 1 (nI (numF xss 1)) [0] (wr.alloc (.cells #[.int .i64 0] 3)) _ _ (q3.below hal) (reads_cells wr #[.int .i64 0] 3) (by unfold maxLen at q2 ⊢; omega) (by unfold maxLen; omega))
        have hiff : (nI (numF xss 1) = [0]) ↔ (numF xss 1 = [0]) := by
          constructor
          · intro h
            match hq : numF xss 1 with
            | [] => rw [hq] at h; simp [nI] at h
            | [x] => rw [hq] at h; simp [nI] at h; rw [h]
            | x :: y :: t => rw [hq] at h; simp [nI] at h
          · intro h; rw [h]; rfl
        obtain ⟨bq, hbq⟩ : ∃ b, b = decide (nI (numF xss 1) = [0]) := ⟨_, rfl⟩
        rw [← hbq] at HEQ
        have hnq : nch = if bq = true then 1 else 2 := by
          rw [HNCH.out, hbq]
          by_cases h : numF xss 1 = [0]
          · rw [if_pos h, if_pos (by rw [decide_eq_true (hiff.2 h)])]
          · rw [if_neg h, if_neg (by rw [decide_eq_false (fun e => h (hiff.1 e))]; simp)]
        have HNQ := Lib.hid hnq
        have HNM := Lib.hid (HS.out.below hal)
        clear hb6 hv6 hv1 hvs q1 q2 q3 q4 hn1 hal hiff hbq hnq
        go_wp2_with fail
        refine HEQ.out.mono ?_
        rintro _ w3 ⟨rfl, kk, hw3⟩
        have HN3 := Lib.hid (show NmSt w g6 xss 6 w3 from by rw [hw3]; exact HNM.out.below (below_drewN (Below.refl _ _) kk))
        clear hw3 cc HNM HEQ
        have HSX := Lib.hid (show NmSt w g6 xss 6 w3 from HN3.out)
        go_upto_if 49 with (fail)
        go_cut [10] (fun s10 wx => s10 = .slice (some ⟨g6, 0, none⟩) nch 6 ∧ NmSt w g6 xss 6 wx)
        case first =>
          cases bq with
          | true =>
            have hnc := HNQ.out
            simp only [if_true] at hnc
            subst hnc
            go_wp2_with fail
            go_meet
            exact ⟨rfl, HN3.out⟩
          | false =>
            have hnc := HNQ.out
            simp only [Bool.false_eq_true, if_false] at hnc
            subst hnc
            go_wp2_with fail
            go_meet
            exact ⟨rfl, HN3.out⟩
        case rest =>
          obtain ⟨rfl, hnm⟩ := hcut
          obtain ⟨vs, hsa⟩ := hnm.sa
          have HMX := Lib.hid hnm.max
          have HIS := Lib.hid hnm.is_
          have hwc := hnm.low.size
          have hg6l := hsa.blk.lt
          obtain ⟨g12, hg12⟩ : ∃ g, g = wc.heap.size := ⟨_, rfl⟩
          have hcs : ChS w g6 g12 xss vs (fun _ => none) (fun _ => 0) (fun _ => undef) 0 (.slice none 0 0) (wc.alloc (.cells (twoV (fun _ => undef) 0) 173)) := ⟨hsa.below (below_lit _ _), ⟨by simp [chRows], .inl ⟨rfl, rfl⟩⟩, Blk.newAt hg12, fun j h => by omega, by omega, by omega⟩
          rw [twoV_zero] at hcs
          have HCS := Lib.hid hcs
          have HGC := Lib.hid (show openQ xss = openS (numF xss) from openQ_says HXL.out HIS.out)
          clear hnm hcs HS hsa HCELL HSX HN3 HNQ
          go_upto_region 17 with fail
          generalize World.alloc wc _ = wd at HCS ⊢
          rw [← hg12]
          clear hg12
          go_wp2_with fail
          go_loopw [11, 54] (fun cv iv wr => ∃ i : Nat, i ≤ nch ∧ iv = .int .i64 i ∧ ∃ fA fC ms, ChS w g6 g12 xss vs fA fC ms i cv wr) (fun _ iv _ => nch - (intOf iv).toNat)
          case atStart => exact ⟨0, by omega, rfl, _, _, _, HCS.out⟩
          case round =>
            obtain ⟨i, hi, rfl, fA, fC, ms, hcs⟩ := hrel
            obtain ⟨w3, rfl⟩ : ∃ x, x = wr := ⟨_, rfl⟩
            have HC3 := Lib.hid hcs
            have hlow3 := hcs.sa.low.size
            have hcl3 := hcs.row
            clear HCS
            by_cases hin : i < nch
            · have hinI : (i : Int) < (nch : Int) := by omega
              have h0I : (0 : Int) ≤ (i : Int) := by omega
              have hi2 : i < 2 := by omega
              have hown := hcs.sa.own i (by omega)
              obtain ⟨Ai, ci, hvi, _⟩ := own_slice_n hown
              obtain ⟨ni, hni⟩ : ∃ q, q = (nI (numF xss i)).length := ⟨_, rfl⟩
              rw [← hni] at hvi
              have hnl := numF_len xss i
              have hnx : (xss.getD i []).length ≤ 1000000000000 := by
                rw [List.getD_eq_getElem?_getD, List.getElem?_eq_getElem (by have := HXL.out; omega)]
                exact HLX.out _ (List.getElem_mem _)
              have HF := Lib.hid (afirst_any (vs i) (numF xss i) w3 w.heap.size hown (by omega) (HMX.out i (by omega)))
              have cc : w3.cell? ⟨g6, i, none⟩ = some (vs i) := (hcs.sa.blk.cell i).trans (by rw [sixV_at _ _ _ (by omega), if_pos (by omega)])
              obtain ⟨u, hu⟩ : ∃ u, u = vs i := ⟨_, rfl⟩
              rw [← hu] at HF cc hvi
              subst hvi
              have HU := Lib.hid hu
              clear hcs hown hni hnl hnx hu hcl3
              go_wp2_with fail
              refine HF.out.mono ?_
              rintro e4 w4 ⟨hb4, hno, hso⟩
              cases hq : firstQ (numF xss i) with
              | none =>
                have he := hno hq
                subst he
                have hon : o = none := by rw [HO.out, HGC.out]; exact openS_bad HNCH.out hin hq
                subst hon
                have hlw := HC3.out.sa.low.trans (hb4.mono hlow3)
                have hs4 := hb4.size
                have HLW := Lib.hid hlw
                clear hb4 hno hso hq HF cc hlw
                go_wp2_with (refine wpList_store_part (o := ⟨none, _, _, _, _, _⟩) rfl 57 (.tmp 15) (.tmp 62) rfl w4.heap.size 0 (crC 0 none 0 0) rfl rfl 57 (crC 0 none 0 0) (Blk.newAt rfl) (by kernel_rfl) (by simp [crC]) (by simp [crC, Value.oneCell']) ?_; intro w5 hT5 hD5)
                go_ret2
                exact ⟨fun _ => ⟨rfl, hT5.below (HLW.out.alloc (by omega) _) (by omega)⟩, fun m hm => by cases hm⟩
              | some q =>
                obtain ⟨f, A1, c1, A2, c2, hf, hf2, he, hr1, hr2, hc2⟩ := hso q hq
                subst he
                have hfq : fstF xss i = q := by unfold fstF; rw [hq]; rfl
                rw [← hfq] at hf hr1 hr2 hc2 ⊢
                have hFS := (⟨by rw [hq, hfq], ⟨f, hf, hf2⟩, by rw [← HU.out]; exact hr1, ⟨A2, c2, rfl, by rw [← HU.out]; exact hr2, hc2⟩⟩ : FsOk w.heap.size xss (vs i) i A1 c1 (.slice A2 (fstF xss i).2.length c2))
                have HFS := Lib.hid hFS
                obtain ⟨E, hE⟩ : ∃ E, E = crC f A1 (fstF xss i).1.2.length c1 := ⟨_, rfl⟩
                have hes : E.size = 2 := by rw [hE]; rfl
                have he1 : E.all (·.oneCell') = true := by rw [hE]; exact crC_one _ _ _ _
                rw [← hE]
                have HER := Lib.hid (show E.toList = chRow (fstF xss i) A1 c1 from by rw [hE]; unfold chRow; rw [hf]; rfl)
                have HB4 := Lib.hid hb4
                have hs4 := hb4.size
                obtain ⟨n2, hn2⟩ : ∃ k, k = (fstF xss i).2.length := ⟨_, rfl⟩
                rw [← hn2] at HFS ⊢
                have hfold : Array.foldl (fun (cs : Array Value) (x : Value × Nat) => cs.setIfInBounds x.snd x.fst) #[Value.int .i64 0, Value.slice none 0 0] E.zipIdx 0 2 = E := by rw [hE]; rfl
                have HFO := Lib.hid hfold
                clear hno hso hq hfq hf hr1 hr2 hc2 hFS hE HF cc hn2 hb4 hfold
                go_upto_region 21 with (refine wpList_store_part (o := ⟨none, _, _, _, _, _⟩) rfl 57 (.tmp 15) (.tmp 62) rfl w4.heap.size 0 E rfl rfl 57 #[.int .i64 0, .slice none 0 0] (Blk.newAt rfl) (by rw [hes]; kernel_rfl) (by rw [hes]; simp) he1 ?_; intro w5 hT5 hD5)
                rw [spl_self _ _ (by rw [hes]; rfl)] at hD5
                have hb5 : Below w4.heap.size w4 w5 := hT5.below ((Below.refl _ _).alloc (Nat.le_refl _) _) (Nat.le_refl _)
                obtain ⟨g15, hg15⟩ : ∃ b, b = w4.heap.size := ⟨_, rfl⟩
                rw [← hg15] at hD5 ⊢
                have hs5 := hb5.size
                have K15 := Lib.hid hD5
                have HB5 := Lib.hid (HB4.out.trans (hb5.mono hs4))
                have hb6 := below_lit w5 (.cells E 57)
                have HB6 := Lib.hid (HB5.out.trans (hb6.mono (by omega)))
                have HC6 := Lib.hid (HC3.out.below HB6.out)
                have HROW6 := Lib.hid HC6.out.row
                have HRD6 := Lib.hid (reads_crew w5 E hes)
                obtain ⟨i0, hi0, hz0, hz1, hz2⟩ := info_parts cr_info
                have hlt5 := hD5.lt
                have hfold := HFO.out
                have hi40 : i ≤ 40 := by omega
                have hlw6 := HC6.out.sa.low.size
                simp only [World.alloc] at hlw6
                clear hT5 hD5 hg15 hb5 hb6 HB4
                go_wp2_with (first
                  | refine wpList_load_part (o := ⟨some 69, _, _, _, _, _⟩) rfl 57 (.tmp 15) rfl g15 0 2 rfl 57 _ E _ K15.out Tryz.underlying57 rfl rfl hes (fun _ _ => by rw [Nat.zero_add]) ?_
                  | (at_builtin; go_must (refine wpList_append_any _ rfl (.tmp 68) (.tmp 70) 45 rfl w.heap.size 57 i0 _ 2 32 Tryz.underlying45 hi0 hz0 hz1 hz2 rfl (by omega) _ _ _ rfl HROW6.out _ (some ⟨w5.heap.size, 0, none⟩) 1 1 E.toList rfl HRD6.out ?d1 ?d2 ?d3 ?d4 ?_)))
                case d1 => exact fun u hu => (Array.all_eq_true'.1 he1) u (by simpa using hu)
                case d2 => unfold maxLen; omega
                case d3 => first | omega | (simp; omega)
                case d4 => first | omega | (simp; omega)
                intro v6 w6 hown6 hg6' hor6
                have hpu := HC3.out.push HB6.out (by rw [← HER.out]; exact hown6) hg6' HFS.out
                have HPU := Lib.hid hpu
                have n12 := own_blk_ne HC6.out.row HC6.out.arr (by decide)
                have a2 : Blk w6 g12 173 (twoV ms i) := (hg6'.block g12 HC6.out.arr.lt (fun e => n12 e.symm)).trans HC6.out.arr
                have ca : w6.cell? ⟨g12, i, none⟩ = some (.slice none 0 0) := (a2.cell i).trans (by rw [twoV_at _ _ _ hi2, if_neg (by omega)])
                have cf : w6.frozen? ⟨g12, i, none⟩ = false := a2.frozen i
                clear hown6 hg6' hor6 hpu n12 a2 HROW6 HRD6 hfold
                go_wp2_with fail
                go_roundw
                case rel => exact ⟨i + 1, by omega, by go_num, _, _, _, HPU.out⟩
                case measure => simp [intOf]; omega
            · obtain rfl : nch = i := by omega
              have hl7 : ∀ j, j < nch → (fstF xss j).1.2.length ≤ 100 := fun j hj => by have := (firstQ_len (HC3.out.ok j hj).is_).1; omega
              obtain ⟨Ac, cc, hcv, hcr⟩ := HC3.out.crews (by omega) hl7
              subst hcv
              obtain ⟨cl, hcl⟩ : ∃ l, l = (List.range nch).map (fun j => (fstF xss j).1) := ⟨_, rfl⟩
              obtain ⟨mv, hmv⟩ : ∃ f : Nat → List Int, f = fun j => if j < nch then (fstF xss j).2 else [] := ⟨_, rfl⟩
              have hgo : openQ xss = openC cl mv (numF xss) := by rw [HGC.out, hcl, hmv]; exact openS_good HNCH.out (fun j hj => (HC3.out.ok j hj).is_)
              rw [← hcl] at hcr
              have HGO := Lib.hid hgo
              have HMV := Lib.hid hmv
              have HCL := Lib.hid hcl
              have HBG := Lib.hid (begun_any Ac nch cc cl w3 hcr (by omega))
              clear hl7 hcr hgo hmv hcl hcs hcl3 hin hi
              go_wp2_with fail
              refine HBG.out.mono ?_
              rintro e4 w4 ⟨hb4, hno, hso⟩
              have hs4 := hb4.size
              cases hq : begunV cl with
              | none =>
                have he := hno hq
                subst he
                have hon : o = none := by rw [HO.out, HGO.out]; unfold openC; rw [hq]
                subst hon
                have HLW := Lib.hid (HC3.out.sa.low.trans (hb4.mono hlow3))
                clear hb4 hno hso hq HBG
                go_wp2_with fail
                go_ret2
                exact ⟨fun _ => ⟨rfl, HLW.out⟩, fun m hm => by cases hm⟩
              | some acc =>
                obtain ⟨g, v, nA, nC, he, hraw⟩ := hso acc hq
                subst he
                obtain ⟨hck, hbare, hlen⟩ := begunV_ok hq
                obtain ⟨gc, arr, cap, hv, hgcB, hgg, hdat⟩ := hraw.dat hck
                have hgB := hraw.gB
                obtain ⟨T, hT⟩ : ∃ T, T = totQ acc mv := ⟨_, rfl⟩
                have HOC := Lib.hid (show openQ xss = endQ T (numF xss) from by rw [HGO.out, openC_eq hq, hT])
                have HOH := Lib.hid (show OhSt w3 g gc nch T mv 0 acc w4 from ⟨⟨_, hdat⟩, hb4, by rw [hlen, HCL.out]; simp, by rw [hT, totQ_head], fun j s _ hs => hbare s (List.mem_of_getElem? hs)⟩)
                have HSW := Lib.hid (fun (W : World) (hb : Below w3.heap.size w3 W) => HC3.out.sa.below hb)
                obtain ⟨M2, hM2⟩ : ∃ M, M = twoV ms nch := ⟨_, rfl⟩
                have harr := (HC3.out.below hb4).arr
                rw [← hM2] at harr
                have HARR := Lib.hid harr
                have hm2s : M2.size = 2 := by rw [hM2]; exact rng_size _ _
                have HMS := Lib.hid (show ∀ j, j < 2 → ∃ A n c, M2[j]? = some (.slice A n c) ∧ n = (mv j).length ∧ n ≤ c ∧ n ≤ 42 ∧ (0 < n → j < nch) ∧ ∀ W, Below w3.heap.size w3 W → Reads W W.heap.size 1 A n ((mv j).map vn) from fun j hj => by
                  rw [hM2, twoV_at _ _ _ hj, HMV.out]
                  by_cases hjn : j < nch
                  · have hok := HC3.out.ok j hjn
                    obtain ⟨A, c, h1, h2, h3⟩ := hok.mv
                    refine ⟨A, _, c, by rw [if_pos hjn, h1], by show _ = (if j < nch then _ else _ : List Int).length; rw [if_pos hjn], h3, (firstQ_len hok.is_).2, fun _ => hjn, fun W hb => ?_⟩
                    show Reads W _ 1 A _ ((if j < nch then _ else _ : List Int).map vn)
                    rw [if_pos hjn]
                    exact h2 W ((HSW.out W hb).own j (by omega))
                  · refine ⟨none, 0, 0, by rw [if_neg hjn], by show _ = (if j < nch then _ else _ : List Int).length; rw [if_neg hjn]; rfl, Nat.le_refl _, by omega, fun h => by omega, fun W hb => ?_⟩
                    show Reads W _ 1 none 0 ((if j < nch then _ else _ : List Int).map vn)
                    rw [if_neg hjn]
                    exact Reads.none_)
                clear hb4 hno hso hq hraw hck hbare hlen hv hdat hT hM2 harr HBG HGO
                go_wp2_with (refine wpList_load_part (o := ⟨some 79, _, _, _, _, _⟩) rfl 173 (.tmp 12) rfl g12 0 2 rfl 173 _ M2 _ HARR.out Tryz.underlying173 rfl rfl hm2s (fun _ _ => by rw [Nat.zero_add]) ?_)
                go_loopw [80] (fun iv wr => ∃ i : Nat, i ≤ 2 ∧ iv = .int .i64 i ∧ ∃ cs, OhSt w3 g gc nch T mv i cs wr) (fun iv _ => 2 - (intOf iv).toNat)
                case atStart => exact ⟨0, by omega, rfl, _, HOH.out⟩
                case round =>
                  obtain ⟨i, hi, rfl, cs, hoh⟩ := hrel
                  obtain ⟨w5, rfl⟩ : ∃ x, x = wr := ⟨_, rfl⟩
                  have HH := Lib.hid hoh
                  clear hoh HOH
                  by_cases hin : i < 2
                  · have hinI : (i : Int) < 2 := by omega
                    have h0I : (0 : Int) ≤ (i : Int) := by omega
                    obtain ⟨A, n, c2, hM, hnl, hnc, hn42, hnn, hrd⟩ := HMS.out i hin
                    have HOM := Lib.hid (HH.out.enter hin (by omega) (by rw [← hnl]; exact hnn))
                    have HRD := Lib.hid hrd
                    have HNL := Lib.hid hnl
                    have HIX := Lib.hid (fun (W : World) => run_index_arr (P := Tryz.prog) (t := 173) (e := 41) Tryz.underlying173 (by kernel_rfl) (fun w => by go_simp) M2 i (.slice A n c2) hin hM W)
                    clear hnl hrd hnn hM
                    go_wp2_with (refine wpList_exec_want (o := ⟨some 83, _, _, _, _, _⟩) rfl (.slice A n c2) (by have h := HIX.out w5; go_simp) ?_)
                    go_loopw [20] (fun mvv wr => ∃ (A : Option Addr) (n c2 : Nat) (rest : List Int) (cs : List Srv), mvv = .slice A n c2 ∧ rest.length = n ∧ n ≤ c2 ∧ (∀ W, Below w3.heap.size w3 W → Reads W W.heap.size 1 A n (rest.map vn)) ∧ OmSt w3 g gc nch T mv i cs rest wr) (fun mvv _ => match mvv with | .slice _ n _ => n | _ => 0)
                    case atStart => exact ⟨_, _, _, _, _, rfl, HNL.out.symm, hnc, HRD.out, HOM.out⟩
                    case round =>
                      obtain ⟨A, n, c2, rest, cs, rfl, hrl, hnc, hrd, hom⟩ := hrel
                      obtain ⟨w6, rfl⟩ : ∃ x, x = wr := ⟨_, rfl⟩
                      clear HOM HH HRD HNL
                      have HM := Lib.hid hom
                      have HRD := Lib.hid hrd
                      have HRL := Lib.hid hrl
                      have hlow6 := hom.low.size
                      clear hom hrd hrl
                      by_cases hn1 : 1 < n
                      · have hn1I : (1 : Int) < (n : Int) := by omega
                        have hn0I : (0 : Int) < (n : Int) := by omega
                        have hn0 : 0 < n := by omega
                        obtain ⟨ov, z, t, rfl⟩ : ∃ a b t, rest = a :: b :: t := by
                          match rest, HRL.out with
                          | a :: b :: t, _ => exact ⟨a, b, t, rfl⟩
                          | [x], h => simp at h; omega
                          | [], h => simp at h; omega
                        have hwi : i < nch := HM.out.has (by simp)
                        obtain ⟨s, hs⟩ : ∃ s, cs[i]? = some s := ⟨_, List.getElem?_eq_getElem (by have := HM.out.len; omega)⟩
                        obtain ⟨ad, hA, had, _⟩ := (HRD.out w3 (Below.refl _ _)).2 hn0
                        subst hA
                        obtain ⟨ad', hA, _, hcell⟩ := (HRD.out w6 HM.out.low).2 hn0
                        injection hA with hA
                        subst hA
                        have c0 : w6.cell? (ad.add 0) = some (.int .i64 ov) := hcell 0 (.int .i64 ov) rfl
                        have c1 : w6.cell? (ad.add 1) = some (.int .i64 z) := hcell 1 (.int .i64 z) rfl
                        obtain ⟨bq, hbq⟩ : ∃ b, b = decide (usedA cs s.f z = false ∧ goodR s.now ov z) := ⟨_, rfl⟩
                        have HMVE := Lib.hid (fun (W : World) (hb : Below w6.heap.size w6 W) => HM.out.move_ hs hgg ⟨hgB, hgcB⟩ hb bq hbq)
                        obtain ⟨K, hK⟩ : ∃ K : World → Prop, K = fun W => Below w3.heap.size w3 W ∧ (bq = true → OmSt w3 g gc nch T mv i (cs.set i (movedS s ov z)) t W) := ⟨_, rfl⟩
                        have HKS := Lib.hid (show ∀ W W', K W → Below W.heap.size W W' → K W' from fun W W' h hb => by
                          rw [hK] at h ⊢
                          exact ⟨h.1.trans (hb.mono h.1.size), fun e => (h.2 e).below hb⟩)
                        have HKO := Lib.hid (show ∀ W, K W → Below w3.heap.size w3 W ∧ (bq = true → OmSt w3 g gc nch T mv i (cs.set i (movedS s ov z)) t W) from fun W h => by rw [hK] at h; exact h)
                        have HKI := Lib.hid (show ∀ W, (Below w3.heap.size w3 W ∧ (bq = true → OmSt w3 g gc nch T mv i (cs.set i (movedS s ov z)) t W)) → K W from fun W h => by rw [hK]; exact h)
                        have HBQ := Lib.hid hbq
                        have HSS := Lib.hid hs
                        have hb0 : (ad.add 0).block < w3.heap.size := by rw [block_of_add]; exact had
                        have hb1 : (ad.add 1).block < w3.heap.size := by rw [block_of_add]; exact had
                        have hw36 := HM.out.low.size
                        have HJ0 := Lib.hid (show MvJ w6 (ad.add 0) (ad.add 1) ov z K 0 w6 from ⟨c0, c1, ⟨by omega, by omega⟩, fun _ => Below.refl _ _, fun e => by omega⟩)
                        have HSL := Lib.hid (fun (W : World) => run_slice_from (P := Tryz.prog) (t := 41) (e := 3) Tryz.underlying41 (by kernel_rfl) (some ad) n c2 2 2 rfl (by omega) W)
                        clear hcell c0 c1 hbq hK hs
                        go_upto_region 33 with fail
                        refine wp_region_loud 9 125 (fun jx W v => match jx with
                          | 0 => v = .pointer (some ⟨g, 0, none⟩)
                          | 1 => v = .int .i64 (i : Int)
                          | 2 => v = .slice (some ad) n c2
                          | 3 => v = .pointer (some (ad.add 0))
                          | 4 => v = .int .i64 ov
                          | 5 => v = .slice (some ad) n c2
                          | 6 => v = .pointer (some (ad.add 1))
                          | 7 => v = .int .i64 z
                          | _ => v = .bool bq) (MvJ w6 (ad.add 0) (ad.add 1) ov z K) (fun _ _ => True) [8] [89, 90, 91, 92, 93, 94, 95, 96, 97] (by kernel_rfl) (by kernel_rfl) (by kernel_rfl) (by kernel_rfl) (by first | rfl | simp) (by kernel_rfl) (fun jx => ?last) ?lastR (fun s W W' h1 h2 => h1.later_ HKS.out h2) HJ0.out ?heads ?_
                        case last =>
                          match jx with
                          | 0 | 1 | 2 | 3 | 4 | 5 | 6 | 7 | jx + 8 => exact Lasts.pure _
                        case lastR =>
                          intro s jx W W' u hsl hs hj hp hR
                          match jx with
                          | 0 | 1 | 2 | 3 | 4 | 5 | 6 | 7 | jx + 8 => exact hp
                        case heads =>
                          simp only [List.take_succ_cons, List.take_zero]
                          refine ⟨?_, ?_, ?_, ?_, ?_, ?_, ?_, ?_, ?_, trivial⟩
                          · rw [if_neg (by decide)]
                            intro s a W hj hkp hd
                            have e0 : a.tmps[18]?.getD undef = .pointer (some ⟨g, 0, none⟩) := hkp.get (by kernel_rfl) rfl
                            exact rel_value rfl (.pointer (some ⟨g, 0, none⟩)) (by go_simp) rfl
                          · rw [if_neg (by decide)]
                            intro s a W hj hkp hd
                            have e0 : a.tmps[19]?.getD undef = .int .i64 (i : Int) := hkp.get (by kernel_rfl) rfl
                            exact rel_value rfl (.int .i64 (i : Int)) (by go_simp) rfl
                          · rw [if_neg (by decide)]
                            intro s a W hj hkp hd
                            have e0 : a.tmps[20]?.getD undef = .slice (some ad) n c2 := hkp.get (by kernel_rfl) rfl
                            exact rel_value rfl (.slice (some ad) n c2) (by go_simp) rfl
                          · rw [if_neg (by decide)]
                            intro s a W hj hkp hd
                            have e0 : a.tmps[91]?.getD undef = .slice (some ad) n c2 := (hd 2 (by kernel_rfl)).get 91 rfl rfl
                            exact rel_value rfl (.pointer (some (ad.add 0))) (by go_simp) rfl
                          · rw [if_neg (by decide)]
                            intro s a W hj hkp hd
                            have e0 : a.tmps[92]?.getD undef = .pointer (some (ad.add 0)) := (hd 3 (by kernel_rfl)).get 92 rfl rfl
                            have cc : W.cell? ad = some (.int .i64 ov) := hj.c0
                            exact rel_value rfl (.int .i64 ov) (by go_simp) rfl
                          · rw [if_neg (by decide)]
                            intro s a W hj hkp hd
                            have e0 : a.tmps[20]?.getD undef = .slice (some ad) n c2 := hkp.get (by kernel_rfl) rfl
                            exact rel_value rfl (.slice (some ad) n c2) (by go_simp) rfl
                          · rw [if_neg (by decide)]
                            intro s a W hj hkp hd
                            have e0 : a.tmps[94]?.getD undef = .slice (some ad) n c2 := (hd 5 (by kernel_rfl)).get 94 rfl rfl
                            exact rel_value rfl (.pointer (some (ad.add 1))) (by go_simp) rfl
                          · rw [if_neg (by decide)]
                            intro s a W hj hkp hd
                            have e0 : a.tmps[95]?.getD undef = .pointer (some (ad.add 1)) := (hd 6 (by kernel_rfl)).get 95 rfl rfl
                            have cc : W.cell? { block := ad.block, off := ad.off + 1 } = some (.int .i64 z) := hj.c1
                            exact rel_value rfl (.int .i64 z) (by go_simp) rfl
                          · rw [if_pos (by decide)]
                            intro s a W hs hj hkp hd
                            have e0 : a.tmps[89]?.getD undef = .pointer (some ⟨g, 0, none⟩) := (hd 0 (by kernel_rfl)).get 89 rfl rfl
                            have e1 : a.tmps[90]?.getD undef = .int .i64 (i : Int) := (hd 1 (by kernel_rfl)).get 90 rfl rfl
                            have e2 : a.tmps[93]?.getD undef = .int .i64 ov := (hd 4 (by kernel_rfl)).get 93 rfl rfl
                            have e3 : a.tmps[96]?.getD undef = .int .i64 z := (hd 7 (by kernel_rfl)).get 96 rfl rfl
                            have h0 : s = 0 := by
                              match s, hs with
                              | 0, _ => rfl
                              | s + 1, hs => simp at hs
                            subst h0
                            refine loud_call rfl 106 #[.pointer (some ⟨g, 0, none⟩), .int .i64 (i : Int), .int .i64 ov, .int .i64 z] (by go_simp) ((HMVE.out W (hj.zero rfl)).mono ?_)
                            rintro e w' ⟨rfl, q1, q2, q3⟩
                            exact ⟨_, rfl, trivial, ⟨(World.cell?_of_block (q2 _ hb0)).trans hj.c0, (World.cell?_of_block (q2 _ hb1)).trans hj.c1, ⟨by have := hj.lt.1; omega, by have := hj.lt.2; omega⟩, fun e => by omega, fun _ => HKI.out _ q1⟩, rfl⟩
                        intro fv W hj hd
                        have h97 : fv 97 = .bool bq := hd 8 (by omega) _ 97 rfl rfl
                        obtain ⟨hlW, hsW⟩ := HKO.out W (hj.one rfl)
                        have HLW := Lib.hid hlW
                        have HSW2 := Lib.hid hsW
                        simp only [putAll, List.drop_succ_cons, List.drop_zero, h97]
                        clear hd hj h97 hlW hsW HJ0 HMVE HKS HKO HKI
                        try simp only [Act.put, List.setIfInBounds_toArray, List.set_cons_zero, List.set_cons_succ]
                        cases bq with
                        | true =>
                          have HNX := Lib.hid (HSW2.out rfl)
                          obtain ⟨A', hA'⟩ : ∃ A', A' = (if c2 = 2 then (some ad) else (some ad).map (·.add 2)) := ⟨_, rfl⟩
                          have hrd2 : ∀ W, Below w3.heap.size w3 W → Reads W W.heap.size 1 A' (n - 2) (t.map vn) := fun W hb => by
                            have := (HRD.out W hb).sub (l := 2) (k := n) (cap := c2) hn1 (Nat.le_refl _) hnc
                            simp only [Nat.mul_one] at this
                            rw [← hA'] at this
                            have e : (((ov :: z :: t).map vn).drop 2).take (n - 2) = t.map vn := by
                              show (t.map vn).take (n - 2) = _
                              exact List.take_of_length_le (by have := HRL.out; simp at this ⊢; omega)
                            rw [e] at this
                            exact this
                          have HRD2 := Lib.hid hrd2
                          rw [← hA'] at HSL
                          clear hrd2 hA'
                          go_wp2_with (refine wpList_exec_want (o := ⟨some 88, _, _, _, _, _⟩) rfl (.slice A' (n - 2) (c2 - 2)) (by have h := HSL.out W; go_simp) ?_)
                          go_roundw
                          case rel => exact ⟨_, _, _, _, _, rfl, by have := HRL.out; simp at this; omega, by omega, HRD2.out, HNX.out⟩
                          case measure => simp; omega
                        | false =>
                          have hon : o = none := by
                            rw [HO.out, HOC.out, HM.out.fail HSS.out (of_decide_eq_false HBQ.out.symm)]
                            rfl
                          subst hon
                          have HLR := Lib.hid (show Below w.heap.size w W from (HC3.out.sa.low.trans (HLW.out.mono hlow3)))
                          go_wp2_with fail
                          go_ret2
                          exact ⟨fun _ => ⟨rfl, HLR.out⟩, fun m hm => by cases hm⟩
                      · have hn1I : ¬ (1 : Int) < (n : Int) := by omega
                        have HE := Lib.hid (HM.out.leave hin (by have := HRL.out; omega))
                        go_wp2_with fail
                        go_roundw
                        case rel => exact ⟨i + 1, by omega, by go_num, _, HE.out⟩
                        case measure => simp [intOf]; omega
                  · obtain rfl : i = 2 := by omega
                    have hkh : ∀ b, k.has b → b < w.heap.size := fun b hb => by rcases hb with e | e | e <;> omega
                    obtain ⟨hTs, hoa⟩ := HH.out.answers (w := w) (k := k) (f := numF xss) (by omega) hkh
                    have HTS := Lib.hid hTs
                    have HOA := Lib.hid hoa
                    have HKH := Lib.hid hkh
                    clear hTs hoa HH hkh
                    go_wp2_with fail
                    go_loopw [100] (fun jv wr => ∃ j : Nat, j ≤ 4 ∧ jv = .int .i64 j ∧ OaSt w w3 g gc k cs (numF xss) j wr) (fun jv _ => 4 - (intOf jv).toNat)
                    case atStart => exact ⟨0, by omega, rfl, HOA.out⟩
                    case round =>
                      obtain ⟨j, hj, rfl, hoa⟩ := hrel
                      obtain ⟨w6, rfl⟩ : ∃ x, x = wr := ⟨_, rfl⟩
                      clear HOA
                      have HA := Lib.hid hoa
                      have hlow6 := hoa.low.size
                      have hsa := HSW.out w6 hoa.low
                      have HLA := Lib.hid (HC3.out.sa.low.trans (hoa.low.mono hlow3))
                      clear hoa
                      by_cases hj4 : j < 4
                      · have hjI : (j : Int) < 4 := by omega
                        have h0j : (0 : Int) ≤ (j : Int) := by omega
                        have hj6 : (2 : Int) + (j : Int) < 6 := by omega
                        have hj06 : (0 : Int) ≤ (2 : Int) + (j : Int) := by omega
                        have hjn : ((2 : Int) + (j : Int)).toNat = 2 + j := by omega
                        have hown := hsa.own (2 + j) (by omega)
                        obtain ⟨Ai, ci, hvi, _⟩ := own_slice_n hown
                        obtain ⟨ni, hni⟩ : ∃ q, q = (nI (numF xss (2 + j))).length := ⟨_, rfl⟩
                        rw [← hni] at hvi
                        have hnl := numF_len xss (2 + j)
                        have hnx : (xss.getD (2 + j) []).length ≤ 1000000000000 := by
                          rw [List.getD_eq_getElem?_getD, List.getElem?_eq_getElem (by have := HXL.out; omega)]
                          exact HLX.out _ (List.getElem_mem _)
                        have HTD := Lib.hid (atold_any (vs (2 + j)) (numF xss (2 + j)) w6 w.heap.size hown (by omega) (HMX.out (2 + j) (by omega)))
                        have cc6 : w6.cell? ⟨g6, 2 + j, none⟩ = some (vs (2 + j)) := (hsa.blk.cell (2 + j)).trans (by rw [sixV_at _ _ _ (by omega), if_pos (by omega)])
                        obtain ⟨u, hu⟩ : ∃ u, u = vs (2 + j) := ⟨_, rfl⟩
                        rw [← hu] at HTD cc6 hvi hown
                        have HOWN := Lib.hid hown
                        subst hvi
                        clear hsa hown hni hnl hnx hu
                        go_wp2_with fail
                        refine HTD.out.mono ?_
                        rintro e7 w7 ⟨hb7, hno, hso⟩
                        have hs7 := hb7.size
                        cases hq : toldQ (numF xss (2 + j)) with
                        | none =>
                          obtain ⟨D, he, hds, hd1⟩ := hno hq
                          subst he
                          have hon : o = none := by rw [HO.out, HOC.out, HTS.out]; exact endQ_none hj4 hq
                          subst hon
                          have HLW := Lib.hid (HLA.out.trans (hb7.mono HLA.out.size))
                          have hlw7 := HLW.out.size
                          clear hb7 hno hso hq HTD cc6
                          go_wp2_with (refine wpList_store_part (o := ⟨none, _, _, _, _, _⟩) rfl 144 (.tmp 22) (.tmp 109) rfl w7.heap.size 0 D rfl rfl 144 #[.int .i64 0, .int .i64 0, .slice none 0 0, .int .i64 0, .slice none 0 0] (Blk.newAt rfl) (by rw [hds]; kernel_rfl) (by rw [hds]; simp) hd1 ?_; intro w8 hT8 hD8)
                          go_ret2
                          exact ⟨fun _ => ⟨rfl, hT8.below (HLW.out.alloc (by omega) _) (by omega)⟩, fun m hm => by cases hm⟩
                        | some x =>
                          obtain ⟨A, c3, he, hrd, hc, hcm, hob⟩ := hso x hq
                          subst he
                          obtain ⟨D, hD⟩ : ∃ D, D = lsC x.1 x.2 A c3 := ⟨_, rfl⟩
                          have hds : D.size = 5 := by rw [hD]; rfl
                          have hd1 : D.all (·.oneCell') = true := by rw [hD]; simp [lsC, Value.oneCell']
                          rw [← hD]
                          have HB7 := Lib.hid hb7
                          have HPT := Lib.hid (fun (W : World) (hb : Below w6.heap.size w6 W) => HA.out.put (A := A) (c := c3) (u := .slice Ai ni ci) hj4 hgg ⟨hgB, hgcB⟩ HKH.out hb hq (HMX.out (2 + j) (by omega)) (HOWN.out.below_ hb) hrd ⟨hc, hcm⟩ hob)
                          rw [← hD] at HPT
                          clear hb7 hno hso hq hrd hc hcm hob hD HTD cc6
                          go_upto_region 40 with (refine wpList_store_part (o := ⟨none, _, _, _, _, _⟩) rfl 144 (.tmp 22) (.tmp 109) rfl w7.heap.size 0 D rfl rfl 144 #[.int .i64 0, .int .i64 0, .slice none 0 0, .int .i64 0, .slice none 0 0] (Blk.newAt rfl) (by rw [hds]; kernel_rfl) (by rw [hds]; simp) hd1 ?_; intro w8 hT8 hD8)
                          rw [spl_self _ _ (by rw [hds]; rfl)] at hD8
                          have hb8 : Below w7.heap.size w7 w8 := hT8.below ((Below.refl _ _).alloc (Nat.le_refl _) _) (Nat.le_refl _)
                          obtain ⟨g22, hg22⟩ : ∃ b, b = w7.heap.size := ⟨_, rfl⟩
                          rw [← hg22] at hD8 ⊢
                          have K22 := Lib.hid hD8
                          have HB8 := Lib.hid (HB7.out.trans (hb8.mono hs7))
                          have hs8 := HB8.out.size
                          clear hT8 hD8 hb8 hg22 HB7
                          go_upto_region 42 with fail
                          refine wp_region_calm0 6 125 (by kernel_rfl) (by kernel_rfl) (by kernel_rfl) (by first | rfl | simp) ?_
                          simp only [List.take_succ_cons, List.take_zero, List.drop_succ_cons, List.drop_zero]
                          refine wpCalm_value rfl rfl (.pointer (some ⟨g, 0, none⟩)) (fun W _ => rfl) ?_
                          try simp only [Act.put, List.setIfInBounds_toArray, List.set_cons_zero, List.set_cons_succ]
                          refine wpCalm_value rfl rfl (.int .i64 (j : Int)) (fun W _ => rfl) ?_
                          try simp only [Act.put, List.setIfInBounds_toArray, List.set_cons_zero, List.set_cons_succ]
                          refine wpCalm_load_part rfl 144 (.tmp 22) rfl g22 0 5 rfl 144 _ D _ K22.out Tryz.underlying144 rfl rfl hds (fun _ _ => by rw [Nat.zero_add]) ?_
                          try simp only [Act.put, List.setIfInBounds_toArray, List.set_cons_zero, List.set_cons_succ]
                          refine wpCalm_value rfl rfl (.pointer (some ⟨g, 0, none⟩)) (fun W _ => by go_simp) ?_
                          try simp only [Act.put, List.setIfInBounds_toArray, List.set_cons_zero, List.set_cons_succ]
                          refine wpCalm_value rfl rfl (.pointer (some ⟨g, 2, none⟩)) (fun W _ => by go_simp) ?_
                          try simp only [Act.put, List.setIfInBounds_toArray, List.set_cons_zero, List.set_cons_succ]
                          refine wpCalm_value rfl rfl (.pointer (some ⟨g, 2 + j * 5, none⟩)) (fun W _ => by go_simp) ?_
                          try simp only [Act.put, List.setIfInBounds_toArray, List.set_cons_zero, List.set_cons_succ]
                          refine wpCalm_nil ?_
                          intro w9 hb9
                          obtain ⟨c0, hB0, hz0, hput⟩ := HPT.out w9 (HB8.out.trans (hb9.mono hs8))
                          have HB0 := Lib.hid hB0
                          have HPU := Lib.hid hput
                          clear hb9 hB0 hput HPT
                          go_wp2_with (refine wpList_store_part (o := ⟨none, _, _, _, _, _⟩) rfl 144 (.tmp 118) (.tmp 115) rfl g (2 + j * 5) D rfl rfl 147 c0 HB0.out (by rw [hds]; kernel_rfl) (by rw [hds, hz0]; omega) hd1 ?_; intro w10 hT10 hD10)
                          have HNX := Lib.hid (HPU.out w10 hT10 hD10)
                          clear hT10 hD10 HPU HB0
                          go_wp2_with fail
                          go_roundw
                          case rel => ((repeat apply Exists.intro); exact ⟨⟨j + 1, by omega, by go_num, HNX.out⟩, rfl⟩)
                          case measure => simp [intOf]; omega
                      · obtain rfl : j = 4 := by omega
                        have hom : o = some (midA cs (numF xss) 4) := by rw [HO.out, HOC.out, HTS.out]; exact endQ_some HA.out.told
                        obtain ⟨S, hd⟩ := HA.out.dat
                        have hgl := hd.lt
                        have HPL := Lib.hid (planted_any (fun b => b < w.heap.size) k L asked g gc (midA cs (numF xss) 4) S w6 (HBK.out.below HLA.out) has hd (fun e => by have := HKH.out _ e; omega) (fun e => by have := HKH.out _ e; omega) hgg)
                        have HOM := Lib.hid hom
                        have hkl' := hkl
                        clear hsa hom hd
                        go_wp2_with fail
                        refine HPL.out.mono ?_
                        rintro _ w7 ⟨TL, rfl, hpl⟩
                        have HFIN := Lib.hid (ANew.of_planted hpl HLA.out hkl' (by omega) (by omega) hgl.1 hgl.2 hgg)
                        clear hpl HPL
                        go_wp2_with fail
                        go_ret2
                        refine ⟨fun h => ?_, fun m hm => ?_⟩
                        · rw [HOM.out] at h; cases h
                        · rw [HOM.out] at hm
                          obtain rfl := Option.some.inj hm
                          exact ⟨_, rfl, HFIN.out⟩
  · have h6b : ((n : Int) != 6) = true := by simp; omega
    have hon : o = none := by rw [HO.out]; exact openQ_bad fun hh => h6 (by omega)
    subst hon
    clear hr hbk hlx hxl
    go_enter Tryz.func43, Tryz.ntmps43
    go_wp2_with fail
    go_ret2
    exact ⟨fun _ => ⟨rfl, Below.refl _ _⟩, fun m hm => by cases hm⟩

end Go.Proofs.YtlaodmmjhjpfmaaGreat

/- Small facts for Load: what is left of bytes, rows that grow. -/
namespace Go.Proofs.YtlaodmmjhjpfmaaGreat
set_option linter.unusedVariables false
open Go.RowKit Go.Maps

theorem loadGo_succ (f : Nat) (b : List UInt8) (acc : List (List UInt8)) : loadGo (f + 1) b acc = if (ts b 128).2.2 ≠ 0 then (acc, b, (ts b 128).2.2) else loadGo f (ts b 128).2.1 (acc ++ [(ts b 128).1]) := rfl
theorem OwnL.push_keep {w w3 w6 : World} {B0 : Nat} {v u y : Value} {xss : List (List UInt8)} {vs : List Value} {z : List UInt8} (h : OwnL w B0 v xss vs) (hb : Below w.heap.size w w3) (hg : (w3.alloc (.cells #[u] 22)).grownBy w6 v.ownBlock) (hy : OwnB w3 B0 y z) : OwnB w6 B0 y z := by
  have hal : Below w3.heap.size w3 (w3.alloc (.cells #[u] 22)) := below_lit _ _
  exact (hy.below hal).keep fun b hb' => by
    obtain ⟨cur, hcur⟩ := ownB_blk hy hb'
    refine hg.block b (by have := hy.lt hb'; have := hal.size; omega) fun e => ?_
    have hr3 : w3.ownsRow B0 22 1 v xss.length vs := rowD_keep h.row fun b hb'' => hb.block b (rowD_lt h.row hb'').2
    exact own_blk_ne hr3 hcur (by decide) e.symm
theorem ts_first (b : List UInt8) (most : Nat) : (ts b most).1.length ≤ b.length := by
  rw [ts_eq]
  have := tn_len b
  split
  · simp
  · split
    · simp
    · split
      · simp
      · show ((tn b).2.1.take (tn b).1).length ≤ _
        rw [List.length_take]; omega

end Go.Proofs.YtlaodmmjhjpfmaaGreat

/- Contract of atlas.Load. -/
namespace Go.Proofs.YtlaodmmjhjpfmaaGreat
set_option linter.unusedVariables false
set_option linter.unusedSimpArgs false
open Go.RowKit Go.Maps

attribute [local irreducible] wpList wpCalm
theorem ANew.before {w W w' : World} {k : Book} {V : ALoc} {L : List (List UInt8)} {asked : Nat} {m : AM} (hb : Below w.heap.size w W) (h : ANew W w' k V L asked m) : ANew w w' k V L asked m := by
  have hs := hb.size
  refine ⟨h.kk, h.vat.mono (fun b _ hn => hn.imp id (fun e => by omega)) (fun b hv => .inl hv), ⟨by have := h.new.1; omega, by have := h.new.2.1; omega, fun b hb' => by have := h.new.2.2 b hb'; omega⟩, h.book, (Only.of_below hb).trans h.only⟩
def ALoadPost (w : World) (k : Book) (L : List (List UInt8)) (asked : Nat) (o : Option AM) (n : Nat) (e : Ending) (w' : World) : Prop :=
  (o = none → e = .returned (.tuple #[.pointer none, .int .i64 (n : Int)]) ∧ Below w.heap.size w w') ∧ (∀ m, o = some m → ∃ V : ALoc, e = .returned (.tuple #[.pointer (some ⟨V.g, 0, none⟩), .int .i64 0]) ∧ ANew w w' k V L asked m)
/-- Load under way -/
structure ALdSt (w : World) (xs : List UInt8) (A : Option Addr) (n c : Nat) (lv : Value) (rest : List UInt8) (acc : List (List UInt8)) (vs : List Value) (i : Nat) (wr : World) : Prop where
  rd : Reads wr wr.heap.size 1 A n (rest.map vb)
  cap : n ≤ c
  own : OwnL wr w.heap.size lv acc vs
  al : acc.length = i
  ax : ∀ x, x ∈ acc → x.length ≤ 1000000000000
  go : loadGo 6 xs [] = loadGo (6 - i) rest acc
  low : Below w.heap.size w wr

set_option maxRecDepth 100000 in
set_option maxHeartbeats 8000000 in
theorem aLoad_any (k : Book) (L : List (List UInt8)) (asked : Nat) (A : Option Addr) (n c : Nat) (xs : List UInt8) (w : World) (hbk : BookAt w k L asked) (has : asked ≤ 600000) (hr : Reads w w.heap.size 1 A n (xs.map vb)) (hc : n ≤ c) (hn : n ≤ 1000000000000) :
    Calls Tryz.prog 41 #[.pointer (some ⟨k.g, 0, none⟩), .slice A n c] w (ALoadPost w k L asked (loadQ xs).1 (loadQ xs).2) := by
  obtain ⟨o, ho⟩ : ∃ o, o = (loadQ xs).1 := ⟨_, rfl⟩
  obtain ⟨en, hen⟩ : ∃ o, o = (loadQ xs).2 := ⟨_, rfl⟩
  rw [← ho, ← hen]
  have HO := Lib.hid ho
  have HEN := Lib.hid hen
  have HBK := Lib.hid hbk
  have HST := Lib.hid (show ALdSt w xs A n c (.slice none 0 0) xs [] [] 0 w from ⟨hr, hc, OwnL.nil _ _, rfl, (fun x hx => by simp at hx), rfl, Below.refl _ _⟩)
  obtain ⟨i0, hi0, hz0, hz1, hz2⟩ := info_parts sl8_info
  clear hr hbk ho hen hc
  go_enter Tryz.func41, Tryz.ntmps41
  go_wp2_with fail
  go_loopw [1, 6, 10] (fun bv lv iv wr => ∃ (A : Option Addr) (n c : Nat) (rest : List UInt8) (acc : List (List UInt8)) (vs : List Value) (i : Nat), i ≤ 6 ∧ n ≤ 1000000000000 ∧ bv = .slice A n c ∧ iv = .int .i64 i ∧ ALdSt w xs A n c lv rest acc vs i wr) (fun _ _ iv _ => 6 - (intOf iv).toNat)
  case atStart => exact ⟨_, _, _, _, _, _, 0, by omega, hn, rfl, rfl, HST.out⟩
  case round =>
    obtain ⟨A, n, c, rest, acc, vs, i, hi, hn, rfl, rfl, hst⟩ := hrel
    have HS := Lib.hid hst
    have hsz := hst.low.size
    have hrl : rest.length = n := by have := hst.rd.1; simpa using this
    have HRL := Lib.hid hrl
    clear hrl
    by_cases hin : i < 6
    · have hinI : (i : Int) < 6 := by omega
      have HT := Lib.hid (takeStr_any A n c 128 rest wr wr.heap.size hst.rd (Nat.le_refl _) hst.cap (by omega) (by omega))
      have hgo := HS.out.go.trans ((congrArg (fun q => loadGo q rest acc) (show 6 - i = (6 - (i + 1)) + 1 by omega)).trans (loadGo_succ _ rest acc))
      have hl1 := ts_len rest 128
      have hl2 := ts_first rest 128
      obtain ⟨q, hq⟩ : ∃ q, q = ts rest 128 := ⟨_, rfl⟩
      rw [← hq] at HT hgo hl1 hl2
      obtain ⟨d, r2, e2⟩ := q
      simp only at hgo hl1 hl2
      have HT2 := Lib.hid (show Calls Tryz.prog 47 #[.slice A n c, .int .i64 128] wr _ from HT.out)
      have HGO := Lib.hid hgo
      have HL1 := Lib.hid hl1
      have HL2 := Lib.hid hl2
      clear hst HT hq hgo hl1 hl2
      go_wp2_with fail
      refine HT2.out.mono ?_
      rintro _ w3 ⟨v, v', rfl, hod, hor, hb3⟩
      obtain ⟨Au, cu, hv, q1, q2, q3, q4⟩ := own_slice_b hod
      obtain ⟨A4, c4, hv', p1, p2, p3, p4⟩ := own_slice_b hor
      subst hv hv'
      have HP3 := Lib.hid p3
      have hs3 := hb3.size
      have hrn : r2.length ≤ 1000000000000 := by have := HL1.out; have := HRL.out; omega
      have hdn : d.length ≤ 1000000000000 := by have := HL2.out; have := HRL.out; omega
      obtain ⟨u, hu⟩ : ∃ u, u = Value.slice Au d.length cu := ⟨_, rfl⟩
      have HOR := Lib.hid (show OwnB w3 w.heap.size (.slice A4 r2.length c4) r2 from hor.more hsz)
      have HOD := Lib.hid (show OwnB w3 w.heap.size u d from by rw [hu]; exact hod.more hsz)
      have HB3 := Lib.hid hb3
      clear hod hor q1 q2 q3 q4 p2 p3 p4 HT2
      obtain ⟨nd, hnd⟩ : ∃ k, k = d.length := ⟨_, rfl⟩
      obtain ⟨nr, hnr⟩ : ∃ k, k = r2.length := ⟨_, rfl⟩
      rw [← hnd] at hu hdn ⊢
      rw [← hnr] at hrn p1 HP3 HOR ⊢
      have HND := Lib.hid hnd
      clear hnd hnr
      by_cases he : e2 = 0
      · subst he
        have HW := Lib.hid (show (w3.alloc (.cells #[u] 22)).ownsRow w.heap.size 22 1 _ i vs from by
          have := (rowD_keep HS.out.own.row (w' := w3) fun b hb'' => hb3.block b (rowD_lt HS.out.own.row hb'').2).alloc (.cells #[u] 22)
          rw [HS.out.al] at this
          exact this)
        have HR3 := Lib.hid (reads_cells w3 #[u] 22)
        rw [hu] at HW HR3
        have HU := Lib.hid hu
        clear hb3 hu
        go_wp2_with (at_builtin; go_must (refine wpList_append_any _ rfl (.tmp 21) (.tmp 23) 23 rfl w.heap.size 22 i0 _ 1 24 Tryz.underlying23 hi0 hz0 hz1 hz2 rfl (by omega) _ i vs rfl HW.out (w3.heap.size + 1) (some ⟨w3.heap.size, 0, none⟩) 1 1 [.slice Au nd cu] rfl HR3.out ?c1 ?c2 ?c3 ?c4 ?_))
        case c1 => intro z hz; rw [List.mem_singleton] at hz; subst hz; rfl
        case c2 => unfold maxLen; omega
        case c3 => omega
        case c4 => simp; omega
        intro v6 w6 hown6 hg6 hor6
        rw [← HU.out] at hown6 hg6
        have ho6 : OwnL w6 w.heap.size v6 (acc ++ [d]) (vs ++ [u]) := HS.out.own.push HB3.out HOD.out (by rw [HS.out.al]; exact hown6) hg6
        have hb6 : Below w.heap.size w w6 := grown_below ((HS.out.low.trans (HB3.out.mono hsz)).trans ((below_lit w3 (.cells #[u] 22)).mono (by omega))) (by simp; omega) hg6 (fun b hb => (rowD_lt HS.out.own.row hb).1)
        have hrd6 : Reads w6 w6.heap.size 1 A4 nr (r2.map vb) := (HS.out.own.push_keep HB3.out hg6 HOR.out).reads.2.2.2.1
        have hst6 : ALdSt w xs A4 nr c4 v6 r2 (acc ++ [d]) (vs ++ [u]) (i + 1) w6 := ⟨hrd6, p1, ho6, by rw [List.length_append, HS.out.al]; rfl, (by
          intro x hx
          rcases List.mem_append.1 hx with hx | hx
          · exact HS.out.ax x hx
          · rw [List.mem_singleton] at hx; rw [hx, ← HND.out]; exact hdn), by rw [HGO.out, if_neg (by simp)], hb6⟩
        have HST6 := Lib.hid hst6
        clear hown6 hg6 hor6 ho6 hb6 hrd6 hst6
        go_wp2_with fail
        go_roundw
        case rel => exact ⟨_, _, _, _, _, _, i + 1, by omega, hrn, rfl, by go_num, HST6.out⟩
        case measure => simp [intOf]; omega
      · have heb : ((e2 : Int) != 0) = true := by simp; omega
        have hlo : loadQ xs = (none, e2) := by
          unfold loadQ
          rw [HGO.out, if_pos he]
          simp only
          rw [if_pos he]
        have ho : o = none := by rw [HO.out, hlo]
        have he2 : en = e2 := by rw [HEN.out, hlo]
        have HLOW := Lib.hid (HS.out.low.trans (hb3.mono hsz))
        subst ho he2
        clear hb3 hu hlo HO HEN HS
        go_wp2_with fail
        go_ret2
        exact ⟨fun _ => ⟨rfl, HLOW.out⟩, fun m hm => by cases hm⟩
    · obtain rfl : i = 6 := by omega
      have hinI : ¬ (6 : Int) < 6 := by omega
      have hlg : loadGo 6 xs [] = (acc, rest, 0) := by rw [HS.out.go]; rfl
      have HLG := Lib.hid hlg
      obtain ⟨Al, cl, hlv, hcl, hrows⟩ := HS.out.own.rowsC
      rw [HS.out.al] at hlv hrows
      subst hlv
      have HROWS := Lib.hid hrows
      clear hst hlg hrows hcl
      by_cases h0 : n = 0
      · have h0I : ¬ (0 : Int) < (n : Int) := by omega
        subst h0
        have hlo : loadQ xs = match openQ acc with | none => (none, 2) | some m => (some m, 0) := by
          unfold loadQ
          rw [HLG.out]
          simp only
          rw [if_neg (by simp), if_neg (by rw [HRL.out]; omega)]
          cases openQ acc <;> rfl
        have HBW := Lib.hid (HBK.out.below HS.out.low)
        have HOP := Lib.hid (aOpen_any k L asked Al 6 cl acc wr HBW.out has HROWS.out (by omega) (fun x hx => by have := HS.out.ax x hx; omega))
        have hoo : o = openQ acc := by rw [HO.out, hlo]; cases openQ acc <;> rfl
        have hee : o = none → en = 2 := fun h => by rw [HEN.out, hlo, ← hoo, h]
        rw [← hoo] at HOP
        have HEE := Lib.hid hee
        have HLOW := Lib.hid HS.out.low
        clear hlo hoo hee HO HEN HS HLG
        go_wp2_with fail
        refine HOP.out.mono ?_
        rintro _ w9 ⟨hno, hso⟩
        rcases Option.eq_none_or_eq_some o with hoc | ⟨m, hoc⟩
        · obtain ⟨rfl, hb9⟩ := hno hoc
          have HB9 := Lib.hid (HLOW.out.trans (hb9.mono hsz))
          have he2 : en = 2 := HEE.out hoc
          subst he2
          subst hoc
          clear hno hso hb9 HOP
          go_wp2_with fail
          go_ret2
          exact ⟨fun _ => ⟨rfl, HB9.out⟩, fun m hm => by cases hm⟩
        · obtain ⟨V, rfl, hnew⟩ := hso m hoc
          have HNEW := Lib.hid (ANew.before HLOW.out hnew)
          subst hoc
          clear hno hso hnew HOP
          go_wp2_with fail
          go_ret2
          refine ⟨(fun hm => by cases hm), fun m' hm => ⟨V, rfl, ?_⟩⟩
          rw [← Option.some.inj hm]
          exact HNEW.out
      · have h0I : (0 : Int) < (n : Int) := by omega
        have hlo : loadQ xs = (none, 4) := by
          unfold loadQ
          rw [HLG.out]
          simp only
          rw [if_neg (by simp), if_pos (by rw [HRL.out]; omega)]
        have ho : o = none := by rw [HO.out, hlo]
        have he2 : en = 4 := by rw [HEN.out, hlo]
        have HLOW := Lib.hid HS.out.low
        subst ho he2
        clear hlo HO HEN HS
        go_wp2_with fail
        go_ret2
        exact ⟨fun _ => ⟨rfl, HLOW.out⟩, fun m hm => by cases hm⟩

end Go.Proofs.YtlaodmmjhjpfmaaGreat
