/-
  Contract of wish.Parse, with what is told of its memory.
-/
import Derived.Test.YtcmbmimmfgfefaaParse
namespace Go.Proofs.Ytcmbmimmfgfefaa
set_option linter.unusedVariables false
open Go.RowKit

set_option maxRecDepth 100000 in
set_option maxHeartbeats 4000000 in
theorem parse_fresh (A : Option Addr) (n c : Nat) (xs : List UInt8) (w : World) (B : Nat) (h : Reads w B 1 A n (xs.map vb)) (hB : B ≤ w.heap.size) (hc : n ≤ c) (hn : n ≤ 140737488355328) :
    Calls Try.prog 8 #[.slice A n c] w fun e w' => ∃ A1 n1 c1 A2 n2 c2, e = .returned (.tuple #[.agg (wCells (parse xs).1 A1 n1 c1 A2 n2 c2), .int .i64 ((parse xs).2 : Int)]) ∧ WishIn w' w'.heap.size (parse xs).1 A1 n1 c1 A2 n2 c2 ∧ Below w.heap.size w w' ∧ (∀ a, 0 < n1 → A1 = some a → w.heap.size ≤ a.block) ∧ (∀ a, 0 < n2 → A2 = some a → w.heap.size ≤ a.block) := by
  have H := Lib.hid h
  clear h
  go_enter Try.func8, Try.ntmps8
  go_upto_region 4 with fail
  generalize hW : World.alloc _ _ = W
  obtain ⟨f, hf⟩ : ∃ f, f = vlN (xs, 0) := ⟨_, rfl⟩
  have h4 : W.heap[w.heap.size]? = some (.cells (cellsAt f 0) 26) ∧ W.heap[w.heap.size + 1]? = some (.cells (rdCells A n c 0) 62) ∧ W.heap[w.heap.size + 1 + 1]? = some (.cells (cellsAt f 0) 26) ∧ W.heap[w.heap.size + 1 + 1 + 1]? = some (.cells (ptrsAt (w.heap.size + 1 + 1)) 63) ∧ W.heap.size = w.heap.size + 4 ∧ Below w.heap.size w W := by
    rw [← hW]
    exact four_new w _ _ _ _
  obtain ⟨b2, br, bw, bp, hsz, hbl⟩ := h4
  obtain ⟨g2, hg2⟩ : ∃ g, g = w.heap.size := ⟨_, rfl⟩
  rw [← hg2] at b2 br bw bp ⊢
  obtain ⟨gr, hgr⟩ : ∃ g, g = g2 + 1 := ⟨_, rfl⟩
  rw [← hgr] at br bw bp ⊢
  obtain ⟨gw, hgw⟩ : ∃ g, g = gr + 1 := ⟨_, rfl⟩
  rw [← hgw] at bw bp ⊢
  obtain ⟨gp, hgp⟩ : ∃ g, g = gw + 1 := ⟨_, rfl⟩
  rw [← hgp] at bp ⊢
  have hrd : RdAt W gr (fun b => b = gr ∨ b = gw) (xs, 0) := ⟨by omega, A, n, c, br, hc, hn, (H.out.below (hbl.mono hB)).more (by omega), fun a h0 ha hor => by
    obtain ⟨ad, hA, hb, _⟩ := H.out.2 h0
    rw [hA] at ha
    injection ha with ha
    subst ha
    rcases hor with e | e <;> omega⟩
  have HF := Lib.hid hf
  have K2 := Lib.hid (show Blk W g2 26 (cellsAt f 0) from b2)
  have KW := Lib.hid (show Blk W gw 26 (cellsAt f 0) from bw)
  have KP := Lib.hid (show Blk W gp 63 (ptrsAt gw) from bp)
  have HB := Lib.hid hbl
  have HRD := Lib.hid hrd
  have ho1 : g2 < gr := by omega
  have ho2 : gr < gw := by omega
  have ho3 : gw < gp := by omega
  have ho4 : gp < W.heap.size := by omega
  have ho5 : w.heap.size ≤ g2 := by omega
  clear hf hW b2 br bw bp hbl hrd hg2 hgr hgw hgp hsz
  go_loopw [20] (fun iv wr => ∃ i : Nat, i ≤ 6 ∧ iv = .int .i64 i ∧ Blk wr gw 26 (cellsAt f i) ∧ Blk wr gp 63 (ptrsAt gw) ∧ Blk wr g2 26 (cellsAt f 0) ∧ RdAt wr gr (fun b => b = gr ∨ b = gw) (stN (xs, 0) i) ∧ Below w.heap.size w wr) (fun iv _ => 6 - (intOf iv).toNat)
  case atStart => exact ⟨0, by omega, rfl, KW.out, KP.out, K2.out, HRD.out, HB.out⟩
  case round =>
    obtain ⟨i, hi, rfl, kw, kp, k2, hrd, hbl⟩ := hrel
    have KW1 := Lib.hid kw
    have KP1 := Lib.hid kp
    have K21 := Lib.hid k2
    have HR1 := Lib.hid hrd
    have HB1 := Lib.hid hbl
    have hgpl := kp.lt
    have hwl := hbl.size
    by_cases hi6 : i < 6
    · have cp : wr.cell? ⟨gp, i, none⟩ = some (.pointer (some ⟨gw, offAt i, none⟩)) := (kp.cell i).trans (ptrsAt_at gw i hi6)
      clear kw kp k2 hrd hbl
      go_wp2_with fail
      refine (rdNum_any gr _ _ wr HR1.out (by rintro b (rfl | rfl) <;> omega) (.inl rfl)).mono ?_
      rintro _ w2 ⟨rfl, hr2, ho⟩
      have kw2 := KW1.out.only ho (by omega)
      have cw : w2.cell? ⟨gw, offAt i, none⟩ = some (.int .i64 0) := (kw2.cell _).trans (cellsAt_at f i hi6)
      have fw := kw2.frozen (offAt i)
      have hfi : f i = (rdN (stN (xs, 0) i)).1 := by rw [HF.out]; rfl
      rw [← hfi]
      have HR2 := Lib.hid (hr2.beside (OnlyAt.of_set (g := gw) w2 (offAt i) (.int .i64 (f i : Int))) (.inr rfl) (by omega))
      have KW2 := Lib.hid (kw2.set_ (offAt i) (.int .i64 (f i : Int)))
      rw [cellsAt_next f i hi6] at KW2
      have KP2 := Lib.hid ((KP1.out.only ho (by omega)).only (OnlyAt.of_set (g := gw) w2 (offAt i) (.int .i64 (f i : Int))) (by omega))
      have K22 := Lib.hid ((K21.out.only ho (by omega)).only (OnlyAt.of_set (g := gw) w2 (offAt i) (.int .i64 (f i : Int))) (by omega))
      have HB2 := Lib.hid ((OnlyAt.of_set (g := gw) w2 (offAt i) (.int .i64 (f i : Int))).below (ho.below HB1.out hwl (by omega)) (by have := ho.size; omega) (by omega))
      clear hr2 ho kw2 hfi
      go_wp2_with fail
      go_roundw
      case rel => exact ⟨i + 1, by omega, by go_num, KW2.out, KP2.out, K22.out, HR2.out, HB2.out⟩
      case measure => simp [intOf]; omega
    · obtain rfl : i = 6 := by omega
      clear kw kp k2 hrd hbl
      have hq : pD xs = rdT (stN (xs, 0) 6) 16 := rfl
      go_wp2_with fail
      refine (rdStr_any gr 16 _ _ wr HR1.out (by rintro b (rfl | rfl) <;> omega) (.inl rfl) (by omega)).mono ?_
      rw [← hq]
      rintro _ w2 ⟨dv, rfl, hdv, hr2, ho⟩
      have HDV := Lib.hid hdv
      obtain ⟨Ad, cd, rfl, hcd, hcdm, _, _⟩ := own_slice_b hdv
      have kw2 := KW1.out.only ho (by omega)
      have cw : w2.cell? ⟨gw, 6, none⟩ = some (.slice none 0 0) := (kw2.cell 6).trans rfl
      have fw := kw2.frozen 6
      have hoA := OnlyAt.of_set (g := gw) w2 6 (.slice Ad (pD xs).1.length cd)
      have hP := Lib.hid (show PSt w (w2.setCell ⟨gw, 6, none⟩ (.slice Ad (pD xs).1.length cd)) gr gw g2 (pD xs).2 (cellsW f (.slice Ad (pD xs).1.length cd) 0 0 (.slice none 0 0)) f (.slice Ad (pD xs).1.length cd) (pD xs).1 from
        ⟨hr2.beside hoA (.inr rfl) (by omega), kw2.set_ 6 _, (K21.out.only ho (by omega)).only hoA (by omega), hoA.below (ho.below HB1.out hwl (by omega)) (by have := ho.size; omega) (by omega),
          (HDV.out.keep fun b hb => hoA.block b (HDV.out.lt hb) (by have := HDV.out.ge hb; omega)).more hwl, fun b hb => by have := HDV.out.ge hb; omega⟩)
      clear hr2 ho kw2 hdv hq hoA HDV
      obtain ⟨dl, hdl⟩ : ∃ dl, dl = (pD xs).1.length := ⟨_, rfl⟩
      rw [← hdl] at hP hcd ⊢
      have HDLN := Lib.hid hdl
      clear hdl
      go_upto_region 9 with fail
      generalize w2.setCell _ _ = w3 at hP ⊢
      clear cw fw
      have hs3 := hP.out.bl.size
      have hlr := hP.out.rd.lt
      have hlw := hP.out.kw.lt
      go_wp2_with fail
      refine (rdNum_any gr _ _ w3 hP.out.rd (by rintro b (rfl | rfl) <;> omega) (.inl rfl)).mono ?_
      rintro _ w4 ⟨rfl, hr4, ho4⟩
      have hP4 := Lib.hid (hP.out.num hr4 ho4 (by omega) (by omega) (by omega))
      have cw : w4.cell? ⟨gw, 7, none⟩ = some (.int .i64 ((0 : Nat) : Int)) := (hP4.out.kw.cell 7).trans rfl
      have fw := hP4.out.kw.frozen 7
      clear hr4 ho4
      rw [show (rdN (pD xs).2).1 = vlN (pD xs).2 0 from rfl]
      have hP5 := Lib.hid (hP4.out.set 7 (.int .i64 (vlN (pD xs).2 0 : Int)) (by omega) (by omega) (by omega))
      go_upto_region 10 with fail
      generalize w4.setCell _ _ = w5 at hP5 ⊢
      have hs5 := hP5.out.bl.size
      have hlr5 := hP5.out.rd.lt
      have hlw5 := hP5.out.kw.lt
      clear cw fw
      go_wp2_with fail
      refine (rdNum_any gr _ _ w5 hP5.out.rd (by rintro b (rfl | rfl) <;> omega) (.inl rfl)).mono ?_
      rintro _ w6 ⟨rfl, hr6, ho6⟩
      have hP6 := Lib.hid (hP5.out.num hr6 ho6 (by omega) (by omega) (by omega))
      have cw : w6.cell? ⟨gw, 8, none⟩ = some (.int .i64 ((0 : Nat) : Int)) := (hP6.out.kw.cell 8).trans rfl
      have fw := hP6.out.kw.frozen 8
      clear hr6 ho6
      rw [show (rdN (rdN (pD xs).2).2).1 = vlN (pD xs).2 1 from rfl]
      have hP7 := Lib.hid (hP6.out.set 8 (.int .i64 (vlN (pD xs).2 1 : Int)) (by omega) (by omega) (by omega))
      go_upto_region 11 with fail
      generalize w6.setCell _ _ = w7 at hP7 ⊢
      have hP7' := Lib.hid (show PSt w w7 gr gw g2 (stN (pD xs).2 2) (cellsW f (.slice Ad dl cd) (vlN (pD xs).2 0) (vlN (pD xs).2 1) (.slice none 0 0)) f (.slice Ad dl cd) (pD xs).1 from hP7.out)
      have hs7 := hP7.out.bl.size
      have hlr7 := hP7.out.rd.lt
      have hlw7 := hP7.out.kw.lt
      clear cw fw hP hP4 hP5 hP6 hP7
      go_wp2_with fail
      refine (rdMany_any gr 7 _ _ w7 hP7'.out.rd (by rintro b (rfl | rfl) <;> omega) (.inl rfl) (by omega)).mono ?_
      rw [show rdM (stN (pD xs).2 2) 7 = pM xs from rfl]
      rintro _ w8 ⟨rfl, hr8, ho8⟩
      have hP8 := Lib.hid (hP7'.out.num hr8 ho8 (by omega) (by omega) (by omega))
      clear hr8 ho8 hP7'
      have hs8 := hP8.out.bl.size
      obtain ⟨B2, hB2⟩ : ∃ B2, B2 = w8.heap.size := ⟨_, rfl⟩
      have hm7 : (pM xs).1 ≤ 7 := rdM_le _ 7
      have hfar : PFar w gr gw g2 B2 (.slice Ad dl cd) := ⟨by rw [hB2]; exact hP8.out.rd.lt, by rw [hB2]; exact hP8.out.kw.lt, by rw [hB2]; exact hP8.out.k2.lt, fun b hb => by rw [hB2]; exact hP8.out.dat.lt hb, by omega, by omega⟩
      have HFR := Lib.hid hfar
      have hB2l : B2 ≤ w8.heap.size := by omega
      have HBE := Lib.hid hB2
      clear hfar hB2
      obtain ⟨m, hm⟩ : ∃ m, m = (pM xs).1 := ⟨_, rfl⟩
      rw [← hm] at hm7 ⊢
      have HM := Lib.hid hm
      clear hm
      go_wp2_with fail
      go_loopw [40] (fun iv wr => ∃ (i : Nat) (v : Value), i ≤ m ∧ iv = .int .i64 i ∧ PSt w wr gr gw g2 (stN (pM xs).2 i) (cellsW f (.slice Ad dl cd) (vlN (pD xs).2 0) (vlN (pD xs).2 1) v) f (.slice Ad dl cd) (pD xs).1 ∧ OwnN wr B2 v ((List.range i).map fun j => (vlN (pM xs).2 j : Int)) ∧ RdAt wr gr (fun b => (b = gr ∨ b = gw) ∨ v.ownBlock = some b) (stN (pM xs).2 i) ∧ B2 ≤ wr.heap.size) (fun iv _ => m - (intOf iv).toNat)
      case atStart => exact ⟨0, .slice none 0 0, by omega, rfl, hP8.out, ⟨rfl, .inl ⟨rfl, rfl⟩⟩, hP8.out.rd.mono (fun b hb => .inl (by rcases hb with h | h; exact h; cases h)), hB2l⟩
      case round =>
        obtain ⟨i, v, hi, rfl, hp, hov, hrd, hBl⟩ := hrel
        have HP := Lib.hid hp
        have HOV := Lib.hid hov
        have HRD2 := Lib.hid hrd
        have hlr9 := hp.rd.lt
        have hlw9 := hp.kw.lt
        clear hp hov hrd
        by_cases him : i < m
        · obtain ⟨LA, Lc, hlv⟩ := own_shape HOV.out
          have hlen : ((List.range i).map fun j => (vlN (pM xs).2 j : Int)).length = i := by simp
          rw [hlen] at hlv
          have c0 : wr.cell? ⟨gw, 9, none⟩ = some (.slice LA i Lc) := by rw [← hlv]; exact (HP.out.kw.cell 9).trans rfl
          have HNM := Lib.hid (rdNum_any gr _ _ wr.drew (HRD2.out.below (Below.refl _ wr).drew) (by
            show ∀ b, ((b = gr ∨ b = gw) ∨ v.ownBlock = some b) → b < wr.heap.size
            rintro b ((rfl | rfl) | hb)
            · omega
            · omega
            · exact own_lt HOV.out hb) (.inl (.inl rfl)))
          rw [show (rdN (stN (pM xs).2 i)).1 = vlN (pM xs).2 i from rfl] at HNM
          obtain ⟨i0, hi0, hz0, hz1, hz2⟩ := info_parts (show (Try.prog.info? 3).map (fun i => (i.zero, i.size, i.bytes)) = some (some (.int .i64 0), 1, 8) by kernel_rfl)
          go_upto_region 13 with fail
          obtain ⟨zs, hzs⟩ : ∃ zs, zs = (List.range i).map fun j => (vlN (pM xs).2 j : Int) := ⟨_, rfl⟩
          rw [← hzs] at HOV hlen
          obtain ⟨z, hz⟩ : ∃ z, z = vlN (pM xs).2 i := ⟨_, rfl⟩
          rw [← hz] at HNM
          have hnx : ((List.range (i + 1)).map fun j => (vlN (pM xs).2 j : Int)) = zs ++ [(z : Int)] := by rw [List.range_succ, List.map_append, hzs, hz]; rfl
          have HNX := Lib.hid hnx
          have HZS := Lib.hid hzs
          have HLEN := Lib.hid hlen
          have HLV := Lib.hid hlv
          have HVN := Lib.hid (fun b (hb : v.ownBlock = some b) => (⟨own_lt HOV.out hb, by have := own_ge HOV.out hb; have := HFR.out.r; omega, by have := own_ge HOV.out hb; have := HFR.out.w; omega⟩ : b < wr.heap.size ∧ b ≠ gr ∧ b ≠ gw))
          clear hzs hz hnx hlen hlv
          go_region_law (first
            | (go_simp; go_at_call 26; refine HNM.out.mono ?_; rintro _ w6 ⟨rfl, hr6, ho6⟩; have hk6 := Blk.only (w := wr.drew) HP.out.kw ho6 (by omega); have c6 : w6.cell? ⟨gw, 9, none⟩ = some (.slice LA i Lc) := (by rw [← HLV.out]; exact (hk6.cell 9).trans rfl); have c7 := fun o => (World.cell?_alloc_lt w6 o ⟨gw, 9, none⟩ hk6.lt).trans c6)
            | (refine step_append_any _ rfl (.tmp 43) (.tmp 46) 24 rfl B2 3 i0 _ 1 8 Try.underlying24 hi0 hz0 hz1 hz2 rfl (by omega) (.slice LA i Lc) i (zs.map vn) rfl (own_later HOV.out HLV.out HLEN.out (fun b hb => (ho6.block b (HVN.out b hb).1 (HVN.out b hb).2.1)) ho6.size (fun b hb => (HVN.out b hb).1)) (w6.heap.size + 1) (some ⟨w6.heap.size, 0, none⟩) 1 1 [.int .i64 (z : Int)] rfl (reads_first _ _ _) (by simp [Value.oneCell']) (by unfold maxLen; omega) (by omega) (by have h5 := ho6.size; have h6 : wr.drew.heap.size = wr.heap.size := rfl; simp; omega) ?_; intro v8 w8' hown8 hg8 hor8; obtain ⟨A8, C8, rfl⟩ := own_shape' hown8; have HB8 := (hk6.alloc _).grown hg8 (by rw [← HLV.out]; exact fun e => (HVN.out gw e.symm).2.2 rfl); have c8 : w8'.cell? ⟨gw, 9, none⟩ = some v := (HB8.cell 9).trans rfl; have f8 := HB8.frozen 9))
          all_goals
            have hP6 := PSt.num (w := wr.drew) (w' := w6) (h := ⟨HP.out.rd.below (Below.refl _ wr).drew, HP.out.kw, HP.out.k2, HP.out.bl.drew, HP.out.dat, HP.out.dne⟩) (hr6.mono (fun b hb => .inl (.inl hb))) ho6 (by omega) (by omega) (by omega)
            have hpu := PSt.push (B2 := B2) hP6 hr6 (HLV.out ▸ hg8) (v8 := .slice A8 (i + 1) C8) (HLV.out ▸ hor8) (fun b hb => own_ge HOV.out hb) HFR.out (by omega)
            have HPU := Lib.hid hpu
            have HO8 := Lib.hid (show OwnN (w8'.setCell ⟨gw, 9, none⟩ (.slice A8 (i + 1) C8)) B2 (.slice A8 (i + 1) C8) ((List.range (i + 1)).map fun j => (vlN (pM xs).2 j : Int)) from by
              rw [HNX.out]
              have h1 : OwnN w8' B2 (.slice A8 (i + 1) C8) (zs ++ [(z : Int)]) := by
                unfold OwnN
                rw [List.length_append, List.map_append, HLEN.out]
                exact hown8
              exact own_keep h1 fun b hb => Below.heap_setCell w8' ⟨gw, 9, none⟩ _ b (by have := own_ge h1 hb; have := HFR.out.w; show b ≠ gw; omega))
            have hsz8 : B2 ≤ w8'.heap.size := by have h1 := hg8.size; have h2 := ho6.size; have h3 : wr.drew.heap.size = wr.heap.size := rfl; simp at h1; omega
            clear hP6 hpu hown8 hg8 hor8 HB8 c8 f8 c6 c7 hk6 hr6 ho6 c0
            generalize hW9 : w8'.setCell _ _ = w9 at HPU HO8 ⊢
            have hsz9 : B2 ≤ w9.heap.size := by rw [← hW9]; simpa [World.setCell] using hsz8
            clear hW9 hsz8
            go_wp2_with fail
            go_roundw
            case rel => exact ⟨i + 1, _, by omega, by go_num, HPU.out.1, HO8.out, HPU.out.2, hsz9⟩
            case measure => simp [intOf]; omega
        · obtain rfl : i = m := by omega
          clear HRD2
          have hpe : rdE (stN (pM xs).2 i) = parseE xs := by unfold parseE; rw [← HM.out]
          have hE := rdEnd_any gr _ (stN (pM xs).2 i) wr HP.out.rd (.inl rfl)
          rw [hpe] at hE
          obtain ⟨ec, hec⟩ : ∃ ec, ec = parseE xs := ⟨_, rfl⟩
          have hpa := parse_ways xs
          obtain ⟨A2, c2, hv2⟩ := own_shape HOV.out
          have hl2 : ((List.range i).map fun j => (vlN (pM xs).2 j : Int)).length = i := by simp
          rw [hl2] at hv2
          have hcl : cellsW f (.slice Ad dl cd) (vlN (pD xs).2 0) (vlN (pD xs).2 1) (.slice A2 i c2) = wCells (parseW xs) Ad dl cd A2 i c2 := parse_cells xs f _ _ _ _ _ _ HF.out
          have hdt : (parseW xs).data = (pD xs).1 := parse_data xs
          have hnt : (parseW xs).next = (List.range i).map fun j => (vlN (pM xs).2 j : Int) := parse_next xs i HM.out
          have hrg := parse_rng xs
          rw [hv2, ← hnt] at HOV
          rw [hv2, hcl, ← hdt] at HP
          rw [← hdt] at HDLN
          obtain ⟨PW, hPW⟩ : ∃ PW, PW = parseW xs := ⟨_, rfl⟩
          rw [← hec] at hE hpa
          rw [← hPW] at hpa HOV HP HDLN hrg
          have HRG := Lib.hid hrg
          have HE := Lib.hid hE
          have HPA := Lib.hid hpa
          clear hpe hE hec hpa hcl hdt hnt hrg hPW hv2 hl2
          go_wp2_with fail
          refine HE.out.mono ?_
          rintro _ w9 ⟨rfl, hr9, ho9⟩
          have HP9 := Lib.hid (HP.out.num hr9 ho9 (by omega) (by omega) (by omega))
          have HO9 := Lib.hid (own_keep (w' := w9) HOV.out fun b hb => ho9.block b (own_lt HOV.out hb) (by have := own_ge HOV.out hb; have := HFR.out.r; omega))
          clear hr9 ho9
          by_cases hec : ec = 0
          · subst hec
            obtain ⟨mb, hmb⟩ : ∃ mb, mb = mayB PW := ⟨_, rfl⟩
            have hwi : WishIn w9 w9.heap.size PW Ad dl cd A2 i c2 := wishIn_own HP9.out.dat HO9.out HRG.out.2 HRG.out.1
            have hck := check_any PW Ad dl cd A2 i c2 w9 w9.heap.size hwi (Nat.le_refl _)
            rw [← hmb] at hck
            have HCK := Lib.hid hck
            have HMB := Lib.hid (fun (_ : Unit) => hmb)
            have hwz : (wCells PW Ad dl cd A2 i c2).size = 10 := rfl
            clear hck hwi hmb
            go_wp2_with (refine wpList_load_part rfl 26 (.tmp 5) rfl gw 0 10 rfl 26 _ (wCells PW Ad dl cd A2 i c2) _ HP9.out.kw Try.underlying26 rfl rfl rfl (fun _ _ => by rw [Nat.zero_add]) ?_)
            refine HCK.out.mono ?_
            rintro _ w10 ⟨rfl, hb10⟩
            have K10 := Lib.hid (HP9.out.kw.under hb10)
            have K2' := Lib.hid (HP9.out.k2.under hb10)
            have HB10 := Lib.hid (HP9.out.bl.trans (hb10.mono HP9.out.bl.size))
            have HD10 := Lib.hid (HP9.out.dat.below hb10)
            have HO10 := Lib.hid (own_keep (w' := w10) HO9.out fun b hb => hb10.block b (own_lt HO9.out hb))
            have HNE := Lib.hid (HP9.out.dne)
            clear hb10 HP9 HO9 HE
            cases mb with
            | false =>
              go_wp2_with (refine wpList_store_part rfl 26 (.tmp 2) (.tmp 58) rfl g2 0 (wCells zeroW none 0 0 none 0 0) rfl rfl 26 _ K2'.out (wCells_info _ _ _ _ _ _ _) (by simp [wCells, cellsAt]) (wCells_one _ _ _ _ _ _ _) ?_; intro w11 hT10 hD10; rw [spl_self _ _ (by simp [wCells, cellsAt])] at hD10)
              have hpq := (HPA.out ()).2.2 trivial (HMB.out ()).symm
              refine bodyPost_ret (results_part2 rfl _ _ g2 10 26 _ _ rfl hD10 Try.underlying26 rfl rfl rfl) rfl ⟨none, 0, 0, none, 0, 0, by rw [hpq]; rfl, by rw [hpq]; exact wishIn_zero _ _, ?_⟩
              exact ⟨hT10.below HB10.out (by omega), fun a h => absurd h (by omega), fun a h => absurd h (by omega)⟩
            | true =>
              go_wp2_with (first
                | (refine wpList_load_part rfl 26 (.tmp 5) rfl gw 0 10 rfl 26 _ (wCells PW Ad dl cd A2 i c2) _ K10.out Try.underlying26 rfl rfl rfl (fun _ _ => by rw [Nat.zero_add]) ?_)
                | (refine wpList_store_part rfl 26 (.tmp 2) (.tmp 60) rfl g2 0 (wCells PW Ad dl cd A2 i c2) rfl rfl 26 _ K2'.out (wCells_info _ _ _ _ _ _ _) (by simp [wCells, cellsAt]) (wCells_one _ _ _ _ _ _ _) ?_; intro w11 hT10 hD10; rw [spl_self _ _ (by simp [wCells, cellsAt])] at hD10))
              have hpq := (HPA.out ()).2.1 trivial (HMB.out ()).symm
              refine bodyPost_ret (results_part2 rfl _ _ g2 10 26 _ _ rfl hD10 Try.underlying26 rfl rfl rfl) rfl ⟨Ad, dl, cd, A2, i, c2, by rw [hpq]; rfl, ?_, hT10.below HB10.out (by omega), fun a _ ha => HD10.out.ge (by rw [ha]; rfl), fun a _ ha => by have := own_ge HO10.out (b := a.block) (by rw [ha]; rfl); have := HFR.out.o; omega⟩
              rw [hpq]
              exact wishIn_own (HD10.out.keep fun b hb => hT10.block b (HNE.out b hb).2.2) (own_keep HO10.out fun b hb => hT10.block b (by have := own_ge HO10.out hb; have := HFR.out.z; omega)) HRG.out.2 HRG.out.1
          · have hec' : ¬ (ec : Int) = 0 := by omega
            go_wp2_with (refine wpList_store_part rfl 26 (.tmp 2) (.tmp 58) rfl g2 0 (wCells zeroW none 0 0 none 0 0) rfl rfl 26 _ HP9.out.k2 (wCells_info _ _ _ _ _ _ _) (by simp [wCells, cellsAt]) (wCells_one _ _ _ _ _ _ _) ?_; intro w10 hT10 hD10; rw [spl_self _ _ (by simp [wCells, cellsAt])] at hD10)
            refine bodyPost_ret (results_part2 rfl _ _ g2 10 26 _ _ rfl hD10 Try.underlying26 rfl rfl rfl) rfl ⟨none, 0, 0, none, 0, 0, by rw [(HPA.out ()).1 hec]; rfl, by rw [(HPA.out ()).1 hec]; exact wishIn_zero _ _, ?_⟩
            exact ⟨hT10.below HP9.out.bl (by omega), fun a h => absurd h (by omega), fun a h => absurd h (by omega)⟩

end Go.Proofs.Ytcmbmimmfgfefaa
