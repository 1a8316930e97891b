/-
  VaultReads: the law's walk.
-/
import Derived.Test.YtfjopbbgcjgpbaaGreatZ18
import Derived.Deep.DeepCutAuto
namespace Go.Proofs.YtfjopbbgcjgpbaaGreat
set_option linter.unusedVariables false
open Go.RowKit Go.Maps

attribute [local irreducible] wpList wpCalm
/-- the state at a round's head -/
structure RdSt (w0 : World) (V : VLoc) (g5 i : Nat) (W : World) : Prop where
  ex : ∃ m bs, RunOk m i i ∧ m.blocks = bs.map rep16 ∧ bs.length = 8 ∧ LSt w0 V (fun b => V.all b ∨ b = g5) m (48 + 10 * i) W ∧ Blk W g5 48 (bRow bs)
theorem bRow_at (bs : List UInt8) (i : Nat) (h : i < bs.length) : (bRow bs)[i]? = some (vb bs[i]) := by
  unfold bRow
  rw [List.getElem?_toArray, List.getElem?_map, List.getElem?_eq_getElem h]; rfl
theorem bRow_set (bs : List UInt8) (i : Nat) (b : UInt8) : (bRow bs).setIfInBounds i (vb b) = bRow (bs.set i b) := by
  unfold bRow
  apply Array.toList_inj.1
  simp [List.map_set]

/-- the state behind a wish -/
structure RdMid (w0 : World) (V : VLoc) (g5 i : Nat) (W : World) : Prop where
  ex : ∃ m bs, RunOk m i (i + 1) ∧ m.blocks = bs.map rep16 ∧ bs.length = 8 ∧ LSt w0 V (fun b => V.all b ∨ b = g5) m (54 + 10 * i) W ∧ Blk W g5 48 (bRow bs)
set_option maxRecDepth 100000 in
set_option maxHeartbeats 16000000 in
theorem vaultReads_law (A : Option Addr) (n c : Nat) (xs : List Int) (w : World) (hr : Reads w w.heap.size 1 A n (xs.map vn)) (hxs : ∀ z, z ∈ xs → -9223372036854775808 ≤ z ∧ z ≤ 9223372036854775807) (hn : n ≤ 1000000000000000000) :
    Calls Tryz.prog 4 #[.slice A n c] w fun e w' => e = .returned (.bool true) ∧ Below w.heap.size w w' := by
  have hxl : xs.length = n := by have := hr.1; simpa using this
  have HR := Lib.hid hr
  have HXS := Lib.hid hxs
  have HXL := Lib.hid hxl
  clear hr hxs hxl
  go_enter Tryz.func4, Tryz.ntmps4
  go_wp2_with fail
  refine (vworks_any w).mono ?_
  rintro _ wa ⟨rfl, hba⟩
  have HBA := Lib.hid hba
  clear hba
  go_wp2_with fail
  refine (inkNew_any wa).mono ?_
  rintro _ w1 ⟨k, rfl, hbk, hkn, hb1⟩
  have hsa := HBA.out.size
  have HNW := Lib.hid (vNew_at k [] 0 1 w1 hbk (by omega) (by omega))
  have HB1 := Lib.hid (HBA.out.trans (hb1.mono hsa))
  have HKN := Lib.hid (show w.heap.size ≤ k.g ∧ w.heap.size ≤ k.b1 ∧ w.heap.size ≤ k.b2 by omega)
  clear hb1 hkn hbk HBA
  go_wp2_with fail
  refine (HNW.out _ rfl).mono ?_
  rintro _ w2 ⟨V, rfl, hna⟩
  have hkk := hna.kk
  subst hkk
  have HLS := Lib.hid (LSt.start HB1.out HKN.out hna)
  clear hna HNW HB1
  go_upto_region 7 with fail
  have hZ8 : (#[.int .u8 0, .int .u8 0, .int .u8 0, .int .u8 0, .int .u8 0, .int .u8 0, .int .u8 0, .int .u8 0] : Array Value) = bRow (List.replicate 8 0) := by kernel_rfl
  rw [hZ8]
  obtain ⟨g5, hg5⟩ : ∃ g, g = w2.heap.size := ⟨_, rfl⟩
  have HRD := Lib.hid (show RdSt w V g5 0 (w2.alloc (.cells (bRow (List.replicate 8 0)) 48)) from ⟨newV 1, List.replicate 8 0, RunOk.new, by simp [newV, rep16], by simp, (HLS.out.grow hg5 _).more (by omega), Blk.newAt hg5⟩)
  rw [← hg5]
  have HG5 := Lib.hid (show ¬ V.all g5 from fun hv => by have := HLS.out.nlt _ hv; omega)
  have hg5w : w.heap.size ≤ g5 := by have := HLS.out.low.size; omega
  generalize World.alloc w2 _ = w3 at HRD ⊢
  clear hZ8 hg5
  go_wp2_with fail
  go_loopw [6] (fun iv wr => ∃ i : Nat, i ≤ n ∧ i ≤ 60 ∧ iv = .int .i64 i ∧ RdSt w V g5 i wr) (fun iv _ => n - (intOf iv).toNat)
  case atStart => exact ⟨0, by omega, by omega, rfl, HRD.out⟩
  case round =>
    obtain ⟨i, hi, hi60, rfl, hst⟩ := hrel
    obtain ⟨m, bs, hrun, hbl, hbl8, hls, hk5⟩ := hst.ex
    have HST := Lib.hid hst
    have HRUN := Lib.hid hrun
    have HBL := Lib.hid hbl
    have HB8 := Lib.hid hbl8
    have HL := Lib.hid hls
    have HK5 := Lib.hid hk5
    clear hst hrun hbl hbl8 hls hk5
    go_upto_region 8 with fail
    go_cut [29] (fun s29 wx => s29 = .bool (decide (i < n ∧ i < 60)) ∧ wx = wr)
    case first =>
      by_cases hin : i < n
      · go_wp2_with fail
        go_meet
        exact ⟨by simp [hin]; omega, rfl⟩
      · go_wp2_with fail
        go_meet
        exact ⟨by simp [hin], rfl⟩
    case rest =>
      obtain ⟨rfl, rfl⟩ := hcut
      by_cases hlt : i < n ∧ i < 60
      · rw [decide_eq_true hlt]
        obtain ⟨ad, hA, hadb, hcell⟩ := HR.out.2 (by omega)
        subst hA
        have hxi : i < xs.length := by have := HXL.out; omega
        obtain ⟨z, hz⟩ : ∃ z, z = xs[i] := ⟨_, rfl⟩
        have hzb : -9223372036854775808 ≤ z ∧ z ≤ 9223372036854775807 := by rw [hz]; exact HXS.out _ (List.getElem_mem hxi)
        have hcz := hcell i (.int .i64 z) (by rw [List.getElem?_map, List.getElem?_eq_getElem hxi, hz]; rfl)
        have CZ := Lib.hid (fun (W : World) (hb : Below w.heap.size w W) => (hb.cell (show (ad.add i).block < w.heap.size by rw [block_of_add]; omega)).trans hcz)
        have hz1 := hzb.1
        have hz2 := hzb.2
        obtain ⟨x, hx⟩ : ∃ x, x = wishV m.epoch z ((i + 1 : Nat) : Int) := ⟨_, rfl⟩
        have HWI := Lib.hid (fun (s : Int) (hs : s = ((i + 1 : Nat) : Int)) => (show Calls Tryz.prog 15 #[.pointer (some ⟨V.g, 0, none⟩), .int .i64 z, .int .i64 s] wc (WishPost wc x) from hs ▸ hx ▸ vwish_any wc V _ m HL.out.vat z ((i + 1 : Nat) : Int) hz1 hz2 (by omega) (by omega)))
        have hstep := HRUN.out.step z (k := i + 1) (by omega) (by omega)
        have hblk := doV_blocks HRUN.out z (k := i + 1) (by omega) (by omega) HBL.out HB8.out
        have hof : x.kind ≠ 5 → x.block = blockW z ∧ (x.kind = 1 ∧ x.data = [] ∨ x.kind = 2 ∧ x.data = rep16 (byteW z)) := fun h => by
          have := wishV_of (ep := m.epoch) (n := z) (stamp := ((i + 1 : Nat) : Int)) (by rw [← hx]; exact h)
          rw [← hx] at this
          exact ⟨this.2.2.1, this.2.2.2.2⟩
        have hkv : x.kind = 5 ∨ x.kind = 1 ∨ x.kind = 2 := by
          rw [hx, wishV_kind]
          split
          · exact .inl rfl
          · split
            · exact .inr (.inl rfl)
            · exact .inr (.inr rfl)
        rw [← hx] at hstep hblk
        obtain ⟨b, hb⟩ : ∃ b, b = (blockW z).toNat := ⟨_, rfl⟩
        have hbw := blockW_le z
        have hb8 : b < 8 := by omega
        have hbI : blockW z = (b : Int) := by omega
        rw [← hb] at hblk
        rw [hbI] at hof
        obtain ⟨p, hp⟩ : ∃ p, p = doV m x := ⟨_, rfl⟩
        rw [← hp] at hstep hblk
        have HP := Lib.hid hp
        have HSTEP := Lib.hid hstep
        have HBLK := Lib.hid hblk
        have HOF := Lib.hid hof
        have hcz2 := CZ.out wc HL.out.low
        have hdl : p.2.1.data.length ≤ 16 := by rw [hp]; exact doV_len HRUN.out.ok x
        have hlow := HL.out.low.size
        have hiI : (i : Int) < (n : Int) := by omega
        have h0I : (0 : Int) ≤ (i : Int) := by omega
        have HZD := Lib.hid hz
        have HMUT := Lib.hid HL.out.mut
        clear hcell hzb hcz hz hx hstep hblk hof hbw hbI hb hp
        go_wp2_with fail
        refine (HWI.out _ (by omega)).mono ?_
        rintro _ w4 ⟨Ax, qx, Ay, qy, rfl, hwi, hAx, hAy, hb4⟩
        have HL4 := Lib.hid (HL.out.below hb4)
        have HWIN := Lib.hid hwi
        have HAX := Lib.hid hAx
        have HK54 := Lib.hid (HK5.out.below' hb4)
        have hs4 := hb4.size
        obtain ⟨dl, hdle⟩ : ∃ k, k = x.data.length := ⟨_, rfl⟩
        obtain ⟨nl, hnle⟩ : ∃ k, k = x.next.length := ⟨_, rfl⟩
        rw [← hdle, ← hnle] at HWIN ⊢
        have HDLE := Lib.hid hdle
        clear hwi hAx hAy hb4 hcz2 HL HK5 HWI hdle hnle HST
        go_upto_region 11 with (refine wpList_store_part (o := ⟨none, _, _, _, _, _⟩) rfl 37 (.tmp 7) (.tmp 39) rfl w4.heap.size 0 (wCells x Ax dl qx Ay nl qy) rfl rfl 37 (wCells zeroW none 0 0 none 0 0) (Blk.newAt rfl) (wCells_info _ _ _ _ _ _ _) (by simp [wCells]) (wCells_one _ _ _ _ _ _ _) ?_; intro w5 hT5 hD5; rw [wC_spl] at hD5)
        have hb5 : Below w4.heap.size w4 w5 := hT5.below ((Below.refl _ _).alloc (Nat.le_refl _) _) (Nat.le_refl _)
        have hs5 := hb5.size
        have HL5 := Lib.hid (HL4.out.below hb5)
        have HK55 := Lib.hid (HK54.out.below' hb5)
        have HWIN5 := Lib.hid ((HWIN.out.below hb5).more hs5)
        obtain ⟨g7, hg7⟩ : ∃ g, g = w4.heap.size := ⟨_, rfl⟩
        rw [← hg7] at hD5 ⊢
        have HG7 := Lib.hid (show ¬ V.has g7 from fun hv => by have := HL4.out.mut _ hv; omega)
        have HD5 := Lib.hid hD5
        have hg7l := hD5.lt
        have HDO := Lib.hid (HL5.out.do_ (by omega) x Ax dl qx Ay nl qy w5.heap.size HWIN5.out (Nat.le_refl _) (fun ad h0 ha => by have := HAX.out ad ha; have := HMUT.out V.g (.inl rfl); omega))
        rw [← HP.out] at HDO
        clear hT5 hb5 hD5 HL4 HK54 hg7
        go_wp2_with (refine wpList_load_part (o := ⟨some 42, _, _, _, _, _⟩) rfl 37 (.tmp 7) rfl g7 0 10 rfl 37 _ (wCells x Ax dl qx Ay nl qy) _ HD5.out Tryz.underlying37 rfl rfl rfl (fun _ _ => by rw [Nat.zero_add]) ?_)
        refine HDO.out.mono ?_
        rintro _ w6 ⟨A3, q3, rfl, ho3, hl6, hon⟩
        have HL6 := Lib.hid hl6
        have HO6 := Lib.hid ho3
        have HG76 := Lib.hid (hon.blk HD5.out HG7.out)
        have HK56 := Lib.hid (hon.blk HK55.out (fun hv => HG5.out (by rcases hv with e | e | e; exact .inl e; exact .inr (.inr (.inr (.inr e))); exact .inr (.inl e))))
        have HWIN6 := Lib.hid (show Reads w6 w6.heap.size 1 Ax dl (x.data.map vb) from hon.reads HWIN5.out.data (fun a h0 ha hv => by have := HAX.out a ha; have := HMUT.out _ hv; omega))
        have hs6 := hon.size
        have h00 : ((p.2.2 : Nat) : Int) = 0 := by rw [HSTEP.out.1]; rfl
        rw [h00]
        clear h00 hl6 ho3 hon HDO HL5 HK55 HWIN5 HWIN
        obtain ⟨er, her⟩ : ∃ e, e = p.2.1.err := ⟨_, rfl⟩
        obtain ⟨al, hal⟩ : ∃ e, e = p.2.1.data.length := ⟨_, rfl⟩
        obtain ⟨dat, hdat⟩ : ∃ e, e = p.2.1.data := ⟨_, rfl⟩
        rw [← her, ← hal]
        rw [← hal, ← hdat] at HO6
        rw [← her, ← hdat] at HBLK
        rw [← hal] at hdl
        have HER := Lib.hid her
        clear her hal hdat
        go_upto_region 12 with (refine wpList_store_part (o := ⟨none, _, _, _, _, _⟩) rfl 33 (.tmp 8) (.tmp 44) rfl w6.heap.size 0 (aC er A3 al q3 p.2.1.epoch) rfl rfl 33 (aC 0 none 0 0 0) (Blk.newAt rfl) (aC_info _ _ _ _ _) (by simp [aC]) (aC_one _ _ _ _ _) ?_; intro w7 hT7 hD7; rw [aC_spl] at hD7)
        have hb7 : Below w6.heap.size w6 w7 := hT7.below ((Below.refl _ _).alloc (Nat.le_refl _) _) (Nat.le_refl _)
        have hs7 := hb7.size
        have HL7 := Lib.hid (HL6.out.below hb7)
        have HK57 := Lib.hid (HK56.out.below' hb7)
        have HG77 := Lib.hid (HG76.out.below' hb7)
        have HO7 := Lib.hid (HO6.out.below hb7)
        have HW7 := Lib.hid ((HWIN6.out.below hb7).more hs7)
        obtain ⟨g8, hg8⟩ : ∃ g, g = w6.heap.size := ⟨_, rfl⟩
        rw [← hg8] at hD7 ⊢
        have HG87 := Lib.hid hD7
        clear hT7 hb7 hD7 hg8 HL6 HK56 HG76 HO6 HWIN6
        go_upto_region 14 with fail
        have ck : ∀ W, Below w7.heap.size w7 W → W.cell? ⟨g7, 4, none⟩ = some (.int .i64 x.kind) := fun W hb => ((HG77.out.below' hb).cell 4).trans rfl
        have ce : ∀ W, Below w7.heap.size w7 W → W.cell? ⟨g8, 0, none⟩ = some (.int .i64 (er : Int)) := fun W hb => ((HG87.out.below' hb).cell 0).trans rfl
        have CK := Lib.hid ck
        have CE := Lib.hid ce
        go_cut [66] (fun s66 wx => s66 = .bool false ∧ Below w7.heap.size w7 wx)
        case first =>
          by_cases hk1 : x.kind = 1
          · have hkb : (x.kind == 1) = true := by simpa using hk1
            by_cases he : er = 0
            · have heb : ((er : Int) == 0) = true := by simp [he]
              have hof := HOF.out (by omega)
              have hdt := HBLK.out.1 hk1 he
              rw [List.getD_eq_getElem?_getD, List.getElem?_eq_getElem (by rw [HB8.out]; exact hb8), Option.getD_some] at hdt
              obtain ⟨y, hy⟩ : ∃ y, y = bs[b]'(by rw [HB8.out]; exact hb8) := ⟨_, rfl⟩
              rw [← hy] at hdt
              have c5b : ∀ W, Below w7.heap.size w7 W → W.cell? ⟨g5, b, none⟩ = some (vb y) := fun W hb => ((HK57.out.below' hb).cell b).trans (by rw [hy]; exact bRow_at _ _ _)
              have hvb : vb y = .int .u8 (bi y) := rfl
              rw [hvb] at c5b
              have cda : ∀ W, Below w7.heap.size w7 W → W.cell? ⟨g8, 1, none⟩ = some (.slice A3 al q3) := fun W hb => ((HG87.out.below' hb).cell 1).trans rfl
              have cbk : ∀ W, Below w7.heap.size w7 W → W.cell? ⟨g7, 5, none⟩ = some (.int .i64 (b : Int)) := fun W hb => ((HG77.out.below' hb).cell 5).trans (by rw [← hof.1]; rfl)
              have HSX := Lib.hid (fun W => sixteen_any y W)
              rw [hvb] at HSX
              have HDT := Lib.hid hdt
              have C5B := Lib.hid c5b
              have CDA := Lib.hid cda
              have CBK := Lib.hid cbk
              have hbI : (b : Int) < 8 := by omega
              clear ck ce c5b cda cbk hof hdt hy hvb
              refine wp_region_rel' 18 112 (fun jx W v => match jx with
                | 0 => v = .pointer (some ⟨g7, 4, none⟩)
                | 1 => v = .int .i64 x.kind
                | 2 => v = .bool true
                | 3 => v = .bool true
                | 4 => v = .pointer (some ⟨g8, 0, none⟩)
                | 5 => v = .int .i64 (er : Int)
                | 6 => v = .bool true
                | 7 => v = .bool true
                | 8 => v = .bool true
                | 9 => v = .pointer (some ⟨g8, 1, none⟩)
                | 10 => v = .slice A3 al q3
                | 11 => v = .pointer (some ⟨g7, 5, none⟩)
                | 12 => v = .int .i64 (b : Int)
                | 13 => v = .pointer (some ⟨g5, b, none⟩)
                | 14 => v = .int .u8 (bi y)
                | 15 => OwnB W w7.heap.size v (rep16 y)
                | 16 => v = .bool true
                | _ => v = .bool false) [48, 49, 50, 51, 52, 53, 54, 55, 56, 57, 58, 59, 60, 61, 62, 63, 64, 65] (by kernel_rfl) (by kernel_rfl) (by kernel_rfl) (by simp) (by kernel_rfl) (fun jx => ?last) ?heads ?_
              case last =>
                match jx with
                | 0 | 1 | 2 | 3 | 4 | 5 | 6 | 7 | 8 | 9 | 10 | 11 | 12 | 13 | 14 | 16 | jx + 17 => exact Lasts.pure _
                | 15 => exact lasts_own _ _
              case heads =>
                simp only [List.take_succ_cons, List.take_zero]
                refine ⟨fun a W hb hkp hd => ?_, fun a W hb hkp hd => ?_, fun a W hb hkp hd => ?_, fun a W hb hkp hd => ?_, fun a W hb hkp hd => ?_, fun a W hb hkp hd => ?_, fun a W hb hkp hd => ?_, fun a W hb hkp hd => ?_, fun a W hb hkp hd => ?_, fun a W hb hkp hd => ?_, fun a W hb hkp hd => ?_, fun a W hb hkp hd => ?_, fun a W hb hkp hd => ?_, fun a W hb hkp hd => ?_, fun a W hb hkp hd => ?_, fun a W hb hkp hd => ?_, fun a W hb hkp hd => ?_, fun a W hb hkp hd => ?_, trivial⟩
                · have e0 : a.tmps[7]?.getD undef = .pointer (some ⟨g7, 0, none⟩) := hkp.get (by kernel_rfl) rfl
                  exact rel_value rfl (.pointer (some ⟨g7, 4, none⟩)) (by go_simp) rfl
                · have e0 : a.tmps[48]?.getD undef = .pointer (some ⟨g7, 4, none⟩) := (hd 0 (by kernel_rfl)).get 48 rfl rfl
                  have cc := CK.out W hb
                  exact rel_value rfl (.int .i64 x.kind) (by go_simp) rfl
                · have e0 : a.tmps[49]?.getD undef = .int .i64 x.kind := (hd 1 (by kernel_rfl)).get 49 rfl rfl
                  exact rel_value rfl (.bool true) (by go_simp) rfl
                · have e0 : a.tmps[50]?.getD undef = .bool true := (hd 2 (by kernel_rfl)).get 50 rfl rfl
                  exact rel_value rfl (.bool true) (by go_simp) rfl
                · have e0 : a.tmps[8]?.getD undef = .pointer (some ⟨g8, 0, none⟩) := hkp.get (by kernel_rfl) rfl
                  have eg : a.tmps[51]?.getD undef = .bool true := (hd 3 (by kernel_rfl)).get 51 rfl rfl
                  exact rel_value (wanted_at rfl rfl eg) (.pointer (some ⟨g8, 0, none⟩)) (by go_simp) rfl
                · have e0 : a.tmps[52]?.getD undef = .pointer (some ⟨g8, 0, none⟩) := (hd 4 (by kernel_rfl)).get 52 rfl rfl
                  have eg : a.tmps[51]?.getD undef = .bool true := (hd 3 (by kernel_rfl)).get 51 rfl rfl
                  have cc := CE.out W hb
                  exact rel_value (wanted_at rfl rfl eg) (.int .i64 (er : Int)) (by go_simp) rfl
                · have e0 : a.tmps[53]?.getD undef = .int .i64 (er : Int) := (hd 5 (by kernel_rfl)).get 53 rfl rfl
                  have eg : a.tmps[51]?.getD undef = .bool true := (hd 3 (by kernel_rfl)).get 51 rfl rfl
                  exact rel_value (wanted_at rfl rfl eg) (.bool true) (by go_simp) rfl
                · have e0 : a.tmps[51]?.getD undef = .bool true := (hd 3 (by kernel_rfl)).get 51 rfl rfl
                  have e1 : a.tmps[54]?.getD undef = .bool true := (hd 6 (by kernel_rfl)).get 54 rfl rfl
                  exact rel_value rfl (.bool true) (by go_simp) rfl
                · have e0 : a.tmps[55]?.getD undef = .bool true := (hd 7 (by kernel_rfl)).get 55 rfl rfl
                  exact rel_value rfl (.bool true) (by go_simp) rfl
                · have e0 : a.tmps[8]?.getD undef = .pointer (some ⟨g8, 0, none⟩) := hkp.get (by kernel_rfl) rfl
                  have eg : a.tmps[56]?.getD undef = .bool true := (hd 8 (by kernel_rfl)).get 56 rfl rfl
                  exact rel_value (wanted_at rfl rfl eg) (.pointer (some ⟨g8, 1, none⟩)) (by go_simp) rfl
                · have e0 : a.tmps[57]?.getD undef = .pointer (some ⟨g8, 1, none⟩) := (hd 9 (by kernel_rfl)).get 57 rfl rfl
                  have eg : a.tmps[56]?.getD undef = .bool true := (hd 8 (by kernel_rfl)).get 56 rfl rfl
                  have cc := CDA.out W hb
                  exact rel_value (wanted_at rfl rfl eg) (.slice A3 al q3) (by go_simp) rfl
                · have e0 : a.tmps[7]?.getD undef = .pointer (some ⟨g7, 0, none⟩) := hkp.get (by kernel_rfl) rfl
                  have eg : a.tmps[56]?.getD undef = .bool true := (hd 8 (by kernel_rfl)).get 56 rfl rfl
                  exact rel_value (wanted_at rfl rfl eg) (.pointer (some ⟨g7, 5, none⟩)) (by go_simp) rfl
                · have e0 : a.tmps[59]?.getD undef = .pointer (some ⟨g7, 5, none⟩) := (hd 11 (by kernel_rfl)).get 59 rfl rfl
                  have eg : a.tmps[56]?.getD undef = .bool true := (hd 8 (by kernel_rfl)).get 56 rfl rfl
                  have cc := CBK.out W hb
                  exact rel_value (wanted_at rfl rfl eg) (.int .i64 (b : Int)) (by go_simp) rfl
                · have e0 : a.tmps[5]?.getD undef = .pointer (some ⟨g5, 0, none⟩) := hkp.get (by kernel_rfl) rfl
                  have e1 : a.tmps[60]?.getD undef = .int .i64 (b : Int) := (hd 12 (by kernel_rfl)).get 60 rfl rfl
                  have eg : a.tmps[56]?.getD undef = .bool true := (hd 8 (by kernel_rfl)).get 56 rfl rfl
                  exact rel_value (wanted_at rfl rfl eg) (.pointer (some ⟨g5, b, none⟩)) (by go_simp) rfl
                · have e0 : a.tmps[61]?.getD undef = .pointer (some ⟨g5, b, none⟩) := (hd 13 (by kernel_rfl)).get 61 rfl rfl
                  have eg : a.tmps[56]?.getD undef = .bool true := (hd 8 (by kernel_rfl)).get 56 rfl rfl
                  have cc := C5B.out W hb
                  exact rel_value (wanted_at rfl rfl eg) (.int .u8 (bi y)) (by go_simp) rfl
                · have e0 : a.tmps[62]?.getD undef = .int .u8 (bi y) := (hd 14 (by kernel_rfl)).get 62 rfl rfl
                  have eg : a.tmps[56]?.getD undef = .bool true := (hd 8 (by kernel_rfl)).get 56 rfl rfl
                  exact rel_call (wanted_at rfl rfl eg) 25 #[.int .u8 (bi y)] (by go_simp) ((HSX.out W).mono fun e w ⟨v, h1, h2, h3⟩ => ⟨v, h1, h3, h2.more hb.size⟩)
                · have e0 : a.tmps[58]?.getD undef = .slice A3 al q3 := (hd 10 (by kernel_rfl)).get 58 rfl rfl
                  have e1 := (hd 15 (by kernel_rfl)).get 63 rfl rfl
                  have eg : a.tmps[56]?.getD undef = .bool true := (hd 8 (by kernel_rfl)).get 56 rfl rfl
                  obtain ⟨As, cs, hv, q1, q2, q5, q4⟩ := own_slice_b e1
                  rw [show (rep16 y).length = 16 by simp [rep16]] at hv q5
                  have hz := hb.size
                  refine rel_call (wanted_at rfl rfl eg) 24 #[.slice A3 al q3, .slice As 16 cs] (by go_simp) ((eqBytes_any A3 As al 16 q3 cs dat (rep16 y) W W.heap.size W.heap.size (((HO7.out.below hb).reads).2.2.2.1) q5 (by unfold maxLen; omega) (by unfold maxLen; omega)).mono ?_)
                  rintro e w ⟨rfl, kk, rfl⟩
                  exact ⟨.bool true, by rw [decide_eq_true HDT.out], below_drewN (Below.refl _ _) _, rfl⟩
                · have e0 : a.tmps[64]?.getD undef = .bool true := (hd 16 (by kernel_rfl)).get 64 rfl rfl
                  have eg : a.tmps[56]?.getD undef = .bool true := (hd 8 (by kernel_rfl)).get 56 rfl rfl
                  exact rel_value (wanted_at rfl rfl eg) (.bool false) (by go_simp) rfl
              intro f W hbW hd
              have f65 : f 65 = .bool false := hd 17 (by omega) _ 65 rfl rfl
              have f56 : f 56 = .bool true := hd 8 (by omega) _ 56 rfl rfl
              clear hd
              simp only [putAll, List.drop_succ_cons, List.drop_zero, f65, f56]
              try simp only [Act.put, List.setIfInBounds_toArray, List.set_cons_zero, List.set_cons_succ]
              go_wp2_with fail
              go_meet
              exact ⟨rfl, hbW⟩
            · have heb : ((er : Int) == 0) = false := by simpa using he
              refine wp_region_calm0 18 112 (by kernel_rfl) (by kernel_rfl) (by kernel_rfl) (by simp) ?_
              simp only [List.take_succ_cons, List.take_zero, List.drop_succ_cons, List.drop_zero]
              refine wpCalm_value rfl rfl (.pointer (some ⟨g7, 4, none⟩)) (fun W _ => by go_simp) ?_
              try simp only [Act.put, List.setIfInBounds_toArray, List.set_cons_zero, List.set_cons_succ]
              refine wpCalm_below rfl rfl (.int .i64 x.kind) (fun W hb => by have := ck W hb; go_simp) ?_
              try simp only [Act.put, List.setIfInBounds_toArray, List.set_cons_zero, List.set_cons_succ]
              refine wpCalm_value rfl rfl (.bool true) (fun W _ => by go_simp) ?_
              try simp only [Act.put, List.setIfInBounds_toArray, List.set_cons_zero, List.set_cons_succ]
              refine wpCalm_value rfl rfl (.bool true) (fun W _ => rfl) ?_
              try simp only [Act.put, List.setIfInBounds_toArray, List.set_cons_zero, List.set_cons_succ]
              refine wpCalm_value rfl rfl (.pointer (some ⟨g8, 0, none⟩)) (fun W _ => by go_simp) ?_
              try simp only [Act.put, List.setIfInBounds_toArray, List.set_cons_zero, List.set_cons_succ]
              refine wpCalm_below rfl rfl (.int .i64 (er : Int)) (fun W hb => by have := ce W hb; go_simp) ?_
              try simp only [Act.put, List.setIfInBounds_toArray, List.set_cons_zero, List.set_cons_succ]
              refine wpCalm_value rfl rfl (.bool false) (fun W _ => by go_simp) ?_
              try simp only [Act.put, List.setIfInBounds_toArray, List.set_cons_zero, List.set_cons_succ]
              refine wpCalm_value rfl rfl (.bool false) (fun W _ => by go_simp) ?_
              try simp only [Act.put, List.setIfInBounds_toArray, List.set_cons_zero, List.set_cons_succ]
              refine wpCalm_value rfl rfl (.bool false) (fun W _ => rfl) ?_
              try simp only [Act.put, List.setIfInBounds_toArray, List.set_cons_zero, List.set_cons_succ]
              refine wpCalm_skip rfl rfl ?_
              try simp only [Act.put, List.setIfInBounds_toArray, List.set_cons_zero, List.set_cons_succ]
              refine wpCalm_skip rfl rfl ?_
              try simp only [Act.put, List.setIfInBounds_toArray, List.set_cons_zero, List.set_cons_succ]
              refine wpCalm_skip rfl rfl ?_
              try simp only [Act.put, List.setIfInBounds_toArray, List.set_cons_zero, List.set_cons_succ]
              refine wpCalm_skip rfl rfl ?_
              try simp only [Act.put, List.setIfInBounds_toArray, List.set_cons_zero, List.set_cons_succ]
              refine wpCalm_skip rfl rfl ?_
              try simp only [Act.put, List.setIfInBounds_toArray, List.set_cons_zero, List.set_cons_succ]
              refine wpCalm_skip rfl rfl ?_
              try simp only [Act.put, List.setIfInBounds_toArray, List.set_cons_zero, List.set_cons_succ]
              refine wpCalm_skip rfl rfl ?_
              try simp only [Act.put, List.setIfInBounds_toArray, List.set_cons_zero, List.set_cons_succ]
              refine wpCalm_skip rfl rfl ?_
              try simp only [Act.put, List.setIfInBounds_toArray, List.set_cons_zero, List.set_cons_succ]
              refine wpCalm_skip rfl rfl ?_
              try simp only [Act.put, List.setIfInBounds_toArray, List.set_cons_zero, List.set_cons_succ]
              refine wpCalm_nil ?_
              intro W hbW
              go_wp2_with fail
              go_meet
              exact ⟨rfl, hbW⟩
          · have hkb : (x.kind == 1) = false := by simpa using hk1
            refine wp_region_calm0 18 112 (by kernel_rfl) (by kernel_rfl) (by kernel_rfl) (by simp) ?_
            simp only [List.take_succ_cons, List.take_zero, List.drop_succ_cons, List.drop_zero]
            refine wpCalm_value rfl rfl (.pointer (some ⟨g7, 4, none⟩)) (fun W _ => by go_simp) ?_
            try simp only [Act.put, List.setIfInBounds_toArray, List.set_cons_zero, List.set_cons_succ]
            refine wpCalm_below rfl rfl (.int .i64 x.kind) (fun W hb => by have := ck W hb; go_simp) ?_
            try simp only [Act.put, List.setIfInBounds_toArray, List.set_cons_zero, List.set_cons_succ]
            refine wpCalm_value rfl rfl (.bool false) (fun W _ => by go_simp) ?_
            try simp only [Act.put, List.setIfInBounds_toArray, List.set_cons_zero, List.set_cons_succ]
            refine wpCalm_value rfl rfl (.bool false) (fun W _ => rfl) ?_
            try simp only [Act.put, List.setIfInBounds_toArray, List.set_cons_zero, List.set_cons_succ]
            refine wpCalm_skip rfl rfl ?_
            try simp only [Act.put, List.setIfInBounds_toArray, List.set_cons_zero, List.set_cons_succ]
            refine wpCalm_skip rfl rfl ?_
            try simp only [Act.put, List.setIfInBounds_toArray, List.set_cons_zero, List.set_cons_succ]
            refine wpCalm_skip rfl rfl ?_
            try simp only [Act.put, List.setIfInBounds_toArray, List.set_cons_zero, List.set_cons_succ]
            refine wpCalm_value rfl rfl (.bool false) (fun W _ => by go_simp) ?_
            try simp only [Act.put, List.setIfInBounds_toArray, List.set_cons_zero, List.set_cons_succ]
            refine wpCalm_value rfl rfl (.bool false) (fun W _ => rfl) ?_
            try simp only [Act.put, List.setIfInBounds_toArray, List.set_cons_zero, List.set_cons_succ]
            refine wpCalm_skip rfl rfl ?_
            try simp only [Act.put, List.setIfInBounds_toArray, List.set_cons_zero, List.set_cons_succ]
            refine wpCalm_skip rfl rfl ?_
            try simp only [Act.put, List.setIfInBounds_toArray, List.set_cons_zero, List.set_cons_succ]
            refine wpCalm_skip rfl rfl ?_
            try simp only [Act.put, List.setIfInBounds_toArray, List.set_cons_zero, List.set_cons_succ]
            refine wpCalm_skip rfl rfl ?_
            try simp only [Act.put, List.setIfInBounds_toArray, List.set_cons_zero, List.set_cons_succ]
            refine wpCalm_skip rfl rfl ?_
            try simp only [Act.put, List.setIfInBounds_toArray, List.set_cons_zero, List.set_cons_succ]
            refine wpCalm_skip rfl rfl ?_
            try simp only [Act.put, List.setIfInBounds_toArray, List.set_cons_zero, List.set_cons_succ]
            refine wpCalm_skip rfl rfl ?_
            try simp only [Act.put, List.setIfInBounds_toArray, List.set_cons_zero, List.set_cons_succ]
            refine wpCalm_skip rfl rfl ?_
            try simp only [Act.put, List.setIfInBounds_toArray, List.set_cons_zero, List.set_cons_succ]
            refine wpCalm_skip rfl rfl ?_
            try simp only [Act.put, List.setIfInBounds_toArray, List.set_cons_zero, List.set_cons_succ]
            refine wpCalm_nil ?_
            intro W hbW
            go_wp2_with fail
            go_meet
            exact ⟨rfl, hbW⟩
        case rest =>
          obtain ⟨rfl, hbc⟩ := hcut
          have HL8 := Lib.hid (HL7.out.below hbc)
          have HK58 := Lib.hid (HK57.out.below' hbc)
          have HG78 := Lib.hid (HG77.out.below' hbc)
          have HG88 := Lib.hid (HG87.out.below' hbc)
          have HW8 := Lib.hid ((HW7.out.below hbc).more hbc.size)
          obtain ⟨w8, hw8⟩ : ∃ W : World, W = wc := ⟨_, rfl⟩
          rw [← hw8] at HL8 HK58 HG78 HG88 HW8 ⊢
          clear hbc hw8 ck ce CK CE HL7 HK57 HG77 HG87 HW7 HO7
          have ck : ∀ W, Below w8.heap.size w8 W → W.cell? ⟨g7, 4, none⟩ = some (.int .i64 x.kind) := fun W hb => ((HG78.out.below' hb).cell 4).trans rfl
          have ce : w8.cell? ⟨g8, 0, none⟩ = some (.int .i64 (er : Int)) := (HG88.out.cell 0).trans rfl
          have ck0 := ck w8 (Below.refl _ _)
          clear ck
          go_upto_region 16 with fail
          go_cut [74] (fun s74 wx => s74 = .bool (decide (x.kind = 2 ∧ er = 0)) ∧ wx = w8)
          case first =>
            by_cases hk2 : x.kind = 2
            · have hkb : (x.kind == 2) = true := by simpa using hk2
              by_cases he : er = 0
              · have heb : ((er : Int) == 0) = true := by simp [he]
                go_wp2_with fail
                go_meet
                exact ⟨by simp [hk2, he], rfl⟩
              · have heb : ((er : Int) == 0) = false := by simpa using he
                go_wp2_with fail
                go_meet
                exact ⟨by simp [he], rfl⟩
            · have hkb : (x.kind == 2) = false := by simpa using hk2
              go_wp2_with fail
              go_meet
              exact ⟨by simp [hk2], rfl⟩
          case rest =>
            obtain ⟨rfl, rfl⟩ := hcut
            clear ck0 ce
            go_upto_if 74 with (fail)
            go_cut [74] (fun _ wx => RdMid w V g5 i wx)
            case first =>
              by_cases hk2 : x.kind = 2 ∧ er = 0
              · rw [decide_eq_true hk2]
                have hof := HOF.out (by omega)
                have hdat : x.data = rep16 (byteW z) := by
                  rcases hof.2 with h | h
                  · omega
                  · exact h.2
                have hdl16 : dl = 16 := by rw [HDLE.out, hdat]; simp [rep16]
                obtain ⟨ax, u, hax, haxb, hu, hcx⟩ := HW8.out.at_ (k := 0) (by omega)
                have hu2 : u = vb (byteW z) := by
                  rw [hdat] at hu
                  exact (Option.some.inj hu).symm
                subst hu2
                subst hax
                have hax0 : ax.add 0 = ax := by go_simp
                rw [hax0] at hcx
                have cx : ∀ W, Below wc.heap.size wc W → W.cell? ax = some (vb (byteW z)) := fun W hb => (hb.cell haxb).trans hcx
                have cbk : ∀ W, Below wc.heap.size wc W → W.cell? ⟨g7, 5, none⟩ = some (.int .i64 (b : Int)) := fun W hb => ((HG78.out.below' hb).cell 5).trans (by rw [← hof.1]; rfl)
                have cda : ∀ W, Below wc.heap.size wc W → W.cell? ⟨g7, 6, none⟩ = some (.slice (some ax) dl qx) := fun W hb => ((HG78.out.below' hb).cell 6).trans rfl
                have hvb : vb (byteW z) = .int .u8 (bi (byteW z)) := rfl
                rw [hvb] at cx
                rw [hdl16] at cda
                have hbI : (b : Int) < 8 := by omega
                clear hof hdat hdl16 hu hcx haxb hvb
                go_upto_region 17 with fail
                refine wp_region_calm0 7 112 (by kernel_rfl) (by kernel_rfl) (by kernel_rfl) (by simp) ?_
                simp only [List.take_succ_cons, List.take_zero, List.drop_succ_cons, List.drop_zero]
                refine wpCalm_value rfl rfl (.pointer (some ⟨g7, 5, none⟩)) (fun W _ => by go_simp) ?_
                try simp only [Act.put, List.setIfInBounds_toArray, List.set_cons_zero, List.set_cons_succ]
                refine wpCalm_below rfl rfl (.int .i64 (b : Int)) (fun W hb => by have := cbk W hb; go_simp) ?_
                try simp only [Act.put, List.setIfInBounds_toArray, List.set_cons_zero, List.set_cons_succ]
                refine wpCalm_value rfl rfl (.pointer (some ⟨g7, 6, none⟩)) (fun W _ => by go_simp) ?_
                try simp only [Act.put, List.setIfInBounds_toArray, List.set_cons_zero, List.set_cons_succ]
                refine wpCalm_below rfl rfl (.slice (some ax) 16 qx) (fun W hb => by have := cda W hb; go_simp) ?_
                try simp only [Act.put, List.setIfInBounds_toArray, List.set_cons_zero, List.set_cons_succ]
                refine wpCalm_value rfl rfl (.pointer (some ax)) (fun W _ => by go_simp) ?_
                try simp only [Act.put, List.setIfInBounds_toArray, List.set_cons_zero, List.set_cons_succ]
                refine wpCalm_below rfl rfl (.int .u8 (bi (byteW z))) (fun W hb => by have := cx W hb; go_simp) ?_
                try simp only [Act.put, List.setIfInBounds_toArray, List.set_cons_zero, List.set_cons_succ]
                refine wpCalm_value rfl rfl (.pointer (some ⟨g5, b, none⟩)) (fun W _ => by go_simp) ?_
                try simp only [Act.put, List.setIfInBounds_toArray, List.set_cons_zero, List.set_cons_succ]
                refine wpCalm_nil ?_
                intro W hbW
                have HKW := Lib.hid (HK58.out.below' hbW)
                have HLW := Lib.hid (HL8.out.below hbW)
                have c5 : W.cell? ⟨g5, b, none⟩ = some (vb (bs[b]'(by rw [HB8.out]; exact hb8))) := (HKW.out.cell b).trans (bRow_at _ _ _)
                have f5 := HKW.out.frozen b
                have hset := HKW.out.set_ b (vb (byteW z))
                rw [bRow_set] at hset
                have hTs := Turned.setCell W ⟨g5, b, none⟩ (vb (byteW z))
                have HMID := Lib.hid (show RdMid w V g5 i (W.setCell ⟨g5, b, none⟩ (vb (byteW z))) from ⟨p.1, bs.set b (byteW z), HSTEP.out.2, by rw [HBLK.out.2, if_pos hk2], by rw [List.length_set, HB8.out], (HLW.out.turned hTs (.inr rfl) HG5.out hg5w).more (by omega), hset⟩)
                have hvb : vb (byteW z) = .int .u8 (bi (byteW z)) := rfl
                rw [hvb] at HMID
                clear hset hTs hbW cx cbk cda hvb
                go_wp2_with fail
                go_meet
                exact HMID.out
              · rw [decide_eq_false hk2]
                have HMID := Lib.hid (show RdMid w V g5 i wc from ⟨p.1, bs, HSTEP.out.2, by rw [HBLK.out.2, if_neg hk2], HB8.out, HL8.out.more (by omega), HK58.out⟩)
                go_wp2_with fail
                go_meet
                exact HMID.out
            case rest =>
              obtain ⟨m2, bs2, hrun2, hbl2, hbl82, hl2, hk2⟩ := hcut.ex
              obtain ⟨wm, hwm⟩ : ∃ W : World, W = wc := ⟨_, rfl⟩
              rw [← hwm] at hl2 hk2 ⊢
              have HRUN2 := Lib.hid hrun2
              have HBL2 := Lib.hid hbl2
              have HB82 := Lib.hid hbl82
              have HL2 := Lib.hid hl2
              have HK2 := Lib.hid hk2
              have hcz3 := CZ.out wm hl2.low
              have hbr := bring_any (z / 4096) 2 (by omega) (by unfold maxLen; omega) (by omega) (by omega) wm
              have HBR := Lib.hid (show Calls Tryz.prog 13 #[.int .i64 (z / 4096), .int .i64 2] wm fun e w' => e = .returned (.int .i64 (bringF (z / 4096) 2 : Int)) ∧ wm = w' from hbr)
              have HTN := Lib.hid (hl2.turn_ (by omega))
              obtain ⟨bq, hbq⟩ : ∃ k, k = bringF (z / 4096) 2 := ⟨_, rfl⟩
              rw [← hbq] at HBR
              clear hrun2 hbl2 hbl82 hl2 hk2 hbr hcut hwm hbq
              go_upto_region 18 with fail
              go_wp2_with fail
              refine HBR.out.mono ?_
              rintro _ _ ⟨rfl, rfl⟩
              by_cases hb0 : bq = 0
              · have hbb : ((bq : Int) == 0) = true := by simp [hb0]
                go_wp2_with fail
                refine HTN.out.mono ?_
                rintro _ wt ⟨rfl, hlt2, hont⟩
                have HLT := Lib.hid hlt2
                have HKT := Lib.hid (hont.blk HK2.out (fun hv => HG5.out (by rcases hv with e | e | e; exact .inl e; exact .inr (.inr (.inr (.inr e))); exact .inr (.inl e))))
                clear hlt2 hont HTN
                go_wp2_with fail
                go_roundw
                case rel => exact ⟨i + 1, by omega, by omega, by go_num, ⟨(turnV m2).1, bs2, HRUN2.out.turn, by rw [turn_blocks]; exact HBL2.out, HB82.out, HLT.out.more (by omega), HKT.out⟩⟩
                case measure => simp [intOf]; omega
              · have hbb : ((bq : Int) == 0) = false := by simpa using hb0
                go_wp2_with fail
                go_roundw
                case rel => exact ⟨i + 1, by omega, by omega, by go_num, ⟨m2, bs2, HRUN2.out.more (by omega) (by omega), HBL2.out, HB82.out, HL2.out.more (by omega), HK2.out⟩⟩
                case measure => simp [intOf]; omega
      · rw [decide_eq_false hlt]
        have HLOW := Lib.hid HL.out.low
        clear hlt HST HRUN
        go_wp2_with fail
        go_loopw [10] (fun jv wr => ∃ j : Nat, j ≤ 8 ∧ jv = .int .i64 j ∧ LSt w V (fun b => V.all b ∨ b = g5) m (48 + 10 * i) wr ∧ Blk wr g5 48 (bRow bs)) (fun jv _ => 8 - (intOf jv).toNat)
        case atStart => exact ⟨0, by omega, rfl, HL.out, HK5.out⟩
        case round =>
          obtain ⟨j, hj, rfl, hlj, hkj⟩ := hrel
          have HLJ := Lib.hid hlj
          have HKJ := Lib.hid hkj
          by_cases hj8 : j < 8
          · have hjI : (j : Int) < 8 := by omega
            have hjb : j < bs.length := by have := HB8.out; omega
            obtain ⟨y, hy⟩ : ∃ y, y = bs[j] := ⟨_, rfl⟩
            have hblv : blockV m j = rep16 y := by
              unfold blockV
              rw [HBL.out, List.getD_eq_getElem?_getD, List.getElem?_map, List.getElem?_eq_getElem hjb, hy]; rfl
            have HLK := Lib.hid (vLook_any wr V _ m hlj.vat j hj8)
            rw [hblv] at HLK
            have hvb : vb y = .int .u8 (bi y) := rfl
            have HSX := Lib.hid (fun W => sixteen_any y W)
            have C5 := Lib.hid (fun (W : World) (hb : Below wr.heap.size wr W) => ((hkj.below' hb).cell j).trans (show (bRow bs)[j]? = some (vb y) by rw [hy]; exact bRow_at _ _ _))
            rw [hvb] at HSX C5
            clear hlj hkj hblv hy hvb
            go_wp2_with fail
            refine HLK.out.mono ?_
            rintro _ wl ⟨v, rfl, ho, hbl2⟩
            obtain ⟨Al, cl, hv, q1, q2, q5, q4⟩ := own_slice_b ho
            rw [show (rep16 y).length = 16 by simp [rep16]] at hv q5
            subst hv
            have HRL := Lib.hid q5
            have HBL2 := Lib.hid hbl2
            have hsl := hbl2.size
            have c5 := C5.out wl hbl2
            clear ho hbl2 q5 q1 q4 HLK
            go_wp2_with fail
            refine (HSX.out wl).mono ?_
            rintro _ ws ⟨v, rfl, ho, hbs⟩
            obtain ⟨As, cs, hv, r1, r2, r5, r4⟩ := own_slice_b ho
            rw [show (rep16 y).length = 16 by simp [rep16]] at hv r5
            subst hv
            have HEQ := Lib.hid (eqBytes_any Al As 16 16 cl cs (rep16 y) (rep16 y) ws wl.heap.size ws.heap.size (HRL.out.below hbs) r5 (by unfold maxLen; omega) (by unfold maxLen; omega))
            rw [decide_eq_true rfl] at HEQ
            have HBS := Lib.hid (HBL2.out.trans (hbs.mono hsl))
            clear ho hbs r5 r1 r4 c5
            go_wp2_with fail
            refine HEQ.out.mono ?_
            rintro _ _ ⟨rfl, kk, rfl⟩
            have HBX := Lib.hid (below_drewN HBS.out kk)
            clear HEQ HBS
            go_wp2_with fail
            go_roundw
            case rel => exact ⟨j + 1, by omega, by go_num, HLJ.out.below HBX.out, HKJ.out.below' HBX.out⟩
            case measure => simp [intOf]; omega
          · obtain rfl : j = 8 := by omega
            have hjI : ¬ (8 : Int) < 8 := by omega
            clear hlj hkj
            go_wp2_with fail
            go_ret
            exact ⟨rfl, HLJ.out.low⟩

end Go.Proofs.YtfjopbbgcjgpbaaGreat
