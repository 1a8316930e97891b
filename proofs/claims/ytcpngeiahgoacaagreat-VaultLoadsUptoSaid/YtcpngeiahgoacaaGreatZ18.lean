/- Parts of the proof, in one text: RkD, RkE, RvB. -/
import Derived.Test.YtcpngeiahgoacaaGreatZ17
import Derived.Test.YtcpngeiahgoacaaGreatZ15
import Derived.Test.YtcpngeiahgoacaaGreatZ14

/- bastideref09.Levels over a book of bastideref03, of 5 to 16 leaves: the walk (genrkd.py). -/
namespace Go.Proofs.YtcpngeiahgoacaaGreat
set_option linter.unusedVariables false
set_option linter.unusedSimpArgs false
open Go.RowKit Go.Maps

attribute [local irreducible] wpList wpCalm

theorem ReSt.start {w wr : World} {r k n : Nat} {N : Nat → Prop} {ls : List (List UInt8)} {ov : Value} (h : LoSt w wr r k N ls n ov) (hn : ls.length = n) (h5 : 5 ≤ n) (h16 : n ≤ 16) :
    ∃ g c, ov = .slice (some ⟨g, 0, none⟩) n c ∧ ReSt w (wr.alloc (.cells #[.slice (some ⟨g, 0, none⟩) n c] 189)) r k N ls 0 g c n [] (.slice (some ⟨wr.heap.size, 0, none⟩) 1 1) := by
  have hrow := h.row
  have e : (ls.take n).map leafD = lv ls 0 := by rw [List.take_of_length_le (by omega)]; rfl
  rw [e] at hrow
  obtain ⟨hl, g, c, rfl, hg, hd⟩ := DigAt.of_own hrow (lv_digs ls 0) (by omega)
  have hal : Below wr.heap.size wr (wr.alloc (.cells #[.slice (some ⟨g, 0, none⟩) n c] 189)) := below_lit _ _
  have hs := h.only.size
  refine ⟨g, c, rfl, ⟨?_, rfl, hd.keep (hal.block _ hd.lt), hg, hl.symm, (h.book.below hal).less (by omega) fun b hb => hb, h.only.trans (Only.of_below hal)⟩⟩
  have hw0 := World.ownsRow_lit (base := w.heap.size) (e := 189) (size := 1) wr #[.slice (some ⟨g, 0, none⟩) n c] 1 hs (by unfold maxLen; omega) rfl
  exact hw0
theorem ReSt.inner {w wo : World} {r k s g c m : Nat} {N : Nat → Prop} {ls : List (List UInt8)} {us : List Value} {ov : Value} (h : ReSt w wo r k N ls s g c m us ov) : UpSt w wo wo r (k + 16 + 4 * s) N (lv ls s) g c 0 ov (.slice none 0 0) :=
  ⟨World.ownsRow_nil _ _ _ _, h.book.hold fun b hb => by
    rcases hb with hb | rfl | hb
    · exact .inl hb
    · obtain ⟨cur, h1, _⟩ := h.dig.row
      exact .inr (.inr ⟨_, cur, h1, by decide, by decide⟩)
    · obtain ⟨cur, hc⟩ := row_blk h.row hb
      exact .inr (.inr ⟨_, cur, hc, by decide, by decide⟩), Only.refl _ _⟩
theorem ReSt.low {w wo : World} {r k s g c m : Nat} {N : Nat → Prop} {ls : List (List UInt8)} {us : List Value} {ov : Value} (h : ReSt w wo r k N ls s g c m us ov) (hN : ∀ b, N b → b < w.heap.size) : ∀ b, (N b ∨ b = g ∨ ov.ownBlock = some b) → b < wo.heap.size := fun b hb => by
  have hs := h.only.size
  rcases hb with hb | rfl | hb
  · have := hN b hb; omega
  · exact h.dig.lt
  · exact (rowD_lt h.row hb).2
theorem UpSt.lowRow {w wo wr : World} {r k s g c m j : Nat} {N : Nat → Prop} {ls : List (List UInt8)} {us : List Value} {ov nv : Value} (h0 : ReSt w wo r k N ls s g c m us ov) (h : UpSt w wo wr r (k + 16 + 4 * s) N (lv ls s) g c j ov nv) (hr : r < w.heap.size) : DigAt wr g c (lv ls s) ∧ wr.ownsRow w.heap.size 189 1 ov (s + 1) (us ++ [.slice (some ⟨g, 0, none⟩) m c]) :=
  ⟨h0.dig.keep (h.only.block g h0.dig.lt (by
    have := h0.new
    rintro (e | e)
    · omega
    · exact e (.inr (.inl rfl)))), rowD_keep h0.row fun b hb => h.only.block b (rowD_lt h0.row hb).2 (by
    have := rowD_lt h0.row hb
    rintro (e | e)
    · omega
    · exact e (.inr (.inr hb)))⟩
theorem UpSt.done {w wo w3 : World} {r k s g c m : Nat} {N : Nat → Prop} {ls : List (List UInt8)} {us : List Value} {ov nv : Value} (h0 : ReSt w wo r k N ls s g c m us ov) (h : UpSt w wo w3 r (k + 16 + 4 * s) N (lv ls s) g c (grps m) ov nv) (h1 : 1 < m) : ∃ g3 c3, nv = .slice (some ⟨g3, 0, none⟩) (grps m) c3 ∧ DigAt w3 g3 c3 (lv ls (s + 1)) ∧ wo.heap.size ≤ g3 ∧ (lv ls (s + 1)).length = grps m := by
  have hrow := h.row
  have e : abovePre (lv ls s) (grps m) = lv ls (s + 1) := by rw [h0.m]; rfl
  rw [e] at hrow
  obtain ⟨hl, g3, c3, rfl, hg, hd⟩ := DigAt.of_own hrow (lv_digs ls (s + 1)) (by unfold grps; omega)
  exact ⟨g3, c3, rfl, hd, hg, hl⟩
theorem re_pushed {w wo w3 w6 : World} {r k s g c m g3 c3 m2 : Nat} {N : Nat → Prop} {ls : List (List UInt8)} {us : List Value} {ov v6 : Value} (h0 : ReSt w wo r k N ls s g c m us ov) (h : UpSt w wo w3 r (k + 16 + 4 * s) N (lv ls s) g c (grps m) ov (.slice (some ⟨g3, 0, none⟩) m2 c3)) (hr : r < w.heap.size) (hm : grps m ≤ 4) (hm2 : m2 = (lv ls (s + 1)).length) (hd : DigAt w3 g3 c3 (lv ls (s + 1))) (hg3 : wo.heap.size ≤ g3)
    (hown : w6.ownsRow w.heap.size 189 1 v6 (s + 1 + 1) (us ++ [.slice (some ⟨g, 0, none⟩) m c] ++ [.slice (some ⟨g3, 0, none⟩) m2 c3])) (hg : (w3.alloc (.cells #[.slice (some ⟨g3, 0, none⟩) m2 c3] 189)).grownBy w6 ov.ownBlock) : ReSt w w6 r k N ls (s + 1) g3 c3 m2 (us ++ [.slice (some ⟨g, 0, none⟩) m c]) v6 := by
  obtain ⟨-, hrow⟩ := h.lowRow h0 hr
  have hal : Below w3.heap.size w3 (w3.alloc (.cells #[.slice (some ⟨g3, 0, none⟩) m2 c3] 189)) := below_lit _ _
  have hfar : ∀ b, b < w3.heap.size → ov.ownBlock ≠ some b → w6.heap[b]? = w3.heap[b]? := fun b hb hne => (hg.block b (by have := hal.size; omega) (fun e => hne e.symm)).trans (hal.block b hb)
  have hs6 := hg.size
  have hs4 := hal.size
  have hs := h.only.size
  have hs0 := h0.only.size
  have ho : Only (RM r N) w w3 := h0.only.trans (h.only.mono fun b _ => RM.mono fun b => .inl)
  obtain ⟨cur, hcur, -⟩ := hd.row
  refine ⟨hown, by rw [List.length_append, h0.len]; rfl, hd.keep (hfar g3 hd.lt (own_blk_ne hrow hcur (by decide))), by omega, hm2, ?_, ?_⟩
  · refine (h.book.kept (w' := w6) (by omega) fun b hbl hb => hfar b hbl fun e => ?_).less (by omega) fun b => .inl
    rcases hb with hb | hb
    · have := rowD_lt hrow e; omega
    · exact hb (.inr (.inr e))
  · exact ⟨hg.os.trans (hal.os.trans ho.os), hg.tape.trans (hal.tape.trans ho.tape), hg.output.trans (hal.output.trans ho.output), by omega, fun b hb hn => (hfar b (by omega) (fun e => by have := rowD_lt hrow e; omega)).trans (ho.block b hb hn)⟩

set_option maxRecDepth 100000 in
set_option maxHeartbeats 4000000 in
theorem refLevels_any (w : World) (r k : Nat) (N : Nat → Prop) (A : Option Addr) (n c : Nat) (ls : List (List UInt8)) (h : RBk w r N k) (hk : k ≤ 800000) (hL : KeptRows w r N A n ls) (hxl : ls.length = n) (hN : ∀ b, N b → b < w.heap.size) (hb : ∀ x, x ∈ ls → x.length < 65536) (h5 : 5 ≤ n) (h16 : n ≤ 16) :
    Calls Tryz.prog 154 #[.pointer (some ⟨r, 0, none⟩), .slice A n c] w fun e w' => ∃ v g c2 us, e = .returned v ∧ ReSt w w' r k N ls 2 g c2 1 us v := by
  have hrl := h.lt
  have HBK := Lib.hid h
  have HL := Lib.hid hL
  have HXL := Lib.hid hxl
  have HNN := Lib.hid hN
  have HLE := Lib.hid hb
  have HZ := Lib.hid treeZ_eq
  have HZS := Lib.hid (show inkZ.size = 32 by simp [inkZ, bRow])
  obtain ⟨i0, hi0, hz0, hz1, hz2⟩ := info_parts digs_info
  obtain ⟨i1, hi1, hy0, hy1, hy2⟩ := info_parts slc_info
  clear h hL hxl hN hb
  go_enter Tryz.func154, Tryz.ntmps154
  go_wp2_with fail
  go_loopw [5, 6] (fun ov iv wr => ∃ i : Nat, i ≤ n ∧ iv = .int .i64 i ∧ LoSt w wr r k N ls i ov) (fun _ iv _ => n - (intOf iv).toNat)
  case atStart => exact ⟨0, by omega, rfl, ⟨World.ownsRow_nil _ _ _ _, HBK.out, Only.refl _ _⟩⟩
  case round =>
    obtain ⟨i, hi, rfl, hst⟩ := hrel
    have HST := Lib.hid hst
    have hsz := hst.only.size
    by_cases hin : i < n
    · have hinI : (i : Int) < (n : Int) := by omega
      have hil : i < ls.length := by have := HXL.out; omega
      obtain ⟨ad, rfl, hadb, hcell⟩ := (HL.out wr hst.only.size hst.only.block).2 (by omega)
      have hx := List.getElem?_eq_getElem hil
      obtain ⟨Ak, mk, ck, hq, hrd⟩ := hcell i _ hx
      have hmk : mk < 65536 := by have := HLE.out _ (List.getElem_mem hil); have := hrd.1; simp at this; omega
      generalize ls[i] = x at hx hrd
      obtain ⟨hc1, hc2⟩ := hst.call HNN.out
      have HLF := Lib.hid (refLeaf_any wr r (k + i) _ Ak mk ck x hc1 (by omega) hrd hc2 hmk)
      have hds := bRow_size32 (leafD_len x)
      have hdo := bRow_one (leafD x)
      have hdv : (bRow (leafD x)).toList = (leafD x).map vb := by simp [bRow]
      obtain ⟨D, hD⟩ : ∃ D, D = bRow (leafD x) := ⟨_, rfl⟩
      rw [← hD] at HLF hds hdo hdv
      have HDS := Lib.hid hds
      have HDO := Lib.hid hdo
      have HDV := Lib.hid hdv
      have HX := Lib.hid hx
      clear hst hcell hx hrd hc1 hc2 hds hdo hdv hD
      go_wp2_with fail
      refine HLF.out.mono ?_
      rintro _ w3 ⟨rfl, hb3, ho3⟩
      obtain ⟨hr3, hk3, hn3⟩ := HST.out.called hrl hb3 ho3
      have HR3 := Lib.hid hr3
      have HB3 := Lib.hid hk3
      have HO3 := Lib.hid hn3
      have hs3 := hn3.size
      clear hb3 ho3 hr3 hk3 hn3 HLF HST hq
      go_upto_region 6 with (refine wpList_store_part (o := ⟨none, _, _, _, _, _⟩) rfl 60 (.tmp 7) (.tmp 27) rfl w3.heap.size 0 D rfl rfl 60 inkZ (by rw [HZ.out]; exact Blk.newAt rfl) (by rw [HDS.out]; rfl) (by rw [HDS.out, HZS.out]; omega) HDO.out ?_; intro w4 hT4 hD4; rw [spl_self _ _ (by rw [HDS.out, HZS.out])] at hD4)
      have hb4 : Below w3.heap.size w3 w4 := hT4.below ((Below.refl _ _).alloc (Nat.le_refl _) _) (Nat.le_refl _)
      have HB4 := Lib.hid (HB3.out.below hb4)
      have HO4 := Lib.hid (HO3.out.trans (Only.of_below hb4))
      have HW4 := Lib.hid (rowD_keep HR3.out (fun b hb => hb4.block b (rowD_lt HR3.out hb).2))
      have hs4 := hb4.size
      have HD4 := Lib.hid hD4
      obtain ⟨g4, hg4⟩ : ∃ g, g = w3.heap.size := ⟨_, rfl⟩
      rw [← hg4] at HD4 ⊢
      have hSZ := HDS.out
      clear hT4 hD4 hb4 hg4 HB3 HO3 HR3
      go_wp2_with (first
        | (refine wpList_load_part (o := ⟨some 30, _, _, _, _, _⟩) rfl 60 (.tmp 7) rfl g4 0 32 rfl 60 _ D _ HD4.out Tryz.underlying60 rfl rfl HDS.out (fun _ _ => by rw [Nat.zero_add]) ?_)
        | (at_builtin; (rw [fill_all _ D 32 rfl HDS.out]; refine wpList_append_any _ rfl (.tmp 29) (.tmp 31) 189 rfl w.heap.size 60 i0 _ 32 32 Tryz.underlying189 hi0 hz0 hz1 hz2 HZS.out (by omega) _ i (digRow ((ls.take i).map leafD)) rfl ?row (w4.heap.size + 1) (some ⟨w4.heap.size, 0, none⟩) 1 1 D.toList rfl ?rd ?c1 ?c2 ?c3 ?c4 ?_)))
      case row => exact rowD_keep HW4.out (fun b hb => Below.heap_alloc _ _ b (rowD_lt HW4.out hb).2)
      case rd => exact reads_agg _ _ _ _ HDS.out
      case c1 => exact fun u hu => List.all_eq_true.1 (by have := HDO.out; rw [← Array.all_toList] at this; exact this) u hu
      case c2 => unfold maxLen; omega
      case c3 => omega
      case c4 => have := HO4.out.size; simp; omega
      intro v6 w6 hown6 hg6 hor6
      have HN6 := Lib.hid (lo_pushed (w3 := w4) HX.out HDV.out hrl HB4.out HO4.out HW4.out (by rw [List.map_take]; exact hown6) hg6 HNN.out)
      clear hown6 hg6 hor6 HW4 HB4 HO4
      go_wp2_with fail
      go_roundw
      case rel => exact ⟨i + 1, by omega, by go_num, HN6.out⟩
      case measure => simp [intOf]; omega
    · obtain rfl : i = n := by omega
      have hinI : ¬ (i : Int) < (i : Int) := by omega
      obtain ⟨g0, c0, rfl, hre⟩ := ReSt.start hst HXL.out h5 h16
      have HRE := Lib.hid hre
      clear hst hre HST
      go_wp2_with fail
      go_loopw [5, 9] (fun lw ov wr => ∃ s g c m us, s ≤ 2 ∧ lw = .slice (some ⟨g, 0, none⟩) m c ∧ ReSt w wr r k N ls s g c m us ov) (fun lw _ _ => (match lw with | .slice _ n _ => n | _ => 0))
      case atStart => exact ⟨0, _, _, _, _, by omega, rfl, HRE.out⟩
      case round =>
        obtain ⟨s, g, c, m, us, hs, rfl, hre⟩ := hrel
        obtain ⟨wo, hwo⟩ : ∃ x, x = wr := ⟨_, rfl⟩
        rw [← hwo] at hre ⊢
        clear hwo
        obtain ⟨hc1, hc2, hc3, hc4⟩ := lv_count (ls := ls) (by have := HXL.out; omega) (by have := HXL.out; omega) s hs
        rw [← hre.m] at hc1 hc2 hc3 hc4
        have HR := Lib.hid hre
        have HLOW := Lib.hid (hre.low HNN.out)
        have hso := hre.only.size
        have hcm : m ≤ c := by have := hre.dig.cap; rw [← hre.m] at this; exact this.1
        by_cases h1 : 1 < m
        · have hs2 := hc1.1 h1
          have h1i : (1 : Int) < (m : Int) := by omega
          have HU := Lib.hid hre.inner
          clear hre
          go_wp2_with fail
          go_loopw [10, 11] (fun nv jv wr => ∃ j : Nat, j ≤ grps m ∧ jv = .int .i64 (4 * (j : Int)) ∧ UpSt w wo wr r (k + 16 + 4 * s) N (lv ls s) g c j _ nv) (fun _ jv _ => m + 8 - (intOf jv).toNat)
          case atStart => exact ⟨0, by omega, by simp, HU.out⟩
          case round =>
            obtain ⟨j, hj, rfl, hup⟩ := hrel
            obtain ⟨hdg, hov⟩ := hup.lowRow HR.out hrl
            have hsj := hup.only.size
            have HUP := Lib.hid hup
            by_cases hjn : j < grps m
            · have h4n : 4 * j < m := grps_iff.1 hjn
              have h4i : 4 * (j : Int) < (m : Int) := by omega
              have h04 : (0 : Int) ≤ 4 * (j : Int) := by omega
              have hgl : (lv ls s).length = m := HR.out.m.symm
              have hrs : Reads wr wr.heap.size 32 (if c = 4 * j then some ⟨g, 0, none⟩ else (some ⟨g, 0, none⟩ : Option Addr).map (·.add (4 * j * 32))) (min (4 * j + 4) m - 4 * j) (digRow (grp (lv ls s) j)) := by
                have h1 := hdg.reads (lv_digs ls s)
                rw [hgl] at h1
                have h2 := h1.sub (l := 4 * j) (k := min (4 * j + 4) m) (cap := c) (by omega) (by omega) hcm
                have h3 := grp_cells (lv_digs ls s) j (by omega)
                rw [hgl] at h3
                rw [h3] at h2
                exact h2
              obtain ⟨hc1, hc2⟩ := hup.call HLOW.out
              have hcall := refUp_any wr r (k + 16 + 4 * s + j) _ _ _ (c - 4 * j) (grp (lv ls s) j) hc1 (by omega) hrs (grp_digs (lv_digs ls s) j) hc2 (by omega) (by omega)
              have hds := bRow_size32 (upD_len (grp (lv ls s) j))
              have hdo := bRow_one (upD (grp (lv ls s) j))
              have hdv : (bRow (upD (grp (lv ls s) j))).toList = (upD (grp (lv ls s) j)).map vb := by simp [bRow]
              obtain ⟨D, hD⟩ : ∃ D, D = bRow (upD (grp (lv ls s) j)) := ⟨_, rfl⟩
              rw [← hD] at hcall hds hdo hdv
              have HDS := Lib.hid hds
              have HDO := Lib.hid hdo
              have HDV := Lib.hid hdv
              clear hup hdg hov hrs hc1 hc2 hds hdo hdv hD
              by_cases h4 : (m : Int) < 4 * (j : Int) + 4
              · have hsl := fun (W : World) => run_slice_sub (P := Tryz.prog) (t := 189) Tryz.underlying189 dig_info (some ⟨g, 0, none⟩) m c (4 * j) m (4 * (j : Int)) (m : Int) (by omega) rfl (by omega) (by omega) W
                rw [show min (4 * j + 4) m = m by omega] at hcall
                generalize m - 4 * j = K at hsl hcall
                generalize c - 4 * j = C2 at hsl hcall
                generalize (if c = 4 * j then (some ⟨g, 0, none⟩ : Option Addr) else (some ⟨g, 0, none⟩ : Option Addr).map (·.add (4 * j * 32))) = A2 at hsl hcall
                have HG := Lib.hid hcall
                clear hcall
                go_wp2_with fail
                refine HG.out.mono ?_
                rintro _ w3 ⟨rfl, hb3, ho3⟩
                obtain ⟨hr3, hk3, hn3⟩ := HUP.out.called (by omega) hb3 ho3
                have HR3 := Lib.hid hr3
                have HB3 := Lib.hid hk3
                have HO3 := Lib.hid hn3
                have hs3 := hn3.size
                clear hb3 ho3 hr3 hk3 hn3 HG HUP hsl
                go_upto_region 14 with (refine wpList_store_part (o := ⟨none, _, _, _, _, _⟩) rfl 60 (.tmp 12) (.tmp 55) rfl w3.heap.size 0 D rfl rfl 60 inkZ (by rw [HZ.out]; exact Blk.newAt rfl) (by rw [HDS.out]; rfl) (by rw [HDS.out, HZS.out]; omega) HDO.out ?_; intro w4 hT4 hD4; rw [spl_self _ _ (by rw [HDS.out, HZS.out])] at hD4)
                have hb4 : Below w3.heap.size w3 w4 := hT4.below ((Below.refl _ _).alloc (Nat.le_refl _) _) (Nat.le_refl _)
                have HB4 := Lib.hid (HB3.out.below hb4)
                have HO4 := Lib.hid (HO3.out.trans (Only.of_below hb4))
                have HW4 := Lib.hid (rowD_keep HR3.out (fun b hb => hb4.block b (rowD_lt HR3.out hb).2))
                have hs4 := hb4.size
                have HD4 := Lib.hid hD4
                obtain ⟨g4, hg4⟩ : ∃ g, g = w3.heap.size := ⟨_, rfl⟩
                rw [← hg4] at HD4 ⊢
                have hSZ := HDS.out
                clear hT4 hD4 hb4 hg4 HB3 HO3 HR3
                go_wp2_with (first
                  | (refine wpList_load_part (o := ⟨some 58, _, _, _, _, _⟩) rfl 60 (.tmp 12) rfl g4 0 32 rfl 60 _ D _ HD4.out Tryz.underlying60 rfl rfl HDS.out (fun _ _ => by rw [Nat.zero_add]) ?_)
                  | (at_builtin; (rw [fill_all _ D 32 rfl HDS.out]; refine wpList_append_any _ rfl (.tmp 57) (.tmp 59) 189 rfl wo.heap.size 60 i0 _ 32 32 Tryz.underlying189 hi0 hz0 hz1 hz2 HZS.out (by omega) _ j (digRow (abovePre (lv ls s) j)) rfl ?row (w4.heap.size + 1) (some ⟨w4.heap.size, 0, none⟩) 1 1 D.toList rfl ?rd ?c1 ?c2 ?c3 ?c4 ?_)))
                case row => exact rowD_keep HW4.out (fun b hb => Below.heap_alloc _ _ b (rowD_lt HW4.out hb).2)
                case rd => exact reads_agg _ _ _ _ HDS.out
                case c1 => exact fun u hu => List.all_eq_true.1 (by have := HDO.out; rw [← Array.all_toList] at this; exact this) u hu
                case c2 => unfold maxLen; omega
                case c3 => omega
                case c4 => have := HO4.out.size; simp; omega
                intro v6 w6 hown6 hg6 hor6
                have HN6 := Lib.hid (up_pushed (w := w) (c := c) (w3 := w4) HDV.out (by omega) HB4.out HO4.out HW4.out hown6 hg6)
                clear hown6 hg6 hor6 HW4 HB4 HO4
                go_wp2_with fail
                go_roundw
                case rel => exact ⟨j + 1, by omega, by go_num, HN6.out⟩
                case measure => simp [intOf]; omega
              · have hsl := fun (W : World) => run_slice_sub (P := Tryz.prog) (t := 189) Tryz.underlying189 dig_info (some ⟨g, 0, none⟩) m c (4 * j) (4 * j + 4) (4 * (j : Int)) (4 * (j : Int) + 4) (by omega) (by omega) (by omega) (by omega) W
                rw [show min (4 * j + 4) m = 4 * j + 4 by omega] at hcall
                generalize 4 * j + 4 - 4 * j = K at hsl hcall
                generalize c - 4 * j = C2 at hsl hcall
                generalize (if c = 4 * j then (some ⟨g, 0, none⟩ : Option Addr) else (some ⟨g, 0, none⟩ : Option Addr).map (·.add (4 * j * 32))) = A2 at hsl hcall
                have HG := Lib.hid hcall
                clear hcall
                go_wp2_with fail
                refine HG.out.mono ?_
                rintro _ w3 ⟨rfl, hb3, ho3⟩
                obtain ⟨hr3, hk3, hn3⟩ := HUP.out.called (by omega) hb3 ho3
                have HR3 := Lib.hid hr3
                have HB3 := Lib.hid hk3
                have HO3 := Lib.hid hn3
                have hs3 := hn3.size
                clear hb3 ho3 hr3 hk3 hn3 HG HUP hsl
                go_upto_region 14 with (refine wpList_store_part (o := ⟨none, _, _, _, _, _⟩) rfl 60 (.tmp 12) (.tmp 55) rfl w3.heap.size 0 D rfl rfl 60 inkZ (by rw [HZ.out]; exact Blk.newAt rfl) (by rw [HDS.out]; rfl) (by rw [HDS.out, HZS.out]; omega) HDO.out ?_; intro w4 hT4 hD4; rw [spl_self _ _ (by rw [HDS.out, HZS.out])] at hD4)
                have hb4 : Below w3.heap.size w3 w4 := hT4.below ((Below.refl _ _).alloc (Nat.le_refl _) _) (Nat.le_refl _)
                have HB4 := Lib.hid (HB3.out.below hb4)
                have HO4 := Lib.hid (HO3.out.trans (Only.of_below hb4))
                have HW4 := Lib.hid (rowD_keep HR3.out (fun b hb => hb4.block b (rowD_lt HR3.out hb).2))
                have hs4 := hb4.size
                have HD4 := Lib.hid hD4
                obtain ⟨g4, hg4⟩ : ∃ g, g = w3.heap.size := ⟨_, rfl⟩
                rw [← hg4] at HD4 ⊢
                have hSZ := HDS.out
                clear hT4 hD4 hb4 hg4 HB3 HO3 HR3
                go_wp2_with (first
                  | (refine wpList_load_part (o := ⟨some 58, _, _, _, _, _⟩) rfl 60 (.tmp 12) rfl g4 0 32 rfl 60 _ D _ HD4.out Tryz.underlying60 rfl rfl HDS.out (fun _ _ => by rw [Nat.zero_add]) ?_)
                  | (at_builtin; (rw [fill_all _ D 32 rfl HDS.out]; refine wpList_append_any _ rfl (.tmp 57) (.tmp 59) 189 rfl wo.heap.size 60 i0 _ 32 32 Tryz.underlying189 hi0 hz0 hz1 hz2 HZS.out (by omega) _ j (digRow (abovePre (lv ls s) j)) rfl ?row (w4.heap.size + 1) (some ⟨w4.heap.size, 0, none⟩) 1 1 D.toList rfl ?rd ?c1 ?c2 ?c3 ?c4 ?_)))
                case row => exact rowD_keep HW4.out (fun b hb => Below.heap_alloc _ _ b (rowD_lt HW4.out hb).2)
                case rd => exact reads_agg _ _ _ _ HDS.out
                case c1 => exact fun u hu => List.all_eq_true.1 (by have := HDO.out; rw [← Array.all_toList] at this; exact this) u hu
                case c2 => unfold maxLen; omega
                case c3 => omega
                case c4 => have := HO4.out.size; simp; omega
                intro v6 w6 hown6 hg6 hor6
                have HN6 := Lib.hid (up_pushed (w := w) (c := c) (w3 := w4) HDV.out (by omega) HB4.out HO4.out HW4.out hown6 hg6)
                clear hown6 hg6 hor6 HW4 HB4 HO4
                go_wp2_with fail
                go_roundw
                case rel => exact ⟨j + 1, by omega, by go_num, HN6.out⟩
                case measure => simp [intOf]; omega
            · have h4i : ¬ 4 * (j : Int) < (m : Int) := by have := mt grps_iff.2 hjn; omega
              obtain rfl : j = grps m := by omega
              obtain ⟨g3, c3, rfl, hd3, hg3, hl3⟩ := hup.done HR.out h1
              obtain ⟨m2, hm2⟩ : ∃ m2, m2 = grps m := ⟨_, rfl⟩
              have hm2' : m2 ≤ 4 ∧ m2 < m := by rw [hm2]; refine ⟨hc4, ?_⟩; unfold grps; omega
              have h4j : ¬ 4 * (m2 : Int) < (m : Int) := by rw [hm2]; exact h4i
              rw [← hm2]
              have HM2 := Lib.hid hm2
              have HD3 := Lib.hid hd3
              have HOV := Lib.hid hov
              have HW3 := Lib.hid (reads_cells wr #[.slice (some ⟨g3, 0, none⟩) m2 c3] 189)
              clear hup hdg hov hd3 hm2
              go_wp2_with (at_builtin; go_must (refine wpList_append_any _ rfl (.tmp 61) (.tmp 63) 201 rfl w.heap.size 189 i1 _ 1 24 Tryz.underlying201 hi1 hy0 hy1 hy2 rfl (by omega) _ (s + 1) (us ++ [.slice (some ⟨g, 0, none⟩) m c]) rfl ?row (wr.heap.size + 1) (some ⟨wr.heap.size, 0, none⟩) 1 1 [.slice (some ⟨g3, 0, none⟩) m2 c3] rfl ?rd ?c1 ?c2 ?c3 ?c4 ?_))
              case row => exact rowD_keep HOV.out (fun b hb => Below.heap_alloc _ _ b (rowD_lt HOV.out hb).2)
              case rd => exact HW3.out
              case c1 => first | rfl | (intro u hu; rw [List.mem_singleton] at hu; subst hu; rfl)
              case c2 => unfold maxLen; omega
              case c3 => omega
              case c4 => first | omega | (simp; omega)
              intro v6 w6 hown6 hg6 hor6
              have hUP := HUP.out
              have HN6 := Lib.hid (re_pushed HR.out (by rw [← HM2.out] at hUP; rw [← HM2.out]; exact hUP) hrl hc4 (by rw [hl3, HM2.out]) HD3.out hg3 (by rw [List.append_assoc]; exact hown6) hg6)
              clear hown6 hg6 hor6 hUP HUP HD3 HOV
              go_wp2_with fail
              go_roundw
              case rel => exact ⟨s + 1, _, _, m2, _, by omega, rfl, HN6.out⟩
              case measure => show m2 < m; omega
        · have hs2 : s = 2 := by have := mt hc1.2 h1; omega
          subst hs2
          have h1i : ¬ (1 : Int) < (m : Int) := by omega
          obtain rfl : m = 1 := by omega
          clear hre
          go_wp2_with fail
          go_ret
          exact ⟨_, rfl, g, c, us, HR.out⟩

end Go.Proofs.YtcpngeiahgoacaaGreat

/- bastideref09.Of over a book of bastideref03, of 5 to 16 leaves. -/
namespace Go.Proofs.YtcpngeiahgoacaaGreat
set_option linter.unusedVariables false
set_option linter.unusedSimpArgs false
open Go.RowKit Go.Maps

attribute [local irreducible] wpList wpCalm

theorem KeptRows.later {w w1 : World} {r n : Nat} {N N' : Nat → Prop} {A : Option Addr} {ls : List (List UInt8)} (h : KeptRows w r N A n ls) (hb : Below w.heap.size w w1) (hN : ∀ b, N b → N' b) : KeptRows w1 r N' A n ls := fun W hs hk =>
  h W (by have := hb.size; omega) fun b hbl hm => (hk b (by have := hb.size; omega) fun hm' => hm (hm'.mono hN)).trans (hb.block b hbl)
theorem ReSt.last {w w' : World} {r k g c : Nat} {N : Nat → Prop} {ls : List (List UInt8)} {us : List Value} {v : Value} (h : ReSt w w' r k N ls 2 g c 1 us v) : ∃ gv cv, v = .slice (some ⟨gv, 0, none⟩) 3 cv ∧ w'.cell? ⟨gv, 2, none⟩ = some (.slice (some ⟨g, 0, none⟩) 1 c) := by
  rcases h.row.2 with ⟨_, h1⟩ | ⟨gv, cap, cur, rfl, h2, h3, h4, h5, h6, h7⟩
  · omega
  · refine ⟨gv, cap, rfl, ?_⟩
    rw [(show Blk w' gv 189 cur from h3).cell, ← Array.getElem?_toList]
    have e : (cur.toList.take 3)[2]? = some (.slice (some ⟨g, 0, none⟩) 1 c) := by
      have h7' : cur.toList.take 3 = us ++ [.slice (some ⟨g, 0, none⟩) 1 c] := h7
      rw [h7', List.getElem?_append_right (by rw [h.len]; exact Nat.le_refl _), h.len]
      rfl
    rw [List.getElem?_take] at e
    split at e
    · exact e
    · cases e

set_option maxRecDepth 100000 in
set_option maxHeartbeats 4000000 in
theorem refRoot_any (w : World) (r k : Nat) (N : Nat → Prop) (A : Option Addr) (n c : Nat) (ls : List (List UInt8)) (h : RBk w r N k) (hk : k ≤ 800000) (hL : KeptRows w r N A n ls) (hxl : ls.length = n) (hN : ∀ b, N b → b < w.heap.size) (hb : ∀ x, x ∈ ls → x.length < 65536) (h5 : 5 ≤ n) (h16 : n ≤ 16) :
    Calls Tryz.prog 124 #[.pointer (some ⟨r, 0, none⟩), .slice A n c] w fun e w' => e = .returned (.tuple #[.agg (bRow (rootL ls)), .int .i64 0]) ∧ RBk w' r N (k + 24) ∧ Only (RM r N) w w' := by
  have hrl := h.lt
  have hX := below_lit w (.cells inkZ 60)
  have hk0 : Blk (w.alloc (.cells inkZ 60)) w.heap.size 60 inkZ := Blk.newAt rfl
  have HX := Lib.hid hX
  have HK := Lib.hid hk0
  have HB0 := Lib.hid (h.later hX)
  have HL := Lib.hid (hL.later hX (N' := fun b => N b ∨ (w.heap.size ≤ b ∧ b < (w.alloc (.cells inkZ 60)).heap.size)) fun b => .inl)
  have HXL := Lib.hid hxl
  have HNN := Lib.hid hN
  have HLE := Lib.hid hb
  have HZ := Lib.hid treeZ_eq
  have HZS := Lib.hid (show inkZ.size = 32 by simp [inkZ, bRow])
  obtain ⟨hone, hrl32⟩ := lv_one ls (by omega) (by omega)
  have hds := bRow_size32 hrl32
  have hdo := bRow_one (rootL ls)
  have hdv : (bRow (rootL ls)).toList = (rootL ls).map vb := by simp [bRow]
  obtain ⟨D, hD⟩ : ∃ D, D = bRow (rootL ls) := ⟨_, rfl⟩
  rw [← hD] at hds hdo hdv ⊢
  have HDS := Lib.hid hds
  have HDO := Lib.hid hdo
  have HDV := Lib.hid hdv
  have HONE := Lib.hid hone
  obtain ⟨g4, hg4⟩ : ∃ g, g = w.heap.size := ⟨_, rfl⟩
  have hgw : w.heap.size ≤ g4 := by omega
  have hg4l : g4 < (w.alloc (.cells inkZ 60)).heap.size := by simp; omega
  have hn1 : ¬ (n : Int) < 1 := by omega
  have hn2 : ¬ (1024 : Int) < (n : Int) := by omega
  clear h hL hX hk0 hxl hN hb hds hdo hdv hD hone hrl32
  go_enter Tryz.func124, Tryz.ntmps124
  go_upto_region 1 with fail
  rw [← HZ.out]
  generalize World.alloc w _ = w1 at HX HK HB0 HL hg4l ⊢
  rw [← hg4] at HK ⊢
  have hs1 := HX.out.size
  clear hg4
  go_wp2_with fail
  go_loopw [6] (fun iv wr => ∃ i : Nat, i ≤ n ∧ iv = .int .i64 i ∧ ∃ d, wr = w1.drewN d) (fun iv _ => n - (intOf iv).toNat)
  case atStart => exact ⟨0, by omega, rfl, 0, rfl⟩
  case round =>
    obtain ⟨i, hi, rfl, d, rfl⟩ := hrel
    by_cases hin : i < n
    · have hinI : (i : Int) < (n : Int) := by omega
      have hil : i < ls.length := by have := HXL.out; omega
      obtain ⟨ad, rfl, hadb, hcell⟩ := (HL.out w1 (Nat.le_refl _) fun _ _ _ => rfl).2 (by omega)
      have hx := List.getElem?_eq_getElem hil
      obtain ⟨Ak, mk, ck, hq, hrd⟩ := hcell i _ hx
      have hmk : mk < 65536 := by have := HLE.out _ (List.getElem_mem hil); have := hrd.1; simp at this; omega
      have hmkI : ¬ (65536 : Int) ≤ (mk : Int) := by omega
      have hqd : (w1.drewN d).cell? (ad.add i) = some (.slice Ak mk ck) := hq
      clear hcell hx hrd hq
      go_wp2_with fail
      go_roundw
      case rel => exact ⟨i + 1, by omega, by go_num, d, rfl⟩
      case measure => simp [intOf]; omega
    · obtain rfl : i = n := by omega
      have hinI : ¬ (i : Int) < (i : Int) := by omega
      have hb2 : Below w1.heap.size w1 (w1.drewN d) := below_drewN (Below.refl _ _) d
      have HLV := Lib.hid (refLevels_any (w1.drewN d) r k _ A i c ls (HB0.out.below hb2) hk (HL.out.later hb2 fun _ h => h) HXL.out (fun b hb => by
        rcases hb with hb | hb
        · have := HNN.out b hb; show b < w1.heap.size; omega
        · exact hb.2) HLE.out h5 h16)
      have HX2 := Lib.hid (HX.out.trans (hb2.mono hs1))
      have HK2 := Lib.hid (HK.out.below' hb2)
      have hs2 := hb2.size
      generalize w1.drewN d = w2 at HLV HX2 HK2 hs2
      clear hb2
      go_wp2_with fail
      refine HLV.out.mono ?_
      rintro _ w3 ⟨v, g, c2, us, rfl, hre⟩
      obtain ⟨gv, cv, rfl, hcl⟩ := hre.last
      obtain ⟨cur, q1, q2, q3⟩ := hre.dig.row
      have HQ := Lib.hid q1
      have HPT := Lib.hid (show ∀ j, j < 32 → cur[0 + j]? = D[j]? from fun j hj => by
        rw [Nat.zero_add, ← Array.getElem?_toList, ← Array.getElem?_toList]
        have e : cur.toList.take 32 = D.toList := by
          rw [HDV.out]
          have h3 := q3
          rw [HONE.out] at h3
          have h4 : cur.toList.take 32 = digRow [rootL ls] := h3
          rw [h4]; simp [digRow]
        rw [← e, List.getElem?_take, if_pos hj])
      have HK3 := Lib.hid (hre.only.blk HK2.out (by
        rintro (e | e)
        · omega
        · exact e (.inr ⟨hgw, hg4l⟩)))
      have HB3 := Lib.hid hre.book
      have HO3 := Lib.hid ((Only.of_below HX2.out).trans (hre.only.mono fun b _ => RM.mono (N := N) fun b => .inl))
      have hs3 := hre.only.size
      clear hre q1 q2 q3
      go_wp2_with (first
        | (refine wpList_load_part (o := ⟨some 40, _, _, _, _, _⟩) rfl 60 (.tmp 39) rfl g 0 32 rfl 60 cur D _ HQ.out Tryz.underlying60 rfl rfl HDS.out HPT.out ?_)
        | (refine wpList_store_part (o := ⟨none, _, _, _, _, _⟩) rfl 60 (.tmp 4) (.tmp 40) rfl g4 0 D rfl rfl 60 inkZ HK3.out (by rw [HDS.out]; rfl) (by rw [HDS.out, HZS.out]; omega) HDO.out ?_; intro w5 hT5 hD5; rw [spl_self _ _ (by rw [HDS.out, HZS.out])] at hD5))
      refine bodyPost_ret (results_part2 rfl _ _ g4 32 60 _ _ rfl hD5 Tryz.underlying60 rfl rfl HDS.out) rfl ⟨rfl, ?_, ?_⟩
      · exact (HB3.out.turned hT5 (.inr ⟨hgw, hg4l⟩) (by omega)).less (by omega) fun b => .inl
      · exact ⟨hT5.os.trans HO3.out.os, hT5.tape.trans HO3.out.tape, hT5.output.trans HO3.out.output, by rw [hT5.size]; exact HO3.out.size, fun i hi hn => (hT5.block i (by omega)).trans (HO3.out.block i hi hn)⟩

end Go.Proofs.YtcpngeiahgoacaaGreat

/- the document's vault in memory; its Leaves. -/
namespace Go.Proofs.YtcpngeiahgoacaaGreat
set_option linter.unusedVariables false
set_option linter.unusedSimpArgs false
open Go.RowKit Go.Maps

attribute [local irreducible] wpList wpCalm

def rvF (m : VM) (dv : Nat → Value) (sv : Value) (j : Nat) : Value :=
  if j = 0 then .int .i64 (m.group : Int) else if j = 1 then .int .i64 (m.epoch : Int)
  else if j < 130 then vb ((blockV m ((j - 2) / 16)).getD ((j - 2) % 16) 0)
  else if j < 134 then .int .i64 ((lastV m (j - 130)).1 : Int)
  else if j < 138 then dv (j - 134) else sv
structure RVs where
  dA : Nat → Option Addr
  dC : Nat → Nat
  sA : Option Addr
  sC : Nat
def rvCells (m : VM) (S : RVs) : Array Value := rng 139 (rvF m (fun i => .slice (S.dA i) (lastV m i).2.length (S.dC i)) (.slice S.sA m.shut.length S.sC))
structure RVAt (w : World) (g : Nat) (m : VM) (S : RVs) : Prop where
  ok : VOk m
  cells : Blk w g 128 (rvCells m S)
  data : ∀ i, i < 4 → Reads w w.heap.size 1 (S.dA i) (lastV m i).2.length ((lastV m i).2.map vb) ∧ (lastV m i).2.length ≤ S.dC i
  seal_ : Reads w w.heap.size 1 S.sA m.shut.length (m.shut.map vn) ∧ m.shut.length ≤ S.sC
theorem RVAt.below {w w' : World} {g : Nat} {m : VM} {S : RVs} (h : RVAt w g m S) (hb : Below w.heap.size w w') : RVAt w' g m S :=
  ⟨h.ok, h.cells.below' hb, fun i hi => ⟨((h.data i hi).1.below hb).more hb.size, (h.data i hi).2⟩, (h.seal_.1.below hb).more hb.size, h.seal_.2⟩
theorem RVAt.cell {w : World} {g : Nat} {m : VM} {S : RVs} (h : RVAt w g m S) (j : Nat) (hj : j < 139) : w.cell? ⟨g, j, none⟩ = some (rvF m (fun i => .slice (S.dA i) (lastV m i).2.length (S.dC i)) (.slice S.sA m.shut.length S.sC) j) :=
  (h.cells.cell j).trans (rng_get _ _ _ hj)
theorem RVAt.byte {w : World} {g : Nat} {m : VM} {S : RVs} (h : RVAt w g m S) (i k : Nat) (hi : i < 8) (hk : k < 16) : w.cell? ⟨g, 2 + i * 16 + k, none⟩ = some (vb ((blockV m i).getD k 0)) := by
  rw [h.cell _ (by omega)]
  unfold rvF
  rw [if_neg (by omega), if_neg (by omega), if_pos (by omega), show (2 + i * 16 + k - 2) / 16 = i by omega, show (2 + i * 16 + k - 2) % 16 = k by omega]
theorem RVAt.stamp {w : World} {g : Nat} {m : VM} {S : RVs} (h : RVAt w g m S) (i : Nat) (hi : i < 4) : w.cell? ⟨g, 130 + i, none⟩ = some (.int .i64 ((lastV m i).1 : Int)) := by
  rw [h.cell _ (by omega)]
  unfold rvF
  rw [if_neg (by omega), if_neg (by omega), if_neg (by omega), if_pos (by omega), show 130 + i - 130 = i by omega]
theorem RVAt.dat {w : World} {g : Nat} {m : VM} {S : RVs} (h : RVAt w g m S) (i : Nat) (hi : i < 4) : w.cell? ⟨g, 134 + i, none⟩ = some (.slice (S.dA i) (lastV m i).2.length (S.dC i)) := by
  rw [h.cell _ (by omega)]
  unfold rvF
  rw [if_neg (by omega), if_neg (by omega), if_neg (by omega), if_neg (by omega), if_pos (by omega), show 134 + i - 134 = i by omega]
theorem RVAt.shut {w : World} {g : Nat} {m : VM} {S : RVs} (h : RVAt w g m S) : w.cell? ⟨g, 138, none⟩ = some (.slice S.sA m.shut.length S.sC) := h.cell 138 (by omega)
theorem RVAt.group {w : World} {g : Nat} {m : VM} {S : RVs} (h : RVAt w g m S) : w.cell? ⟨g, 0, none⟩ = some (.int .i64 (m.group : Int)) := h.cell 0 (by omega)
theorem RVAt.epoch {w : World} {g : Nat} {m : VM} {S : RVs} (h : RVAt w g m S) : w.cell? ⟨g, 1, none⟩ = some (.int .i64 (m.epoch : Int)) := h.cell 1 (by omega)
theorem VOk.block_len {m : VM} (h : VOk m) (i : Nat) (hi : i < 8) : (blockV m i).length = 16 := by
  have hb := h.blocks
  unfold blockV
  rw [List.getD_eq_getElem?_getD, List.getElem?_eq_getElem (by omega)]
  exact h.block _ (List.getElem_mem _)
theorem leavesV_take (m : VM) (i : Nat) (hi : i < 13) : (leavesV m).take (i + 1) = (leavesV m).take i ++ [leafV m i] := by
  have hl : i < (leavesV m).length := by simp [leavesV]; exact hi
  rw [List.take_succ_eq_append_getElem hl]
  simp [leavesV]
end Go.Proofs.YtcpngeiahgoacaaGreat
