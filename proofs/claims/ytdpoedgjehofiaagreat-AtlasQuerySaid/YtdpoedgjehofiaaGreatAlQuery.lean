/-
  AtlasQuery: the law's walk.
-/
import Derived.Test.YtdpoedgjehofiaaGreatZ29
import Derived.BigRegion
import Derived.Deep.DeepCutAuto
namespace Go.Proofs.YtdpoedgjehofiaaGreat
set_option linter.unusedVariables false
set_option linter.unusedSimpArgs false
open Go.RowKit Go.Maps

attribute [local irreducible] wpList wpCalm
theorem ALSt.does2 {w0 W0 W : World} {V : ALoc} {N : Nat → Prop} {m : AM} {a : Nat} (h : ALSt w0 V N m a W0) (hb : Below W0.heap.size W0 W) (ha : a ≤ 700000) (x : Wish) (hx : WishIn W W.heap.size x none 0 0 none 0 0)
    (err ep : Nat) (nodes : List Int) (D : Option Addr) (k d : Nat) (hy : Reads W W.heap.size 1 D k (nodes.map vn)) (hyp : ∀ a, 0 < k → D = some a → W0.heap.size ≤ a.block) (hk : k ≤ 1000000)
    (hres : (doQ m x).2.2 = 0 ∧ (doQ m x).2.1.err = err ∧ (doQ m x).2.1.epoch = ep ∧ (doQ m x).2.1.nodes = nodes) (args : Array Value) (hargs : args = #[.pointer (some ⟨V.g, 0, none⟩), .agg (wCells x none 0 0 none 0 0), .int .i64 (err : Int), .int .i64 (ep : Int), .slice D k d]) :
    Calls Tryz.prog 46 args W fun e W' => e = .returned (.bool true) ∧ Below w0.heap.size w0 W' ∧ (∀ b, W0.heap.size ≤ b → b < W.heap.size → W'.heap[b]? = W.heap[b]?) ∧ W.heap.size ≤ W'.heap.size := by
  have hl := h.later hb
  obtain ⟨L, a', h1, h2, h3⟩ := hl.book
  subst hargs
  refine (adoes_any W V _ m L a' hl.vat hl.nlt h1 h3 (by omega) x none 0 0 none 0 0 _ hx (Nat.le_refl _) err ep nodes D k d hy (fun ad h0 hA => ?_) hk).mono ?_
  · obtain ⟨ad', e, hlt, _⟩ := hy.2 h0
    rw [hA] at e
    injection e with e
    subst e
    have h5 := hyp ad h0 hA
    exact ⟨.inr ⟨h5, hlt⟩, fun hv => by have := h.nlt _ (h.vat.all _ hv); omega⟩
  · rintro e W' ⟨rfl, hd⟩
    refine ⟨by rw [decide_eq_true hres], hl.only hd.only, fun b q1 q2 => hd.only.block b q2 fun e => ?_, hd.only.size⟩
    rcases e with e | e
    · have := h.nlt _ (h.vat.all _ (AAt.has_all (w := w0) (m := m) (N := N) e)); omega
    · exact e (.inr ⟨q1, q2⟩)
/-- the state at a round's head -/
structure AqSt (w0 : World) (V : ALoc) (i : Nat) (W : World) : Prop where
  ex : ∃ m N, ARun m i ∧ ALSt w0 V N m (30 + 6 * i) W
structure AqJ (w w9 : World) (gl a : Nat) (v : Value) (s : Nat) (W : World) : Prop where
  cell : gl < W.heap.size ∧ W.cell? ⟨gl, a * 2 + 1, none⟩ = some v
  zero : s = 0 → Below w9.heap.size w9 W
  one : s = 1 → Below w.heap.size w W
theorem AqJ.later_ {w w9 W W' : World} {gl a s : Nat} {v : Value} (h : AqJ w w9 gl a v s W) (hb : Below W.heap.size W W') : AqJ w w9 gl a v s W' :=
  ⟨⟨by have := h.cell.1; have := hb.size; omega, (hb.cell (p := ⟨gl, a * 2 + 1, none⟩) h.cell.1).trans h.cell.2⟩, fun e => (h.zero e).trans (hb.mono (h.zero e).size), fun e => (h.one e).trans (hb.mono (h.one e).size)⟩

set_option maxRecDepth 100000 in
set_option maxHeartbeats 4000000 in
theorem atlasQuery_law (A : Option Addr) (n c : Nat) (xs : List Int) (ch : Int) (w : World) (hr : Reads w w.heap.size 1 A n (xs.map vn)) (hxs : ∀ z, z ∈ xs → -9223372036854775808 ≤ z ∧ z ≤ 9223372036854775807) (hn : n ≤ 1000000000000000000) (hc1 : -9223372036854775808 ≤ ch) (hc2 : ch ≤ 9223372036854775807) :
    Calls Tryz.prog 5 #[.slice A n c, .int .i64 ch] w fun e w' => e = .returned (.bool true) ∧ Below w.heap.size w w' := by
  have hxl : xs.length = n := by have := hr.1; simpa using this
  have HR := Lib.hid hr
  have HXS := Lib.hid hxs
  have HXL := Lib.hid hxl
  have HBR := Lib.hid (bring_any ch 2 (by omega) (by unfold maxLen; omega) hc1 hc2)
  obtain ⟨bc, hbc⟩ : ∃ q, q = bringF ch 2 := ⟨_, rfl⟩
  have hbc2 : bc < 2 := by rw [hbc]; exact bringF_lt _ _ (by omega)
  rw [← hbc] at HBR
  clear hr hxs hxl hbc
  go_enter Tryz.func5, Tryz.ntmps5
  go_wp2_with fail
  refine (aworks_any w).mono ?_
  rintro _ wa ⟨rfl, hba⟩
  have HBA := Lib.hid hba
  clear hba
  go_wp2_with fail
  refine (inkNew_any wa).mono ?_
  rintro _ w1 ⟨k, rfl, hbk, hkn, hb1⟩
  have hsa := HBA.out.size
  have HB1 := Lib.hid (HBA.out.trans (hb1.mono hsa))
  have HKN := Lib.hid (show w.heap.size ≤ k.g ∧ w.heap.size ≤ k.b1 ∧ w.heap.size ≤ k.b2 by omega)
  have HBK := Lib.hid hbk
  clear hb1 hkn hbk HBA
  go_wp2_with fail
  refine (atwo_any w1).mono ?_
  rintro _ wt ⟨At, ct, rfl, hct, hbt⟩
  have hs1 := HB1.out.size
  have HNW := Lib.hid (aNew_any k [] 0 At 2 ct twoL wt (HBK.out.below hbt) (by omega) hct (by omega))
  have HBT := Lib.hid (HB1.out.trans (hbt.mono hs1))
  clear hct hbt
  go_wp2_with fail
  refine HNW.out.mono ?_
  rintro _ w2 ⟨_, hgo⟩
  obtain ⟨V, rfl, hna⟩ := hgo ak0 newQ_two
  have hkk := hna.kk
  subst hkk
  have HRD := Lib.hid (show AqSt w V 0 w2 from ⟨ak0, _, ARun.fresh, (ALSt.start HBT.out HKN.out hna).more (by omega)⟩)
  clear hgo hna HNW HBK HBT HB1 HKN
  go_wp2_with fail
  go_loopw [7] (fun iv wr => ∃ i : Nat, i ≤ n ∧ i ≤ 40 ∧ iv = .int .i64 i ∧ AqSt w V i wr) (fun iv _ => n - (intOf iv).toNat)
  case atStart => exact ⟨0, by omega, by omega, rfl, HRD.out⟩
  case round =>
    obtain ⟨i, hi, hi40, rfl, hst⟩ := hrel
    obtain ⟨m, N, hrun, hls⟩ := hst.ex
    have HRUN := Lib.hid hrun
    have HL := Lib.hid hls
    clear hst hrun hls HRD
    go_upto_region 7 with fail
    go_cut [27] (fun s27 wx => s27 = .bool (decide (i < n ∧ i < 40)) ∧ wx = wr)
    case first =>
      by_cases hin : i < n
      · go_wp2_with fail
        go_meet
        exact ⟨by simp [hin]; omega, rfl⟩
      · go_wp2_with fail
        go_meet
        exact ⟨by simp [hin], rfl⟩
    case rest =>
      obtain ⟨rfl, rfl⟩ := hcut
      by_cases hlt : i < n ∧ i < 40
      · rw [decide_eq_true hlt]
        obtain ⟨ad, hA, hadb, hcell⟩ := HR.out.2 (by omega)
        subst hA
        have hxi : i < xs.length := by have := HXL.out; omega
        obtain ⟨z, hz⟩ : ∃ z, z = xs[i] := ⟨_, rfl⟩
        have hzb : -9223372036854775808 ≤ z ∧ z ≤ 9223372036854775807 := by rw [hz]; exact HXS.out _ (List.getElem_mem hxi)
        have hcz := hcell i (.int .i64 z) (by rw [List.getElem?_map, List.getElem?_eq_getElem hxi, hz]; rfl)
        have hcz2 : wc.cell? (ad.add i) = some (.int .i64 z) := (HL.out.low.cell (show (ad.add i).block < w.heap.size by rw [block_of_add]; omega)).trans hcz
        obtain ⟨S, hd⟩ := HL.out.vat.dat
        have h2 := HRUN.out.two
        have hbl := bringF_lt (z / 64) 2 (by omega)
        obtain ⟨s, hs⟩ : ∃ s, m.chunks[bringF (z / 64) 2]? = some s := ⟨_, List.getElem?_eq_getElem (by omega)⟩
        have hnok := (hd.ok.srv s (List.mem_of_getElem? hs)).now_ok
        have HWI := Lib.hid (fun (t : Int) (ht : t = ((i + 1 : Nat) : Int)) => awish_any wc _ _ _ _ _ _ _ s hd z t hs rfl hzb.1 hzb.2 (by omega) (by omega))
        have HIN := Lib.hid (fun (W : World) (t : Int) (ht : t = ((i + 1 : Nat) : Int)) => (wishS_in (w := W) (now := s.now) (n := z) (stamp := t) (fun q hq => hnok.bound hq) (by omega) (by omega)))
        have hiI : (i : Int) < (n : Int) := by omega
        have h0I : (0 : Int) ≤ (i : Int) := by omega
        clear hcell hzb hcz hz hd hs hnok h2 hbl
        go_wp2_with fail
        refine (HWI.out _ (by omega)).mono ?_
        rintro _ w4 ⟨rfl, hb4⟩
        have HD := Lib.hid (fun (t : Int) (ht : t = ((i + 1 : Nat) : Int)) => (HL.out.below hb4).do_ (by omega) (wishS s.now z t) none 0 0 none 0 0 _ (HIN.out w4 t ht) (Nat.le_refl _))
        have HSTP := Lib.hid (fun (t : Int) (ht : t = ((i + 1 : Nat) : Int)) => HRUN.out.step (x := wishS s.now z t) (by rw [wishS_stamp]; omega))
        clear hb4 HWI HIN hcz2
        go_wp2_with fail
        refine (HD.out _ (by omega)).mono ?_
        rintro _ w5 ⟨Dv, rfl, _, _, hls, _⟩
        have HST := Lib.hid (show AqSt w V (i + 1) w5 from ⟨_, _, HSTP.out _ (by omega), hls.more (by omega)⟩)
        clear hls HD HSTP
        go_wp2_with fail
        go_roundw
        case rel => exact ⟨i + 1, by omega, by omega, by go_num, HST.out⟩
        case measure => simp [intOf]; omega
      · rw [decide_eq_false hlt]
        go_wp2_with fail
        refine (HBR.out _).mono ?_
        rintro _ _ ⟨rfl, rfl⟩
        have hcm : (1 : Int) + (bc : Int) = (bc : Int) + 1 := by omega
        obtain ⟨S, hd⟩ := HL.out.vat.dat
        have h2 := HRUN.out.two
        obtain ⟨s, hs⟩ : ∃ s, m.chunks[bc]? = some s := ⟨_, List.getElem?_eq_getElem (by omega)⟩
        have hsk := hd.ok.srv s (List.mem_of_getElem? hs)
        have hq := doQ_query (m := m) (s := s) (c := 33) (st := 100) (i := bc) hd.ok hs hbc2 (by omega) (by have := HRUN.out.last (33 - 31); omega) (by omega)
        have HCW := Lib.hid (aCrews_any _ _ _ _ _ _ _ _ s hd hs)
        have HQ := Lib.hid hq
        have hk7 := hsk.now_ok.short.2
        have ha21 := hsk.len
        clear hd hs hsk h2 hq
        go_wp2_with fail
        refine HCW.out.mono ?_
        rintro _ w8 ⟨v, nA, nC, rfl, hown, hb8⟩
        obtain ⟨a0, ha0⟩ : ∃ a, a = s.moves.length := ⟨_, rfl⟩
        have hget : (crewsL s.first s.moves)[a0]? = some s.now := by
          rw [ha0, crewsL_at _ _ _ (Nat.le_refl _), List.take_of_length_le (Nat.le_refl _)]; rfl
        obtain ⟨gl, cap, rfl, hgl, hgl2, hcl⟩ := hown.at_ hget
        have hnd := hown.nodes a0 _ hget
        have hrd := own_reads hnd
        have hge := fun a (ha : nA a0 = some a) => (own_slice_n hnd)
        obtain ⟨A9, c9, e9, _, _, _, hge9⟩ := own_slice_n hnd
        injection e9 with e91 e92 e93
        have hlen : (crewsL s.first s.moves).length = a0 + 1 := by rw [crewsL_len, ha0]
        rw [hlen]
        obtain ⟨An, hAn⟩ : ∃ A, A = nA a0 := ⟨_, rfl⟩
        obtain ⟨cn, hcn⟩ : ∃ c, c = nC a0 := ⟨_, rfl⟩
        obtain ⟨kn, hkn⟩ : ∃ c, c = s.now.length := ⟨_, rfl⟩
        rw [← hAn, ← hkn] at hrd
        rw [← hAn, ← hkn, ← hcn] at hcl
        have hge' : ∀ a, An = some a → wc.heap.size ≤ a.block := fun a ha => hge9 a (by rw [← e91, ← hAn]; exact ha)
        have HDS := Lib.hid (fun (W : World) (hb : Below w8.heap.size w8 W) => HL.out.does2 (W := W) (hb8.trans (hb.mono hb8.size)) (by omega) (queryQ 33 100 ((bc : Int) + 1)) (queryIn ⟨by unfold I64; omega, by unfold I64; omega, by unfold I64; omega⟩) 0 a0 s.now An kn cn ((hrd.2.below hb).more hb.size) (fun a _ ha => hge' a ha) (by omega) (by
          have := HQ.out
          refine ⟨this.1, ?_, ?_, ?_⟩
          · exact congrArg (·.err) this.2
          · rw [ha0]; exact congrArg (·.epoch) this.2
          · exact congrArg (·.nodes) this.2) _ rfl)
        have HJ0 := Lib.hid (show AqJ w w8 gl a0 (.slice An kn cn) 0 w8 from ⟨⟨hgl2, hcl⟩, fun _ => Below.refl _ _, fun e => by omega⟩)
        have hi0 : 0 ≤ (a0 : Int) := by omega
        have hi1 : (a0 : Int) < ((a0 + 1 : Nat) : Int) := by omega
        have hi1' : (a0 : Int) < (a0 : Int) + 1 := by omega
        have hi3 : ((a0 + 1 : Nat) : Int) - 1 = (a0 : Int) := by omega
        have hi4 : ((a0 + 1 : Nat) : Int) = (a0 : Int) + 1 := by omega
        have hs8 := hb8.size
        have ha21' : a0 ≤ 21 := by omega
        clear ha0 hget hcl hnd hrd hge e91 e92 e93 hge9 hlen hAn hcn hkn hge' hown HCW HBR HR HXS HXL HRUN hb8
        go_upto_region 13 with fail
        refine wp_region_loud 14 63 (fun jx W v => match jx with
          | 0 => v = .int .i64 (a0 : Int)
          | 1 => v = .bool true
          | 2 => v = .bool true
          | 3 => v = .pointer (some ⟨V.g, 0, none⟩)
          | 4 => v = .int .i64 ((bc : Int) + 1)
          | 5 => v = .agg (wCells (queryQ 33 100 ((bc : Int) + 1)) none 0 0 none 0 0)
          | 6 => v = .int .i64 (a0 : Int)
          | 7 => v = .slice (some ⟨gl, 0, none⟩) (a0 + 1) cap
          | 8 => v = .int .i64 (a0 : Int)
          | 9 => v = .pointer (some ⟨gl, a0 * 2, none⟩)
          | 10 => v = .pointer (some ⟨gl, a0 * 2 + 1, none⟩)
          | 11 => v = .slice An kn cn
          | 12 => v = .bool true
          | _ => v = .bool true) (AqJ w w8 gl a0 (.slice An kn cn)) (fun _ _ => True) [12] [49, 50, 51, 52, 53, 54, 55, 56, 57, 58, 59, 60, 61, 62] (by kernel_rfl) (by kernel_rfl) (by kernel_rfl) (by kernel_rfl) (by first | rfl | simp) (by kernel_rfl) (fun jx => ?last) ?lastR (fun s W W' h1 h2 => h1.later_ h2) HJ0.out ?heads ?_
        case last =>
          match jx with
          | 0 | 1 | 2 | 3 | 4 | 5 | 6 | 7 | 8 | 9 | 10 | 11 | 12 | jx + 13 => exact Lasts.pure _
        case lastR =>
          intro s jx W W' u hsl hs hj hp hR
          match jx with
          | 0 | 1 | 2 | 3 | 4 | 5 | 6 | 7 | 8 | 9 | 10 | 11 | 12 | jx + 13 => exact hp
        case heads =>
          simp only [List.take_succ_cons, List.take_zero]
          refine ⟨?_, ?_, ?_, ?_, ?_, ?_, ?_, ?_, ?_, ?_, ?_, ?_, ?_, ?_, trivial⟩
          · rw [if_neg (by decide)]
            intro s a W hj hkp hd
            have e0 : a.tmps[9]?.getD undef = .int .i64 (a0 : Int) := hkp.get (by kernel_rfl) rfl
            exact rel_value rfl (.int .i64 (a0 : Int)) (by go_simp) rfl
          · rw [if_neg (by decide)]
            intro s a W hj hkp hd
            have e0 : a.tmps[49]?.getD undef = .int .i64 (a0 : Int) := (hd 0 (by kernel_rfl)).get 49 rfl rfl
            exact rel_value rfl (.bool true) (by go_simp) rfl
          · rw [if_neg (by decide)]
            intro s a W hj hkp hd
            have e0 : a.tmps[50]?.getD undef = .bool true := (hd 1 (by kernel_rfl)).get 50 rfl rfl
            exact rel_value rfl (.bool true) (by go_simp) rfl
          · rw [if_neg (by decide)]
            intro s a W hj hkp hd
            have eg : a.tmps[51]?.getD undef = .bool true := (hd 2 (by kernel_rfl)).get 51 rfl rfl
            have e0 : a.tmps[5]?.getD undef = .pointer (some ⟨V.g, 0, none⟩) := hkp.get (by kernel_rfl) rfl
            exact rel_value (wanted_at rfl rfl eg) (.pointer (some ⟨V.g, 0, none⟩)) (by go_simp) rfl
          · rw [if_neg (by decide)]
            intro s a W hj hkp hd
            have eg : a.tmps[51]?.getD undef = .bool true := (hd 2 (by kernel_rfl)).get 51 rfl rfl
            have e0 : a.tmps[1]?.getD undef = .int .i64 ((bc : Int) + 1) := hkp.get (by kernel_rfl) rfl
            exact rel_value (wanted_at rfl rfl eg) (.int .i64 ((bc : Int) + 1)) (by go_simp) rfl
          · rw [if_neg (by decide)]
            intro s a W hj hkp hd
            have eg : a.tmps[51]?.getD undef = .bool true := (hd 2 (by kernel_rfl)).get 51 rfl rfl
            have e0 : a.tmps[53]?.getD undef = .int .i64 ((bc : Int) + 1) := (hd 4 (by kernel_rfl)).get 53 rfl rfl
            refine rel_call (wanted_at rfl rfl eg) 47 #[.int .i64 33, .int .i64 100, .int .i64 ((bc : Int) + 1)] (by go_simp) ((aquery_any _ _ _ W).mono ?_)
            rintro e w' ⟨rfl, hb'⟩
            exact ⟨_, rfl, hb', rfl⟩
          · rw [if_neg (by decide)]
            intro s a W hj hkp hd
            have eg : a.tmps[51]?.getD undef = .bool true := (hd 2 (by kernel_rfl)).get 51 rfl rfl
            have e0 : a.tmps[9]?.getD undef = .int .i64 (a0 : Int) := hkp.get (by kernel_rfl) rfl
            exact rel_value (wanted_at rfl rfl eg) (.int .i64 (a0 : Int)) (by go_simp) rfl
          · rw [if_neg (by decide)]
            intro s a W hj hkp hd
            have eg : a.tmps[51]?.getD undef = .bool true := (hd 2 (by kernel_rfl)).get 51 rfl rfl
            have e0 : a.tmps[8]?.getD undef = .slice (some ⟨gl, 0, none⟩) (a0 + 1) cap := hkp.get (by kernel_rfl) rfl
            exact rel_value (wanted_at rfl rfl eg) (.slice (some ⟨gl, 0, none⟩) (a0 + 1) cap) (by go_simp) rfl
          · rw [if_neg (by decide)]
            intro s a W hj hkp hd
            have eg : a.tmps[51]?.getD undef = .bool true := (hd 2 (by kernel_rfl)).get 51 rfl rfl
            have e0 : a.tmps[9]?.getD undef = .int .i64 (a0 : Int) := hkp.get (by kernel_rfl) rfl
            exact rel_value (wanted_at rfl rfl eg) (.int .i64 (a0 : Int)) (by go_simp) rfl
          · rw [if_neg (by decide)]
            intro s a W hj hkp hd
            have eg : a.tmps[51]?.getD undef = .bool true := (hd 2 (by kernel_rfl)).get 51 rfl rfl
            have e0 : a.tmps[56]?.getD undef = .slice (some ⟨gl, 0, none⟩) (a0 + 1) cap := (hd 7 (by kernel_rfl)).get 56 rfl rfl
            have e1 : a.tmps[57]?.getD undef = .int .i64 (a0 : Int) := (hd 8 (by kernel_rfl)).get 57 rfl rfl
            exact rel_value (wanted_at rfl rfl eg) (.pointer (some ⟨gl, a0 * 2, none⟩)) (by go_simp) rfl
          · rw [if_neg (by decide)]
            intro s a W hj hkp hd
            have eg : a.tmps[51]?.getD undef = .bool true := (hd 2 (by kernel_rfl)).get 51 rfl rfl
            have e0 : a.tmps[58]?.getD undef = .pointer (some ⟨gl, a0 * 2, none⟩) := (hd 9 (by kernel_rfl)).get 58 rfl rfl
            exact rel_value (wanted_at rfl rfl eg) (.pointer (some ⟨gl, a0 * 2 + 1, none⟩)) (by go_simp) rfl
          · rw [if_neg (by decide)]
            intro s a W hj hkp hd
            have eg : a.tmps[51]?.getD undef = .bool true := (hd 2 (by kernel_rfl)).get 51 rfl rfl
            have e0 : a.tmps[59]?.getD undef = .pointer (some ⟨gl, a0 * 2 + 1, none⟩) := (hd 10 (by kernel_rfl)).get 59 rfl rfl
            have cc := hj.cell.2
            exact rel_value (wanted_at rfl rfl eg) (.slice An kn cn) (by go_simp) rfl
          · rw [if_pos (by decide)]
            intro s a W hs hj hkp hd
            have eg : a.tmps[51]?.getD undef = .bool true := (hd 2 (by kernel_rfl)).get 51 rfl rfl
            have e0 : a.tmps[52]?.getD undef = .pointer (some ⟨V.g, 0, none⟩) := (hd 3 (by kernel_rfl)).get 52 rfl rfl
            have e1 : a.tmps[54]?.getD undef = .agg (wCells (queryQ 33 100 ((bc : Int) + 1)) none 0 0 none 0 0) := (hd 5 (by kernel_rfl)).get 54 rfl rfl
            have e2 : a.tmps[55]?.getD undef = .int .i64 (a0 : Int) := (hd 6 (by kernel_rfl)).get 55 rfl rfl
            have e3 : a.tmps[60]?.getD undef = .slice An kn cn := (hd 11 (by kernel_rfl)).get 60 rfl rfl
            have h0 : s = 0 := by
              match s, hs with
              | 0, _ => rfl
              | s + 1, hs => simp at hs
            have hbW := hj.zero h0
            have hsW := hbW.size
            refine loud_call (wanted_at rfl rfl eg) 46 #[.pointer (some ⟨V.g, 0, none⟩), .agg (wCells (queryQ 33 100 ((bc : Int) + 1)) none 0 0 none 0 0), .int .i64 0, .int .i64 (a0 : Int), .slice An kn cn] (by go_simp) ((HDS.out W hbW).mono ?_)
            rintro e w' ⟨rfl, q1, q2, q3⟩
            exact ⟨_, rfl, trivial, ⟨⟨by have := hj.cell.1; omega, (World.cell?_of_block (a := ⟨gl, a0 * 2 + 1, none⟩) (q2 gl (by omega) hj.cell.1)).trans hj.cell.2⟩, fun e => by omega, fun _ => q1⟩, rfl⟩
          · rw [if_neg (by decide)]
            intro s a W hj hkp hd
            have e0 : a.tmps[51]?.getD undef = .bool true := (hd 2 (by kernel_rfl)).get 51 rfl rfl
            have e1 : a.tmps[61]?.getD undef = .bool true := (hd 12 (by kernel_rfl)).get 61 rfl rfl
            exact rel_value rfl (.bool true) (by go_simp) rfl
        intro fv W hj hd
        have h62 : fv 62 = .bool true := hd 13 (by omega) _ 62 rfl rfl
        have HB := Lib.hid (hj.one rfl)
        simp only [putAll, List.drop_succ_cons, List.drop_zero, h62]
        clear hd hj h62
        try simp only [Act.put, List.setIfInBounds_toArray, List.set_cons_zero, List.set_cons_succ]
        go_wp2_with fail
        go_ret
        exact ⟨rfl, HB.out⟩

end Go.Proofs.YtdpoedgjehofiaaGreat
