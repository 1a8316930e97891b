/- Parts of the proof, in one text: TreeD, TreeE, Loud. -/
import Derived.Test.YtlaodmmjhjpfmaaGreatZ9
import Derived.BigRegion
import Derived.Test.YtlaodmmjhjpfmaaGreatZ7

/- Contracts of tree.levels and slices.Repeat: a tree that is made. -/
namespace Go.Proofs.YtlaodmmjhjpfmaaGreat
set_option linter.unusedVariables false
open Go.RowKit Go.Maps

/-- a row of digests, wherever it lies -/
structure DigAt (w : World) (g cap : Nat) (ds : List (List UInt8)) : Prop where
  row : ∃ cur : Array Value, Blk w g 63 cur ∧ cur.size = cap * 32 ∧ cur.toList.take (ds.length * 32) = digRow ds
  cap : ds.length ≤ cap ∧ cap ≤ maxLen
theorem DigAt.of_own {w : World} {B : Nat} {v : Value} {n : Nat} {ds : List (List UInt8)} (h : w.ownsRow B 63 32 v n (digRow ds)) (hd : Digs ds) (h0 : 0 < n) : ds.length = n ∧ ∃ g cap, v = .slice (some ⟨g, 0, none⟩) n cap ∧ B ≤ g ∧ DigAt w g cap ds := by
  have hl : ds.length = n := by have := h.1; rw [digRow_len hd] at this; omega
  rcases h.2 with ⟨_, h1⟩ | ⟨g, cap, cur, hv, h2, h3, h4, h5, h6, h7⟩
  · omega
  · exact ⟨hl, g, cap, hv, h2, ⟨⟨cur, h3, h6, by rw [hl]; exact h7⟩, by omega, h5⟩⟩
theorem DigAt.lt {w : World} {g cap : Nat} {ds : List (List UInt8)} (h : DigAt w g cap ds) : g < w.heap.size := by
  obtain ⟨cur, h1, _⟩ := h.row
  exact h1.lt
theorem DigAt.keep {w w' : World} {g cap : Nat} {ds : List (List UInt8)} (h : DigAt w g cap ds) (hk : w'.heap[g]? = w.heap[g]?) : DigAt w' g cap ds := by
  obtain ⟨cur, h1, h2⟩ := h.row
  exact ⟨⟨cur, hk.trans h1, h2⟩, h.cap⟩
theorem DigAt.reads {w : World} {g cap : Nat} {ds : List (List UInt8)} (h : DigAt w g cap ds) (hd : Digs ds) : Reads w w.heap.size 32 (some ⟨g, 0, none⟩) ds.length (digRow ds) := by
  obtain ⟨cur, h1, h2, h3⟩ := h.row
  refine ⟨digRow_len hd, fun _ => ⟨_, rfl, h1.lt, fun j u hu => ?_⟩⟩
  rw [add_off, Nat.zero_add, h1.cell, ← Array.getElem?_toList]
  rw [← h3, List.getElem?_take] at hu
  split at hu
  · exact hu
  · cases hu
/-- one digest is turned -/
theorem DigAt.set {w w' : World} {g cap i : Nat} {ds : List (List UInt8)} {d : List UInt8} (h : DigAt w g cap ds) (hd : Digs ds) (hdl : d.length = 32) (hi : i < ds.length) (hk : ∀ cur : Array Value, Blk w g 63 cur → cur.size = cap * 32 → Blk w' g 63 (spl cur (i * 32) (d.map vb))) : DigAt w' g cap (ds.set i d) := by
  obtain ⟨cur, h1, h2, h3⟩ := h.row
  have hc := h.cap
  have hm : (i + 1) * 32 ≤ cap * 32 := Nat.mul_le_mul_right _ (by omega)
  have hle : i * 32 + (d.map vb).length ≤ cur.size := by rw [List.length_map, hdl, h2]; omega
  refine ⟨⟨_, hk cur h1 h2, by rw [spl_size hle, h2], ?_⟩, by rw [List.length_set]; exact hc⟩
  apply List.ext_getElem?
  intro j
  have hl := digRow_len (hd.set i hdl)
  have hl0 := digRow_len hd
  rw [List.length_set] at hl ⊢
  rw [List.getElem?_take]
  rcases Nat.lt_or_ge j (ds.length * 32) with hj | hj
  · rw [if_pos hj, Array.getElem?_toList, spl_get hle]
    have hq : j / 32 < ds.length := by omega
    have hj2 : j = j / 32 * 32 + j % 32 := by omega
    by_cases he : j / 32 = i
    · rw [if_pos (by rw [List.length_map, hdl]; omega)]
      have := digRow_get (hd.set i hdl) i (j % 32) (d := d) (by rw [List.getElem?_set_self hi]) (by omega)
      rw [hj2, he, this]
      congr 1
      omega
    · rw [if_neg (by rw [List.length_map, hdl]; omega), ← Array.getElem?_toList]
      have e1 : (digRow ds)[j]? = cur.toList[j]? := by rw [← h3, List.getElem?_take, if_pos hj]
      have hg1 := digRow_get hd (j / 32) (j % 32) (List.getElem?_eq_getElem hq) (by omega)
      have hg2 := digRow_get (hd.set i hdl) (j / 32) (j % 32) (d := ds[j / 32]) (by rw [List.getElem?_set_ne (fun e => he e.symm), List.getElem?_eq_getElem hq]) (by omega)
      rw [← hj2] at hg1 hg2
      rw [hg2, ← hg1, e1]
  · rw [if_neg (by omega), List.getElem?_eq_none (by omega)]

theorem slc_info : (Tryz.prog.info? 220).map (fun i => (i.zero, i.size, i.bytes)) = some (some (.slice none 0 0), 1, 24) := by kernel_rfl

/-- the first levels of a tree, in a world that goes on from w -/
structure LvSt (w wr : World) (k : Book) (L : List (List UInt8)) (asked : Nat) (ls : List (List UInt8)) (g0 c s : Nat) (gs cs : Nat → Nat) (ov : Value) : Prop where
  g0 : gs 0 = g0
  c0 : cs 0 = c
  row : wr.ownsRow w.heap.size 220 1 ov (s + 1) ((List.range (s + 1)).map fun j => .slice (some ⟨gs j, 0, none⟩) (lv ls j).length (cs j))
  dig : ∀ j, j ≤ s → DigAt wr (gs j) (cs j) (lv ls j)
  new : ∀ j, 1 ≤ j → j ≤ s → w.heap.size ≤ gs j
  ne : ∀ i j, i < j → j ≤ s → gs i ≠ gs j
  book : ∃ L' a', BookAt wr k L' a' ∧ a' ≤ asked + 4 * s ∧ (∀ x, x ∈ L → x ∈ L') ∧ (1 ≤ s → ∀ p, p < grps ls.length → upIn (grp (lv ls 0) p) ∈ L') ∧ (2 ≤ s → upIn (lv ls 1) ∈ L')
  only : OnlyBook k w wr
theorem lv_count {ls : List (List UInt8)} (h5 : 5 ≤ ls.length) (h16 : ls.length ≤ 16) (s : Nat) (hs : s ≤ 2) : (1 < (lv ls s).length ↔ s < 2) ∧ (lv ls s).length ≤ 16 ∧ 1 ≤ (lv ls s).length ∧ grps (lv ls s).length ≤ 4 := by
  have h0 := lv_len0 ls
  have h1 := lv_len1 ls
  have h2 := lv_len2 ls
  obtain rfl | rfl | rfl : s = 0 ∨ s = 1 ∨ s = 2 := by omega
  · rw [h0]; unfold grps; omega
  · rw [h1]; unfold grps; omega
  · rw [h2]; unfold grps; omega

set_option maxRecDepth 100000 in
set_option maxHeartbeats 4000000 in
/-- the levels over a lowest one of 5 to 16: three -/
theorem levels_any (k : Book) (L : List (List UInt8)) (asked : Nat) (g0 n c : Nat) (ls : List (List UInt8)) (w : World) (hbk : BookAt w k L asked) (h : DigAt w g0 c (lv ls 0)) (hap : ¬ k.has g0) (h5 : 5 ≤ ls.length) (h16 : ls.length ≤ 16) (hn : n = ls.length) (has : asked ≤ 800000) :
    Calls Tryz.prog 151 #[.pointer (some ⟨k.g, 0, none⟩), .slice (some ⟨g0, 0, none⟩) n c] w fun e w' => ∃ v gs cs, e = .returned v ∧ LvSt w w' k L asked ls g0 c 2 gs cs v := by
  have hn0 : n = (lv ls 0).length := by rw [lv_len0]; exact hn
  have HAP := Lib.hid hap
  have HBK := Lib.hid hbk
  have H0 := Lib.hid h
  have h0lt := h.lt
  have hlt := hbk.lt
  have HLT := Lib.hid hlt
  have HN := Lib.hid hn0
  obtain ⟨i0, hi0, hz0, hz1, hz2⟩ := info_parts slc_info
  have hw0 := World.ownsRow_lit (base := w.heap.size) (e := 220) (size := 1) w #[.slice (some ⟨g0, 0, none⟩) n c] 1 (Nat.le_refl _) (by unfold maxLen; omega) rfl
  have hst : LvSt w (w.alloc (.cells #[.slice (some ⟨g0, 0, none⟩) n c] 220)) k L asked ls g0 c 0 (fun _ => g0) (fun _ => c) (.slice (some ⟨w.heap.size, 0, none⟩) 1 1) := by
    refine ⟨rfl, rfl, ?_, fun j hj => ?_, fun j h1 h2 => by omega, fun i j h1 h2 => by omega, ⟨L, asked, hbk.below (below_lit _ _), by omega, fun _ h => h, fun h => by omega, fun h => by omega⟩, OnlyBook.of_below (below_lit _ _)⟩
    · rw [hn0] at hw0 ⊢
      exact hw0
    · obtain rfl : j = 0 := by omega
      exact h.keep (Below.heap_alloc _ _ _ h0lt)
  have HST := Lib.hid hst
  clear h hap hbk hlt hst hw0 hn hn0
  go_enter Tryz.func151, Tryz.ntmps151
  go_wp2_with fail
  go_loopw [1, 5] (fun lw ov wr => ∃ s gs cs m, s ≤ 2 ∧ m = (lv ls s).length ∧ lw = .slice (some ⟨gs s, 0, none⟩) m (cs s) ∧ LvSt w wr k L asked ls g0 c s gs cs ov) (fun lw _ _ => (match lw with | .slice _ n _ => n | _ => 0))
  case atStart => exact ⟨0, _, _, n, by omega, HN.out, rfl, HST.out⟩
  case round =>
    obtain ⟨s, gs, cs, m, hs, hm, rfl, hlv⟩ := hrel
    have HLV := Lib.hid hlv
    obtain ⟨hc1, hc2, hc3, hc4⟩ := lv_count h5 h16 s hs
    rw [← hm] at hc1 hc2 hc3 hc4
    have HM := Lib.hid hm
    by_cases h1 : 1 < m
    · have hs2 := hc1.1 h1
      have h1i : (1 : Int) < (m : Int) := by omega
      obtain ⟨Ls, a', hbk, ha', hLs, hp1, hp2⟩ := hlv.book
      have hg := hlv.dig s (Nat.le_refl _)
      have hgk : ¬ k.has (gs s) := by
        rcases Nat.eq_zero_or_pos s with e | e
        · subst e; rw [hlv.g0]; exact HAP.out
        · have := hlv.new s e (Nat.le_refl _)
          have hl := HLT.out
          rintro (e | e | e) <;> omega
      have hab := above_any k Ls a' (some ⟨gs s, 0, none⟩) m (cs s) (lv ls s) wr hbk (by have := hg.reads (lv_digs ls s); rw [← hm] at this; exact this) (fun a _ e => by injection e with e; subst e; exact hgk) (lv_digs ls s) (by omega) (by have := hg.cap; rw [← hm] at this; exact this.1) (by omega)
      have HAB := Lib.hid hab
      have HL1 := Lib.hid hLs
      have HP1 := Lib.hid hp1
      have HP2 := Lib.hid hp2
      have hsw := hlv.only.size
      clear hlv hbk hg hab hLs hp1 hp2 hm
      go_wp2_with fail
      refine HAB.out.mono ?_
      rintro _ w3 ⟨v3, L3, rfl, hrow3, hbk3, hL3, hp3, ho3⟩
      obtain ⟨hl3, g3, c3, rfl, hg3, hd3⟩ := DigAt.of_own hrow3 (aboveL_digs _) (by unfold grps; omega)
      have HR3 := Lib.hid (rowD_keep HLV.out.row (w' := w3) (fun b hb => by
        have := rowD_lt HLV.out.row hb
        have hl := HLT.out
        exact ho3.block b this.2 (by rintro (e | e | e) <;> omega)))
      have HO3 := Lib.hid (HLV.out.only.trans ho3)
      have hs3 := ho3.size
      obtain ⟨m2, hm2⟩ : ∃ m2, m2 = grps m := ⟨_, rfl⟩
      rw [← hm2]
      have HM2 := Lib.hid hm2
      have HW3 := Lib.hid (reads_cells w3 #[.slice (some ⟨g3, 0, none⟩) m2 c3] 220)
      have HBK3 := Lib.hid hbk3
      have HL3 := Lib.hid hL3
      have HP3 := Lib.hid hp3
      have HD3 := Lib.hid hd3
      have HO := Lib.hid ho3
      have hm2l : m2 ≤ 4 ∧ 1 ≤ m2 := by rw [hm2]; unfold grps at hc4 ⊢; omega
      clear hrow3 hbk3 hL3 hp3 hd3 ho3 HAB hm2
      go_wp2_with (at_builtin; go_must (refine wpList_append_any _ rfl (.tmp 14) (.tmp 16) 216 rfl w.heap.size 220 i0 _ 1 24 Tryz.underlying216 hi0 hz0 hz1 hz2 rfl (by omega) _ (s + 1) ((List.range (s + 1)).map fun j => Value.slice (some ⟨gs j, 0, none⟩) (lv ls j).length (cs j)) rfl ?row (w3.heap.size + 1) (some ⟨w3.heap.size, 0, none⟩) 1 1 [.slice (some ⟨g3, 0, none⟩) m2 c3] rfl ?rd ?c1 ?c2 ?c3 ?c4 ?_))
      case row => exact rowD_keep HR3.out (fun b hb => Below.heap_alloc _ _ b (rowD_lt HR3.out hb).2)
      case rd => exact HW3.out
      case c1 => intro u hu; rw [List.mem_singleton] at hu; subst hu; rfl
      case c2 => unfold maxLen; omega
      case c3 => omega
      case c4 => simp; omega
      intro v6 w6 hown6 hg6 hor6
      have hal : Below w3.heap.size w3 (w3.alloc (.cells #[.slice (some ⟨g3, 0, none⟩) m2 c3] 220)) := below_lit _ _
      have hfar : ∀ b, b < w.heap.size → w6.heap[b]? = w3.heap[b]? := fun b hb => (hg6.block b (by have := hal.size; omega) (fun e => by have := (rowD_lt HR3.out e.symm).1; omega)).trans (hal.block b (by omega))
      have hkeep : ∀ b, b < w3.heap.size → (∃ cur, Blk w3 b 63 cur) → w6.heap[b]? = w3.heap[b]? := fun b hb ⟨cur, hcur⟩ => (hg6.block b (by have := hal.size; omega) (fun e => own_blk_ne HR3.out hcur (by decide) e.symm)).trans (hal.block b hb)
      have hdk : ∀ g cap ds, DigAt w3 g cap ds → DigAt w6 g cap ds := fun g cap ds hd => hd.keep (by
        obtain ⟨cur, h1, _⟩ := hd.row
        exact hkeep g hd.lt ⟨cur, h1⟩)
      have hst6 : LvSt w w6 k L asked ls g0 c (s + 1) (fun j => if j = s + 1 then g3 else gs j) (fun j => if j = s + 1 then c3 else cs j) v6 := by
        have hold := HLV.out
        have ho := HO.out
        have hl := HLT.out
        refine ⟨by simp [hold.g0], by simp [hold.c0], ?_, fun j hj => ?_, fun j h1 h2 => ?_, fun i j h1 h2 => ?_, ⟨L3, a' + grps m, ?_, ?_, fun x hx => HL3.out x (HL1.out x hx), fun _ p hp => ?_, fun h2 => ?_⟩, ?_⟩
        · have e : (List.range (s + 1 + 1)).map (fun j => Value.slice (some ⟨if j = s + 1 then g3 else gs j, 0, none⟩) (lv ls j).length (if j = s + 1 then c3 else cs j)) = (List.range (s + 1)).map (fun j => Value.slice (some ⟨gs j, 0, none⟩) (lv ls j).length (cs j)) ++ [.slice (some ⟨g3, 0, none⟩) m2 c3] := by
            rw [List.range_succ, List.map_append]
            congr 1
            · refine List.map_congr_left fun j hj => ?_
              have := List.mem_range.1 hj
              rw [if_neg (by omega), if_neg (by omega)]
            · simp only [List.map_cons, List.map_nil, if_true]
              rw [show (lv ls (s + 1)).length = m2 by show (aboveL (lv ls s)).length = _; rw [aboveL_len, ← HM.out, HM2.out]]
          rw [e, List.range_succ, List.map_append, List.append_assoc]
          exact hown6
        · by_cases he : j = s + 1
          · subst he
            simp only [if_true]
            exact hdk _ _ _ HD3.out
          · simp only [if_neg he]
            have hd := hold.dig j (by omega)
            refine hdk _ _ _ (hd.keep (ho.block _ hd.lt ?_))
            rcases Nat.eq_zero_or_pos j with e | e
            · subst e; rw [hold.g0]; exact HAP.out
            · have := hold.new j e (by omega)
              rintro (e | e | e) <;> omega
        · by_cases he : j = s + 1
          · simp only [if_pos he]; omega
          · simp only [if_neg he]; exact hold.new j h1 (by omega)
        · have hi : i ≠ s + 1 := by omega
          simp only [if_neg hi]
          by_cases he : j = s + 1
          · simp only [if_pos he]
            have := (hold.dig i (by omega)).lt
            omega
          · simp only [if_neg he]; exact hold.ne i j h1 (by omega)
        · exact HBK3.out.only (N := fun b => w.heap.size ≤ b) ⟨hg6.os.trans hal.os, hg6.tape.trans hal.tape, hg6.output.trans hal.output, by have := hal.size; have := hg6.size; omega, fun i hi hn => hfar i (by omega)⟩ (by omega) (by omega) (by omega)
        · have := HM2.out; omega
        · rcases Nat.eq_zero_or_pos s with e | e
          · subst e
            refine HP3.out p ?_
            rw [HM.out, lv_len0]
            exact hp
          · exact HL3.out _ (HP1.out e p hp)
        · obtain rfl : s = 1 := by omega
          have := HP3.out 0 (by unfold grps; omega)
          have e : grp (lv ls 1) 0 = lv ls 1 := by
            unfold grp
            rw [Nat.mul_zero, List.drop_zero, List.take_of_length_le]
            rw [lv_len1]; unfold grps; omega
          rw [e] at this
          exact this
        · have h5 := HO3.out
          refine ⟨hg6.os.trans (hal.os.trans h5.os), hg6.tape.trans (hal.tape.trans h5.tape), hg6.output.trans (hal.output.trans h5.output), by have := hal.size; have := hg6.size; have := h5.size; omega, fun i hi hn => (hfar i hi).trans (h5.block i hi hn)⟩
      have HST6 := Lib.hid hst6
      clear hst6 hdk hkeep hfar hal hown6 hg6 hor6 HD3 HO HR3 HW3
      go_wp2_with fail
      go_roundw
      case rel => exact ⟨s + 1, _, _, m2, by omega, by show m2 = (aboveL (lv ls s)).length; rw [aboveL_len, ← HM.out, HM2.out], by simp, HST6.out⟩
      case measure => show m2 < m; rw [HM2.out]; unfold grps; omega
    · have hs2 : s = 2 := by have := mt hc1.2 h1; omega
      subst hs2
      have h1i : ¬ (1 : Int) < (m : Int) := by omega
      clear hlv hm
      go_wp2_with fail
      go_ret
      exact ⟨_, rfl, gs, cs, HLV.out⟩

end Go.Proofs.YtlaodmmjhjpfmaaGreat

/- Contract of slices.Repeat for one digest, 6 or 13 times. -/
namespace Go.Proofs.YtlaodmmjhjpfmaaGreat
set_option linter.unusedVariables false
open Go.RowKit Go.Maps
attribute [local irreducible] wpList

section
variable {P : Program}
theorem run_copy_rowS (w : World) (dT sT ty elem : TypeId) (g o dLen dCap s m : Nat) (a : Addr) (sLen sCap : Nat) (cur : Array Value) (t : TypeId) (cs : List Value)
    (hu : P.underlying dT = some (.slice elem)) (hs : (P.info? elem).map (·.size) = some s)
    (hg : Blk w g t cur) (hm : m = Nat.min sLen dLen) (hn : cs.length = m * s)
    (hsrc : ∀ j v, cs[j]? = some v → w.cell? (a.add j) = some v) (hfit : o + cs.length ≤ cur.size) (h1 : ∀ v ∈ cs, v.oneCell' = true) :
    (Builtin.copy_ #[dT, sT] ty #[.slice (some ⟨g, o, none⟩) dLen dCap, .slice (some a) sLen sCap]).run P w = .ok (.int .i64 (m : Int)) (w.setRow g (spl cur o cs)) := by
  have hl := run_loadCells_list (P := P) w a cs hsrc
  have hst := run_storeCells_at P g o t cs 0 cur w hg (by simpa using hfit) h1
  cases hq : P.info? elem with
  | none => simp [hq] at hs
  | some i =>
    have hi : i.size = s := by simpa [hq] using hs
    rw [hn] at hl
    simp only [Nat.add_zero] at hst
    simp only [List.append_assoc] at hst
    simp [Builtin.copy_, run_underlying hu, Builtin.lenOf, Builtin.firstCells, sizeOf, typeInfo, hq, hi, ← hm, hl, hst, spl, goInt]
theorem wpList_copy_partS {ops : Array Oper} {rest : List Oper} {o : Oper} {a : Act} {w : World} {Q : Exit → Act → World → Prop} (hgd : o.guard = none) (d s : Operand) (dT sT elem : TypeId)
    (ho : o.op = .call { callee := .builtin .copy, args := #[d, s], argTypes := #[dT, sT] })
    (g off dLen dCap sLen sCap size m : Nat) (ad : Addr) (t : TypeId) (cs : Array Value) (vs : List Value)
    (hd : a.eval d = .slice (some ⟨g, off, none⟩) dLen dCap) (hs : a.eval s = .slice (some ad) sLen sCap)
    (hu : P.underlying dT = some (.slice elem)) (hsz : (P.info? elem).map (·.size) = some size)
    (hB : Blk w g t cs) (hm : m = Nat.min sLen dLen) (hn : vs.length = m * size) (hsrc : ∀ j v, vs[j]? = some v → w.cell? (ad.add j) = some v) (hfit : off + vs.length ≤ cs.size) (h1 : ∀ v ∈ vs, v.oneCell' = true)
    (h : ∀ W', Turned g w W' → Blk W' g t (spl cs off vs) → wpList P ops Q rest (a.put o.dst (.int .i64 (m : Int))) W') : wpList P ops Q (o :: rest) a w :=
  wpList_plain hgd fun _ hK => by
    unfold Oper.wp execOp
    simp only [ho, resolve, invoke, builtin, Sem.run_bind, Sem.run_pure, Result.andThen_ok, List.map_toArray, List.map_cons, List.map_nil, hd, hs, run_copy_rowS (P := P) w dT sT o.type elem g off dLen dCap size m ad sLen sCap cs t vs hu hsz hB hm hn hsrc hfit h1]
    exact hK _ _ (h _ (Turned.setRow w g _) (setRow_heap w g cs _ t _ hB))
theorem run_slice_fromS {t e : TypeId} {m : Nat} (ht : P.underlying t = some (.slice e)) (hs : (P.info? e).map (·.size) = some m) (A : Option Addr) (len cap l : Nat) (li : Int) (el : li = l) (hl : l ≤ len) (W : World) :
    (Instr.slice t (.slice A len cap) (some (.int .i64 li)) none none).run P W = .ok (.slice (if cap = l then A else A.map (·.add (l * m))) (len - l) (cap - l)) W := by
  subst el
  obtain ⟨i, hi, hsz⟩ : ∃ i, P.info? e = some i ∧ i.size = m := by
    cases hh : P.info? e with
    | none => rw [hh] at hs; cases hs
    | some i => rw [hh] at hs; exact ⟨i, rfl, by simpa using hs⟩
  have he : P.elem t = e := by simp [Program.elem, ht]
  rw [run_slice_l W t A len cap (by rw [he]; exact ht) .i64 (l : Int) (by omega) (by omega)]
  simp [he, sizeOf, typeInfo, hi, hsz, sliced]
theorem run_slice_toS {t e : TypeId} {m : Nat} (ht : P.underlying t = some (.slice e)) (hs : (P.info? e).map (·.size) = some m) (A : Addr) (len cap h : Nat) (hi : Int) (eh : hi = h) (h0 : 0 < cap) (hh : h ≤ cap) (W : World) :
    (Instr.slice t (.slice (some A) len cap) none (some (.int .i64 hi)) none).run P W = .ok (.slice (some (A.add 0)) h cap) W := by
  subst eh
  obtain ⟨i, hi, hsz⟩ : ∃ i, P.info? e = some i ∧ i.size = m := by
    cases hh : P.info? e with
    | none => rw [hh] at hs; cases hs
    | some i => rw [hh] at hs; exact ⟨i, rfl, by simpa using hs⟩
  have he : P.elem t = e := by simp [Program.elem, ht]
  rw [run_slice_h W t (some A) len cap (by rw [he]; exact ht) .i64 (h : Int) (by omega) (by omega)]
  simp [he, sizeOf, typeInfo, hi, hsz, sliced, show ¬ cap = 0 by omega]
end

set_option maxRecDepth 100000 in
theorem mul64_13 (w : World) : Calls Tryz.prog 196 #[.int .u64 1, .int .u64 13] w fun e w' => e = .returned (.tuple #[.int .u64 0, .int .u64 13]) ∧ w = w' := by
  go_enter Tryz.func196, Tryz.ntmps196
  go_wp2
  go_ret2
  exact ⟨rfl, rfl⟩
set_option maxRecDepth 100000 in
theorem mul64_6 (w : World) : Calls Tryz.prog 196 #[.int .u64 1, .int .u64 6] w fun e w' => e = .returned (.tuple #[.int .u64 0, .int .u64 6]) ∧ w = w' := by
  go_enter Tryz.func196, Tryz.ntmps196
  go_wp2
  go_ret2
  exact ⟨rfl, rfl⟩
set_option maxRecDepth 100000 in
theorem mul_any (n : Nat) (hn : n = 13 ∨ n = 6) (w : World) : Calls Tryz.prog 182 #[.int .u64 1, .int .u64 (n : Int)] w fun e w' => e = .returned (.tuple #[.int .u64 0, .int .u64 (n : Int)]) ∧ w = w' := by
  rcases hn with rfl | rfl
  · go_enter Tryz.func182, Tryz.ntmps182
    go_wp2_with fail
    refine (mul64_13 _).mono ?_
    rintro _ _ ⟨rfl, rfl⟩
    go_wp2_with fail
    go_ret2
    exact ⟨rfl, rfl⟩
  · go_enter Tryz.func182, Tryz.ntmps182
    go_wp2_with fail
    refine (mul64_6 _).mono ?_
    rintro _ _ ⟨rfl, rfl⟩
    go_wp2_with fail
    go_ret2
    exact ⟨rfl, rfl⟩

theorem digRow_rep (d : List UInt8) (a b : Nat) : digRow (List.replicate (a + b) d) = digRow (List.replicate a d) ++ digRow (List.replicate b d) := by rw [← digRow_app, List.replicate_append_replicate]
theorem rep_digs {d : List UInt8} (h : d.length = 32) (n : Nat) : Digs (List.replicate n d) := fun x hx => by obtain ⟨_, rfl⟩ := List.mem_replicate.1 hx; exact h
theorem rep_len {d : List UInt8} (h : d.length = 32) (n : Nat) : (digRow (List.replicate n d)).length = n * 32 := by rw [digRow_len (rep_digs h n), List.length_replicate]
theorem digRow_one (ds : List (List UInt8)) : ∀ v ∈ digRow ds, v.oneCell' = true := fun v hv => by
  obtain ⟨d, _, h⟩ := List.mem_flatMap.1 hv
  obtain ⟨b, _, rfl⟩ := List.mem_map.1 h
  rfl
/-- the first m are all alike -/
def RepAt (w : World) (g n m : Nat) (d : List UInt8) : Prop := ∃ cur : Array Value, Blk w g 63 cur ∧ cur.size = n * 32 ∧ cur.toList.take (m * 32) = digRow (List.replicate m d)
theorem rep_grow {cur : Array Value} {n m k : Nat} {d : List UInt8} (hd : d.length = 32) (hs : cur.size = n * 32) (hm : cur.toList.take (m * 32) = digRow (List.replicate m d)) (hk : m + k ≤ n) :
    (spl cur (m * 32) (digRow (List.replicate k d))).size = n * 32 ∧ (spl cur (m * 32) (digRow (List.replicate k d))).toList.take ((m + k) * 32) = digRow (List.replicate (m + k) d) := by
  have h1 : (m + k) * 32 ≤ n * 32 := Nat.mul_le_mul_right _ hk
  have hl := rep_len hd k
  have hl2 := rep_len hd m
  have hfit : m * 32 + (digRow (List.replicate k d)).length ≤ cur.size := by rw [hl, hs]; omega
  refine ⟨by rw [spl_size hfit, hs], ?_⟩
  unfold spl
  rw [hm, digRow_rep, show (m + k) * 32 = (digRow (List.replicate m d) ++ digRow (List.replicate k d)).length by rw [List.length_append, hl, hl2]; omega]
  simp only [List.append_assoc]
  rw [← List.append_assoc, List.take_left]

set_option maxRecDepth 100000 in
set_option maxHeartbeats 4000000 in
theorem repeat_any (g n : Nat) (d : List UInt8) (w : World) (hn : n = 13 ∨ n = 6) (hd : d.length = 32) (h : Blk w g 63 (bRow d)) :
    Calls Tryz.prog 152 #[.slice (some ⟨g, 0, none⟩) 1 1, .int .i64 (n : Int)] w fun e w' => ∃ g', e = .returned (.slice (some ⟨g', 0, none⟩) n n) ∧ DigAt w' g' n (List.replicate n d) ∧ w.heap.size ≤ g' ∧ Below w.heap.size w w' := by
  have HMUL := Lib.hid (fun W => mul_any n hn W)
  have hn2 : 6 ≤ n ∧ n ≤ 13 := by omega
  clear hn
  have hn0 : ¬ (n : Int) < 0 := by omega
  have H := Lib.hid h
  have hgl := h.lt
  have hwr : IntKind.u64.wrap (n : Int) = (n : Int) := by rw [IntKind.wrap_u64]; omega
  have hwr2 : IntKind.i64.wrap (n : Int) = (n : Int) := by rw [IntKind.wrap_i64]; omega
  have hnb : ¬ (9223372036854775807 : Int) < (n : Int) := by omega
  obtain ⟨i0, hi0, hz0, hz1, hz2⟩ := info_parts digs_info
  have HZS := Lib.hid (show inkZ.size = 32 by simp [inkZ, bRow])
  clear h
  go_enter Tryz.func152, Tryz.ntmps152
  go_wp2_with fail
  refine (HMUL.out _).mono ?_
  rintro _ _ ⟨rfl, rfl⟩
  have hmk : (Instr.makeSlice 220 (.int .i64 (n : Int)) (.int .i64 (n : Int))).run Tryz.prog w = .ok (.slice (some ⟨w.heap.size, 0, none⟩) n n) (w.alloc (.cells (madeCells inkZ (n * 32)) 63)) := by
    have h := run_make_rowN (P := Tryz.prog) 220 63 i0 _ Tryz.underlying220 hi0 hz0 .i64 .i64 n n (by omega) (by rw [hz2]; omega) (by omega) w
    rw [hz1] at h
    exact h
  have HMK := Lib.hid hmk
  have hms : (madeCells inkZ (n * 32)).size = n * 32 := size_madeCells _ _
  have hbn : Below w.heap.size w (w.alloc (.cells (madeCells inkZ (n * 32)) 63)) := below_lit _ _
  have hB0 : Blk (w.alloc (.cells (madeCells inkZ (n * 32)) 63)) w.heap.size 63 (madeCells inkZ (n * 32)) := Blk.newAt rfl
  have hr0 := reads_blk (H.out.below hbn hgl) (bRow_size32 hd)
  generalize madeCells inkZ (n * 32) = cz at HMK hms hbn hB0 hr0
  generalize hw1 : w.alloc (.cells cz 63) = w1 at HMK hbn hB0 hr0
  obtain ⟨gn, hgn⟩ : ∃ gn, gn = w.heap.size := ⟨_, rfl⟩
  rw [← hgn] at HMK hB0 hbn
  have HBN := Lib.hid hbn
  have HB0 := Lib.hid hB0
  have HMS := Lib.hid hms
  have HGN := Lib.hid hgn
  have hsr : ∀ (j : Nat) (v : Value), (digRow (List.replicate 1 d))[j]? = some v → w1.cell? ((⟨g, 0, none⟩ : Addr).add j) = some v := fun j v hv => by
    obtain ⟨ad, he, _, hc⟩ := hr0.2 (by omega)
    injection he with he
    subst he
    refine hc j v ?_
    rw [← hv]
    simp [digRow, bRow]
  have HSR := Lib.hid hsr
  clear hmk hms hbn hB0 hgn hw1 hsr hr0
  have hmk := HMK.out
  go_wp2_with (refine wpList_copy_partS (o := ⟨some 33, _, _, _, _, _⟩) rfl (.tmp 31) (.tmp 32) 220 220 63 rfl gn 0 n n 1 1 32 1 ⟨g, 0, none⟩ 63 cz (digRow (List.replicate 1 d)) rfl rfl Tryz.underlying220 dig_info HB0.out (show 1 = min 1 n by omega) (by rw [rep_len hd]) HSR.out (by rw [rep_len hd, HMS.out]; omega) (digRow_one _) ?_)
  intro w2 hT2 hB2
  have hrep : RepAt w2 gn n 1 d := by
    have := rep_grow (m := 0) (k := 1) hd HMS.out (by simp [digRow]) (by omega)
    exact ⟨_, by simpa using hB2, by simpa using this.1, by simpa using this.2⟩
  have HREP := Lib.hid hrep
  have HB2 := Lib.hid (hT2.below HBN.out (by omega))
  clear hT2 hB2 hrep
  go_wp2_with fail
  go_loopw [8] (fun mv wr => ∃ m : Nat, 1 ≤ m ∧ m ≤ n ∧ mv = .int .i64 (m : Int) ∧ RepAt wr gn n m d ∧ Below gn w wr) (fun mv _ => n - (intOf mv).toNat)
  case atStart => exact ⟨1, by omega, by omega, rfl, HREP.out, HB2.out⟩
  case round =>
    obtain ⟨m, hm1, hmn, rfl, hrep, hbel⟩ := hrel
    have HR := Lib.hid hrep
    have HB := Lib.hid hbel
    clear hrep hbel
    by_cases hlt : m < n
    · obtain ⟨cur, hbk, hcs, hct⟩ := HR.out
      have HBK := Lib.hid hbk
      have HCS := Lib.hid hcs
      have HCT := Lib.hid hct
      have hlti : (m : Int) < (n : Int) := by omega
      have hf := fun W => run_slice_fromS (P := Tryz.prog) (t := 220) Tryz.underlying220 dig_info (some ⟨gn, 0, none⟩) n n m (m : Int) rfl (by omega) W
      rw [if_neg (by omega)] at hf
      have ht := fun W => run_slice_toS (P := Tryz.prog) (t := 220) Tryz.underlying220 dig_info ⟨gn, 0, none⟩ n n m (m : Int) rfl (by omega) (by omega) W
      have HF := Lib.hid hf
      have HT := Lib.hid ht
      clear hbk hcs hct hf ht
      go_upto_region 9 with fail
      have hsr3 : ∀ (W : World), Blk W gn 63 cur → ∀ (j : Nat) (v : Value), (digRow (List.replicate (min m (n - m)) d))[j]? = some v → W.cell? ((⟨gn, 0, none⟩ : Addr).add j) = some v := fun W hbk3 j v hv => by
        have e := digRow_rep d (min m (n - m)) (m - min m (n - m))
        rw [show min m (n - m) + (m - min m (n - m)) = m by omega] at e
        have hj : j < (digRow (List.replicate (min m (n - m)) d)).length := (List.getElem?_eq_some_iff.1 hv).1
        have h1 : (digRow (List.replicate m d))[j]? = some v := by rw [e, List.getElem?_append_left hj]; exact hv
        rw [← HCT.out, List.getElem?_take] at h1
        split at h1
        · rw [add_off, Nat.zero_add, hbk3.cell, ← Array.getElem?_toList]; exact h1
        · cases h1
      have HSR3 := Lib.hid hsr3
      have hle : m + min m (n - m) ≤ n := by omega
      have hle32 : (m + min m (n - m)) * 32 ≤ n * 32 := Nat.mul_le_mul_right _ hle
      have hf := HF.out
      have ht := HT.out
      have hbw := HBK.out
      have hbd : Blk wr.drew gn 63 cur := HBK.out
      have hcp := run_copy_rowS (P := Tryz.prog) wr.drew 220 220 3 63 gn (m * 32) (n - m) (n - m) 32 (min m (n - m)) ⟨gn, 0, none⟩ m n cur 63 (digRow (List.replicate (min m (n - m)) d)) Tryz.underlying220 dig_info hbd rfl (by rw [rep_len hd]) (HSR3.out _ hbd) (by rw [rep_len hd, HCS.out]; omega) (digRow_one _)
      have hT4 : Turned gn wr.drew (wr.drew.setRow gn (spl cur (m * 32) (digRow (List.replicate (min m (n - m)) d)))) := Turned.setRow _ gn _
      have hB4 : Blk (wr.drew.setRow gn (spl cur (m * 32) (digRow (List.replicate (min m (n - m)) d)))) gn 63 (spl cur (m * 32) (digRow (List.replicate (min m (n - m)) d))) := setRow_heap _ gn cur _ 63 _ hbd
      generalize wr.drew.setRow gn (spl cur (m * 32) (digRow (List.replicate (min m (n - m)) d))) = w4 at hcp hT4 hB4
      have hg := rep_grow (k := min m (n - m)) hd HCS.out HCT.out hle
      have HREP4 := Lib.hid (show RepAt w4 gn n (m + min m (n - m)) d from ⟨_, hB4, hg.1, hg.2⟩)
      have HB4 := Lib.hid (hT4.below HB.out.drew (by have := HGN.out; omega))
      obtain ⟨q, hq⟩ : ∃ q, q = min m (n - m) := ⟨_, rfl⟩
      rw [← hq] at HREP4 hle hcp
      have hq1 : 1 ≤ q := by omega
      clear hT4 hB4 hg hq hle32 HSR3 hbd hbw
      go_region
      go_wp2_with fail
      go_roundw
      case rel => exact ⟨m + q, by omega, hle, by go_num, HREP4.out, HB4.out⟩
      case measure => simp [intOf]; omega
    · obtain rfl : m = n := by omega
      have hlti : ¬ (m : Int) < (m : Int) := by omega
      obtain ⟨cur, hbk, hcs, hct⟩ := HR.out
      have HBK := Lib.hid hbk
      have HCS := Lib.hid hcs
      have HCT := Lib.hid hct
      clear hbk hcs hct
      go_wp2_with fail
      go_ret
      refine ⟨gn, rfl, ⟨⟨cur, HBK.out, HCS.out, by rw [List.length_replicate]; exact HCT.out⟩, by rw [List.length_replicate]; unfold maxLen; omega⟩, by have := HGN.out; omega, by have h := HB.out; rw [HGN.out] at h; exact h⟩

end Go.Proofs.YtlaodmmjhjpfmaaGreat

/- A region that draws its order, with calls that turn what is there: these come one behind the other, whatever is drawn; all else is as in a region whose operations are related. -/
namespace Go.Proofs.YtlaodmmjhjpfmaaGreat
set_option linter.unusedVariables false
open Go.RowKit

/-- operation i waits for j, through others -/
def reachB (md : Region.Mode) (ops : Array Oper) : Nat → Nat → Nat → Bool
  | 0, _, _ => false
  | f + 1, i, j => match ops[i]? with
    | none => false
    | some o => o.after.any fun e => Region.binds md e && (e.on == j || reachB md ops f e.on j)
theorem reach_listed {md : Region.Mode} {ops : Array Oper} {n : Nat} {listed : Array Bool} (inv : HeadInv md ops n listed) (j : Nat) : ∀ (f i : Nat) (o : Oper), reachB md ops f i j = true → ops[i]? = some o → (∀ e ∈ o.after, Region.binds md e = true → listed.getD e.on false = true) → listed.getD j false = true
  | 0, _, _, h, _, _ => by cases h
  | f + 1, i, o, h, ho, hall => by
    unfold reachB at h
    rw [ho] at h
    obtain ⟨e, he, hb⟩ := Array.any_eq_true'.1 h
    simp only [Bool.and_eq_true, Bool.or_eq_true, beq_iff_eq] at hb
    have hl := hall e he hb.1
    rcases hb.2 with h1 | h1
    · rw [← h1]; exact hl
    · cases hq : ops[e.on]? with
      | none =>
        cases f with
        | zero => cases h1
        | succ f => unfold reachB at h1; rw [hq] at h1; cases h1
      | some o' => exact reach_listed inv j f e.on o' h1 hq (inv.closed e.on o' hq hl)
/-- the loud ones: rising, each waits for the one ahead of it -/
def loudB (md : Region.Mode) (ops : Array Oper) (n : Nat) : List Nat → Bool
  | [] => true
  | [x] => decide (x < n)
  | x :: y :: t => decide (x < n) && decide (x < y) && reachB md ops ops.size y x && loudB md ops n (y :: t)
theorem loudB_lt {md : Region.Mode} {ops : Array Oper} {n : Nat} : ∀ {l : List Nat}, loudB md ops n l = true → ∀ x, x ∈ l → x < n
  | [], _, x, hx => by cases hx
  | [y], h, x, hx => by rw [List.mem_singleton] at hx; subst hx; simpa [loudB] using h
  | y :: z :: t, h, x, hx => by
    simp only [loudB, Bool.and_eq_true, decide_eq_true_eq] at h
    rcases List.mem_cons.1 hx with rfl | hx
    · exact h.1.1.1
    · exact loudB_lt h.2 x hx
theorem loudB_next {md : Region.Mode} {ops : Array Oper} {n : Nat} : ∀ {l : List Nat}, loudB md ops n l = true → ∀ k x y, l[k]? = some x → l[k + 1]? = some y → x < y ∧ reachB md ops ops.size y x = true
  | [], _, k, x, y, hx, _ => by simp at hx
  | [z], _, k, x, y, _, hy => by simp at hy
  | z :: z' :: t, h, 0, x, y, hx, hy => by
    simp only [loudB, Bool.and_eq_true, decide_eq_true_eq] at h
    simp at hx hy
    subst hx hy
    exact ⟨h.1.1.2, h.1.2⟩
  | z :: z' :: t, h, k + 1, x, y, hx, hy => by
    simp only [loudB, Bool.and_eq_true, decide_eq_true_eq] at h
    exact loudB_next h.2 k x y (by simpa using hx) (by simpa using hy)
theorem loudB_rise {md : Region.Mode} {ops : Array Oper} {n : Nat} {l : List Nat} (h : loudB md ops n l = true) : ∀ (d k : Nat) (x y : Nat), l[k]? = some x → l[k + (d + 1)]? = some y → x < y
  | 0, k, x, y, hx, hy => (loudB_next h k x y hx hy).1
  | d + 1, k, x, y, hx, hy => by
    have hl : k + (d + 1) < l.length := by
      have := (List.getElem?_eq_some_iff.1 hy).1
      omega
    have h1 := loudB_rise h d k x _ hx (List.getElem?_eq_getElem hl)
    have h2 := loudB_next h (k + (d + 1)) _ y (List.getElem?_eq_getElem hl) hy
    omega
theorem loudB_inj {md : Region.Mode} {ops : Array Oper} {n : Nat} {l : List Nat} (h : loudB md ops n l = true) {i j x : Nat} (hi : l[i]? = some x) (hj : l[j]? = some x) : i = j := by
  rcases Nat.lt_trichotomy i j with h1 | h1 | h1
  · have := loudB_rise h (j - i - 1) i x x hi (by rw [show i + (j - i - 1 + 1) = j by omega]; exact hj)
    omega
  · exact h1
  · have := loudB_rise h (i - j - 1) j x x hj (by rw [show j + (i - j - 1 + 1) = i by omega]; exact hi)
    omega

def LoudOp (P : Program) (ops : Array Oper) (o : Oper) (a : Act) (w : World) (R : World → World → Prop) (J : World → Prop) (p : World → Value → Prop) : Prop :=
  ∀ (K : Act → World → Prop) (Q' : Exit → Act → World → Prop), (∀ v w', R w w' → J w' → p w' v → K (a.put o.dst v) w') → if Region.wanted o (yielded ops a.tmps) = true then o.wp P a w K Q' else K (a.put o.dst undef) w
theorem loud_call {P : Program} {ops : Array Oper} {o : Oper} {a : Act} {w : World} {R : World → World → Prop} {J : World → Prop} {p : World → Value → Prop} (hw : Region.wanted o (yielded ops a.tmps) = true) (f : FuncId) (args : Array Value) (he : (execOp a.eval o).run P w = .ok (.enter f args) w)
    (hc : Calls P f args w fun e w' => ∃ v, e = .returned v ∧ R w w' ∧ J w' ∧ p w' v) : LoudOp P ops o a w R J p := fun K Q' hK => by
  rw [if_pos hw]
  unfold Oper.wp
  rw [he]
  refine hc.mono ?_
  rintro e w' ⟨v, rfl, hb, hj, hp⟩
  exact hK v w' hb hj hp

theorem loud_store {P : Program} {ops : Array Oper} {o : Oper} {a : Act} {w : World} {R : World → World → Prop} {J : World → Prop} {p : World → Value → Prop} (hgd : o.guard = none) (ty : TypeId) (x y : Operand) (ho : o.op = .store ty x y)
    (g off : Nat) (vs : Array Value) (hx : a.eval x = .pointer (some ⟨g, off, none⟩)) (hy : a.eval y = .agg vs)
    (t : TypeId) (cs : Array Value) (hB : Blk w g t cs) (hi : (P.info? ty).map (·.size) = some vs.size)
    (hold : off + vs.size ≤ cs.size) (h1 : vs.all (·.oneCell') = true)
    (h : ∀ W', Turned g w W' → Blk W' g t (spl cs off vs.toList) → R w W' ∧ J W' ∧ p W' undef) : LoudOp P ops o a w R J p := fun K Q' hK => by
  have hw : Region.wanted o (yielded ops a.tmps) = true := by simp [Region.wanted, hgd]
  rw [if_pos hw]
  exact wp_store_part ty x y ho g off vs hx hy t cs hB hi hold h1 fun W' h2 h3 => by
    obtain ⟨q1, q2, q3⟩ := h W' h2 h3
    exact hK undef W' q1 q2 q3
/-- as relB; the head may be all -/
def relLB (md : Region.Mode) (ops : Array Oper) (n : Nat) : Bool :=
  decide (n ≤ ops.size) && (decide (n = ops.size) || Region.sinkB md ops n && Region.chainB md ops n) && dstsB ops n && backB md ops n && Region.seqB md ops (ops.size - n) n (headArr ops.size n)

section
variable {P : Program} {md : Region.Mode} {ops : Array Oper}

theorem wpAny_loud {n : Nat} {ps : Nat → World → Value → Prop} {J : Nat → World → Prop} {R : World → World → Prop} {lo : List Nat} {a0 : Act} {Q' : Exit → Act → World → Prop} (hn : n ≤ ops.size) (hsc : n = ops.size ∨ (Region.sinkB md ops n = true ∧ Region.chainB md ops n = true)) (hd : dstsB ops n = true) (hbk : backB md ops n = true)
    (hlo : loudB md ops n lo = true)
    (hl : ∀ j, Lasts (ps j)) (hR : ∀ s j w w' v, s < lo.length → (∀ s', s ≤ s' → lo[s']? ≠ some j) → J s w → ps j w v → R w w' → ps j w' v) (hJ : ∀ s w w', J s w → Below w.heap.size w w' → J s w')
    (hop : ∀ i o, i < n → ops[i]? = some o → i ∉ lo → ∀ s a w, J s w → Kept ops n a0 a → (∀ j, Region.waitsFor md ops i j = true → slotP ops ps j w a) → RelOp P ops o a w (ps i))
    (hop2 : ∀ i o, i < n → ops[i]? = some o → ∀ s a w, lo[s]? = some i → J s w → Kept ops n a0 a → (∀ j, Region.waitsFor md ops i j = true → slotP ops ps j w a) → LoudOp P ops o a w R (J (s + 1)) (ps i))
    (hL : ∀ a w, J lo.length w → Kept ops n a0 a → (∀ j, j < n → slotP ops ps j w a) → wpAny P md ops Q' (ops.size - n) (headArr ops.size n) a w)
    (hsz : ∀ (i : Nat) (o : Oper) (d : Tmp), i < n → ops[i]? = some o → o.dst = some d → d < a0.tmps.size) :
    ∀ (f : Nat) (listed : Array Bool) (s : Nat) (a : Act) (w : World), ((List.range n).filter fun i => !listed.getD i false).length = f → HeadInv md ops n listed → s ≤ lo.length → (∀ k x, lo[k]? = some x → (listed.getD x false = true ↔ k < s)) → J s w → Kept ops n a0 a → (∀ j, j < n → listed.getD j false = true → slotP ops ps j w a) → wpAny P md ops Q' (f + (ops.size - n)) listed a w
  | 0, listed, s, a, w, hf, inv, hsl, hph, hb, hk, hp => by
    have hall : ∀ j, j < n → listed.getD j false = true := fun j hj => by
      cases hx : listed.getD j false with
      | true => rfl
      | false =>
        have : j ∈ (List.range n).filter fun i => !listed.getD i false := List.mem_filter.2 ⟨List.mem_range.2 hj, by rw [hx]; rfl⟩
        rw [List.eq_nil_of_length_eq_zero hf] at this
        cases this
    have hls : listed = headArr ops.size n := by
      apply Array.ext
      · rw [inv.size]; simp [headArr]
      · intro i h1 h2
        have hi : i < ops.size := by rw [← inv.size]; exact h1
        have e1 : listed[i] = listed.getD i false := by simp [h1]
        have e2 : (headArr ops.size n)[i] = (headArr ops.size n).getD i false := by simp [h2]
        rw [e1, e2, headArr_get _ _ _ _ hi]
        by_cases hin : i < n
        · rw [hall i hin, decide_eq_true hin]
        · rw [decide_eq_false hin]
          exact getD_both (inv.tail i (by omega) hi)
    have hsE : s = lo.length := by
      rcases Nat.lt_or_ge s lo.length with h1 | h1
      · have h2 := hph s lo[s] (List.getElem?_eq_getElem h1)
        have h3 := h2.1 (hall _ (loudB_lt hlo _ (List.getElem_mem h1)))
        omega
      · omega
    subst hsE
    rw [Nat.zero_add, hls]
    exact hL a w hb hk fun j hj => hp j hj (hall j hj)
  | f + 1, listed, s, a, w, hf, inv, hsl, hph, hb, hk, hp => by
    have hex : ∃ i, i < n ∧ listed.getD i false = false := by
      cases hx : (List.range n).filter fun i => !listed.getD i false with
      | nil => rw [hx] at hf; cases hf
      | cons i t =>
        have : i ∈ (List.range n).filter fun i => !listed.getD i false := by rw [hx]; exact List.mem_cons_self
        obtain ⟨h1, h2⟩ := List.mem_filter.1 this
        exact ⟨i, List.mem_range.1 h1, by simpa using h2⟩
    obtain ⟨m, hm, hmf, hmb⟩ := least_false (fun i => listed.getD i false) n hex
    have hin : ∀ k, k < n → listed.getD k false = false → listed.getD k true = false := fun k hk h => getD_in (by rw [inv.size]; omega) h
    rw [show f + 1 + (ops.size - n) = (f + (ops.size - n)) + 1 by omega]
    refine ⟨fun h0 => ?_, fun i hi => ?_⟩
    · exfalso
      have : m ∈ Region.ready md ops listed := by
        refine mem_ready.2 ⟨hin m hm hmf, ops[m], Array.getElem?_eq_getElem (by omega), fun e he hbd => ?_⟩
        have h1 := List.all_eq_true.1 hbk m (List.mem_range.2 hm)
        rw [Array.getElem?_eq_getElem (show m < ops.size by omega)] at h1
        have h2 := Array.all_eq_true_iff_forall_mem.1 h1 e he
        rw [hbd] at h2
        simp at h2
        exact hmb e.on h2
      rw [h0] at this
      cases this
    · have hin' : i < n := by
        rcases Nat.lt_or_ge i n with h | h
        · exact h
        · rcases Nat.lt_or_ge n ops.size with hn' | hn'
          · have hsc' := hsc.resolve_left (by omega)
            exact absurd hi (tail_waits hsc'.1 hsc'.2 hn' inv _ m rfl hm (hin m hm hmf) i h)
          · obtain ⟨_, o, ho, _⟩ := mem_ready.1 hi
            have := (Array.getElem?_eq_some_iff.1 ho).1
            omega
      obtain ⟨hun, o, ho, hall⟩ := mem_ready.1 hi
      have hdep : ∀ j, Region.waitsFor md ops i j = true → slotP ops ps j w a := fun j hj => by
        obtain ⟨oj, hoj, e, he, hbd, hon⟩ := Region.waitsFor_spec hj
        have : oj = o := Option.some.inj (hoj.symm.trans ho)
        subst this
        have h1 := hall e he hbd
        rw [hon] at h1
        have h2 := List.all_eq_true.1 hbk i (List.mem_range.2 hin')
        rw [ho] at h2
        have h3 := Array.all_eq_true_iff_forall_mem.1 h2 e he
        rw [hbd] at h3
        simp at h3
        exact hp j (by omega) h1
      have hcnt : ((List.range n).filter fun k => !(listed.setIfInBounds i true).getD k false).length = f := by
        have hmem : i ∈ (List.range n).filter fun i => !listed.getD i false := List.mem_filter.2 ⟨List.mem_range.2 hin', by rw [getD_both hun]; rfl⟩
        have hnd : ((List.range n).filter fun i => !listed.getD i false).Nodup := List.Pairwise.filter _ List.nodup_range
        have he : ((List.range n).filter fun k => !(listed.setIfInBounds i true).getD k false) = ((List.range n).filter fun i => !listed.getD i false).erase i := by
          rw [hnd.erase_eq_filter, List.filter_filter]
          apply List.filter_congr
          intro k hk
          by_cases hki : i = k
          · subst hki
            have hlt : i < listed.size := by rw [inv.size]; omega
            simp [hlt]
          · rw [getD_set_ne false hki]
            simp [Ne.symm hki]
        rw [he, List.length_erase_of_mem hmem, hf]
        rfl
      have hon : (listed.setIfInBounds i true).getD i false = true := by
        have hlt : i < listed.size := by rw [inv.size]; omega
        simp [hlt]
      have hfin : ∀ s' v w', s' ≤ lo.length → (∀ k x, lo[k]? = some x → ((listed.setIfInBounds i true).getD x false = true ↔ k < s')) → J s' w' → (∀ j, listed.getD j false = true → ∀ u, ps j w u → ps j w' u) → ps i w' v → wpAny P md ops Q' (f + (ops.size - n)) (listed.setIfInBounds i true) (a.put o.dst v) w' := fun s' v w' hs' hph' hj' hlast hpv => by
        refine wpAny_loud hn hsc hd hbk hlo hl hR hJ hop hop2 hL hsz f _ s' _ w' hcnt (inv.set hi hin') hs' hph' hj' ⟨?_, by rw [put_size]; exact hk.size, fun d hfree => ?_⟩ fun j hj hlj oj d hoj hdj => ?_
        · rw [← hk.defers]; unfold Act.put; split <;> rfl
        · rw [put_at_ne (hfree i o hin' ho)]; exact hk.tmps d hfree
        · by_cases hji : j = i
          · subst hji
            have : oj = o := Option.some.inj (hoj.symm.trans ho)
            subst this
            have hds : d < a.tmps.size := by rw [hk.size]; exact hsz j oj d hin' hoj hdj
            have he : (a.put oj.dst v).eval (.tmp d) = v := by
              rw [hdj]
              simp [Act.put, Act.eval, hds]
            rw [he]
            exact hpv
          · have hl2 : listed.getD j false = true := by rw [getD_set_ne false (Ne.symm hji)] at hlj; exact hlj
            have he : (a.put o.dst v).eval (.tmp d) = a.eval (.tmp d) := by
              have := put_at_ne (a := a) (v := v) (dstsB_spec hd hj hin' hji hoj ho hdj)
              simp [Act.eval, this]
            rw [he]
            exact hlast j hl2 _ (hp j hj hl2 oj d hoj hdj)
      unfold wpOp
      simp only [ho]
      by_cases hil : i ∈ lo
      · obtain ⟨k, hki⟩ := List.mem_iff_getElem?.1 hil
        have hnl : listed.getD i false = false := getD_both hun
        have h1 := hph k i hki
        have hks : ¬ k < s := fun h2 => by rw [h1.2 h2] at hnl; cases hnl
        have hsk : s = k := by
          rcases Nat.eq_zero_or_pos k with e | e
          · omega
          · have hpl : k - 1 < lo.length := by have := (List.getElem?_eq_some_iff.1 hki).1; omega
            have h2 := loudB_next hlo (k - 1) lo[k - 1] i (List.getElem?_eq_getElem hpl) (by rw [show k - 1 + 1 = k by omega]; exact hki)
            have h3 := reach_listed inv _ _ i o h2.2 ho hall
            have h4 := (hph (k - 1) _ (List.getElem?_eq_getElem hpl)).1 h3
            omega
        subst hsk
        have hrel := hop2 i o hin' ho s a w hki hb hk hdep (wpAny P md ops Q' (f + (ops.size - n)) (listed.setIfInBounds i true)) Q' (fun v w' hr hj hpv => hfin (s + 1) v w' (by have := (List.getElem?_eq_some_iff.1 hki).1; omega) (fun k' x hx => by
          by_cases hxi : x = i
          · subst hxi
            have := loudB_inj hlo hx hki
            rw [hon]
            simp; omega
          · rw [getD_set_ne false (Ne.symm hxi), hph k' x hx]
            have : k' ≠ s := fun e => hxi (by subst e; rw [hx] at hki; exact Option.some.inj hki)
            omega) hj (fun j hlj u hu => hR s j _ _ _ (by have := (List.getElem?_eq_some_iff.1 hki).1; omega) (fun s' hs' e => by have := (hph s' j e).1 hlj; omega) hb hu hr) hpv)
        split
        · rename_i hwt
          rw [if_pos hwt] at hrel
          exact .inl hrel
        · rename_i hwt
          rw [if_neg hwt] at hrel
          exact hrel
      · have hrel := hop i o hin' ho hil s a w hb hk hdep (wpAny P md ops Q' (f + (ops.size - n)) (listed.setIfInBounds i true)) Q' (fun v w' hbw hpv => hfin s v w' hsl (fun k' x hx => by
          have hxi : x ≠ i := fun e => hil (e ▸ List.mem_of_getElem? hx)
          rw [getD_set_ne false (Ne.symm hxi)]
          exact hph k' x hx) (hJ s w w' hb hbw) (fun j _ u hu => hl j _ _ _ hu hbw) hpv)
        split
        · rename_i hwt
          rw [if_pos hwt] at hrel
          exact .inl hrel
        · rename_i hwt
          rw [if_neg hwt] at hrel
          exact hrel
end

def AllLoud (P : Program) (ops : Array Oper) (n : Nat) (ps : Nat → World → Value → Prop) (J : Nat → World → Prop) (R : World → World → Prop) (lo : List Nat) (a0 : Act) : Nat → List Oper → Prop
  | _, [] => True
  | k, o :: l => (if k ∈ lo then ∀ s a w, lo[s]? = some k → J s w → Kept ops n a0 a → (∀ j, Region.waitsFor .any ops k j = true → slotP ops ps j w a) → LoudOp P ops o a w R (J (s + 1)) (ps k)
      else ∀ s a w, J s w → Kept ops n a0 a → (∀ j, Region.waitsFor .any ops k j = true → slotP ops ps j w a) → RelOp P ops o a w (ps k)) ∧ AllLoud P ops n ps J R lo a0 (k + 1) l
theorem AllLoud.spec {P : Program} {ops : Array Oper} {n : Nat} {ps : Nat → World → Value → Prop} {J : Nat → World → Prop} {R : World → World → Prop} {lo : List Nat} {a0 : Act} : ∀ (l : List Oper) (k : Nat), AllLoud P ops n ps J R lo a0 k l → ∀ i o, l[i]? = some o →
    (if k + i ∈ lo then ∀ s a w, lo[s]? = some (k + i) → J s w → Kept ops n a0 a → (∀ j, Region.waitsFor .any ops (k + i) j = true → slotP ops ps j w a) → LoudOp P ops o a w R (J (s + 1)) (ps (k + i))
      else ∀ s a w, J s w → Kept ops n a0 a → (∀ j, Region.waitsFor .any ops (k + i) j = true → slotP ops ps j w a) → RelOp P ops o a w (ps (k + i)))
  | [], k, _, i, o, ho => by simp at ho
  | o' :: l, k, h, 0, o, ho => by simp at ho; subst ho; exact h.1
  | o' :: l, k, h, i + 1, o, ho => by
    have := AllLoud.spec l (k + 1) h.2 i o (by simpa using ho)
    rw [show k + 1 + i = k + (i + 1) by omega] at this
    exact this

theorem wp_region_loud {P : Program} {id : Nat} {Q : Exit → Act → World → Prop} {a : Act} {w : World} {l : List Oper} (n m : Nat) (ps : Nat → World → Value → Prop) (J : Nat → World → Prop) (R : World → World → Prop) (lo : List Nat) (ds : List Nat) (hm : P.follows .mixedOrders = true) (hB : relLB .any l.toArray n = true) (hlo : loudB .any l.toArray n lo = true) (hsz : sizeB l.toArray n m = true) (ha : a.tmps.size = m) (hds : dstsOf l.toArray n = ds)
    (hl : ∀ j, Lasts (ps j)) (hR : ∀ s j w w' v, s < lo.length → (∀ s', s ≤ s' → lo[s']? ≠ some j) → J s w → ps j w v → R w w' → ps j w' v) (hJ : ∀ s w w', J s w → Below w.heap.size w w' → J s w') (hJ0 : J 0 w) (hop : AllLoud P l.toArray n ps J R lo a 0 (l.take n))
    (h : ∀ (f : Nat → Value) w', J lo.length w' → (∀ j, j < n → ∀ o d, l.toArray[j]? = some o → o.dst = some d → ps j w' (f d)) → wpList P l.toArray Q (l.drop n) (putAll a ds f) w') : (Code.region id l.toArray true).wp P Q a w := by
  simp only [relLB, Bool.and_eq_true, Bool.or_eq_true, decide_eq_true_eq] at hB
  obtain ⟨⟨⟨⟨hn, hsc⟩, hd⟩, hbk⟩, hsq⟩ := hB
  have inv0 : HeadInv .any l.toArray n (Array.replicate l.toArray.size false) :=
    ⟨by simp, fun j oj _ hl => (by rw [getD_replicate_false] at hl; cases hl), fun t _ ht => getD_in (by simpa using ht) (getD_replicate_false _ _)⟩
  have hdl : (l.drop n).length = l.toArray.size - n := by simp
  refine wp_region_any hm ?_
  have := wpAny_loud (Q' := Q) (md := .any) (P := P) (ops := l.toArray) (n := n) (ps := ps) (J := J) (R := R) (lo := lo) (a0 := a) hn hsc hd hbk hlo hl hR hJ (fun i o hi ho hni s a' w' h1 h2 h3 => by
      have := AllLoud.spec (l.take n) 0 hop i o (by rw [List.getElem?_take, if_pos hi]; simpa using ho)
      simp only [Nat.zero_add] at this
      rw [if_neg hni] at this
      exact this s a' w' h1 h2 h3)
    (fun i o hi ho s a' w' hlos h1 h2 h3 => by
      have := AllLoud.spec (l.take n) 0 hop i o (by rw [List.getElem?_take, if_pos hi]; simpa using ho)
      simp only [Nat.zero_add] at this
      rw [if_pos (List.mem_of_getElem? hlos)] at this
      exact this s a' w' hlos h1 h2 h3)
    (fun a' w' h1 h2 h3 => by
      have := wpAny_of_seq (md := .any) (ops := l.toArray) (Q' := Q) (l.drop n) n (headArr l.toArray.size n) a' w' (fun j => by simp [List.getElem?_drop]) (by rw [hdl]; exact hsq) (by
        rw [h2.puts (by rw [ha]; exact hsz), hds]
        exact h _ w' h1 fun j hj o d ho hd => (h3 j hj).get d ho hd)
      rw [hdl] at this
      exact this)
    (fun i o d hi ho hdst => by
      have := List.all_eq_true.1 hsz i (List.mem_range.2 hi)
      simp only [ho, hdst, decide_eq_true_eq] at this
      rw [ha]; exact this)
    n (Array.replicate l.toArray.size false) 0 a w.drew (by
      rw [List.filter_eq_self.2 (fun i _ => by rw [getD_replicate_false]; rfl)]
      simp) inv0 (Nat.zero_le _) (fun k x _ => by rw [getD_replicate_false]; simp) (hJ 0 _ _ hJ0 (Below.refl _ w).drew) ⟨rfl, rfl, fun _ _ => rfl⟩ (fun j _ hj => by rw [getD_replicate_false] at hj; cases hj)
  rw [show n + (l.toArray.size - n) = l.toArray.size by omega] at this
  exact this

end Go.Proofs.YtlaodmmjhjpfmaaGreat
