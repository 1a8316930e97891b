/- Parts of the proof, in one text: TreeC, TreeD, TreeE. -/
import Derived.Test.YtcpngeiahgoacaaGreatZ8
import Derived.BigRegion

/- Contract of tree.above: the level above one. -/
namespace Go.Proofs.YtcpngeiahgoacaaGreat
set_option linter.unusedVariables false
open Go.RowKit Go.Maps

theorem grps_iff {j n : Nat} : j < grps n ↔ 4 * j < n := by unfold grps; omega
theorem grp_cells {ds : List (List UInt8)} (hd : Digs ds) (p : Nat) (hp : 4 * p ≤ ds.length) : ((digRow ds).drop (4 * p * 32)).take ((min (4 * p + 4) ds.length - 4 * p) * 32) = digRow (grp ds p) := by
  rw [digRow_drop hd, digRow_take (fun d h => hd d (List.mem_of_mem_drop h))]
  unfold grp
  congr 1
  rcases Nat.lt_or_ge (ds.length - 4 * p) 4 with h | h
  · rw [List.take_of_length_le (by rw [List.length_drop]; omega), List.take_of_length_le (by rw [List.length_drop]; omega)]
  · rw [show min (4 * p + 4) ds.length - 4 * p = 4 by omega]
def abovePre (ds : List (List UInt8)) (j : Nat) : List (List UInt8) := (List.range j).map fun p => upD (grp ds p)
theorem abovePre_next (ds : List (List UInt8)) (j : Nat) : abovePre ds (j + 1) = abovePre ds j ++ [upD (grp ds j)] := by simp [abovePre, List.range_succ]
theorem digs_info : (Tryz.prog.info? 60).map (fun i => (i.zero, i.size, i.bytes)) = some (some (.agg inkZ), 32, 32) := by kernel_rfl
theorem tdiv4 (j : Nat) : (4 * (j : Int)).tdiv 4 = (j : Int) := Int.mul_tdiv_cancel_left _ (by decide)
theorem reads_agg (w : World) (cs : Array Value) (t : TypeId) (m : Nat) (h : cs.size = m) : Reads (w.alloc (.cells cs t)) (w.heap.size + 1) m (some ⟨w.heap.size, 0, none⟩) 1 cs.toList := by
  obtain ⟨_, h2⟩ := reads_cells w cs t
  refine ⟨by simp [h], fun _ => ?_⟩
  rcases Nat.eq_zero_or_pos cs.size with h0 | h0
  · exact ⟨_, rfl, by simp, fun j u hu => by
      have : cs.toList.length = 0 := by simpa using h0
      rw [List.getElem?_eq_none (by omega)] at hu; cases hu⟩
  · obtain ⟨ad, h3, h4, h5⟩ := h2 h0
    exact ⟨ad, h3, h4, h5⟩
theorem rowD_keep {w w' : World} {B n s : Nat} {e : TypeId} {v : Value} {vs : List Value} (h : w.ownsRow B e s v n vs) (hk : ∀ b, v.ownBlock = some b → w'.heap[b]? = w.heap[b]?) : w'.ownsRow B e s v n vs := by
  rcases h.2 with hv | ⟨g, cap, cur, hv, h2, h3, h4⟩
  · exact ⟨h.1, .inl hv⟩
  · exact ⟨h.1, .inr ⟨g, cap, cur, hv, h2, (hk g (by rw [hv]; rfl)).trans h3, h4⟩⟩
theorem rowD_lt {w : World} {B b n s : Nat} {e : TypeId} {v : Value} {vs : List Value} (h : w.ownsRow B e s v n vs) (hb : v.ownBlock = some b) : B ≤ b ∧ b < w.heap.size := h.lt b hb

theorem addInk_old {l : List (List UInt8)} {x y : List UInt8} (h : y ∈ l) : y ∈ addInk l x := by
  unfold addInk
  split
  · exact h
  · exact List.mem_append_left _ h
theorem addInk_new (l : List (List UInt8)) (x : List UInt8) : x ∈ addInk l x := by
  unfold addInk
  split
  · rename_i h; simpa using h
  · exact List.mem_append_right _ (List.mem_singleton.2 rfl)

set_option maxRecDepth 100000 in
set_option maxHeartbeats 4000000 in
theorem above_any (k : Book) (L : List (List UInt8)) (asked : Nat) (A : Option Addr) (n c : Nat) (ds : List (List UInt8)) (w : World) (hbk : BookAt w k L asked) (h : Reads w w.heap.size 32 A n (digRow ds)) (hap : ∀ a, 0 < n → A = some a → ¬ k.has a.block) (hd : Digs ds) (hn : n ≤ 1000) (hc : n ≤ c) (has : asked ≤ 900000) :
    Calls Tryz.prog 171 #[.pointer (some ⟨k.g, 0, none⟩), .slice A n c] w fun e w' => ∃ v L', e = .returned v ∧ w'.ownsRow w.heap.size 60 32 v (grps n) (digRow (aboveL ds)) ∧ BookAt w' k L' (asked + grps n) ∧ (∀ x, x ∈ L → x ∈ L') ∧ (∀ p, p < grps n → upIn (grp ds p) ∈ L') ∧ OnlyBook k w w' := by
  have hxn : ds.length = n := by have h2 := h.1; rw [digRow_len hd] at h2; omega
  have HXN := Lib.hid hxn
  have HD := Lib.hid hd
  have HR := Lib.hid h
  have HAP := Lib.hid hap
  have hlt := hbk.lt
  have HLT := Lib.hid hlt
  have HBK := Lib.hid hbk
  have HZS := Lib.hid (show inkZ.size = 32 by simp [inkZ, bRow])
  have HZ := Lib.hid treeZ_eq
  obtain ⟨i0, hi0, hz0, hz1, hz2⟩ := info_parts digs_info
  clear h hlt hbk hxn hd hap
  have hgn : grps n ≤ 251 := by unfold grps; omega
  go_enter Tryz.func171, Tryz.ntmps171
  go_wp2_with fail
  go_loopw [5, 6] (fun ov iv wr => ∃ j : Nat, j ≤ grps n ∧ iv = .int .i64 (4 * (j : Int)) ∧ wr.ownsRow w.heap.size 60 32 ov j (digRow (abovePre ds j)) ∧ (∃ Lr, BookAt wr k Lr (asked + j) ∧ (∀ x, x ∈ L → x ∈ Lr) ∧ (∀ p, p < j → upIn (grp ds p) ∈ Lr)) ∧ OnlyBook k w wr) (fun _ iv _ => n + 8 - (intOf iv).toNat)
  case atStart => exact ⟨0, by omega, by simp, World.ownsRow_nil _ _ _ _, ⟨L, HBK.out, fun _ h => h, fun p hp => by omega⟩, OnlyBook.refl _ _⟩
  case round =>
    obtain ⟨j, hj, rfl, hov, ⟨Lr, hbr, hLr, hLp⟩, hob⟩ := hrel
    have HOV := Lib.hid hov
    have HB := Lib.hid hbr
    have HOB := Lib.hid hob
    have HLR := Lib.hid hLr
    have HLP := Lib.hid hLp
    have hsz := hob.size
    clear hov hbr hob hLr hLp
    by_cases hjn : j < grps n
    · have h4n : 4 * j < n := grps_iff.1 hjn
      have h4i : 4 * (j : Int) < (n : Int) := by omega
      have HQ := Lib.hid (tdiv4 j)
      have hdv := tdiv4 j
      have hgr := fun W => group_any A n c j W (by omega) (by omega) hc
      have hrs : Reads wr wr.heap.size 32 (if c = 4 * j then A else A.map (·.add (4 * j * 32))) (min (4 * j + 4) n - 4 * j) (digRow (grp ds j)) := by
        have h1 := (Only.of_book HOB.out).reads HR.out HAP.out
        have h2 := h1.sub (l := 4 * j) (k := min (4 * j + 4) n) (cap := c) (by omega) (by omega) hc
        rw [← HXN.out, grp_cells HD.out j (by have := HXN.out; omega), HXN.out] at h2
        exact h2
      have hup := up_any k Lr (asked + j) _ _ (c - 4 * j) (grp ds j) wr _ HB.out hrs (Nat.le_refl _) (grp_digs HD.out j) (by omega) (by omega) (by omega)
      generalize (if c = 4 * j then A else A.map (·.add (4 * j * 32))) = A2 at hgr hup
      have HG := Lib.hid hgr
      have HU := Lib.hid hup
      have hsz5 : (bRow (upD (grp ds j))).size = 32 := bRow_size32 (upD_len _)
      have hon := bRow_one (upD (grp ds j))
      have hdv2 : (bRow (upD (grp ds j))).toList = (upD (grp ds j)).map vb := by simp [bRow]
      obtain ⟨D, hD⟩ : ∃ D, D = bRow (upD (grp ds j)) := ⟨_, rfl⟩
      rw [← hD] at HU hsz5 hon hdv2
      have HSZ := Lib.hid hsz5
      have HON := Lib.hid hon
      have HDV := Lib.hid hdv2
      clear hgr hrs hup hsz5 hon hD hdv2
      go_wp2_with fail
      refine (HG.out wr).mono ?_
      rintro _ _ ⟨rfl, rfl⟩
      go_wp2_with fail
      refine HU.out.mono ?_
      rintro _ w3 ⟨rfl, hbk3, ho3⟩
      have HB3 := Lib.hid hbk3
      have HO3 := Lib.hid (HOB.out.trans ho3)
      have hrow3 := rowD_keep HOV.out (w' := w3) (fun b hb => by
        have := rowD_lt HOV.out hb
        have hl := HLT.out
        exact ho3.block b this.2 (by rintro (e | e | e) <;> omega))
      have HW3 := Lib.hid hrow3
      have hs3 := ho3.size
      clear hbk3 ho3 hrow3 HG HU HB HOV HOB
      go_upto_region 6 with (refine wpList_store_part (o := ⟨none, _, _, _, _, _⟩) rfl 60 (.tmp 7) (.tmp 22) rfl w3.heap.size 0 D rfl rfl 60 inkZ (by rw [HZ.out]; exact Blk.newAt rfl) (by rw [HSZ.out]; rfl) (by rw [HSZ.out, HZS.out]; omega) HON.out ?_; intro w4 hT4 hD4; rw [spl_self _ _ (by rw [HSZ.out, HZS.out])] at hD4)
      have hb4 : Below w3.heap.size w3 w4 := hT4.below ((Below.refl _ _).alloc (Nat.le_refl _) _) (Nat.le_refl _)
      have HB4 := Lib.hid (HB3.out.below hb4)
      have HO4 := Lib.hid (HO3.out.trans (OnlyBook.of_below hb4))
      have HW4 := Lib.hid (rowD_keep HW3.out (fun b hb => hb4.block b (rowD_lt HW3.out hb).2))
      have hs4 := hb4.size
      have HD4 := Lib.hid hD4
      obtain ⟨g4, hg4⟩ : ∃ g, g = w3.heap.size := ⟨_, rfl⟩
      rw [← hg4] at HD4 ⊢
      have hSZ := HSZ.out
      clear hT4 hD4 hb4 HW3 hg4 HB3 HO3
      go_wp2_with (first
        | (refine wpList_load_part (o := ⟨some 25, _, _, _, _, _⟩) rfl 60 (.tmp 7) rfl g4 0 32 rfl 60 _ D _ HD4.out Tryz.underlying60 rfl rfl HSZ.out (fun _ _ => by rw [Nat.zero_add]) ?_)
        | (at_builtin; (rw [fill_all _ D 32 rfl HSZ.out]; refine wpList_append_any _ rfl (.tmp 24) (.tmp 26) 189 rfl w.heap.size 60 i0 _ 32 32 Tryz.underlying189 hi0 hz0 hz1 hz2 HZS.out (by omega) _ j (digRow (abovePre ds j)) rfl ?row (w4.heap.size + 1) (some ⟨w4.heap.size, 0, none⟩) 1 1 D.toList rfl ?rd ?c1 ?c2 ?c3 ?c4 ?_)))
      case row => exact rowD_keep HW4.out (fun b hb => Below.heap_alloc _ _ b (rowD_lt HW4.out hb).2)
      case rd => exact reads_agg _ _ _ _ HSZ.out
      case c1 => exact fun u hu => List.all_eq_true.1 (by have := HON.out; rw [← Array.all_toList] at this; exact this) u hu
      case c2 => unfold maxLen; omega
      case c3 => omega
      case c4 => have := HO4.out.size; simp; omega
      intro v6 w6 hown6 hg6 hor6
      have hal : Below w4.heap.size w4 (w4.alloc (.cells D 60)) := (Below.refl _ _).alloc (Nat.le_refl _) _
      have hO6 : OnlyBook k w w6 := by
        have h5 := HO4.out.trans (OnlyBook.of_below hal)
        have hsz4 := HO4.out.size
        refine ⟨hg6.os.trans h5.os, hg6.tape.trans h5.tape, hg6.output.trans h5.output, Nat.le_trans h5.size hg6.size, fun i hi hn => (hg6.block i (by have := h5.size; omega) (fun e => ?_)).trans (h5.block i hi hn)⟩
        have := (rowD_lt HW4.out e.symm).1
        omega
      have hB6 : BookAt w6 k (addInk Lr (upIn (grp ds j))) (asked + j + 1) := by
        have h5 := HB4.out.below hal
        have hl := HLT.out
        refine h5.only (N := fun b => w.heap.size ≤ b) ⟨hg6.os, hg6.tape, hg6.output, hg6.size, fun i hi hn => hg6.block i hi (fun e => hn (rowD_lt HW4.out e.symm).1)⟩ ?_ ?_ ?_ <;> omega
      have HB6 := Lib.hid hB6
      have HO6 := Lib.hid hO6
      have hown7 : w6.ownsRow w.heap.size 60 32 v6 (j + 1) (digRow (abovePre ds (j + 1))) := by
        rw [abovePre_next, digRow_app]
        have e : digRow [upD (grp ds j)] = D.toList := by rw [HDV.out]; simp [digRow]
        rw [e]
        exact hown6
      have HW6 := Lib.hid hown7
      clear hB6 hO6 hal hown6 hown7 hg6 hor6 HW4 HB4 HO4
      go_wp2_with fail
      go_roundw
      case rel => exact ⟨j + 1, by omega, by go_num, HW6.out, ⟨_, HB6.out, fun x hx => addInk_old (HLR.out x hx), fun p hp => by
        rcases Nat.lt_or_ge p j with h | h
        · exact addInk_old (HLP.out p h)
        · obtain rfl : p = j := by omega
          exact addInk_new _ _⟩, HO6.out⟩
      case measure => simp [intOf]; omega
    · have h4i : ¬ 4 * (j : Int) < (n : Int) := by have := mt grps_iff.2 hjn; omega
      obtain rfl : j = grps n := by omega
      go_wp2_with fail
      go_ret
      refine ⟨_, rfl, ?_, Lr, HB.out, HLR.out, HLP.out, HOB.out⟩
      have := HOV.out
      rw [show abovePre ds (grps n) = aboveL ds by unfold abovePre aboveL; rw [HXN.out]] at this
      exact this

end Go.Proofs.YtcpngeiahgoacaaGreat

/- Contracts of tree.levels and slices.Repeat: a tree that is made. -/
namespace Go.Proofs.YtcpngeiahgoacaaGreat
set_option linter.unusedVariables false
open Go.RowKit Go.Maps

/-- a row of digests, wherever it lies -/
structure DigAt (w : World) (g cap : Nat) (ds : List (List UInt8)) : Prop where
  row : ∃ cur : Array Value, Blk w g 60 cur ∧ cur.size = cap * 32 ∧ cur.toList.take (ds.length * 32) = digRow ds
  cap : ds.length ≤ cap ∧ cap ≤ maxLen
theorem DigAt.of_own {w : World} {B : Nat} {v : Value} {n : Nat} {ds : List (List UInt8)} (h : w.ownsRow B 60 32 v n (digRow ds)) (hd : Digs ds) (h0 : 0 < n) : ds.length = n ∧ ∃ g cap, v = .slice (some ⟨g, 0, none⟩) n cap ∧ B ≤ g ∧ DigAt w g cap ds := by
  have hl : ds.length = n := by have := h.1; rw [digRow_len hd] at this; omega
  rcases h.2 with ⟨_, h1⟩ | ⟨g, cap, cur, hv, h2, h3, h4, h5, h6, h7⟩
  · omega
  · exact ⟨hl, g, cap, hv, h2, ⟨⟨cur, h3, h6, by rw [hl]; exact h7⟩, by omega, h5⟩⟩
theorem DigAt.lt {w : World} {g cap : Nat} {ds : List (List UInt8)} (h : DigAt w g cap ds) : g < w.heap.size := by
  obtain ⟨cur, h1, _⟩ := h.row
  exact h1.lt
theorem DigAt.keep {w w' : World} {g cap : Nat} {ds : List (List UInt8)} (h : DigAt w g cap ds) (hk : w'.heap[g]? = w.heap[g]?) : DigAt w' g cap ds := by
  obtain ⟨cur, h1, h2⟩ := h.row
  exact ⟨⟨cur, hk.trans h1, h2⟩, h.cap⟩
theorem DigAt.reads {w : World} {g cap : Nat} {ds : List (List UInt8)} (h : DigAt w g cap ds) (hd : Digs ds) : Reads w w.heap.size 32 (some ⟨g, 0, none⟩) ds.length (digRow ds) := by
  obtain ⟨cur, h1, h2, h3⟩ := h.row
  refine ⟨digRow_len hd, fun _ => ⟨_, rfl, h1.lt, fun j u hu => ?_⟩⟩
  rw [add_off, Nat.zero_add, h1.cell, ← Array.getElem?_toList]
  rw [← h3, List.getElem?_take] at hu
  split at hu
  · exact hu
  · cases hu
/-- one digest is turned -/
theorem DigAt.set {w w' : World} {g cap i : Nat} {ds : List (List UInt8)} {d : List UInt8} (h : DigAt w g cap ds) (hd : Digs ds) (hdl : d.length = 32) (hi : i < ds.length) (hk : ∀ cur : Array Value, Blk w g 60 cur → cur.size = cap * 32 → Blk w' g 60 (spl cur (i * 32) (d.map vb))) : DigAt w' g cap (ds.set i d) := by
  obtain ⟨cur, h1, h2, h3⟩ := h.row
  have hc := h.cap
  have hm : (i + 1) * 32 ≤ cap * 32 := Nat.mul_le_mul_right _ (by omega)
  have hle : i * 32 + (d.map vb).length ≤ cur.size := by rw [List.length_map, hdl, h2]; omega
  refine ⟨⟨_, hk cur h1 h2, by rw [spl_size hle, h2], ?_⟩, by rw [List.length_set]; exact hc⟩
  apply List.ext_getElem?
  intro j
  have hl := digRow_len (hd.set i hdl)
  have hl0 := digRow_len hd
  rw [List.length_set] at hl ⊢
  rw [List.getElem?_take]
  rcases Nat.lt_or_ge j (ds.length * 32) with hj | hj
  · rw [if_pos hj, Array.getElem?_toList, spl_get hle]
    have hq : j / 32 < ds.length := by omega
    have hj2 : j = j / 32 * 32 + j % 32 := by omega
    by_cases he : j / 32 = i
    · rw [if_pos (by rw [List.length_map, hdl]; omega)]
      have := digRow_get (hd.set i hdl) i (j % 32) (d := d) (by rw [List.getElem?_set_self hi]) (by omega)
      rw [hj2, he, this]
      congr 1
      omega
    · rw [if_neg (by rw [List.length_map, hdl]; omega), ← Array.getElem?_toList]
      have e1 : (digRow ds)[j]? = cur.toList[j]? := by rw [← h3, List.getElem?_take, if_pos hj]
      have hg1 := digRow_get hd (j / 32) (j % 32) (List.getElem?_eq_getElem hq) (by omega)
      have hg2 := digRow_get (hd.set i hdl) (j / 32) (j % 32) (d := ds[j / 32]) (by rw [List.getElem?_set_ne (fun e => he e.symm), List.getElem?_eq_getElem hq]) (by omega)
      rw [← hj2] at hg1 hg2
      rw [hg2, ← hg1, e1]
  · rw [if_neg (by omega), List.getElem?_eq_none (by omega)]

theorem slc_info : (Tryz.prog.info? 189).map (fun i => (i.zero, i.size, i.bytes)) = some (some (.slice none 0 0), 1, 24) := by kernel_rfl

/-- the first levels of a tree, in a world that goes on from w -/
structure LvSt (w wr : World) (k : Book) (L : List (List UInt8)) (asked : Nat) (ls : List (List UInt8)) (g0 c s : Nat) (gs cs : Nat → Nat) (ov : Value) : Prop where
  g0 : gs 0 = g0
  c0 : cs 0 = c
  row : wr.ownsRow w.heap.size 189 1 ov (s + 1) ((List.range (s + 1)).map fun j => .slice (some ⟨gs j, 0, none⟩) (lv ls j).length (cs j))
  dig : ∀ j, j ≤ s → DigAt wr (gs j) (cs j) (lv ls j)
  new : ∀ j, 1 ≤ j → j ≤ s → w.heap.size ≤ gs j
  ne : ∀ i j, i < j → j ≤ s → gs i ≠ gs j
  book : ∃ L' a', BookAt wr k L' a' ∧ a' ≤ asked + 4 * s ∧ (∀ x, x ∈ L → x ∈ L') ∧ (1 ≤ s → ∀ p, p < grps ls.length → upIn (grp (lv ls 0) p) ∈ L') ∧ (2 ≤ s → upIn (lv ls 1) ∈ L')
  only : OnlyBook k w wr
theorem lv_count {ls : List (List UInt8)} (h5 : 5 ≤ ls.length) (h16 : ls.length ≤ 16) (s : Nat) (hs : s ≤ 2) : (1 < (lv ls s).length ↔ s < 2) ∧ (lv ls s).length ≤ 16 ∧ 1 ≤ (lv ls s).length ∧ grps (lv ls s).length ≤ 4 := by
  have h0 := lv_len0 ls
  have h1 := lv_len1 ls
  have h2 := lv_len2 ls
  obtain rfl | rfl | rfl : s = 0 ∨ s = 1 ∨ s = 2 := by omega
  · rw [h0]; unfold grps; omega
  · rw [h1]; unfold grps; omega
  · rw [h2]; unfold grps; omega

set_option maxRecDepth 100000 in
set_option maxHeartbeats 4000000 in
/-- the levels over a lowest one of 5 to 16: three -/
theorem levels_any (k : Book) (L : List (List UInt8)) (asked : Nat) (g0 n c : Nat) (ls : List (List UInt8)) (w : World) (hbk : BookAt w k L asked) (h : DigAt w g0 c (lv ls 0)) (hap : ¬ k.has g0) (h5 : 5 ≤ ls.length) (h16 : ls.length ≤ 16) (hn : n = ls.length) (has : asked ≤ 800000) :
    Calls Tryz.prog 150 #[.pointer (some ⟨k.g, 0, none⟩), .slice (some ⟨g0, 0, none⟩) n c] w fun e w' => ∃ v gs cs, e = .returned v ∧ LvSt w w' k L asked ls g0 c 2 gs cs v := by
  have hn0 : n = (lv ls 0).length := by rw [lv_len0]; exact hn
  have HAP := Lib.hid hap
  have HBK := Lib.hid hbk
  have H0 := Lib.hid h
  have h0lt := h.lt
  have hlt := hbk.lt
  have HLT := Lib.hid hlt
  have HN := Lib.hid hn0
  obtain ⟨i0, hi0, hz0, hz1, hz2⟩ := info_parts slc_info
  have hw0 := World.ownsRow_lit (base := w.heap.size) (e := 189) (size := 1) w #[.slice (some ⟨g0, 0, none⟩) n c] 1 (Nat.le_refl _) (by unfold maxLen; omega) rfl
  have hst : LvSt w (w.alloc (.cells #[.slice (some ⟨g0, 0, none⟩) n c] 189)) k L asked ls g0 c 0 (fun _ => g0) (fun _ => c) (.slice (some ⟨w.heap.size, 0, none⟩) 1 1) := by
    refine ⟨rfl, rfl, ?_, fun j hj => ?_, fun j h1 h2 => by omega, fun i j h1 h2 => by omega, ⟨L, asked, hbk.below (below_lit _ _), by omega, fun _ h => h, fun h => by omega, fun h => by omega⟩, OnlyBook.of_below (below_lit _ _)⟩
    · rw [hn0] at hw0 ⊢
      exact hw0
    · obtain rfl : j = 0 := by omega
      exact h.keep (Below.heap_alloc _ _ _ h0lt)
  have HST := Lib.hid hst
  clear h hap hbk hlt hst hw0 hn hn0
  go_enter Tryz.func150, Tryz.ntmps150
  go_wp2_with fail
  go_loopw [1, 5] (fun lw ov wr => ∃ s gs cs m, s ≤ 2 ∧ m = (lv ls s).length ∧ lw = .slice (some ⟨gs s, 0, none⟩) m (cs s) ∧ LvSt w wr k L asked ls g0 c s gs cs ov) (fun lw _ _ => (match lw with | .slice _ n _ => n | _ => 0))
  case atStart => exact ⟨0, _, _, n, by omega, HN.out, rfl, HST.out⟩
  case round =>
    obtain ⟨s, gs, cs, m, hs, hm, rfl, hlv⟩ := hrel
    have HLV := Lib.hid hlv
    obtain ⟨hc1, hc2, hc3, hc4⟩ := lv_count h5 h16 s hs
    rw [← hm] at hc1 hc2 hc3 hc4
    have HM := Lib.hid hm
    by_cases h1 : 1 < m
    · have hs2 := hc1.1 h1
      have h1i : (1 : Int) < (m : Int) := by omega
      obtain ⟨Ls, a', hbk, ha', hLs, hp1, hp2⟩ := hlv.book
      have hg := hlv.dig s (Nat.le_refl _)
      have hgk : ¬ k.has (gs s) := by
        rcases Nat.eq_zero_or_pos s with e | e
        · subst e; rw [hlv.g0]; exact HAP.out
        · have := hlv.new s e (Nat.le_refl _)
          have hl := HLT.out
          rintro (e | e | e) <;> omega
      have hab := above_any k Ls a' (some ⟨gs s, 0, none⟩) m (cs s) (lv ls s) wr hbk (by have := hg.reads (lv_digs ls s); rw [← hm] at this; exact this) (fun a _ e => by injection e with e; subst e; exact hgk) (lv_digs ls s) (by omega) (by have := hg.cap; rw [← hm] at this; exact this.1) (by omega)
      have HAB := Lib.hid hab
      have HL1 := Lib.hid hLs
      have HP1 := Lib.hid hp1
      have HP2 := Lib.hid hp2
      have hsw := hlv.only.size
      clear hlv hbk hg hab hLs hp1 hp2 hm
      go_wp2_with fail
      refine HAB.out.mono ?_
      rintro _ w3 ⟨v3, L3, rfl, hrow3, hbk3, hL3, hp3, ho3⟩
      obtain ⟨hl3, g3, c3, rfl, hg3, hd3⟩ := DigAt.of_own hrow3 (aboveL_digs _) (by unfold grps; omega)
      have HR3 := Lib.hid (rowD_keep HLV.out.row (w' := w3) (fun b hb => by
        have := rowD_lt HLV.out.row hb
        have hl := HLT.out
        exact ho3.block b this.2 (by rintro (e | e | e) <;> omega)))
      have HO3 := Lib.hid (HLV.out.only.trans ho3)
      have hs3 := ho3.size
      obtain ⟨m2, hm2⟩ : ∃ m2, m2 = grps m := ⟨_, rfl⟩
      rw [← hm2]
      have HM2 := Lib.hid hm2
      have HW3 := Lib.hid (reads_cells w3 #[.slice (some ⟨g3, 0, none⟩) m2 c3] 189)
      have HBK3 := Lib.hid hbk3
      have HL3 := Lib.hid hL3
      have HP3 := Lib.hid hp3
      have HD3 := Lib.hid hd3
      have HO := Lib.hid ho3
      have hm2l : m2 ≤ 4 ∧ 1 ≤ m2 := by rw [hm2]; unfold grps at hc4 ⊢; omega
      clear hrow3 hbk3 hL3 hp3 hd3 ho3 HAB hm2
      go_wp2_with (at_builtin; go_must (refine wpList_append_any _ rfl (.tmp 14) (.tmp 16) 201 rfl w.heap.size 189 i0 _ 1 24 Tryz.underlying201 hi0 hz0 hz1 hz2 rfl (by omega) _ (s + 1) ((List.range (s + 1)).map fun j => Value.slice (some ⟨gs j, 0, none⟩) (lv ls j).length (cs j)) rfl ?row (w3.heap.size + 1) (some ⟨w3.heap.size, 0, none⟩) 1 1 [.slice (some ⟨g3, 0, none⟩) m2 c3] rfl ?rd ?c1 ?c2 ?c3 ?c4 ?_))
      case row => exact rowD_keep HR3.out (fun b hb => Below.heap_alloc _ _ b (rowD_lt HR3.out hb).2)
      case rd => exact HW3.out
      case c1 => intro u hu; rw [List.mem_singleton] at hu; subst hu; rfl
      case c2 => unfold maxLen; omega
      case c3 => omega
      case c4 => simp; omega
      intro v6 w6 hown6 hg6 hor6
      have hal : Below w3.heap.size w3 (w3.alloc (.cells #[.slice (some ⟨g3, 0, none⟩) m2 c3] 189)) := below_lit _ _
      have hfar : ∀ b, b < w.heap.size → w6.heap[b]? = w3.heap[b]? := fun b hb => (hg6.block b (by have := hal.size; omega) (fun e => by have := (rowD_lt HR3.out e.symm).1; omega)).trans (hal.block b (by omega))
      have hkeep : ∀ b, b < w3.heap.size → (∃ cur, Blk w3 b 60 cur) → w6.heap[b]? = w3.heap[b]? := fun b hb ⟨cur, hcur⟩ => (hg6.block b (by have := hal.size; omega) (fun e => own_blk_ne HR3.out hcur (by decide) e.symm)).trans (hal.block b hb)
      have hdk : ∀ g cap ds, DigAt w3 g cap ds → DigAt w6 g cap ds := fun g cap ds hd => hd.keep (by
        obtain ⟨cur, h1, _⟩ := hd.row
        exact hkeep g hd.lt ⟨cur, h1⟩)
      have hst6 : LvSt w w6 k L asked ls g0 c (s + 1) (fun j => if j = s + 1 then g3 else gs j) (fun j => if j = s + 1 then c3 else cs j) v6 := by
        have hold := HLV.out
        have ho := HO.out
        have hl := HLT.out
        refine ⟨by simp [hold.g0], by simp [hold.c0], ?_, fun j hj => ?_, fun j h1 h2 => ?_, fun i j h1 h2 => ?_, ⟨L3, a' + grps m, ?_, ?_, fun x hx => HL3.out x (HL1.out x hx), fun _ p hp => ?_, fun h2 => ?_⟩, ?_⟩
        · have e : (List.range (s + 1 + 1)).map (fun j => Value.slice (some ⟨if j = s + 1 then g3 else gs j, 0, none⟩) (lv ls j).length (if j = s + 1 then c3 else cs j)) = (List.range (s + 1)).map (fun j => Value.slice (some ⟨gs j, 0, none⟩) (lv ls j).length (cs j)) ++ [.slice (some ⟨g3, 0, none⟩) m2 c3] := by
            rw [List.range_succ, List.map_append]
            congr 1
            · refine List.map_congr_left fun j hj => ?_
              have := List.mem_range.1 hj
              rw [if_neg (by omega), if_neg (by omega)]
            · simp only [List.map_cons, List.map_nil, if_true]
              rw [show (lv ls (s + 1)).length = m2 by show (aboveL (lv ls s)).length = _; rw [aboveL_len, ← HM.out, HM2.out]]
          rw [e, List.range_succ, List.map_append, List.append_assoc]
          exact hown6
        · by_cases he : j = s + 1
          · subst he
            simp only [if_true]
            exact hdk _ _ _ HD3.out
          · simp only [if_neg he]
            have hd := hold.dig j (by omega)
            refine hdk _ _ _ (hd.keep (ho.block _ hd.lt ?_))
            rcases Nat.eq_zero_or_pos j with e | e
            · subst e; rw [hold.g0]; exact HAP.out
            · have := hold.new j e (by omega)
              rintro (e | e | e) <;> omega
        · by_cases he : j = s + 1
          · simp only [if_pos he]; omega
          · simp only [if_neg he]; exact hold.new j h1 (by omega)
        · have hi : i ≠ s + 1 := by omega
          simp only [if_neg hi]
          by_cases he : j = s + 1
          · simp only [if_pos he]
            have := (hold.dig i (by omega)).lt
            omega
          · simp only [if_neg he]; exact hold.ne i j h1 (by omega)
        · exact HBK3.out.only (N := fun b => w.heap.size ≤ b) ⟨hg6.os.trans hal.os, hg6.tape.trans hal.tape, hg6.output.trans hal.output, by have := hal.size; have := hg6.size; omega, fun i hi hn => hfar i (by omega)⟩ (by omega) (by omega) (by omega)
        · have := HM2.out; omega
        · rcases Nat.eq_zero_or_pos s with e | e
          · subst e
            refine HP3.out p ?_
            rw [HM.out, lv_len0]
            exact hp
          · exact HL3.out _ (HP1.out e p hp)
        · obtain rfl : s = 1 := by omega
          have := HP3.out 0 (by unfold grps; omega)
          have e : grp (lv ls 1) 0 = lv ls 1 := by
            unfold grp
            rw [Nat.mul_zero, List.drop_zero, List.take_of_length_le]
            rw [lv_len1]; unfold grps; omega
          rw [e] at this
          exact this
        · have h5 := HO3.out
          refine ⟨hg6.os.trans (hal.os.trans h5.os), hg6.tape.trans (hal.tape.trans h5.tape), hg6.output.trans (hal.output.trans h5.output), by have := hal.size; have := hg6.size; have := h5.size; omega, fun i hi hn => (hfar i hi).trans (h5.block i hi hn)⟩
      have HST6 := Lib.hid hst6
      clear hst6 hdk hkeep hfar hal hown6 hg6 hor6 HD3 HO HR3 HW3
      go_wp2_with fail
      go_roundw
      case rel => exact ⟨s + 1, _, _, m2, by omega, by show m2 = (aboveL (lv ls s)).length; rw [aboveL_len, ← HM.out, HM2.out], by simp, HST6.out⟩
      case measure => show m2 < m; rw [HM2.out]; unfold grps; omega
    · have hs2 : s = 2 := by have := mt hc1.2 h1; omega
      subst hs2
      have h1i : ¬ (1 : Int) < (m : Int) := by omega
      clear hlv hm
      go_wp2_with fail
      go_ret
      exact ⟨_, rfl, gs, cs, HLV.out⟩

end Go.Proofs.YtcpngeiahgoacaaGreat

/- Contract of slices.Repeat for one digest, 6 or 13 times. -/
namespace Go.Proofs.YtcpngeiahgoacaaGreat
set_option linter.unusedVariables false
open Go.RowKit Go.Maps
attribute [local irreducible] wpList

section
variable {P : Program}
theorem run_copy_rowS (w : World) (dT sT ty elem : TypeId) (g o dLen dCap s m : Nat) (a : Addr) (sLen sCap : Nat) (cur : Array Value) (t : TypeId) (cs : List Value)
    (hu : P.underlying dT = some (.slice elem)) (hs : (P.info? elem).map (·.size) = some s)
    (hg : Blk w g t cur) (hm : m = Nat.min sLen dLen) (hn : cs.length = m * s)
    (hsrc : ∀ j v, cs[j]? = some v → w.cell? (a.add j) = some v) (hfit : o + cs.length ≤ cur.size) (h1 : ∀ v ∈ cs, v.oneCell' = true) :
    (Builtin.copy_ #[dT, sT] ty #[.slice (some ⟨g, o, none⟩) dLen dCap, .slice (some a) sLen sCap]).run P w = .ok (.int .i64 (m : Int)) (w.setRow g (spl cur o cs)) := by
  have hl := run_loadCells_list (P := P) w a cs hsrc
  have hst := run_storeCells_at P g o t cs 0 cur w hg (by simpa using hfit) h1
  cases hq : P.info? elem with
  | none => simp [hq] at hs
  | some i =>
    have hi : i.size = s := by simpa [hq] using hs
    rw [hn] at hl
    simp only [Nat.add_zero] at hst
    simp only [List.append_assoc] at hst
    simp [Builtin.copy_, run_underlying hu, Builtin.lenOf, Builtin.firstCells, sizeOf, typeInfo, hq, hi, ← hm, hl, hst, spl, goInt]
theorem wpList_copy_partS {ops : Array Oper} {rest : List Oper} {o : Oper} {a : Act} {w : World} {Q : Exit → Act → World → Prop} (hgd : o.guard = none) (d s : Operand) (dT sT elem : TypeId)
    (ho : o.op = .call { callee := .builtin .copy, args := #[d, s], argTypes := #[dT, sT] })
    (g off dLen dCap sLen sCap size m : Nat) (ad : Addr) (t : TypeId) (cs : Array Value) (vs : List Value)
    (hd : a.eval d = .slice (some ⟨g, off, none⟩) dLen dCap) (hs : a.eval s = .slice (some ad) sLen sCap)
    (hu : P.underlying dT = some (.slice elem)) (hsz : (P.info? elem).map (·.size) = some size)
    (hB : Blk w g t cs) (hm : m = Nat.min sLen dLen) (hn : vs.length = m * size) (hsrc : ∀ j v, vs[j]? = some v → w.cell? (ad.add j) = some v) (hfit : off + vs.length ≤ cs.size) (h1 : ∀ v ∈ vs, v.oneCell' = true)
    (h : ∀ W', Turned g w W' → Blk W' g t (spl cs off vs) → wpList P ops Q rest (a.put o.dst (.int .i64 (m : Int))) W') : wpList P ops Q (o :: rest) a w :=
  wpList_plain hgd fun _ hK => by
    unfold Oper.wp execOp
    simp only [ho, resolve, invoke, builtin, Sem.run_bind, Sem.run_pure, Result.andThen_ok, List.map_toArray, List.map_cons, List.map_nil, hd, hs, run_copy_rowS (P := P) w dT sT o.type elem g off dLen dCap size m ad sLen sCap cs t vs hu hsz hB hm hn hsrc hfit h1]
    exact hK _ _ (h _ (Turned.setRow w g _) (setRow_heap w g cs _ t _ hB))
theorem run_slice_fromS {t e : TypeId} {m : Nat} (ht : P.underlying t = some (.slice e)) (hs : (P.info? e).map (·.size) = some m) (A : Option Addr) (len cap l : Nat) (li : Int) (el : li = l) (hl : l ≤ len) (W : World) :
    (Instr.slice t (.slice A len cap) (some (.int .i64 li)) none none).run P W = .ok (.slice (if cap = l then A else A.map (·.add (l * m))) (len - l) (cap - l)) W := by
  subst el
  obtain ⟨i, hi, hsz⟩ : ∃ i, P.info? e = some i ∧ i.size = m := by
    cases hh : P.info? e with
    | none => rw [hh] at hs; cases hs
    | some i => rw [hh] at hs; exact ⟨i, rfl, by simpa using hs⟩
  have he : P.elem t = e := by simp [Program.elem, ht]
  rw [run_slice_l W t A len cap (by rw [he]; exact ht) .i64 (l : Int) (by omega) (by omega)]
  simp [he, sizeOf, typeInfo, hi, hsz, sliced]
theorem run_slice_toS {t e : TypeId} {m : Nat} (ht : P.underlying t = some (.slice e)) (hs : (P.info? e).map (·.size) = some m) (A : Addr) (len cap h : Nat) (hi : Int) (eh : hi = h) (h0 : 0 < cap) (hh : h ≤ cap) (W : World) :
    (Instr.slice t (.slice (some A) len cap) none (some (.int .i64 hi)) none).run P W = .ok (.slice (some (A.add 0)) h cap) W := by
  subst eh
  obtain ⟨i, hi, hsz⟩ : ∃ i, P.info? e = some i ∧ i.size = m := by
    cases hh : P.info? e with
    | none => rw [hh] at hs; cases hs
    | some i => rw [hh] at hs; exact ⟨i, rfl, by simpa using hs⟩
  have he : P.elem t = e := by simp [Program.elem, ht]
  rw [run_slice_h W t (some A) len cap (by rw [he]; exact ht) .i64 (h : Int) (by omega) (by omega)]
  simp [he, sizeOf, typeInfo, hi, hsz, sliced, show ¬ cap = 0 by omega]
end

set_option maxRecDepth 100000 in
theorem mul64_13 (w : World) : Calls Tryz.prog 189 #[.int .u64 1, .int .u64 13] w fun e w' => e = .returned (.tuple #[.int .u64 0, .int .u64 13]) ∧ w = w' := by
  go_enter Tryz.func189, Tryz.ntmps189
  go_wp2
  go_ret2
  exact ⟨rfl, rfl⟩
set_option maxRecDepth 100000 in
theorem mul64_6 (w : World) : Calls Tryz.prog 189 #[.int .u64 1, .int .u64 6] w fun e w' => e = .returned (.tuple #[.int .u64 0, .int .u64 6]) ∧ w = w' := by
  go_enter Tryz.func189, Tryz.ntmps189
  go_wp2
  go_ret2
  exact ⟨rfl, rfl⟩
set_option maxRecDepth 100000 in
theorem mul_any (n : Nat) (hn : n = 13 ∨ n = 6) (w : World) : Calls Tryz.prog 172 #[.int .u64 1, .int .u64 (n : Int)] w fun e w' => e = .returned (.tuple #[.int .u64 0, .int .u64 (n : Int)]) ∧ w = w' := by
  rcases hn with rfl | rfl
  · go_enter Tryz.func172, Tryz.ntmps172
    go_wp2_with fail
    refine (mul64_13 _).mono ?_
    rintro _ _ ⟨rfl, rfl⟩
    go_wp2_with fail
    go_ret2
    exact ⟨rfl, rfl⟩
  · go_enter Tryz.func172, Tryz.ntmps172
    go_wp2_with fail
    refine (mul64_6 _).mono ?_
    rintro _ _ ⟨rfl, rfl⟩
    go_wp2_with fail
    go_ret2
    exact ⟨rfl, rfl⟩

theorem digRow_rep (d : List UInt8) (a b : Nat) : digRow (List.replicate (a + b) d) = digRow (List.replicate a d) ++ digRow (List.replicate b d) := by rw [← digRow_app, List.replicate_append_replicate]
theorem rep_digs {d : List UInt8} (h : d.length = 32) (n : Nat) : Digs (List.replicate n d) := fun x hx => by obtain ⟨_, rfl⟩ := List.mem_replicate.1 hx; exact h
theorem rep_len {d : List UInt8} (h : d.length = 32) (n : Nat) : (digRow (List.replicate n d)).length = n * 32 := by rw [digRow_len (rep_digs h n), List.length_replicate]
theorem digRow_one (ds : List (List UInt8)) : ∀ v ∈ digRow ds, v.oneCell' = true := fun v hv => by
  obtain ⟨d, _, h⟩ := List.mem_flatMap.1 hv
  obtain ⟨b, _, rfl⟩ := List.mem_map.1 h
  rfl
/-- the first m are all alike -/
def RepAt (w : World) (g n m : Nat) (d : List UInt8) : Prop := ∃ cur : Array Value, Blk w g 60 cur ∧ cur.size = n * 32 ∧ cur.toList.take (m * 32) = digRow (List.replicate m d)
theorem rep_grow {cur : Array Value} {n m k : Nat} {d : List UInt8} (hd : d.length = 32) (hs : cur.size = n * 32) (hm : cur.toList.take (m * 32) = digRow (List.replicate m d)) (hk : m + k ≤ n) :
    (spl cur (m * 32) (digRow (List.replicate k d))).size = n * 32 ∧ (spl cur (m * 32) (digRow (List.replicate k d))).toList.take ((m + k) * 32) = digRow (List.replicate (m + k) d) := by
  have h1 : (m + k) * 32 ≤ n * 32 := Nat.mul_le_mul_right _ hk
  have hl := rep_len hd k
  have hl2 := rep_len hd m
  have hfit : m * 32 + (digRow (List.replicate k d)).length ≤ cur.size := by rw [hl, hs]; omega
  refine ⟨by rw [spl_size hfit, hs], ?_⟩
  unfold spl
  rw [hm, digRow_rep, show (m + k) * 32 = (digRow (List.replicate m d) ++ digRow (List.replicate k d)).length by rw [List.length_append, hl, hl2]; omega]
  simp only [List.append_assoc]
  rw [← List.append_assoc, List.take_left]

set_option maxRecDepth 100000 in
set_option maxHeartbeats 4000000 in
theorem repeat_any (g n : Nat) (d : List UInt8) (w : World) (hn : n = 13 ∨ n = 6) (hd : d.length = 32) (h : Blk w g 60 (bRow d)) :
    Calls Tryz.prog 151 #[.slice (some ⟨g, 0, none⟩) 1 1, .int .i64 (n : Int)] w fun e w' => ∃ g', e = .returned (.slice (some ⟨g', 0, none⟩) n n) ∧ DigAt w' g' n (List.replicate n d) ∧ w.heap.size ≤ g' ∧ Below w.heap.size w w' := by
  have HMUL := Lib.hid (fun W => mul_any n hn W)
  have hn2 : 6 ≤ n ∧ n ≤ 13 := by omega
  clear hn
  have hn0 : ¬ (n : Int) < 0 := by omega
  have H := Lib.hid h
  have hgl := h.lt
  have hwr : IntKind.u64.wrap (n : Int) = (n : Int) := by rw [IntKind.wrap_u64]; omega
  have hwr2 : IntKind.i64.wrap (n : Int) = (n : Int) := by rw [IntKind.wrap_i64]; omega
  have hnb : ¬ (9223372036854775807 : Int) < (n : Int) := by omega
  obtain ⟨i0, hi0, hz0, hz1, hz2⟩ := info_parts digs_info
  have HZS := Lib.hid (show inkZ.size = 32 by simp [inkZ, bRow])
  clear h
  go_enter Tryz.func151, Tryz.ntmps151
  go_wp2_with fail
  refine (HMUL.out _).mono ?_
  rintro _ _ ⟨rfl, rfl⟩
  have hmk : (Instr.makeSlice 189 (.int .i64 (n : Int)) (.int .i64 (n : Int))).run Tryz.prog w = .ok (.slice (some ⟨w.heap.size, 0, none⟩) n n) (w.alloc (.cells (madeCells inkZ (n * 32)) 60)) := by
    have h := run_make_rowN (P := Tryz.prog) 189 60 i0 _ Tryz.underlying189 hi0 hz0 .i64 .i64 n n (by omega) (by rw [hz2]; omega) (by omega) w
    rw [hz1] at h
    exact h
  have HMK := Lib.hid hmk
  have hms : (madeCells inkZ (n * 32)).size = n * 32 := size_madeCells _ _
  have hbn : Below w.heap.size w (w.alloc (.cells (madeCells inkZ (n * 32)) 60)) := below_lit _ _
  have hB0 : Blk (w.alloc (.cells (madeCells inkZ (n * 32)) 60)) w.heap.size 60 (madeCells inkZ (n * 32)) := Blk.newAt rfl
  have hr0 := reads_blk (H.out.below hbn hgl) (bRow_size32 hd)
  generalize madeCells inkZ (n * 32) = cz at HMK hms hbn hB0 hr0
  generalize hw1 : w.alloc (.cells cz 60) = w1 at HMK hbn hB0 hr0
  obtain ⟨gn, hgn⟩ : ∃ gn, gn = w.heap.size := ⟨_, rfl⟩
  rw [← hgn] at HMK hB0 hbn
  have HBN := Lib.hid hbn
  have HB0 := Lib.hid hB0
  have HMS := Lib.hid hms
  have HGN := Lib.hid hgn
  have hsr : ∀ (j : Nat) (v : Value), (digRow (List.replicate 1 d))[j]? = some v → w1.cell? ((⟨g, 0, none⟩ : Addr).add j) = some v := fun j v hv => by
    obtain ⟨ad, he, _, hc⟩ := hr0.2 (by omega)
    injection he with he
    subst he
    refine hc j v ?_
    rw [← hv]
    simp [digRow, bRow]
  have HSR := Lib.hid hsr
  clear hmk hms hbn hB0 hgn hw1 hsr hr0
  have hmk := HMK.out
  go_wp2_with (refine wpList_copy_partS (o := ⟨some 33, _, _, _, _, _⟩) rfl (.tmp 31) (.tmp 32) 189 189 60 rfl gn 0 n n 1 1 32 1 ⟨g, 0, none⟩ 60 cz (digRow (List.replicate 1 d)) rfl rfl Tryz.underlying189 dig_info HB0.out (show 1 = min 1 n by omega) (by rw [rep_len hd]) HSR.out (by rw [rep_len hd, HMS.out]; omega) (digRow_one _) ?_)
  intro w2 hT2 hB2
  have hrep : RepAt w2 gn n 1 d := by
    have := rep_grow (m := 0) (k := 1) hd HMS.out (by simp [digRow]) (by omega)
    exact ⟨_, by simpa using hB2, by simpa using this.1, by simpa using this.2⟩
  have HREP := Lib.hid hrep
  have HB2 := Lib.hid (hT2.below HBN.out (by omega))
  clear hT2 hB2 hrep
  go_wp2_with fail
  go_loopw [8] (fun mv wr => ∃ m : Nat, 1 ≤ m ∧ m ≤ n ∧ mv = .int .i64 (m : Int) ∧ RepAt wr gn n m d ∧ Below gn w wr) (fun mv _ => n - (intOf mv).toNat)
  case atStart => exact ⟨1, by omega, by omega, rfl, HREP.out, HB2.out⟩
  case round =>
    obtain ⟨m, hm1, hmn, rfl, hrep, hbel⟩ := hrel
    have HR := Lib.hid hrep
    have HB := Lib.hid hbel
    clear hrep hbel
    by_cases hlt : m < n
    · obtain ⟨cur, hbk, hcs, hct⟩ := HR.out
      have HBK := Lib.hid hbk
      have HCS := Lib.hid hcs
      have HCT := Lib.hid hct
      have hlti : (m : Int) < (n : Int) := by omega
      have hf := fun W => run_slice_fromS (P := Tryz.prog) (t := 189) Tryz.underlying189 dig_info (some ⟨gn, 0, none⟩) n n m (m : Int) rfl (by omega) W
      rw [if_neg (by omega)] at hf
      have ht := fun W => run_slice_toS (P := Tryz.prog) (t := 189) Tryz.underlying189 dig_info ⟨gn, 0, none⟩ n n m (m : Int) rfl (by omega) (by omega) W
      have HF := Lib.hid hf
      have HT := Lib.hid ht
      clear hbk hcs hct hf ht
      go_upto_region 9 with fail
      have hsr3 : ∀ (W : World), Blk W gn 60 cur → ∀ (j : Nat) (v : Value), (digRow (List.replicate (min m (n - m)) d))[j]? = some v → W.cell? ((⟨gn, 0, none⟩ : Addr).add j) = some v := fun W hbk3 j v hv => by
        have e := digRow_rep d (min m (n - m)) (m - min m (n - m))
        rw [show min m (n - m) + (m - min m (n - m)) = m by omega] at e
        have hj : j < (digRow (List.replicate (min m (n - m)) d)).length := (List.getElem?_eq_some_iff.1 hv).1
        have h1 : (digRow (List.replicate m d))[j]? = some v := by rw [e, List.getElem?_append_left hj]; exact hv
        rw [← HCT.out, List.getElem?_take] at h1
        split at h1
        · rw [add_off, Nat.zero_add, hbk3.cell, ← Array.getElem?_toList]; exact h1
        · cases h1
      have HSR3 := Lib.hid hsr3
      have hle : m + min m (n - m) ≤ n := by omega
      have hle32 : (m + min m (n - m)) * 32 ≤ n * 32 := Nat.mul_le_mul_right _ hle
      have hf := HF.out
      have ht := HT.out
      have hbw := HBK.out
      have hbd : Blk wr.drew gn 60 cur := HBK.out
      have hcp := run_copy_rowS (P := Tryz.prog) wr.drew 189 189 3 60 gn (m * 32) (n - m) (n - m) 32 (min m (n - m)) ⟨gn, 0, none⟩ m n cur 60 (digRow (List.replicate (min m (n - m)) d)) Tryz.underlying189 dig_info hbd rfl (by rw [rep_len hd]) (HSR3.out _ hbd) (by rw [rep_len hd, HCS.out]; omega) (digRow_one _)
      have hT4 : Turned gn wr.drew (wr.drew.setRow gn (spl cur (m * 32) (digRow (List.replicate (min m (n - m)) d)))) := Turned.setRow _ gn _
      have hB4 : Blk (wr.drew.setRow gn (spl cur (m * 32) (digRow (List.replicate (min m (n - m)) d)))) gn 60 (spl cur (m * 32) (digRow (List.replicate (min m (n - m)) d))) := setRow_heap _ gn cur _ 60 _ hbd
      generalize wr.drew.setRow gn (spl cur (m * 32) (digRow (List.replicate (min m (n - m)) d))) = w4 at hcp hT4 hB4
      have hg := rep_grow (k := min m (n - m)) hd HCS.out HCT.out hle
      have HREP4 := Lib.hid (show RepAt w4 gn n (m + min m (n - m)) d from ⟨_, hB4, hg.1, hg.2⟩)
      have HB4 := Lib.hid (hT4.below HB.out.drew (by have := HGN.out; omega))
      obtain ⟨q, hq⟩ : ∃ q, q = min m (n - m) := ⟨_, rfl⟩
      rw [← hq] at HREP4 hle hcp
      have hq1 : 1 ≤ q := by omega
      clear hT4 hB4 hg hq hle32 HSR3 hbd hbw
      go_region
      go_wp2_with fail
      go_roundw
      case rel => exact ⟨m + q, by omega, hle, by go_num, HREP4.out, HB4.out⟩
      case measure => simp [intOf]; omega
    · obtain rfl : m = n := by omega
      have hlti : ¬ (m : Int) < (m : Int) := by omega
      obtain ⟨cur, hbk, hcs, hct⟩ := HR.out
      have HBK := Lib.hid hbk
      have HCS := Lib.hid hcs
      have HCT := Lib.hid hct
      clear hbk hcs hct
      go_wp2_with fail
      go_ret
      refine ⟨gn, rfl, ⟨⟨cur, HBK.out, HCS.out, by rw [List.length_replicate]; exact HCT.out⟩, by rw [List.length_replicate]; unfold maxLen; omega⟩, by have := HGN.out; omega, by have h := HB.out; rw [HGN.out] at h; exact h⟩

end Go.Proofs.YtcpngeiahgoacaaGreat
