/- Parts of the proof, in one text: VaultS, VoB, CrG, AtA, AtB. -/
import Derived.Test.YtlaodmmjhjpfmaaGreatZ14
import Derived.Test.YtlaodmmjhjpfmaaGreatZ12
import Derived.Test.YtlaodmmjhjpfmaaGreatZ13
import Derived.Test.YtlaodmmjhjpfmaaGreatZ10

/- Lists of leaves in memory of their own; contracts of a vault's Leaves and of bastideref16.SameLeaves. -/
namespace Go.Proofs.YtlaodmmjhjpfmaaGreat
set_option linter.unusedVariables false
open Go.RowKit Go.Maps

attribute [local irreducible] wpList wpCalm
theorem sl8_info : (Tryz.prog.info? 22).map (fun i => (i.zero, i.size, i.bytes)) = some (some (.slice none 0 0), 1, 24) := by kernel_rfl
/-- slices of bytes in memory of their own, outer and inner -/
structure OwnL (w : World) (B0 : Nat) (v : Value) (xss : List (List UInt8)) (vs : List Value) : Prop where
  row : w.ownsRow B0 22 1 v xss.length vs
  at_ : ∀ (k : Nat) (x : List UInt8), xss[k]? = some x → ∃ u, vs[k]? = some u ∧ OwnB w B0 u x
theorem ownB_blk {w : World} {B : Nat} {u : Value} {x : List UInt8} (h : OwnB w B u x) {b : Nat} (hb : u.ownBlock = some b) : ∃ cur, Blk w b 5 cur := by
  rcases h.2 with ⟨rfl, _⟩ | ⟨g, cap, cur, rfl, hg, hh, _⟩
  · simp [Value.ownBlock] at hb
  · simp [Value.ownBlock] at hb; subst hb; exact ⟨cur, hh⟩
theorem OwnL.nil (w : World) (B0 : Nat) : OwnL w B0 (.slice none 0 0) [] [] := ⟨World.ownsRow_nil _ _ _ _, fun k x h => by simp at h⟩
theorem OwnL.keep {w w' : World} {B0 : Nat} {v : Value} {xss : List (List UInt8)} {vs : List Value} (h : OwnL w B0 v xss vs) (hk : ∀ b, B0 ≤ b → b < w.heap.size → w'.heap[b]? = w.heap[b]?) : OwnL w' B0 v xss vs :=
  ⟨rowD_keep h.row fun b hb => hk b (rowD_lt h.row hb).1 (rowD_lt h.row hb).2, fun k x hx => by
    obtain ⟨u, h1, h2⟩ := h.at_ k x hx
    exact ⟨u, h1, h2.keep fun b hb => hk b (h2.ge hb) (h2.lt hb)⟩⟩
theorem OwnL.below {w w' : World} {B0 : Nat} {v : Value} {xss : List (List UInt8)} {vs : List Value} (h : OwnL w B0 v xss vs) (hb : Below w.heap.size w w') : OwnL w' B0 v xss vs := h.keep fun b _ hl => hb.block b hl
theorem OwnL.only {w w' : World} {B0 : Nat} {v : Value} {xss : List (List UInt8)} {vs : List Value} {N : Nat → Prop} (h : OwnL w B0 v xss vs) (ho : Only N w w') (hN : ∀ b, N b → b < B0) : OwnL w' B0 v xss vs := h.keep fun b h0 hl => ho.block b hl fun hn => by have := hN b hn; omega
theorem OwnL.slice {w : World} {B0 : Nat} {v : Value} {xss : List (List UInt8)} {vs : List Value} (h : OwnL w B0 v xss vs) : ∃ A c, v = .slice A xss.length c ∧ xss.length ≤ c ∧ c ≤ maxLen ∧ RowsB w w.heap.size A xss.length xss ∧ (∀ a, A = some a → B0 ≤ a.block) := by
  have hr := fun A c (hv : v = .slice A xss.length c) => Reads.of_own (A := A) (c := c) (by rw [← hv]; exact h.row)
  have hrow : ∀ A, Reads w w.heap.size 1 A xss.length vs → RowsB w w.heap.size A xss.length xss := fun A hrd => ⟨rfl, fun h0 => by
    obtain ⟨ad, rfl, hlt, hc⟩ := hrd.2 h0
    refine ⟨ad, rfl, hlt, fun k x hx => ?_⟩
    obtain ⟨u, h1, h2⟩ := h.at_ k x hx
    obtain ⟨Ak, ck, rfl, _, _, h3, _⟩ := own_slice_b h2
    exact ⟨Ak, x.length, ck, hc k _ h1, h3⟩⟩
  rcases h.row.2 with ⟨rfl, h0⟩ | ⟨g, cap, cur, rfl, hg, _, h1, h2, _⟩
  · exact ⟨none, 0, by rw [h0], by omega, by unfold maxLen; omega, hrow _ (hr none 0 (by rw [h0])), fun _ h => by cases h⟩
  · exact ⟨_, cap, rfl, h1, h2, hrow _ (hr _ _ rfl), fun ad h => by injection h with h; subst h; exact hg⟩
/-- one more -/
theorem OwnL.push {w w3 w6 : World} {B0 : Nat} {v v6 u : Value} {xss : List (List UInt8)} {vs : List Value} {x : List UInt8} (h : OwnL w B0 v xss vs) (hb : Below w.heap.size w w3) (hu : OwnB w3 B0 u x) (hown : w6.ownsRow B0 22 1 v6 (xss.length + 1) (vs ++ [u])) (hg : (w3.alloc (.cells #[u] 22)).grownBy w6 v.ownBlock) : OwnL w6 B0 v6 (xss ++ [x]) (vs ++ [u]) := by
  have hl : vs.length = xss.length := by have := h.row.1; omega
  have hal : Below w3.heap.size w3 (w3.alloc (.cells #[u] 22)) := below_lit _ _
  have hkeep : ∀ y z, OwnB w3 B0 y z → OwnB w6 B0 y z := fun y z hy => (hy.below hal).keep fun b hb' => by
    obtain ⟨cur, hcur⟩ := ownB_blk hy hb'
    refine hg.block b (by have := hy.lt hb'; have := hal.size; omega) fun e => ?_
    have hr3 : w3.ownsRow B0 22 1 v xss.length vs := rowD_keep h.row fun b hb'' => hb.block b (rowD_lt h.row hb'').2
    exact own_blk_ne hr3 hcur (by decide) e.symm
  refine ⟨by rw [List.length_append]; exact hown, fun k z hz => ?_⟩
  rcases Nat.lt_or_ge k xss.length with hk | hk
  · rw [List.getElem?_append_left hk] at hz
    obtain ⟨y, h1, h2⟩ := h.at_ k z hz
    exact ⟨y, by rw [List.getElem?_append_left (by omega)]; exact h1, hkeep _ _ (h2.below hb)⟩
  · have hk2 : k = xss.length := by
      rcases Nat.lt_or_ge xss.length k with h1 | h1
      · rw [List.getElem?_eq_none (by simp; omega)] at hz; cases hz
      · omega
    subst hk2
    rw [List.getElem?_append_right (by omega), Nat.sub_self] at hz
    have hzx : x = z := Option.some.inj hz
    subst hzx
    exact ⟨u, by rw [List.getElem?_append_right (by omega), hl, Nat.sub_self]; rfl, hkeep _ _ hu⟩
theorem RowsB.take {w : World} {B n k : Nat} {A : Option Addr} {xss : List (List UInt8)} (h : RowsB w B A n xss) (hk : k ≤ n) (h0 : 0 < k) : RowsB w B A k (xss.take k) :=
  ⟨by rw [List.length_take, h.1]; omega, fun _ => by
    obtain ⟨ad, h1, h2, h3⟩ := h.2 (by omega)
    refine ⟨ad, h1, h2, fun j x hx => h3 j x ?_⟩
    rw [List.getElem?_take] at hx
    split at hx
    · exact hx
    · cases hx⟩

def LvPost (w : World) (m : VM) (e : Ending) (w' : World) : Prop := ∃ v vs, e = .returned v ∧ OwnL w' w.heap.size v (leavesV m) vs ∧ Below w.heap.size w w'
set_option maxRecDepth 100000 in
set_option maxHeartbeats 4000000 in
theorem vLeaves_any (w : World) (V : VLoc) (N : Nat → Prop) (m : VM) (h : VAt w V N m) :
    Calls Tryz.prog 57 #[.pointer (some ⟨V.g, 0, none⟩)] w (LvPost w m) := by
  obtain ⟨S, hd⟩ := h.dat
  have HN := Lib.hid (vNone_any w V.g V.T.t h.none_)
  have HL := Lib.hid (fun (i : Nat) (hi : i < 13) (W : World) (hb : Below w.heap.size w W) => vleaf_any W V.g i _ N m S (hd.below hb) hi)
  have hlen := leavesV_len m
  have HLN := Lib.hid hlen
  obtain ⟨i0, hi0, hz0, hz1, hz2⟩ := info_parts sl8_info
  clear h hd hlen
  go_enter Tryz.func57, Tryz.ntmps57
  go_wp2_with fail
  refine HN.out.mono ?_
  rintro _ _ ⟨rfl, rfl⟩
  go_wp2_with fail
  go_loopw [3, 7] (fun ov iv wr => ∃ (i : Nat) (vs : List Value), i ≤ 13 ∧ iv = .int .i64 i ∧ OwnL wr w.heap.size ov ((leavesV m).take i) vs ∧ Below w.heap.size w wr) (fun _ iv _ => 13 - (intOf iv).toNat)
  case atStart => exact ⟨0, [], by omega, rfl, OwnL.nil _ _, Below.refl _ _⟩
  case round =>
    obtain ⟨i, vs, hi, rfl, hov, hbel⟩ := hrel
    have HOV := Lib.hid hov
    have HB := Lib.hid hbel
    have hsz := hbel.size
    by_cases hin : i < 13
    · have hinI : (i : Int) < 13 := by omega
      have htl : ((leavesV m).take i).length = i := by rw [List.length_take, HLN.out]; omega
      have HTL := Lib.hid htl
      have HLF := Lib.hid (HL.out i hin wr hbel)
      have htk : (leavesV m).take (i + 1) = (leavesV m).take i ++ [leafV m i] := by
        have hl := HLN.out
        have hg := leavesV_get m i hin
        rw [List.getElem?_eq_getElem (by omega)] at hg
        rw [List.take_succ_eq_append_getElem (by omega), Option.some.inj hg]
      have HTK := Lib.hid htk
      clear hov hbel htl htk
      generalize leafV m i = x at HLF HTK
      go_wp2_with fail
      refine HLF.out.mono ?_
      rintro _ w3 ⟨u0, rfl, hu, hb3⟩
      obtain ⟨Au, cu, hue, _⟩ := own_slice_b hu
      subst hue
      obtain ⟨nu, hnu⟩ : ∃ k, k = x.length := ⟨_, rfl⟩
      rw [← hnu] at hu ⊢
      obtain ⟨u, hu0⟩ : ∃ u, u = Value.slice Au nu cu := ⟨_, rfl⟩
      rw [← hu0] at hu
      have HU := Lib.hid (hu.more hsz)
      have HB3 := Lib.hid hb3
      have hs3 := hb3.size
      have hr3 := reads_cells w3 #[u] 22
      have HR3 := Lib.hid hr3
      have HU0 := Lib.hid hu0
      have HW := Lib.hid (show (w3.alloc (.cells #[u] 22)).ownsRow w.heap.size 22 1 _ i vs from by
        have := (rowD_keep HOV.out.row (w' := w3) fun b hb'' => hb3.block b (rowD_lt HOV.out.row hb'').2).alloc (.cells #[u] 22)
        rw [HTL.out] at this
        exact this)
      rw [hu0] at HW HR3
      clear hu hb3 hr3 HLF hnu hu0
      go_wp2_with (at_builtin; go_must (refine wpList_append_any _ rfl (.tmp 10) (.tmp 14) 23 rfl w.heap.size 22 i0 _ 1 24 Tryz.underlying23 hi0 hz0 hz1 hz2 rfl (by omega) _ i vs rfl HW.out (w3.heap.size + 1) (some ⟨w3.heap.size, 0, none⟩) 1 1 [.slice Au nu cu] rfl HR3.out ?c1 ?c2 ?c3 ?c4 ?_))
      case c1 => intro z hz; rw [List.mem_singleton] at hz; subst hz; rfl
      case c2 => unfold maxLen; omega
      case c3 => omega
      case c4 => simp; omega
      intro v6 w6 hown6 hg6 hor6
      rw [← HU0.out] at hown6 hg6
      have ho6 : OwnL w6 w.heap.size v6 ((leavesV m).take (i + 1)) (vs ++ [u]) := by
        rw [HTK.out]
        exact HOV.out.push HB3.out HU.out (by rw [HTL.out]; exact hown6) hg6
      have hb6 : Below w.heap.size w w6 := grown_below ((HB.out.trans (HB3.out.mono hsz)).trans ((below_lit w3 (.cells #[u] 22)).mono (by omega))) (by simp; omega) hg6 (fun b hb => (rowD_lt HOV.out.row hb).1)
      have HO6 := Lib.hid ho6
      have HB6 := Lib.hid hb6
      clear hown6 hg6 hor6 ho6 hb6
      go_wp2_with fail
      go_roundw
      case rel => exact ⟨i + 1, _, by omega, by go_num, HO6.out, HB6.out⟩
      case measure => simp [intOf]; omega
    · obtain rfl : i = 13 := by omega
      have hinI : ¬ (13 : Int) < 13 := by omega
      have he : (leavesV m).take 13 = leavesV m := List.take_of_length_le (by rw [HLN.out]; omega)
      rw [he] at HOV
      clear hov hbel he
      go_wp2_with fail
      go_ret
      exact ⟨_, _, rfl, HOV.out, HB.out⟩

set_option maxRecDepth 100000 in
set_option maxHeartbeats 4000000 in
theorem sameLeaves_any (A A' : Option Addr) (n c n' c' : Nat) (xss yss : List (List UInt8)) (w : World) (B : Nat) (hx : RowsB w B A n xss) (hy : RowsB w B A' n' yss) (hB : B ≤ w.heap.size) (hn : n ≤ 1000000) (hn' : n' ≤ 1000000) (hlx : ∀ x, x ∈ xss → x.length ≤ maxLen) (hly : ∀ x, x ∈ yss → x.length ≤ maxLen) :
    Calls Tryz.prog 16 #[.slice A n c, .slice A' n' c'] w fun e w' => e = .returned (.bool (decide (xss = yss))) ∧ Below w.heap.size w w' := by
  have hxl := hx.1
  have hyl := hy.1
  by_cases hnn : n = n'
  · subst hnn
    have hne : ((n : Int) != (n : Int)) = false := by simp
    have HX := Lib.hid hx
    have HY := Lib.hid hy
    have HLX := Lib.hid hlx
    have HLY := Lib.hid hly
    have HXL := Lib.hid hxl
    have HYL := Lib.hid hyl
    clear hx hy hlx hly hxl hyl
    go_enter Tryz.func16, Tryz.ntmps16
    go_wp2_with fail
    go_loopw [5] (fun iv wr => ∃ i : Nat, i ≤ n ∧ iv = .int .i64 i ∧ xss.take i = yss.take i ∧ Below w.heap.size w wr) (fun iv _ => n - (intOf iv).toNat)
    case atStart => exact ⟨0, by omega, rfl, by simp, Below.refl _ _⟩
    case round =>
      obtain ⟨i, hi, rfl, heq, hbel⟩ := hrel
      have HE := Lib.hid heq
      have HB := Lib.hid hbel
      have hsz := hbel.size
      clear heq
      by_cases hin : i < n
      · have hinI : (i : Int) < (n : Int) := by omega
        have h0I : (0 : Int) ≤ (i : Int) := by omega
        have hix : i < xss.length := by have := HXL.out; omega
        have hiy : i < yss.length := by have := HYL.out; omega
        obtain ⟨ad, rfl, hb1, hc1⟩ := HX.out.2 (by omega)
        obtain ⟨bd, rfl, hb2, hc2⟩ := HY.out.2 (by omega)
        obtain ⟨Ak, mk, ck, q1, q2⟩ := hc1 i _ (List.getElem?_eq_getElem hix)
        obtain ⟨Bk, lk, dk, r1, r2⟩ := hc2 i _ (List.getElem?_eq_getElem hiy)
        have hmk : mk ≤ maxLen := by have := HLX.out _ (List.getElem_mem hix); have := q2.1; simp at this; omega
        have hlk : lk ≤ maxLen := by have := HLY.out _ (List.getElem_mem hiy); have := r2.1; simp at this; omega
        have C1 := Lib.hid (fun (W : World) (hb : Below wr.heap.size wr W) => ((hbel.trans (hb.mono hsz)).cell (show (ad.add i).block < w.heap.size by rw [block_of_add]; omega)).trans q1)
        have C2 := Lib.hid (fun (W : World) (hb : Below wr.heap.size wr W) => ((hbel.trans (hb.mono hsz)).cell (show (bd.add i).block < w.heap.size by rw [block_of_add]; omega)).trans r1)
        have hEq := fun (W : World) (hb : Below wr.heap.size wr W) => eqBytes_any Ak Bk mk lk ck dk xss[i] yss[i] W B B (q2.below ((hbel.trans (hb.mono hsz)).mono hB)) (r2.below ((hbel.trans (hb.mono hsz)).mono hB)) hmk hlk
        have hnx : ∀ (b : Bool), decide (xss[i] = yss[i]) = b → ∀ (W : World) (hb : Below wr.heap.size wr W), Calls Tryz.prog 15 #[.slice Ak mk ck, .slice Bk lk dk] W fun e w' => e = .returned (.bool b) ∧ Below W.heap.size W w' := fun b he W hb => (hEq W hb).mono fun e w' ⟨h1, k, h2⟩ => ⟨by rw [h1, he], by rw [h2]; exact below_drewN (Below.refl _ _) k⟩
        have HNX := Lib.hid hnx
        clear hbel hc1 hc2 q1 q2 r1 r2 hEq hnx
        go_upto_region 6 with fail
        by_cases hq : xss[i] = yss[i]
        · have HQ := Lib.hid hq
          have HCE := Lib.hid (HNX.out true (by rw [decide_eq_true hq]))
          clear hq
          refine wp_region_calm0 9 27 (by kernel_rfl) (by kernel_rfl) (by kernel_rfl) (by simp) ?_
          simp only [List.take_succ_cons, List.take_zero, List.drop_succ_cons, List.drop_zero]
          refine wpCalm_value rfl rfl (.slice (some ad) n c) (fun W _ => rfl) ?_
          try simp only [Act.put, List.setIfInBounds_toArray, List.set_cons_zero, List.set_cons_succ]
          refine wpCalm_value rfl rfl (.int .i64 (i : Int)) (fun W _ => rfl) ?_
          try simp only [Act.put, List.setIfInBounds_toArray, List.set_cons_zero, List.set_cons_succ]
          refine wpCalm_value rfl rfl (.pointer (some (ad.add i))) (fun W _ => by go_simp) ?_
          try simp only [Act.put, List.setIfInBounds_toArray, List.set_cons_zero, List.set_cons_succ]
          refine wpCalm_below rfl rfl (.slice Ak mk ck) (fun W hb => by have := C1.out W hb; go_simp) ?_
          try simp only [Act.put, List.setIfInBounds_toArray, List.set_cons_zero, List.set_cons_succ]
          refine wpCalm_value rfl rfl (.slice (some bd) n c') (fun W _ => rfl) ?_
          try simp only [Act.put, List.setIfInBounds_toArray, List.set_cons_zero, List.set_cons_succ]
          refine wpCalm_value rfl rfl (.int .i64 (i : Int)) (fun W _ => rfl) ?_
          try simp only [Act.put, List.setIfInBounds_toArray, List.set_cons_zero, List.set_cons_succ]
          refine wpCalm_value rfl rfl (.pointer (some (bd.add i))) (fun W _ => by go_simp) ?_
          try simp only [Act.put, List.setIfInBounds_toArray, List.set_cons_zero, List.set_cons_succ]
          refine wpCalm_below rfl rfl (.slice Bk lk dk) (fun W hb => by have := C2.out W hb; go_simp) ?_
          try simp only [Act.put, List.setIfInBounds_toArray, List.set_cons_zero, List.set_cons_succ]
          refine wpCalm_call rfl rfl 15 #[.slice Ak mk ck, .slice Bk lk dk] (fun W => by go_simp) (.bool true) (fun W hb => HCE.out W hb) ?_
          try simp only [Act.put, List.setIfInBounds_toArray, List.set_cons_zero, List.set_cons_succ]
          refine wpCalm_nil ?_
          intro w2 hb2
          have HB2 := Lib.hid (HB.out.trans (hb2.mono hsz))
          clear hb2
          go_wp2_with fail
          go_roundw
          case rel => exact ⟨i + 1, by omega, by go_num, by rw [List.take_succ_eq_append_getElem hix, List.take_succ_eq_append_getElem hiy, HE.out, HQ.out], HB2.out⟩
          case measure => simp [intOf]; omega
        · have HQ := Lib.hid hq
          have HCE := Lib.hid (HNX.out false (by rw [decide_eq_false hq]))
          clear hq
          refine wp_region_calm0 9 27 (by kernel_rfl) (by kernel_rfl) (by kernel_rfl) (by simp) ?_
          simp only [List.take_succ_cons, List.take_zero, List.drop_succ_cons, List.drop_zero]
          refine wpCalm_value rfl rfl (.slice (some ad) n c) (fun W _ => rfl) ?_
          try simp only [Act.put, List.setIfInBounds_toArray, List.set_cons_zero, List.set_cons_succ]
          refine wpCalm_value rfl rfl (.int .i64 (i : Int)) (fun W _ => rfl) ?_
          try simp only [Act.put, List.setIfInBounds_toArray, List.set_cons_zero, List.set_cons_succ]
          refine wpCalm_value rfl rfl (.pointer (some (ad.add i))) (fun W _ => by go_simp) ?_
          try simp only [Act.put, List.setIfInBounds_toArray, List.set_cons_zero, List.set_cons_succ]
          refine wpCalm_below rfl rfl (.slice Ak mk ck) (fun W hb => by have := C1.out W hb; go_simp) ?_
          try simp only [Act.put, List.setIfInBounds_toArray, List.set_cons_zero, List.set_cons_succ]
          refine wpCalm_value rfl rfl (.slice (some bd) n c') (fun W _ => rfl) ?_
          try simp only [Act.put, List.setIfInBounds_toArray, List.set_cons_zero, List.set_cons_succ]
          refine wpCalm_value rfl rfl (.int .i64 (i : Int)) (fun W _ => rfl) ?_
          try simp only [Act.put, List.setIfInBounds_toArray, List.set_cons_zero, List.set_cons_succ]
          refine wpCalm_value rfl rfl (.pointer (some (bd.add i))) (fun W _ => by go_simp) ?_
          try simp only [Act.put, List.setIfInBounds_toArray, List.set_cons_zero, List.set_cons_succ]
          refine wpCalm_below rfl rfl (.slice Bk lk dk) (fun W hb => by have := C2.out W hb; go_simp) ?_
          try simp only [Act.put, List.setIfInBounds_toArray, List.set_cons_zero, List.set_cons_succ]
          refine wpCalm_call rfl rfl 15 #[.slice Ak mk ck, .slice Bk lk dk] (fun W => by go_simp) (.bool false) (fun W hb => HCE.out W hb) ?_
          try simp only [Act.put, List.setIfInBounds_toArray, List.set_cons_zero, List.set_cons_succ]
          refine wpCalm_nil ?_
          intro w2 hb2
          have HB2 := Lib.hid (HB.out.trans (hb2.mono hsz))
          clear hb2
          go_wp2_with fail
          go_ret
          refine ⟨ret_bool ?_, HB2.out⟩
          symm
          rw [decide_eq_false_iff_not]
          rintro rfl
          exact HQ.out rfl
      · obtain rfl : i = n := by omega
        have hinI : ¬ (i : Int) < (i : Int) := by omega
        clear hbel
        go_wp2_with fail
        go_ret
        refine ⟨ret_bool ?_, HB.out⟩
        symm
        rw [decide_eq_true_iff]
        have h1 := HE.out
        rwa [List.take_of_length_le (by have := HXL.out; omega), List.take_of_length_le (by have := HYL.out; omega)] at h1
  · have hne : ((n : Int) != (n' : Int)) = true := by rw [bne_iff_ne]; omega
    have HN := Lib.hid (show xss ≠ yss by rintro rfl; omega)
    clear hnn hx hy hxl hyl hlx hly
    go_enter Tryz.func16, Tryz.ntmps16
    go_wp2_with fail
    go_ret
    exact ⟨ret_bool (by symm; rw [decide_eq_false_iff_not]; exact HN.out), Below.refl _ _⟩

end Go.Proofs.YtlaodmmjhjpfmaaGreat

/- Contract of vault.sealing (the parse): what the last leaf says. -/
namespace Go.Proofs.YtlaodmmjhjpfmaaGreat
set_option linter.unusedVariables false
open Go.RowKit Go.Maps

attribute [local irreducible] wpList wpCalm
def nI (l : List Nat) : List Int := l.map (fun n : Nat => (n : Int))
theorem nI_len (l : List Nat) : (nI l).length = l.length := by simp [nI]
theorem OwnN.nil_ (w : World) (B : Nat) : OwnN w B (.slice none 0 0) [] := ⟨by simp, .inl ⟨rfl, by simp⟩⟩
theorem OwnN.keep_ {w w' : World} {B : Nat} {v : Value} {xs : List Int} (h : OwnN w B v xs) (hk : ∀ b, v.ownBlock = some b → w'.heap[b]? = w.heap[b]?) : OwnN w' B v xs := rowD_keep h hk
theorem OwnN.below_ {w w' : World} {B : Nat} {v : Value} {xs : List Int} (h : OwnN w B v xs) (hb : Below w.heap.size w w') : OwnN w' B v xs := h.keep_ fun b hb' => hb.block b (rowD_lt h hb').2
/-- how far the parse has come -/
structure PsSt (w : World) (xs : List UInt8) (n0 : Nat) (A : Option Addr) (n c : Nat) (lv : Value) (rest : List UInt8) (done : List Nat) (wr : World) : Prop where
  rd : Reads wr wr.heap.size 1 A n (rest.map vb)
  cap : n ≤ c
  own : OwnN wr w.heap.size lv (nI done)
  len : done.length + n ≤ n0
  num : numsV xs = (numsV rest).map (fun l => done ++ l)
  max : ∀ x, x ∈ done → x ≤ maxN
  low : Below w.heap.size w wr
def parseWish (g : Nat) (l : List Int) : Wish := ⟨0, 0, (g : Int), 0, 5, 0, [], 0, 0, l⟩
theorem parseWish_may {g : Nat} (h1 : 1 ≤ g) (h2 : g ≤ 2) (l : List Int) : mayB (parseWish g l) = crewB l := by
  rw [Bool.eq_iff_iff]
  unfold mayB
  rw [decide_eq_true_eq]
  unfold MayP
  constructor
  · rintro ⟨_, _, h | h⟩
    · exact h.2.2.2.2.2.2.2.2.2
    · exact absurd rfl h.1
  · intro h
    exact ⟨show (0 : Int) ≤ 0 by decide, show (0 : Int) ≤ 1048576 by decide, .inl ⟨rfl, rfl, rfl, rfl, rfl, rfl, rfl, by show (1 : Int) ≤ (g : Int); omega, by show (g : Int) ≤ 2; omega, h⟩⟩

end Go.Proofs.YtlaodmmjhjpfmaaGreat

/- Contract of crew.Replace. -/
namespace Go.Proofs.YtlaodmmjhjpfmaaGreat
set_option linter.unusedVariables false
set_option linter.unusedSimpArgs false
open Go.RowKit Go.Maps

attribute [local irreducible] wpList wpCalm
theorem OwnN.ge_ {w : World} {B b : Nat} {v : Value} {xs : List Int} (h : OwnN w B v xs) (hb : v.ownBlock = some b) : B ≤ b := by
  rcases h.2 with ⟨rfl, _⟩ | ⟨g, cap, cur, rfl, hg, _⟩
  · cases hb
  · have : b = g := by simpa [Value.ownBlock] using hb.symm
    omega
theorem loud_exec {P : Program} {ops : Array Oper} {o : Oper} {a : Act} {w : World} {R : World → World → Prop} {J : World → Prop} {p : World → Value → Prop} (hw : Region.wanted o (yielded ops a.tmps) = true) (v : Value) (w' : World) (he : (execOp a.eval o).run P w = .ok (.value v) w') (hR : R w w') (hJ : J w') (hp : p w' v) : LoudOp P ops o a w R J p := fun K Q' hK => by
  rw [if_pos hw]
  unfold Oper.wp
  rw [he]
  exact hK v w' hR hJ hp
theorem exec_append {P : Program} {o : Oper} {a : Act} {w w' : World} {s x : Operand} {t : TypeId} {v vs vx : Value} (ho : o.op = .call { callee := .builtin .append, args := #[s, x], argTypes := #[t, t] }) (hs : a.eval s = vs) (hx : a.eval x = vx) (hrun : (Builtin.append_ #[t, t] o.type #[vs, vx]).run P w = .ok v w') : (execOp a.eval o).run P w = .ok (.value v) w' := by
  unfold execOp
  simp only [ho, resolve, invoke, builtin, Sem.run_bind, Sem.run_pure, Result.andThen_ok, List.map_toArray, List.map_cons, List.map_nil, hs, hx, hrun]
/-- one number more at a row's end, in place -/
def PutAt (l : List Int) (z : Int) (w w' : World) : Prop := ∃ g cap y, RowN w g cap (l ++ [y]) ∧ w' = w.setCell ⟨g, l.length, none⟩ (.int .i64 z)
theorem RowN.put {w w' : World} {g cap : Nat} {l : List Int} {y z : Int} (h : RowN w g cap (l ++ [y])) (hp : PutAt l z w w') : ∃ y', RowN w' g cap (l ++ [y']) := by
  obtain ⟨g', cap', y', hr, rfl⟩ := hp
  by_cases e : g' = g
  · subst e
    have := h.set_ (i := l.length) (by simp) z
    rw [List.set_append, if_neg (by omega), Nat.sub_self] at this
    exact ⟨z, this⟩
  · exact ⟨y, h.keep (Below.heap_setCell w ⟨g', l.length, none⟩ (.int .i64 z) g (fun q => e q.symm))⟩
theorem one_put {w w' : World} {g : Nat} {l : List Int} {z : Int} (h : Blk w g 3 #[.int .i64 z]) (hp : PutAt l z w w') : Blk w' g 3 #[.int .i64 z] := by
  obtain ⟨g', cap', y', hr, rfl⟩ := hp
  by_cases e : g' = g
  · subst e
    obtain ⟨cur, h1, h2, h3⟩ := hr.row
    have hc : cur = #[.int .i64 z] := by
      unfold Blk at h h1
      rw [h] at h1
      injection h1 with h1
      injection h1 with h1
      exact h1.symm
    have hl := hr.cap.1
    have hcs : cur.size = 1 := by rw [hc]; rfl
    rw [List.length_append, List.length_singleton] at hl
    have hl0 : l.length = 0 := by omega
    rw [hl0]
    exact h.set_ 0 (.int .i64 z)
  · exact Below.heap_setCell w ⟨g', l.length, none⟩ (.int .i64 z) g (fun q => e q.symm) |>.trans h
theorem RowN.putz {w w' : World} {g cap : Nat} {l : List Int} {z : Int} (h : RowN w g cap (l ++ [z])) (hp : PutAt l z w w') : RowN w' g cap (l ++ [z]) := by
  obtain ⟨g', cap', y', hr, rfl⟩ := hp
  by_cases e : g' = g
  · subst e
    have := h.set_ (i := l.length) (by simp) z
    rw [List.set_append, if_neg (by omega), Nat.sub_self] at this
    exact this
  · exact h.keep (Below.heap_setCell w ⟨g', l.length, none⟩ (.int .i64 z) g (fun q => e q.symm))
theorem own_put {w w' : World} {B : Nat} {v : Value} {l : List Int} {z : Int} (hz : ¬ z ∈ l) (h : OwnN w B v (insL z l)) (hp : PutAt l z w w') : OwnN w' B v (insL z l) := by
  obtain ⟨g, cap, rfl, hB, hr⟩ := RowN.of_own h (by rw [insL_len]; omega)
  obtain ⟨g', cap', y', hr', rfl⟩ := hp
  by_cases e : g' = g
  · subst e
    obtain ⟨cur, h1, h2, h3⟩ := hr.row
    obtain ⟨cur', k1, k2, k3⟩ := hr'.row
    have hc : cur' = cur := by
      unfold Blk at h1 k1
      rw [h1] at k1
      injection k1 with k1
      injection k1 with k1
      exact k1.symm
    subst hc
    have hl : (insL z l).length = (l ++ [y']).length := by rw [insL_len]; simp
    rw [hl, k3] at h3
    have he : l ++ [y'] = insL z l := (List.map_inj_right (fun a b q => by simpa [vn] using q)).1 h3
    have hm : z ∈ l ++ [y'] := by rw [he]; exact (insL_mem z z l).2 (.inl rfl)
    have hzy : z = y' := by
      rcases List.mem_append.1 hm with q | q
      · exact absurd q hz
      · exact List.mem_singleton.1 q
    have := hr'.set_ (i := l.length) (by simp) z
    rw [List.set_append, if_neg (by omega), Nat.sub_self] at this
    have h5 : RowN (w.setCell ⟨g', l.length, none⟩ (.int .i64 z)) g' cap (insL z l) := by
      rw [← he, ← hzy]
      obtain ⟨c3, q1, q2, q3⟩ := this.row
      exact ⟨⟨c3, q1, by omega, q3⟩, by have := hr.cap; rw [← he, ← hzy] at this; exact this⟩
    exact h5.own hB
  · exact (hr.keep (Below.heap_setCell w ⟨g', l.length, none⟩ (.int .i64 z) g (fun q => e q.symm))).own hB
/-- Replace's last statement under way -/
structure RpSt (w4 : World) (g6 f n : Nat) (r : List Int) (s : Nat) (W : World) : Prop where
  only : Only (fun b => b = g6) w4 W
  zero : s ≤ 1 → Blk W g6 57 (crC 0 none 0 0)
  done : s = 2 → ∃ A' c', Blk W g6 57 (crC f A' n c') ∧ OwnN W w4.heap.size (.slice A' n c') r
theorem RpSt.below {w4 W W' : World} {g6 f n s : Nat} {r : List Int} (h : RpSt w4 g6 f n r s W) (hb : Below W.heap.size W W') : RpSt w4 g6 f n r s W' :=
  ⟨h.only.trans (Only.of_below hb), fun e => (h.zero e).below' hb, fun e => by
    obtain ⟨A', c', h1, h2⟩ := h.done e
    exact ⟨A', c', h1.below' hb, h2.below_ hb⟩⟩
theorem RpSt.put {w4 W : World} {g6 f n s q k : Nat} {v : Value} {r : List Int} (h : RpSt w4 g6 f n r s W) (hq : w4.heap.size ≤ q) (hg : g6 < w4.heap.size) (hs : s = 0) : RpSt w4 g6 f n r (s + 1) (W.setCell ⟨q, k, none⟩ v) := by
  subst hs
  have ht := Turned.setCell W ⟨q, k, none⟩ v
  refine ⟨?_, fun _ => (ht.block g6 (fun e => by have e' : g6 = q := e; omega)).trans (h.zero (by omega)), fun e => by omega⟩
  have ho := h.only
  exact ⟨ho.os, ho.tape, ho.output, by simpa [World.setCell] using ho.size, fun i hi hn => (ht.block i (fun e => by have e' : i = q := e; omega)).trans (ho.block i hi hn)⟩
def goodR (l : List Int) (o n : Int) : Prop := o ∈ l ∧ ¬ n ∈ l ∧ 1 ≤ n ∧ n ≤ 28
def ReplPost (w : World) (f : Nat) (l : List Int) (o n : Int) (e : Ending) (w' : World) : Prop :=
  Below w.heap.size w w' ∧ (goodR l o n → ∃ A' k' c', e = .returned (.tuple #[.agg (crC f A' k' c'), .int .i64 0]) ∧ OwnN w' w.heap.size (.slice A' k' c') (replL l o n)) ∧ (¬ goodR l o n → ∃ er : Nat, er ≠ 0 ∧ e = .returned (.tuple #[.agg (crC 0 none 0 0), .int .i64 (er : Int)]))

set_option maxRecDepth 100000 in
set_option maxHeartbeats 1000000 in
theorem crReplace_any (f : Nat) (A : Option Addr) (n c : Nat) (l : List Int) (o z : Int) (w : World) (h : Reads w w.heap.size 1 A n (l.map vn)) (hok : OkC f l) :
    Calls Tryz.prog 83 #[.agg (crC f A n c), .int .i64 o, .int .i64 z] w (ReplPost w f l o z) := by
  have hzn : l.length = n := by have := h.1; simpa using this
  have hs := hok.short
  have hn7 : n ≤ 1000000 := by omega
  have hX := ((Below.refl w.heap.size w).alloc (Nat.le_refl _) (.cells (crC f A n c) 57)).alloc (by simp) (.cells (crC 0 none 0 0) 57)
  have HK := Lib.hid ((Blk.newAt rfl : Blk (w.alloc (.cells (crC f A n c) 57)) w.heap.size 57 (crC f A n c)).alloc (.cells (crC 0 none 0 0) 57))
  have HO := Lib.hid (Blk.newAt (by simp) : Blk ((w.alloc (.cells (crC f A n c) 57)).alloc (.cells (crC 0 none 0 0) 57)) (w.heap.size + 1) 57 (crC 0 none 0 0))
  have hr1 := h.below hX
  have hs1 : ((w.alloc (.cells (crC f A n c) 57)).alloc (.cells (crC 0 none 0 0) 57)).heap.size = w.heap.size + 2 := by simp
  have HC := Lib.hid (crCheck_any f A n c l _ (hr1.more hX.size) (by omega))
  rw [okCB_of hok, if_pos rfl] at HC
  have HX := Lib.hid hX
  have HR1 := Lib.hid hr1
  have HOK := Lib.hid hok
  have HZN := Lib.hid hzn
  obtain ⟨D, hD⟩ : ∃ D, D = crC f A n c := ⟨_, rfl⟩
  have hsz : D.size = 2 := by rw [hD]; rfl
  have c1 : D[0]? = some (.int .i64 (f : Int)) := by rw [hD]; rfl
  rw [← hD] at HX HK HO HC HR1 hs1 ⊢
  have C0 := Lib.hid c1
  have HDD := Lib.hid hD
  have HS1 := Lib.hid hs1
  clear h hr1 hok hX hzn hD c1 hs1
  obtain ⟨g, hg⟩ : ∃ g, g = w.heap.size := ⟨_, rfl⟩
  obtain ⟨g6, hg6⟩ : ∃ g, g = w.heap.size + 1 := ⟨_, rfl⟩
  go_enter Tryz.func83, Tryz.ntmps83
  go_upto_region 1 with fail
  rw [← crZ]
  generalize World.alloc (World.alloc w _) _ = w1 at HX HK HO HC HR1 HS1 ⊢
  rw [← hg6] at HO ⊢
  rw [← hg] at HK ⊢
  have hs1 := HS1.out
  have hgl : g < w1.heap.size := by omega
  have hgl6 : g6 < w1.heap.size := by omega
  have hgg : g ≠ g6 := by omega
  have hgw : w.heap.size ≤ g := by omega
  have hgw6 : w.heap.size ≤ g6 := by omega
  clear HS1 hs1 hg hg6
  go_wp2_with (refine wpList_load_part (o := ⟨some 9, _, _, _, _, _⟩) rfl 57 (.tmp 3) rfl g 0 2 rfl 57 _ D _ HK.out Tryz.underlying57 rfl rfl hsz (fun _ _ => by rw [Nat.zero_add]; try rfl) ?_)
  refine HC.out.mono ?_
  rintro _ w2 ⟨rfl, hb2⟩
  have hs2 := hb2.size
  have hx := HX.out.size
  have HB2 := Lib.hid (HX.out.trans (hb2.mono hx))
  have HK2 := Lib.hid (HK.out.below' hb2)
  have HO2 := Lib.hid (HO.out.below' hb2)
  have HR2 := Lib.hid (HR1.out.below (hb2.mono hx))
  clear hb2 HC HX HK HO HR1
  have HNO := Lib.hid (node_any z w2)
  by_cases hnode : 1 ≤ z ∧ z ≤ 28
  · rw [decide_eq_true hnode] at HNO
    have hs12 := HB2.out.size
    have HH := Lib.hid (crHas_any f A n c l o w2 (HR2.out.more hs12) HOK.out)
    rw [← HDD.out] at HH
    go_wp2_with fail
    refine HNO.out.mono ?_
    rintro _ _ ⟨rfl, rfl⟩
    go_wp2_with (refine wpList_load_part (o := ⟨some 21, _, _, _, _, _⟩) rfl 57 (.tmp 3) rfl g 0 2 rfl 57 _ D _ HK2.out Tryz.underlying57 rfl rfl hsz (fun _ _ => by rw [Nat.zero_add]; try rfl) ?_)
    refine HH.out.mono ?_
    rintro _ w3 ⟨rfl, hb3⟩
    have hs3 := hb3.size
    have HB3 := Lib.hid (HB2.out.trans (hb3.mono hs12))
    have HK3 := Lib.hid (HK2.out.below' hb3)
    have HO3 := Lib.hid (HO2.out.below' hb3)
    have HR3 := Lib.hid (HR2.out.below (hb3.mono hs12))
    clear hb3 HH HB2 HK2 HO2 HR2 HNO
    by_cases hin : o ∈ l
    · have hs13 := HB3.out.size
      have HH := Lib.hid (crHas_any f A n c l z w3 (HR3.out.more hs13) HOK.out)
      rw [← HDD.out] at HH
      rw [decide_eq_true hin]
      go_wp2_with (first
        | (refine wpList_load_part (o := ⟨some 26, _, _, _, _, _⟩) rfl 57 (.tmp 3) rfl g 0 2 rfl 57 _ D _ HK3.out Tryz.underlying57 rfl rfl hsz (fun _ _ => by rw [Nat.zero_add]; try rfl) ?_)
        | (refine wpList_load_guarded (o := ⟨some 26, _, _, _, _, _⟩) rfl 57 (.tmp 3) rfl g 0 2 rfl 57 _ D _ HK3.out Tryz.underlying57 rfl rfl hsz (fun _ _ => by rw [Nat.zero_add]; try rfl) ?_))
      refine HH.out.mono ?_
      rintro _ w4 ⟨rfl, hb4⟩
      have hs4 := hb4.size
      have HB4 := Lib.hid (HB3.out.trans (hb4.mono hs13))
      have HK4 := Lib.hid (HK3.out.below' hb4)
      have HO4 := Lib.hid (HO3.out.below' hb4)
      have HR4 := Lib.hid (HR3.out.below (hb4.mono hs13))
      clear hb4 HH HB3 HK3 HO3 HR3
      by_cases hzin : z ∈ l
      · rw [decide_eq_true hzin]
        have hbad : ¬ goodR l o z := fun h => h.2.1 hzin
        go_wp2_with (refine wpList_store_part (o := ⟨none, _, _, _, _, _⟩) rfl 57 (.tmp 6) (.tmp 30) rfl g6 0 (crC 0 none 0 0) rfl rfl 57 _ HO4.out (crC_info _ _ _ _) (by simp [crC]) (crC_one _ _ _ _) ?_; intro w7 hT7 hD7; rw [crC_spl] at hD7)
        refine bodyPost_ret (results_part2 rfl _ _ g6 2 57 _ _ rfl hD7 Tryz.underlying57 rfl rfl rfl) rfl ⟨hT7.below HB4.out hgw6, fun h => absurd h hbad, fun _ => ⟨110, by omega, rfl⟩⟩
      · rw [decide_eq_false hzin]
        have hgood : goodR l o z := ⟨hin, hzin, hnode.1, hnode.2⟩
        go_upto_region 8 with fail
        have hs14 := HB4.out.size
        have HOT := Lib.hid (fun (W : World) (hb : Only (fun b => b = g6) w4 W) => others_any f A n c l o W ((HR4.out.below (hb.below hs14 fun b hb' e => by omega)).more (by have := hb.size; omega)) HOK.out hin)
        rw [← HDD.out] at HOT
        have hbs : ∀ (ty : TypeId) (W : World), True := fun _ _ => trivial
        obtain ⟨i0, hi0, hz0, hz1, hz2⟩ := info_parts ci_info
        have hdl : (dropL l o).length + 1 = n := by have := dropL_len l o HOK.out.pair hin; have := HZN.out; omega
        have hok2 := HOK.out.repl hin hzin hnode.1 hnode.2
        have hpd := dropL_pair o HOK.out.pair
        have hnd : ¬ z ∈ dropL l o := fun hm => hzin (dropL_mem.1 hm).1
        have HOK2 := Lib.hid hok2
        have HPD := Lib.hid hpd
        have HND := Lib.hid hnd
        obtain ⟨dl, hdle⟩ : ∃ dl, dl = dropL l o := ⟨_, rfl⟩
        have HDLE := Lib.hid hdle
        unfold replL at HOK2
        rw [← hdle] at HOT hdl HPD HND HOK2
        obtain ⟨k, hk⟩ : ∃ k, k = dl.length := ⟨_, rfl⟩
        rw [← hk] at HOT hdl
        have HKK := Lib.hid hk
        have HDL := Lib.hid hdl
        clear hok2 hpd hnd hdle hk hdl
        refine wp_region_loud 13 42 (fun jx W v => match jx with
          | 0 => v = .pointer (some ⟨g, 0, none⟩)
          | 1 => v = .int .i64 (f : Int)
          | 2 => v = .agg D
          | 3 => v = .int .i64 o
          | 4 => ∃ g2 cap y, v = .slice (some ⟨g2, 0, none⟩) k cap ∧ w4.heap.size ≤ g2 ∧ RowN W g2 cap (dl ++ [y])
          | 5 => v = .int .i64 z
          | 6 => ∃ g9, v = .slice (some ⟨g9, 0, none⟩) 1 1 ∧ w4.heap.size ≤ g9 ∧ Blk W g9 3 #[.int .i64 z]
          | 7 => ∃ g2 cap, v = .slice (some ⟨g2, 0, none⟩) n cap ∧ w4.heap.size ≤ g2 ∧ RowN W g2 cap (dl ++ [z])
          | 8 => ∃ A' c', v = .tuple #[.agg (crC f A' n c'), .int .i64 0] ∧ OwnN W w4.heap.size (.slice A' n c') (insL z dl)
          | 9 => ∃ A' c', v = .agg (crC f A' n c') ∧ OwnN W w4.heap.size (.slice A' n c') (insL z dl)
          | 10 => v = .int .i64 0
          | 11 => True
          | _ => v = .int .i64 0) (RpSt w4 g6 f n (insL z dl)) (fun W W' => PutAt dl z W W' ∨ Turned g6 W W') [7, 11] [31, 32, 33, 34, 35, 36, 37, 38, 39, 40, 41, 7] (by kernel_rfl) (by kernel_rfl) (by kernel_rfl) (by kernel_rfl) (by simp) (by kernel_rfl) (fun jx => ?last) ?lastR (fun s W W' h1 h2 => h1.below h2) ⟨Only.refl _ _, fun _ => HO4.out, fun h => by omega⟩ ?heads ?_
        case last =>
          match jx with
          | 0 | 1 | 2 | 3 | 5 | 10 | 11 | jx + 12 => exact Lasts.pure _
          | 4 => exact fun W W' v ⟨g2, cap, y, h1, h2, h3⟩ hb => ⟨g2, cap, y, h1, h2, h3.below hb h3.lt⟩
          | 6 => exact fun W W' v ⟨g9, h1, h2, h3⟩ hb => ⟨g9, h1, h2, h3.below' hb⟩
          | 7 => exact fun W W' v ⟨g2, cap, h1, h2, h3⟩ hb => ⟨g2, cap, h1, h2, h3.below hb h3.lt⟩
          | 8 | 9 => exact fun W W' v ⟨A', c', h1, h2⟩ hb => ⟨A', c', h1, h2.below_ hb⟩
        case lastR =>
          intro s jx W W' v hsl hs hj hp hR
          have hg6w : g6 < w4.heap.size := HO4.out.lt
          match jx with
          | 0 | 1 | 2 | 3 | 5 | 10 | 11 | jx + 12 => exact hp
          | 4 =>
            obtain ⟨g2, cap, y, h1, h2, h3⟩ := hp
            rcases hR with hR | hR
            · obtain ⟨y', h4⟩ := h3.put hR
              exact ⟨g2, cap, y', h1, h2, h4⟩
            · exact ⟨g2, cap, y, h1, h2, h3.keep (hR.block g2 (by omega))⟩
          | 6 =>
            obtain ⟨g9, h1, h2, h3⟩ := hp
            rcases hR with hR | hR
            · exact ⟨g9, h1, h2, one_put h3 hR⟩
            · exact ⟨g9, h1, h2, (hR.block g9 (by omega)).trans h3⟩
          | 7 =>
            obtain ⟨g2, cap, h1, h2, h3⟩ := hp
            rcases hR with hR | hR
            · exact ⟨g2, cap, h1, h2, h3.putz hR⟩
            · exact ⟨g2, cap, h1, h2, h3.keep (hR.block g2 (by omega))⟩
          | 8 | 9 =>
            obtain ⟨A', c', h1, h2⟩ := hp
            rcases hR with hR | hR
            · exact ⟨A', c', h1, own_put HND.out h2 hR⟩
            · exact ⟨A', c', h1, h2.keep_ fun b hb => hR.block b (fun e => by have := h2.ge_ hb; omega)⟩
        case heads =>
          simp only [List.take_succ_cons, List.take_zero]
          refine ⟨?_, ?_, ?_, ?_, ?_, ?_, ?_, ?_, ?_, ?_, ?_, ?_, ?_, trivial⟩
          · rw [if_neg (by decide)]
            intro s a W hj hkp hd
            have e0 : a.tmps[3]?.getD undef = .pointer (some ⟨g, 0, none⟩) := hkp.get (by kernel_rfl) rfl
            exact rel_value rfl (.pointer (some ⟨g, 0, none⟩)) (by go_simp) rfl
          · rw [if_neg (by decide)]
            intro s a W hj hkp hd
            have e0 : a.tmps[31]?.getD undef = .pointer (some ⟨g, 0, none⟩) := (hd 0 (by kernel_rfl)).get 31 rfl rfl
            have cc : W.cell? ⟨g, 0, none⟩ = some (.int .i64 (f : Int)) := ((hj.only.blk HK4.out hgg).cell 0).trans C0.out
            exact rel_value rfl (.int .i64 (f : Int)) (by go_simp) rfl
          · rw [if_neg (by decide)]
            intro s a W hj hkp hd
            have e0 : a.eval (.tmp 3) = .pointer (some ⟨g, 0, none⟩) := by have := hkp.at_ (d := 3) (by kernel_rfl); rw [this]; rfl
            exact rel_value rfl (.agg D) (exec_load_part 57 (.tmp 3) rfl g 0 2 e0 57 _ D _ (hj.only.blk HK4.out hgg) Tryz.underlying57 rfl rfl hsz (fun _ _ => by rw [Nat.zero_add])) rfl
          · rw [if_neg (by decide)]
            intro s a W hj hkp hd
            have e0 : a.tmps[1]?.getD undef = .int .i64 o := hkp.get (by kernel_rfl) rfl
            exact rel_value rfl (.int .i64 o) (by go_simp) rfl
          · rw [if_neg (by decide)]
            intro s a W hj hkp hd
            have e0 : a.tmps[33]?.getD undef = .agg D := (hd 2 (by kernel_rfl)).get 33 rfl rfl
            have e1 : a.tmps[34]?.getD undef = .int .i64 o := (hd 3 (by kernel_rfl)).get 34 rfl rfl
            refine rel_call rfl 133 #[.agg D, .int .i64 o] (by go_simp) ((HOT.out W hj.only).mono ?_)
            rintro e w' ⟨v, rfl, ⟨g2, cap, rfl, hg2, hr⟩, hb⟩
            exact ⟨_, rfl, hb, g2, cap, 0, rfl, by have := hj.only.size; omega, hr⟩
          · rw [if_neg (by decide)]
            intro s a W hj hkp hd
            have e0 : a.tmps[2]?.getD undef = .int .i64 z := hkp.get (by kernel_rfl) rfl
            exact rel_value rfl (.int .i64 z) (by go_simp) rfl
          · rw [if_neg (by decide)]
            intro s a W hj hkp hd
            have e0 : a.tmps[36]?.getD undef = .int .i64 z := (hd 5 (by kernel_rfl)).get 36 rfl rfl
            exact rel_exec rfl (.slice (some ⟨W.heap.size, 0, none⟩) 1 1) (W.alloc (.cells #[.int .i64 z] 3)) (by go_simp) (below_lit _ _) ⟨W.heap.size, rfl, hj.only.size, Blk.new W _ _⟩
          · rw [if_pos (by decide)]
            intro s a W hs hj hkp hd
            obtain ⟨g2, cap, y, e35, hg2, hr2⟩ := (hd 4 (by kernel_rfl)).get 35 rfl rfl
            obtain ⟨g9, e37, hg9, hr9⟩ := (hd 6 (by kernel_rfl)).get 37 rfl rfl
            have e35' : a.eval (.tmp 35) = .slice (some ⟨g2, 0, none⟩) k cap := by simpa [Act.eval] using e35
            have e37' : a.eval (.tmp 37) = .slice (some ⟨g9, 0, none⟩) 1 1 := by simpa [Act.eval] using e37
            have hcp := hr2.cap.1
            rw [List.length_append, List.length_singleton, ← HKK.out] at hcp
            have hkn : k + 1 = n := HDL.out
            have hk2 : k < (dl ++ [y]).length := by rw [List.length_append, ← HKK.out]; simp
            have happ : ∀ ty, (Builtin.append_ #[41, 41] ty #[.slice (some ⟨g2, 0, none⟩) k cap, .slice (some ⟨g9, 0, none⟩) 1 1]).run Tryz.prog W = .ok (.slice (some ⟨g2, 0, none⟩) n cap) (W.setCell ⟨g2, k, none⟩ (.int .i64 z)) := fun ty => by
              have := run_append_room_cells (P := Tryz.prog) W 41 ty 3 i0 Tryz.underlying41 hi0 g2 0 k cap ⟨g9, 0, none⟩ 1 1 [.int .i64 z] (by rw [hz1]; rfl) (fun j u hu => by
                match j, hu with
                | 0, hu => rw [← hu]; exact (hr9.cell 0).trans rfl) (fun u hu => by rw [List.mem_singleton.1 hu]; rfl) (by omega) (fun j hj => by
                  obtain rfl : j = 0 := by simpa using hj
                  rw [hz1, Nat.zero_add, Nat.mul_one, Nat.add_zero, hr2.at_ hk2]; rfl) (fun j hj => hr2.frozen _)
              rw [hz1, Nat.zero_add, Nat.mul_one, hkn] at this
              simpa [World.setCells] using this
            have hput : PutAt dl z W (W.setCell ⟨g2, k, none⟩ (.int .i64 z)) := ⟨g2, cap, y, hr2, by rw [← HKK.out]⟩
            have hset := hr2.set_ hk2 z
            rw [List.set_append, if_neg (by rw [← HKK.out]; omega), ← HKK.out, Nat.sub_self] at hset
            exact loud_exec rfl (.slice (some ⟨g2, 0, none⟩) n cap) (W.setCell ⟨g2, k, none⟩ (.int .i64 z)) (exec_append (s := .tmp 35) (x := .tmp 37) rfl e35' e37' (happ _)) (.inl hput) (hj.put (by omega) (by have := HO4.out.lt; omega) (by have := (List.getElem?_eq_some_iff.1 hs).1; simp at this; match s, hs, this with | 0, _, _ => rfl | 1, hs, _ => cases hs)) ⟨g2, cap, rfl, hg2, hset⟩
          · rw [if_neg (by decide)]
            intro s a W hj hkp hd
            have e0 : a.tmps[32]?.getD undef = .int .i64 (f : Int) := (hd 1 (by kernel_rfl)).get 32 rfl rfl
            obtain ⟨g2, cap, e1, hg2, hr2⟩ := (hd 7 (by kernel_rfl)).get 38 rfl rfl
            have hlen : (dl ++ [z]).length = n := by rw [List.length_append, ← HKK.out]; exact HDL.out
            have hrd := hr2.reads
            rw [hlen] at hrd
            refine rel_call rfl 132 #[.int .i64 (f : Int), .slice (some ⟨g2, 0, none⟩) n cap] (by go_simp) ((crMake_any f (some ⟨g2, 0, none⟩) n cap dl z W W.heap.size hrd (Nat.le_refl _) HPD.out HND.out HOK2.out).mono ?_)
            rintro e w' ⟨A', c', rfl, how, hb⟩
            have hln : (insL z dl).length = n := by rw [insL_len, ← HKK.out]; exact HDL.out
            exact ⟨_, rfl, hb, A', c', by rfl, OwnN.more how hj.only.size⟩
          · rw [if_neg (by decide)]
            intro s a W hj hkp hd
            obtain ⟨A', c', e0, how⟩ := (hd 8 (by kernel_rfl)).get 39 rfl rfl
            exact rel_value rfl (.agg (crC f A' n c')) (by go_simp) ⟨A', c', rfl, how⟩
          · rw [if_neg (by decide)]
            intro s a W hj hkp hd
            obtain ⟨A', c', e0, how⟩ := (hd 8 (by kernel_rfl)).get 39 rfl rfl
            exact rel_value rfl (.int .i64 0) (by go_simp) rfl
          · rw [if_pos (by decide)]
            intro s a W hs hj hkp hd
            obtain ⟨A', c', e0, how⟩ := (hd 9 (by kernel_rfl)).get 40 rfl rfl
            have e6 : a.eval (.tmp 6) = .pointer (some ⟨g6, 0, none⟩) := by have := hkp.at_ (d := 6) (by kernel_rfl); rw [this]; rfl
            have e40 : a.eval (.tmp 40) = .agg (crC f A' n c') := by simpa [Act.eval] using e0
            obtain rfl : s = 1 := by
              have := (List.getElem?_eq_some_iff.1 hs).1
              simp at this
              match s, hs, this with
              | 0, hs, _ => cases hs
              | 1, _, _ => rfl
            refine loud_store rfl 57 (.tmp 6) (.tmp 40) rfl g6 0 (crC f A' n c') e6 e40 57 _ (hj.zero (by omega)) (crC_info _ _ _ _) (by simp [crC]) (crC_one _ _ _ _) (fun W' hT hD => ⟨.inr hT, ?_, trivial⟩)
            rw [crC_spl] at hD
            exact ⟨hj.only.trans (Only.of_turned hT rfl), fun h => by omega, fun _ => ⟨A', c', hD, how.keep_ fun b hb => hT.block b (fun e => by have := how.ge_ hb; have := HO4.out.lt; omega)⟩⟩
          · rw [if_neg (by decide)]
            intro s a W hj hkp hd
            have e0 : a.tmps[41]?.getD undef = .int .i64 0 := (hd 10 (by kernel_rfl)).get 41 rfl rfl
            exact rel_value rfl (.int .i64 0) (by go_simp) rfl
        intro fv W hj hd
        have h7 : fv 7 = .int .i64 0 := hd 12 (by omega) _ 7 rfl rfl
        obtain ⟨A', c', hB6, how⟩ := hj.done rfl
        have HBW := Lib.hid (HB4.out.trans (hj.only.below (B := w.heap.size) hs14 fun b hb e => by omega))
        have HRL := Lib.hid (show insL z dl = replL l o z by rw [HDLE.out]; rfl)
        obtain ⟨E, hE⟩ : ∃ E, E = crC f A' n c' := ⟨_, rfl⟩
        have hEs : E.size = 2 := by rw [hE]; rfl
        rw [← hE] at hB6
        have HB6 := Lib.hid hB6
        have HOW := Lib.hid how
        have HE := Lib.hid hE
        simp only [putAll, List.drop_succ_cons, List.drop_nil, List.drop_zero, h7]
        clear hd hj hB6 how h7 HOT HK4 HO4 HR4 hE
        try simp only [Act.put, List.setIfInBounds_toArray, List.set_cons_zero, List.set_cons_succ]
        go_wp2_with fail
        refine bodyPost_ret (results_part2 rfl _ _ g6 2 57 _ _ rfl HB6.out Tryz.underlying57 rfl rfl hEs) rfl ⟨HBW.out, fun _ => ⟨A', n, c', by rw [HE.out]; rfl, ?_⟩, fun h => absurd hgood h⟩
        have ho := HOW.out
        rw [HRL.out] at ho
        exact OwnN.more ho hs14
    · rw [decide_eq_false hin]
      have hbad : ¬ goodR l o z := fun h => hin h.1
      go_wp2_with (refine wpList_store_part (o := ⟨none, _, _, _, _, _⟩) rfl 57 (.tmp 6) (.tmp 30) rfl g6 0 (crC 0 none 0 0) rfl rfl 57 _ HO3.out (crC_info _ _ _ _) (by simp [crC]) (crC_one _ _ _ _) ?_; intro w7 hT7 hD7; rw [crC_spl] at hD7)
      refine bodyPost_ret (results_part2 rfl _ _ g6 2 57 _ _ rfl hD7 Tryz.underlying57 rfl rfl rfl) rfl ⟨hT7.below HB3.out hgw6, fun h => absurd h hbad, fun _ => ⟨110, by omega, rfl⟩⟩
  · rw [decide_eq_false hnode] at HNO
    have hbad : ¬ goodR l o z := fun h => hnode h.2.2
    go_wp2_with fail
    refine HNO.out.mono ?_
    rintro _ _ ⟨rfl, rfl⟩
    go_wp2_with (refine wpList_store_part (o := ⟨none, _, _, _, _, _⟩) rfl 57 (.tmp 6) (.tmp 19) rfl g6 0 (crC 0 none 0 0) rfl rfl 57 _ HO2.out (crC_info _ _ _ _) (by simp [crC]) (crC_one _ _ _ _) ?_; intro w7 hT7 hD7; rw [crC_spl] at hD7)
    refine bodyPost_ret (results_part2 rfl _ _ g6 2 57 _ _ rfl hD7 Tryz.underlying57 rfl rfl rfl) rfl ⟨hT7.below HB2.out hgw6, fun h => absurd h hbad, fun _ => ⟨2, by omega, rfl⟩⟩

end Go.Proofs.YtlaodmmjhjpfmaaGreat

/- An atlas in memory. -/
namespace Go.Proofs.YtlaodmmjhjpfmaaGreat
set_option linter.unusedVariables false
set_option linter.unusedSimpArgs false
open Go.RowKit Go.Maps

structure ALoc where
  g : Nat
  gc : Nat
  T : TreeLoc
  k : Book
/-- what an atlas's calls may turn, of what stays -/
def ALoc.has (V : ALoc) (b : Nat) : Prop := b = V.g ∨ b = V.gc ∨ V.T.mut b ∨ V.k.has b
def ALoc.all (V : ALoc) (b : Nat) : Prop := b = V.g ∨ b = V.gc ∨ V.k.has b ∨ V.T.has b
/-- .. and of all; what N has not may be its own -/
def ALoc.hasN (V : ALoc) (N : Nat → Prop) (b : Nat) : Prop := V.has b ∨ ¬ N b
structure ASl where
  arr : Array Value
  cap : Nat
  fA : Nat → Option Addr
  fC : Nat → Nat
  nA : Nat → Option Addr
  nC : Nat → Nat
  mA : Nat → Option Addr
  mC : Nat → Nat
  lA : Nat → Option Addr
  lC : Nat → Nat
def mvCells : List (Int × Int) → List Value
  | [] => []
  | m :: t => vn m.1 :: vn m.2 :: mvCells t
theorem mvCells_len : ∀ l : List (Int × Int), (mvCells l).length = l.length * 2
  | [] => rfl
  | m :: t => by
    show (mvCells t).length + 2 = (t.length + 1) * 2
    rw [mvCells_len t]; omega
theorem mvCells_app : ∀ (a b : List (Int × Int)), mvCells (a ++ b) = mvCells a ++ mvCells b
  | [], _ => rfl
  | m :: t, b => by
    show vn m.1 :: vn m.2 :: mvCells (t ++ b) = _
    rw [mvCells_app t b]; rfl
theorem mvCells_get : ∀ (l : List (Int × Int)) (i : Nat) (h : i < l.length), (mvCells l)[i * 2]? = some (vn l[i].1) ∧ (mvCells l)[i * 2 + 1]? = some (vn l[i].2)
  | m :: t, 0, _ => ⟨rfl, rfl⟩
  | m :: t, i + 1, h => by
    have := mvCells_get t i (by simpa using h)
    rw [show (i + 1) * 2 = i * 2 + 1 + 1 by omega]
    exact this
def srvC (s : Srv) (S : ASl) (i : Nat) : Array Value := #[.int .i64 (s.f : Int), .slice (S.fA i) s.first.length (S.fC i), .int .i64 (s.f : Int), .slice (S.nA i) s.now.length (S.nC i), .slice (S.mA i) s.moves.length (S.mC i)]
def lastCq (S : ASl) (m : AM) (i : Nat) : Array Value := #[.int .i64 ((lastQ m i).1 : Int), .int .i64 ((lastQ m i).2.err : Int), .slice none 0 0, .int .i64 ((lastQ m i).2.epoch : Int), .slice (S.lA i) (lastQ m i).2.nodes.length (S.lC i)]
def aF (t : Option Addr) (gc : Nat) (m : AM) (S : ASl) (j : Nat) : Value :=
  if j = 0 then .pointer t else if j = 1 then .slice (some ⟨gc, 0, none⟩) m.chunks.length S.cap else (lastCq S m ((j - 2) / 5)).getD ((j - 2) % 5) undef
def aCs (t : Option Addr) (gc : Nat) (m : AM) (S : ASl) : Array Value := rng 22 (aF t gc m S)
theorem aCs_size (t : Option Addr) (gc : Nat) (m : AM) (S : ASl) : (aCs t gc m S).size = 22 := rng_size _ _
theorem aCs_at (t : Option Addr) (gc : Nat) (m : AM) (S : ASl) (j : Nat) (h : j < 22) : (aCs t gc m S)[j]? = some (aF t gc m S j) := rng_get _ _ _ h
theorem aCs_last (t : Option Addr) (gc : Nat) (m : AM) (S : ASl) (i j : Nat) (hi : i < 4) (hj : j < 5) : (aCs t gc m S)[2 + i * 5 + j]? = (lastCq S m i)[j]? := by
  rw [aCs_at _ _ _ _ _ (by omega)]
  unfold aF
  rw [if_neg (by omega), if_neg (by omega), show (2 + i * 5 + j - 2) / 5 = i by omega, show (2 + i * 5 + j - 2) % 5 = j by omega]
  have hs : (lastCq S m i).size = 5 := rfl
  rw [Array.getElem?_eq_getElem (by omega)]
  simp [Array.getD, hs, hj]
def IsMv (S : ASl) (n b : Nat) : Prop := ∃ i a, i < n ∧ S.mA i = some a ∧ a.block = b
/-- an atlas's fields; what is data lies outside N and the rows of moves; these lie outside N -/
structure ADat (w : World) (g gc : Nat) (t : Option Addr) (N : Nat → Prop) (m : AM) (S : ASl) : Prop where
  blk : Blk w g 147 (aCs t gc m S)
  row : Blk w gc 150 S.arr
  cap : S.arr.size = S.cap * 5 ∧ m.chunks.length ≤ S.cap ∧ S.cap ≤ maxLen
  srv : ∀ i s, m.chunks[i]? = some s → ∀ j, j < 5 → S.arr[i * 5 + j]? = (srvC s S i)[j]?
  first : ∀ i s, m.chunks[i]? = some s → FarN w (fun b => N b ∨ IsMv S m.chunks.length b) (S.fA i) (S.fC i) s.first
  now : ∀ i s, m.chunks[i]? = some s → FarN w (fun b => N b ∨ IsMv S m.chunks.length b) (S.nA i) (S.nC i) s.now
  nodes : ∀ i, i < 4 → FarN w (fun b => N b ∨ IsMv S m.chunks.length b) (S.lA i) (S.lC i) (lastQ m i).2.nodes
  mv : ∀ i s, m.chunks[i]? = some s → w.ownsRow 0 153 2 (.slice (S.mA i) s.moves.length (S.mC i)) s.moves.length (mvCells s.moves)
  mvN : ∀ b, IsMv S m.chunks.length b → ¬ N b
  mvap : ∀ i j a b, i < m.chunks.length → j < m.chunks.length → i ≠ j → S.mA i = some a → S.mA j = some b → a.block ≠ b.block
  gN : N g ∧ N gc
  ok : AOk m
theorem ADat.mlt {w : World} {g gc : Nat} {t : Option Addr} {N : Nat → Prop} {m : AM} {S : ASl} (h : ADat w g gc t N m S) {b : Nat} (hb : IsMv S m.chunks.length b) : b < w.heap.size := by
  obtain ⟨i, a, hi, ha, rfl⟩ := hb
  have hm := h.mv i _ (List.getElem?_eq_getElem hi)
  rw [ha] at hm
  exact (rowD_lt hm (b := a.block) (by
    rcases hm.2 with ⟨e, _⟩ | ⟨g', cap', cur', e, _⟩
    · cases e
    · injection e with e1
      injection e1 with e1
      rw [e1]; rfl)).2
theorem ADat.only {w w' : World} {g gc : Nat} {t : Option Addr} {N M : Nat → Prop} {m : AM} {S : ASl} (h : ADat w g gc t N m S) (ho : Only M w w') (hM : ∀ b, M b → N b) (hg : ¬ M g) (hgc : ¬ M gc) : ADat w' g gc t N m S :=
  ⟨ho.blk h.blk hg, ho.blk h.row hgc, h.cap, h.srv, fun i s hs => (h.first i s hs).only ho (fun b hb => .inl (hM b hb)), fun i s hs => (h.now i s hs).only ho (fun b hb => .inl (hM b hb)), fun i hi => (h.nodes i hi).only ho (fun b hb => .inl (hM b hb)), fun i s hs => rowD_keep (h.mv i s hs) (fun b hb => by
    have hi : i < m.chunks.length := (List.getElem?_eq_some_iff.1 hs).1
    have hl := (rowD_lt (h.mv i s hs) hb).2
    refine ho.block b hl fun hmb => ?_
    have hmv : IsMv S m.chunks.length b := by
      rcases (h.mv i s hs).2 with ⟨e, _⟩ | ⟨g', cap', cur', e, _⟩
      · rw [e] at hb; cases hb
      · rw [e] at hb
        injection e with e1
        exact ⟨i, ⟨g', 0, none⟩, hi, e1, by simpa [Value.ownBlock] using hb⟩
    exact h.mvN b hmv (hM b hmb)), h.mvN, h.mvap, h.gN, h.ok⟩
theorem ADat.below {w w' : World} {g gc : Nat} {t : Option Addr} {N : Nat → Prop} {m : AM} {S : ASl} (h : ADat w g gc t N m S) (hb : Below w.heap.size w w') : ADat w' g gc t N m S :=
  h.only (M := fun _ => False) (Only.of_below hb) (fun _ h => h.elim) (fun h => h) (fun h => h)
theorem ADat.mono {w : World} {g gc : Nat} {t : Option Addr} {N N' : Nat → Prop} {m : AM} {S : ASl} (h : ADat w g gc t N m S) (hN : ∀ b, b < w.heap.size → N' b → N b) (hg : N' g ∧ N' gc) : ADat w g gc t N' m S :=
  ⟨h.blk, h.row, h.cap, h.srv, fun i s hs => (h.first i s hs).mono (fun b hb hn => hn.imp (hN b hb) id), fun i s hs => (h.now i s hs).mono (fun b hb hn => hn.imp (hN b hb) id), fun i hi => (h.nodes i hi).mono (fun b hb hn => hn.imp (hN b hb) id), h.mv, fun b hb hn => h.mvN b hb (hN b (h.mlt hb) hn), h.mvap, hg, h.ok⟩
/-- an atlas, its tree, its book -/
structure AAt (w : World) (V : ALoc) (N : Nat → Prop) (m : AM) : Prop where
  dat : ∃ S, ADat w V.g V.gc (some ⟨V.T.t, 0, none⟩) N m S
  tree : TreeAt w V.T V.k (leavesQ m)
  far : V.g ≠ V.gc ∧ ¬ V.T.has V.g ∧ ¬ V.T.has V.gc ∧ ¬ V.k.has V.g ∧ ¬ V.k.has V.gc
  all : ∀ b, V.all b → N b
theorem ADat.lt {w : World} {g gc : Nat} {t : Option Addr} {N : Nat → Prop} {m : AM} {S : ASl} (h : ADat w g gc t N m S) : g < w.heap.size ∧ gc < w.heap.size := ⟨h.blk.lt, h.row.lt⟩
theorem AAt.below {w w' : World} {V : ALoc} {N : Nat → Prop} {m : AM} (h : AAt w V N m) (hb : Below w.heap.size w w') : AAt w' V N m := by
  obtain ⟨S, hd⟩ := h.dat
  exact ⟨⟨S, hd.below hb⟩, h.tree.below hb, h.far, h.all⟩
theorem AAt.mono {w : World} {V : ALoc} {N N' : Nat → Prop} {m : AM} (h : AAt w V N m) (hN : ∀ b, b < w.heap.size → N' b → N b) (hall : ∀ b, V.all b → N' b) : AAt w V N' m := by
  obtain ⟨S, hd⟩ := h.dat
  exact ⟨⟨S, hd.mono hN ⟨hall _ (.inl rfl), hall _ (.inr (.inl rfl))⟩⟩, h.tree, h.far, hall⟩
theorem AAt.ok {w : World} {V : ALoc} {N : Nat → Prop} {m : AM} (h : AAt w V N m) : AOk m := by
  obtain ⟨S, hd⟩ := h.dat; exact hd.ok

end Go.Proofs.YtlaodmmjhjpfmaaGreat

/- Contracts of atlas.nums, (*Atlas).none, the closures of used, used. -/
namespace Go.Proofs.YtlaodmmjhjpfmaaGreat
set_option linter.unusedVariables false
set_option linter.unusedSimpArgs false
open Go.RowKit Go.Maps

attribute [local irreducible] wpList wpCalm
theorem numsI_snoc (l : List Int) (i : Nat) (h : i < l.length) : numsI (l.take (i + 1)) = numsI (l.take i) ++ numB l[i].toNat := by
  unfold numsI
  rw [List.take_succ_eq_append_getElem h, List.flatMap_append]
  simp

set_option maxRecDepth 100000 in
set_option maxHeartbeats 400000 in
theorem anums_any (A : Option Addr) (n c : Nat) (zs : List Int) (w : World) (B : Nat) (h : Reads w B 1 A n (zs.map vn)) (hB : B ≤ w.heap.size) (hz : ∀ z, z ∈ zs → NumI z) (hn : n ≤ 1000) :
    Calls Tryz.prog 139 #[.slice A n c] w fun e w' => ∃ v, e = .returned v ∧ OwnB w' w.heap.size v (numsI zs) ∧ Below w.heap.size w w' := by
  have hzn : zs.length = n := by have := h.1; simpa using this
  have H := Lib.hid h
  have HZN := Lib.hid hzn
  have HZ := Lib.hid hz
  obtain ⟨i0, hi0, hz0, hz1, hz2⟩ := info_parts u8_info
  clear h hzn hz
  go_enter Tryz.func139, Tryz.ntmps139
  go_wp2_with fail
  go_loopw [3, 10] (fun ov iv wr => ∃ i : Nat, i ≤ n ∧ iv = .int .i64 (i : Int) ∧ OwnB wr w.heap.size ov (numsI (zs.take i)) ∧ Below w.heap.size w wr) (fun _ iv _ => n - (intOf iv).toNat)
  case atStart => exact ⟨0, by omega, rfl, OwnB.nil _ _, Below.refl _ _⟩
  case round =>
    obtain ⟨i, hi, rfl, hov, hbel⟩ := hrel
    have HOV := Lib.hid hov
    have HB := Lib.hid hbel
    have hsz := hbel.size
    clear hov hbel
    by_cases hin : i < n
    · have hinI : (i : Int) < (n : Int) := by omega
      obtain ⟨ad, u, hA, hadb, hxi, hcell⟩ := (H.out.below (HB.out.mono hB)).at_ hin
      subst hA
      have hil : i < zs.length := by have := HZN.out; omega
      have hu : u = .int .i64 zs[i] := by
        rw [List.getElem?_map, List.getElem?_eq_getElem hil] at hxi
        injection hxi with hxi
        exact hxi.symm
      subst hu
      have hnum := HZ.out _ (List.getElem_mem hil)
      have hsn := numsI_snoc zs i hil
      have hlen := numsI_len (l := zs.take i) fun z hz => HZ.out z (List.mem_of_mem_take hz)
      rw [List.length_take] at hlen
      have hmx := NumI.max hnum
      have hl8 := (numB_len hmx).2
      obtain ⟨z, hze⟩ : ∃ z : Nat, zs[i] = (z : Int) := ⟨zs[i].toNat, by unfold NumI at hnum; omega⟩
      rw [hze, Int.toNat_natCast] at hsn hmx hl8
      rw [hze] at hcell
      have HBN := Lib.hid (binNum_any z hmx wr)
      have HSN := Lib.hid hsn
      obtain ⟨ys, hys⟩ : ∃ ys, ys = numsI (zs.take i) := ⟨_, rfl⟩
      rw [← hys] at HOV HSN hlen
      generalize numB z = x at HBN HSN hl8
      clear hxi hnum hsn hys
      go_wp2_with fail
      refine HBN.out.mono ?_
      rintro _ w2 ⟨v2, rfl, ho2, hb2⟩
      obtain ⟨A2, c2, rfl, p1, p2, p3, p4⟩ := own_slice_b ho2
      obtain ⟨nx, hnx⟩ : ∃ k, k = x.length := ⟨_, rfl⟩
      rw [← hnx] at p3 hl8 ⊢
      have HNX := Lib.hid hnx
      have HP3 := Lib.hid p3
      have HO2 := Lib.hid (HOV.out.below hb2)
      have HWN := Lib.hid HO2.out.row
      have HB2 := Lib.hid (HB.out.trans (hb2.mono hsz))
      have hs2 := hb2.size
      clear ho2 hb2 p1 p2 p3 p4 HBN hnx
      go_wp2_with (at_builtin; go_must (refine wpList_append_any _ rfl (.tmp 19) (.tmp 20) 22 rfl w.heap.size 5 i0 _ 1 1 Tryz.underlying22 hi0 hz0 hz1 hz2 rfl (by omega) _ _ _ rfl HWN.out w2.heap.size A2 nx c2 (x.map vb) rfl HP3.out ?c1 ?c2 ?c3 ?c4 ?_))
      case c1 => intro u hu; obtain ⟨y, _, rfl⟩ := List.mem_map.1 hu; rfl
      case c2 => unfold maxLen; omega
      case c3 => omega
      case c4 => omega
      intro v3 w3 hown3 hg3 hor3
      have HB3 := Lib.hid (grown_below HB2.out (by omega) hg3 (fun b hb => HO2.out.ge hb))
      have HO3 := Lib.hid (show OwnB w3 w.heap.size v3 (numsI (zs.take (i + 1))) by
        unfold OwnB
        rw [HSN.out, List.length_append, List.map_append, ← HNX.out]
        exact hown3)
      clear hown3 hg3 hor3
      go_wp2_with fail
      go_roundw
      case rel => exact ⟨i + 1, by omega, by go_num, HO3.out, HB3.out⟩
      case measure => simp [intOf]; omega
    · obtain rfl : i = n := by omega
      have hinI : ¬ (i : Int) < (i : Int) := by omega
      have ht : zs.take i = zs := List.take_of_length_le (by have := HZN.out; omega)
      rw [ht] at HOV
      go_wp2_with fail
      go_ret
      exact ⟨_, rfl, HOV.out, HB.out⟩

theorem aNone_any (w : World) (g t : Nat) (h : w.cell? ⟨g, 0, none⟩ = some (.pointer (some ⟨t, 0, none⟩))) :
    Calls Tryz.prog 81 #[.pointer (some ⟨g, 0, none⟩)] w fun e w' => e = .returned (.bool false) ∧ w = w' := by
  go_enter Tryz.func81, Tryz.ntmps81
  go_wp2
  go_ret
  exact ⟨rfl, rfl⟩

end Go.Proofs.YtlaodmmjhjpfmaaGreat
