/-
  Contracts of slices.Clone, bin.Join, bin.Str, wish.nums.
-/
import Derived.Test.YtcmbmimmfgfefaaGreatBinNum
import Derived.Test.YtcmbmimmfgfefaaGreatOpen
import Derived.Lib.SliceRun
namespace Go.Proofs.YtcmbmimmfgfefaaGreat
set_option linter.unusedVariables false
open Go.RowKit

set_option maxRecDepth 100000 in
set_option maxHeartbeats 1000000 in
theorem clone_any (A : Option Addr) (n c : Nat) (xs : List UInt8) (w : World) (B : Nat) (h : Reads w B 1 A n (xs.map vb)) (hB : B ≤ w.heap.size) (hn : n ≤ 140737488355328) :
    Calls Tryz.prog 78 #[.slice A n c] w fun e w' => ∃ v, e = .returned v ∧ OwnB w' w.heap.size v xs ∧ Below w.heap.size w w' := by
  have hxn : xs.length = n := by have := h.1; simpa using this
  have HXN := Lib.hid hxn
  clear hxn
  obtain ⟨i0, hi0, hz0, hz1, hz2⟩ := info_parts u8_info
  have hnil : ∀ (w : World) (a : Option Addr) (n c n' c' : Nat), (binOp .eql 22 (.slice a n c) (.slice none n' c')).run Tryz.prog w = .ok (.bool a.isNone) w := fun w a n c n' c' => Lib.run_eql_slice_nil w _ _ a n c n' c' Tryz.underlying22
  cases A with
  | none =>
    have h0 : n = 0 := by
      rcases Nat.eq_zero_or_pos n with h0 | h0
      · exact h0
      · obtain ⟨ad, e, _⟩ := h.2 h0; cases e
    subst h0
    have hx0 : xs = [] := List.eq_nil_of_length_eq_zero HXN.out
    subst hx0
    go_enter Tryz.func78, Tryz.ntmps78
    go_wp2_with fail
    go_ret
    exact ⟨_, rfl, OwnB.nil _ _, Below.refl _ _⟩
  | some ad =>
    go_enter Tryz.func78, Tryz.ntmps78
    go_wp2_with (at_builtin; go_must (refine wpList_append_any _ rfl (.tmp 5) (.tmp 6) 22 rfl w.heap.size 5 i0 _ 1 1 Tryz.underlying22 hi0 hz0 hz1 hz2 rfl (by omega) (.slice (some ⟨w.heap.size, 0, none⟩) 0 0) 0 [] rfl ⟨rfl, .inr ⟨w.heap.size, 0, #[], rfl, Nat.le_refl _, heap_alloc_new w _, Nat.le_refl _, Nat.zero_le _, rfl, rfl⟩⟩ B (some ad) n c (xs.map vb) rfl (h.alloc hB _) ?c1 ?c2 ?c3 ?c4 ?_))
    case c1 => intro u hu; obtain ⟨x, _, rfl⟩ := List.mem_map.1 hu; rfl
    case c2 => unfold maxLen; omega
    case c3 => omega
    case c4 => simp
    intro v1 w1 hown1 hg1 hor
    go_wp2
    go_ret
    refine ⟨v1, rfl, ?_, grown_below ((Below.refl _ _).alloc (Nat.le_refl _) _) (by simp) hg1 (fun b hb => by simp [Value.ownBlock] at hb; omega)⟩
    unfold OwnB
    rw [HXN.out]
    simpa using hown1

theorem OwnB.row {w : World} {B : Nat} {v : Value} {xs : List UInt8} (h : OwnB w B v xs) : w.ownsRow B 5 1 v xs.length (xs.map vb) := h
/-- slices of bytes, that lie below B -/
def RowsB (w : World) (B : Nat) (A : Option Addr) (n : Nat) (xss : List (List UInt8)) : Prop :=
  xss.length = n ∧ (0 < n → ∃ ad, A = some ad ∧ ad.block < B ∧ ∀ (k : Nat) (x : List UInt8), xss[k]? = some x → ∃ Ak mk ck, w.cell? (ad.add k) = some (.slice Ak mk ck) ∧ Reads w B 1 Ak mk (x.map vb))
theorem RowsB.below {w w' : World} {B n : Nat} {A : Option Addr} {xss : List (List UInt8)} (h : RowsB w B A n xss) (hb : Below B w w') : RowsB w' B A n xss :=
  ⟨h.1, fun h0 => by
    obtain ⟨ad, hA, hB, hc⟩ := h.2 h0
    exact ⟨ad, hA, hB, fun k x hx => by
      obtain ⟨Ak, mk, ck, h1, h2⟩ := hc k x hx
      exact ⟨Ak, mk, ck, (hb.cell (by rw [block_of_add]; exact hB)).trans h1, h2.below hb⟩⟩⟩

set_option maxRecDepth 100000 in
set_option maxHeartbeats 1000000 in
theorem join_any (A : Option Addr) (n c : Nat) (xss : List (List UInt8)) (w : World) (B : Nat) (h : RowsB w B A n xss) (hB : B ≤ w.heap.size) (hn : n ≤ 1000000) (hl : xss.flatten.length ≤ 100000000) :
    Calls Tryz.prog 30 #[.slice A n c] w fun e w' => ∃ v, e = .returned v ∧ OwnB w' w.heap.size v xss.flatten ∧ Below w.heap.size w w' := by
  have H := Lib.hid h
  have hxn := h.1
  have HXN := Lib.hid hxn
  clear h hxn
  obtain ⟨i0, hi0, hz0, hz1, hz2⟩ := info_parts u8_info
  go_enter Tryz.func30, Tryz.ntmps30
  go_wp2_with fail
  go_loopw [3, 8] (fun ov iv wr => ∃ i : Nat, i ≤ n ∧ iv = .int .i64 i ∧ OwnB wr w.heap.size ov (xss.take i).flatten ∧ Below w.heap.size w wr) (fun _ iv _ => n - (intOf iv).toNat)
  case atStart => exact ⟨0, by omega, rfl, OwnB.nil _ _, Below.refl _ _⟩
  case round =>
    obtain ⟨i, hi, rfl, hov, hbel⟩ := hrel
    have HOV := Lib.hid hov
    have HB := Lib.hid hbel
    have hsz := hbel.size
    clear hov hbel
    by_cases hin : i < n
    · obtain ⟨ad, hA, hadb, hcell⟩ := H.out.2 (by omega)
      subst hA
      have hxi : i < xss.length := by have := HXN.out; omega
      obtain ⟨Ak, mk, ck, hck, hrk⟩ := hcell i xss[i] (List.getElem?_eq_getElem hxi)
      have hck' := (HB.out.cell (show (ad.add i).block < w.heap.size by rw [block_of_add]; omega)).trans hck
      have hrk' := hrk.below (HB.out.mono hB)
      have hmk : xss[i].length = mk := by have := hrk.1; simpa using this
      obtain ⟨ys, hys⟩ : ∃ ys, ys = (xss.take i).flatten := ⟨_, rfl⟩
      have htk : (xss.take (i + 1)).flatten = (xss.take i).flatten ++ xss[i] := by rw [List.take_succ_eq_append_getElem hxi, List.flatten_append]; simp only [List.flatten_cons, List.flatten_nil, List.append_nil]
      have htl : (xss.take (i + 1)).flatten.length ≤ xss.flatten.length := by
        conv => rhs; rw [← List.take_append_drop (i + 1) xss, List.flatten_append, List.length_append]
        omega
      rw [htk, List.length_append] at htl
      rw [← hys] at HOV htk htl
      have HTK := Lib.hid htk
      have HYS := Lib.hid hys
      clear hys
      have HWN := Lib.hid HOV.out.row
      have HRK := Lib.hid hrk'
      generalize xss[i] = x at HTK HRK hmk htl
      have HMK := Lib.hid hmk
      clear hcell hck hrk hrk' hmk htk
      go_wp2_with (at_builtin; go_must (refine wpList_append_any _ rfl (.tmp 12) (.tmp 13) 22 rfl w.heap.size 5 i0 _ 1 1 Tryz.underlying22 hi0 hz0 hz1 hz2 rfl (by omega) _ _ _ rfl HWN.out B Ak mk ck (x.map vb) rfl HRK.out ?c1 ?c2 ?c3 ?c4 ?_))
      case c1 => intro u hu; obtain ⟨y, _, rfl⟩ := List.mem_map.1 hu; rfl
      case c2 => have := HMK.out; unfold maxLen; omega
      case c3 => have := HMK.out; omega
      case c4 => omega
      intro v3 w3 hown3 hg3 hor3
      have HB3 := Lib.hid (grown_below HB.out hsz hg3 (fun b hb => HOV.out.ge hb))
      have HO3 := Lib.hid (show OwnB w3 w.heap.size v3 (xss.take (i + 1)).flatten by
        unfold OwnB
        rw [HTK.out, List.length_append, List.map_append, HMK.out]
        exact hown3)
      clear hown3 hg3 hor3
      go_wp2_with fail
      go_roundw
      case rel => exact ⟨i + 1, by omega, by go_num, HO3.out, HB3.out⟩
      case measure => simp [intOf]; omega
    · obtain rfl : i = n := by omega
      go_wp2_with fail
      go_ret
      refine ⟨_, rfl, ?_, HB.out⟩
      have := HOV.out
      rw [List.take_of_length_le (by have := HXN.out; omega)] at this
      exact this

theorem flat_le (ns : List Nat) (h : ∀ x, x ∈ ns → x ≤ maxN) : (ns.flatMap numB).length ≤ 8 * ns.length := by
  induction ns with
  | nil => simp
  | cons a t ih =>
    have h1 := (numB_len (h a (by simp))).2
    have h2 := ih (fun x hx => h x (by simp [hx]))
    rw [List.flatMap_cons, List.length_append, List.length_cons]
    omega

set_option maxRecDepth 100000 in
set_option maxHeartbeats 1000000 in
theorem nums_any (A : Option Addr) (n c : Nat) (ns : List Nat) (w : World) (B : Nat) (h : Reads w B 1 A n (ns.map fun x : Nat => Value.int .i64 (x : Int))) (hB : B ≤ w.heap.size) (hn : n ≤ 1000000) (hm : ∀ x, x ∈ ns → x ≤ maxN) :
    Calls Tryz.prog 31 #[.slice A n c] w fun e w' => ∃ v, e = .returned v ∧ OwnB w' w.heap.size v (ns.flatMap numB) ∧ Below w.heap.size w w' := by
  have hxn : ns.length = n := by have := h.1; simpa using this
  have H := Lib.hid h
  have HXN := Lib.hid hxn
  have HM := Lib.hid hm
  clear h hxn hm
  obtain ⟨i0, hi0, hz0, hz1, hz2⟩ := info_parts u8_info
  go_enter Tryz.func31, Tryz.ntmps31
  go_wp2_with fail
  go_loopw [3, 10] (fun ov iv wr => ∃ i : Nat, i ≤ n ∧ iv = .int .i64 i ∧ OwnB wr w.heap.size ov ((ns.take i).flatMap numB) ∧ Below w.heap.size w wr) (fun _ iv _ => n - (intOf iv).toNat)
  case atStart => exact ⟨0, by omega, rfl, OwnB.nil _ _, Below.refl _ _⟩
  case round =>
    obtain ⟨i, hi, rfl, hov, hbel⟩ := hrel
    have HOV := Lib.hid hov
    have HB := Lib.hid hbel
    have hsz := hbel.size
    clear hov hbel
    by_cases hin : i < n
    · obtain ⟨ad, u, hA, hadb, hxi, hcell⟩ := H.out.at_ hin
      subst hA
      have hil : i < ns.length := by have := HXN.out; omega
      have hu : u = .int .i64 (ns[i] : Int) := by
        rw [List.getElem?_map, List.getElem?_eq_getElem hil] at hxi
        injection hxi with hxi
        exact hxi.symm
      subst hu
      have hck' := (HB.out.cell (show (ad.add i).block < w.heap.size by rw [block_of_add]; omega)).trans hcell
      have hxm := HM.out ns[i] (List.getElem_mem hil)
      obtain ⟨ys, hys⟩ : ∃ ys, ys = (ns.take i).flatMap numB := ⟨_, rfl⟩
      have htk : (ns.take (i + 1)).flatMap numB = (ns.take i).flatMap numB ++ numB ns[i] := by rw [List.take_succ_eq_append_getElem hil, List.flatMap_append]; simp only [List.flatMap_cons, List.flatMap_nil, List.append_nil]
      have htl := flat_le (ns.take i) (fun x hx => HM.out x (List.mem_of_mem_take hx))
      rw [List.length_take] at htl
      rw [← hys] at HOV htk htl
      have HTK := Lib.hid htk
      have HYS := Lib.hid hys
      clear hcell hxi htk hys
      generalize ns[i] = x at HTK hck' hxm
      go_wp2_with fail
      refine (binNum_any x hxm wr).mono ?_
      rintro _ w2 ⟨v, rfl, hov2, hb2⟩
      obtain ⟨Av, cv, rfl, hvc, hvm, hvr, hvB⟩ := own_slice_b hov2
      have hx8 := numB_len hxm
      have HO2 := Lib.hid (HOV.out.below hb2)
      have HB2 := Lib.hid (HB.out.trans (hb2.mono hsz))
      have hs2 := hb2.size
      have HVR := Lib.hid hvr
      obtain ⟨xb, hxb⟩ : ∃ xb, xb = numB x := ⟨_, rfl⟩
      rw [← hxb] at hx8 hvc HVR HTK ⊢
      have HXB := Lib.hid hxb
      clear hov2 hb2 hvr hxb
      have HWN := Lib.hid HO2.out.row
      go_wp2_with (at_builtin; go_must (refine wpList_append_any _ rfl (.tmp 19) (.tmp 20) 22 rfl w.heap.size 5 i0 _ 1 1 Tryz.underlying22 hi0 hz0 hz1 hz2 rfl (by omega) _ _ _ rfl HWN.out w2.heap.size Av xb.length cv (xb.map vb) rfl HVR.out ?c1 ?c2 ?c3 ?c4 ?_))
      case c1 => intro u hu; obtain ⟨y, _, rfl⟩ := List.mem_map.1 hu; rfl
      case c2 => unfold maxLen; omega
      case c3 => omega
      case c4 => omega
      intro v3 w3 hown3 hg3 hor3
      have HB3 := Lib.hid (grown_below HB2.out (by omega) hg3 (fun b hb => HO2.out.ge hb))
      have HO3 := Lib.hid (show OwnB w3 w.heap.size v3 ((ns.take (i + 1)).flatMap numB) by
        unfold OwnB
        rw [HTK.out, List.length_append, List.map_append]
        exact hown3)
      clear hown3 hg3 hor3
      go_wp2_with fail
      go_roundw
      case rel => exact ⟨i + 1, by omega, by go_num, HO3.out, HB3.out⟩
      case measure => simp [intOf]; omega
    · obtain rfl : i = n := by omega
      go_wp2_with fail
      go_ret
      refine ⟨_, rfl, ?_, HB.out⟩
      have := HOV.out
      rw [List.take_of_length_le (by have := HXN.out; omega)] at this
      exact this

theorem rowsB_two {w : World} {t : TypeId} {A A' : Option Addr} {n n' c c' : Nat} {xs ys : List UInt8} (h : Reads w w.heap.size 1 A n (xs.map vb)) (h' : Reads w w.heap.size 1 A' n' (ys.map vb)) :
    RowsB (w.alloc (.cells #[.slice A n c, .slice A' n' c'] t)) (w.heap.size + 1) (some ⟨w.heap.size, 0, none⟩) 2 [xs, ys] := by
  have hb : Below w.heap.size w (w.alloc (.cells #[.slice A n c, .slice A' n' c'] t)) := (Below.refl _ _).alloc (Nat.le_refl _) _
  have hk : Blk (w.alloc (.cells #[.slice A n c, .slice A' n' c'] t)) w.heap.size t #[.slice A n c, .slice A' n' c'] := Blk.newAt rfl
  refine ⟨rfl, fun _ => ⟨_, rfl, Nat.lt_succ_self _, fun k x hx => ?_⟩⟩
  match k, hx with
  | 0, hx => simp at hx; subst hx; exact ⟨_, _, _, (hk.cell 0).trans rfl, (h.below hb).more (by omega)⟩
  | 1, hx => simp at hx; subst hx; exact ⟨A', n', c', (by rw [show ((⟨w.heap.size, 0, none⟩ : Addr).add 1) = ⟨w.heap.size, 1, none⟩ from rfl]; exact (hk.cell 1).trans rfl), (h'.below hb).more (by omega)⟩

set_option maxRecDepth 100000 in
set_option maxHeartbeats 1000000 in
theorem str_any (A : Option Addr) (n c : Nat) (xs : List UInt8) (w : World) (B : Nat) (h : Reads w B 1 A n (xs.map vb)) (hB : B ≤ w.heap.size) (hn : n ≤ 65536) :
    Calls Tryz.prog 29 #[.slice A n c] w fun e w' => ∃ v, e = .returned (.tuple #[v, .int .i64 0]) ∧ OwnB w' w.heap.size v (strB xs) ∧ Below w.heap.size w w' := by
  have hxn : xs.length = n := by have := h.1; simpa using this
  have H := Lib.hid h
  have HXN := Lib.hid hxn
  clear h hxn
  go_enter Tryz.func29, Tryz.ntmps29
  go_wp2_with fail
  refine (binNum_any n (by unfold maxN; omega) w).mono ?_
  rintro _ w2 ⟨v, rfl, hov2, hb2⟩
  obtain ⟨Av, cv, rfl, hvc, hvm, hvr, hvB⟩ := own_slice_b hov2
  have hx8 := numB_len (show n ≤ maxN by unfold maxN; omega)
  have hs2 := hb2.size
  have hrow := rowsB_two (t := 22) (c := cv) (c' := c) hvr ((H.out.below (hb2.mono hB)).more (by omega))
  have HROW := Lib.hid hrow
  have HB2 := Lib.hid hb2
  obtain ⟨xb, hxb⟩ : ∃ xb, xb = numB n := ⟨_, rfl⟩
  rw [← hxb] at hx8 HROW ⊢
  have HXB := Lib.hid hxb
  clear hov2 hb2 hvr hxb hrow hvc
  go_wp2_with fail
  refine (join_any _ 2 2 _ _ _ HROW.out (by simp) (by omega) (by simp; have := HXN.out; omega)).mono ?_
  rintro _ w3 ⟨v3, rfl, ho3, hb3⟩
  have HB3 := Lib.hid ((HB2.out.trans (((Below.refl _ w2).alloc (Nat.le_refl _) _).mono hs2)).trans (hb3.mono (by simp; omega)))
  have HO3 := Lib.hid ho3
  clear ho3 hb3
  go_wp2_with fail
  go_ret2
  refine ⟨_, rfl, ?_, HB3.out⟩
  have := HO3.out.more (B' := w.heap.size) (by simp; omega)
  unfold strB
  rw [HXN.out, ← HXB.out]
  simpa using this

end Go.Proofs.YtcmbmimmfgfefaaGreat
