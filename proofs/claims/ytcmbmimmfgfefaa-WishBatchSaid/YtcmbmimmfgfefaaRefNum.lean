/-
  Contracts of bastideref01: digits, Num, Str, Join; bastideref11.num, str.
-/
import Derived.Test.YtcmbmimmfgfefaaBinJoin
namespace Go.Proofs.Ytcmbmimmfgfefaa
set_option linter.unusedVariables false
open Go.RowKit

theorem own_lit1 (w : World) (b : UInt8) : OwnB (w.alloc (.cells #[vb b] 5)) w.heap.size (.slice (some ⟨w.heap.size, 0, none⟩) 1 1) [b] :=
  ⟨rfl, .inr ⟨w.heap.size, 1, _, rfl, Nat.le_refl _, heap_alloc_new w _, Nat.le_refl _, by unfold maxLen; omega, rfl, rfl⟩⟩
set_option maxRecDepth 100000 in
set_option maxHeartbeats 1000000 in
theorem refDigits_any (n : Nat) (hn : n ≤ maxN) (w : World) :
    Calls Try.prog 69 #[.int .i64 (n : Int)] w fun e w' => ∃ v, e = .returned v ∧ OwnB w' w.heap.size v (digs n (nd n)) ∧ Below w.heap.size w w' := by
  have h7 := nd_max hn
  have hdl := digs_len n (nd n)
  obtain ⟨ds, hds⟩ : ∃ ds, ds = digs n (nd n) := ⟨_, rfl⟩
  rw [← hds] at hdl ⊢
  have HDS := Lib.hid hds
  unfold maxN at hn
  clear hds
  obtain ⟨i0, hi0, hz0, hz1, hz2⟩ := info_parts u8_info
  go_enter Try.func69, Try.ntmps69
  go_wp2_with fail
  go_loopw [0, 3] (fun nv ov wr => ∃ (m : Nat) (out : List UInt8), nv = .int .i64 m ∧ m ≤ n ∧ OwnB wr w.heap.size ov out ∧ ds = digs m (nd m) ++ out ∧ Below w.heap.size w wr) (fun nv _ _ => (intOf nv).toNat)
  case atStart => exact ⟨n, [], rfl, Nat.le_refl _, OwnB.nil _ _, by rw [List.append_nil]; exact HDS.out, Below.refl _ _⟩
  case round =>
    obtain ⟨m, out, rfl, hm, hov, hd, hbel⟩ := hrel
    have HB := Lib.hid hbel
    have hsz := hbel.size
    have hol : out.length ≤ 7 := by have := congrArg List.length hd; rw [List.length_append] at this; omega
    by_cases h0 : m = 0
    · subst h0
      have hd' : ds = out := by rw [hd, nd_zero]; rfl
      have HO := Lib.hid (hd' ▸ hov)
      clear hd hd' hov hbel
      go_wp2_with fail
      go_ret
      exact ⟨_, rfl, HO.out, HB.out⟩
    · have hd' : ds = digs (m / 256) (nd (m / 256)) ++ (UInt8.ofNat (m % 256) :: out) := by rw [hd, nd_pos h0, digs_succ, List.append_assoc]; rfl
      have HD' := Lib.hid hd'
      obtain ⟨Ao, co, rfl, hoc, hom, hor, hoB⟩ := own_slice_b hov
      have hb0 : vb (UInt8.ofNat (m % 256)) = .int .u8 ((m : Int) % 256) := by unfold vb bi; rw [UInt8.toNat_ofNat']; congr 1; omega
      have hX : Below wr.heap.size wr (wr.alloc (.cells #[vb (UInt8.ofNat (m % 256))] 5)) := (Below.refl _ _).alloc (Nat.le_refl _) _
      have hown := own_lit1 wr (UInt8.ofNat (m % 256))
      have hrr := hor.below hX
      rw [hb0] at hX hown hrr
      have HX := Lib.hid hX
      have HOW := Lib.hid hown.row
      have HRR := Lib.hid hrr
      have HB0 := Lib.hid hb0
      have hpm : 0 < (m : Int) := by omega
      clear hd hd' hov hbel hor hX hown hrr hb0
      go_wp2_with (at_builtin; go_must (refine wpList_append_any _ rfl (.tmp 9) (.tmp 10) 22 rfl wr.heap.size 5 i0 _ 1 1 Try.underlying22 hi0 hz0 hz1 hz2 rfl (by omega) _ _ _ rfl HOW.out wr.heap.size Ao out.length co (out.map vb) rfl HRR.out ?c1 ?c2 ?c3 ?c4 ?_))
      case c1 => intro u hu; obtain ⟨y, _, rfl⟩ := List.mem_map.1 hu; rfl
      case c2 => unfold maxLen; simp; omega
      case c3 => simp; omega
      case c4 => simp
      intro v3 w3 hown3 hg3 hor3
      have HB3 := Lib.hid (grown_below (HB.out.trans (HX.out.mono hsz)) (by simp; omega) hg3 (fun b hb => by simp [Value.ownBlock] at hb; omega))
      have ho3 : OwnB w3 wr.heap.size v3 (UInt8.ofNat (m % 256) :: out) := by
        unfold OwnB
        rw [List.length_cons, List.map_cons, HB0.out, show out.length + 1 = 1 + out.length by omega]
        have := hown3
        rw [HB0.out] at this
        exact this
      have HO3 := Lib.hid (ho3.more hsz)
      clear hown3 hg3 hor3 ho3
      go_wp2_with fail
      go_roundw
      case rel => exact ⟨m / 256, _, by go_num, by omega, HO3.out, HD'.out, HB3.out⟩
      case measure => simp [intOf]; omega

set_option maxRecDepth 100000 in
set_option maxHeartbeats 1000000 in
theorem refNum_any (n : Nat) (hn : n ≤ maxN) (w : World) :
    Calls Try.prog 58 #[.int .i64 (n : Int)] w fun e w' => ∃ v, e = .returned (.tuple #[v, .int .i64 0]) ∧ OwnB w' w.heap.size v (numB n) ∧ Below w.heap.size w w' := by
  have h7 := nd_max hn
  have HD := Lib.hid (fun W => refDigits_any n hn W)
  have HNB := Lib.hid (show numB n = UInt8.ofNat (nd n) :: digs n (nd n) from rfl)
  have hb0 : vb (UInt8.ofNat (nd n)) = .int .u8 (nd n : Int) := by unfold vb bi; rw [nd_byte hn]
  have HB0 := Lib.hid hb0
  have HDL := Lib.hid (digs_len n (nd n))
  unfold maxN at hn
  clear hb0
  obtain ⟨i0, hi0, hz0, hz1, hz2⟩ := info_parts u8_info
  generalize digs n (nd n) = ds at HD HNB HDL
  generalize numB n = nb at HNB ⊢
  obtain ⟨k, hk⟩ : ∃ k, k = nd n := ⟨_, rfl⟩
  rw [← hk] at h7 HB0 HDL HNB
  clear hk
  go_enter Try.func58, Try.ntmps58
  go_wp2_with fail
  refine (HD.out w).mono ?_
  rintro _ w2 ⟨v, rfl, ho, hb⟩
  obtain ⟨Ao, co, rfl, hoc, hom, hor, hoB⟩ := own_slice_b ho
  rw [HDL.out] at hoc hor ⊢
  have HB2 := Lib.hid hb
  have hsz := hb.size
  have hX : Below w2.heap.size w2 (w2.alloc (.cells #[vb (UInt8.ofNat k)] 5)) := (Below.refl _ _).alloc (Nat.le_refl _) _
  have hown := own_lit1 w2 (UInt8.ofNat k)
  have hrr := hor.below hX
  rw [HB0.out] at hX hown hrr
  have HX := Lib.hid hX
  have HOW := Lib.hid hown.row
  have HRR := Lib.hid hrr
  clear ho hb hor hX hown hrr
  go_wp2_with (at_builtin; go_must (refine wpList_append_any _ rfl (.tmp 16) (.tmp 17) 22 rfl w2.heap.size 5 i0 _ 1 1 Try.underlying22 hi0 hz0 hz1 hz2 rfl (by omega) _ _ _ rfl HOW.out w2.heap.size Ao k co (ds.map vb) rfl HRR.out ?c1 ?c2 ?c3 ?c4 ?_))
  case c1 => intro u hu; obtain ⟨y, _, rfl⟩ := List.mem_map.1 hu; rfl
  case c2 => unfold maxLen; simp; omega
  case c3 => simp; omega
  case c4 => simp
  intro v3 w3 hown3 hg3 hor3
  have HB3 := Lib.hid (grown_below (HB2.out.trans (HX.out.mono hsz)) (by simp; omega) hg3 (fun b hb => by simp [Value.ownBlock] at hb; omega))
  have ho3 : OwnB w3 w2.heap.size v3 nb := by
    rw [HNB.out]
    unfold OwnB
    rw [List.length_cons, HDL.out, List.map_cons, HB0.out, show k + 1 = 1 + k by omega]
    have := hown3
    rw [HB0.out] at this
    exact this
  have HO3 := Lib.hid (ho3.more hsz)
  clear hown3 hg3 hor3 ho3
  go_wp2_with fail
  go_ret2
  exact ⟨_, rfl, HO3.out, HB3.out⟩

set_option maxRecDepth 100000 in
set_option maxHeartbeats 1000000 in
theorem refStr_any (A : Option Addr) (n c : Nat) (xs : List UInt8) (w : World) (B : Nat) (h : Reads w B 1 A n (xs.map vb)) (hB : B ≤ w.heap.size) (hn : n ≤ 65536) :
    Calls Try.prog 60 #[.slice A n c] w fun e w' => ∃ v, e = .returned (.tuple #[v, .int .i64 0]) ∧ OwnB w' w.heap.size v (strB xs) ∧ Below w.heap.size w w' := by
  have hxn : xs.length = n := by have := h.1; simpa using this
  have HXN := Lib.hid hxn
  have H := Lib.hid h
  have HSB := Lib.hid (show strB xs = numB n ++ xs by unfold strB; rw [hxn])
  have HNL := Lib.hid (numB_len (n := n) (by unfold maxN; omega))
  have HNM := Lib.hid (fun W => refNum_any n (by unfold maxN; omega) W)
  clear hxn h
  obtain ⟨i0, hi0, hz0, hz1, hz2⟩ := info_parts u8_info
  generalize numB n = nb at HSB HNL HNM
  generalize strB xs = sb at HSB ⊢
  go_enter Try.func60, Try.ntmps60
  go_wp2_with fail
  refine (HNM.out w).mono ?_
  rintro _ w2 ⟨v, rfl, ho, hb⟩
  have HB2 := Lib.hid hb
  have hsz := hb.size
  have HOW := Lib.hid ho.row
  have hge := fun b (hb : v.ownBlock = some b) => ho.ge hb
  have HGE := Lib.hid hge
  have HRR := Lib.hid (H.out.below (hb.mono hB))
  have hnl := HNL.out.2
  clear ho hb hge
  go_wp2_with (at_builtin; go_must (refine wpList_append_any _ rfl (.tmp 15) (.tmp 16) 22 rfl w.heap.size 5 i0 _ 1 1 Try.underlying22 hi0 hz0 hz1 hz2 rfl (by omega) _ _ _ rfl HOW.out B A n c (xs.map vb) rfl HRR.out ?c1 ?c2 ?c3 ?c4 ?_))
  case c1 => intro u hu; obtain ⟨y, _, rfl⟩ := List.mem_map.1 hu; rfl
  case c2 => unfold maxLen; omega
  case c3 => omega
  case c4 => omega
  intro v3 w3 hown3 hg3 hor3
  have HB3 := Lib.hid (grown_below HB2.out (by omega) hg3 (fun b hb => HGE.out b hb))
  have HO3 := Lib.hid (show OwnB w3 w.heap.size v3 sb by
    rw [HSB.out]
    unfold OwnB
    rw [List.length_append, List.map_append, HXN.out]
    exact hown3)
  clear hown3 hg3 hor3
  go_wp2_with fail
  go_ret2
  exact ⟨_, rfl, HO3.out, HB3.out⟩

theorem refWNum_any (n : Nat) (hn : n ≤ maxN) (w : World) :
    Calls Try.prog 40 #[.int .i64 (n : Int)] w fun e w' => ∃ v, e = .returned v ∧ OwnB w' w.heap.size v (numB n) ∧ Below w.heap.size w w' := by
  go_enter Try.func40, Try.ntmps40
  go_wp2_with fail
  refine (refNum_any n hn w).mono ?_
  rintro _ w2 ⟨v, rfl, ho, hb⟩
  have HO := Lib.hid ho
  have HB := Lib.hid hb
  clear ho hb
  go_wp2_with fail
  go_ret
  exact ⟨_, rfl, HO.out, HB.out⟩
theorem refWStr_any (A : Option Addr) (n c : Nat) (xs : List UInt8) (w : World) (B : Nat) (h : Reads w B 1 A n (xs.map vb)) (hB : B ≤ w.heap.size) (hn : n ≤ 65536) :
    Calls Try.prog 42 #[.slice A n c] w fun e w' => ∃ v, e = .returned v ∧ OwnB w' w.heap.size v (strB xs) ∧ Below w.heap.size w w' := by
  have HS := Lib.hid (refStr_any A n c xs w B h hB hn)
  clear h
  go_enter Try.func42, Try.ntmps42
  go_wp2_with fail
  refine HS.out.mono ?_
  rintro _ w2 ⟨v, rfl, ho, hb⟩
  have HO := Lib.hid ho
  have HB := Lib.hid hb
  clear ho hb
  go_wp2_with fail
  go_ret
  exact ⟨_, rfl, HO.out, HB.out⟩

set_option maxRecDepth 100000 in
set_option maxHeartbeats 1000000 in
theorem refJoin_any (A : Option Addr) (n c : Nat) (xss : List (List UInt8)) (w : World) (B : Nat) (h : RowsB w B A n xss) (hB : B ≤ w.heap.size) (hn : n ≤ 1000000) (hl : xss.flatten.length ≤ 100000000) :
    Calls Try.prog 59 #[.slice A n c] w fun e w' => ∃ v, e = .returned v ∧ OwnB w' w.heap.size v xss.flatten ∧ Below w.heap.size w w' := by
  have H := Lib.hid h
  have hxn := h.1
  have HXN := Lib.hid hxn
  clear h hxn
  obtain ⟨i0, hi0, hz0, hz1, hz2⟩ := info_parts u8_info
  go_enter Try.func59, Try.ntmps59
  go_wp2_with fail
  go_loopw [3, 4] (fun ov iv wr => ∃ i : Nat, i ≤ n ∧ iv = .int .i64 i ∧ OwnB wr w.heap.size ov (xss.take i).flatten ∧ Below w.heap.size w wr) (fun _ iv _ => n - (intOf iv).toNat)
  case atStart => exact ⟨0, by omega, rfl, OwnB.nil _ _, Below.refl _ _⟩
  case round =>
    obtain ⟨i, hi, rfl, hov, hbel⟩ := hrel
    have HOV := Lib.hid hov
    have HB := Lib.hid hbel
    have hsz := hbel.size
    clear hov hbel
    by_cases hin : i < n
    · obtain ⟨ad, hA, hadb, hcell⟩ := H.out.2 (by omega)
      subst hA
      have hxi : i < xss.length := by have := HXN.out; omega
      obtain ⟨Ak, mk, ck, hck, hrk⟩ := hcell i xss[i] (List.getElem?_eq_getElem hxi)
      have hck' := (HB.out.cell (show (ad.add i).block < w.heap.size by rw [block_of_add]; omega)).trans hck
      have hrk' := hrk.below (HB.out.mono hB)
      have hmk : xss[i].length = mk := by have := hrk.1; simpa using this
      obtain ⟨ys, hys⟩ : ∃ ys, ys = (xss.take i).flatten := ⟨_, rfl⟩
      have htk : (xss.take (i + 1)).flatten = (xss.take i).flatten ++ xss[i] := by rw [List.take_succ_eq_append_getElem hxi, List.flatten_append]; simp only [List.flatten_cons, List.flatten_nil, List.append_nil]
      have htl : (xss.take (i + 1)).flatten.length ≤ xss.flatten.length := by
        conv => rhs; rw [← List.take_append_drop (i + 1) xss, List.flatten_append, List.length_append]
        omega
      rw [htk, List.length_append] at htl
      rw [← hys] at HOV htk htl
      have HTK := Lib.hid htk
      have HYS := Lib.hid hys
      clear hys
      have HWN := Lib.hid HOV.out.row
      have HRK := Lib.hid hrk'
      generalize xss[i] = x at HTK HRK hmk htl
      have HMK := Lib.hid hmk
      clear hcell hck hrk hrk' hmk htk
      go_wp2_with (at_builtin; go_must (refine wpList_append_any _ rfl (.tmp 11) (.tmp 15) 22 rfl w.heap.size 5 i0 _ 1 1 Try.underlying22 hi0 hz0 hz1 hz2 rfl (by omega) _ _ _ rfl HWN.out B Ak mk ck (x.map vb) rfl HRK.out ?c1 ?c2 ?c3 ?c4 ?_))
      case c1 => intro u hu; obtain ⟨y, _, rfl⟩ := List.mem_map.1 hu; rfl
      case c2 => have := HMK.out; unfold maxLen; omega
      case c3 => have := HMK.out; omega
      case c4 => omega
      intro v3 w3 hown3 hg3 hor3
      have HB3 := Lib.hid (grown_below HB.out hsz hg3 (fun b hb => HOV.out.ge hb))
      have HO3 := Lib.hid (show OwnB w3 w.heap.size v3 (xss.take (i + 1)).flatten by
        unfold OwnB
        rw [HTK.out, List.length_append, List.map_append, HMK.out]
        exact hown3)
      clear hown3 hg3 hor3
      go_wp2_with fail
      go_roundw
      case rel => exact ⟨i + 1, by omega, by go_num, HO3.out, HB3.out⟩
      case measure => simp [intOf]; omega
    · obtain rfl : i = n := by omega
      go_wp2_with fail
      go_ret
      refine ⟨_, rfl, ?_, HB.out⟩
      have := HOV.out
      rw [List.take_of_length_le (by have := HXN.out; omega)] at this
      exact this

end Go.Proofs.Ytcmbmimmfgfefaa
