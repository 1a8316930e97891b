/-
  In one text: RefNum, RefBytes, RefBatch, BookReads, NoteBook, InkTell, Digest, RefDigest, WLawDigests, OpenWish, OpenWishes.
-/
import Derived.Test.YtcmbmimmfgfefaaGreatBinJoin
import Derived.Test.YtcmbmimmfgfefaaGreatRefCheck
import Derived.Test.YtcmbmimmfgfefaaGreatWishBytes
import Derived.Test.YtcmbmimmfgfefaaGreatBatch
import Derived.Test.YtcmbmimmfgfefaaGreatInkOf
import Derived.Test.YtcmbmimmfgfefaaGreatCopy
import Derived.Test.YtcmbmimmfgfefaaGreatRefE
import Derived.Test.YtcmbmimmfgfefaaGreatEqDig
import Derived.Test.YtcmbmimmfgfefaaGreatEq
import Derived.Test.YtcmbmimmfgfefaaGreatInkEvery
import Derived.Test.YtcmbmimmfgfefaaGreatWorksW
import Derived.Test.YtcmbmimmfgfefaaGreatWishVal
import Derived.Test.YtcmbmimmfgfefaaGreatOpen

namespace Go.Proofs.YtcmbmimmfgfefaaGreat
set_option linter.unusedVariables false
open Go.RowKit

theorem own_lit1 (w : World) (b : UInt8) : OwnB (w.alloc (.cells #[vb b] 5)) w.heap.size (.slice (some ⟨w.heap.size, 0, none⟩) 1 1) [b] :=
  ⟨rfl, .inr ⟨w.heap.size, 1, _, rfl, Nat.le_refl _, heap_alloc_new w _, Nat.le_refl _, by unfold maxLen; omega, rfl, rfl⟩⟩
set_option maxRecDepth 100000 in
set_option maxHeartbeats 1000000 in
theorem refDigits_any (n : Nat) (hn : n ≤ maxN) (w : World) :
    Calls Tryz.prog 67 #[.int .i64 (n : Int)] w fun e w' => ∃ v, e = .returned v ∧ OwnB w' w.heap.size v (digs n (nd n)) ∧ Below w.heap.size w w' := by
  have h7 := nd_max hn
  have hdl := digs_len n (nd n)
  obtain ⟨ds, hds⟩ : ∃ ds, ds = digs n (nd n) := ⟨_, rfl⟩
  rw [← hds] at hdl ⊢
  have HDS := Lib.hid hds
  unfold maxN at hn
  clear hds
  obtain ⟨i0, hi0, hz0, hz1, hz2⟩ := info_parts u8_info
  go_enter Tryz.func67, Tryz.ntmps67
  go_wp2_with fail
  go_loopw [0, 3] (fun nv ov wr => ∃ (m : Nat) (out : List UInt8), nv = .int .i64 m ∧ m ≤ n ∧ OwnB wr w.heap.size ov out ∧ ds = digs m (nd m) ++ out ∧ Below w.heap.size w wr) (fun nv _ _ => (intOf nv).toNat)
  case atStart => exact ⟨n, [], rfl, Nat.le_refl _, OwnB.nil _ _, by rw [List.append_nil]; exact HDS.out, Below.refl _ _⟩
  case round =>
    obtain ⟨m, out, rfl, hm, hov, hd, hbel⟩ := hrel
    have HB := Lib.hid hbel
    have hsz := hbel.size
    have hol : out.length ≤ 7 := by have := congrArg List.length hd; rw [List.length_append] at this; omega
    by_cases h0 : m = 0
    · subst h0
      have hd' : ds = out := by rw [hd, nd_zero]; rfl
      have HO := Lib.hid (hd' ▸ hov)
      clear hd hd' hov hbel
      go_wp2_with fail
      go_ret
      exact ⟨_, rfl, HO.out, HB.out⟩
    · have hd' : ds = digs (m / 256) (nd (m / 256)) ++ (UInt8.ofNat (m % 256) :: out) := by rw [hd, nd_pos h0, digs_succ, List.append_assoc]; rfl
      have HD' := Lib.hid hd'
      obtain ⟨Ao, co, rfl, hoc, hom, hor, hoB⟩ := own_slice_b hov
      have hb0 : vb (UInt8.ofNat (m % 256)) = .int .u8 ((m : Int) % 256) := by unfold vb bi; rw [UInt8.toNat_ofNat']; congr 1; omega
      have hX : Below wr.heap.size wr (wr.alloc (.cells #[vb (UInt8.ofNat (m % 256))] 5)) := (Below.refl _ _).alloc (Nat.le_refl _) _
      have hown := own_lit1 wr (UInt8.ofNat (m % 256))
      have hrr := hor.below hX
      rw [hb0] at hX hown hrr
      have HX := Lib.hid hX
      have HOW := Lib.hid hown.row
      have HRR := Lib.hid hrr
      have HB0 := Lib.hid hb0
      have hpm : 0 < (m : Int) := by omega
      clear hd hd' hov hbel hor hX hown hrr hb0
      go_wp2_with (at_builtin; go_must (refine wpList_append_any _ rfl (.tmp 9) (.tmp 10) 22 rfl wr.heap.size 5 i0 _ 1 1 Tryz.underlying22 hi0 hz0 hz1 hz2 rfl (by omega) _ _ _ rfl HOW.out wr.heap.size Ao out.length co (out.map vb) rfl HRR.out ?c1 ?c2 ?c3 ?c4 ?_))
      case c1 => intro u hu; obtain ⟨y, _, rfl⟩ := List.mem_map.1 hu; rfl
      case c2 => unfold maxLen; simp; omega
      case c3 => simp; omega
      case c4 => simp
      intro v3 w3 hown3 hg3 hor3
      have HB3 := Lib.hid (grown_below (HB.out.trans (HX.out.mono hsz)) (by simp; omega) hg3 (fun b hb => by simp [Value.ownBlock] at hb; omega))
      have ho3 : OwnB w3 wr.heap.size v3 (UInt8.ofNat (m % 256) :: out) := by
        unfold OwnB
        rw [List.length_cons, List.map_cons, HB0.out, show out.length + 1 = 1 + out.length by omega]
        have := hown3
        rw [HB0.out] at this
        exact this
      have HO3 := Lib.hid (ho3.more hsz)
      clear hown3 hg3 hor3 ho3
      go_wp2_with fail
      go_roundw
      case rel => exact ⟨m / 256, _, by go_num, by omega, HO3.out, HD'.out, HB3.out⟩
      case measure => simp [intOf]; omega

set_option maxRecDepth 100000 in
set_option maxHeartbeats 1000000 in
theorem refNum_any (n : Nat) (hn : n ≤ maxN) (w : World) :
    Calls Tryz.prog 55 #[.int .i64 (n : Int)] w fun e w' => ∃ v, e = .returned (.tuple #[v, .int .i64 0]) ∧ OwnB w' w.heap.size v (numB n) ∧ Below w.heap.size w w' := by
  have h7 := nd_max hn
  have HD := Lib.hid (fun W => refDigits_any n hn W)
  have HNB := Lib.hid (show numB n = UInt8.ofNat (nd n) :: digs n (nd n) from rfl)
  have hb0 : vb (UInt8.ofNat (nd n)) = .int .u8 (nd n : Int) := by unfold vb bi; rw [nd_byte hn]
  have HB0 := Lib.hid hb0
  have HDL := Lib.hid (digs_len n (nd n))
  unfold maxN at hn
  clear hb0
  obtain ⟨i0, hi0, hz0, hz1, hz2⟩ := info_parts u8_info
  generalize digs n (nd n) = ds at HD HNB HDL
  generalize numB n = nb at HNB ⊢
  obtain ⟨k, hk⟩ : ∃ k, k = nd n := ⟨_, rfl⟩
  rw [← hk] at h7 HB0 HDL HNB
  clear hk
  go_enter Tryz.func55, Tryz.ntmps55
  go_wp2_with fail
  refine (HD.out w).mono ?_
  rintro _ w2 ⟨v, rfl, ho, hb⟩
  obtain ⟨Ao, co, rfl, hoc, hom, hor, hoB⟩ := own_slice_b ho
  rw [HDL.out] at hoc hor ⊢
  have HB2 := Lib.hid hb
  have hsz := hb.size
  have hX : Below w2.heap.size w2 (w2.alloc (.cells #[vb (UInt8.ofNat k)] 5)) := (Below.refl _ _).alloc (Nat.le_refl _) _
  have hown := own_lit1 w2 (UInt8.ofNat k)
  have hrr := hor.below hX
  rw [HB0.out] at hX hown hrr
  have HX := Lib.hid hX
  have HOW := Lib.hid hown.row
  have HRR := Lib.hid hrr
  clear ho hb hor hX hown hrr
  go_wp2_with (at_builtin; go_must (refine wpList_append_any _ rfl (.tmp 16) (.tmp 17) 22 rfl w2.heap.size 5 i0 _ 1 1 Tryz.underlying22 hi0 hz0 hz1 hz2 rfl (by omega) _ _ _ rfl HOW.out w2.heap.size Ao k co (ds.map vb) rfl HRR.out ?c1 ?c2 ?c3 ?c4 ?_))
  case c1 => intro u hu; obtain ⟨y, _, rfl⟩ := List.mem_map.1 hu; rfl
  case c2 => unfold maxLen; simp; omega
  case c3 => simp; omega
  case c4 => simp
  intro v3 w3 hown3 hg3 hor3
  have HB3 := Lib.hid (grown_below (HB2.out.trans (HX.out.mono hsz)) (by simp; omega) hg3 (fun b hb => by simp [Value.ownBlock] at hb; omega))
  have ho3 : OwnB w3 w2.heap.size v3 nb := by
    rw [HNB.out]
    unfold OwnB
    rw [List.length_cons, HDL.out, List.map_cons, HB0.out, show k + 1 = 1 + k by omega]
    have := hown3
    rw [HB0.out] at this
    exact this
  have HO3 := Lib.hid (ho3.more hsz)
  clear hown3 hg3 hor3 ho3
  go_wp2_with fail
  go_ret2
  exact ⟨_, rfl, HO3.out, HB3.out⟩

set_option maxRecDepth 100000 in
set_option maxHeartbeats 1000000 in
theorem refStr_any (A : Option Addr) (n c : Nat) (xs : List UInt8) (w : World) (B : Nat) (h : Reads w B 1 A n (xs.map vb)) (hB : B ≤ w.heap.size) (hn : n ≤ 65536) :
    Calls Tryz.prog 56 #[.slice A n c] w fun e w' => ∃ v, e = .returned (.tuple #[v, .int .i64 0]) ∧ OwnB w' w.heap.size v (strB xs) ∧ Below w.heap.size w w' := by
  have hxn : xs.length = n := by have := h.1; simpa using this
  have HXN := Lib.hid hxn
  have H := Lib.hid h
  have HSB := Lib.hid (show strB xs = numB n ++ xs by unfold strB; rw [hxn])
  have HNL := Lib.hid (numB_len (n := n) (by unfold maxN; omega))
  have HNM := Lib.hid (fun W => refNum_any n (by unfold maxN; omega) W)
  clear hxn h
  obtain ⟨i0, hi0, hz0, hz1, hz2⟩ := info_parts u8_info
  generalize numB n = nb at HSB HNL HNM
  generalize strB xs = sb at HSB ⊢
  go_enter Tryz.func56, Tryz.ntmps56
  go_wp2_with fail
  refine (HNM.out w).mono ?_
  rintro _ w2 ⟨v, rfl, ho, hb⟩
  have HB2 := Lib.hid hb
  have hsz := hb.size
  have HOW := Lib.hid ho.row
  have hge := fun b (hb : v.ownBlock = some b) => ho.ge hb
  have HGE := Lib.hid hge
  have HRR := Lib.hid (H.out.below (hb.mono hB))
  have hnl := HNL.out.2
  clear ho hb hge
  go_wp2_with (at_builtin; go_must (refine wpList_append_any _ rfl (.tmp 15) (.tmp 16) 22 rfl w.heap.size 5 i0 _ 1 1 Tryz.underlying22 hi0 hz0 hz1 hz2 rfl (by omega) _ _ _ rfl HOW.out B A n c (xs.map vb) rfl HRR.out ?c1 ?c2 ?c3 ?c4 ?_))
  case c1 => intro u hu; obtain ⟨y, _, rfl⟩ := List.mem_map.1 hu; rfl
  case c2 => unfold maxLen; omega
  case c3 => omega
  case c4 => omega
  intro v3 w3 hown3 hg3 hor3
  have HB3 := Lib.hid (grown_below HB2.out (by omega) hg3 (fun b hb => HGE.out b hb))
  have HO3 := Lib.hid (show OwnB w3 w.heap.size v3 sb by
    rw [HSB.out]
    unfold OwnB
    rw [List.length_append, List.map_append, HXN.out]
    exact hown3)
  clear hown3 hg3 hor3
  go_wp2_with fail
  go_ret2
  exact ⟨_, rfl, HO3.out, HB3.out⟩

theorem refWNum_any (n : Nat) (hn : n ≤ maxN) (w : World) :
    Calls Tryz.prog 36 #[.int .i64 (n : Int)] w fun e w' => ∃ v, e = .returned v ∧ OwnB w' w.heap.size v (numB n) ∧ Below w.heap.size w w' := by
  go_enter Tryz.func36, Tryz.ntmps36
  go_wp2_with fail
  refine (refNum_any n hn w).mono ?_
  rintro _ w2 ⟨v, rfl, ho, hb⟩
  have HO := Lib.hid ho
  have HB := Lib.hid hb
  clear ho hb
  go_wp2_with fail
  go_ret
  exact ⟨_, rfl, HO.out, HB.out⟩
theorem refWStr_any (A : Option Addr) (n c : Nat) (xs : List UInt8) (w : World) (B : Nat) (h : Reads w B 1 A n (xs.map vb)) (hB : B ≤ w.heap.size) (hn : n ≤ 65536) :
    Calls Tryz.prog 37 #[.slice A n c] w fun e w' => ∃ v, e = .returned v ∧ OwnB w' w.heap.size v (strB xs) ∧ Below w.heap.size w w' := by
  have HS := Lib.hid (refStr_any A n c xs w B h hB hn)
  clear h
  go_enter Tryz.func37, Tryz.ntmps37
  go_wp2_with fail
  refine HS.out.mono ?_
  rintro _ w2 ⟨v, rfl, ho, hb⟩
  have HO := Lib.hid ho
  have HB := Lib.hid hb
  clear ho hb
  go_wp2_with fail
  go_ret
  exact ⟨_, rfl, HO.out, HB.out⟩

set_option maxRecDepth 100000 in
set_option maxHeartbeats 1000000 in
theorem refJoin_any (A : Option Addr) (n c : Nat) (xss : List (List UInt8)) (w : World) (B : Nat) (h : RowsB w B A n xss) (hB : B ≤ w.heap.size) (hn : n ≤ 1000000) (hl : xss.flatten.length ≤ 100000000) :
    Calls Tryz.prog 35 #[.slice A n c] w fun e w' => ∃ v, e = .returned v ∧ OwnB w' w.heap.size v xss.flatten ∧ Below w.heap.size w w' := by
  have H := Lib.hid h
  have hxn := h.1
  have HXN := Lib.hid hxn
  clear h hxn
  obtain ⟨i0, hi0, hz0, hz1, hz2⟩ := info_parts u8_info
  go_enter Tryz.func35, Tryz.ntmps35
  go_wp2_with fail
  go_loopw [3, 4] (fun ov iv wr => ∃ i : Nat, i ≤ n ∧ iv = .int .i64 i ∧ OwnB wr w.heap.size ov (xss.take i).flatten ∧ Below w.heap.size w wr) (fun _ iv _ => n - (intOf iv).toNat)
  case atStart => exact ⟨0, by omega, rfl, OwnB.nil _ _, Below.refl _ _⟩
  case round =>
    obtain ⟨i, hi, rfl, hov, hbel⟩ := hrel
    have HOV := Lib.hid hov
    have HB := Lib.hid hbel
    have hsz := hbel.size
    clear hov hbel
    by_cases hin : i < n
    · obtain ⟨ad, hA, hadb, hcell⟩ := H.out.2 (by omega)
      subst hA
      have hxi : i < xss.length := by have := HXN.out; omega
      obtain ⟨Ak, mk, ck, hck, hrk⟩ := hcell i xss[i] (List.getElem?_eq_getElem hxi)
      have hck' := (HB.out.cell (show (ad.add i).block < w.heap.size by rw [block_of_add]; omega)).trans hck
      have hrk' := hrk.below (HB.out.mono hB)
      have hmk : xss[i].length = mk := by have := hrk.1; simpa using this
      obtain ⟨ys, hys⟩ : ∃ ys, ys = (xss.take i).flatten := ⟨_, rfl⟩
      have htk : (xss.take (i + 1)).flatten = (xss.take i).flatten ++ xss[i] := by rw [List.take_succ_eq_append_getElem hxi, List.flatten_append]; simp only [List.flatten_cons, List.flatten_nil, List.append_nil]
      have htl : (xss.take (i + 1)).flatten.length ≤ xss.flatten.length := by
        conv => rhs; rw [← List.take_append_drop (i + 1) xss, List.flatten_append, List.length_append]
        omega
      rw [htk, List.length_append] at htl
      rw [← hys] at HOV htk htl
      have HTK := Lib.hid htk
      have HYS := Lib.hid hys
      clear hys
      have HWN := Lib.hid HOV.out.row
      have HRK := Lib.hid hrk'
      generalize xss[i] = x at HTK HRK hmk htl
      have HMK := Lib.hid hmk
      clear hcell hck hrk hrk' hmk htk
      go_wp2_with (at_builtin; go_must (refine wpList_append_any _ rfl (.tmp 11) (.tmp 15) 22 rfl w.heap.size 5 i0 _ 1 1 Tryz.underlying22 hi0 hz0 hz1 hz2 rfl (by omega) _ _ _ rfl HWN.out B Ak mk ck (x.map vb) rfl HRK.out ?c1 ?c2 ?c3 ?c4 ?_))
      case c1 => intro u hu; obtain ⟨y, _, rfl⟩ := List.mem_map.1 hu; rfl
      case c2 => have := HMK.out; unfold maxLen; omega
      case c3 => have := HMK.out; omega
      case c4 => omega
      intro v3 w3 hown3 hg3 hor3
      have HB3 := Lib.hid (grown_below HB.out hsz hg3 (fun b hb => HOV.out.ge hb))
      have HO3 := Lib.hid (show OwnB w3 w.heap.size v3 (xss.take (i + 1)).flatten by
        unfold OwnB
        rw [HTK.out, List.length_append, List.map_append, HMK.out]
        exact hown3)
      clear hown3 hg3 hor3
      go_wp2_with fail
      go_roundw
      case rel => exact ⟨i + 1, by omega, by go_num, HO3.out, HB3.out⟩
      case measure => simp [intOf]; omega
    · obtain rfl : i = n := by omega
      go_wp2_with fail
      go_ret
      refine ⟨_, rfl, ?_, HB.out⟩
      have := HOV.out
      rw [List.take_of_length_le (by have := HXN.out; omega)] at this
      exact this

end Go.Proofs.YtcmbmimmfgfefaaGreat

namespace Go.Proofs.YtcmbmimmfgfefaaGreat
set_option linter.unusedVariables false
open Go.RowKit

theorem nums_six (x : Wish) : [numB (x.kind).toNat, numB (x.client).toNat, numB (x.stamp).toNat, numB (x.group).toNat, numB (x.epoch).toNat, numB (x.block).toNat].flatten = numsI [x.kind, x.client, x.stamp, x.group, x.epoch, x.block] := by
  simp [numsI]

set_option maxRecDepth 100000 in
set_option maxHeartbeats 8000000 in
theorem refBytes_any (x : Wish) (A : Option Addr) (n c : Nat) (A' : Option Addr) (n' c' : Nat) (w : World) (B : Nat) (h : WishIn w B x A n c A' n' c') (hB : B ≤ w.heap.size) :
    Calls Tryz.prog 17 #[.agg (wCells x A n c A' n' c')] w fun e w' => ∃ v, e = .returned (.tuple #[v, .int .i64 (if mayB x = true then 0 else 2)]) ∧ OwnB w' w.heap.size v (if mayB x = true then wishB x else []) ∧ Below w.heap.size w w' := by
  have hX : Below w.heap.size w (w.alloc (.cells (wCells x A n c A' n' c') 25)) := (Below.refl _ _).alloc (Nat.le_refl _) _
  have hk0 : Blk (w.alloc (.cells (wCells x A n c A' n' c') 25)) w.heap.size 25 (wCells x A n c A' n' c') := Blk.newAt rfl
  have HWX := Lib.hid (fun W (hb : Below w.heap.size w W) => h.below (hb.mono hB))
  have hdl := h.dlen
  have hnl := h.nlen
  have HDL := Lib.hid hdl
  have HNL := Lib.hid hnl
  obtain ⟨mb, hmb⟩ : ∃ mb, mb = mayB x := ⟨_, rfl⟩
  have HCK := Lib.hid (fun W (hb : Below w.heap.size w W) => refCheck_any x A n c A' n' c' W B (h.below (hb.mono hB)) (by have := hb.size; omega))
  rw [← hmb] at HCK ⊢
  have HMB := Lib.hid (fun (_ : Unit) => hmb)
  clear h hdl hnl hmb
  obtain ⟨i0, hi0, hz0, hz1, hz2⟩ := info_parts u8_info
  go_enter Tryz.func17, Tryz.ntmps17
  go_upto_region 1 with fail
  generalize hW : World.alloc w _ = w1
  have hW' : w.alloc (.cells (wCells x A n c A' n' c') 25) = w1 := hW
  rw [hW'] at hX hk0
  clear hW hW'
  obtain ⟨g, hg⟩ : ∃ g, g = w.heap.size := ⟨_, rfl⟩
  rw [← hg] at hk0 ⊢
  have hgw : w.heap.size ≤ g := by omega
  clear hg
  have hs1 := hX.size
  have HK1 := Lib.hid hk0
  have HX := Lib.hid hX
  clear hk0 hX
  go_wp2_with (refine wpList_load_part (o := ⟨some 7, _, _, _, _, _⟩) rfl 25 (.tmp 1) rfl g 0 10 rfl 25 _ (wCells x A n c A' n' c') _ HK1.out Tryz.underlying25 rfl rfl rfl (fun _ _ => by rw [Nat.zero_add]) ?_)
  refine (HCK.out w1 HX.out).mono ?_
  rintro _ w2 ⟨rfl, hb2⟩
  have HW := Lib.hid (HX.out.trans (hb2.mono hs1))
  have HK2 := Lib.hid (HK1.out.under hb2)
  have hs2 := HW.out.size
  clear hb2 HCK HK1 HX
  cases mb with
  | false =>
    go_wp2_with fail
    go_ret2
    exact ⟨_, rfl, OwnB.nil _ _, HW.out⟩
  | true =>
    obtain ⟨hn6, hn3, hnx, hd16, hnx7⟩ := may_nums (HMB.out ()).symm
    have HN6 := Lib.hid hn6
    have HN3 := Lib.hid hn3
    have HNN := Lib.hid hnx
    have hn7 : n' ≤ 7 := by have := HNL.out; omega
    have hn16 : n ≤ 16 := by have := HDL.out; omega
    have HNL3 := Lib.hid (show NumI (n' : Int) by unfold NumI; omega)
    have HNUM := Lib.hid (show ∀ (z : Int) (W : World), NumI z → Calls Tryz.prog 36 #[.int .i64 z] W (fun e w' => ∃ v, e = .returned v ∧ OwnB w' W.heap.size v (numB z.toNat) ∧ Below W.heap.size W w') from fun z W hz => by
      have h := refWNum_any z.toNat hz.max W
      rw [show ((z.toNat : Nat) : Int) = z by unfold NumI at hz; omega] at h
      exact h)
    have HSTR := Lib.hid (fun W (hb : Below w.heap.size w W) => refWStr_any A n c x.data W B (HWX.out W hb).data (by have := hb.size; omega) (by omega))
    have HBK := Lib.hid (fun W (hb : Below w2.heap.size w2 W) => HK2.out.under hb)
    obtain ⟨wB, hwB⟩ : ∃ b, b = w.heap.size := ⟨_, rfl⟩
    have hwB1 : wB ≤ w.heap.size := by omega
    have hwB2 : w.heap.size ≤ wB := by omega
    clear hwB hn6 hn3 hnx
    go_upto_region 3 with fail
    refine wp_region_rel' 18 62 (fun j W v => match j with
      | 0 => v = .pointer (some ⟨g, 4, none⟩)
      | 1 => v = .int .i64 x.kind
      | 2 => OwnB W wB v (numB (x.kind).toNat)
      | 3 => v = .pointer (some ⟨g, 0, none⟩)
      | 4 => v = .int .i64 x.client
      | 5 => OwnB W wB v (numB (x.client).toNat)
      | 6 => v = .pointer (some ⟨g, 1, none⟩)
      | 7 => v = .int .i64 x.stamp
      | 8 => OwnB W wB v (numB (x.stamp).toNat)
      | 9 => v = .pointer (some ⟨g, 2, none⟩)
      | 10 => v = .int .i64 x.group
      | 11 => OwnB W wB v (numB (x.group).toNat)
      | 12 => v = .pointer (some ⟨g, 3, none⟩)
      | 13 => v = .int .i64 x.epoch
      | 14 => OwnB W wB v (numB (x.epoch).toNat)
      | 15 => v = .pointer (some ⟨g, 5, none⟩)
      | 16 => v = .int .i64 x.block
      | _ => OwnB W wB v (numB (x.block).toNat)) [10, 11, 12, 13, 14, 15, 16, 17, 18, 19, 20, 21, 22, 23, 24, 25, 26, 27] (by kernel_rfl) (by kernel_rfl) (by kernel_rfl) (by simp) (by kernel_rfl) (fun j => ?lastA) ?headsA ?_
    case lastA =>
      match j with
      | 0 => exact Lasts.pure _
      | 1 => exact Lasts.pure _
      | 2 => exact lasts_own _ _
      | 3 => exact Lasts.pure _
      | 4 => exact Lasts.pure _
      | 5 => exact lasts_own _ _
      | 6 => exact Lasts.pure _
      | 7 => exact Lasts.pure _
      | 8 => exact lasts_own _ _
      | 9 => exact Lasts.pure _
      | 10 => exact Lasts.pure _
      | 11 => exact lasts_own _ _
      | 12 => exact Lasts.pure _
      | 13 => exact Lasts.pure _
      | 14 => exact lasts_own _ _
      | 15 => exact Lasts.pure _
      | 16 => exact Lasts.pure _
      | j + 17 => exact lasts_own _ _
    case headsA =>
      simp only [List.take_succ_cons, List.take_zero]
      refine ⟨fun a W hb hkp hd => ?_, fun a W hb hkp hd => ?_, fun a W hb hkp hd => ?_, fun a W hb hkp hd => ?_, fun a W hb hkp hd => ?_, fun a W hb hkp hd => ?_, fun a W hb hkp hd => ?_, fun a W hb hkp hd => ?_, fun a W hb hkp hd => ?_, fun a W hb hkp hd => ?_, fun a W hb hkp hd => ?_, fun a W hb hkp hd => ?_, fun a W hb hkp hd => ?_, fun a W hb hkp hd => ?_, fun a W hb hkp hd => ?_, fun a W hb hkp hd => ?_, fun a W hb hkp hd => ?_, fun a W hb hkp hd => ?_, trivial⟩
      · have e0 : a.tmps[1]?.getD undef = .pointer (some ⟨g, 0, none⟩) := hkp.get (by kernel_rfl) rfl
        exact rel_value rfl (.pointer (some ⟨g, 4, none⟩)) (by go_simp) rfl
      · have e0 : a.tmps[10]?.getD undef = .pointer (some ⟨g, 4, none⟩) := (hd 0 (by kernel_rfl)).get 10 rfl rfl
        have cc := (HBK.out W hb).cell 4 |>.trans (show (wCells x A n c A' n' c')[4]? = some (.int .i64 x.kind) from rfl)
        exact rel_value rfl (.int .i64 x.kind) (by go_simp) rfl
      · have e0 : a.tmps[11]?.getD undef = .int .i64 (x.kind) := (hd 1 (by kernel_rfl)).get 11 rfl rfl
        refine rel_call rfl 36 #[.int .i64 (x.kind)] (by go_simp) ((HNUM.out (x.kind) W (HN6.out _ (by simp))).mono ?_)
        rintro e w' ⟨v, rfl, ho, hb'⟩
        exact ⟨v, rfl, hb', ho.more (by have := hb.size; have := HW.out.size; omega)⟩
      · have e0 : a.tmps[1]?.getD undef = .pointer (some ⟨g, 0, none⟩) := hkp.get (by kernel_rfl) rfl
        exact rel_value rfl (.pointer (some ⟨g, 0, none⟩)) (by go_simp) rfl
      · have e0 : a.tmps[13]?.getD undef = .pointer (some ⟨g, 0, none⟩) := (hd 3 (by kernel_rfl)).get 13 rfl rfl
        have cc := (HBK.out W hb).cell 0 |>.trans (show (wCells x A n c A' n' c')[0]? = some (.int .i64 x.client) from rfl)
        exact rel_value rfl (.int .i64 x.client) (by go_simp) rfl
      · have e0 : a.tmps[14]?.getD undef = .int .i64 (x.client) := (hd 4 (by kernel_rfl)).get 14 rfl rfl
        refine rel_call rfl 36 #[.int .i64 (x.client)] (by go_simp) ((HNUM.out (x.client) W (HN6.out _ (by simp))).mono ?_)
        rintro e w' ⟨v, rfl, ho, hb'⟩
        exact ⟨v, rfl, hb', ho.more (by have := hb.size; have := HW.out.size; omega)⟩
      · have e0 : a.tmps[1]?.getD undef = .pointer (some ⟨g, 0, none⟩) := hkp.get (by kernel_rfl) rfl
        exact rel_value rfl (.pointer (some ⟨g, 1, none⟩)) (by go_simp) rfl
      · have e0 : a.tmps[16]?.getD undef = .pointer (some ⟨g, 1, none⟩) := (hd 6 (by kernel_rfl)).get 16 rfl rfl
        have cc := (HBK.out W hb).cell 1 |>.trans (show (wCells x A n c A' n' c')[1]? = some (.int .i64 x.stamp) from rfl)
        exact rel_value rfl (.int .i64 x.stamp) (by go_simp) rfl
      · have e0 : a.tmps[17]?.getD undef = .int .i64 (x.stamp) := (hd 7 (by kernel_rfl)).get 17 rfl rfl
        refine rel_call rfl 36 #[.int .i64 (x.stamp)] (by go_simp) ((HNUM.out (x.stamp) W (HN6.out _ (by simp))).mono ?_)
        rintro e w' ⟨v, rfl, ho, hb'⟩
        exact ⟨v, rfl, hb', ho.more (by have := hb.size; have := HW.out.size; omega)⟩
      · have e0 : a.tmps[1]?.getD undef = .pointer (some ⟨g, 0, none⟩) := hkp.get (by kernel_rfl) rfl
        exact rel_value rfl (.pointer (some ⟨g, 2, none⟩)) (by go_simp) rfl
      · have e0 : a.tmps[19]?.getD undef = .pointer (some ⟨g, 2, none⟩) := (hd 9 (by kernel_rfl)).get 19 rfl rfl
        have cc := (HBK.out W hb).cell 2 |>.trans (show (wCells x A n c A' n' c')[2]? = some (.int .i64 x.group) from rfl)
        exact rel_value rfl (.int .i64 x.group) (by go_simp) rfl
      · have e0 : a.tmps[20]?.getD undef = .int .i64 (x.group) := (hd 10 (by kernel_rfl)).get 20 rfl rfl
        refine rel_call rfl 36 #[.int .i64 (x.group)] (by go_simp) ((HNUM.out (x.group) W (HN6.out _ (by simp))).mono ?_)
        rintro e w' ⟨v, rfl, ho, hb'⟩
        exact ⟨v, rfl, hb', ho.more (by have := hb.size; have := HW.out.size; omega)⟩
      · have e0 : a.tmps[1]?.getD undef = .pointer (some ⟨g, 0, none⟩) := hkp.get (by kernel_rfl) rfl
        exact rel_value rfl (.pointer (some ⟨g, 3, none⟩)) (by go_simp) rfl
      · have e0 : a.tmps[22]?.getD undef = .pointer (some ⟨g, 3, none⟩) := (hd 12 (by kernel_rfl)).get 22 rfl rfl
        have cc := (HBK.out W hb).cell 3 |>.trans (show (wCells x A n c A' n' c')[3]? = some (.int .i64 x.epoch) from rfl)
        exact rel_value rfl (.int .i64 x.epoch) (by go_simp) rfl
      · have e0 : a.tmps[23]?.getD undef = .int .i64 (x.epoch) := (hd 13 (by kernel_rfl)).get 23 rfl rfl
        refine rel_call rfl 36 #[.int .i64 (x.epoch)] (by go_simp) ((HNUM.out (x.epoch) W (HN6.out _ (by simp))).mono ?_)
        rintro e w' ⟨v, rfl, ho, hb'⟩
        exact ⟨v, rfl, hb', ho.more (by have := hb.size; have := HW.out.size; omega)⟩
      · have e0 : a.tmps[1]?.getD undef = .pointer (some ⟨g, 0, none⟩) := hkp.get (by kernel_rfl) rfl
        exact rel_value rfl (.pointer (some ⟨g, 5, none⟩)) (by go_simp) rfl
      · have e0 : a.tmps[25]?.getD undef = .pointer (some ⟨g, 5, none⟩) := (hd 15 (by kernel_rfl)).get 25 rfl rfl
        have cc := (HBK.out W hb).cell 5 |>.trans (show (wCells x A n c A' n' c')[5]? = some (.int .i64 x.block) from rfl)
        exact rel_value rfl (.int .i64 x.block) (by go_simp) rfl
      · have e0 : a.tmps[26]?.getD undef = .int .i64 (x.block) := (hd 16 (by kernel_rfl)).get 26 rfl rfl
        refine rel_call rfl 36 #[.int .i64 (x.block)] (by go_simp) ((HNUM.out (x.block) W (HN6.out _ (by simp))).mono ?_)
        rintro e w' ⟨v, rfl, ho, hb'⟩
        exact ⟨v, rfl, hb', ho.more (by have := hb.size; have := HW.out.size; omega)⟩
    intro f W hb hd
    have q0 : OwnB W wB (f 12) (numB (x.kind).toNat) := hd 2 (by omega) _ 12 rfl rfl
    obtain ⟨B0, k0, e0, _, _, r0, _⟩ := own_slice_b q0
    have q1 : OwnB W wB (f 15) (numB (x.client).toNat) := hd 5 (by omega) _ 15 rfl rfl
    obtain ⟨B1, k1, e1, _, _, r1, _⟩ := own_slice_b q1
    have q2 : OwnB W wB (f 18) (numB (x.stamp).toNat) := hd 8 (by omega) _ 18 rfl rfl
    obtain ⟨B2, k2, e2, _, _, r2, _⟩ := own_slice_b q2
    have q3 : OwnB W wB (f 21) (numB (x.group).toNat) := hd 11 (by omega) _ 21 rfl rfl
    obtain ⟨B3, k3, e3, _, _, r3, _⟩ := own_slice_b q3
    have q4 : OwnB W wB (f 24) (numB (x.epoch).toNat) := hd 14 (by omega) _ 24 rfl rfl
    obtain ⟨B4, k4, e4, _, _, r4, _⟩ := own_slice_b q4
    have q5 : OwnB W wB (f 27) (numB (x.block).toNat) := hd 17 (by omega) _ 27 rfl rfl
    obtain ⟨B5, k5, e5, _, _, r5, _⟩ := own_slice_b q5
    have hrow := rowsB_lit W 22 [(B0, (numB (x.kind).toNat).length, k0, numB (x.kind).toNat), (B1, (numB (x.client).toNat).length, k1, numB (x.client).toNat), (B2, (numB (x.stamp).toNat).length, k2, numB (x.stamp).toNat), (B3, (numB (x.group).toNat).length, k3, numB (x.group).toNat), (B4, (numB (x.epoch).toNat).length, k4, numB (x.epoch).toNat), (B5, (numB (x.block).toNat).length, k5, numB (x.block).toNat)] (by
      intro p hp
      simp only [List.mem_cons, List.not_mem_nil, or_false] at hp
      rcases hp with rfl | rfl | rfl | rfl | rfl | rfl
      · exact r0
      · exact r1
      · exact r2
      · exact r3
      · exact r4
      · exact r5)
    simp only [List.map_cons, List.map_nil, List.length_cons, List.length_nil] at hrow
    have hl6 := numsI_len HN6.out
    simp only [List.length_cons, List.length_nil] at hl6
    have hjoin := refJoin_any _ 6 6 _ _ _ hrow (by simp) (by omega) (by rw [nums_six]; omega)
    rw [nums_six] at hjoin
    have HJ := Lib.hid hjoin
    have HW3 := Lib.hid (HW.out.trans (hb.mono hs2))
    have hs3 := HW3.out.size
    have hX3 := Lib.hid ((Below.refl W.heap.size W).alloc (Nat.le_refl _) (.cells #[.slice B0 (numB (x.kind).toNat).length k0, .slice B1 (numB (x.client).toNat).length k1, .slice B2 (numB (x.stamp).toNat).length k2, .slice B3 (numB (x.group).toNat).length k3, .slice B4 (numB (x.epoch).toNat).length k4, .slice B5 (numB (x.block).toNat).length k5] 22))
    have HK3 := Lib.hid (HK2.out.under hb)
    clear r0 r1 r2 r3 r4 r5 q0 q1 q2 q3 q4 q5 hrow hjoin hd hb HBK
    simp only [putAll, List.drop_succ_cons, List.drop_zero]
    try simp only [Act.put, List.setIfInBounds_toArray, List.set_cons_zero, List.set_cons_succ]
    simp only [e0, e1, e2, e3, e4, e5]
    clear e0 e1 e2 e3 e4 e5
    go_wp2_with fail
    refine HJ.out.mono ?_
    rintro _ w4 ⟨hv, rfl, ho4, hb4⟩
    have hb34 := hX3.out.trans (hb4.mono (by simp))
    have HW4 := Lib.hid (HW3.out.trans (hb34.mono hs3))
    have HK4 := Lib.hid (HK3.out.under hb34)
    have hs4 := HW4.out.size
    obtain ⟨A4, c4, rfl, hc4, _, hr4, hB4⟩ := own_slice_b ho4
    obtain ⟨hdB, hhd⟩ : ∃ l, l = numsI [x.kind, x.client, x.stamp, x.group, x.epoch, x.block] := ⟨_, rfl⟩
    rw [← hhd] at hc4 hr4 hl6 ⊢
    have HHD := Lib.hid hhd
    obtain ⟨hl, hhl⟩ : ∃ l, l = hdB.length := ⟨_, rfl⟩
    rw [← hhl] at hc4 hr4 hl6 ⊢
    have HHL := Lib.hid hhl
    have HR4 := Lib.hid hr4
    clear ho4 hb4 hb34 hr4 hhd hhl HJ hX3 HK3 HW HW3
    have HW := HW4
    have HBK := Lib.hid (fun W (hb : Below w4.heap.size w4 W) => HK4.out.under hb)
    go_upto_region 4 with fail
    refine wp_region_rel' 14 62 (fun j W v => match j with
      | 0 => v = .slice A4 hl c4
      | 1 => v = .pointer (some ⟨g, 6, none⟩)
      | 2 => v = .slice A n c
      | 3 => OwnB W wB v (strB x.data)
      | 4 => v = .pointer (some ⟨g, 7, none⟩)
      | 5 => v = .int .i64 x.old
      | 6 => OwnB W wB v (numB (x.old).toNat)
      | 7 => v = .pointer (some ⟨g, 8, none⟩)
      | 8 => v = .int .i64 x.new
      | 9 => OwnB W wB v (numB (x.new).toNat)
      | 10 => v = .pointer (some ⟨g, 9, none⟩)
      | 11 => v = .slice A' n' c'
      | 12 => v = .int .i64 (n' : Int)
      | _ => OwnB W wB v (numB ((n' : Int)).toNat)) [30, 31, 32, 33, 34, 35, 36, 37, 38, 39, 40, 41, 42, 43] (by kernel_rfl) (by kernel_rfl) (by kernel_rfl) (by simp) (by kernel_rfl) (fun j => ?lastB) ?headsB ?_
    case lastB =>
      match j with
      | 0 => exact Lasts.pure _
      | 1 => exact Lasts.pure _
      | 2 => exact Lasts.pure _
      | 3 => exact lasts_own _ _
      | 4 => exact Lasts.pure _
      | 5 => exact Lasts.pure _
      | 6 => exact lasts_own _ _
      | 7 => exact Lasts.pure _
      | 8 => exact Lasts.pure _
      | 9 => exact lasts_own _ _
      | 10 => exact Lasts.pure _
      | 11 => exact Lasts.pure _
      | 12 => exact Lasts.pure _
      | j + 13 => exact lasts_own _ _
    case headsB =>
      simp only [List.take_succ_cons, List.take_zero]
      refine ⟨fun a W hb hkp hd => ?_, fun a W hb hkp hd => ?_, fun a W hb hkp hd => ?_, fun a W hb hkp hd => ?_, fun a W hb hkp hd => ?_, fun a W hb hkp hd => ?_, fun a W hb hkp hd => ?_, fun a W hb hkp hd => ?_, fun a W hb hkp hd => ?_, fun a W hb hkp hd => ?_, fun a W hb hkp hd => ?_, fun a W hb hkp hd => ?_, fun a W hb hkp hd => ?_, fun a W hb hkp hd => ?_, trivial⟩
      · have e0 : a.tmps[4]?.getD undef = .slice A4 hl c4 := hkp.get (by kernel_rfl) rfl
        exact rel_value rfl (.slice A4 hl c4) (by go_simp) rfl
      · have e0 : a.tmps[1]?.getD undef = .pointer (some ⟨g, 0, none⟩) := hkp.get (by kernel_rfl) rfl
        exact rel_value rfl (.pointer (some ⟨g, 6, none⟩)) (by go_simp) rfl
      · have e0 : a.tmps[31]?.getD undef = .pointer (some ⟨g, 6, none⟩) := (hd 1 (by kernel_rfl)).get 31 rfl rfl
        have cc := (HBK.out W hb).cell 6 |>.trans (show (wCells x A n c A' n' c')[6]? = some (.slice A n c) from rfl)
        exact rel_value rfl (.slice A n c) (by go_simp) rfl
      · have e0 : a.tmps[32]?.getD undef = .slice A n c := (hd 2 (by kernel_rfl)).get 32 rfl rfl
        refine rel_call rfl 37 #[.slice A n c] (by go_simp) ((HSTR.out W (HW.out.trans (hb.mono HW.out.size))).mono ?_)
        rintro e w' ⟨v, rfl, ho, hb'⟩
        exact ⟨v, rfl, hb', ho.more (by have := hb.size; have := HW.out.size; omega)⟩
      · have e0 : a.tmps[1]?.getD undef = .pointer (some ⟨g, 0, none⟩) := hkp.get (by kernel_rfl) rfl
        exact rel_value rfl (.pointer (some ⟨g, 7, none⟩)) (by go_simp) rfl
      · have e0 : a.tmps[34]?.getD undef = .pointer (some ⟨g, 7, none⟩) := (hd 4 (by kernel_rfl)).get 34 rfl rfl
        have cc := (HBK.out W hb).cell 7 |>.trans (show (wCells x A n c A' n' c')[7]? = some (.int .i64 x.old) from rfl)
        exact rel_value rfl (.int .i64 x.old) (by go_simp) rfl
      · have e0 : a.tmps[35]?.getD undef = .int .i64 (x.old) := (hd 5 (by kernel_rfl)).get 35 rfl rfl
        refine rel_call rfl 36 #[.int .i64 (x.old)] (by go_simp) ((HNUM.out (x.old) W (HN3.out _ (by simp))).mono ?_)
        rintro e w' ⟨v, rfl, ho, hb'⟩
        exact ⟨v, rfl, hb', ho.more (by have := hb.size; have := HW.out.size; omega)⟩
      · have e0 : a.tmps[1]?.getD undef = .pointer (some ⟨g, 0, none⟩) := hkp.get (by kernel_rfl) rfl
        exact rel_value rfl (.pointer (some ⟨g, 8, none⟩)) (by go_simp) rfl
      · have e0 : a.tmps[37]?.getD undef = .pointer (some ⟨g, 8, none⟩) := (hd 7 (by kernel_rfl)).get 37 rfl rfl
        have cc := (HBK.out W hb).cell 8 |>.trans (show (wCells x A n c A' n' c')[8]? = some (.int .i64 x.new) from rfl)
        exact rel_value rfl (.int .i64 x.new) (by go_simp) rfl
      · have e0 : a.tmps[38]?.getD undef = .int .i64 (x.new) := (hd 8 (by kernel_rfl)).get 38 rfl rfl
        refine rel_call rfl 36 #[.int .i64 (x.new)] (by go_simp) ((HNUM.out (x.new) W (HN3.out _ (by simp))).mono ?_)
        rintro e w' ⟨v, rfl, ho, hb'⟩
        exact ⟨v, rfl, hb', ho.more (by have := hb.size; have := HW.out.size; omega)⟩
      · have e0 : a.tmps[1]?.getD undef = .pointer (some ⟨g, 0, none⟩) := hkp.get (by kernel_rfl) rfl
        exact rel_value rfl (.pointer (some ⟨g, 9, none⟩)) (by go_simp) rfl
      · have e0 : a.tmps[40]?.getD undef = .pointer (some ⟨g, 9, none⟩) := (hd 10 (by kernel_rfl)).get 40 rfl rfl
        have cc := (HBK.out W hb).cell 9 |>.trans (show (wCells x A n c A' n' c')[9]? = some (.slice A' n' c') from rfl)
        exact rel_value rfl (.slice A' n' c') (by go_simp) rfl
      · have e0 : a.tmps[41]?.getD undef = .slice A' n' c' := (hd 11 (by kernel_rfl)).get 41 rfl rfl
        exact rel_value rfl (.int .i64 (n' : Int)) (by go_simp) rfl
      · have e0 : a.tmps[42]?.getD undef = .int .i64 ((n' : Int)) := (hd 12 (by kernel_rfl)).get 42 rfl rfl
        refine rel_call rfl 36 #[.int .i64 ((n' : Int))] (by go_simp) ((HNUM.out ((n' : Int)) W (HNL3.out)).mono ?_)
        rintro e w' ⟨v, rfl, ho, hb'⟩
        exact ⟨v, rfl, hb', ho.more (by have := hb.size; have := HW.out.size; omega)⟩
    intro f W hb hd
    have q9 : f 30 = .slice A4 hl c4 := hd 0 (by omega) _ 30 rfl rfl
    have q0 : OwnB W wB (f 33) (strB x.data) := hd 3 (by omega) _ 33 rfl rfl
    obtain ⟨B0, k0, e0, _, _, r0, _⟩ := own_slice_b q0
    have q1 : OwnB W wB (f 36) (numB (x.old).toNat) := hd 6 (by omega) _ 36 rfl rfl
    obtain ⟨B1, k1, e1, _, _, r1, _⟩ := own_slice_b q1
    have q2 : OwnB W wB (f 39) (numB (x.new).toNat) := hd 9 (by omega) _ 39 rfl rfl
    obtain ⟨B2, k2, e2, _, _, r2, _⟩ := own_slice_b q2
    have q3 : OwnB W wB (f 43) (numB ((n' : Int)).toNat) := hd 13 (by omega) _ 43 rfl rfl
    obtain ⟨B3, k3, e3, _, _, r3, _⟩ := own_slice_b q3
    have hrow := rowsB_lit W 22 [(A4, hl, c4, hdB), (B0, (strB x.data).length, k0, strB x.data), (B1, (numB (x.old).toNat).length, k1, numB (x.old).toNat), (B2, (numB (x.new).toNat).length, k2, numB (x.new).toNat), (B3, (numB ((n' : Int)).toNat).length, k3, numB ((n' : Int)).toNat)] (by
      intro p hp
      simp only [List.mem_cons, List.not_mem_nil, or_false] at hp
      rcases hp with rfl | rfl | rfl | rfl | rfl
      · exact (HR4.out.below hb).more hb.size
      · exact r0
      · exact r1
      · exact r2
      · exact r3)
    simp only [List.map_cons, List.map_nil, List.length_cons, List.length_nil] at hrow
    obtain ⟨pre, hpre⟩ : ∃ l, l = hdB ++ strB x.data ++ numsI [x.old, x.new, (n' : Int)] := ⟨_, rfl⟩
    have hfl : [hdB, strB x.data, numB (x.old).toNat, numB (x.new).toNat, numB ((n' : Int)).toNat].flatten = pre := by rw [hpre]; simp [numsI]
    have hpl : pre.length ≤ 200 := by
      have h3 := numsI_len HN3.out
      rw [HNL.out] at h3
      have h2 := (numB_len (n := x.data.length) (by rw [HDL.out]; unfold maxN; omega)).2
      have h5 : (strB x.data).length ≤ 24 := by unfold strB; rw [List.length_append, HDL.out]; rw [HDL.out] at h2; omega
      simp only [List.length_cons, List.length_nil] at h3
      rw [hpre, List.length_append, List.length_append, ← HHL.out]
      omega
    have hjoin := refJoin_any _ 5 5 _ _ _ hrow (by simp) (by omega) (by rw [hfl]; omega)
    rw [hfl] at hjoin
    have HPRE := Lib.hid hpre
    have HJ := Lib.hid hjoin
    have HW5 := Lib.hid (HW.out.trans (hb.mono HW.out.size))
    have hs5 := HW5.out.size
    have hX5 := Lib.hid ((Below.refl W.heap.size W).alloc (Nat.le_refl _) (.cells #[.slice A4 hl c4, .slice B0 (strB x.data).length k0, .slice B1 (numB (x.old).toNat).length k1, .slice B2 (numB (x.new).toNat).length k2, .slice B3 (numB ((n' : Int)).toNat).length k3] 22))
    have HK5 := Lib.hid (HK4.out.under hb)
    clear r0 r1 r2 r3 q0 q1 q2 q3 hrow hjoin hd hb HBK hpre hfl
    simp only [putAll, List.drop_succ_cons, List.drop_zero]
    try simp only [Act.put, List.setIfInBounds_toArray, List.set_cons_zero, List.set_cons_succ]
    simp only [q9, e0, e1, e2, e3]
    clear q9 e0 e1 e2 e3
    go_wp2_with fail
    refine HJ.out.mono ?_
    rintro _ w6 ⟨pv, rfl, ho6, hb6⟩
    have hb56 := hX5.out.trans (hb6.mono (by simp))
    have HW6 := Lib.hid (HW5.out.trans (hb56.mono hs5))
    have HK6 := Lib.hid (HK5.out.under hb56)
    have HO6 := Lib.hid (ho6.more (B' := w.heap.size) (by simp; omega))
    clear ho6 hb6 hb56 HJ hX5 HK5 HW5 HW HW4 HR4
    go_wp2_with fail
    go_loopw [5, 6] (fun ov iv wr => ∃ i : Nat, i ≤ n' ∧ iv = .int .i64 i ∧ OwnB wr w.heap.size ov (pre ++ numsI (x.next.take i)) ∧ Below w.heap.size w wr ∧ Blk wr g 25 (wCells x A n c A' n' c')) (fun _ iv _ => n' - (intOf iv).toNat)
    case atStart => exact ⟨0, by omega, rfl, by simpa [numsI] using HO6.out, HW6.out, HK6.out⟩
    case round =>
      obtain ⟨i, hi, rfl, hov, hbel, hkk⟩ := hrel
      have HOV := Lib.hid hov
      have HB := Lib.hid hbel
      have HKK := Lib.hid hkk
      have hsz := hbel.size
      have c9 := (hkk.cell 9).trans (show (wCells x A n c A' n' c')[9]? = some (.slice A' n' c') from rfl)
      clear hov hbel hkk
      by_cases hin : i < n'
      · obtain ⟨ad, hA, hadb, hcell⟩ := (HWX.out wr HB.out).next.2 (by omega)
        subst hA
        have hil : i < x.next.length := by have := HNL.out; omega
        have hcz : wr.cell? (ad.add i) = some (.int .i64 x.next[i]) := hcell i _ (by rw [List.getElem?_map, List.getElem?_eq_getElem hil]; rfl)
        have hnm := HNN.out x.next[i] (List.getElem_mem hil)
        have htk : numsI (x.next.take (i + 1)) = numsI (x.next.take i) ++ numB (x.next[i]).toNat := by rw [List.take_succ_eq_append_getElem hil]; unfold numsI; rw [List.flatMap_append]; simp
        have hlt : (numsI (x.next.take i)).length ≤ 60 := by
          have h := numsI_len (l := x.next.take i) (fun z hz => HNN.out z (List.mem_of_mem_take hz))
          rw [List.length_take] at h
          have : min i x.next.length ≤ 7 := by omega
          omega
        generalize x.next[i] = z at hcz hnm htk
        have hnl8 := (numB_len hnm.max).2
        have HTK := Lib.hid htk
        have HNM := Lib.hid (HNUM.out z wr hnm)
        obtain ⟨ys, hys⟩ : ∃ ys, ys = pre ++ numsI (x.next.take i) := ⟨_, rfl⟩
        have hyl : ys.length ≤ 300 := by rw [hys, List.length_append]; omega
        rw [← hys] at HOV
        have HYS := Lib.hid hys
        clear hcell htk hnm hys
        go_wp2_with fail
        refine HNM.out.mono ?_
        rintro _ w8 ⟨v8, rfl, ho8, hb8⟩
        obtain ⟨A8, c8, rfl, hc8, _, hr8, _⟩ := own_slice_b ho8
        have HWN := Lib.hid (HOV.out.below hb8).row
        have HGE := Lib.hid (fun b (hb : _) => HOV.out.ge (b := b) hb)
        have HR8 := Lib.hid hr8
        have HB8 := Lib.hid (HB.out.trans (hb8.mono hsz))
        have HK8 := Lib.hid (HKK.out.under hb8)
        have hs8 := HB8.out.size
        obtain ⟨zb, hzb⟩ : ∃ zb, zb = numB z.toNat := ⟨_, rfl⟩
        rw [← hzb] at HR8 hnl8 HTK hc8 ⊢
        clear ho8 hb8 hr8 hzb HNM
        go_wp2_with (at_builtin; go_must (refine wpList_append_any _ rfl (.tmp 53) (.tmp 59) 22 rfl w.heap.size 5 i0 _ 1 1 Tryz.underlying22 hi0 hz0 hz1 hz2 rfl (by omega) _ _ _ rfl HWN.out w8.heap.size A8 zb.length c8 (zb.map vb) rfl HR8.out ?c1 ?c2 ?c3 ?c4 ?_))
        case c1 => intro u hu; obtain ⟨y, _, rfl⟩ := List.mem_map.1 hu; rfl
        case c2 => unfold maxLen; omega
        case c3 => omega
        case c4 => omega
        intro v9 w9 hown9 hg9 hor9
        have HB9 := Lib.hid (grown_below HB8.out hs8 hg9 (fun b hb => HGE.out b hb))
        have HO9 := Lib.hid (show OwnB w9 w.heap.size v9 (pre ++ numsI (x.next.take (i + 1))) by
          unfold OwnB
          rw [HTK.out, ← List.append_assoc, ← HYS.out, List.length_append, List.map_append]
          exact hown9)
        have HK9 := Lib.hid (HK8.out.grown hg9 (fun e => absurd e.symm (own_blk_ne HWN.out HK8.out (by decide))))
        clear hown9 hg9 hor9
        go_wp2_with fail
        go_roundw
        case rel => exact ⟨i + 1, by omega, by go_num, HO9.out, HB9.out, HK9.out⟩
        case measure => simp [intOf]; omega
      · obtain rfl : i = n' := by omega
        go_wp2_with fail
        go_ret2
        refine ⟨_, rfl, ?_, HB.out⟩
        have := HOV.out
        rw [List.take_of_length_le (by have := HNL.out; omega), HPRE.out, HHD.out] at this
        show OwnB wr w.heap.size _ (wishB x)
        unfold wishB
        rw [HNL.out]
        exact this

end Go.Proofs.YtcmbmimmfgfefaaGreat

namespace Go.Proofs.YtcmbmimmfgfefaaGreat
set_option linter.unusedVariables false
open Go.RowKit

set_option maxRecDepth 100000 in
set_option maxHeartbeats 2000000 in
theorem refBatch_any (A : Option Addr) (n c : Nat) (l : List Wish) (w : World) (B : Nat) (h : WishesIn w B A n l) (hB : B ≤ w.heap.size) (hn : n ≤ 2000000000000) :
    Calls Tryz.prog 20 #[.slice A n c] w fun e w' => ∃ v, e = .returned (.tuple #[v, .int .i64 ((batch l).2 : Int)]) ∧ OwnB w' w.heap.size v (batch l).1 ∧ Below w.heap.size w w' := by
  have hln := h.1
  have H := Lib.hid h
  have HLN := Lib.hid hln
  obtain ⟨bt, hbt⟩ : ∃ bt, bt = batch l := ⟨_, rfl⟩
  rw [← hbt]
  have HBT := Lib.hid hbt
  clear h hln hbt
  obtain ⟨i0, hi0, hz0, hz1, hz2⟩ := info_parts u8_info
  by_cases h4 : 4 < n
  · have hb : bt = ([], 5) := by rw [HBT.out]; unfold batch; rw [if_pos (by rw [HLN.out]; exact h4)]
    subst hb
    go_enter Tryz.func20, Tryz.ntmps20
    go_wp2_with fail
    go_ret2
    exact ⟨_, rfl, OwnB.nil _ _, Below.refl _ _⟩
  · have HNM := Lib.hid (refWNum_any n (by unfold maxN; omega) w)
    have hbt2 : bt = if l.all mayB = true then (batchOf l, 0) else ([], 2) := by rw [HBT.out]; unfold batch; rw [if_neg (by rw [HLN.out]; exact h4)]
    have HB2 := Lib.hid hbt2
    clear hbt2
    go_enter Tryz.func20, Tryz.ntmps20
    go_wp2_with fail
    refine HNM.out.mono ?_
    rintro _ w2 ⟨v, rfl, ho, hb⟩
    have HBW := Lib.hid hb
    have HO := Lib.hid ho
    clear ho hb
    go_wp2_with fail
    go_loopw [4, 5] (fun ov iv wr => ∃ i : Nat, i ≤ n ∧ iv = .int .i64 i ∧ OwnB wr w.heap.size ov (numB n ++ (l.take i).flatMap fun x => strB (wishB x)) ∧ Below w.heap.size w wr ∧ (∀ x, x ∈ l.take i → mayB x = true)) (fun _ iv _ => n - (intOf iv).toNat)
    case atStart => exact ⟨0, by omega, rfl, by simpa using HO.out, HBW.out, fun x hx => by simp at hx⟩
    case round =>
      obtain ⟨i, hi, rfl, hov, hbel, hall⟩ := hrel
      have HOV := Lib.hid hov
      have HB := Lib.hid hbel
      have HALL := Lib.hid hall
      have hsz := hbel.size
      clear hov hbel hall
      by_cases hin : i < n
      · obtain ⟨ad, hA, hadb, hcell⟩ := H.out.2 (by omega)
        subst hA
        have hil : i < l.length := by have := HLN.out; omega
        obtain ⟨A1, n1, c1, A2, n2, c2, hcs, hwi⟩ := hcell i l[i] (List.getElem?_eq_getElem hil)
        have HCS := Lib.hid (fun (j : Nat) (v : Value) hv => (HB.out.cell (show (ad.add (10 * i + j)).block < w.heap.size by rw [block_of_add]; omega)).trans (hcs j v hv))
        have HWI := Lib.hid (refBytes_any l[i] A1 n1 c1 A2 n2 c2 wr B (hwi.below (HB.out.mono hB)) (by omega))
        have htk : l.take (i + 1) = l.take i ++ [l[i]] := List.take_succ_eq_append_getElem hil
        have hmem : l[i] ∈ l := List.getElem_mem hil
        generalize l[i] = x at HCS HWI htk hmem
        have HTK := Lib.hid htk
        have HMEM := Lib.hid hmem
        clear hcell hcs hwi htk hmem
        go_wp2_with (refine wpList_load_cells (o := ⟨some 24, _, _, _, _, _⟩) rfl 25 (.tmp 23) rfl (ad.add (i * 10)) 10 rfl (wCells x A1 n1 c1 A2 n2 c2) _ Tryz.underlying25 rfl rfl rfl (fun j v hv => by rw [add_of_add, Nat.mul_comm]; exact HCS.out j v hv) ?_)
        refine HWI.out.mono ?_
        rintro _ w4 ⟨bv, rfl, hob, hb4⟩
        have HB4 := Lib.hid (HB.out.trans (hb4.mono (by omega)))
        have HO4 := Lib.hid (HOV.out.below hb4)
        have hs4 := hb4.size
        obtain ⟨mb, hmb⟩ : ∃ mb, mb = mayB x := ⟨_, rfl⟩
        rw [← hmb] at hob ⊢
        have HMB := Lib.hid (fun (_ : Unit) => hmb)
        clear hb4 hmb
        cases mb with
        | false =>
          have hbad : bt = ([], 2) := by
            rw [HB2.out, if_neg]
            intro h
            have := List.all_eq_true.1 h x HMEM.out
            rw [← HMB.out ()] at this
            cases this
          have HBAD := Lib.hid hbad
          clear hbad hob
          go_wp2_with fail
          go_ret2
          exact ⟨_, by rw [HBAD.out]; rfl, by rw [HBAD.out]; exact OwnB.nil _ _, HB4.out⟩
        | true =>
          have hwl := wishB_len (HMB.out ()).symm
          have hob' : OwnB w4 wr.heap.size bv (wishB x) := hob
          obtain ⟨Ab, cb, rfl, hbc, hbm, hbr, hbB⟩ := own_slice_b hob'
          obtain ⟨xb, hxb⟩ : ∃ xb, xb = wishB x := ⟨_, rfl⟩
          rw [← hxb] at hwl hbr hbc ⊢
          have HXB := Lib.hid hxb
          have HBR := Lib.hid hbr
          clear hob hob' hxb hbr
          go_wp2_with fail
          refine (refWStr_any Ab xb.length cb xb w4 _ HBR.out (Nat.le_refl _) (by omega)).mono ?_
          rintro _ w5 ⟨sv, rfl, hos, hb5⟩
          have HB5 := Lib.hid (HB4.out.trans (hb5.mono (by omega)))
          have HO5 := Lib.hid (HO4.out.below hb5)
          have hs5 := hb5.size
          obtain ⟨As, cs, rfl, hsc, hsm, hsr, hsB⟩ := own_slice_b hos
          have HWN := Lib.hid HO5.out.row
          have HSR := Lib.hid hsr
          have hsl : (strB xb).length ≤ 300 := by
            have := (numB_len (n := xb.length) (by unfold maxN; omega)).2
            unfold strB
            rw [List.length_append]
            omega
          have hol : (numB n ++ (l.take i).flatMap fun x => strB (wishB x)).length ≤ 8 + i * 300 := outs_len HALL.out (by omega) (by rw [List.length_take]; omega)
          obtain ⟨ob, hobe⟩ : ∃ ob, ob = (numB n ++ (l.take i).flatMap fun x => strB (wishB x)) := ⟨_, rfl⟩
          obtain ⟨sb, hsbe⟩ : ∃ sb, sb = strB xb := ⟨_, rfl⟩
          rw [← hobe] at hol HWN
          rw [← hsbe] at hsl HSR hsc ⊢
          have hnext : (numB n ++ (l.take (i + 1)).flatMap fun x => strB (wishB x)) = ob ++ sb := by
            rw [HTK.out, List.flatMap_append, hobe, hsbe, HXB.out, List.append_assoc]
            simp only [List.flatMap_cons, List.flatMap_nil, List.append_nil]
          have HNX := Lib.hid hnext
          have hge := fun b (hb : (_ : Value).ownBlock = some b) => HO5.out.ge hb
          have HGE := Lib.hid hge
          clear hos hb5 hsr hobe hsbe hnext hge
          go_wp2_with (at_builtin; go_must (refine wpList_append_any _ rfl (.tmp 31) (.tmp 33) 22 rfl w.heap.size 5 i0 _ 1 1 Tryz.underlying22 hi0 hz0 hz1 hz2 rfl (by omega) _ _ _ rfl HWN.out w5.heap.size As sb.length cs (sb.map vb) rfl HSR.out ?c1 ?c2 ?c3 ?c4 ?_))
          case c1 => intro u hu; obtain ⟨y, _, rfl⟩ := List.mem_map.1 hu; rfl
          case c2 => unfold maxLen; omega
          case c3 => omega
          case c4 => omega
          intro v6 w6 hown6 hg6 hor6
          have HB6 := Lib.hid (grown_below HB5.out (by omega) hg6 (fun b hb => HGE.out b hb))
          have HO6 := Lib.hid (show OwnB w6 w.heap.size v6 (numB n ++ (l.take (i + 1)).flatMap fun x => strB (wishB x)) by
            unfold OwnB
            rw [HNX.out, List.length_append, List.map_append]
            exact hown6)
          have hall' : ∀ y, y ∈ l.take (i + 1) → mayB y = true := fun y hy => by
            rw [HTK.out] at hy
            rcases List.mem_append.1 hy with h | h
            · exact HALL.out y h
            · rw [List.mem_singleton] at h; subst h; exact (HMB.out ()).symm
          have HALL' := Lib.hid hall'
          clear hown6 hg6 hor6 hall'
          go_wp2_with fail
          go_roundw
          case rel => exact ⟨i + 1, by omega, by go_num, HO6.out, HB6.out, HALL'.out⟩
          case measure => simp [intOf]; omega
      · obtain rfl : i = n := by omega
        have hgood : bt = (batchOf l, 0) := by
          rw [HB2.out, if_pos]
          refine List.all_eq_true.2 fun x hx => HALL.out x ?_
          rw [List.take_of_length_le (by have := HLN.out; omega)]
          exact hx
        have HG := Lib.hid hgood
        clear hgood
        go_wp2_with fail
        go_ret2
        refine ⟨_, by rw [HG.out]; rfl, ?_, HB.out⟩
        rw [HG.out]
        have := HOV.out
        rw [List.take_of_length_le (by have := HLN.out; omega)] at this
        unfold batchOf
        rw [HLN.out]
        exact this

end Go.Proofs.YtcmbmimmfgfefaaGreat

namespace Go.Proofs.YtcmbmimmfgfefaaGreat
set_option linter.unusedVariables false
open Go.RowKit Go.Maps

theorem Reads.only {w w' : World} {B n : Nat} {A : Option Addr} {xs : List Value} {k : Book} (h : Reads w B 1 A n xs) (ho : OnlyBook k w w') (hB : B ≤ w.heap.size) (hk : ∀ a, 0 < n → A = some a → ¬ k.has a.block) : Reads w' B 1 A n xs :=
  ⟨h.1, fun h0 => by
    obtain ⟨ad, rfl, hb, hc⟩ := h.2 h0
    refine ⟨ad, rfl, hb, fun j u hj => ?_⟩
    have he : (ad.add j).block = ad.block := by simp [Addr.add]; split <;> rfl
    have hh := ho.block ad.block (Nat.lt_of_lt_of_le hb hB) (hk ad h0 rfl)
    rw [← hc j u hj]
    exact World.cell?_of_block (w := w) (by rw [he]; exact hh)⟩
theorem Reads.above {w : World} {B n : Nat} {A : Option Addr} {xs : List Value} {k : Book} (h : Reads w B 1 A n xs) (hk : B ≤ k.g ∧ B ≤ k.b1 ∧ B ≤ k.b2) : ∀ a, 0 < n → A = some a → ¬ k.has a.block := fun a h0 ha => by
  obtain ⟨ad, rfl, hb, _⟩ := h.2 h0
  injection ha with ha
  subst ha
  rintro (e | e | e) <;> omega
theorem OnlyBook.below' {k : Book} {w w' w'' : World} (h : OnlyBook k w w') (hb : Below w'.heap.size w' w'') : OnlyBook k w w'' := h.trans (OnlyBook.of_below hb)
theorem BookAt.keep {w w' : World} {k : Book} {l : List (List UInt8)} {n : Nat} (h : BookAt w k l n) (hk : ∀ b, k.has b → w'.heap[b]? = w.heap[b]?) : BookAt w' k l n := by
  obtain ⟨D1, D2, n1, n2, h1, h2, h3⟩ := h.maps
  refine ⟨(hk _ (.inl rfl)).trans h.cells, ⟨D1, D2, n1, n2, ?_, ?_, h3⟩, h.len, h.apart⟩
  · obtain ⟨es, c, hb, F, hs, hD⟩ := h1
    exact ⟨es, c, (hk _ (.inr (.inl rfl))).trans hb, F, hs, hD⟩
  · obtain ⟨es, c, hb, F, hs, hD⟩ := h2
    exact ⟨es, c, (hk _ (.inr (.inr rfl))).trans hb, F, hs, hD⟩
theorem BookAt.has_lt {w : World} {k : Book} {l : List (List UInt8)} {n : Nat} (h : BookAt w k l n) {b : Nat} (hb : k.has b) : b < w.heap.size := by
  have := h.lt
  rcases hb with rfl | rfl | rfl <;> omega

end Go.Proofs.YtcmbmimmfgfefaaGreat

namespace Go.Proofs.YtcmbmimmfgfefaaGreat
set_option linter.unusedVariables false
open Go.RowKit Go.Maps

def Held (lv : Value) (vs : List Value) (b : Nat) : Prop := lv.ownBlock = some b ∨ ∃ v, v ∈ vs ∧ v.ownBlock = some b
def noteCells (lv : Value) (many : Nat) : Array Value := #[lv, .int .i64 (many : Int)]
structure NoteAt (w : World) (r B : Nat) (lv : Value) (vs : List Value) (l : List (List UInt8)) (many : Nat) : Prop where
  lt : r < B
  cells : Blk w r 53 (noteCells lv many)
  row : w.ownsRow B 22 1 lv l.length vs
  each : ∀ (j : Nat) (x : List UInt8), l[j]? = some x → ∃ v, vs[j]? = some v ∧ OwnB w B v x ∧ (∀ b, v.ownBlock = some b → lv.ownBlock ≠ some b)

theorem NoteAt.len {w : World} {r B many : Nat} {lv : Value} {vs : List Value} {l : List (List UInt8)} (h : NoteAt w r B lv vs l many) : vs.length = l.length := by have := h.row.1; omega
theorem NoteAt.row_lt {w : World} {r B many : Nat} {lv : Value} {vs : List Value} {l : List (List UInt8)} (h : NoteAt w r B lv vs l many) {b : Nat} (hb : lv.ownBlock = some b) : B ≤ b ∧ b < w.heap.size := by
  rcases h.row.2 with ⟨rfl, _⟩ | ⟨g, cap, cur, rfl, hg, hh, _⟩
  · simp [Value.ownBlock] at hb
  · simp [Value.ownBlock] at hb; subst hb
    refine ⟨hg, ?_⟩
    rcases Nat.lt_or_ge g w.heap.size with h | h
    · exact h
    · rw [Array.getElem?_eq_none h] at hh; cases hh
theorem NoteAt.held {w : World} {r B many : Nat} {lv : Value} {vs : List Value} {l : List (List UInt8)} (h : NoteAt w r B lv vs l many) {b : Nat} (hb : Held lv vs b) : B ≤ b ∧ b < w.heap.size := by
  rcases hb with hb | ⟨v, hv, hb⟩
  · exact h.row_lt hb
  · obtain ⟨j, hj, hj2⟩ := List.getElem_of_mem hv
    have hl := h.len
    obtain ⟨v', hv', ho, _⟩ := h.each j l[j] (List.getElem?_eq_getElem (by omega))
    rw [List.getElem?_eq_getElem hj, hj2] at hv'
    injection hv' with hv'
    subst hv'
    exact ⟨ho.ge hb, ho.lt hb⟩
theorem row_keep {w w' : World} {B : Nat} {e : TypeId} {s n : Nat} {lv : Value} {vs : List Value} (h : w.ownsRow B e s lv n vs) (hk : ∀ b, lv.ownBlock = some b → w'.heap[b]? = w.heap[b]?) : w'.ownsRow B e s lv n vs := by
  refine ⟨h.1, ?_⟩
  rcases h.2 with h0 | ⟨g, cap, cur, rfl, hg, hh, h1⟩
  · exact .inl h0
  · exact .inr ⟨g, cap, cur, rfl, hg, (hk g rfl).trans hh, h1⟩
theorem NoteAt.keep {w w' : World} {r B many : Nat} {lv : Value} {vs : List Value} {l : List (List UInt8)} (h : NoteAt w r B lv vs l many) (hr : w'.heap[r]? = w.heap[r]?) (hk : ∀ b, Held lv vs b → w'.heap[b]? = w.heap[b]?) : NoteAt w' r B lv vs l many :=
  ⟨h.lt, hr.trans h.cells, row_keep h.row fun b hb => hk b (.inl hb), fun j x hx => by
    obtain ⟨v, h1, h2, h3⟩ := h.each j x hx
    exact ⟨v, h1, h2.keep fun b hb => hk b (.inr ⟨v, List.mem_of_getElem? h1, hb⟩), h3⟩⟩
theorem NoteAt.below {w w' : World} {r B many : Nat} {lv : Value} {vs : List Value} {l : List (List UInt8)} (h : NoteAt w r B lv vs l many) (hb : Below w.heap.size w w') : NoteAt w' r B lv vs l many :=
  h.keep (hb.block r h.cells.lt) fun b hh => hb.block b (h.held hh).2
theorem NoteAt.only {w w' : World} {r B many : Nat} {lv : Value} {vs : List Value} {l : List (List UInt8)} {k : Book} (h : NoteAt w r B lv vs l many) (ho : OnlyBook k w w') (hr : ¬ k.has r) (hk : ∀ b, Held lv vs b → ¬ k.has b) : NoteAt w' r B lv vs l many :=
  h.keep (ho.block r h.cells.lt hr) fun b hh => ho.block b (h.held hh).2 (hk b hh)
/-- the input j, as the walk finds it -/
theorem NoteAt.at_ {w : World} {r B many : Nat} {lv : Value} {vs : List Value} {l : List (List UInt8)} (h : NoteAt w r B lv vs l many) {j : Nat} {x : List UInt8} (hj : l[j]? = some x) :
    ∃ ad cap A m c, lv = .slice (some ad) l.length cap ∧ w.cell? (ad.add j) = some (.slice A m c) ∧ m ≤ c ∧ c ≤ maxLen ∧ Reads w w.heap.size 1 A m (x.map vb) ∧ ad.block < w.heap.size := by
  have hlt : j < l.length := by
    rcases Nat.lt_or_ge j l.length with h | h
    · exact h
    · rw [List.getElem?_eq_none h] at hj; cases hj
  obtain ⟨v, hv, ho, _⟩ := h.each j x hj
  obtain ⟨g, cap, hlv, hg, hgl⟩ := h.row.form (by omega)
  obtain ⟨A, c, rfl, h1, h2, h3, h4⟩ := own_slice_b ho
  have hrow := h.row
  rw [hlv] at hrow
  exact ⟨_, cap, A, x.length, c, hlv, hrow.cells (g := g) rfl j _ hv, h1, h2, h3, hgl⟩

/-- of what was there, the book and its list alone may have turned -/
structure OnlyNote (r : Nat) (lv : Value) (w w' : World) : Prop where
  os : w'.os = w.os
  tape : w'.tape = w.tape
  output : w'.output = w.output
  size : w.heap.size ≤ w'.heap.size
  block : ∀ i, i < w.heap.size → i ≠ r → lv.ownBlock ≠ some i → w'.heap[i]? = w.heap[i]?
theorem OnlyNote.trans_below {r : Nat} {lv : Value} {a b c : World} (h : OnlyNote r lv a b) (h' : Below b.heap.size b c) : OnlyNote r lv a c :=
  ⟨h'.os.trans h.os, h'.tape.trans h.tape, h'.output.trans h.output, Nat.le_trans h.size h'.size, fun i hi h1 h2 => (h'.block i (Nat.lt_of_lt_of_le hi h.size)).trans (h.block i hi h1 h2)⟩
theorem OnlyNote.of_below {r : Nat} {lv : Value} {b c : World} (h' : Below b.heap.size b c) : OnlyNote r lv b c :=
  ⟨h'.os, h'.tape, h'.output, h'.size, fun i hi h1 h2 => h'.block i hi⟩
theorem OnlyNote.set {r : Nat} {lv : Value} {a b : World} (h : OnlyNote r lv a b) (i : Nat) (u : Value) : OnlyNote r lv a (b.setCell ⟨r, i, none⟩ u) :=
  ⟨h.os, h.tape, h.output, by simpa [World.setCell] using h.size, fun j hj h1 h2 => (Below.heap_setCell b ⟨r, i, none⟩ u j h1).trans (h.block j hj h1 h2)⟩
theorem OnlyNote.grown {r : Nat} {lv : Value} {a b c : World} (h : OnlyNote r lv a b) (h' : b.grownBy c lv.ownBlock) : OnlyNote r lv a c :=
  ⟨h'.os.trans h.os, h'.tape.trans h.tape, h'.output.trans h.output, Nat.le_trans h.size h'.size, fun i hi h1 h2 => (h'.block i (Nat.lt_of_lt_of_le hi h.size) (fun e => h2 e.symm)).trans (h.block i hi h1 h2)⟩
theorem OnlyNote.later {r g : Nat} {lv : Value} {a b c : World} (h : OnlyNote r lv a b) (h' : Turned g b c) (hg : a.heap.size ≤ g) : OnlyNote r lv a c :=
  ⟨h'.os.trans h.os, h'.tape.trans h.tape, h'.output.trans h.output, by have := h'.size; have := h.size; omega, fun i hi h1 h2 => (h'.block i (by omega)).trans (h.block i hi h1 h2)⟩
theorem OnlyNote.below {r : Nat} {lv : Value} {w0 w w' : World} {B : Nat} (h : OnlyNote r lv w w') (hb : Below B w0 w) (hB : B ≤ w.heap.size) (hr : B ≤ r) (hl : ∀ b, lv.ownBlock = some b → B ≤ b) : Below B w0 w' :=
  hb.trans ⟨h.os, h.tape, h.output, h.size, fun i hi => h.block i (by omega) (by omega) (fun e => by have := hl i e; omega)⟩

set_option maxRecDepth 100000 in
theorem noteNew_any (w : World) : Calls Tryz.prog 5 #[] w fun e w' => ∃ r, e = .returned (.pointer (some ⟨r, 0, none⟩)) ∧ w.heap.size ≤ r ∧ r < w'.heap.size ∧ Blk w' r 53 (noteCells (.slice none 0 0) 0) ∧ Below w.heap.size w w' := by
  go_enter Tryz.func5, Tryz.ntmps5
  go_wp2
  go_ret
  exact ⟨w.heap.size, rfl, Nat.le_refl _, by simp, Blk.newAt rfl, (Below.refl _ _).alloc (Nat.le_refl _) _⟩
theorem NoteAt.start {w : World} {r B : Nat} (h : Blk w r 53 (noteCells (.slice none 0 0) 0)) (hB : r < B) : NoteAt w r B (.slice none 0 0) [] [] 0 :=
  ⟨hB, h, ⟨rfl, .inl ⟨rfl, rfl⟩⟩, fun j x hx => by simp at hx⟩

theorem NoteAt.shape {w : World} {r B many : Nat} {lv : Value} {vs : List Value} {l : List (List UInt8)} (h : NoteAt w r B lv vs l many) : ∃ A cap, lv = .slice A l.length cap := by
  rcases h.row.2 with ⟨rfl, h0⟩ | ⟨g, cap, cur, rfl, _⟩
  · exact ⟨none, 0, by rw [h0]⟩
  · exact ⟨_, cap, rfl⟩
theorem noteLen_any (w : World) {r B many : Nat} {lv : Value} {vs : List Value} {l : List (List UInt8)} (h : NoteAt w r B lv vs l many) :
    Calls Tryz.prog 11 #[.pointer (some ⟨r, 0, none⟩)] w fun e w' => e = .returned (.int .i64 (l.length : Int)) ∧ w = w' := by
  obtain ⟨A, cap, rfl⟩ := h.shape
  have c0 : w.cell? ⟨r, 0, none⟩ = some (.slice A l.length cap) := (h.cells.cell 0).trans rfl
  clear h
  go_enter Tryz.func11, Tryz.ntmps11
  go_wp2
  go_ret
  exact ⟨rfl, rfl⟩
theorem noteAsked_any (w : World) {r B many : Nat} {lv : Value} {vs : List Value} {l : List (List UInt8)} (h : NoteAt w r B lv vs l many) :
    Calls Tryz.prog 13 #[.pointer (some ⟨r, 0, none⟩)] w fun e w' => e = .returned (.int .i64 (many : Int)) ∧ w = w' := by
  have c1 : w.cell? ⟨r, 1, none⟩ = some (.int .i64 (many : Int)) := (h.cells.cell 1).trans rfl
  clear h
  go_enter Tryz.func13, Tryz.ntmps13
  go_wp2
  go_ret
  exact ⟨rfl, rfl⟩

set_option maxRecDepth 100000 in
set_option maxHeartbeats 1000000 in
theorem noteOf_big (r : Nat) (A : Option Addr) (n c : Nat) (w : World) (hn : 65536 < n) (hc : n ≤ c) (hcm : c ≤ maxLen) :
    Calls Tryz.prog 18 #[.pointer (some ⟨r, 0, none⟩), .slice A n c] w fun e w' => e = .returned (.tuple #[.agg inkZ, .int .i64 5]) ∧ Below w.heap.size w w' := by
  have hz : inkZ.size = 32 := by simp [inkZ, bRow]
  have ho : inkZ.all (·.oneCell') = true := bRow_one _
  have he : inkZ = #[.int .u8 0, .int .u8 0, .int .u8 0, .int .u8 0, .int .u8 0, .int .u8 0, .int .u8 0, .int .u8 0, .int .u8 0, .int .u8 0, .int .u8 0, .int .u8 0, .int .u8 0, .int .u8 0, .int .u8 0, .int .u8 0, .int .u8 0, .int .u8 0, .int .u8 0, .int .u8 0, .int .u8 0, .int .u8 0, .int .u8 0, .int .u8 0, .int .u8 0, .int .u8 0, .int .u8 0, .int .u8 0, .int .u8 0, .int .u8 0, .int .u8 0, .int .u8 0] := by kernel_rfl
  have HZ := Lib.hid hz
  have HO := Lib.hid ho
  have HE := Lib.hid he
  clear hz ho he
  generalize inkZ = zd at HZ HO HE ⊢
  have hX : Below w.heap.size w (w.alloc (.cells zd 32)) := (Below.refl _ _).alloc (Nat.le_refl _) _
  have HX := Lib.hid hX
  unfold maxLen at hcm
  clear hX
  go_enter Tryz.func18, Tryz.ntmps18
  go_wp2_with (refine wpList_store_part rfl 32 (.tmp 4) _ rfl w.heap.size 0 zd rfl (by rw [HE.out]; rfl) 32 zd (by rw [HE.out]; exact Blk.newAt rfl) (by rw [HZ.out]; rfl) (by rw [HZ.out]; simp) HO.out ?_; intro W5 hT5 hB5; rw [spl_self _ _ rfl] at hB5)
  refine bodyPost_ret (results_part2 rfl _ _ w.heap.size 32 32 _ _ rfl hB5 Tryz.underlying32 rfl rfl HZ.out) rfl ⟨rfl, ?_⟩
  have := HX.out
  rw [HE.out] at this
  exact hT5.below this (Nat.le_refl _)

theorem row_later {wr w6 : World} {B : Nat} {e : TypeId} {s n : Nat} {lv : Value} {vs : List Value} (h : wr.ownsRow B e s lv n vs) (hb : Below wr.heap.size wr w6) (o : Obj) : (w6.alloc o).ownsRow B e s lv n vs :=
  row_keep h fun b hv => by
    have hlt : b < wr.heap.size := by
      rcases h.2 with ⟨rfl, _⟩ | ⟨g, cap, cur, rfl, hg, hh, _⟩
      · simp [Value.ownBlock] at hv
      · simp [Value.ownBlock] at hv; subst hv
        rcases Nat.lt_or_ge g wr.heap.size with h | h
        · exact h
        · rw [Array.getElem?_eq_none h] at hh; cases hh
    exact (Below.heap_alloc w6 o b (by have := hb.size; omega)).trans (hb.block b hlt)
theorem reads_one (w : World) (x : Value) (t : TypeId) : Reads (w.alloc (.cells #[x] t)) (w.heap.size + 1) 1 (some ⟨w.heap.size, 0, none⟩) 1 [x] :=
  ⟨rfl, fun _ => ⟨_, rfl, Nat.lt_succ_self _, cell_one_new w x t⟩⟩
theorem row_shape {w : World} {B : Nat} {e : TypeId} {s n : Nat} {v : Value} {vs : List Value} (h : w.ownsRow B e s v n vs) : ∃ A c, v = .slice A n c := by
  rcases h.2 with ⟨rfl, h0⟩ | ⟨g, cap, cur, rfl, _⟩
  · exact ⟨none, 0, by rw [h0]⟩
  · exact ⟨_, cap, rfl⟩
theorem NoteAt.row_ne {w : World} {r B many : Nat} {lv : Value} {vs : List Value} {l : List (List UInt8)} (h : NoteAt w r B lv vs l many) : lv.ownBlock ≠ some r := fun e => by have := h.row_lt e; have := h.lt; omega
theorem NoteAt.snoc {wr w6 w8 : World} {r B many : Nat} {lv v v8 : Value} {vs : List Value} {l : List (List UInt8)} {xs : List UInt8} {o : Obj} (h : NoteAt wr r B lv vs l many) (hb6 : Below wr.heap.size wr w6) (hov : OwnB w6 wr.heap.size v xs)
    (hown8 : w8.ownsRow B 22 1 v8 (l.length + 1) (vs ++ [v])) (hg8 : (w6.alloc o).grownBy w8 lv.ownBlock) (hor8 : v8.ownBlock = lv.ownBlock ∨ v8.ownBlock = some (w6.alloc o).heap.size) (hB : B ≤ wr.heap.size) :
    NoteAt (w8.setCell ⟨r, 0, none⟩ v8) r B v8 (vs ++ [v]) (l ++ [xs]) many := by
  have hs6 := hb6.size
  have hsa : (w6.alloc o).heap.size = w6.heap.size + 1 := by simp
  have hbo := fun b (hb : v8.ownBlock = some b) => (show (lv.ownBlock = some b ∨ b = w6.heap.size + 1) by
    rcases hor8 with e | e
    · exact .inl (e ▸ hb)
    · rw [e, hsa] at hb; injection hb with hb; exact .inr hb.symm)
  have hrs := h.cells.lt
  have hlt := h.lt
  have hne : v8.ownBlock ≠ some r := fun e => by
    rcases hbo r e with e | e
    · exact h.row_ne e
    · omega
  refine ⟨hlt, ?_, ?_, fun j x hj => ?_⟩
  · exact ((((h.cells.below' hb6).alloc o).grown hg8 (fun e => h.row_ne e.symm)).set_ 0 v8)
  · rw [List.length_append]
    exact row_keep hown8 fun b hb => Below.heap_setCell w8 ⟨r, 0, none⟩ v8 b (fun e => hne (by rw [hb]; exact congrArg some e))
  · rcases Nat.lt_or_ge j l.length with hjl | hjl
    · rw [List.getElem?_append_left hjl] at hj
      obtain ⟨u, hu, ho, hd⟩ := h.each j x hj
      have hul : j < vs.length := by rw [h.len]; exact hjl
      refine ⟨u, by rw [List.getElem?_append_left hul]; exact hu, ?_, fun b hb e => ?_⟩
      · refine ho.keep fun b hb => ?_
        have h1 := ho.lt hb
        have h2 := ho.ge hb
        exact (Below.heap_setCell w8 ⟨r, 0, none⟩ v8 b (by show b ≠ r; omega)).trans ((hg8.block b (by omega) (fun e => hd b hb e.symm)).trans ((Below.heap_alloc w6 o b (by omega)).trans (hb6.block b h1)))
      · have h1 := ho.lt hb
        rcases hbo b e with e | e
        · exact hd b hb e
        · omega
    · rw [List.getElem?_append_right hjl] at hj
      have hj0 : j - l.length = 0 := by
        rcases Nat.eq_zero_or_pos (j - l.length) with h | h
        · exact h
        · rw [List.getElem?_eq_none (by simp; omega)] at hj; cases hj
      rw [hj0] at hj
      simp at hj
      subst hj
      have hul : vs.length ≤ j := by rw [h.len]; exact hjl
      refine ⟨v, by rw [List.getElem?_append_right hul, h.len, hj0]; rfl, ?_, fun b hb e => ?_⟩
      · refine (hov.more hB).keep fun b hb => ?_
        have h1 := hov.lt hb
        have h2 := hov.ge hb
        exact (Below.heap_setCell w8 ⟨r, 0, none⟩ v8 b (by show b ≠ r; omega)).trans ((hg8.block b (by omega) (fun e => by have := h.row_lt e.symm; omega)).trans (Below.heap_alloc w6 o b (by omega)))
      · have h1 := hov.lt hb
        have h2 := hov.ge hb
        rcases hbo b e with e | e
        · have := h.row_lt e; omega
        · omega
theorem NoteAt.snoc_held {wr w6 : World} {r B many : Nat} {lv v v8 : Value} {vs : List Value} {l : List (List UInt8)} {xs : List UInt8} {o : Obj} (h : NoteAt wr r B lv vs l many) (hb6 : Below wr.heap.size wr w6) (hov : OwnB w6 wr.heap.size v xs)
    (hor8 : v8.ownBlock = lv.ownBlock ∨ v8.ownBlock = some (w6.alloc o).heap.size) : ∀ b, Held v8 (vs ++ [v]) b → Held lv vs b ∨ wr.heap.size ≤ b := by
  have hs6 := hb6.size
  have hsa : (w6.alloc o).heap.size = w6.heap.size + 1 := by simp
  rintro b (hb | ⟨u, hu, hb⟩)
  · rcases hor8 with e | e
    · exact .inl (.inl (e ▸ hb))
    · rw [e, hsa] at hb; injection hb with hb; exact .inr (by omega)
  · rcases List.mem_append.1 hu with hu | hu
    · exact .inl (.inr ⟨u, hu, hb⟩)
    · rw [List.mem_singleton] at hu
      subst hu
      exact .inr (hov.ge hb)
theorem addInk_mem' {l : List (List UInt8)} {x : List UInt8} (h : x ∈ l) : addInk l x = l := by unfold addInk; rw [if_pos h]
theorem addInk_new {l : List (List UInt8)} {x : List UInt8} (h : x ∉ l) : addInk l x = l ++ [x] := by unfold addInk; rw [if_neg h]
theorem NoteAt.asked {w : World} {r B many : Nat} {lv : Value} {vs : List Value} {l : List (List UInt8)} (h : NoteAt w r B lv vs l many) : NoteAt (w.setCell ⟨r, 1, none⟩ (.int .i64 ((many + 1 : Nat) : Int))) r B lv vs l (many + 1) :=
  ⟨h.lt, h.cells.set_ 1 _, row_keep h.row fun b hb => Below.heap_setCell w ⟨r, 1, none⟩ _ b (by have := h.row_lt hb; have := h.lt; show b ≠ r; omega), fun j x hx => by
    obtain ⟨v, h1, h2, h3⟩ := h.each j x hx
    exact ⟨v, h1, h2.keep fun b hb => Below.heap_setCell w ⟨r, 1, none⟩ _ b (by have := h2.ge hb; have := h.lt; show b ≠ r; omega), h3⟩⟩

set_option maxRecDepth 100000 in
set_option maxHeartbeats 2000000 in
theorem noteOf_any (r B many : Nat) (lv : Value) (vs : List Value) (l : List (List UInt8)) (A : Option Addr) (n c : Nat) (xs : List UInt8) (w : World) (Bx : Nat) (h : NoteAt w r B lv vs l many) (hr : Reads w Bx 1 A n (xs.map vb)) (hB : Bx ≤ w.heap.size)
    (hBB : B ≤ w.heap.size) (hx : ∀ a, 0 < n → A = some a → a.block ≠ r) (hn : n ≤ 65536) (hl : l.length ≤ 1000000) (hm : many ≤ 1000000) :
    Calls Tryz.prog 18 #[.pointer (some ⟨r, 0, none⟩), .slice A n c] w fun e w' => ∃ lv' vs', e = .returned (.tuple #[.agg (bRow (shaOf xs)), .int .i64 0]) ∧ NoteAt w' r B lv' vs' (addInk l xs) (many + 1) ∧ (∀ b, Held lv' vs' b → Held lv vs b ∨ w.heap.size ≤ b) ∧ OnlyNote r lv w w' := by
  have hxn : xs.length = n := by have := hr.1; simpa using this
  have HXN := Lib.hid hxn
  have HK := Lib.hid hx
  have HN := Lib.hid h
  have HRD := Lib.hid hr
  have hrs := h.cells.lt
  clear h hr hxn hx
  go_enter Tryz.func18, Tryz.ntmps18
  go_upto_region 3 with fail
  have hW := Blk.new w 32 (Array.replicate 32 (.int .u8 0))
  have hX1 : Below w.heap.size w (w.alloc (.cells (Array.replicate 32 (.int .u8 0)) 32)) := (Below.refl _ _).alloc (Nat.le_refl _) _
  have hS1 : (w.alloc (.cells (Array.replicate 32 (.int .u8 0)) 32)).heap.size = w.heap.size + 1 := by simp
  have HN1 := Lib.hid (HN.out.below hX1)
  have HRD1 := Lib.hid (HRD.out.below (hX1.mono hB))
  rw [zeros32a] at hW hX1 hS1 HN1 HRD1
  obtain ⟨gd, hgd⟩ : ∃ g, g = w.heap.size := ⟨_, rfl⟩
  rw [← hgd] at hW hS1 ⊢
  generalize w.alloc _ = W1 at hW hX1 hS1 HN1 HRD1 ⊢
  have HGD := Lib.hid hgd
  rw [← hgd] at hrs
  have hgB : Bx ≤ gd := by omega
  have hgBB : B ≤ gd := by omega
  clear hgd
  have HD1 := Lib.hid hW
  have HX1 := Lib.hid hX1
  clear hW hX1
  have c1 : W1.cell? ⟨r, 1, none⟩ = some (.int .i64 (many : Int)) := (HN1.out.cells.cell 1).trans rfl
  have f1 := HN1.out.cells.frozen 1
  go_wp2_with fail
  rw [show ((many : Int) + 1) = ((many + 1 : Nat) : Int) by omega]
  have HT2 := Lib.hid (Turned.setCell W1 ⟨r, 1, none⟩ (.int .i64 ((many + 1 : Nat) : Int)))
  have HN2 := Lib.hid HN1.out.asked
  have HO2 := Lib.hid ((OnlyNote.of_below (r := r) (lv := lv) HX1.out).set 1 (.int .i64 ((many + 1 : Nat) : Int)))
  generalize W1.setCell _ _ = W2 at HT2 HN2 HO2 ⊢
  have hs2 := HT2.out.size
  clear c1 f1
  have hrd2 : Reads W2 Bx 1 A n (xs.map vb) := HRD1.out.keepAt (fun a h0 ha p hp => HT2.out.cell (by have := HK.out a h0 ha; show p.block ≠ r; omega))
  refine (refOf_any A n c xs W2 Bx hrd2 (by omega) (by omega)).mono ?_
  rintro _ W3 ⟨rfl, hb3⟩
  have HN3 := Lib.hid (HN2.out.below hb3)
  have HRD3 := Lib.hid (hrd2.below (hb3.mono (by omega)))
  have HD3 := Lib.hid ((HT2.out.blk HD1.out (by show gd ≠ r; omega)).below hb3 (by omega))
  have HO3 := Lib.hid (HO2.out.trans_below hb3)
  have hs3 := hb3.size
  clear hb3 hrd2
  have hdl := shaOf_len xs
  have hds : (bRow (shaOf xs)).size = 32 := by rw [bRow_size, hdl]
  have HDS := Lib.hid hds
  have HDO := Lib.hid (bRow_one (shaOf xs))
  clear hdl hds
  generalize hd : bRow (shaOf xs) = D at HDS HDO ⊢
  have HDD := Lib.hid hd
  clear hd
  go_upto_region 5 with (refine wpList_store_part rfl 32 (.tmp 6) (.tmp 21) rfl W3.heap.size 0 D rfl rfl 32 _ (Blk.newAt rfl) (by rw [HDS.out]; rfl) (by rw [HDS.out]; simp) HDO.out ?_; intro W4 hT4 hB4; rw [spl_self _ _ (by rw [HDS.out]; simp)] at hB4)
  have hX4 : Below W3.heap.size W3 W4 := hT4.below ((Below.refl _ _).alloc (Nat.le_refl _) _) (Nat.le_refl _)
  have HN4 := Lib.hid (HN3.out.below hX4)
  have HRD4 := Lib.hid (HRD3.out.below (hX4.mono (by omega)))
  have HD4 := Lib.hid (HD3.out.below' hX4)
  have HO4 := Lib.hid (HO3.out.trans_below hX4)
  have hs4 := hX4.size
  obtain ⟨ge, hge⟩ : ∃ g, g = W3.heap.size := ⟨_, rfl⟩
  rw [← hge] at hB4 ⊢
  have hgel : gd < ge := by omega
  have HB4 := Lib.hid hB4
  clear hT4 hX4 hB4 hge
  go_wp2_with fail
  go_loopw [7] (fun jv wr => ∃ j : Nat, j ≤ l.length ∧ jv = .int .i64 j ∧ (∀ k y, k < j → l[k]? = some y → y ≠ xs) ∧ Below W4.heap.size W4 wr) (fun jv _ => l.length - (intOf jv).toNat)
  case atStart => exact ⟨0, by omega, rfl, by omega, Below.refl _ _⟩
  case round =>
    obtain ⟨j, hj, rfl, hno, hE⟩ := hrel
    have HNO := Lib.hid hno
    have HE := Lib.hid hE
    have hse := hE.size
    clear hE hno
    have HNE := Lib.hid (HN4.out.below HE.out)
    obtain ⟨LA, Lc, hlv⟩ := HNE.out.shape
    have c0 : wr.cell? ⟨r, 0, none⟩ = some (.slice LA l.length Lc) := by rw [← hlv]; exact (HNE.out.cells.cell 0).trans rfl
    by_cases hjl : j < l.length
    · obtain ⟨ad, cap, Aj, mj, cj, hlv', hcell, hmc, hcm, hrj, hadb⟩ := HNE.out.at_ (List.getElem?_eq_getElem hjl)
      rw [hlv] at hlv'
      injection hlv' with h1 h2 h3
      subst h1
      subst h3
      have hrde := HRD4.out.below (HE.out.mono (by omega))
      have hmj : l[j].length = mj := by have := hrj.1; simpa using this
      have heq := eqBytes_any Aj A mj n cj c l[j] xs wr _ _ hrj hrde (by unfold maxLen at hcm ⊢; omega) (by unfold maxLen; omega)
      by_cases hyx : l[j] = xs
      · rw [decide_eq_true hyx] at heq
        have hadd : addInk l xs = l := addInk_mem' (hyx ▸ List.getElem_mem hjl)
        have HAD := Lib.hid hadd
        clear hadd
        go_wp2_with fail
        refine heq.mono ?_
        rintro _ W5 ⟨rfl, q, hq⟩
        have hb5 : Below wr.heap.size wr W5 := hq ▸ below_drewN (Below.refl _ _) q
        have HN5 := Lib.hid (HNE.out.below hb5)
        have hEb := HE.out.trans (hb5.mono hse)
        have HD5 := Lib.hid (HD4.out.below' hEb)
        have HB5 := Lib.hid (HB4.out.below' hEb)
        have HO5 := Lib.hid (HO4.out.trans_below hEb)
        clear hq hb5 hEb
        go_wp2_with (first
          | (refine wpList_load_part rfl 32 (.tmp 6) rfl ge 0 32 rfl 32 _ D _ HB5.out Tryz.underlying32 rfl rfl HDS.out (fun _ _ => by rw [Nat.zero_add]) ?_)
          | (refine wpList_store_part rfl 32 (.tmp 4) (.tmp 40) rfl gd 0 D rfl rfl 32 _ HD5.out (by rw [HDS.out]; rfl) (by rw [HDS.out]; simp) HDO.out ?_; intro W8 hT8 hB8; rw [spl_self _ _ (by rw [HDS.out]; rfl)] at hB8))
        refine bodyPost_ret (results_part2 rfl _ _ gd 32 32 _ _ rfl hB8 Tryz.underlying32 rfl rfl HDS.out) rfl ⟨lv, vs, by rw [HDD.out]; rfl, ?_, fun b hb => .inl hb, ?_⟩
        · rw [HAD.out]
          exact HN5.out.keep (hT8.block r (by omega)) fun b hb => hT8.block b (by have := HN4.out.held hb; have := HN.out.held hb; have := HGD.out; omega)
        · exact HO5.out.later hT8 (by have := HGD.out; omega)
      · rw [decide_eq_false hyx] at heq
        go_wp2_with fail
        refine heq.mono ?_
        rintro _ W5 ⟨rfl, q, hq⟩
        have hb5 : Below wr.heap.size wr W5 := hq ▸ below_drewN (Below.refl _ _) q
        have HE5 := Lib.hid (HE.out.trans (hb5.mono hse))
        clear hq hb5
        go_wp2_with fail
        go_roundw
        case rel =>
          refine ⟨j + 1, by omega, by go_num, fun k y hk hy => ?_, HE5.out⟩
          rcases Nat.lt_or_ge k j with h | h
          · exact HNO.out k y h hy
          · obtain rfl : k = j := by omega
            rw [List.getElem?_eq_getElem hjl] at hy
            injection hy with hy
            exact hy ▸ hyx
        case measure => simp [intOf]; omega
    · obtain rfl : j = l.length := by omega
      have hadd : addInk l xs = l ++ [xs] := addInk_new (fun hm => by obtain ⟨k, hk, hk2⟩ := List.getElem_of_mem hm; exact HNO.out k _ hk (List.getElem?_eq_getElem hk) hk2)
      have HAD := Lib.hid hadd
      have HCB := Lib.hid (copyBytes_any A n c xs wr.drew Bx (HRD4.out.below (HE.out.mono (by omega))).drew (by show Bx ≤ wr.heap.size; omega) (by omega))
      clear hadd
      have HRW := Lib.hid (fun W (hb : Below wr.heap.size wr W) => (HNE.out.below hb))
      obtain ⟨i0, hi0, hz0, hz1, hz2⟩ := info_parts (show (Tryz.prog.info? 22).map (fun i => (i.zero, i.size, i.bytes)) = some (some (.slice none 0 0), 1, 24) by kernel_rfl)
      go_upto_region 10 with fail
      go_region_law (first
        | (go_simp; go_at_call 39; refine HCB.out.mono ?_; rintro _ w6 ⟨v, rfl, hov, hb6'⟩; have hb6 : Below wr.heap.size wr w6 := ⟨hb6'.os, hb6'.tape, hb6'.output, hb6'.size, hb6'.block⟩; clear hb6'; obtain ⟨Av, cv, rfl, hvc, hvm, hvr, hvB⟩ := own_slice_b hov; have c6 := (hb6.cell (show (⟨r, 0, none⟩ : Addr).block < wr.heap.size from HNE.out.cells.lt)).trans c0; have c7 := fun o => (World.cell?_alloc_lt w6 o ⟨r, 0, none⟩ (by have := hb6.size; have := HNE.out.cells.lt; show r < _; omega)).trans c6)
        | (refine step_append_any _ rfl (.tmp 45) (.tmp 48) 51 rfl B 22 i0 _ 1 24 Tryz.underlying51 hi0 hz0 hz1 hz2 rfl (by omega) (.slice LA l.length Lc) l.length vs (rfl) (by rw [← hlv]; exact row_later HNE.out.row hb6 _) (w6.heap.size + 1) (some ⟨w6.heap.size, 0, none⟩) 1 1 [.slice Av xs.length cv] (rfl) (reads_one _ _ _) (by simp [Value.oneCell']) (by unfold maxLen; omega) (by omega) (by have := hb6.size; simp; have : wr.drew.heap.size = wr.heap.size := rfl; omega) ?_; intro v8 w8 hown8 hg8 hor8; obtain ⟨A8, C8, rfl⟩ := row_shape hown8; have HB8 := ((HNE.out.cells.below' hb6).alloc _).grown hg8 (by rw [← hlv]; exact fun e => HNE.out.row_ne e.symm); have c8 : w8.cell? ⟨r, 0, none⟩ = some lv := (HB8.cell 0).trans rfl; have f8 := HB8.frozen 0))
      all_goals
        have hrw : (w6.alloc (.cells #[.slice Av xs.length cv] 22)).grownBy w8 lv.ownBlock := hlv ▸ hg8
        have hor : (Value.slice A8 (l.length + 1) C8).ownBlock = lv.ownBlock ∨ (Value.slice A8 (l.length + 1) C8).ownBlock = some (w6.alloc (.cells #[.slice Av xs.length cv] 22)).heap.size := hlv ▸ hor8
        have hB6 : B ≤ wr.heap.size := by omega
        have HN9 := Lib.hid (HNE.out.snoc hb6 (hov.more (Nat.le_refl wr.heap.size)) hown8 hrw hor hB6)
        have HH9 := Lib.hid (HNE.out.snoc_held hb6 (hov.more (Nat.le_refl wr.heap.size)) hor)
        have HO9 := Lib.hid ((((HO4.out.trans_below HE.out).trans_below hb6).trans_below ((Below.refl _ w6).alloc (Nat.le_refl _) (.cells #[.slice Av xs.length cv] 22))).grown hrw |>.set 0 (.slice A8 (l.length + 1) C8))
        have hB6 := HE.out.trans (hb6.mono hse)
        have HD9 := Lib.hid ((((HD4.out.below' hB6).alloc (.cells #[.slice Av xs.length cv] 22)).grown hrw (fun e => by have := HN4.out.row_lt e.symm; have := HN.out.row_lt e.symm; have := HGD.out; omega)).far (p := ⟨r, 0, none⟩) (by show gd ≠ r; omega) (.slice A8 (l.length + 1) C8))
        have HB9 := Lib.hid ((((HB4.out.below' hB6).alloc (.cells #[.slice Av xs.length cv] 22)).grown hrw (fun e => by have := HN.out.row_lt e.symm; have := HGD.out; omega)).far (p := ⟨r, 0, none⟩) (by show ge ≠ r; omega) (.slice A8 (l.length + 1) C8))
        clear hrw hor hB6 hov hb6 hown8 hg8 hor8 c8 f8 HB8 c6 c7 hvc hvm hvr hvB
        generalize w8.setCell _ _ = W9 at HN9 HO9 HD9 HB9 ⊢
        go_wp2_with (first
          | (refine wpList_load_part rfl 32 (.tmp 6) rfl ge 0 32 rfl 32 _ D _ HB9.out Tryz.underlying32 rfl rfl HDS.out (fun _ _ => by rw [Nat.zero_add]) ?_)
          | (refine wpList_store_part rfl 32 (.tmp 4) (.tmp 52) rfl gd 0 D rfl rfl 32 _ HD9.out (by rw [HDS.out]; rfl) (by rw [HDS.out]; simp) HDO.out ?_; intro W10 hT10 hB10; rw [spl_self _ _ (by rw [HDS.out]; rfl)] at hB10))
        refine bodyPost_ret (results_part2 rfl _ _ gd 32 32 _ _ rfl hB10 Tryz.underlying32 rfl rfl HDS.out) rfl ⟨.slice A8 (l.length + 1) C8, vs ++ [.slice Av xs.length cv], by rw [HDD.out]; rfl, ?_, ?_, HO9.out.later hT10 (by have := HGD.out; omega)⟩
        · rw [HAD.out]
          exact HN9.out.keep (hT10.block r (by omega)) fun b hb => hT10.block b (by
            rcases HH9.out b hb with h | h
            · have := HN.out.held h; have := HGD.out; omega
            · omega)
        · intro b hb
          rcases HH9.out b hb with h | h
          · exact .inl h
          · exact .inr (by have := HGD.out; omega)

theorem OnlyNote.refl (r : Nat) (lv : Value) (w : World) : OnlyNote r lv w w := ⟨rfl, rfl, rfl, Nat.le_refl _, fun _ _ _ _ => rfl⟩
theorem noteOf_all (r B many : Nat) (lv : Value) (vs : List Value) (l : List (List UInt8)) (A : Option Addr) (n c : Nat) (xs : List UInt8) (w : World) (Bx : Nat) (h : NoteAt w r B lv vs l many) (hr : Reads w Bx 1 A n (xs.map vb)) (hB : Bx ≤ w.heap.size)
    (hBB : B ≤ w.heap.size) (hx : ∀ a, 0 < n → A = some a → a.block ≠ r) (hc : n ≤ c) (hcm : c ≤ maxLen) (hl : l.length ≤ 1000000) (hm : many ≤ 1000000) :
    Calls Tryz.prog 18 #[.pointer (some ⟨r, 0, none⟩), .slice A n c] w fun e w' => ∃ D code lv' vs', e = .returned (.tuple #[.agg D, .int .i64 code]) ∧ OfAns D code xs ∧ NoteAt w' r B lv' vs' (noteInk l xs) (noteN many xs) ∧ (∀ b, Held lv' vs' b → Held lv vs b ∨ w.heap.size ≤ b) ∧ OnlyNote r lv w w' := by
  have hxn : xs.length = n := by have := hr.1; simpa using this
  by_cases hn : n ≤ 65536
  · refine (noteOf_any r B many lv vs l A n c xs w Bx h hr hB hBB hx hn hl hm).mono ?_
    rintro e w' ⟨lv', vs', rfl, h1, h2, h3⟩
    have hx : xs.length ≤ 65536 := by omega
    refine ⟨_, _, lv', vs', rfl, ⟨by rw [bRow_size, shaOf_len], bRow_one _, fun _ => ⟨rfl, rfl⟩, fun hh => absurd hh (by omega)⟩, ?_, h2, h3⟩
    unfold noteInk noteN
    rw [if_pos hx, if_pos hx]
    exact h1
  · refine (noteOf_big r A n c w (by omega) hc hcm).mono ?_
    rintro e w' ⟨rfl, hb⟩
    have hx : ¬ xs.length ≤ 65536 := by omega
    refine ⟨_, _, lv, vs, rfl, ⟨by simp [inkZ, bRow], bRow_one _, fun hh => absurd hh hx, fun _ => ⟨rfl, rfl⟩⟩, ?_, fun b hb => .inl hb, OnlyNote.of_below hb⟩
    unfold noteInk noteN
    rw [if_neg hx, if_neg hx]
    exact h.below hb

end Go.Proofs.YtcmbmimmfgfefaaGreat

namespace Go.Proofs.YtcmbmimmfgfefaaGreat
set_option linter.unusedVariables false
open Go.RowKit Go.Maps

theorem loadI64_any (a : Addr) (s : Nat) (w : World) (hc : w.cell? a = some (.int .i64 (s : Int))) :
    Calls Tryz.prog 22 #[.pointer (some a)] w fun e w' => e = .returned (.int .i64 (s : Int)) ∧ w = w' := by
  have hl := run_call_load (P := Tryz.prog) Tryz.func40 (by kernel_rfl) (by kernel_rfl) (by kernel_rfl) .i64 (by kernel_rfl) hc
  go_enter Tryz.func22, Tryz.ntmps22
  go_wp2
  go_ret
  exact ⟨rfl, rfl⟩
theorem inkAsked_any (k : Book) (l : List (List UInt8)) (n : Nat) (w : World) (h : BookAt w k l n) :
    Calls Tryz.prog 12 #[.pointer (some ⟨k.g, 0, none⟩)] w fun e w' => e = .returned (.int .i64 (n : Int)) ∧ w = w' := by
  have c2 : w.cell? ⟨k.g, 2, none⟩ = some (.int .i64 (n : Int)) := (h.cells.cell 2).trans rfl
  have HN := Lib.hid (bookNone_false k l n w h)
  clear h
  go_enter Tryz.func12, Tryz.ntmps12
  go_wp2_with (first
    | (go_at_call 21; refine HN.out.mono ?_; rintro _ _ ⟨rfl, rfl⟩)
    | (go_at_call 22; refine (loadI64_any ⟨k.g, 2, none⟩ n w c2).mono ?_; rintro _ _ ⟨rfl, rfl⟩))
  go_ret
  exact ⟨rfl, rfl⟩
set_option maxHeartbeats 400000 in
theorem inkLen_any (k : Book) (l : List (List UInt8)) (n : Nat) (w : World) (h : BookAt w k l n) (hn : n ≤ 1000000) :
    Calls Tryz.prog 10 #[.pointer (some ⟨k.g, 0, none⟩)] w fun e w' => e = .returned (.int .i64 (l.length : Int)) ∧ ∃ q, w' = w.drewN q := by
  have c0 : w.cell? ⟨k.g, 0, none⟩ = some (.map (some k.b1)) := (h.cells.cell 0).trans rfl
  have c1 : w.cell? ⟨k.g, 1, none⟩ = some (.map (some k.b2)) := (h.cells.cell 1).trans rfl
  have HN := Lib.hid (bookNone_false k l n w h)
  obtain ⟨D1, D2, n1, n2, h1, h2, h3⟩ := h.maps
  have l1 := fun q => (ownsMap_drewN h1 q).len Tryz.underlying42 3
  have l2 := fun q => (ownsMap_drewN h2 q).len Tryz.underlying43 3
  have hs1 := h.len
  have hs3 := h3.size
  have hle : Maps.size D1 + Maps.size D2 ≤ 1000000 := by omega
  generalize Maps.size D1 = a at *
  generalize Maps.size D2 = b at *
  have HS := Lib.hid hs3
  clear h h1 h2 h3 hs3
  go_enter Tryz.func10, Tryz.ntmps10
  go_wp2_with (go_at_call 21; refine HN.out.mono ?_; rintro _ _ ⟨rfl, rfl⟩)
  go_quiet (fail)
  go_wp2
  go_ret
  exact ⟨ret_int (by have := HS.out; omega), _, rfl⟩

theorem inkAsked_none (w : World) (p : Option Addr) (h : NoBook w p) : Calls Tryz.prog 12 #[.pointer p] w fun e w' => e = .returned (.int .i64 0) ∧ w = w' := by
  have HN := Lib.hid (bookNone_true w p h)
  clear h
  go_enter Tryz.func12, Tryz.ntmps12
  go_wp2_with (go_at_call 21; refine HN.out.mono ?_; rintro _ _ ⟨rfl, rfl⟩)
  go_ret
  exact ⟨rfl, rfl⟩
theorem inkLen_none (w : World) (p : Option Addr) (h : NoBook w p) : Calls Tryz.prog 10 #[.pointer p] w fun e w' => e = .returned (.int .i64 0) ∧ w = w' := by
  have HN := Lib.hid (bookNone_true w p h)
  clear h
  go_enter Tryz.func10, Tryz.ntmps10
  go_wp2_with (go_at_call 21; refine HN.out.mono ?_; rintro _ _ ⟨rfl, rfl⟩)
  go_ret
  exact ⟨rfl, rfl⟩
theorem inkLen_b (k : Book) (l : List (List UInt8)) (n : Nat) (w : World) (h : BookAt w k l n) (hn : n ≤ 1000000) :
    Calls Tryz.prog 10 #[.pointer (some ⟨k.g, 0, none⟩)] w fun e w' => e = .returned (.int .i64 (l.length : Int)) ∧ Below w.heap.size w w' :=
  (inkLen_any k l n w h hn).mono fun e w' ⟨he, q, hq⟩ => ⟨he, hq ▸ below_drewN (Below.refl _ _) q⟩
theorem inkAsked_b (k : Book) (l : List (List UInt8)) (n : Nat) (w : World) (h : BookAt w k l n) :
    Calls Tryz.prog 12 #[.pointer (some ⟨k.g, 0, none⟩)] w fun e w' => e = .returned (.int .i64 (n : Int)) ∧ Below w.heap.size w w' :=
  (inkAsked_any k l n w h).mono fun e w' ⟨he, hw⟩ => ⟨he, hw ▸ Below.refl _ _⟩

end Go.Proofs.YtcmbmimmfgfefaaGreat

namespace Go.Proofs.YtcmbmimmfgfefaaGreat
set_option linter.unusedVariables false
open Go.RowKit Go.Maps

/-- a digest of what has bytes, or its error -/
structure DigAns (D : Array Value) (code : Int) (p : List UInt8 × Nat) : Prop where
  size : D.size = 32
  one : D.all (·.oneCell') = true
  code : code = p.2
  dig : p.2 = 0 → D = bRow (shaOf p.1)
  zero : p.2 ≠ 0 → D = inkZ
def digL (l : List (List UInt8)) (p : List UInt8 × Nat) : List (List UInt8) := if p.2 = 0 then addInk l p.1 else l
def digN (asked : Nat) (p : List UInt8 × Nat) : Nat := if p.2 = 0 then asked + 1 else asked
theorem digN_le (asked : Nat) (p : List UInt8 × Nat) : digN asked p ≤ asked + 1 := by unfold digN; split <;> omega
def bytesW (x : Wish) : List UInt8 × Nat := (if mayB x = true then wishB x else [], if mayB x = true then 0 else 2)
theorem bytesW_any (x : Wish) (A : Option Addr) (n c : Nat) (A' : Option Addr) (n' c' : Nat) (w : World) (B : Nat) (h : WishIn w B x A n c A' n' c') (hB : B ≤ w.heap.size) :
    Calls Tryz.prog 15 #[.agg (wCells x A n c A' n' c')] w fun e w' => ∃ v, e = .returned (.tuple #[v, .int .i64 ((bytesW x).2 : Int)]) ∧ OwnB w' w.heap.size v (bytesW x).1 ∧ Below w.heap.size w w' := by
  refine (bytes_any x A n c A' n' c' w B h hB).mono ?_
  rintro e w' ⟨v, rfl, h2, h3⟩
  refine ⟨v, ?_, h2, h3⟩
  unfold bytesW
  cases mayB x <;> rfl
theorem inkZ_eq : inkZ = #[.int .u8 0, .int .u8 0, .int .u8 0, .int .u8 0, .int .u8 0, .int .u8 0, .int .u8 0, .int .u8 0, .int .u8 0, .int .u8 0, .int .u8 0, .int .u8 0, .int .u8 0, .int .u8 0, .int .u8 0, .int .u8 0, .int .u8 0, .int .u8 0, .int .u8 0, .int .u8 0, .int .u8 0, .int .u8 0, .int .u8 0, .int .u8 0, .int .u8 0, .int .u8 0, .int .u8 0, .int .u8 0, .int .u8 0, .int .u8 0, .int .u8 0, .int .u8 0] := by kernel_rfl
theorem batch_len (l : List Wish) : (batch l).1.length ≤ 2000 := by
  unfold batch
  split
  · simp
  · split
    · rename_i h1 h2
      have := outs_len (l := l) (n := l.length) (k := 4) (fun x hx => List.all_eq_true.1 h2 x hx) (by omega) (by omega)
      unfold batchOf
      show (numB l.length ++ _).length ≤ 2000
      omega
    · simp
theorem bytesW_len (x : Wish) : (bytesW x).1.length ≤ 2000 := by
  unfold bytesW
  simp only
  split
  · rename_i h
    have := wishB_len h
    omega
  · simp
theorem own_apart {w : World} {k : Book} {A : Option Addr} {n : Nat} {B : Nat} (hB : ∀ ad, A = some ad → B ≤ ad.block) (hk : k.g < B ∧ k.b1 < B ∧ k.b2 < B) : ∀ a, 0 < n → A = some a → ¬ k.has a.block := fun a _ ha e => by
  have := hB a ha
  rcases e with e | e | e <;> omega

set_option maxRecDepth 100000 in
set_option maxHeartbeats 4000000 in
theorem batchDigest_any (k : Book) (L : List (List UInt8)) (asked : Nat) (A : Option Addr) (n c : Nat) (l : List Wish) (w : World) (B : Nat) (hbk : BookAt w k L asked) (has : asked ≤ 1000000) (h : WishesIn w B A n l) (hB : B ≤ w.heap.size) (hn : n ≤ 2000000000000) :
    Calls Tryz.prog 8 #[.pointer (some ⟨k.g, 0, none⟩), .slice A n c] w fun e w' => ∃ D code, e = .returned (.tuple #[.agg D, .int .i64 code]) ∧ DigAns D code (batch l) ∧ BookAt w' k (digL L (batch l)) (digN asked (batch l)) ∧ OnlyBook k w w' := by
  have hpl := batch_len l
  have hX : Below w.heap.size w (w.alloc (.cells inkZ 32)) := (Below.refl _ _).alloc (Nat.le_refl _) _
  have hk0 : Blk (w.alloc (.cells inkZ 32)) w.heap.size 32 inkZ := Blk.newAt (by simp)
  have HBT := Lib.hid (fun W (hb : Below w.heap.size w W) => batch_any A n c l W B (h.below (hb.mono hB)) (by have := hb.size; omega) hn)
  have hlt := hbk.lt
  have hlt1 := hlt.1
  have hlt2 := hlt.2.1
  have hlt3 := hlt.2.2
  have HBK := Lib.hid hbk
  obtain ⟨p, hp⟩ : ∃ p, p = batch l := ⟨_, rfl⟩
  rw [← hp] at HBT hpl ⊢
  clear hp h hlt hbk
  obtain ⟨bs, e⟩ := p
  simp only at HBT hpl
  have HZ := Lib.hid inkZ_eq
  have HZS := Lib.hid (show inkZ.size = 32 by simp [inkZ, bRow])
  have HZO := Lib.hid (show inkZ.all (·.oneCell') = true from bRow_one _)
  have hs0 : (w.alloc (.cells inkZ 32)).heap.size = w.heap.size + 1 := by simp
  have HX := Lib.hid hX
  have HK0 := Lib.hid hk0
  have HS0 := Lib.hid hs0
  clear hX hk0 hs0
  obtain ⟨g, hg⟩ : ∃ g, g = w.heap.size := ⟨_, rfl⟩
  go_enter Tryz.func8, Tryz.ntmps8
  go_upto_region 1 with fail
  rw [← HZ.out]
  generalize World.alloc w _ = w1 at HX HK0 HS0 ⊢
  rw [← hg] at HK0 HS0 ⊢
  have hs1 := HX.out.size
  have hg1 : g < w1.heap.size := by have := HS0.out; omega
  have hgw : w.heap.size ≤ g := by omega
  clear HS0 hg
  go_wp2_with fail
  refine (HBT.out w1 HX.out).mono ?_
  rintro _ w2 ⟨v, rfl, hob, hb2⟩
  have HB2 := Lib.hid (HX.out.trans (hb2.mono hs1))
  have HK2 := Lib.hid (HK0.out.under hb2)
  have hs2 := HB2.out.size
  have hs12 := hb2.size
  have HBK2 := Lib.hid (HBK.out.below HB2.out)
  obtain ⟨Ab, cb, rfl, hbc, hbm, hbr, hbB⟩ := own_slice_b hob
  have hap := own_apart (w := w) (k := k) (n := bs.length) hbB (by omega)
  have HAP := Lib.hid hap
  have HBR := Lib.hid hbr
  clear hob hb2 hbr hbB hap HBT HX HK0
  by_cases he : e = 0
  · subst he
    have hof := inkOf_any k L asked Ab bs.length cb bs w2 _ HBK2.out HBR.out (Nat.le_refl _) (fun a h0 ha e => HAP.out a h0 ha (.inl e)) hbc hbm (by omega) has
    have hsz : (bRow (shaOf bs)).size = 32 := by rw [bRow_size, shaOf_len]
    have hon := bRow_one (shaOf bs)
    have HF := Lib.hid (show ∀ D, D = bRow (shaOf bs) → DigAns D 0 (bs, 0) from fun D hD => ⟨by rw [hD]; exact hsz, by rw [hD]; exact hon, rfl, fun _ => hD, fun h => absurd rfl h⟩)
    obtain ⟨D, hD⟩ : ∃ D, D = bRow (shaOf bs) := ⟨_, rfl⟩
    rw [← hD] at hof hsz hon
    have HD := Lib.hid hD
    have HSZ := Lib.hid hsz
    have HON := Lib.hid hon
    have HOF := Lib.hid hof
    clear hof hD hsz hon
    go_wp2_with fail
    refine HOF.out.mono ?_
    rintro _ w3 ⟨rfl, hbk3, ho3⟩
    have HO3 := Lib.hid ((OnlyBook.of_below HB2.out).trans ho3)
    have hk3 : Blk w3 g 32 inkZ := (ho3.block g (by omega) (by rintro (e | e | e) <;> omega)).trans HK2.out
    have HK3 := Lib.hid hk3
    have HBK3 := Lib.hid hbk3
    have hs3 := ho3.size
    clear hbk3 ho3 hk3
    go_wp2_with (refine wpList_store_part (o := ⟨none, _, _, _, _, _⟩) rfl 32 (.tmp 4) (.tmp 20) rfl g 0 D rfl rfl 32 inkZ HK3.out (by rw [HSZ.out]; rfl) (by rw [HSZ.out, HZS.out]; omega) HON.out ?_; intro w5 hT5 hD5; rw [spl_self _ _ (by rw [HSZ.out, HZS.out])] at hD5)
    refine bodyPost_ret (results_part2 rfl _ _ g 32 32 _ _ rfl hD5 Tryz.underlying32 rfl rfl HSZ.out) rfl ⟨D, 0, rfl, HF.out D HD.out, ?_, ?_⟩
    · unfold digL digN
      rw [if_pos rfl, if_pos rfl]
      exact HBK3.out.grown hT5.grown ⟨by omega, by omega, by omega⟩
    · exact HO3.out.grown hT5.grown (by omega)
  · have he' : ¬ (e : Int) = 0 := by omega
    go_wp2_with (refine wpList_store_part (o := ⟨none, _, _, _, _, _⟩) rfl 32 (.tmp 4) (.tmp 15) rfl g 0 inkZ rfl (by rw [HZ.out]; rfl) 32 inkZ HK2.out (by rw [HZS.out]; rfl) (by simp) HZO.out ?_; intro w5 hT5 hD5; rw [spl_self _ _ rfl] at hD5)
    refine bodyPost_ret (results_part2 rfl _ _ g 32 32 _ _ rfl hD5 Tryz.underlying32 rfl rfl HZS.out) rfl ⟨inkZ, e, rfl, ⟨HZS.out, HZO.out, rfl, fun h => absurd h he, fun _ => rfl⟩, ?_, ?_⟩
    · unfold digL digN
      rw [if_neg he, if_neg he]
      exact HBK2.out.grown hT5.grown ⟨by omega, by omega, by omega⟩
    · exact (OnlyBook.of_below HB2.out).grown hT5.grown (by omega)

set_option maxRecDepth 100000 in
set_option maxHeartbeats 4000000 in
theorem digest_any (k : Book) (L : List (List UInt8)) (asked : Nat) (x : Wish) (A : Option Addr) (n c : Nat) (A' : Option Addr) (n' c' : Nat) (w : World) (B : Nat) (hbk : BookAt w k L asked) (has : asked ≤ 1000000) (h : WishIn w B x A n c A' n' c') (hB : B ≤ w.heap.size) :
    Calls Tryz.prog 6 #[.pointer (some ⟨k.g, 0, none⟩), .agg (wCells x A n c A' n' c')] w fun e w' => ∃ D code, e = .returned (.tuple #[.agg D, .int .i64 code]) ∧ DigAns D code (bytesW x) ∧ BookAt w' k (digL L (bytesW x)) (digN asked (bytesW x)) ∧ OnlyBook k w w' := by
  have hpl := bytesW_len x
  have hX : Below w.heap.size w ((w.alloc (.cells (wCells x A n c A' n' c') 25)).alloc (.cells inkZ 32)) := ((Below.refl _ _).alloc (Nat.le_refl _) _).alloc (by simp) _
  have hk0 : Blk ((w.alloc (.cells (wCells x A n c A' n' c') 25)).alloc (.cells inkZ 32)) (w.heap.size + 1) 32 inkZ := Blk.newAt (by simp)
  have HBT := Lib.hid (fun W (hb : Below w.heap.size w W) => bytesW_any x A n c A' n' c' W B (h.below (hb.mono hB)) (by have := hb.size; omega))
  have hlt := hbk.lt
  have hlt1 := hlt.1
  have hlt2 := hlt.2.1
  have hlt3 := hlt.2.2
  have HBK := Lib.hid hbk
  obtain ⟨p, hp⟩ : ∃ p, p = bytesW x := ⟨_, rfl⟩
  rw [← hp] at HBT hpl ⊢
  clear hp h hlt hbk
  obtain ⟨bs, e⟩ := p
  simp only at HBT hpl
  have HZ := Lib.hid inkZ_eq
  have HZS := Lib.hid (show inkZ.size = 32 by simp [inkZ, bRow])
  have HZO := Lib.hid (show inkZ.all (·.oneCell') = true from bRow_one _)
  have hs0 : ((w.alloc (.cells (wCells x A n c A' n' c') 25)).alloc (.cells inkZ 32)).heap.size = (w.heap.size + 1) + 1 := by simp
  have hkx : Blk ((w.alloc (.cells (wCells x A n c A' n' c') 25)).alloc (.cells inkZ 32)) w.heap.size 25 (wCells x A n c A' n' c') := (Blk.new w _ _).alloc _
  have HKX := Lib.hid hkx
  clear hkx
  have HX := Lib.hid hX
  have HK0 := Lib.hid hk0
  have HS0 := Lib.hid hs0
  clear hX hk0 hs0
  obtain ⟨g, hg⟩ : ∃ g, g = (w.heap.size + 1) := ⟨_, rfl⟩
  obtain ⟨gx, hgx⟩ : ∃ g, g = w.heap.size := ⟨_, rfl⟩
  go_enter Tryz.func6, Tryz.ntmps6
  go_upto_region 1 with fail
  rw [← HZ.out]
  generalize World.alloc (World.alloc w _) _ = w1 at HX HK0 HS0 HKX ⊢
  rw [← hg] at HK0 HS0 ⊢
  rw [← hgx] at HKX ⊢
  have hs1 := HX.out.size
  have hg1 : g < w1.heap.size := by have := HS0.out; omega
  have hgw : w.heap.size ≤ g := by omega
  clear HS0 hg hgx
  go_wp2_with (refine wpList_load_part (o := ⟨some 9, _, _, _, _, _⟩) rfl 25 (.tmp 3) rfl gx 0 10 rfl 25 _ (wCells x A n c A' n' c') _ HKX.out Tryz.underlying25 rfl rfl rfl (fun _ _ => by rw [Nat.zero_add]) ?_)
  refine (HBT.out w1 HX.out).mono ?_
  rintro _ w2 ⟨v, rfl, hob, hb2⟩
  have HB2 := Lib.hid (HX.out.trans (hb2.mono hs1))
  have HK2 := Lib.hid (HK0.out.under hb2)
  have hs2 := HB2.out.size
  have hs12 := hb2.size
  have HBK2 := Lib.hid (HBK.out.below HB2.out)
  obtain ⟨Ab, cb, rfl, hbc, hbm, hbr, hbB⟩ := own_slice_b hob
  have hap := own_apart (w := w) (k := k) (n := bs.length) hbB (by omega)
  have HAP := Lib.hid hap
  have HBR := Lib.hid hbr
  clear hob hb2 hbr hbB hap HBT HX HK0
  by_cases he : e = 0
  · subst he
    have hof := inkOf_any k L asked Ab bs.length cb bs w2 _ HBK2.out HBR.out (Nat.le_refl _) (fun a h0 ha e => HAP.out a h0 ha (.inl e)) hbc hbm (by omega) has
    have hsz : (bRow (shaOf bs)).size = 32 := by rw [bRow_size, shaOf_len]
    have hon := bRow_one (shaOf bs)
    have HF := Lib.hid (show ∀ D, D = bRow (shaOf bs) → DigAns D 0 (bs, 0) from fun D hD => ⟨by rw [hD]; exact hsz, by rw [hD]; exact hon, rfl, fun _ => hD, fun h => absurd rfl h⟩)
    obtain ⟨D, hD⟩ : ∃ D, D = bRow (shaOf bs) := ⟨_, rfl⟩
    rw [← hD] at hof hsz hon
    have HD := Lib.hid hD
    have HSZ := Lib.hid hsz
    have HON := Lib.hid hon
    have HOF := Lib.hid hof
    clear hof hD hsz hon
    go_wp2_with fail
    refine HOF.out.mono ?_
    rintro _ w3 ⟨rfl, hbk3, ho3⟩
    have HO3 := Lib.hid ((OnlyBook.of_below HB2.out).trans ho3)
    have hk3 : Blk w3 g 32 inkZ := (ho3.block g (by omega) (by rintro (e | e | e) <;> omega)).trans HK2.out
    have HK3 := Lib.hid hk3
    have HBK3 := Lib.hid hbk3
    have hs3 := ho3.size
    clear hbk3 ho3 hk3
    go_wp2_with (refine wpList_store_part (o := ⟨none, _, _, _, _, _⟩) rfl 32 (.tmp 4) (.tmp 20) rfl g 0 D rfl rfl 32 inkZ HK3.out (by rw [HSZ.out]; rfl) (by rw [HSZ.out, HZS.out]; omega) HON.out ?_; intro w5 hT5 hD5; rw [spl_self _ _ (by rw [HSZ.out, HZS.out])] at hD5)
    refine bodyPost_ret (results_part2 rfl _ _ g 32 32 _ _ rfl hD5 Tryz.underlying32 rfl rfl HSZ.out) rfl ⟨D, 0, rfl, HF.out D HD.out, ?_, ?_⟩
    · unfold digL digN
      rw [if_pos rfl, if_pos rfl]
      exact HBK3.out.grown hT5.grown ⟨by omega, by omega, by omega⟩
    · exact HO3.out.grown hT5.grown (by omega)
  · have he' : ¬ (e : Int) = 0 := by omega
    go_wp2_with (refine wpList_store_part (o := ⟨none, _, _, _, _, _⟩) rfl 32 (.tmp 4) (.tmp 15) rfl g 0 inkZ rfl (by rw [HZ.out]; rfl) 32 inkZ HK2.out (by rw [HZS.out]; rfl) (by simp) HZO.out ?_; intro w5 hT5 hD5; rw [spl_self _ _ rfl] at hD5)
    refine bodyPost_ret (results_part2 rfl _ _ g 32 32 _ _ rfl hD5 Tryz.underlying32 rfl rfl HZS.out) rfl ⟨inkZ, e, rfl, ⟨HZS.out, HZO.out, rfl, fun h => absurd h he, fun _ => rfl⟩, ?_, ?_⟩
    · unfold digL digN
      rw [if_neg he, if_neg he]
      exact HBK2.out.grown hT5.grown ⟨by omega, by omega, by omega⟩
    · exact (OnlyBook.of_below HB2.out).grown hT5.grown (by omega)

end Go.Proofs.YtcmbmimmfgfefaaGreat

namespace Go.Proofs.YtcmbmimmfgfefaaGreat
set_option linter.unusedVariables false
open Go.RowKit

theorem refBytesW_any (x : Wish) (A : Option Addr) (n c : Nat) (A' : Option Addr) (n' c' : Nat) (w : World) (B : Nat) (h : WishIn w B x A n c A' n' c') (hB : B ≤ w.heap.size) :
    Calls Tryz.prog 17 #[.agg (wCells x A n c A' n' c')] w fun e w' => ∃ v, e = .returned (.tuple #[v, .int .i64 ((bytesW x).2 : Int)]) ∧ OwnB w' w.heap.size v (bytesW x).1 ∧ Below w.heap.size w w' := by
  refine (refBytes_any x A n c A' n' c' w B h hB).mono ?_
  rintro e w' ⟨v, rfl, h2, h3⟩
  refine ⟨v, ?_, h2, h3⟩
  unfold bytesW
  cases mayB x <;> rfl
theorem OnlyNote.of_mid {r : Nat} {lv : Value} {a b c : World} (h : Below a.heap.size a b) (h' : OnlyNote r lv b c) : OnlyNote r lv a c :=
  ⟨h'.os.trans h.os, h'.tape.trans h.tape, h'.output.trans h.output, Nat.le_trans h.size h'.size, fun i hi h1 h2 => (h'.block i (Nat.lt_of_lt_of_le hi h.size) h1 h2).trans (h.block i hi)⟩
theorem NoteAt.turned {w w' : World} {r B many g : Nat} {lv : Value} {vs : List Value} {l : List (List UInt8)} (h : NoteAt w r B lv vs l many) (ht : Turned g w w') (hr : r ≠ g) (hk : ∀ b, Held lv vs b → b ≠ g) : NoteAt w' r B lv vs l many :=
  h.keep (ht.block r hr) fun b hb => ht.block b (hk b hb)

set_option maxRecDepth 100000 in
set_option maxHeartbeats 4000000 in
theorem refBatchDigest_any (r B0 asked : Nat) (lv : Value) (vs : List Value) (L : List (List UInt8)) (A : Option Addr) (n c : Nat) (l : List Wish) (w : World) (B : Nat) (hbk : NoteAt w r B0 lv vs L asked) (hB0 : B0 ≤ w.heap.size) (hL : L.length ≤ 1000000) (has : asked ≤ 1000000) (h : WishesIn w B A n l) (hB : B ≤ w.heap.size) (hn : n ≤ 2000000000000) :
    Calls Tryz.prog 9 #[.pointer (some ⟨r, 0, none⟩), .slice A n c] w fun e w' => ∃ D code lv' vs', e = .returned (.tuple #[.agg D, .int .i64 code]) ∧ DigAns D code (batch l) ∧ NoteAt w' r B0 lv' vs' (digL L (batch l)) (digN asked (batch l)) ∧ (∀ b, Held lv' vs' b → Held lv vs b ∨ w.heap.size ≤ b) ∧ OnlyNote r lv w w' := by
  have hpl := batch_len l
  have hX : Below w.heap.size w (w.alloc (.cells inkZ 32)) := (Below.refl _ _).alloc (Nat.le_refl _) _
  have hk0 : Blk (w.alloc (.cells inkZ 32)) w.heap.size 32 inkZ := Blk.newAt (by simp)
  have HBT := Lib.hid (fun W (hb : Below w.heap.size w W) => refBatch_any A n c l W B (h.below (hb.mono hB)) (by have := hb.size; omega) hn)
  have hlt := hbk.lt
  have hlr := hbk.cells.lt
  have HHL := Lib.hid (fun b (hb : Held lv vs b) => (hbk.held hb).2)
  have HBK := Lib.hid hbk
  obtain ⟨p, hp⟩ : ∃ p, p = batch l := ⟨_, rfl⟩
  rw [← hp] at HBT hpl ⊢
  clear hp h hbk
  obtain ⟨bs, e⟩ := p
  simp only at HBT hpl
  have HZ := Lib.hid inkZ_eq
  have HZS := Lib.hid (show inkZ.size = 32 by simp [inkZ, bRow])
  have HZO := Lib.hid (show inkZ.all (·.oneCell') = true from bRow_one _)
  have hs0 : (w.alloc (.cells inkZ 32)).heap.size = w.heap.size + 1 := by simp
  have HX := Lib.hid hX
  have HK0 := Lib.hid hk0
  have HS0 := Lib.hid hs0
  clear hX hk0 hs0
  obtain ⟨g, hg⟩ : ∃ g, g = w.heap.size := ⟨_, rfl⟩
  go_enter Tryz.func9, Tryz.ntmps9
  go_upto_region 1 with fail
  rw [← HZ.out]
  generalize World.alloc w _ = w1 at HX HK0 HS0 ⊢
  rw [← hg] at HK0 HS0 ⊢
  have hs1 := HX.out.size
  have hg1 : g < w1.heap.size := by have := HS0.out; omega
  have hgw : w.heap.size ≤ g := by omega
  clear HS0 hg
  go_wp2_with fail
  refine (HBT.out w1 HX.out).mono ?_
  rintro _ w2 ⟨v, rfl, hob, hb2⟩
  have HB2 := Lib.hid (HX.out.trans (hb2.mono hs1))
  have HK2 := Lib.hid (HK0.out.under hb2)
  have hs2 := HB2.out.size
  have hs12 := hb2.size
  have HBK2 := Lib.hid (HBK.out.below HB2.out)
  obtain ⟨Ab, cb, rfl, hbc, hbm, hbr, hbB⟩ := own_slice_b hob
  have hap : ∀ a, 0 < bs.length → Ab = some a → a.block ≠ r := fun a _ ha => by have := hbB a ha; omega
  have HAP := Lib.hid hap
  have HBR := Lib.hid hbr
  clear hob hb2 hbr hbB hap HBT HX HK0
  by_cases he : e = 0
  · subst he
    have HOF := Lib.hid (noteOf_all r B0 asked lv vs L Ab bs.length cb bs w2 _ HBK2.out HBR.out (Nat.le_refl _) (by omega) HAP.out hbc hbm hL has)
    go_wp2_with fail
    refine HOF.out.mono ?_
    rintro _ w3 ⟨D, code, lv', vs', rfl, ha3, hbk3, hh3, ho3⟩
    obtain ⟨hc0, hD⟩ := ha3.small (by omega)
    subst hc0
    have hq1 : noteInk L bs = addInk L bs := by unfold noteInk; rw [if_pos (by omega)]
    have hq2 : noteN asked bs = asked + 1 := by unfold noteN; rw [if_pos (by omega)]
    rw [hq1, hq2] at hbk3
    have HF := Lib.hid (show DigAns D 0 (bs, 0) from ⟨ha3.size, ha3.one, rfl, fun _ => hD, fun h => absurd rfl h⟩)
    have HSZ := Lib.hid ha3.size
    have HON := Lib.hid ha3.one
    have HO3 := Lib.hid (OnlyNote.of_mid HB2.out ho3)
    have hk3 : Blk w3 g 32 inkZ := (ho3.block g (by omega) (by omega) (fun e => by have := HHL.out g (.inl e); omega)).trans HK2.out
    have HK3 := Lib.hid hk3
    have HBK3 := Lib.hid hbk3
    have HH3 := Lib.hid hh3
    have hs3 := ho3.size
    clear hbk3 ho3 hk3 hh3 ha3 hD hq1 hq2
    go_wp2_with (refine wpList_store_part (o := ⟨none, _, _, _, _, _⟩) rfl 32 (.tmp 4) (.tmp 20) rfl g 0 D rfl rfl 32 inkZ HK3.out (by rw [HSZ.out]; rfl) (by rw [HSZ.out, HZS.out]; omega) HON.out ?_; intro w5 hT5 hD5; rw [spl_self _ _ (by rw [HSZ.out, HZS.out])] at hD5)
    refine bodyPost_ret (results_part2 rfl _ _ g 32 32 _ _ rfl hD5 Tryz.underlying32 rfl rfl HSZ.out) rfl ⟨D, 0, lv', vs', rfl, HF.out, ?_, ?_, ?_⟩
    · unfold digL digN
      rw [if_pos rfl, if_pos rfl]
      exact HBK3.out.turned hT5 (by omega) fun b hb => by
        rcases HH3.out b hb with h | h
        · have := HHL.out b h; omega
        · omega
    · exact fun b hb => (HH3.out b hb).imp id fun h => by omega
    · exact HO3.out.later hT5 (by omega)
  · have he' : ¬ (e : Int) = 0 := by omega
    go_wp2_with (refine wpList_store_part (o := ⟨none, _, _, _, _, _⟩) rfl 32 (.tmp 4) (.tmp 15) rfl g 0 inkZ rfl (by rw [HZ.out]; rfl) 32 inkZ HK2.out (by rw [HZS.out]; rfl) (by simp) HZO.out ?_; intro w5 hT5 hD5; rw [spl_self _ _ rfl] at hD5)
    refine bodyPost_ret (results_part2 rfl _ _ g 32 32 _ _ rfl hD5 Tryz.underlying32 rfl rfl HZS.out) rfl ⟨inkZ, e, lv, vs, rfl, ⟨HZS.out, HZO.out, rfl, fun h => absurd h he, fun _ => rfl⟩, ?_, ?_, ?_⟩
    · unfold digL digN
      rw [if_neg he, if_neg he]
      exact HBK2.out.turned hT5 (by omega) fun b hb => by have := HHL.out b hb; omega
    · exact fun b hb => .inl hb
    · exact (OnlyNote.of_below HB2.out).later hT5 (by omega)

set_option maxRecDepth 100000 in
set_option maxHeartbeats 4000000 in
theorem refDigest_any (r B0 asked : Nat) (lv : Value) (vs : List Value) (L : List (List UInt8)) (x : Wish) (A : Option Addr) (n c : Nat) (A' : Option Addr) (n' c' : Nat) (w : World) (B : Nat) (hbk : NoteAt w r B0 lv vs L asked) (hB0 : B0 ≤ w.heap.size) (hL : L.length ≤ 1000000) (has : asked ≤ 1000000) (h : WishIn w B x A n c A' n' c') (hB : B ≤ w.heap.size) :
    Calls Tryz.prog 7 #[.pointer (some ⟨r, 0, none⟩), .agg (wCells x A n c A' n' c')] w fun e w' => ∃ D code lv' vs', e = .returned (.tuple #[.agg D, .int .i64 code]) ∧ DigAns D code (bytesW x) ∧ NoteAt w' r B0 lv' vs' (digL L (bytesW x)) (digN asked (bytesW x)) ∧ (∀ b, Held lv' vs' b → Held lv vs b ∨ w.heap.size ≤ b) ∧ OnlyNote r lv w w' := by
  have hpl := bytesW_len x
  have hX : Below w.heap.size w ((w.alloc (.cells (wCells x A n c A' n' c') 25)).alloc (.cells inkZ 32)) := ((Below.refl _ _).alloc (Nat.le_refl _) _).alloc (by simp) _
  have hk0 : Blk ((w.alloc (.cells (wCells x A n c A' n' c') 25)).alloc (.cells inkZ 32)) (w.heap.size + 1) 32 inkZ := Blk.newAt (by simp)
  have HBT := Lib.hid (fun W (hb : Below w.heap.size w W) => refBytesW_any x A n c A' n' c' W B (h.below (hb.mono hB)) (by have := hb.size; omega))
  have hlt := hbk.lt
  have hlr := hbk.cells.lt
  have HHL := Lib.hid (fun b (hb : Held lv vs b) => (hbk.held hb).2)
  have HBK := Lib.hid hbk
  obtain ⟨p, hp⟩ : ∃ p, p = bytesW x := ⟨_, rfl⟩
  rw [← hp] at HBT hpl ⊢
  clear hp h hbk
  obtain ⟨bs, e⟩ := p
  simp only at HBT hpl
  have HZ := Lib.hid inkZ_eq
  have HZS := Lib.hid (show inkZ.size = 32 by simp [inkZ, bRow])
  have HZO := Lib.hid (show inkZ.all (·.oneCell') = true from bRow_one _)
  have hs0 : ((w.alloc (.cells (wCells x A n c A' n' c') 25)).alloc (.cells inkZ 32)).heap.size = (w.heap.size + 1) + 1 := by simp
  have hkx : Blk ((w.alloc (.cells (wCells x A n c A' n' c') 25)).alloc (.cells inkZ 32)) w.heap.size 25 (wCells x A n c A' n' c') := (Blk.new w _ _).alloc _
  have HKX := Lib.hid hkx
  clear hkx
  have HX := Lib.hid hX
  have HK0 := Lib.hid hk0
  have HS0 := Lib.hid hs0
  clear hX hk0 hs0
  obtain ⟨g, hg⟩ : ∃ g, g = (w.heap.size + 1) := ⟨_, rfl⟩
  obtain ⟨gx, hgx⟩ : ∃ g, g = w.heap.size := ⟨_, rfl⟩
  go_enter Tryz.func7, Tryz.ntmps7
  go_upto_region 1 with fail
  rw [← HZ.out]
  generalize World.alloc (World.alloc w _) _ = w1 at HX HK0 HS0 HKX ⊢
  rw [← hg] at HK0 HS0 ⊢
  rw [← hgx] at HKX ⊢
  have hs1 := HX.out.size
  have hg1 : g < w1.heap.size := by have := HS0.out; omega
  have hgw : w.heap.size ≤ g := by omega
  clear HS0 hg hgx
  go_wp2_with (refine wpList_load_part (o := ⟨some 9, _, _, _, _, _⟩) rfl 25 (.tmp 3) rfl gx 0 10 rfl 25 _ (wCells x A n c A' n' c') _ HKX.out Tryz.underlying25 rfl rfl rfl (fun _ _ => by rw [Nat.zero_add]) ?_)
  refine (HBT.out w1 HX.out).mono ?_
  rintro _ w2 ⟨v, rfl, hob, hb2⟩
  have HB2 := Lib.hid (HX.out.trans (hb2.mono hs1))
  have HK2 := Lib.hid (HK0.out.under hb2)
  have hs2 := HB2.out.size
  have hs12 := hb2.size
  have HBK2 := Lib.hid (HBK.out.below HB2.out)
  obtain ⟨Ab, cb, rfl, hbc, hbm, hbr, hbB⟩ := own_slice_b hob
  have hap : ∀ a, 0 < bs.length → Ab = some a → a.block ≠ r := fun a _ ha => by have := hbB a ha; omega
  have HAP := Lib.hid hap
  have HBR := Lib.hid hbr
  clear hob hb2 hbr hbB hap HBT HX HK0
  by_cases he : e = 0
  · subst he
    have HOF := Lib.hid (noteOf_all r B0 asked lv vs L Ab bs.length cb bs w2 _ HBK2.out HBR.out (Nat.le_refl _) (by omega) HAP.out hbc hbm hL has)
    go_wp2_with fail
    refine HOF.out.mono ?_
    rintro _ w3 ⟨D, code, lv', vs', rfl, ha3, hbk3, hh3, ho3⟩
    obtain ⟨hc0, hD⟩ := ha3.small (by omega)
    subst hc0
    have hq1 : noteInk L bs = addInk L bs := by unfold noteInk; rw [if_pos (by omega)]
    have hq2 : noteN asked bs = asked + 1 := by unfold noteN; rw [if_pos (by omega)]
    rw [hq1, hq2] at hbk3
    have HF := Lib.hid (show DigAns D 0 (bs, 0) from ⟨ha3.size, ha3.one, rfl, fun _ => hD, fun h => absurd rfl h⟩)
    have HSZ := Lib.hid ha3.size
    have HON := Lib.hid ha3.one
    have HO3 := Lib.hid (OnlyNote.of_mid HB2.out ho3)
    have hk3 : Blk w3 g 32 inkZ := (ho3.block g (by omega) (by omega) (fun e => by have := HHL.out g (.inl e); omega)).trans HK2.out
    have HK3 := Lib.hid hk3
    have HBK3 := Lib.hid hbk3
    have HH3 := Lib.hid hh3
    have hs3 := ho3.size
    clear hbk3 ho3 hk3 hh3 ha3 hD hq1 hq2
    go_wp2_with (refine wpList_store_part (o := ⟨none, _, _, _, _, _⟩) rfl 32 (.tmp 4) (.tmp 20) rfl g 0 D rfl rfl 32 inkZ HK3.out (by rw [HSZ.out]; rfl) (by rw [HSZ.out, HZS.out]; omega) HON.out ?_; intro w5 hT5 hD5; rw [spl_self _ _ (by rw [HSZ.out, HZS.out])] at hD5)
    refine bodyPost_ret (results_part2 rfl _ _ g 32 32 _ _ rfl hD5 Tryz.underlying32 rfl rfl HSZ.out) rfl ⟨D, 0, lv', vs', rfl, HF.out, ?_, ?_, ?_⟩
    · unfold digL digN
      rw [if_pos rfl, if_pos rfl]
      exact HBK3.out.turned hT5 (by omega) fun b hb => by
        rcases HH3.out b hb with h | h
        · have := HHL.out b h; omega
        · omega
    · exact fun b hb => (HH3.out b hb).imp id fun h => by omega
    · exact HO3.out.later hT5 (by omega)
  · have he' : ¬ (e : Int) = 0 := by omega
    go_wp2_with (refine wpList_store_part (o := ⟨none, _, _, _, _, _⟩) rfl 32 (.tmp 4) (.tmp 15) rfl g 0 inkZ rfl (by rw [HZ.out]; rfl) 32 inkZ HK2.out (by rw [HZS.out]; rfl) (by simp) HZO.out ?_; intro w5 hT5 hD5; rw [spl_self _ _ rfl] at hD5)
    refine bodyPost_ret (results_part2 rfl _ _ g 32 32 _ _ rfl hD5 Tryz.underlying32 rfl rfl HZS.out) rfl ⟨inkZ, e, lv, vs, rfl, ⟨HZS.out, HZO.out, rfl, fun h => absurd h he, fun _ => rfl⟩, ?_, ?_, ?_⟩
    · unfold digL digN
      rw [if_neg he, if_neg he]
      exact HBK2.out.turned hT5 (by omega) fun b hb => by have := HHL.out b hb; omega
    · exact fun b hb => .inl hb
    · exact (OnlyNote.of_below HB2.out).later hT5 (by omega)

end Go.Proofs.YtcmbmimmfgfefaaGreat

namespace Go.Proofs.YtcmbmimmfgfefaaGreat
set_option linter.unusedVariables false
open Go.RowKit Go.Maps

/-- what the walk carries: both books -/
structure DG (w W : World) (k : Book) (r B : Nat) (lv : Value) (vs : List Value) (L1 : List (List UInt8)) (a1 : Nat) (L2 : List (List UInt8)) (a2 : Nat) : Prop where
  bl : Below w.heap.size w W
  bk : BookAt W k L1 a1
  nt : NoteAt W r B lv vs L2 a2
  hB : B ≤ W.heap.size
  wB : w.heap.size ≤ B
  kw : w.heap.size ≤ k.g ∧ w.heap.size ≤ k.b1 ∧ w.heap.size ≤ k.b2
  rw_ : w.heap.size ≤ r
  kr : ¬ k.has r
  kh : ∀ b, Held lv vs b → ¬ k.has b
theorem DG.below {w W W' : World} {k : Book} {r B a1 a2 : Nat} {lv : Value} {vs : List Value} {L1 L2 : List (List UInt8)} (h : DG w W k r B lv vs L1 a1 L2 a2) (hb : Below W.heap.size W W') : DG w W' k r B lv vs L1 a1 L2 a2 :=
  ⟨h.bl.trans (hb.mono h.bl.size), h.bk.below hb, h.nt.below hb, Nat.le_trans h.hB hb.size, h.wB, h.kw, h.rw_, h.kr, h.kh⟩
theorem DG.ink {w W W' : World} {k : Book} {r B a1 a2 a1' : Nat} {lv : Value} {vs : List Value} {L1 L2 L1' : List (List UInt8)} (h : DG w W k r B lv vs L1 a1 L2 a2) (hb : BookAt W' k L1' a1') (ho : OnlyBook k W W') : DG w W' k r B lv vs L1' a1' L2 a2 :=
  ⟨ho.below h.bl h.bl.size h.kw, hb, h.nt.only ho h.kr h.kh, Nat.le_trans h.hB ho.size, h.wB, h.kw, h.rw_, h.kr, h.kh⟩
theorem DG.note {w W W' : World} {k : Book} {r B a1 a2 a2' : Nat} {lv lv' : Value} {vs vs' : List Value} {L1 L2 L2' : List (List UInt8)} (h : DG w W k r B lv vs L1 a1 L2 a2) (hn : NoteAt W' r B lv' vs' L2' a2') (hh : ∀ b, Held lv' vs' b → Held lv vs b ∨ W.heap.size ≤ b) (ho : OnlyNote r lv W W') : DG w W' k r B lv' vs' L1 a1 L2' a2' :=
  ⟨ho.below h.bl h.bl.size h.rw_ (fun b hb => Nat.le_trans h.wB (h.nt.row_lt hb).1), h.bk.keep fun b hb => ho.block b (h.bk.has_lt hb) (fun e => h.kr (e ▸ hb)) (fun e => h.kh b (.inl e) hb), hn, Nat.le_trans h.hB ho.size, h.wB, h.kw, h.rw_, h.kr, fun b hb hk => by
    rcases hh b hb with e | e
    · exact h.kh b e hk
    · have := h.bk.has_lt hk; omega⟩
/-- a block beside both books -/
structure SB (W : World) (k : Book) (r : Nat) (lv : Value) (vs : List Value) (g : Nat) (ty : TypeId) (D : Array Value) : Prop where
  blk : Blk W g ty D
  nk : ¬ k.has g
  nr : g ≠ r
  nh : ¬ Held lv vs g
theorem SB.new {w W W' : World} {k : Book} {r B a1 a2 : Nat} {lv : Value} {vs : List Value} {L1 L2 : List (List UInt8)} {ty : TypeId} {D : Array Value} (h : DG w W k r B lv vs L1 a1 L2 a2) (hb : Blk W' W.heap.size ty D) : SB W' k r lv vs W.heap.size ty D :=
  ⟨hb, fun e => by have := h.bk.has_lt e; omega, fun e => by have := h.nt.cells.lt; omega, fun e => by have := (h.nt.held e).2; omega⟩
theorem SB.below {W W' : World} {k : Book} {r g : Nat} {lv : Value} {vs : List Value} {ty : TypeId} {D : Array Value} (h : SB W k r lv vs g ty D) (hb : Below W.heap.size W W') : SB W' k r lv vs g ty D :=
  ⟨h.blk.below' hb, h.nk, h.nr, h.nh⟩
theorem SB.ink {W W' : World} {k : Book} {r g : Nat} {lv : Value} {vs : List Value} {ty : TypeId} {D : Array Value} (h : SB W k r lv vs g ty D) (ho : OnlyBook k W W') : SB W' k r lv vs g ty D :=
  ⟨(ho.block g h.blk.lt h.nk).trans h.blk, h.nk, h.nr, h.nh⟩
theorem SB.note {W W' : World} {k : Book} {r g : Nat} {lv lv' : Value} {vs vs' : List Value} {ty : TypeId} {D : Array Value} (h : SB W k r lv vs g ty D) (hh : ∀ b, Held lv' vs' b → Held lv vs b ∨ W.heap.size ≤ b) (ho : OnlyNote r lv W W') : SB W' k r lv' vs' g ty D :=
  ⟨(ho.block g h.blk.lt h.nr (fun e => h.nh (.inl e))).trans h.blk, h.nk, h.nr, fun e => by
    rcases hh g e with e | e
    · exact h.nh e
    · have := h.blk.lt; omega⟩
theorem DigAns.same {D D' : Array Value} {c c' : Int} {p : List UInt8 × Nat} (h : DigAns D c p) (h' : DigAns D' c' p) : D = D' ∧ c = c' := by
  refine ⟨?_, h.code.trans h'.code.symm⟩
  by_cases he : p.2 = 0
  · rw [h.dig he, h'.dig he]
  · rw [h.zero he, h'.zero he]
theorem DigAns.eql {D : Array Value} {c : Int} {p : List UInt8 × Nat} (h : DigAns D c p) (w : World) : (binOp .eql 32 (.agg D) (.agg D)).run Tryz.prog w = .ok (.bool true) w := by
  by_cases he : p.2 = 0
  · rw [h.dig he, eql_digest _ _ (shaOf_len _) (shaOf_len _), beq_self_eq_true]
  · rw [h.zero he]
    have := eql_digest (List.replicate 32 0) (List.replicate 32 0) (by simp) (by simp) w
    rw [beq_self_eq_true] at this
    exact this
/-- an operation whose value is known -/
theorem wpList_exec {P : Program} {ops : Array Oper} {rest : List Oper} {o : Oper} {a : Act} {w : World} {Q : Exit → Act → World → Prop} (hgd : o.guard = none) (v : Value)
    (he : (execOp a.eval o).run P w = .ok (.value v) w) (h : wpList P ops Q rest (a.put o.dst v) w) : wpList P ops Q (o :: rest) a w :=
  wpList_plain hgd fun _ hK => by
    unfold Oper.wp
    simp only [he]
    exact hK _ _ h
theorem wpList_wanted {P : Program} {ops : Array Oper} {rest : List Oper} {o : Oper} {a : Act} {w : World} {Q : Exit → Act → World → Prop} (hw : Region.wanted o (yielded ops a.tmps) = true)
    (h : ∀ K : Act → World → Prop, (∀ a w, wpList P ops Q rest a w → K a w) → o.wp P a w K Q) : wpList P ops Q (o :: rest) a w :=
  wpList_step fun K hK => by
    rw [if_pos hw]
    exact h K hK
/-- an operation whose value is known, guarded or not -/
theorem wpList_exec_g {P : Program} {ops : Array Oper} {rest : List Oper} {o : Oper} {a : Act} {w : World} {Q : Exit → Act → World → Prop} (hw : Region.wanted o (yielded ops a.tmps) = true) (v : Value)
    (he : (execOp a.eval o).run P w = .ok (.value v) w) (h : wpList P ops Q rest (a.put o.dst v) w) : wpList P ops Q (o :: rest) a w :=
  wpList_wanted hw fun _ hK => by
    unfold Oper.wp
    simp only [he]
    exact hK _ _ h
/-- a load of a piece, guarded or not -/
theorem wpList_load_part_g {P : Program} {ops : Array Oper} {rest : List Oper} {o : Oper} {a : Act} {w : World} {Q : Exit → Act → World → Prop} (hw : Region.wanted o (yielded ops a.tmps) = true) (ty : TypeId) (x : Operand) (ho : o.op = .load ty x)
    (g off n : Nat) (hx : a.eval x = .pointer (some ⟨g, off, none⟩)) (t : TypeId) (cs vs : Array Value) (d : TypeDesc) (hB : Blk w g t cs)
    (hu : P.underlying ty = some d) (hd : (match d with | .struct _ | .array _ _ => true | _ => false) = true) (hi : (P.info? ty).map (·.size) = some n)
    (hn : vs.size = n) (hv : ∀ j, j < n → cs[off + j]? = vs[j]?)
    (h : wpList P ops Q rest (a.put o.dst (.agg vs)) w) : wpList P ops Q (o :: rest) a w :=
  wpList_wanted hw fun _ hK => wp_load_part ty x ho g off n hx t cs vs d hB hu hd hi hn hv (hK _ _ h)
theorem digL_len (l : List (List UInt8)) (p : List UInt8 × Nat) : (digL l p).length ≤ l.length + 1 := by
  unfold digL
  split
  · exact addInk_len _ _
  · omega

set_option maxRecDepth 100000 in
set_option maxHeartbeats 8000000 in
theorem wishDigests_law (x : Wish) (A : Option Addr) (n c : Nat) (A' : Option Addr) (n' c' : Nat) (D : Option Addr) (m d : Nat) (l : List Wish) (w : World) (B : Nat) (hx : WishIn w B x A n c A' n' c') (hl : WishesIn w B D m l) (hB : B ≤ w.heap.size) (hm : m ≤ 2000000000000) :
    Calls Tryz.prog 3 #[.agg (wCells x A n c A' n' c'), .slice D m d] w fun e w' => e = .returned (.bool true) ∧ Below w.heap.size w w' := by
  have HX := Lib.hid (fun (W : World) (hb : Below w.heap.size w W) => hx.below (hb.mono hB))
  have HL := Lib.hid (fun (W : World) (hb : Below w.heap.size w W) => hl.below (hb.mono hB))
  have h0 : Below w.heap.size w (w.alloc (.cells (wCells x A n c A' n' c') 25)) := (Below.refl _ _).alloc (Nat.le_refl _) _
  have k0 : Blk (w.alloc (.cells (wCells x A n c A' n' c') 25)) w.heap.size 25 (wCells x A n c A' n' c') := Blk.newAt rfl
  obtain ⟨p, hp⟩ : ∃ p, p = bytesW x := ⟨_, rfl⟩
  obtain ⟨q, hq⟩ : ∃ q, q = batch l := ⟨_, rfl⟩
  have HD1 := Lib.hid (fun (k : Book) (L : List (List UInt8)) (a : Nat) (W : World) (hb : Below w.heap.size w W) (hk : BookAt W k L a) (ha : a ≤ 1000000) => digest_any k L a x A n c A' n' c' W B hk ha (HX.out W hb) (by have := hb.size; omega))
  have HD2 := Lib.hid (fun (r B0 a : Nat) (lv : Value) (vs : List Value) (L : List (List UInt8)) (W : World) (hb : Below w.heap.size w W) (hk : NoteAt W r B0 lv vs L a) (h0 : B0 ≤ W.heap.size) (hl : L.length ≤ 1000000) (ha : a ≤ 1000000) => refDigest_any r B0 a lv vs L x A n c A' n' c' W B hk h0 hl ha (HX.out W hb) (by have := hb.size; omega))
  have HE1 := Lib.hid (fun (k : Book) (L : List (List UInt8)) (a : Nat) (W : World) (hb : Below w.heap.size w W) (hk : BookAt W k L a) (ha : a ≤ 1000000) => batchDigest_any k L a D m d l W B hk ha (HL.out W hb) (by have := hb.size; omega) hm)
  have HE2 := Lib.hid (fun (r B0 a : Nat) (lv : Value) (vs : List Value) (L : List (List UInt8)) (W : World) (hb : Below w.heap.size w W) (hk : NoteAt W r B0 lv vs L a) (h0 : B0 ≤ W.heap.size) (hl : L.length ≤ 1000000) (ha : a ≤ 1000000) => refBatchDigest_any r B0 a lv vs L D m d l W B hk h0 hl ha (HL.out W hb) (by have := hb.size; omega) hm)
  rw [← hp] at HD1 HD2
  rw [← hq] at HE1 HE2
  clear hp hq hx hl HX HL
  have H0 := Lib.hid h0
  have K0 := Lib.hid k0
  clear h0 k0
  go_enter Tryz.func3, Tryz.ntmps3
  go_upto_region 1 with fail
  generalize World.alloc w _ = w0 at H0 K0 ⊢
  obtain ⟨gx, hgx⟩ : ∃ g, g = w.heap.size := ⟨_, rfl⟩
  rw [← hgx] at K0 ⊢
  have hgl := K0.out.lt
  have hs0 := H0.out.size
  have hgw : gx ≤ w.heap.size := by omega
  clear hgx
  go_wp2_with fail
  refine (inkNew_any w0).mono ?_
  rintro _ w1 ⟨k, rfl, hk1, hkw, hb1⟩
  have HB1 := Lib.hid (H0.out.trans (hb1.mono hs0))
  have K1 := Lib.hid (K0.out.below' hb1)
  have HK1 := Lib.hid hk1
  have hs1 := hb1.size
  have hkl := hk1.lt
  clear hk1 hb1 K0 H0
  go_wp2_with fail
  refine (noteNew_any w1).mono ?_
  rintro _ w2 ⟨r, rfl, hr1, hr2, hrb, hb2⟩
  have hs2 := hb2.size
  have HG := Lib.hid (show DG w w2 k r w2.heap.size (.slice none 0 0) [] [] 0 [] 0 from ⟨HB1.out.trans (hb2.mono (by omega)), HK1.out.below hb2, NoteAt.start hrb hr2, Nat.le_refl _, by omega, by omega, by omega, by rintro (e | e | e) <;> omega, fun b hb => by
    rcases hb with hb | ⟨v, hv, _⟩
    · simp [Value.ownBlock] at hb
    · simp at hv⟩)
  have K2 := Lib.hid (show SB w2 k r (.slice none 0 0) [] gx 25 (wCells x A n c A' n' c') from ⟨K1.out.below' hb2, by rintro (e | e | e) <;> omega, by omega, fun hb => by
    rcases hb with hb | ⟨v, hv, _⟩
    · simp [Value.ownBlock] at hb
    · simp at hv⟩)
  clear hrb hb2 HB1 HK1 K1 hkl hkw
  generalize (Value.slice none 0 0) = lv0 at HG K2
  generalize ([] : List Value) = vs0 at HG K2
  obtain ⟨B0, hB0⟩ : ∃ B0, B0 = w2.heap.size := ⟨_, rfl⟩
  rw [← hB0] at HG
  clear hB0
  go_wp2_with (refine wpList_load_part (o := ⟨some 19, _, _, _, _, _⟩) rfl 25 (.tmp 2) rfl gx 0 10 rfl 25 _ (wCells x A n c A' n' c') _ K2.out.blk Tryz.underlying25 rfl rfl rfl (fun _ _ => by rw [Nat.zero_add]) ?_)
  refine (HD1.out k _ _ w2 HG.out.bl HG.out.bk (by omega)).mono ?_
  rintro _ w3 ⟨D1, e1, rfl, ha1, hk3, ho3⟩
  have HA1 := Lib.hid ha1
  have HG3 := Lib.hid (HG.out.ink hk3 ho3)
  have K3 := Lib.hid (K2.out.ink ho3)
  clear ha1 hk3 ho3 HG K2 HD1
  go_upto_region 3 with (refine wpList_store_part (o := ⟨none, _, _, _, _, _⟩) rfl 32 (.tmp 7) (.tmp 21) rfl w3.heap.size 0 D1 rfl rfl 32 _ (Blk.newAt rfl) (by rw [HA1.out.size]; rfl) (by rw [HA1.out.size]; simp) HA1.out.one ?_; intro w4 hT4 hD4; rw [spl_self _ _ (by rw [HA1.out.size]; simp)] at hD4)
  have hX4 : Below w3.heap.size w3 w4 := hT4.below ((Below.refl _ _).alloc (Nat.le_refl _) _) (Nat.le_refl _)
  have HP4 := Lib.hid (SB.new HG3.out hD4)
  have HG4 := Lib.hid (HG3.out.below hX4)
  have K4 := Lib.hid (K3.out.below hX4)
  obtain ⟨g7, hg7⟩ : ∃ g, g = w3.heap.size := ⟨_, rfl⟩
  rw [← hg7] at HP4 ⊢
  clear hX4 hT4 hD4 hg7 HG3 K3
  go_wp2_with (refine wpList_load_part (o := ⟨some 25, _, _, _, _, _⟩) rfl 25 (.tmp 2) rfl gx 0 10 rfl 25 _ (wCells x A n c A' n' c') _ K4.out.blk Tryz.underlying25 rfl rfl rfl (fun _ _ => by rw [Nat.zero_add]) ?_)
  refine (HD2.out r B0 _ _ _ _ w4 HG4.out.bl HG4.out.nt HG4.out.hB (by simp) (by omega)).mono ?_
  rintro _ w5 ⟨D2, e2, lv5, vs5, rfl, ha2, hn5, hh5, ho5⟩
  obtain ⟨rfl, rfl⟩ := HA1.out.same ha2
  have HG5 := Lib.hid (HG4.out.note hn5 hh5 ho5)
  have HP5 := Lib.hid (HP4.out.note hh5 ho5)
  clear ha2 hn5 hh5 ho5 HG4 K4 HP4 HD2
  go_upto_region 4 with (refine wpList_store_part (o := ⟨none, _, _, _, _, _⟩) rfl 32 (.tmp 9) (.tmp 27) rfl w5.heap.size 0 D1 rfl rfl 32 _ (Blk.newAt rfl) (by rw [HA1.out.size]; rfl) (by rw [HA1.out.size]; simp) HA1.out.one ?_; intro w6 hT6 hD6; rw [spl_self _ _ (by rw [HA1.out.size]; simp)] at hD6)
  have hX6 : Below w5.heap.size w5 w6 := hT6.below ((Below.refl _ _).alloc (Nat.le_refl _) _) (Nat.le_refl _)
  have HQ6 := Lib.hid (SB.new HG5.out hD6)
  have HG6 := Lib.hid (HG5.out.below hX6)
  have HP6 := Lib.hid (HP5.out.below hX6)
  obtain ⟨g9, hg9⟩ : ∃ g, g = w5.heap.size := ⟨_, rfl⟩
  rw [← hg9] at HQ6 ⊢
  clear hX6 hT6 hD6 hg9 HG5 HP5
  have hn1 := digN_le 0 p
  have hl1 := digL_len [] p
  simp only [List.length_nil] at hl1
  generalize digN 0 p = N1 at HG6 hn1
  generalize digL [] p = L1 at HG6 hl1
  go_wp2_with fail
  refine (HE1.out k _ _ w6 HG6.out.bl HG6.out.bk (by omega)).mono ?_
  rintro _ w7 ⟨D3, e3, rfl, ha3, hk7, ho7⟩
  have HA3 := Lib.hid ha3
  have HG7 := Lib.hid (HG6.out.ink hk7 ho7)
  have HP7 := Lib.hid (HP6.out.ink ho7)
  have HQ7 := Lib.hid (HQ6.out.ink ho7)
  clear ha3 hk7 ho7 HG6 HP6 HQ6 HE1
  go_upto_region 5 with (refine wpList_store_part (o := ⟨none, _, _, _, _, _⟩) rfl 32 (.tmp 11) (.tmp 33) rfl w7.heap.size 0 D3 rfl rfl 32 _ (Blk.newAt rfl) (by rw [HA3.out.size]; rfl) (by rw [HA3.out.size]; simp) HA3.out.one ?_; intro w8 hT8 hD8; rw [spl_self _ _ (by rw [HA3.out.size]; simp)] at hD8)
  have hX8 : Below w7.heap.size w7 w8 := hT8.below ((Below.refl _ _).alloc (Nat.le_refl _) _) (Nat.le_refl _)
  have HR8 := Lib.hid (SB.new HG7.out hD8)
  have HG8 := Lib.hid (HG7.out.below hX8)
  have HP8 := Lib.hid (HP7.out.below hX8)
  have HQ8 := Lib.hid (HQ7.out.below hX8)
  obtain ⟨g11, hg11⟩ : ∃ g, g = w7.heap.size := ⟨_, rfl⟩
  rw [← hg11] at HR8 ⊢
  clear hX8 hT8 hD8 hg11 HG7 HP7 HQ7
  go_wp2_with fail
  refine (HE2.out r B0 _ _ _ _ w8 HG8.out.bl HG8.out.nt HG8.out.hB (by omega) (by omega)).mono ?_
  rintro _ w9 ⟨D4, e4, lv9, vs9, rfl, ha4, hn9, hh9, ho9⟩
  obtain ⟨rfl, rfl⟩ := HA3.out.same ha4
  have HG9 := Lib.hid (HG8.out.note hn9 hh9 ho9)
  have HP9 := Lib.hid (HP8.out.note hh9 ho9)
  have HQ9 := Lib.hid (HQ8.out.note hh9 ho9)
  have HR9 := Lib.hid (HR8.out.note hh9 ho9)
  clear ha4 hn9 hh9 ho9 HG8 HP8 HQ8 HR8 HE2
  go_upto_region 6 with (refine wpList_store_part (o := ⟨none, _, _, _, _, _⟩) rfl 32 (.tmp 13) (.tmp 39) rfl w9.heap.size 0 D3 rfl rfl 32 _ (Blk.newAt rfl) (by rw [HA3.out.size]; rfl) (by rw [HA3.out.size]; simp) HA3.out.one ?_; intro w10 hT10 hD10; rw [spl_self _ _ (by rw [HA3.out.size]; simp)] at hD10)
  have hX10 : Below w9.heap.size w9 w10 := hT10.below ((Below.refl _ _).alloc (Nat.le_refl _) _) (Nat.le_refl _)
  have HS10 := Lib.hid (SB.new HG9.out hD10)
  have HG10 := Lib.hid (HG9.out.below hX10)
  have HP10 := Lib.hid (HP9.out.below hX10)
  have HQ10 := Lib.hid (HQ9.out.below hX10)
  have HR10 := Lib.hid (HR9.out.below hX10)
  obtain ⟨g13, hg13⟩ : ∃ g, g = w9.heap.size := ⟨_, rfl⟩
  rw [← hg13] at HS10 ⊢
  clear hX10 hT10 hD10 hg13 HG9 HP9 HQ9 HR9
  have hn2 := digN_le N1 q
  have hl2 := digL_len L1 q
  generalize digN N1 q = N2 at HG10 hn2
  generalize digL L1 q = L2 at HG10 hl2
  have hq1 := Lib.hid HA1.out.eql
  have hq3 := Lib.hid HA3.out.eql
  have HZ1 := Lib.hid HA1.out.size
  have HZ3 := Lib.hid HA3.out.size
  clear HA1 HA3
  go_wp2_with (first
    | (refine wpList_exec (o := ⟨some 43, _, _, _, _, _⟩) rfl (.bool true) (exec_eql_agg 32 (.tmp 41) (.tmp 42) _ rfl D1 D1 rfl rfl eqg_digest _ (hq1.out _)) ?_)
    | (refine wpList_exec_g (o := ⟨some 52, _, _, _, _, _⟩) rfl (.bool true) (exec_eql_agg 32 (.tmp 50) (.tmp 51) _ rfl D3 D3 rfl rfl eqg_digest _ (hq3.out _)) ?_)
    | (refine wpList_load_part (o := ⟨some 41, _, _, _, _, _⟩) rfl 32 (.tmp 7) rfl g7 0 32 rfl 32 _ D1 _ HP10.out.blk Tryz.underlying32 rfl rfl HZ1.out (fun _ _ => by rw [Nat.zero_add]) ?_)
    | (refine wpList_load_part (o := ⟨some 42, _, _, _, _, _⟩) rfl 32 (.tmp 9) rfl g9 0 32 rfl 32 _ D1 _ HQ10.out.blk Tryz.underlying32 rfl rfl HZ1.out (fun _ _ => by rw [Nat.zero_add]) ?_)
    | (refine wpList_load_part_g (o := ⟨some 50, _, _, _, _, _⟩) rfl 32 (.tmp 11) rfl g11 0 32 rfl 32 _ D3 _ HR10.out.blk Tryz.underlying32 rfl rfl HZ3.out (fun _ _ => by rw [Nat.zero_add]) ?_)
    | (refine wpList_load_part_g (o := ⟨some 51, _, _, _, _, _⟩) rfl 32 (.tmp 13) rfl g13 0 32 rfl 32 _ D3 _ HS10.out.blk Tryz.underlying32 rfl rfl HZ3.out (fun _ _ => by rw [Nat.zero_add]) ?_))
  refine (inkLen_b k _ _ w10 HG10.out.bk (by omega)).mono ?_
  rintro _ w11 ⟨rfl, hb11⟩
  have HG11 := Lib.hid (HG10.out.below hb11)
  clear hb11 HG10 HP10 HQ10 HR10 HS10
  go_wp2_with fail
  refine (noteLen_any w11 HG11.out.nt).mono ?_
  rintro _ _ ⟨rfl, rfl⟩
  go_wp2_with fail
  refine (inkAsked_b k _ _ w11 HG11.out.bk).mono ?_
  rintro _ w12 ⟨rfl, hb12⟩
  have HG12 := Lib.hid (HG11.out.below hb12)
  clear hb12 HG11
  go_wp2_with fail
  refine (noteAsked_any w12 HG12.out.nt).mono ?_
  rintro _ _ ⟨rfl, rfl⟩
  go_wp2_with fail
  refine (worksW_any _).mono ?_
  rintro _ w13 ⟨rfl, hb13⟩
  have HB13 := Lib.hid (HG12.out.bl.trans (hb13.mono HG12.out.bl.size))
  clear hb13
  go_wp2_with fail
  go_ret
  exact ⟨rfl, HB13.out⟩

end Go.Proofs.YtcmbmimmfgfefaaGreat

namespace Go.Proofs.YtcmbmimmfgfefaaGreat
set_option linter.unusedVariables false
open Go.RowKit Go.WideShapes Go.ChangeShapes

theorem light_struct {H : Type} {P : Program} {t : TypeId} {fs : Array Field} {ds : List (DataW H)} (ht : P.underlying t = some (.struct fs)) (h : Light P t (.agg ds)) (j : Nat) (f : Field) (d : DataW H) (hf : fs[j]? = some f) (hd : ds[j]? = some d) : Light P f.type d := by
  unfold Light at h
  rw [DataW.weights] at h
  simp only [ht] at h
  refine fun n hn => h n (DataW.weights_mem_each (j := j) ?_ hd n hn)
  rw [List.getElem?_map, Array.getElem?_toList, hf]
  rfl

section
variable {H : Type} {enc : TypeId × Value → H} {w : World} {held : Bool}

set_option maxRecDepth 100000 in
set_option maxHeartbeats 1000000 in
theorem open_wish {fuel : Nat} {cs : List Value} {x : DataW H × List MemPlace}
    (h : DataW.trod enc Tryz.prog w 0 (fun _ => true) held fuel 25 cs = some x) (hw : Light Tryz.prog 25 x.1) :
    ∃ (y : Wish) (A : Option Addr) (n c : Nat) (A' : Option Addr) (n' c' : Nat), cs = (wCells y A n c A' n' c').toList ∧ WishIn w w.heap.size y A n c A' n' c' := by
  obtain ⟨xs, m, _, rfl, hl, hlen, hf⟩ := DataW.trod_struct Tryz.underlying25 h
  have hl10 : cs.length = 10 := by rw [hl]; kernel_rfl
  match cs, hl10 with
  | [v0, v1, v2, v3, v4, v5, v6, v7, v8, v9], _ =>
    match xs, hlen with
    | [y0, y1, y2, y3, y4, y5, y6, y7, y8, y9], _ =>
      have e0 : DataW.trod enc Tryz.prog w 0 (fun _ => true) held m 3 [v0] = some y0 := hf 0 _ rfl
      have e1 : DataW.trod enc Tryz.prog w 0 (fun _ => true) held m 3 [v1] = some y1 := hf 1 _ rfl
      have e2 : DataW.trod enc Tryz.prog w 0 (fun _ => true) held m 3 [v2] = some y2 := hf 2 _ rfl
      have e3 : DataW.trod enc Tryz.prog w 0 (fun _ => true) held m 3 [v3] = some y3 := hf 3 _ rfl
      have e4 : DataW.trod enc Tryz.prog w 0 (fun _ => true) held m 3 [v4] = some y4 := hf 4 _ rfl
      have e5 : DataW.trod enc Tryz.prog w 0 (fun _ => true) held m 3 [v5] = some y5 := hf 5 _ rfl
      have e6 : DataW.trod enc Tryz.prog w 0 (fun _ => true) held m 22 [v6] = some y6 := hf 6 _ rfl
      have e7 : DataW.trod enc Tryz.prog w 0 (fun _ => true) held m 3 [v7] = some y7 := hf 7 _ rfl
      have e8 : DataW.trod enc Tryz.prog w 0 (fun _ => true) held m 3 [v8] = some y8 := hf 8 _ rfl
      have e9 : DataW.trod enc Tryz.prog w 0 (fun _ => true) held m 23 [v9] = some y9 := hf 9 _ rfl
      have l6 := light_struct Tryz.underlying25 hw 6 _ y6.1 rfl rfl
      have l9 := light_struct Tryz.underlying25 hw 9 _ y9.1 rfl rfl
      obtain ⟨z0, q0, _, w0⟩ := DataW.trod_int Tryz.underlying3 e0
      obtain ⟨z1, q1, _, w1⟩ := DataW.trod_int Tryz.underlying3 e1
      obtain ⟨z2, q2, _, w2⟩ := DataW.trod_int Tryz.underlying3 e2
      obtain ⟨z3, q3, _, w3⟩ := DataW.trod_int Tryz.underlying3 e3
      obtain ⟨z4, q4, _, w4⟩ := DataW.trod_int Tryz.underlying3 e4
      obtain ⟨z5, q5, _, w5⟩ := DataW.trod_int Tryz.underlying3 e5
      obtain ⟨z7, q7, _, w7⟩ := DataW.trod_int Tryz.underlying3 e7
      obtain ⟨z8, q8, _, w8⟩ := DataW.trod_int Tryz.underlying3 e8
      obtain ⟨A, n, c, bs, q6, r6, h6, h6'⟩ := open_bytes Tryz.underlying22 Tryz.underlying5 (by kernel_rfl) (by kernel_rfl) e6 l6
      obtain ⟨A', n', c', zs, q9, r9, h9, h9', hz⟩ := open_nums Tryz.underlying23 Tryz.underlying3 (by kernel_rfl) (by kernel_rfl) e9 l9
      simp only [List.cons.injEq, and_true] at q0 q1 q2 q3 q4 q5 q6 q7 q8 q9
      subst q0 q1 q2 q3 q4 q5 q6 q7 q8 q9
      unfold reachBytes at h6' h9'
      exact ⟨⟨z0, z1, z2, z3, z4, z5, bs, z7, z8, zs⟩, A, n, c, A', n', c', rfl, r6, h6, by omega, r9, h9, by omega, bounds_i64 w0, bounds_i64 w1, bounds_i64 w2, bounds_i64 w3, bounds_i64 w4, bounds_i64 w5, bounds_i64 w7, bounds_i64 w8, hz⟩
end

end Go.Proofs.YtcmbmimmfgfefaaGreat

namespace Go.Proofs.YtcmbmimmfgfefaaGreat
set_option linter.unusedVariables false
open Go.RowKit Go.WideShapes Go.ChangeShapes

instance wishInh : Inhabited Wish := ⟨zeroW⟩
def WAt (w : World) (a : Addr) (i : Nat) (y : Wish × (Option Addr × Nat × Nat) × (Option Addr × Nat × Nat)) : Prop := (∀ (j : Nat) (v : Value), (wCells y.1 y.2.1.1 y.2.1.2.1 y.2.1.2.2 y.2.2.1 y.2.2.2.1 y.2.2.2.2)[j]? = some v → w.cell? (a.add (10 * i + j)) = some v) ∧ WishIn w w.heap.size y.1 y.2.1.1 y.2.1.2.1 y.2.1.2.2 y.2.2.1 y.2.2.2.1 y.2.2.2.2

section
variable {H : Type} {enc : TypeId × Value → H} {w : World} {held : Bool}

set_option maxRecDepth 100000 in
set_option maxHeartbeats 1000000 in
theorem open_wishes' {fuel : Nat} {cs : List Value} {x : DataW H × List MemPlace}
    (h : DataW.trod enc Tryz.prog w 0 (fun _ => true) held fuel 26 cs = some x) (hw : Light Tryz.prog 26 x.1) :
    ∃ (A : Option Addr) (n c : Nat) (l : List Wish), cs = [.slice A n c] ∧ WishesIn w w.heap.size A n l ∧ n ≤ c ∧ n ≤ 1256584717421 := by
  have hC : Tryz.prog.cellsOf 25 = 10 := by kernel_rfl
  have hBy : Tryz.prog.bytesOf 25 = 112 := by kernel_rfl
  rcases Deep.open_slice Tryz.underlying26 h with ⟨rfl, rfl⟩ | ⟨a, len, cap, m, n, D, Pl, rfl, _, hl, hm, hmm, rfl, hx⟩
  · exact ⟨none, 0, 0, [], rfl, ⟨rfl, fun h => absurd h (by omega)⟩, Nat.le_refl _, Nat.zero_le _⟩
  · simp only [if_true] at hmm
    subst hmm
    have hlight := light_slice Tryz.underlying26 hw
    have hlt := hlight.1
    rw [hBy] at hlt
    simp only [List.length_map, List.length_range] at hlt
    unfold reachBytes at hlt
    rw [hC] at hx
    have each : ∀ i, i < len → ∃ y : Wish × (Option Addr × Nat × Nat) × (Option Addr × Nat × Nat), WAt w a i y := by
      intro i hi
      obtain ⟨cs', h1, h2⟩ := hx i (by omega)
      obtain ⟨_, hcl, hat⟩ := World.cells?_some h1
      obtain ⟨y, A, n1, c1, A', n2, c2, hcs, hwi⟩ := open_wish h2 (hlight.2 _ (.inl (List.mem_map.2 ⟨i, List.mem_range.2 hi, rfl⟩)))
      refine ⟨(y, (A, n1, c1), (A', n2, c2)), fun j v hv => ?_, hwi⟩
      have hj : j < 10 := by
        rcases Nat.lt_or_ge j 10 with h | h
        · exact h
        · rw [Array.getElem?_eq_none (by rw [show (wCells y A n1 c1 A' n2 c2).size = 10 from rfl]; exact h)] at hv; cases hv
      have hc := hat j hj
      rw [hcs, Array.getElem?_toList, hv] at hc
      rw [show 10 * i + j = i * 10 + j by omega, ← add_of_add]
      exact hc
    obtain ⟨y, hy⟩ := Go.Deep.choose_lt (α := Wish × (Option Addr × Nat × Nat) × (Option Addr × Nat × Nat)) (p := fun i y => WAt w a i y) each
    refine ⟨some a, len, m, (List.range len).map fun i => (y i).1, rfl, ⟨by simp, fun hn => ⟨a, rfl, ?_, fun j x hj => ?_⟩⟩, hl, by omega⟩
    · have := (hy 0 hn).1 0 _ rfl
      have hb := World.block_lt_of_cell? _ _ this
      rwa [block_of_add] at hb
    · rw [List.getElem?_map] at hj
      rcases Nat.lt_or_ge j len with hjl | hjl
      · rw [List.getElem?_range hjl] at hj
        simp only [Option.map_some, Option.some.injEq] at hj
        subst hj
        obtain ⟨h1, h2⟩ := hy j hjl
        exact ⟨_, _, _, _, _, _, h1, h2⟩
      · rw [List.getElem?_eq_none (by simpa using hjl)] at hj
        simp at hj
theorem open_wishes {fuel : Nat} {cs : List Value} {x : DataW H × List MemPlace}
    (h : DataW.trod enc Tryz.prog w 0 (fun _ => true) held fuel 26 cs = some x) (hw : Light Tryz.prog 26 x.1) :
    ∃ (A : Option Addr) (n c : Nat) (l : List Wish), cs = [.slice A n c] ∧ WishesIn w w.heap.size A n l ∧ n ≤ c ∧ n ≤ 2000000000000 := by
  obtain ⟨A, n, c, l, h1, h2, h3, h4⟩ := open_wishes' h hw
  exact ⟨A, n, c, l, h1, h2, h3, by omega⟩

end

end Go.Proofs.YtcmbmimmfgfefaaGreat
