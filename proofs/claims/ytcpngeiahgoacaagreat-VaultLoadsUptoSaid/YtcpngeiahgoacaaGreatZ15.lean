/- Parts of the proof, in one text: RefNum, RefTake, RvA, RefA, RefB. -/
import Derived.Test.YtcpngeiahgoacaaGreatZ6
import Derived.Test.YtcpngeiahgoacaaGreatZ7
import Derived.Test.YtcpngeiahgoacaaGreatZ14
import Derived.Test.YtcpngeiahgoacaaGreatZ11
import Derived.Test.YtcpngeiahgoacaaGreatZ4

/- Contracts of bastideref01: digits, Num, Str, Join; bastideref11.num, str. -/
namespace Go.Proofs.YtcpngeiahgoacaaGreat
set_option linter.unusedVariables false
open Go.RowKit

theorem own_lit1 (w : World) (b : UInt8) : OwnB (w.alloc (.cells #[vb b] 5)) w.heap.size (.slice (some ⟨w.heap.size, 0, none⟩) 1 1) [b] :=
  ⟨rfl, .inr ⟨w.heap.size, 1, _, rfl, Nat.le_refl _, heap_alloc_new w _, Nat.le_refl _, by unfold maxLen; omega, rfl, rfl⟩⟩
set_option maxRecDepth 100000 in
set_option maxHeartbeats 1000000 in
theorem refDigits_any (n : Nat) (hn : n ≤ maxN) (w : World) :
    Calls Tryz.prog 175 #[.int .i64 (n : Int)] w fun e w' => ∃ v, e = .returned v ∧ OwnB w' w.heap.size v (digs n (nd n)) ∧ Below w.heap.size w w' := by
  have h7 := nd_max hn
  have hdl := digs_len n (nd n)
  obtain ⟨ds, hds⟩ : ∃ ds, ds = digs n (nd n) := ⟨_, rfl⟩
  rw [← hds] at hdl ⊢
  have HDS := Lib.hid hds
  unfold maxN at hn
  clear hds
  obtain ⟨i0, hi0, hz0, hz1, hz2⟩ := info_parts u8_info
  go_enter Tryz.func175, Tryz.ntmps175
  go_wp2_with fail
  go_loopw [0, 3] (fun nv ov wr => ∃ (m : Nat) (out : List UInt8), nv = .int .i64 m ∧ m ≤ n ∧ OwnB wr w.heap.size ov out ∧ ds = digs m (nd m) ++ out ∧ Below w.heap.size w wr) (fun nv _ _ => (intOf nv).toNat)
  case atStart => exact ⟨n, [], rfl, Nat.le_refl _, OwnB.nil _ _, by rw [List.append_nil]; exact HDS.out, Below.refl _ _⟩
  case round =>
    obtain ⟨m, out, rfl, hm, hov, hd, hbel⟩ := hrel
    have HB := Lib.hid hbel
    have hsz := hbel.size
    have hol : out.length ≤ 7 := by have := congrArg List.length hd; rw [List.length_append] at this; omega
    by_cases h0 : m = 0
    · subst h0
      have hd' : ds = out := by rw [hd, nd_zero]; rfl
      have HO := Lib.hid (hd' ▸ hov)
      clear hd hd' hov hbel
      go_wp2_with fail
      go_ret
      exact ⟨_, rfl, HO.out, HB.out⟩
    · have hd' : ds = digs (m / 256) (nd (m / 256)) ++ (UInt8.ofNat (m % 256) :: out) := by rw [hd, nd_pos h0, digs_succ, List.append_assoc]; rfl
      have HD' := Lib.hid hd'
      obtain ⟨Ao, co, rfl, hoc, hom, hor, hoB⟩ := own_slice_b hov
      have hb0 : vb (UInt8.ofNat (m % 256)) = .int .u8 ((m : Int) % 256) := by unfold vb bi; rw [UInt8.toNat_ofNat']; congr 1; omega
      have hX : Below wr.heap.size wr (wr.alloc (.cells #[vb (UInt8.ofNat (m % 256))] 5)) := (Below.refl _ _).alloc (Nat.le_refl _) _
      have hown := own_lit1 wr (UInt8.ofNat (m % 256))
      have hrr := hor.below hX
      rw [hb0] at hX hown hrr
      have HX := Lib.hid hX
      have HOW := Lib.hid hown.row
      have HRR := Lib.hid hrr
      have HB0 := Lib.hid hb0
      have hpm : 0 < (m : Int) := by omega
      clear hd hd' hov hbel hor hX hown hrr hb0
      go_wp2_with (at_builtin; go_must (refine wpList_append_any _ rfl (.tmp 9) (.tmp 10) 22 rfl wr.heap.size 5 i0 _ 1 1 Tryz.underlying22 hi0 hz0 hz1 hz2 rfl (by omega) _ _ _ rfl HOW.out wr.heap.size Ao out.length co (out.map vb) rfl HRR.out ?c1 ?c2 ?c3 ?c4 ?_))
      case c1 => intro u hu; obtain ⟨y, _, rfl⟩ := List.mem_map.1 hu; rfl
      case c2 => unfold maxLen; simp; omega
      case c3 => simp; omega
      case c4 => simp
      intro v3 w3 hown3 hg3 hor3
      have HB3 := Lib.hid (grown_below (HB.out.trans (HX.out.mono hsz)) (by simp; omega) hg3 (fun b hb => by simp [Value.ownBlock] at hb; omega))
      have ho3 : OwnB w3 wr.heap.size v3 (UInt8.ofNat (m % 256) :: out) := by
        unfold OwnB
        rw [List.length_cons, List.map_cons, HB0.out, show out.length + 1 = 1 + out.length by omega]
        have := hown3
        rw [HB0.out] at this
        exact this
      have HO3 := Lib.hid (ho3.more hsz)
      clear hown3 hg3 hor3 ho3
      go_wp2_with fail
      go_roundw
      case rel => exact ⟨m / 256, _, by go_num, by omega, HO3.out, HD'.out, HB3.out⟩
      case measure => simp [intOf]; omega

set_option maxRecDepth 100000 in
set_option maxHeartbeats 1000000 in
theorem refNum_any (n : Nat) (hn : n ≤ maxN) (w : World) :
    Calls Tryz.prog 153 #[.int .i64 (n : Int)] w fun e w' => ∃ v, e = .returned (.tuple #[v, .int .i64 0]) ∧ OwnB w' w.heap.size v (numB n) ∧ Below w.heap.size w w' := by
  have h7 := nd_max hn
  have HD := Lib.hid (fun W => refDigits_any n hn W)
  have HNB := Lib.hid (show numB n = UInt8.ofNat (nd n) :: digs n (nd n) from rfl)
  have hb0 : vb (UInt8.ofNat (nd n)) = .int .u8 (nd n : Int) := by unfold vb bi; rw [nd_byte hn]
  have HB0 := Lib.hid hb0
  have HDL := Lib.hid (digs_len n (nd n))
  unfold maxN at hn
  clear hb0
  obtain ⟨i0, hi0, hz0, hz1, hz2⟩ := info_parts u8_info
  generalize digs n (nd n) = ds at HD HNB HDL
  generalize numB n = nb at HNB ⊢
  obtain ⟨k, hk⟩ : ∃ k, k = nd n := ⟨_, rfl⟩
  rw [← hk] at h7 HB0 HDL HNB
  clear hk
  go_enter Tryz.func153, Tryz.ntmps153
  go_wp2_with fail
  refine (HD.out w).mono ?_
  rintro _ w2 ⟨v, rfl, ho, hb⟩
  obtain ⟨Ao, co, rfl, hoc, hom, hor, hoB⟩ := own_slice_b ho
  rw [HDL.out] at hoc hor ⊢
  have HB2 := Lib.hid hb
  have hsz := hb.size
  have hX : Below w2.heap.size w2 (w2.alloc (.cells #[vb (UInt8.ofNat k)] 5)) := (Below.refl _ _).alloc (Nat.le_refl _) _
  have hown := own_lit1 w2 (UInt8.ofNat k)
  have hrr := hor.below hX
  rw [HB0.out] at hX hown hrr
  have HX := Lib.hid hX
  have HOW := Lib.hid hown.row
  have HRR := Lib.hid hrr
  clear ho hb hor hX hown hrr
  go_wp2_with (at_builtin; go_must (refine wpList_append_any _ rfl (.tmp 16) (.tmp 17) 22 rfl w2.heap.size 5 i0 _ 1 1 Tryz.underlying22 hi0 hz0 hz1 hz2 rfl (by omega) _ _ _ rfl HOW.out w2.heap.size Ao k co (ds.map vb) rfl HRR.out ?c1 ?c2 ?c3 ?c4 ?_))
  case c1 => intro u hu; obtain ⟨y, _, rfl⟩ := List.mem_map.1 hu; rfl
  case c2 => unfold maxLen; simp; omega
  case c3 => simp; omega
  case c4 => simp
  intro v3 w3 hown3 hg3 hor3
  have HB3 := Lib.hid (grown_below (HB2.out.trans (HX.out.mono hsz)) (by simp; omega) hg3 (fun b hb => by simp [Value.ownBlock] at hb; omega))
  have ho3 : OwnB w3 w2.heap.size v3 nb := by
    rw [HNB.out]
    unfold OwnB
    rw [List.length_cons, HDL.out, List.map_cons, HB0.out, show k + 1 = 1 + k by omega]
    have := hown3
    rw [HB0.out] at this
    exact this
  have HO3 := Lib.hid (ho3.more hsz)
  clear hown3 hg3 hor3 ho3
  go_wp2_with fail
  go_ret2
  exact ⟨_, rfl, HO3.out, HB3.out⟩

set_option maxRecDepth 100000 in
set_option maxHeartbeats 1000000 in
theorem refStr_any (A : Option Addr) (n c : Nat) (xs : List UInt8) (w : World) (B : Nat) (h : Reads w B 1 A n (xs.map vb)) (hB : B ≤ w.heap.size) (hn : n ≤ 65536) :
    Calls Tryz.prog 121 #[.slice A n c] w fun e w' => ∃ v, e = .returned (.tuple #[v, .int .i64 0]) ∧ OwnB w' w.heap.size v (strB xs) ∧ Below w.heap.size w w' := by
  have hxn : xs.length = n := by have := h.1; simpa using this
  have HXN := Lib.hid hxn
  have H := Lib.hid h
  have HSB := Lib.hid (show strB xs = numB n ++ xs by unfold strB; rw [hxn])
  have HNL := Lib.hid (numB_len (n := n) (by unfold maxN; omega))
  have HNM := Lib.hid (fun W => refNum_any n (by unfold maxN; omega) W)
  clear hxn h
  obtain ⟨i0, hi0, hz0, hz1, hz2⟩ := info_parts u8_info
  generalize numB n = nb at HSB HNL HNM
  generalize strB xs = sb at HSB ⊢
  go_enter Tryz.func121, Tryz.ntmps121
  go_wp2_with fail
  refine (HNM.out w).mono ?_
  rintro _ w2 ⟨v, rfl, ho, hb⟩
  have HB2 := Lib.hid hb
  have hsz := hb.size
  have HOW := Lib.hid ho.row
  have hge := fun b (hb : v.ownBlock = some b) => ho.ge hb
  have HGE := Lib.hid hge
  have HRR := Lib.hid (H.out.below (hb.mono hB))
  have hnl := HNL.out.2
  clear ho hb hge
  go_wp2_with (at_builtin; go_must (refine wpList_append_any _ rfl (.tmp 15) (.tmp 16) 22 rfl w.heap.size 5 i0 _ 1 1 Tryz.underlying22 hi0 hz0 hz1 hz2 rfl (by omega) _ _ _ rfl HOW.out B A n c (xs.map vb) rfl HRR.out ?c1 ?c2 ?c3 ?c4 ?_))
  case c1 => intro u hu; obtain ⟨y, _, rfl⟩ := List.mem_map.1 hu; rfl
  case c2 => unfold maxLen; omega
  case c3 => omega
  case c4 => omega
  intro v3 w3 hown3 hg3 hor3
  have HB3 := Lib.hid (grown_below HB2.out (by omega) hg3 (fun b hb => HGE.out b hb))
  have HO3 := Lib.hid (show OwnB w3 w.heap.size v3 sb by
    rw [HSB.out]
    unfold OwnB
    rw [List.length_append, List.map_append, HXN.out]
    exact hown3)
  clear hown3 hg3 hor3
  go_wp2_with fail
  go_ret2
  exact ⟨_, rfl, HO3.out, HB3.out⟩

set_option maxRecDepth 100000 in
set_option maxHeartbeats 1000000 in
theorem refJoin_any (A : Option Addr) (n c : Nat) (xss : List (List UInt8)) (w : World) (B : Nat) (h : RowsB w B A n xss) (hB : B ≤ w.heap.size) (hn : n ≤ 1000000) (hl : xss.flatten.length ≤ 100000000) :
    Calls Tryz.prog 122 #[.slice A n c] w fun e w' => ∃ v, e = .returned v ∧ OwnB w' w.heap.size v xss.flatten ∧ Below w.heap.size w w' := by
  have H := Lib.hid h
  have hxn := h.1
  have HXN := Lib.hid hxn
  clear h hxn
  obtain ⟨i0, hi0, hz0, hz1, hz2⟩ := info_parts u8_info
  go_enter Tryz.func122, Tryz.ntmps122
  go_wp2_with fail
  go_loopw [3, 4] (fun ov iv wr => ∃ i : Nat, i ≤ n ∧ iv = .int .i64 i ∧ OwnB wr w.heap.size ov (xss.take i).flatten ∧ Below w.heap.size w wr) (fun _ iv _ => n - (intOf iv).toNat)
  case atStart => exact ⟨0, by omega, rfl, OwnB.nil _ _, Below.refl _ _⟩
  case round =>
    obtain ⟨i, hi, rfl, hov, hbel⟩ := hrel
    have HOV := Lib.hid hov
    have HB := Lib.hid hbel
    have hsz := hbel.size
    clear hov hbel
    by_cases hin : i < n
    · obtain ⟨ad, hA, hadb, hcell⟩ := H.out.2 (by omega)
      subst hA
      have hxi : i < xss.length := by have := HXN.out; omega
      obtain ⟨Ak, mk, ck, hck, hrk⟩ := hcell i xss[i] (List.getElem?_eq_getElem hxi)
      have hck' := (HB.out.cell (show (ad.add i).block < w.heap.size by rw [block_of_add]; omega)).trans hck
      have hrk' := hrk.below (HB.out.mono hB)
      have hmk : xss[i].length = mk := by have := hrk.1; simpa using this
      obtain ⟨ys, hys⟩ : ∃ ys, ys = (xss.take i).flatten := ⟨_, rfl⟩
      have htk : (xss.take (i + 1)).flatten = (xss.take i).flatten ++ xss[i] := by rw [List.take_succ_eq_append_getElem hxi, List.flatten_append]; simp only [List.flatten_cons, List.flatten_nil, List.append_nil]
      have htl : (xss.take (i + 1)).flatten.length ≤ xss.flatten.length := by
        conv => rhs; rw [← List.take_append_drop (i + 1) xss, List.flatten_append, List.length_append]
        omega
      rw [htk, List.length_append] at htl
      rw [← hys] at HOV htk htl
      have HTK := Lib.hid htk
      have HYS := Lib.hid hys
      clear hys
      have HWN := Lib.hid HOV.out.row
      have HRK := Lib.hid hrk'
      generalize xss[i] = x at HTK HRK hmk htl
      have HMK := Lib.hid hmk
      clear hcell hck hrk hrk' hmk htk
      go_wp2_with (at_builtin; go_must (refine wpList_append_any _ rfl (.tmp 11) (.tmp 15) 22 rfl w.heap.size 5 i0 _ 1 1 Tryz.underlying22 hi0 hz0 hz1 hz2 rfl (by omega) _ _ _ rfl HWN.out B Ak mk ck (x.map vb) rfl HRK.out ?c1 ?c2 ?c3 ?c4 ?_))
      case c1 => intro u hu; obtain ⟨y, _, rfl⟩ := List.mem_map.1 hu; rfl
      case c2 => have := HMK.out; unfold maxLen; omega
      case c3 => have := HMK.out; omega
      case c4 => omega
      intro v3 w3 hown3 hg3 hor3
      have HB3 := Lib.hid (grown_below HB.out hsz hg3 (fun b hb => HOV.out.ge hb))
      have HO3 := Lib.hid (show OwnB w3 w.heap.size v3 (xss.take (i + 1)).flatten by
        unfold OwnB
        rw [HTK.out, List.length_append, List.map_append, HMK.out]
        exact hown3)
      clear hown3 hg3 hor3
      go_wp2_with fail
      go_roundw
      case rel => exact ⟨i + 1, by omega, by go_num, HO3.out, HB3.out⟩
      case measure => simp [intOf]; omega
    · obtain rfl : i = n := by omega
      go_wp2_with fail
      go_ret
      refine ⟨_, rfl, ?_, HB.out⟩
      have := HOV.out
      rw [List.take_of_length_le (by have := HXN.out; omega)] at this
      exact this

end Go.Proofs.YtcpngeiahgoacaaGreat

/- Contracts of bastideref01: TakeNum, TakeFix, TakeStr. -/
namespace Go.Proofs.YtcpngeiahgoacaaGreat
set_option linter.unusedVariables false
open Go.RowKit

set_option maxRecDepth 100000 in
set_option maxHeartbeats 2000000 in
theorem refTakeNum_any (A : Option Addr) (n c : Nat) (xs : List UInt8) (w : World) (B : Nat) (h : Reads w B 1 A n (xs.map vb)) (hB : B ≤ w.heap.size) (hc : n ≤ c) (hcm : n ≤ 140737488355328) :
    Calls Tryz.prog 115 #[.slice A n c] w fun e w' => ∃ v, e = .returned (.tuple #[.int .i64 ((tn xs).1 : Int), v, .int .i64 ((tn xs).2.2 : Int)]) ∧ OwnB w' w.heap.size v (tn xs).2.1 ∧ Below w.heap.size w w' := by
  have hxn : xs.length = n := by have := h.1; simpa using this
  cases xs with
  | nil =>
    simp at hxn
    subst hxn
    go_enter Tryz.func115, Tryz.ntmps115
    go_wp2_with fail
    go_ret3
    exact ⟨_, rfl, OwnB.nil _ _, Below.refl _ _⟩
  | cons m r =>
    obtain ⟨ad, hA, hadb, hcell⟩ := h.2 (by simp at hxn; omega)
    subst hA
    obtain ⟨k, hk⟩ : ∃ k, k = m.toNat := ⟨_, rfl⟩
    have hk8 : k < 256 := by rw [hk]; exact m.toNat_lt
    have hwk : wrap64 (k : Int) = (k : Int) := by unfold wrap64; omega
    have c0 : w.cell? ad = some (.int .u8 (k : Int)) := by
      have h0 : w.cell? ad = some (vb m) := by have := hcell 0 (vb m) rfl; simpa [Addr.add] using this
      rw [hk]
      exact h0
    have hcr : ∀ j (hj : j < r.length), w.cell? (ad.add (j + 1)) = some (vb r[j]) := fun j hj => hcell (j + 1) _ (by rw [List.map_cons, List.getElem?_cons_succ, List.getElem?_map, List.getElem?_eq_getElem hj]; rfl)
    have hrn : r.length = n - 1 := by simp at hxn; omega
    have hn1 : 1 ≤ n := by simp at hxn; omega
    have HK := Lib.hid hk
    have H := Lib.hid h
    have HCR := Lib.hid hcr
    have HRN := Lib.hid hrn
    have hn0 : ¬ (n : Int) = 0 := by omega
    have hn1' : (1 : Int) ≤ n := by omega
    clear hcell hxn h hk hrn hcr
    go_enter Tryz.func115, Tryz.ntmps115
    go_upto_region 4 with fail
    clear c0
    by_cases h1 : 7 < k
    · have htn : tn (m :: r) = (0, [], 4) := by unfold tn takeN; simp only [← HK.out]; rw [if_pos h1]
      have HT := Lib.hid htn
      clear htn
      go_wp2_with fail
      go_ret3
      exact ⟨_, by rw [HT.out]; rfl, by rw [HT.out]; exact OwnB.nil _ _, Below.refl _ _⟩
    · by_cases h2 : n - 1 < k
      · have htn : tn (m :: r) = (0, [], 3) := by unfold tn takeN; simp only [← HK.out]; rw [if_neg h1, if_pos (by have := HRN.out; omega)]
        have HT := Lib.hid htn
        have h2' : (n : Int) - 1 < k := by omega
        clear htn
        go_wp2_with fail
        go_ret3
        exact ⟨_, by rw [HT.out]; rfl, by rw [HT.out]; exact OwnB.nil _ _, Below.refl _ _⟩
      · have h2' : ¬ (n : Int) - 1 < k := by omega
        by_cases h3 : 0 < k ∧ r.head? = some 0
        · have htn : tn (m :: r) = (0, [], 4) := by unfold tn takeN; simp only [← HK.out]; rw [if_neg h1, if_neg (by have := HRN.out; omega), if_pos h3]
          have HT := Lib.hid htn
          clear htn
          obtain ⟨h3a, h3b⟩ := h3
          have c1 : w.cell? ⟨ad.block, ad.off + 1, none⟩ = some (.int .u8 0) := by
            show w.cell? (ad.add 1) = _
            cases r with
            | nil => simp at h3b
            | cons a t => simp at h3b; subst h3b; exact HCR.out 0 (by simp)
          have hn2 : (1 : Int) < n := by omega
          have hn2' : 1 < n := by omega
          go_wp2_with fail
          go_ret3
          exact ⟨_, by rw [HT.out]; rfl, by rw [HT.out]; exact OwnB.nil _ _, Below.refl _ _⟩
        · go_upto_region 8 with fail
          go_cut [29] (fun s25 wx => s25 = .bool false ∧ wx = w)
          case first =>
            by_cases h0 : 0 < k
            · have hnx : ∃ z, w.cell? ⟨ad.block, ad.off + 1, none⟩ = some (.int .u8 z) ∧ z ≠ 0 := by
                show ∃ z, w.cell? (ad.add 1) = some (.int .u8 z) ∧ z ≠ 0
                cases r with
                | nil => have := HRN.out; simp at this; omega
                | cons a t =>
                  refine ⟨bi a, HCR.out 0 (by simp), fun e => h3 ⟨h0, ?_⟩⟩
                  simp
                  exact bi_inj e
              obtain ⟨z, hc1', hz⟩ := hnx
              have hzz : (z == 0) = false := by simp [hz]
              have hn2 : (1 : Int) < n := by omega
              have hn2' : 1 < n := by omega
              go_wp2_with fail
              go_meet
              exact ⟨rfl, rfl⟩
            · have h0' : k = 0 := by omega
              subst h0'
              go_wp2_with fail
              go_meet
              exact ⟨rfl, rfl⟩
          case rest =>
            obtain ⟨rfl, rfl⟩ := hcut
            go_wp2_with fail
            go_loopw [6, 7] (fun av iv wr => ∃ j : Nat, j ≤ k ∧ iv = .int .i64 ((j + 1 : Nat) : Int) ∧ av = .int .i64 ((valB (r.take j) : Nat) : Int) ∧ wc = wr) (fun _ iv _ => k + 1 - (intOf iv).toNat)
            case atStart => exact ⟨0, by omega, rfl, rfl, rfl⟩
            case round =>
              obtain ⟨i, hi, rfl, rfl, rfl⟩ := hrel
              have hil : i < k → i < r.length := fun h => by have := HRN.out; omega
              by_cases hik : i < k
              · have hcu := HCR.out i (hil hik)
                have hv : valB (r.take (i + 1)) = valB (r.take i) * 256 + (r[i]'(hil hik)).toNat := by rw [List.take_succ_eq_append_getElem (hil hik), valB_snoc]
                have hvl := valB_lt i (r.take i) (by rw [List.length_take]; have := HRN.out; omega)
                have hvl6 : valB (r.take i) < 256 ^ 6 := Nat.lt_of_lt_of_le hvl (Nat.pow_le_pow_right (by omega) (by omega))
                have h256 := (r[i]'(hil hik)).toNat_lt
                have hc2' : wc.cell? (ad.add (i + 1)) = some (.int .u8 (((r[i]'(hil hik)).toNat : Nat) : Int)) := hcu
                have hc3' : wc.cell? ⟨ad.block, ad.off + (i + 1), none⟩ = some (.int .u8 (((r[i]'(hil hik)).toNat : Nat) : Int)) := hc2'
                generalize (r[i]'(hil hik)).toNat = y at hv h256 hc2' hc3'
                obtain ⟨x, hx⟩ : ∃ x, x = valB (r.take i) := ⟨_, rfl⟩
                rw [← hx] at hv hvl6 ⊢
                have HV := Lib.hid hv
                have HX := Lib.hid hx
                have hx6 : x < 281474976710656 := hvl6
                have hin1 : i + 1 < n := by omega
                have hie : ((i + 1 : Nat) : Int) ≤ k := by omega
                clear hvl hvl6 hv hx hcu
                go_wp2_with fail
                go_roundw
                case rel => exact ⟨i + 1, by omega, by go_num, by rw [HV.out]; go_num, trivial⟩
                case measure => simp [intOf]; omega
              · obtain rfl : i = k := by omega
                have hie : ¬ ((i + 1 : Nat) : Int) ≤ i := by omega
                have htk : tn (m :: r) = if maxN < valB (r.take i) then (0, [], 9) else (valB (r.take i), r.drop i, 0) := by
                  unfold tn takeN
                  simp only [← HK.out]
                  rw [if_neg h1, if_neg (by have := HRN.out; omega), if_neg h3]
                  by_cases hq : maxN < valB (r.take i)
                  · rw [if_pos hq, if_pos hq]
                  · rw [if_neg hq, if_neg hq]
                have hvl := valB_lt i (r.take i) (by rw [List.length_take]; have := HRN.out; omega)
                have hx6 : valB (r.take i) < 72057594037927936 := Nat.lt_of_lt_of_le hvl (Nat.pow_le_pow_right (show 256 > 0 by omega) (show i ≤ 7 by omega))
                clear hvl
                generalize valB (r.take i) = x at htk hx6
                by_cases hx9 : maxN < x
                · rw [if_pos hx9] at htk
                  have HT := Lib.hid htk
                  clear htk
                  unfold maxN at hx9
                  go_wp2_with fail
                  go_ret3
                  exact ⟨_, by rw [HT.out]; rfl, by rw [HT.out]; exact OwnB.nil _ _, Below.refl _ _⟩
                · rw [if_neg hx9] at htk
                  have HT := Lib.hid htk
                  clear htk
                  unfold maxN at hx9
                  have hsl3 := fun W => run_slice_from (P := Tryz.prog) (t := 22) (e := 5) rfl rfl (some ad) n c (i + 1) ((i : Int) + 1) rfl (by omega) W
                  have hr3 := H.out.cut (cap := c) (show i + 1 ≤ n by omega) hc
                  obtain ⟨A3, hA3⟩ : ∃ A3, A3 = (if c = i + 1 then some ad else (some ad).map (·.add (i + 1))) := ⟨_, rfl⟩
                  rw [Nat.mul_one, ← hA3, ← List.map_drop, List.drop_succ_cons] at hr3
                  rw [← hA3] at hsl3
                  have hwr : IntKind.i64.wrap (1 + (i : Int)) = (i : Int) + 1 := by rw [Int.add_comm]; exact IntWalk.i64_in _ (by omega)
                  have hac : (1 + (i : Int)) = (i : Int) + 1 := Int.add_comm _ _
                  have HR3 := Lib.hid hr3
                  clear hA3 hr3
                  go_wp2_with fail
                  refine (copyBytes_any A3 (n - (i + 1)) (c - (i + 1)) (r.drop i) wc B HR3.out (by omega) (by omega)).mono ?_
                  rintro _ w5 ⟨v, rfl, hov, hb5⟩
                  have HO5 := Lib.hid hov
                  have HB5 := Lib.hid hb5
                  clear hov hb5
                  go_wp2_with fail
                  go_ret3
                  refine ⟨v, by rw [HT.out]; rfl, ?_, HB5.out⟩
                  rw [HT.out]
                  exact HO5.out

set_option maxRecDepth 100000 in
set_option maxHeartbeats 2000000 in
theorem refTakeFix_any (A : Option Addr) (n c k : Nat) (xs : List UInt8) (w : World) (B : Nat) (h : Reads w B 1 A n (xs.map vb)) (hB : B ≤ w.heap.size) (hc : n ≤ c) (hcm : n ≤ 140737488355328) (hk : k ≤ 140737488355328) :
    Calls Tryz.prog 116 #[.slice A n c, .int .i64 (k : Int)] w fun e w' => ∃ v v', e = .returned (.tuple #[v, v', .int .i64 (if n < k then 3 else 0)]) ∧ OwnB w' w.heap.size v (if n < k then [] else xs.take k) ∧ OwnB w' w.heap.size v' (if n < k then [] else xs.drop k) ∧ Below w.heap.size w w' := by
  have hxn : xs.length = n := by have := h.1; simpa using this
  have HXN := Lib.hid hxn
  have H := Lib.hid h
  clear hxn h
  by_cases hkn : n < k
  · rw [if_pos hkn, if_pos hkn, if_pos hkn]
    go_enter Tryz.func116, Tryz.ntmps116
    go_wp2_with fail
    go_ret3
    exact ⟨_, _, rfl, OwnB.nil _ _, OwnB.nil _ _, Below.refl _ _⟩
  · rw [if_neg hkn, if_neg hkn, if_neg hkn]
    have hsl2 := fun W => run_slice_to (P := Tryz.prog) (t := 22) (e := 5) rfl rfl A n c k (k : Int) rfl (by omega) W
    have hsl3 := fun W => run_slice_from (P := Tryz.prog) (t := 22) (e := 5) rfl rfl A n c k (k : Int) rfl (by omega) W
    have hr2 := H.out.to (cap := c) (show k ≤ n by omega) hc
    have hr3 := H.out.cut (cap := c) (show k ≤ n by omega) hc
    obtain ⟨A2, hA2⟩ : ∃ A2, A2 = (if c = 0 then A else A.map (·.add 0)) := ⟨_, rfl⟩
    obtain ⟨A3, hA3⟩ : ∃ A3, A3 = (if c = k then A else A.map (·.add k)) := ⟨_, rfl⟩
    rw [Nat.mul_one, ← hA3] at hr3
    rw [← hA2] at hsl2 hr2
    rw [← hA3] at hsl3
    rw [← List.map_take] at hr2
    rw [← List.map_drop] at hr3
    have HC2 := Lib.hid (fun W (hb : Below w.heap.size w W) => copyBytes_any A2 k c (xs.take k) W B (hr2.below (hb.mono hB)) (by have := hb.size; omega) (by omega))
    have HC3 := Lib.hid (fun W (hb : Below w.heap.size w W) => copyBytes_any A3 (n - k) (c - k) (xs.drop k) W B (hr3.below (hb.mono hB)) (by have := hb.size; omega) (by omega))
    clear hA2 hA3 hr2 hr3
    go_enter Tryz.func116, Tryz.ntmps116
    go_upto_region 5 with fail
    refine wp_region_rel' 8 21 (fun j W v => match j with
      | 0 | 4 => v = .slice A n c
      | 1 | 5 => v = .int .i64 (k : Int)
      | 2 => v = .slice A2 k c
      | 3 => OwnB W w.heap.size v (xs.take k)
      | 6 => v = .slice A3 (n - k) (c - k)
      | _ => OwnB W w.heap.size v (xs.drop k)) [13, 14, 15, 16, 17, 18, 19, 20] (by kernel_rfl) (by kernel_rfl) (by kernel_rfl) (by simp) (by kernel_rfl) (fun j => ?last) ?heads ?_
    case last =>
      match j with
      | 0 | 1 | 2 | 4 | 5 | 6 => exact Lasts.pure _
      | 3 => exact lasts_own _ _
      | j + 7 => exact lasts_own _ _
    case heads =>
      simp only [List.take_succ_cons, List.take_zero]
      refine ⟨fun a W hb hkp hd => ?_, fun a W hb hkp hd => ?_, fun a W hb hkp hd => ?_, fun a W hb hkp hd => ?_, fun a W hb hkp hd => ?_, fun a W hb hkp hd => ?_, fun a W hb hkp hd => ?_, fun a W hb hkp hd => ?_, trivial⟩
      · have e0 : a.tmps[0]?.getD undef = .slice A n c := hkp.get (by kernel_rfl) rfl
        exact rel_value rfl (.slice A n c) (by go_simp) rfl
      · have e0 : a.tmps[1]?.getD undef = .int .i64 (k : Int) := hkp.get (by kernel_rfl) rfl
        exact rel_value rfl (.int .i64 (k : Int)) (by go_simp) rfl
      · have e0 : a.tmps[13]?.getD undef = .slice A n c := (hd 0 (by kernel_rfl)).get 13 rfl rfl
        have e1 : a.tmps[14]?.getD undef = .int .i64 (k : Int) := (hd 1 (by kernel_rfl)).get 14 rfl rfl
        exact rel_value rfl (.slice A2 k c) (by go_simp) rfl
      · have e0 : a.tmps[15]?.getD undef = .slice A2 k c := (hd 2 (by kernel_rfl)).get 15 rfl rfl
        refine rel_call rfl 8 #[.slice A2 k c] (by go_simp) ((HC2.out W hb).mono ?_)
        rintro e w' ⟨v, rfl, ho, hb'⟩
        exact ⟨v, rfl, hb', ho.more hb.size⟩
      · have e0 : a.tmps[0]?.getD undef = .slice A n c := hkp.get (by kernel_rfl) rfl
        exact rel_value rfl (.slice A n c) (by go_simp) rfl
      · have e0 : a.tmps[1]?.getD undef = .int .i64 (k : Int) := hkp.get (by kernel_rfl) rfl
        exact rel_value rfl (.int .i64 (k : Int)) (by go_simp) rfl
      · have e0 : a.tmps[17]?.getD undef = .slice A n c := (hd 4 (by kernel_rfl)).get 17 rfl rfl
        have e1 : a.tmps[18]?.getD undef = .int .i64 (k : Int) := (hd 5 (by kernel_rfl)).get 18 rfl rfl
        exact rel_value rfl (.slice A3 (n - k) (c - k)) (by go_simp) rfl
      · have e0 : a.tmps[19]?.getD undef = .slice A3 (n - k) (c - k) := (hd 6 (by kernel_rfl)).get 19 rfl rfl
        refine rel_call rfl 8 #[.slice A3 (n - k) (c - k)] (by go_simp) ((HC3.out W hb).mono ?_)
        rintro e w' ⟨v, rfl, ho, hb'⟩
        exact ⟨v, rfl, hb', ho.more hb.size⟩
    intro f W hb hd
    have h3 : OwnB W w.heap.size (f 16) (xs.take k) := hd 3 (by omega) _ 16 rfl rfl
    have h7 : OwnB W w.heap.size (f 20) (xs.drop k) := hd 7 (by omega) _ 20 rfl rfl
    have H3 := Lib.hid h3
    have H7 := Lib.hid h7
    have HB := Lib.hid hb
    clear h3 h7 hd hb
    simp only [putAll, List.drop_succ_cons, List.drop_zero]
    try simp only [Act.put, List.setIfInBounds_toArray, List.set_cons_zero, List.set_cons_succ]
    go_wp2_with fail
    go_ret3
    exact ⟨_, _, rfl, H3.out, H7.out, HB.out⟩


set_option maxRecDepth 100000 in
set_option maxHeartbeats 2000000 in
theorem refTakeStr_any (A : Option Addr) (n c most : Nat) (xs : List UInt8) (w : World) (B : Nat) (h : Reads w B 1 A n (xs.map vb)) (hB : B ≤ w.heap.size) (hc : n ≤ c) (hcm : n ≤ 140737488355328) (hm : most ≤ 65536) :
    Calls Tryz.prog 62 #[.slice A n c, .int .i64 (most : Int)] w fun e w' => ∃ v v', e = .returned (.tuple #[v, v', .int .i64 ((ts xs most).2.2 : Int)]) ∧ OwnB w' w.heap.size v (ts xs most).1 ∧ OwnB w' w.heap.size v' (ts xs most).2.1 ∧ Below w.heap.size w w' := by
  have hxn : xs.length = n := by have := h.1; simpa using this
  have HTN := Lib.hid (refTakeNum_any A n c xs w B h hB hc hcm)
  have hts := ts_eq xs most
  have htl := tn_len xs
  have htm := tn_num xs
  have hte := tn_err xs
  obtain ⟨p, hp⟩ : ∃ p, p = tn xs := ⟨_, rfl⟩
  rw [← hp] at HTN hts htl htm hte
  obtain ⟨k, r, e⟩ := p
  simp only at HTN hts htl htm hte
  have HTS := Lib.hid hts
  have HTL := Lib.hid htl
  unfold maxN at htm
  rw [hxn] at htl
  have HXN := Lib.hid hxn
  clear h hts hp hxn
  go_enter Tryz.func62, Tryz.ntmps62
  go_wp2_with fail
  refine HTN.out.mono ?_
  rintro _ w2 ⟨v, rfl, hov, hb2⟩
  have HO2 := Lib.hid hov
  have HB2 := Lib.hid hb2
  have hs2 := hb2.size
  clear hov hb2
  by_cases he : e = 0
  · subst he
    obtain ⟨Av, cv, rfl, hvc, hvm, hvr, hvB⟩ := own_slice_b HO2.out
    by_cases h5 : min most 65536 < k
    · have hq : ts xs most = ([], [], 5) := by rw [HTS.out, if_neg (by omega), if_pos h5]
      have HQ := Lib.hid hq
      clear hq hvr
      have hmk : most < k := by omega
      have hmin : min (most : Int) 65536 = (most : Int) := by omega
      go_wp2_with fail
      go_ret3
      exact ⟨_, _, by rw [HQ.out]; rfl, by rw [HQ.out]; exact OwnB.nil _ _, by rw [HQ.out]; exact OwnB.nil _ _, HB2.out⟩
    · have hmk : ¬ most < k := by omega
      have hmin : min (most : Int) 65536 = (most : Int) := by omega
      have hq : ts xs most = if r.length < k then ([], [], 3) else (r.take k, r.drop k, 0) := by rw [HTS.out, if_neg (by omega), if_neg h5]
      have HQ := Lib.hid hq
      have HVR := Lib.hid hvr
      clear hq hvr
      obtain ⟨rl, hrl⟩ : ∃ rl, rl = r.length := ⟨_, rfl⟩
      rw [← hrl] at HVR hvc htl HQ ⊢
      have HRL := Lib.hid hrl
      clear hrl
      go_wp2_with fail
      refine (refTakeFix_any Av rl cv k r w2 _ HVR.out (Nat.le_refl _) hvc (by omega) (by omega)).mono ?_
      rintro _ w3 ⟨v, v', rfl, ho, ho', hb3⟩
      have HO3 := Lib.hid (ho.more (B' := w.heap.size) hs2)
      have HO4 := Lib.hid (ho'.more (B' := w.heap.size) hs2)
      have HB3 := Lib.hid (HB2.out.trans (hb3.mono hs2))
      clear ho ho' hb3
      by_cases h6 : rl < k
      · rw [if_pos h6] at HQ
        rw [if_pos h6] at HO3 HO4 ⊢
        go_wp2_with fail
        go_ret3
        exact ⟨_, _, by rw [HQ.out]; rfl, by rw [HQ.out]; exact HO3.out, by rw [HQ.out]; exact HO4.out, HB3.out⟩
      · rw [if_neg h6] at HQ
        rw [if_neg h6] at HO3 HO4 ⊢
        go_wp2_with fail
        go_ret3
        exact ⟨_, _, by rw [HQ.out]; rfl, by rw [HQ.out]; exact HO3.out, by rw [HQ.out]; exact HO4.out, HB3.out⟩
  · have hq : ts xs most = ([], [], e) := by rw [HTS.out, if_pos he]
    have HQ := Lib.hid hq
    clear hq
    have he' : ¬ (e : Int) = 0 := by omega
    go_wp2_with fail
    go_ret3
    exact ⟨_, _, by rw [HQ.out]; rfl, by rw [HQ.out]; exact OwnB.nil _ _, by rw [HQ.out]; exact OwnB.nil _ _, HB2.out⟩


end Go.Proofs.YtcpngeiahgoacaaGreat

/- bastideref16: num, client, numbers (genrva.py). -/
namespace Go.Proofs.YtcpngeiahgoacaaGreat
set_option linter.unusedVariables false
set_option linter.unusedSimpArgs false
open Go.RowKit Go.Maps

attribute [local irreducible] wpList wpCalm

set_option maxRecDepth 100000 in
set_option maxHeartbeats 2000000 in
theorem rnum_any (n : Nat) (hn : n ≤ maxN) (w : World) :
    Calls Tryz.prog 123 #[.int .i64 (n : Int)] w fun e w' => ∃ v, e = .returned v ∧ OwnB w' w.heap.size v (numB n) ∧ Below w.heap.size w w' := by
  have HN := Lib.hid (refNum_any n hn w)
  clear hn
  go_enter Tryz.func123, Tryz.ntmps123
  go_wp2_with fail
  refine HN.out.mono ?_
  rintro _ w2 ⟨v, rfl, ho, hb⟩
  go_wp2_with fail
  go_ret
  exact ⟨_, rfl, ho, hb⟩

def RClientPost (w : World) (o : Option (Nat × List UInt8)) (e : Ending) (w' : World) : Prop := ∃ v, e = .returned (.tuple #[.int .i64 ((o.getD (0, [])).1 : Int), v, .bool o.isSome]) ∧ OwnB w' w.heap.size v (o.getD (0, [])).2 ∧ Below w.heap.size w w'

set_option maxRecDepth 100000 in
set_option maxHeartbeats 4000000 in
theorem rclient_any (A : Option Addr) (n c : Nat) (xs : List UInt8) (w : World) (B : Nat) (h : Reads w B 1 A n (xs.map vb)) (hB : B ≤ w.heap.size) (hc : n ≤ c) (hcm : n ≤ 140737488355328) :
    Calls Tryz.prog 67 #[.slice A n c] w (RClientPost w (clientOf xs)) := by
  have HTN := Lib.hid (refTakeNum_any A n c xs w B h hB hc hcm)
  have hxn : xs.length = n := by have := h.1; simpa using this
  obtain ⟨o, ho⟩ : ∃ o, o = clientOf xs := ⟨_, rfl⟩
  have hoe : o = if (tn xs).2.2 ≠ 0 then none else if (ts (tn xs).2.1 16).2.2 ≠ 0 ∨ 0 < (ts (tn xs).2.1 16).2.1.length ∨ (0 < (ts (tn xs).2.1 16).1.length ∧ ((ts (tn xs).2.1 16).1.length ≠ 16 ∨ (tn xs).1 = 0)) then none else some ((tn xs).1, (ts (tn xs).2.1 16).1) := ho
  rw [← ho]
  have htl := tn_len xs
  have htm := tn_num xs
  obtain ⟨p, hp⟩ : ∃ p, p = tn xs := ⟨_, rfl⟩
  rw [← hp] at HTN hoe htl htm
  obtain ⟨k, r, e⟩ := p
  simp only at HTN hoe htl htm
  obtain ⟨q, hq⟩ : ∃ q, q = ts r 16 := ⟨_, rfl⟩
  rw [← hq] at hoe
  have HQ := Lib.hid hq
  have HOE := Lib.hid hoe
  have HTL := Lib.hid htl
  unfold maxN at htm
  clear h ho hoe hp hq htl
  go_enter Tryz.func67, Tryz.ntmps67
  go_wp2_with fail
  refine HTN.out.mono ?_
  rintro _ w2 ⟨v, rfl, ho, hb2⟩
  obtain ⟨A1, c1, hv, q1, q2, hr1, _⟩ := own_slice_b ho
  subst hv
  have HR1 := Lib.hid hr1
  have HX2 := Lib.hid hb2
  have hs2 := hb2.size
  clear ho hb2 hr1 HTN
  by_cases he : e = 0
  · have heb : ((e : Int) != 0) = false := by simp [he]
    have HTS := Lib.hid (refTakeStr_any A1 r.length c1 16 r w2 w2.heap.size HR1.out (Nat.le_refl _) q1 (by have := HTL.out; omega) (by omega))
    rw [← HQ.out] at HTS
    obtain ⟨d, r2, e2⟩ := q
    simp only at HTS HOE
    have HTS2 := Lib.hid (show Calls Tryz.prog 62 #[.slice A1 r.length c1, .int .i64 16] w2 _ from HTS.out)
    have hoe2 : o = if clBad k e2 d r2 then none else some (k, d) := by
      have := HOE.out
      rw [if_neg (by omega)] at this
      exact this
    have HOE2 := Lib.hid hoe2
    clear hoe2 HTS
    go_upto_region 4 with fail
    go_wp2_with fail
    refine HTS2.out.mono ?_
    rintro _ w3 ⟨v, v', rfl, hod, hor, hb3⟩
    obtain ⟨A3, c3, hv, q3, q4, hr3, hge3⟩ := own_slice_b hod
    obtain ⟨A4, c4, hv', _, _, _, _⟩ := own_slice_b hor
    subst hv hv'
    have HD3 := Lib.hid hod
    have HX3 := Lib.hid (HX2.out.trans (hb3.mono (by omega)))
    have hs3 := hb3.size
    obtain ⟨dl, hdl⟩ : ∃ k, k = d.length := ⟨_, rfl⟩
    obtain ⟨rl, hrl⟩ : ∃ k, k = r2.length := ⟨_, rfl⟩
    rw [← hdl] at HD3 ⊢
    rw [← hrl]
    have HDL := Lib.hid hdl
    have HRL := Lib.hid hrl
    clear hod hor hb3 hr3 HTS2 hdl hrl heb hge3
    by_cases h1 : e2 = 0
    · have h1b : ((e2 : Int) != 0) = false := by simp [h1]
      subst h1
      by_cases h2 : rl = 0
      · subst h2
        by_cases h3 : dl = 0
        · subst h3
          by_cases h5 : k = 0
          · subst h5
            have ho : o = some (0, d) := by
              rw [HOE2.out, if_neg]
              unfold clBad
              rw [← HDL.out, ← HRL.out]
              omega
            subst ho
            go_wp2_with fail
            go_ret3
            exact ⟨_, rfl, HD3.out.more (by omega), HX3.out⟩
          · have h5b : ((k : Int) == 0) = false := by simpa using h5
            have ho : o = some (k, d) := by
              rw [HOE2.out, if_neg]
              unfold clBad
              rw [← HDL.out, ← HRL.out]
              omega
            subst ho
            go_wp2_with fail
            go_ret3
            exact ⟨_, rfl, HD3.out.more (by omega), HX3.out⟩
        · have h3b : (0 : Int) < (dl : Int) := by omega
          have h3c : ((dl : Int) != 0) = true := by simp; omega
          by_cases h4 : dl = 16
          · subst h4
            by_cases h5 : k = 0
            · subst h5
              have ho : o = none := by
                rw [HOE2.out, if_pos]
                unfold clBad
                rw [← HDL.out, ← HRL.out]
                omega
              subst ho
              go_wp2_with fail
              go_ret3
              exact ⟨_, rfl, OwnB.nil _ _, HX3.out⟩
            · have h5b : ((k : Int) == 0) = false := by simpa using h5
              have ho : o = some (k, d) := by
                rw [HOE2.out, if_neg]
                unfold clBad
                rw [← HDL.out, ← HRL.out]
                omega
              subst ho
              go_wp2_with fail
              go_ret3
              exact ⟨_, rfl, HD3.out.more (by omega), HX3.out⟩
          · have h4b : ((dl : Int) != 16) = true := by simp; omega
            have ho : o = none := by
              rw [HOE2.out, if_pos]
              unfold clBad
              rw [← HDL.out, ← HRL.out]
              omega
            subst ho
            go_wp2_with fail
            go_ret3
            exact ⟨_, rfl, OwnB.nil _ _, HX3.out⟩
      · have h2b : (0 : Int) < (rl : Int) := by omega
        have ho : o = none := by
          rw [HOE2.out, if_pos]
          unfold clBad
          rw [← HDL.out, ← HRL.out]
          omega
        subst ho
        go_wp2_with fail
        go_ret3
        exact ⟨_, rfl, OwnB.nil _ _, HX3.out⟩
    · have h1b : ((e2 : Int) != 0) = true := by simpa using h1
      have ho : o = none := by
        rw [HOE2.out, if_pos]
        unfold clBad
        rw [← HDL.out, ← HRL.out]
        omega
      subst ho
      go_wp2_with fail
      go_ret3
      exact ⟨_, rfl, OwnB.nil _ _, HX3.out⟩
  · have heb : ((e : Int) != 0) = true := by simpa using he
    have ho : o = none := by rw [HOE.out, if_pos he]
    subst ho
    go_wp2_with fail
    go_ret3
    exact ⟨_, rfl, OwnB.nil _ _, HX2.out⟩

set_option maxRecDepth 100000 in
set_option maxHeartbeats 8000000 in
theorem rnumbers_any (A : Option Addr) (n c : Nat) (xs : List UInt8) (w : World) (B : Nat) (h : Reads w B 1 A n (xs.map vb)) (hB : B ≤ w.heap.size) (hc : n ≤ c) (hn : n ≤ 1000000000000) :
    Calls Tryz.prog 68 #[.slice A n c] w (NumsPost w (numsV xs)) := by
  obtain ⟨o, ho⟩ : ∃ o, o = numsV xs := ⟨_, rfl⟩
  rw [← ho]
  have HO := Lib.hid ho
  have HST := Lib.hid (show PsSt w xs n A n c (.slice none 0 0) xs [] w from ⟨h.more hB, hc, OwnN.nil_ _ _, by simp, by cases numsV xs <;> rfl, fun x hx => by simp at hx, Below.refl _ _⟩)
  obtain ⟨i0, hi0, hz0, hz1, hz2⟩ := info_parts ci_info
  obtain ⟨n0, hn0⟩ : ∃ k, k = n := ⟨_, rfl⟩
  rw [← hn0] at hn
  have HST2 := Lib.hid (show PsSt w xs n0 A n c (.slice none 0 0) xs [] w from hn0 ▸ HST.out)
  clear h ho HST hc hn0
  go_enter Tryz.func68, Tryz.ntmps68
  go_wp2_with fail
  go_loopw [0, 4] (fun bv lv wr => ∃ (A : Option Addr) (n c : Nat) (rest : List UInt8) (done : List Nat), bv = .slice A n c ∧ PsSt w xs n0 A n c lv rest done wr) (fun bv _ _ => (match bv with | .slice _ n _ => n | _ => 0))
  case atStart => exact ⟨_, _, _, _, _, rfl, HST2.out⟩
  case round =>
    obtain ⟨A, n, c, rest, done, rfl, hps⟩ := hrel
    have HPS := Lib.hid hps
    have hrl : rest.length = n := by have := hps.rd.1; simpa using this
    have HRL := Lib.hid hrl
    have hsz := hps.low.size
    have hlen := hps.len
    clear hps hrl
    by_cases h0 : n = 0
    · subst h0
      have hre : rest = [] := List.eq_nil_of_length_eq_zero (by have := HRL.out; omega)
      have hnum : o = some done := by
        have := HPS.out.num
        rw [hre] at this
        rw [HO.out, this]
        simp [numsV_nil]
      have HOWN := Lib.hid HPS.out.own
      have HMAX := Lib.hid HPS.out.max
      have HLOW := Lib.hid HPS.out.low
      clear hre HPS HRL HO hlen
      subst hnum
      go_wp2_with fail
      go_ret2
      exact ⟨_, rfl, HOWN.out, HMAX.out, HLOW.out⟩
    · have h0b : (0 : Int) < (n : Int) := by omega
      have hne : rest ≠ [] := by intro e; have := HRL.out; rw [e] at this; simp at this; omega
      have HTN := Lib.hid (refTakeNum_any A n c rest wr wr.heap.size HPS.out.rd (Nat.le_refl _) HPS.out.cap (by omega))
      have htm := tn_num rest
      have HBADN := Lib.hid (fun (he : (tn rest).2.2 ≠ 0) => numsV_bad hne he)
      have HNEXT := Lib.hid (fun (he : (tn rest).2.2 = 0) => numsV_next hne he)
      have HSHR := Lib.hid (fun (he : (tn rest).2.2 = 0) => tn_shrink he)
      obtain ⟨p, hp⟩ : ∃ p, p = tn rest := ⟨_, rfl⟩
      rw [← hp] at HTN htm HBADN HNEXT HSHR
      obtain ⟨k, r, e⟩ := p
      simp only at HTN htm HBADN HNEXT HSHR
      have HTM := Lib.hid htm
      clear hne hp htm
      obtain ⟨Al, cl, hlv, hlc, _, _, _⟩ := own_slice_n HPS.out.own
      rw [nI_len] at hlv hlc
      subst hlv
      go_wp2_with fail
      refine HTN.out.mono ?_
      rintro _ w2 ⟨v, rfl, ho2, hb2⟩
      obtain ⟨A1, c1, hv, q1, q2, hr1, _⟩ := own_slice_b ho2
      subst hv
      have HR1 := Lib.hid hr1
      have HOB := Lib.hid ho2
      have HL2 := Lib.hid (HPS.out.low.trans (hb2.mono hsz))
      have HOW2 := Lib.hid (HPS.out.own.below_ hb2)
      have hs2 := hb2.size
      clear ho2 hb2 hr1 HTN
      by_cases he : e = 0
      · have heb : ((e : Int) != 0) = false := by simp [he]
        have hshr := HSHR.out he
        have hnx := HNEXT.out he
        rw [HRL.out] at hshr
        have HNX := Lib.hid hnx
        have HW := Lib.hid (show (w2.alloc (.cells #[.int .i64 (k : Int)] 3)).ownsRow w.heap.size 3 1 (.slice Al done.length cl) done.length ((nI done).map vn) from by
          have := World.ownsRow.alloc HOW2.out (.cells #[.int .i64 (k : Int)] 3)
          rw [nI_len] at this
          exact this)
        have HR3 := Lib.hid (reads_cells w2 #[.int .i64 (k : Int)] 3)
        have HR1b := Lib.hid (HR1.out.below (below_lit w2 (.cells #[.int .i64 (k : Int)] 3)))
        obtain ⟨dn, hdn⟩ : ∃ d, d = done.length := ⟨_, rfl⟩
        rw [← hdn] at HW hlen ⊢
        have HDN := Lib.hid hdn
        obtain ⟨rl, hrl⟩ : ∃ d, d = r.length := ⟨_, rfl⟩
        rw [← hrl] at hshr HR1b q1 ⊢
        have HRLE := Lib.hid hrl
        clear hnx hdn hrl
        go_wp2_with (at_builtin; go_must (refine wpList_append_any _ rfl (.tmp 19) (.tmp 21) 42 rfl w.heap.size 3 i0 _ 1 8 Tryz.underlying42 hi0 hz0 hz1 hz2 rfl (by omega) _ dn ((nI done).map vn) rfl HW.out (w2.heap.size + 1) (some ⟨w2.heap.size, 0, none⟩) 1 1 [.int .i64 (k : Int)] rfl HR3.out ?c1 ?c2 ?c3 ?c4 ?_))
        case c1 => intro z hz; rw [List.mem_singleton] at hz; subst hz; rfl
        case c2 => unfold maxLen; omega
        case c3 => omega
        case c4 => simp; omega
        intro v6 w6 hown6 hg6 hor6
        have hps6 : PsSt w xs n0 A1 rl c1 v6 r (done ++ [k]) w6 := by
          have hge : ∀ b, (Value.slice Al dn cl).ownBlock = some b → w.heap.size ≤ b := fun b hb => (rowD_lt HW.out hb).1
          have hal := below_lit w2 (.cells #[.int .i64 (k : Int)] 3)
          have hsz2 := HL2.out.size
          refine ⟨?_, q1, ?_, ?_, ?_, ?_, ?_⟩
          · have hob := HOB.out.below hal
            have hk := hob.keep (w' := w6) fun b hb => by
              obtain ⟨cur, hcur⟩ := ownB_blk hob hb
              exact hg6.block b (hob.lt hb) (fun e => own_blk_ne HW.out hcur (by decide) e.symm)
            rw [HRLE.out]
            exact hk.reads.2.2.2.1
          · unfold OwnN
            rw [nI_len, List.length_append, ← HDN.out]
            have e2 : nI (done ++ [k]) = nI done ++ [(k : Int)] := by simp [nI]
            rw [e2, List.map_append]
            exact hown6
          · rw [List.length_append, ← HDN.out]
            simp only [List.length_cons, List.length_nil]
            omega
          · rw [HPS.out.num, HNX.out]
            cases numsV r with
            | none => rfl
            | some l => simp
          · intro x hx
            rcases List.mem_append.1 hx with hx | hx
            · exact HPS.out.max x hx
            · rw [List.mem_singleton] at hx; subst hx; exact HTM.out
          · exact grown_below (HL2.out.trans (hal.mono hsz2)) (by simp; omega) hg6 (fun b hb => hge b hb)
        have HPS6 := Lib.hid hps6
        clear hown6 hg6 hor6 hps6
        go_wp2_with fail
        go_roundw
        case rel => exact ⟨_, _, _, _, _, rfl, HPS6.out⟩
        case measure => simp; omega
      · have heb : ((e : Int) != 0) = true := by simpa using he
        have ho : o = none := by rw [HO.out, HPS.out.num, HBADN.out he]; rfl
        subst ho
        go_wp2_with fail
        go_ret2
        exact ⟨_, rfl, OwnN.nil_ _ _, (fun l hl => by cases hl), HL2.out⟩

end Go.Proofs.YtcpngeiahgoacaaGreat

/- Contracts of bastideref02: First, Roots, Schedule. -/
namespace Go.Proofs.YtcpngeiahgoacaaGreat
set_option linter.unusedVariables false
open Go.RowKit

theorem w_shl16' (x : W32) : (wi x * (65536 : Int)) % 4294967296 = wi (x <<< 16) := w_shl' x 16
theorem w_shl24' (x : W32) : (wi x * (16777216 : Int)) % 4294967296 = wi (x <<< 24) := w_shl' x 24
theorem w_shl16 (x : W32) : IntKind.u32.wrap (wi x * (65536 : Int)) = wi (x <<< 16) := w_shl x 16
theorem w_shl24 (x : W32) : IntKind.u32.wrap (wi x * (16777216 : Int)) = wi (x <<< 24) := w_shl x 24

theorem or8 (x : W32) (b : UInt8) (h : x.toNat < 16777216) : (x <<< 8 ||| b32 b).toNat = x.toNat * 256 + b.toNat := by
  have hb := b.toNat_lt
  unfold b32
  rw [BitVec.toNat_or, BitVec.toNat_shiftLeft, BitVec.toNat_ofNat, Nat.mod_eq_of_lt (by omega : b.toNat < 2 ^ 32), Nat.shiftLeft_eq, Nat.mod_eq_of_lt (by omega)]
  have := Nat.shiftLeft_add_eq_or_of_lt (show b.toNat < 2 ^ 8 by omega) x.toNat
  rw [Nat.shiftLeft_eq] at this
  rw [← this]
theorem b32_toNat (b : UInt8) : (b32 b).toNat = b.toNat := by
  have hb := b.toNat_lt
  unfold b32
  rw [BitVec.toNat_ofNat, Nat.mod_eq_of_lt (by omega)]
theorem be4_sum (a b c d : UInt8) : b32 a <<< 24 + b32 b <<< 16 + b32 c <<< 8 + b32 d = be4 a b c d := by
  have ha := a.toNat_lt
  have hb := b.toNat_lt
  have hc := c.toNat_lt
  have hd := d.toNat_lt
  have h1 := or8 (b32 a) b (by rw [b32_toNat]; omega)
  have h2 := or8 (b32 a <<< 8 ||| b32 b) c (by rw [h1, b32_toNat]; omega)
  have h3 := or8 ((b32 a <<< 8 ||| b32 b) <<< 8 ||| b32 c) d (by rw [h2, h1, b32_toNat]; omega)
  apply BitVec.eq_of_toNat_eq
  unfold be4
  rw [h3, h2, h1, BitVec.toNat_add, BitVec.toNat_add, BitVec.toNat_add, BitVec.toNat_shiftLeft, BitVec.toNat_shiftLeft, BitVec.toNat_shiftLeft, b32_toNat, b32_toNat, b32_toNat, b32_toNat, Nat.shiftLeft_eq, Nat.shiftLeft_eq, Nat.shiftLeft_eq]
  omega

attribute [local go_sem] w_add w_add' w_sub w_sub' w_and w_or w_xor w_not w_shr w_shl w_shl' w_shl8 w_shl8' w_shr3 w_shr10 b32_wrap b32_wrap' w8_wrap w8_wrap' w_shl16' w_shl24' w_shl16 w_shl24

section
attribute [local go_sem] w_add w_add' w_sub w_sub' w_and w_or w_xor w_not w_shr w_shl w_shl'
set_option maxHeartbeats 400000 in
theorem refRor_any (x : W32) (n : Nat) (h : 0 < n) (h' : n < 32) (w : World) :
    Calls Tryz.prog 242 #[vw x, .int .i64 (n : Int)] w fun e w' => e = .returned (vw (x.rotateRight n)) ∧ ∃ k, w' = w.drewN k := by
  unfold vw
  go_enter Tryz.func242, Tryz.ntmps242
  go_wp2
  go_quiet (fail)
  go_wp2
  go_ret
  exact ⟨ret_int (by rw [ror_or' x n h']), _, rfl⟩
end
theorem refRor_quiet (x : W32) (n : Int) (h : 0 < n) (h' : n < 32) (w : World) (m : Nat) :
    Calls Tryz.prog 242 #[.int .u32 (wi x), .int .i64 n] (w.drewN m) fun e w' => e = .returned (.int .u32 (wi (x.rotateRight n.toNat))) ∧ ∃ k, w' = w.drewN k := by
  obtain ⟨k, rfl⟩ := Int.eq_ofNat_of_zero_le (show 0 ≤ n by omega)
  exact Calls.quiet_of (refRor_any x k (by omega) (by omega) _)

theorem refRor_quietA (x : W32) (n : Int) (h : 0 < n) (h' : n < 32) (w : World) (a m : Nat) :
    Calls Tryz.prog 242 #[.int .u32 (wi x), .int .i64 n] (w.drewN (a + m)) fun e w' => e = .returned (.int .u32 (wi (x.rotateRight n.toNat))) ∧ ∃ k, w' = w.drewN (a + k) := by
  obtain ⟨k, rfl⟩ := Int.eq_ofNat_of_zero_le (show 0 ≤ n by omega)
  exact quiet_add (refRor_any x k (by omega) (by omega) _)

theorem refRor_w (x : W32) (n : Int) (h : 0 < n) (h' : n < 32) (w : World) :
    Calls Tryz.prog 242 #[.int .u32 (wi x), .int .i64 n] w fun e w' => e = .returned (.int .u32 (wi (x.rotateRight n.toNat))) ∧ ∃ k, w' = w.drewN k := by
  obtain ⟨k, rfl⟩ := Int.eq_ofNat_of_zero_le (show 0 ≤ n by omega)
  exact refRor_any x k (by omega) (by omega) _

theorem first_lit : h0.vals = #[.int .u32 1779033703, .int .u32 3144134277, .int .u32 1013904242, .int .u32 2773480762, .int .u32 1359893119, .int .u32 2600822924, .int .u32 528734635, .int .u32 1541459225] := by kernel_rfl

set_option maxRecDepth 100000 in
theorem refFirst_any (w : World) : Calls Tryz.prog 225 #[] w fun e w' => e = .returned (.agg h0.vals) ∧ Below w.heap.size w w' := by
  have hall := vals_all h0
  have hsz := vals_size h0
  rw [first_lit] at hall hsz ⊢
  go_enter Tryz.func225, Tryz.ntmps225
  go_wp2_with (refine wpList_store_part rfl 274 (.tmp 0) (.tmp 1) rfl w.heap.size 0 #[.int .u32 1779033703, .int .u32 3144134277, .int .u32 1013904242, .int .u32 2773480762, .int .u32 1359893119, .int .u32 2600822924, .int .u32 528734635, .int .u32 1541459225] rfl rfl 274 _ (Blk.newAt rfl) rfl (by simp) hall ?_; intro W4 hT4 hB4; rw [spl_self _ _ (by simp)] at hB4)
  refine bodyPost_ret (results_part rfl _ _ w.heap.size 8 274 _ _ rfl hB4 Tryz.underlying274 rfl rfl rfl) rfl ⟨rfl, hT4.below ((Below.refl _ _).alloc (Nat.le_refl _) _) (Nat.le_refl _)⟩

set_option maxRecDepth 100000 in
set_option maxHeartbeats 1000000 in
theorem refRoots_any (w : World) : Calls Tryz.prog 240 #[] w fun e w' => e = .returned (.agg kRow) ∧ Below w.heap.size w w' := by
  have hk : ∃ k, k = kRow := ⟨_, rfl⟩
  obtain ⟨k, hk⟩ := hk
  have hks : k.size = 64 := by rw [hk]; exact kRow_size
  have hko : k.all (·.oneCell') = true := by rw [hk]; exact kRow_one
  have HK := Lib.hid hk
  have HKS := Lib.hid hks
  have HKO := Lib.hid hko
  rw [← hk]
  clear hk hks hko
  go_enter Tryz.func240, Tryz.ntmps240
  go_wp2_with (refine wpList_store_part rfl 273 (.tmp 0) (.tmp 1) rfl w.heap.size 0 k rfl (by rw [HK.out]; kernel_rfl) 273 _ (Blk.newAt rfl) (by rw [HKS.out]; rfl) (by rw [HKS.out]; simp) HKO.out ?_; intro W4 hT4 hB4; rw [spl_self _ _ (by rw [HKS.out]; simp)] at hB4)
  refine bodyPost_ret (results_part rfl _ _ w.heap.size 64 273 _ _ rfl hB4 Tryz.underlying273 rfl rfl HKS.out) rfl ⟨rfl, hT4.below ((Below.refl _ _).alloc (Nat.le_refl _) _) (Nat.le_refl _)⟩

end Go.Proofs.YtcpngeiahgoacaaGreat

/- Contract of bastideref02.Schedule. -/
namespace Go.Proofs.YtcpngeiahgoacaaGreat
set_option linter.unusedVariables false
open Go.RowKit

attribute [local go_sem] w_add w_add' w_sub w_sub' w_and w_or w_xor w_not w_shr w_shl w_shl' w_shl8 w_shl8' w_shr3 w_shr10 b32_wrap b32_wrap' w8_wrap w8_wrap' w_shl16' w_shl24' w_shl16 w_shl24

theorem blk_byte (blk : List UInt8) (hbl : blk.length = 64) : ∀ (W : World) (g : Nat), Blk W g 275 (bRow blk) → ∀ j, j < 64 → W.cell? ⟨g, j, none⟩ = some (.int .u8 (bi (blk.getD j 0))) := by
  intro W g h j hj
  have := (bytesAt_row h).getD j (by omega)
  rw [add_off, Nat.zero_add] at this
  exact this

set_option maxRecDepth 100000 in
set_option maxHeartbeats 4000000 in
theorem refSchedule_any (blk : List UInt8) (hbl : blk.length = 64) (w : World) :
    Calls Tryz.prog 241 #[.agg (bRow blk)] w fun e w' => e = .returned (.agg (schedCells blk 64)) ∧ Below w.heap.size w w' := by
  have hbs := bRow_size blk
  rw [hbl] at hbs
  have HBL := Lib.hid hbl
  have hba := blk_byte blk hbl
  have HBA := Lib.hid hba
  have HBS := Lib.hid hbs
  clear hbs hba
  generalize hbr : bRow blk = br at HBS HBA ⊢
  clear hbr
  go_enter Tryz.func241, Tryz.ntmps241
  go_wp2_with fail
  go_loopw [4] (fun i wr => ∃ t : Nat, t ≤ 16 ∧ i = .int .i64 t ∧ Blk wr w.heap.size 275 br ∧ Blk wr (w.heap.size + 1) 273 (schedCells blk 0) ∧ Blk wr (w.heap.size + 1 + 1) 273 (schedCells blk t) ∧ Below w.heap.size w wr) (fun i _ => 16 - (intOf i).toNat)
  case atStart =>
    refine ⟨0, by omega, rfl, ((Blk.new w 275 br).alloc _).alloc _, ?_, ?_, (((Below.refl _ _).alloc (Nat.le_refl _) _).alloc (by simp) _).alloc (by simp; omega) _⟩
    · rw [schedCells_zero]; exact (Blk.newAt (by simp)).alloc _
    · rw [schedCells_zero]; exact Blk.newAt (by simp)
  case round =>
    obtain ⟨t, ht, rfl, hB0, hB1, hB2, hbel⟩ := hrel
    by_cases ht1 : t < 16
    · have e0 : (4 * (t : Int)).toNat = 4 * t := by omega
      have e1 : (4 * (t : Int) + 1).toNat = 4 * t + 1 := by omega
      have e2 : (4 * (t : Int) + 2).toNat = 4 * t + 2 := by omega
      have e3 : (4 * (t : Int) + 3).toNat = 4 * t + 3 := by omega
      have b0 := HBA.out _ _ hB0 (4 * t) (by omega)
      have b1 := HBA.out _ _ hB0 (4 * t + 1) (by omega)
      have b2 := HBA.out _ _ hB0 (4 * t + 2) (by omega)
      have b3 := HBA.out _ _ hB0 (4 * t + 3) (by omega)
      have c0 := (hB2.cell t).trans (schedCells_get0 blk t (by omega))
      have f0 := hB2.frozen t
      unfold vw at c0
      generalize hx0 : blk.getD (4 * t) 0 = x0 at b0
      generalize hx1 : blk.getD (4 * t + 1) 0 = x1 at b1
      generalize hx2 : blk.getD (4 * t + 2) 0 = x2 at b2
      generalize hx3 : blk.getD (4 * t + 3) 0 = x3 at b3
      have HX := Lib.hid (And.intro hx0 (And.intro hx1 (And.intro hx2 hx3)))
      have HB0 := Lib.hid hB0
      have HB1 := Lib.hid hB1
      have HB2 := Lib.hid hB2
      have HBE := Lib.hid hbel
      clear hx0 hx1 hx2 hx3 hB0 hB1 hB2 hbel
      have k0 : IntKind.i64.wrap (4 * (t : Int)) = 4 * (t : Int) := IntWalk.i64_in _ (by omega)
      have k1 : IntKind.i64.wrap (4 * (t : Int) + 1) = 4 * (t : Int) + 1 := IntWalk.i64_in _ (by omega)
      have k2 : IntKind.i64.wrap (4 * (t : Int) + 2) = 4 * (t : Int) + 2 := IntWalk.i64_in _ (by omega)
      have k3 : IntKind.i64.wrap (4 * (t : Int) + 3) = 4 * (t : Int) + 3 := IntWalk.i64_in _ (by omega)
      have l0 : 0 ≤ 4 * (t : Int) ∧ 4 * (t : Int) < 64 := by omega
      have l1 : 0 ≤ 4 * (t : Int) + 1 ∧ 4 * (t : Int) + 1 < 64 := by omega
      have l2 : 0 ≤ 4 * (t : Int) + 2 ∧ 4 * (t : Int) + 2 < 64 := by omega
      have l3 : 0 ≤ 4 * (t : Int) + 3 ∧ 4 * (t : Int) + 3 < 64 := by omega
      have lt : (t : Int) < 64 := by omega
      obtain ⟨l00, l01⟩ := l0
      obtain ⟨l10, l11⟩ := l1
      obtain ⟨l20, l21⟩ := l2
      obtain ⟨l30, l31⟩ := l3
      go_wp2_with fail
      refine wp_region_still_drew 31 (by kernel_rfl) (by kernel_rfl) ?_
      simp only [List.take_succ_cons, List.take_zero, List.drop_succ_cons, List.drop_zero]
      repeat still_step
      refine wpStill_nil ?_
      go_wp2_with fail
      go_roundw
      case rel =>
        obtain ⟨h0, h1, h2, h3⟩ := HX.out
        have hn : nextW blk (schedTo blk t) t = b32 x0 <<< 24 + b32 x1 <<< 16 + b32 x2 <<< 8 + b32 x3 := by rw [nextW, if_pos ht1, h0, h1, h2, h3, be4_sum]
        have hs := HB2.out.drew.set_ t (vw (nextW blk (schedTo blk t) t))
        rw [schedCells_next blk t (by omega), hn] at hs
        exact ⟨t + 1, by omega, by go_num, HB0.out.drew.far (p := ⟨w.heap.size + 1 + 1, t, none⟩) (by simp; omega) _, HB1.out.drew.far (p := ⟨w.heap.size + 1 + 1, t, none⟩) (by simp) _, hs, HBE.out.drew.setCell (p := ⟨w.heap.size + 1 + 1, t, none⟩) (by simp; omega) _⟩
      case measure => simp [intOf]; omega
    · obtain rfl : t = 16 := by omega
      clear HBA HBS
      go_wp2_with fail
      go_loopw [5] (fun i wr => ∃ t : Nat, 16 ≤ t ∧ t ≤ 64 ∧ i = .int .i64 t ∧ Blk wr (w.heap.size + 1) 273 (schedCells blk 0) ∧ Blk wr (w.heap.size + 1 + 1) 273 (schedCells blk t) ∧ Below w.heap.size w wr) (fun i _ => 64 - (intOf i).toNat)
      case atStart => exact ⟨16, by omega, by omega, rfl, hB1, hB2, hbel⟩
      case round =>
        clear hB0 hB1 hB2 hbel ht ht1
        obtain ⟨t, ht16, ht, rfl, hB1, hB2, hbel⟩ := hrel
        by_cases ht1 : t < 64
        · have e1 : (((t : Int) - 15).toNat) = t - 15 := by omega
          have e2 : (((t : Int) - 2).toNat) = t - 2 := by omega
          have e3 : (((t : Int) - 16).toNat) = t - 16 := by omega
          have e4 : (((t : Int) - 7).toNat) = t - 7 := by omega
          have c1 := (hB2.cell (t - 15)).trans (schedCells_get blk t (t - 15) (by omega) ht)
          have c2 := (hB2.cell (t - 2)).trans (schedCells_get blk t (t - 2) (by omega) ht)
          have c3 := (hB2.cell (t - 16)).trans (schedCells_get blk t (t - 16) (by omega) ht)
          have c4 := (hB2.cell (t - 7)).trans (schedCells_get blk t (t - 7) (by omega) ht)
          have c0 := (hB2.cell t).trans (schedCells_get0 blk t ht1)
          have f0 := hB2.frozen t
          unfold vw at c0 c1 c2 c3 c4
          generalize hx1 : (schedTo blk t).getD (t - 15) 0 = x1 at c1
          generalize hx2 : (schedTo blk t).getD (t - 2) 0 = x2 at c2
          generalize hx3 : (schedTo blk t).getD (t - 16) 0 = x3 at c3
          generalize hx4 : (schedTo blk t).getD (t - 7) 0 = x4 at c4
          have HX := Lib.hid (And.intro hx1 (And.intro hx2 (And.intro hx3 hx4)))
          have HB1 := Lib.hid hB1
          have HB2 := Lib.hid hB2
          have HBE := Lib.hid hbel
          clear hx1 hx2 hx3 hx4 hB1 hB2 hbel
          go_wp2
          go_quiet (fail)
          go_wp2_with fail
          have w16 : IntKind.i64.wrap ((t : Int) - 16) = (t : Int) - 16 := IntWalk.i64_in _ (by omega)
          have w7 : IntKind.i64.wrap ((t : Int) - 7) = (t : Int) - 7 := IntWalk.i64_in _ (by omega)
          have b16 : (t : Int) - 16 < 64 := by omega
          have b77 : (7 : Int) ≤ t := by omega
          have b17 : (16 : Int) ≤ t := by omega
          have b7 : (t : Int) - 7 < 64 := by omega
          refine wp_region_quiet_tail_drew 29 (by kernel_rfl) (by kernel_rfl) ?_
          simp only [List.take_succ_cons, List.take_zero, List.drop_succ_cons, List.drop_zero]
          repeat quiet_step ((go_at_call 242; first | exact refRor_quietA _ _ (by omega) (by omega) _ _ _ | exact refRor_quiet _ _ (by omega) (by omega) _ _))
          refine wpQuiet_nil ?_
          intro _ hw'
          obtain ⟨nr, hw''⟩ := hw'
          subst hw''
          go_wp2_with fail
          go_roundw
          case rel =>
            obtain ⟨h1, h2, h3, h4⟩ := HX.out
            have hn : nextW blk (schedTo blk t) t = x3 + sml0 x1 + x4 + sml1 x2 := by rw [nextW, if_neg (by omega), h1, h2, h3, h4]
            have hs := (HB2.out.drewN (nq + nr)).set_ t (vw (nextW blk (schedTo blk t) t))
            rw [schedCells_next blk t ht1, hn] at hs
            repeat apply Exists.intro
            exact ⟨⟨t + 1, by omega, by omega, by go_num, (HB1.out.drewN (nq + nr)).far (p := ⟨w.heap.size + 1 + 1, t, none⟩) (by simp) _, hs, (below_drewN HBE.out (nq + nr)).setCell (p := ⟨w.heap.size + 1 + 1, t, none⟩) (by simp; omega) _⟩, rfl⟩
          case measure => simp [intOf]; omega
        · obtain rfl : t = 64 := by omega
          have hss : (schedCells blk 64).size = 64 := rng_size _ _
          have hso : (schedCells blk 64).all (·.oneCell') = true := by unfold schedCells schedF; simp [rng, vw, Value.oneCell']
          have hs0 : (schedCells blk 0).size = 64 := rng_size _ _
          have HSS := Lib.hid hss
          have HS0 := Lib.hid hs0
          have HSO := Lib.hid hso
          have HB1 := Lib.hid hB1
          have HB2 := Lib.hid hB2
          have HBE := Lib.hid hbel
          clear hss hso hs0 hB1 hB2 hbel
          generalize hsc : schedCells blk 64 = sc at HSS HSO HB2
          have HSC := Lib.hid hsc
          clear hsc
          generalize schedCells blk 0 = sz at HS0 HB1
          go_wp2_with (first
            | (refine wpList_load_part rfl 273 (.tmp 3) rfl (w.heap.size + 1 + 1) 0 64 rfl 273 _ sc _ HB2.out Tryz.underlying273 rfl rfl HSS.out (fun _ _ => by rw [Nat.zero_add]) ?_)
            | (refine wpList_store_part rfl 273 (.tmp 2) (.tmp 84) rfl (w.heap.size + 1) 0 sc rfl rfl 273 _ HB1.out (by rw [HSS.out]; rfl) (by rw [HSS.out, HS0.out]; simp) HSO.out ?_; intro W5 hT5 hB5; rw [spl_self _ _ (by rw [HSS.out, HS0.out])] at hB5))
          refine bodyPost_ret (results_part rfl _ _ (w.heap.size + 1) 64 273 _ _ rfl hB5 Tryz.underlying273 rfl rfl HSS.out) rfl ⟨by rw [HSC.out], hT5.below HBE.out (by omega)⟩

end Go.Proofs.YtcpngeiahgoacaaGreat
