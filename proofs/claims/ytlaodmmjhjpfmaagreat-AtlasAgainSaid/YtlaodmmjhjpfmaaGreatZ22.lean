/- Parts of the proof, in one text: AtZ, AlS, AlW, AlM, AtHe. -/
import Derived.Test.YtlaodmmjhjpfmaaGreatZ21
import Derived.BigRegion
import Derived.Deep.DeepCutAuto

/- Contract of the laws' wish: the walk. -/
namespace Go.Proofs.YtlaodmmjhjpfmaaGreat
set_option linter.unusedVariables false
set_option linter.unusedSimpArgs false
open Go.RowKit Go.Maps

attribute [local irreducible] wpList wpCalm
def AWishPost (w : World) (x : Wish) (e : Ending) (w' : World) : Prop := e = .returned (.agg (wCells x none 0 0 none 0 0)) ∧ Below w.heap.size w w'

set_option maxRecDepth 100000 in
set_option maxHeartbeats 2000000 in
theorem awish_any (w : World) (g gc i : Nat) (T : Nat) (N : Nat → Prop) (m : AM) (S : ASl) (s : Srv) (h : ADat w g gc (some ⟨T, 0, none⟩) N m S) (n stamp : Int) (hs : m.chunks[i]? = some s) (hin : i = bringF (n / 64) 2) (h1 : -9223372036854775808 ≤ n) (h2 : n ≤ 9223372036854775807) (hs0 : 0 ≤ stamp) (hs1 : stamp ≤ 1000000) :
    Calls Tryz.prog 22 #[.pointer (some ⟨g, 0, none⟩), .int .i64 n, .int .i64 stamp] w (AWishPost w (wishS s.now n stamp)) := by
  have hX := below_lit w (.cells (wCells zeroW none 0 0 none 0 0) 48)
  have hk0 : Blk (w.alloc (.cells (wCells zeroW none 0 0 none 0 0) 48)) w.heap.size 48 (wCells zeroW none 0 0 none 0 0) := Blk.newAt rfl
  have hsk := h.ok.srv s (List.mem_of_getElem? hs)
  have hnok := hsk.now_ok
  have HX := Lib.hid hX
  have HK := Lib.hid hk0
  have HCW := Lib.hid (aCrews_any _ g gc i T N m S s (h.below hX) hs)
  have hZ : wCells zeroW none 0 0 none 0 0 = #[.int .i64 0, .int .i64 0, .int .i64 0, .int .i64 0, .int .i64 0, .int .i64 0, .slice none 0 0, .int .i64 0, .int .i64 0, .slice none 0 0] := rfl
  have HBR := Lib.hid (fun (i z : Int) (k : Nat) (hz : z = (k : Int)) (hk : 0 < k) (hk2 : k ≤ 100) (hi : -9223372036854775808 ≤ i) (hi2 : i ≤ 9223372036854775807) (W : World) => (show Calls Tryz.prog 45 #[.int .i64 i, .int .i64 z] W fun e w' => e = .returned (.int .i64 (bringF i k : Int)) ∧ W = w' from hz ▸ bring_any i k hk (by unfold maxLen; omega) hi hi2 W))
  obtain ⟨k, hk⟩ : ∃ k, k = s.now.length := ⟨_, rfl⟩
  have hk7 : k ≤ 7 := by rw [hk]; exact hnok.short.2
  have hk1 : 1 ≤ k := by rw [hk]; exact hnok.short.1
  obtain ⟨b3, hb3⟩ : ∃ q, q = bringF (n / 16) 4 := ⟨_, rfl⟩
  obtain ⟨b4, hb4⟩ : ∃ q, q = bringF n 4 := ⟨_, rfl⟩
  obtain ⟨b7, hb7⟩ : ∃ q, q = bringF (n / 128) k := ⟨_, rfl⟩
  obtain ⟨b9, hb9⟩ : ∃ q, q = bringF (n / 512) 16 := ⟨_, rfl⟩
  obtain ⟨b16, hb16⟩ : ∃ q, q = bringF n 16 := ⟨_, rfl⟩
  have hb7l : b7 < k := by rw [hb7]; exact bringF_lt _ _ (by omega)
  have hb9l : b9 < 16 := by rw [hb9]; exact bringF_lt _ _ (by omega)
  have hb3l : b3 < 4 := by rw [hb3]; exact bringF_lt _ _ (by omega)
  have hb16l : b16 < 16 := by rw [hb16]; exact bringF_lt _ _ (by omega)
  have hi2 : i < 2 := by rw [hin]; exact bringF_lt _ _ (by omega)
  obtain ⟨o, ho⟩ : ∃ o, s.now[b7]? = some o := ⟨_, List.getElem?_eq_getElem (by omega)⟩
  have hob := hnok.bound (List.mem_of_getElem? ho)
  have hWS : wishS s.now n stamp = if b4 = 0 then queryQ (31 + (b3 : Int)) stamp (1 + (i : Int)) else replQ (if b16 = 1 then 31 + (b3 : Int) else 34) stamp (1 + (i : Int)) (if (if b16 = 3 then 28 else o) = (if b16 = 2 then 5 else 13 + (b9 : Int)) then 1 else (if b16 = 3 then 28 else o)) (if b16 = 2 then 5 else 13 + (b9 : Int)) := by
    unfold wishS clientW
    rw [← hk, ← hb3, ← hb4, ← hb7, ← hb9, ← hb16, ← hin, List.getD_eq_getElem?_getD, ho]
    rfl
  have HB3 := Lib.hid hb3
  have HB4 := Lib.hid hb4
  have HB7 := Lib.hid hb7
  have HB9 := Lib.hid hb9
  have HB16 := Lib.hid hb16
  have HIN := Lib.hid hin
  have HO := Lib.hid ho
  have HKK := Lib.hid hk
  obtain ⟨P, hP⟩ : ∃ P, P = AWishPost w (wishS s.now n stamp) := ⟨_, rfl⟩
  rw [hWS] at hP
  have HP := Lib.hid (show P = AWishPost w (if b4 = 0 then queryQ (31 + (b3 : Int)) stamp ((i : Int) + 1) else replQ (if b16 = 1 then 31 + (b3 : Int) else 34) stamp ((i : Int) + 1) (if (if b16 = 3 then 28 else o) = (if b16 = 2 then 5 else 13 + (b9 : Int)) then 1 else (if b16 = 3 then 28 else o)) (if b16 = 2 then 5 else 13 + (b9 : Int))) by rw [hP, show (1 : Int) + (i : Int) = (i : Int) + 1 by omega])
  rw [show AWishPost w (wishS s.now n stamp) = P by rw [hP, hWS]]
  obtain ⟨a, ha⟩ : ∃ a, a = s.moves.length := ⟨_, rfl⟩
  have HA := Lib.hid ha
  have ha21 : a ≤ 21 := by rw [ha]; exact hsk.len
  obtain ⟨g6, hg6⟩ : ∃ g, g = w.heap.size := ⟨_, rfl⟩
  clear h hX hk0 hsk hnok hk hb3 hb4 hb7 hb9 hb16 hin ho hWS hP ha hs
  go_enter Tryz.func22, Tryz.ntmps22
  go_upto_region 1 with fail
  rw [← hZ]
  generalize World.alloc w _ = w1 at HX HK HCW ⊢
  rw [← hg6] at HK ⊢
  have hgw : w.heap.size ≤ g6 := by omega
  have hl := HK.out.lt
  have hs1' := HX.out.size
  clear hg6 hZ
  go_wp2_with fail
  refine (HBR.out _ _ 4 (by omega) (by omega) (by omega) (by omega) (by omega) _).mono ?_
  rintro _ _ ⟨rfl, rfl⟩
  rw [← HB3.out]
  go_wp2_with fail
  refine (HBR.out _ _ 2 (by omega) (by omega) (by omega) (by omega) (by omega) _).mono ?_
  rintro _ _ ⟨rfl, rfl⟩
  rw [← HIN.out]
  have hcm : (1 : Int) + (i : Int) = (i : Int) + 1 := by omega
  go_wp2_with fail
  refine HCW.out.mono ?_
  rintro _ w2 ⟨v, nA, nC, rfl, hown, hb2⟩
  have hget : (crewsL s.first s.moves)[a]? = some s.now := by
    rw [HA.out, crewsL_at _ _ _ (Nat.le_refl _), List.take_of_length_le (Nat.le_refl _)]; rfl
  obtain ⟨gl, cap, rfl, hgl, hgl2, hcl⟩ := hown.at_ hget
  have hnd := hown.nodes a _ hget
  rw [← HKK.out] at hcl hnd
  obtain ⟨gn, hgn, hgn2, hgn3, hcn⟩ := own_at hnd (by omega)
  rw [hgn] at hcl
  have hlen : (crewsL s.first s.moves).length = a + 1 := by rw [crewsL_len, HA.out]
  rw [hlen]
  obtain ⟨cn, hcn2⟩ : ∃ c, c = nC a := ⟨_, rfl⟩
  rw [← hcn2] at hcl
  obtain ⟨a0, ha0⟩ : ∃ q, q = a := ⟨_, rfl⟩
  rw [← ha0] at hcl ⊢
  have ha21' : a0 ≤ 21 := by omega
  have CL := Lib.hid (fun (W : World) (hb : Below w2.heap.size w2 W) => (hb.cell (p := ⟨gl, a0 * 2 + 1, none⟩) hgl2).trans hcl)
  have CN := Lib.hid (fun (W : World) (hb : Below w2.heap.size w2 W) => (hb.cell (p := ⟨gn, b7, none⟩) hgn3).trans (hcn b7 o HO.out))
  have HB2 := Lib.hid (HX.out.trans (hb2.mono hs1'))
  have K2 := Lib.hid (HK.out.below' hb2)
  have hs2 := hb2.size
  have hl2 := K2.out.lt
  have hi0 : 0 ≤ (a0 : Int) := by omega
  have hi1 : (a0 : Int) < ((a0 + 1 : Nat) : Int) := by omega
  have hi1' : (a0 : Int) < (a0 : Int) + 1 := by omega
  have hi3 : ((a0 + 1 : Nat) : Int) - 1 = (a0 : Int) := by omega
  have hi4 : ((a0 + 1 : Nat) : Int) = (a0 : Int) + 1 := by omega
  have hcl0 : ¬ ((a0 : Int) + 1 = 0) := by omega
  clear hown hb2 hget hcl hnd hcn hlen hcn2 ha0 hgn HCW HK HX hgl hgl2 hgn2 hgn3
  go_wp2_with fail
  refine (HBR.out _ _ 4 (by omega) (by omega) (by omega) (by omega) (by omega) _).mono ?_
  rintro _ _ ⟨rfl, rfl⟩
  rw [← HB4.out]
  by_cases hq : b4 = 0
  · have hqb : ((b4 : Int) == 0) = true := by simp [hq]
    have HP1 := Lib.hid (show P = AWishPost w (queryQ (31 + (b3 : Int)) stamp ((i : Int) + 1)) by rw [HP.out, if_pos hq])
    clear hq
    go_wp2_with fail
    refine (aquery_any _ _ _ _).mono ?_
    rintro _ w3 ⟨rfl, hb3⟩
    have K3 := Lib.hid (K2.out.below' hb3)
    have HB23 := Lib.hid (HB2.out.trans (hb3.mono (by omega)))
    clear hb3
    obtain ⟨R, hR⟩ : ∃ R, R = wCells (queryQ (31 + (b3 : Int)) stamp ((i : Int) + 1)) none 0 0 none 0 0 := ⟨_, rfl⟩
    rw [← hR]
    have hrs : R.size = 10 := by rw [hR]; simp [wCells]
    have hr1 : R.all (·.oneCell') = true := by rw [hR]; exact wCells_one _ _ _ _ _ _ _
    have HR := Lib.hid hR
    clear hR
    go_wp2_with (refine wpList_store_part (o := ⟨none, _, _, _, _, _⟩) rfl 48 (.tmp 6) (.tmp 34) rfl g6 0 R rfl rfl 48 (wCells zeroW none 0 0 none 0 0) K3.out (by rw [hrs]; kernel_rfl) (by rw [hrs]; simp [wCells]) hr1 ?_; intro w4 hT4 hD4; rw [spl_self _ _ (by rw [hrs]; simp [wCells])] at hD4)
    refine bodyPost_ret (results_part rfl _ _ g6 10 48 _ _ rfl hD4 Tryz.underlying48 rfl rfl hrs) rfl ?_
    rw [HP1.out, HR.out]
    exact ⟨rfl, hT4.below HB23.out hgw⟩
  · have hqb : ((b4 : Int) == 0) = false := by simpa using hq
    obtain ⟨R0, hR0⟩ : ∃ R, R = wCells (replQ 34 stamp ((i : Int) + 1) o (13 + (b9 : Int))) none 0 0 none 0 0 := ⟨_, rfl⟩
    have hr0s : R0.size = 10 := by rw [hR0]; simp [wCells]
    have hr01 : R0.all (·.oneCell') = true := by rw [hR0]; exact wCells_one _ _ _ _ _ _ _
    have HR0 := Lib.hid hR0
    clear hR0
    go_upto_region 6 with fail
    refine wp_region_rel' 24 80 (fun jx W v => match jx with
      | 0 => v = .int .i64 stamp
      | 1 => v = .int .i64 ((i : Int) + 1)
      | 2 => v = .slice (some ⟨gl, 0, none⟩) (a0 + 1) cap
      | 3 => v = .int .i64 (a0 : Int)
      | 4 => v = .pointer (some ⟨gl, a0 * 2, none⟩)
      | 5 => v = .pointer (some ⟨gl, a0 * 2 + 1, none⟩)
      | 6 => v = .slice (some ⟨gn, 0, none⟩) k cn
      | 7 => v = .int .i64 n
      | 8 => v = .int .i64 (n / 128)
      | 9 => v = .slice (some ⟨gl, 0, none⟩) (a0 + 1) cap
      | 10 => v = .int .i64 (a0 : Int)
      | 11 => v = .pointer (some ⟨gl, a0 * 2, none⟩)
      | 12 => v = .pointer (some ⟨gl, a0 * 2 + 1, none⟩)
      | 13 => v = .slice (some ⟨gn, 0, none⟩) k cn
      | 14 => v = .int .i64 (k : Int)
      | 15 => v = .int .i64 (b7 : Int)
      | 16 => v = .pointer (some ⟨gn, b7, none⟩)
      | 17 => v = .int .i64 o
      | 18 => v = .int .i64 n
      | 19 => v = .int .i64 (n / 512)
      | 20 => v = .int .i64 (b9 : Int)
      | 21 => v = .int .i64 (13 + (b9 : Int))
      | 22 => v = .agg R0
      | _ => ∃ g11, v = .pointer (some ⟨g11, 0, none⟩) ∧ w2.heap.size ≤ g11 ∧ Blk W g11 48 (wCells zeroW none 0 0 none 0 0)) [38, 39, 40, 41, 42, 43, 44, 45, 46, 47, 48, 49, 50, 51, 52, 53, 54, 55, 56, 57, 58, 59, 60, 11] (by kernel_rfl) (by kernel_rfl) (by kernel_rfl) (by first | rfl | simp) (by kernel_rfl) (fun jx => ?last) ?heads ?_
    case last =>
      match jx with
      | 0 | 1 | 2 | 3 | 4 | 5 | 6 | 7 | 8 | 9 | 10 | 11 | 12 | 13 | 14 | 15 | 16 | 17 | 18 | 19 | 20 | 21 | 22 => exact Lasts.pure _
      | jx + 23 => exact fun W W' u ⟨g11, h1, h2, h3⟩ hb => ⟨g11, h1, h2, h3.below' hb⟩
    case heads =>
      simp only [List.take_succ_cons, List.take_zero]
      refine ⟨fun a W hb hkp hd => ?_, fun a W hb hkp hd => ?_, fun a W hb hkp hd => ?_, fun a W hb hkp hd => ?_, fun a W hb hkp hd => ?_, fun a W hb hkp hd => ?_, fun a W hb hkp hd => ?_, fun a W hb hkp hd => ?_, fun a W hb hkp hd => ?_, fun a W hb hkp hd => ?_, fun a W hb hkp hd => ?_, fun a W hb hkp hd => ?_, fun a W hb hkp hd => ?_, fun a W hb hkp hd => ?_, fun a W hb hkp hd => ?_, fun a W hb hkp hd => ?_, fun a W hb hkp hd => ?_, fun a W hb hkp hd => ?_, fun a W hb hkp hd => ?_, fun a W hb hkp hd => ?_, fun a W hb hkp hd => ?_, fun a W hb hkp hd => ?_, fun a W hb hkp hd => ?_, fun a W hb hkp hd => ?_, trivial⟩
      · have e0 : a.tmps[2]?.getD undef = .int .i64 stamp := hkp.get (by kernel_rfl) rfl
        exact rel_value rfl (.int .i64 stamp) (by go_simp) rfl
      · have e0 : a.tmps[8]?.getD undef = .int .i64 ((i : Int) + 1) := hkp.get (by kernel_rfl) rfl
        exact rel_value rfl (.int .i64 ((i : Int) + 1)) (by go_simp) rfl
      · have e0 : a.tmps[9]?.getD undef = .slice (some ⟨gl, 0, none⟩) (a0 + 1) cap := hkp.get (by kernel_rfl) rfl
        exact rel_value rfl (.slice (some ⟨gl, 0, none⟩) (a0 + 1) cap) (by go_simp) rfl
      · have e0 : a.tmps[10]?.getD undef = .int .i64 (a0 : Int) := hkp.get (by kernel_rfl) rfl
        exact rel_value rfl (.int .i64 (a0 : Int)) (by go_simp) rfl
      · have e0 : a.tmps[40]?.getD undef = .slice (some ⟨gl, 0, none⟩) (a0 + 1) cap := (hd 2 (by kernel_rfl)).get 40 rfl rfl
        have e1 : a.tmps[41]?.getD undef = .int .i64 (a0 : Int) := (hd 3 (by kernel_rfl)).get 41 rfl rfl
        exact rel_value rfl (.pointer (some ⟨gl, a0 * 2, none⟩)) (by go_simp) rfl
      · have e0 : a.tmps[42]?.getD undef = .pointer (some ⟨gl, a0 * 2, none⟩) := (hd 4 (by kernel_rfl)).get 42 rfl rfl
        exact rel_value rfl (.pointer (some ⟨gl, a0 * 2 + 1, none⟩)) (by go_simp) rfl
      · have e0 : a.tmps[43]?.getD undef = .pointer (some ⟨gl, a0 * 2 + 1, none⟩) := (hd 5 (by kernel_rfl)).get 43 rfl rfl
        have cc := CL.out W hb
        exact rel_value rfl (.slice (some ⟨gn, 0, none⟩) k cn) (by go_simp) rfl
      · have e0 : a.tmps[1]?.getD undef = .int .i64 n := hkp.get (by kernel_rfl) rfl
        exact rel_value rfl (.int .i64 n) (by go_simp) rfl
      · have e0 : a.tmps[45]?.getD undef = .int .i64 n := (hd 7 (by kernel_rfl)).get 45 rfl rfl
        exact rel_value rfl (.int .i64 (n / 128)) (by go_simp) rfl
      · have e0 : a.tmps[9]?.getD undef = .slice (some ⟨gl, 0, none⟩) (a0 + 1) cap := hkp.get (by kernel_rfl) rfl
        exact rel_value rfl (.slice (some ⟨gl, 0, none⟩) (a0 + 1) cap) (by go_simp) rfl
      · have e0 : a.tmps[10]?.getD undef = .int .i64 (a0 : Int) := hkp.get (by kernel_rfl) rfl
        exact rel_value rfl (.int .i64 (a0 : Int)) (by go_simp) rfl
      · have e0 : a.tmps[47]?.getD undef = .slice (some ⟨gl, 0, none⟩) (a0 + 1) cap := (hd 9 (by kernel_rfl)).get 47 rfl rfl
        have e1 : a.tmps[48]?.getD undef = .int .i64 (a0 : Int) := (hd 10 (by kernel_rfl)).get 48 rfl rfl
        exact rel_value rfl (.pointer (some ⟨gl, a0 * 2, none⟩)) (by go_simp) rfl
      · have e0 : a.tmps[49]?.getD undef = .pointer (some ⟨gl, a0 * 2, none⟩) := (hd 11 (by kernel_rfl)).get 49 rfl rfl
        exact rel_value rfl (.pointer (some ⟨gl, a0 * 2 + 1, none⟩)) (by go_simp) rfl
      · have e0 : a.tmps[50]?.getD undef = .pointer (some ⟨gl, a0 * 2 + 1, none⟩) := (hd 12 (by kernel_rfl)).get 50 rfl rfl
        have cc := CL.out W hb
        exact rel_value rfl (.slice (some ⟨gn, 0, none⟩) k cn) (by go_simp) rfl
      · have e0 : a.tmps[51]?.getD undef = .slice (some ⟨gn, 0, none⟩) k cn := (hd 13 (by kernel_rfl)).get 51 rfl rfl
        exact rel_value rfl (.int .i64 (k : Int)) (by go_simp) rfl
      · have e0 : a.tmps[46]?.getD undef = .int .i64 (n / 128) := (hd 8 (by kernel_rfl)).get 46 rfl rfl
        have e1 : a.tmps[52]?.getD undef = .int .i64 (k : Int) := (hd 14 (by kernel_rfl)).get 52 rfl rfl
        refine rel_call rfl 45 #[.int .i64 (n / 128), .int .i64 (k : Int)] (by go_simp) ((HBR.out _ _ k (by omega) (by omega) (by omega) (by omega) (by omega) W).mono ?_)
        rintro e w' ⟨rfl, rfl⟩
        exact ⟨_, rfl, Below.refl _ _, congrArg (fun q : Nat => Value.int .i64 (q : Int)) HB7.out.symm⟩
      · have e0 : a.tmps[44]?.getD undef = .slice (some ⟨gn, 0, none⟩) k cn := (hd 6 (by kernel_rfl)).get 44 rfl rfl
        have e1 : a.tmps[53]?.getD undef = .int .i64 (b7 : Int) := (hd 15 (by kernel_rfl)).get 53 rfl rfl
        exact rel_value rfl (.pointer (some ⟨gn, b7, none⟩)) (by go_simp) rfl
      · have e0 : a.tmps[54]?.getD undef = .pointer (some ⟨gn, b7, none⟩) := (hd 16 (by kernel_rfl)).get 54 rfl rfl
        have cc := CN.out W hb
        exact rel_value rfl (.int .i64 o) (by go_simp) rfl
      · have e0 : a.tmps[1]?.getD undef = .int .i64 n := hkp.get (by kernel_rfl) rfl
        exact rel_value rfl (.int .i64 n) (by go_simp) rfl
      · have e0 : a.tmps[56]?.getD undef = .int .i64 n := (hd 18 (by kernel_rfl)).get 56 rfl rfl
        exact rel_value rfl (.int .i64 (n / 512)) (by go_simp) rfl
      · have e0 : a.tmps[57]?.getD undef = .int .i64 (n / 512) := (hd 19 (by kernel_rfl)).get 57 rfl rfl
        refine rel_call rfl 45 #[.int .i64 (n / 512), .int .i64 16] (by go_simp) ((HBR.out _ _ 16 (by omega) (by omega) (by omega) (by omega) (by omega) W).mono ?_)
        rintro e w' ⟨rfl, rfl⟩
        exact ⟨_, rfl, Below.refl _ _, congrArg (fun q : Nat => Value.int .i64 (q : Int)) HB9.out.symm⟩
      · have e0 : a.tmps[58]?.getD undef = .int .i64 (b9 : Int) := (hd 20 (by kernel_rfl)).get 58 rfl rfl
        have hw : IntKind.i64.wrap (13 + (b9 : Int)) = 13 + (b9 : Int) := by rw [IntKind.wrap_i64]; omega
        exact rel_value rfl (.int .i64 (13 + (b9 : Int))) (by go_simp) rfl
      · have e0 : a.tmps[38]?.getD undef = .int .i64 stamp := (hd 0 (by kernel_rfl)).get 38 rfl rfl
        have e1 : a.tmps[39]?.getD undef = .int .i64 ((i : Int) + 1) := (hd 1 (by kernel_rfl)).get 39 rfl rfl
        have e2 : a.tmps[55]?.getD undef = .int .i64 o := (hd 17 (by kernel_rfl)).get 55 rfl rfl
        have e3 : a.tmps[59]?.getD undef = .int .i64 (13 + (b9 : Int)) := (hd 21 (by kernel_rfl)).get 59 rfl rfl
        refine rel_call rfl 77 #[.int .i64 34, .int .i64 stamp, .int .i64 ((i : Int) + 1), .int .i64 o, .int .i64 (13 + (b9 : Int))] (by go_simp) ((areplace_any _ _ _ _ _ W).mono ?_)
        rintro e w' ⟨rfl, hb'⟩
        exact ⟨_, rfl, hb', congrArg Value.agg HR0.out.symm⟩
      · exact rel_exec rfl (.pointer (some ⟨W.heap.size, 0, none⟩)) (W.alloc (.cells (wCells zeroW none 0 0 none 0 0) 48)) (by go_simp; try rfl) (below_lit _ _) ⟨W.heap.size, rfl, hb.size, Blk.new W _ _⟩
    intro fv W hb hd
    have h60 : fv 60 = .agg R0 := hd 22 (by omega) _ 60 rfl rfl
    obtain ⟨g11, h11, hg11, hB11⟩ := hd 23 (by omega) _ 11 rfl rfl
    simp only [putAll, List.drop_succ_cons, List.drop_zero, h60, h11]
    have HBW := Lib.hid (HB2.out.trans (hb.mono (by omega)))
    have KW := Lib.hid (K2.out.below' hb)
    have HB11 := Lib.hid hB11
    have hsW := hb.size
    clear hd hb hB11 h60 h11 CL CN HB2 K2
    try simp only [Act.put, List.setIfInBounds_toArray, List.set_cons_zero, List.set_cons_succ]
    go_upto_region 7 with (refine wpList_store_part (o := ⟨none, _, _, _, _, _⟩) rfl 48 (.tmp 11) (.tmp 60) rfl g11 0 R0 rfl rfl 48 (wCells zeroW none 0 0 none 0 0) HB11.out (by rw [hr0s]; kernel_rfl) (by rw [hr0s]; simp [wCells]) hr01 ?_; intro w3 hT3 hD3)
    rw [spl_self _ _ (by rw [hr0s]; simp [wCells])] at hD3
    have hg6l := KW.out.lt
    have K3 := Lib.hid (hT3.blk KW.out (show g6 ≠ g11 by omega))
    have HB3 := Lib.hid (hT3.below HBW.out (show w.heap.size ≤ g11 by omega))
    have HD3 := Lib.hid hD3
    have hg611 : g6 ≠ g11 := by omega
    have hgw11 : w.heap.size ≤ g11 := by omega
    clear hT3 hD3 HBW KW HB11
    go_wp2_with fail
    refine (HBR.out _ _ 16 (by omega) (by omega) (by omega) (by omega) (by omega) _).mono ?_
    rintro _ _ ⟨rfl, rfl⟩
    rw [← HB16.out]
    obtain ⟨c, hc⟩ : ∃ c : Int, c = if b16 = 1 then 31 + (b3 : Int) else 34 := ⟨_, rfl⟩
    obtain ⟨o1, ho1⟩ : ∃ c : Int, c = if b16 = 3 then 28 else o := ⟨_, rfl⟩
    obtain ⟨z, hz⟩ : ∃ c : Int, c = if b16 = 2 then 5 else 13 + (b9 : Int) := ⟨_, rfl⟩
    have HPR := Lib.hid (show P = AWishPost w (replQ c stamp ((i : Int) + 1) (if o1 = z then 1 else o1) z) by rw [HP.out, if_neg hq, ← hc, ← ho1, ← hz])
    have HHC := Lib.hid hc
    have HHO := Lib.hid ho1
    have HHZ := Lib.hid hz
    clear hq hc ho1 hz
    by_cases hq1 : b16 = 1
    · have HCC := Lib.hid (show c = 31 + (b3 : Int) by rw [HHC.out, if_pos hq1])
      have HOO := Lib.hid (show o1 = o by rw [HHO.out, if_neg (by omega)])
      have HZZ := Lib.hid (show z = 13 + (b9 : Int) by rw [HHZ.out, if_neg (by omega)])
      have q1 : ((b16 : Int) == 1) = true := by simp [hq1]
      have cc : w3.cell? ⟨g11, 0, none⟩ = some (.int .i64 34) := (HD3.out.cell 0).trans (by rw [HR0.out]; rfl)
      have ff := HD3.out.frozen 0
      have hT := Turned.setCell w3 ⟨g11, 0, none⟩ (.int .i64 (31 + (b3 : Int)))
      have hset := HD3.out.set_ 0 (.int .i64 (31 + (b3 : Int)))
      rw [HR0.out] at hset
      have hset2 : Blk (w3.setCell ⟨g11, 0, none⟩ (.int .i64 (31 + (b3 : Int)))) g11 48 (wCells (replQ c stamp ((i : Int) + 1) o1 z) none 0 0 none 0 0) := by
        rw [HCC.out, HOO.out, HZZ.out]
        exact hset
      have HD4 := Lib.hid hset2
      have HK4 := Lib.hid (hT.blk K3.out hg611)
      have HB4' := Lib.hid (HB3.out.setCell (p := ⟨g11, 0, none⟩) hgw11 (.int .i64 (31 + (b3 : Int))))
      clear hq1 hT hset hset2
      go_upto_region 14 with fail
      generalize w3.setCell ⟨g11, 0, none⟩ (.int .i64 (31 + (b3 : Int))) = w4 at HD4 HK4 HB4' ⊢
      clear cc ff
      clear HR0 HD3 K3 HB3 hb3l
      obtain ⟨R1, hR1⟩ : ∃ R, R = wCells (replQ c stamp ((i : Int) + 1) o1 z) none 0 0 none 0 0 := ⟨_, rfl⟩
      have hr1s : R1.size = 10 := by rw [hR1]; simp [wCells]
      have hr11 : R1.all (·.oneCell') = true := by rw [hR1]; exact wCells_one _ _ _ _ _ _ _
      have d7 : w4.cell? ⟨g11, 7, none⟩ = some (.int .i64 o1) := (HD4.out.cell 7).trans rfl
      have d8 : w4.cell? ⟨g11, 8, none⟩ = some (.int .i64 z) := (HD4.out.cell 8).trans rfl
      have f7 := HD4.out.frozen 7
      rw [← hR1] at HD4
      have HR1 := Lib.hid hR1
      clear hR1
      by_cases hoz : o1 = z
      · have hob : (o1 == z) = true := by simpa using hoz
        have HPZ := Lib.hid (show P = AWishPost w (replQ c stamp ((i : Int) + 1) 1 z) by rw [HPR.out, if_pos hoz])
        clear hoz
        go_upto_region 16 with fail
        have hT := Turned.setCell w4 ⟨g11, 7, none⟩ (.int .i64 1)
        have HB5 := Lib.hid (HB4'.out.setCell (p := ⟨g11, 7, none⟩) hgw11 (.int .i64 1))
        have HK5 := Lib.hid (hT.blk HK4.out hg611)
        have hd5 := HD4.out.set_ 7 (.int .i64 1)
        obtain ⟨R2, hR2⟩ : ∃ R, R = R1.setIfInBounds 7 (.int .i64 1) := ⟨_, rfl⟩
        have hr2s : R2.size = 10 := by rw [hR2]; simp [hr1s]
        have hR2e : R2 = wCells (replQ c stamp ((i : Int) + 1) 1 z) none 0 0 none 0 0 := by rw [hR2, HR1.out]; rfl
        have hr21 : R2.all (·.oneCell') = true := by rw [hR2e]; exact wCells_one _ _ _ _ _ _ _
        rw [← hR2] at hd5
        have HD5 := Lib.hid hd5
        have HR2 := Lib.hid hR2e
        clear hd5 hR2 hR2e hT d7 d8 f7
        generalize w4.setCell ⟨g11, 7, none⟩ (.int .i64 1) = w5 at HB5 HK5 HD5 ⊢
        go_wp2_with (first | refine wpList_load_part (o := ⟨some 79, _, _, _, _, _⟩) rfl 48 (.tmp 11) rfl g11 0 10 rfl 48 _ R2 _ HD5.out Tryz.underlying48 rfl rfl hr2s (fun _ _ => by rw [Nat.zero_add]) ?_ | (refine wpList_store_part (o := ⟨none, _, _, _, _, _⟩) rfl 48 (.tmp 6) (.tmp 79) rfl g6 0 R2 rfl rfl 48 (wCells zeroW none 0 0 none 0 0) HK5.out (by rw [hr2s]; kernel_rfl) (by rw [hr2s]; simp [wCells]) hr21 ?_; intro w9 hT9 hD9; rw [spl_self _ _ (by rw [hr2s]; simp [wCells])] at hD9))
        refine bodyPost_ret (results_part rfl _ _ g6 10 48 _ _ rfl hD9 Tryz.underlying48 rfl rfl hr2s) rfl ?_
        rw [HPZ.out, HR2.out]
        exact ⟨rfl, hT9.below HB5.out hgw⟩
      · have hob : (o1 == z) = false := by simpa using hoz
        have HPZ := Lib.hid (show P = AWishPost w (replQ c stamp ((i : Int) + 1) o1 z) by rw [HPR.out, if_neg hoz])
        clear hoz f7
        go_wp2_with (first | refine wpList_load_part (o := ⟨some 79, _, _, _, _, _⟩) rfl 48 (.tmp 11) rfl g11 0 10 rfl 48 _ R1 _ HD4.out Tryz.underlying48 rfl rfl hr1s (fun _ _ => by rw [Nat.zero_add]) ?_ | (refine wpList_store_part (o := ⟨none, _, _, _, _, _⟩) rfl 48 (.tmp 6) (.tmp 79) rfl g6 0 R1 rfl rfl 48 (wCells zeroW none 0 0 none 0 0) HK4.out (by rw [hr1s]; kernel_rfl) (by rw [hr1s]; simp [wCells]) hr11 ?_; intro w9 hT9 hD9; rw [spl_self _ _ (by rw [hr1s]; simp [wCells])] at hD9))
        refine bodyPost_ret (results_part rfl _ _ g6 10 48 _ _ rfl hD9 Tryz.underlying48 rfl rfl hr1s) rfl ?_
        rw [HPZ.out, HR1.out]
        exact ⟨rfl, hT9.below HB4'.out hgw⟩
    by_cases hq2 : b16 = 2
    · have HCC := Lib.hid (show c = 34 by rw [HHC.out, if_neg hq1])
      have HOO := Lib.hid (show o1 = o by rw [HHO.out, if_neg (by omega)])
      have HZZ := Lib.hid (show z = 5 by rw [HHZ.out, if_pos hq2])
      have n1 : ((b16 : Int) == 1) = false := by simp; omega
      have q2 : ((b16 : Int) == 2) = true := by simp [hq2]
      have cc : w3.cell? ⟨g11, 8, none⟩ = some (.int .i64 (13 + (b9 : Int))) := (HD3.out.cell 8).trans (by rw [HR0.out]; rfl)
      have ff := HD3.out.frozen 8
      have hT := Turned.setCell w3 ⟨g11, 8, none⟩ (.int .i64 5)
      have hset := HD3.out.set_ 8 (.int .i64 5)
      rw [HR0.out] at hset
      have hset2 : Blk (w3.setCell ⟨g11, 8, none⟩ (.int .i64 5)) g11 48 (wCells (replQ c stamp ((i : Int) + 1) o1 z) none 0 0 none 0 0) := by
        rw [HCC.out, HOO.out, HZZ.out]
        exact hset
      have HD4 := Lib.hid hset2
      have HK4 := Lib.hid (hT.blk K3.out hg611)
      have HB4' := Lib.hid (HB3.out.setCell (p := ⟨g11, 8, none⟩) hgw11 (.int .i64 5))
      clear hq2 hT hset hset2
      go_upto_region 14 with fail
      generalize w3.setCell ⟨g11, 8, none⟩ (.int .i64 5) = w4 at HD4 HK4 HB4' ⊢
      clear cc ff
      clear HR0 HD3 K3 HB3 hb3l
      obtain ⟨R1, hR1⟩ : ∃ R, R = wCells (replQ c stamp ((i : Int) + 1) o1 z) none 0 0 none 0 0 := ⟨_, rfl⟩
      have hr1s : R1.size = 10 := by rw [hR1]; simp [wCells]
      have hr11 : R1.all (·.oneCell') = true := by rw [hR1]; exact wCells_one _ _ _ _ _ _ _
      have d7 : w4.cell? ⟨g11, 7, none⟩ = some (.int .i64 o1) := (HD4.out.cell 7).trans rfl
      have d8 : w4.cell? ⟨g11, 8, none⟩ = some (.int .i64 z) := (HD4.out.cell 8).trans rfl
      have f7 := HD4.out.frozen 7
      rw [← hR1] at HD4
      have HR1 := Lib.hid hR1
      clear hR1
      by_cases hoz : o1 = z
      · have hob : (o1 == z) = true := by simpa using hoz
        have HPZ := Lib.hid (show P = AWishPost w (replQ c stamp ((i : Int) + 1) 1 z) by rw [HPR.out, if_pos hoz])
        clear hoz
        go_upto_region 16 with fail
        have hT := Turned.setCell w4 ⟨g11, 7, none⟩ (.int .i64 1)
        have HB5 := Lib.hid (HB4'.out.setCell (p := ⟨g11, 7, none⟩) hgw11 (.int .i64 1))
        have HK5 := Lib.hid (hT.blk HK4.out hg611)
        have hd5 := HD4.out.set_ 7 (.int .i64 1)
        obtain ⟨R2, hR2⟩ : ∃ R, R = R1.setIfInBounds 7 (.int .i64 1) := ⟨_, rfl⟩
        have hr2s : R2.size = 10 := by rw [hR2]; simp [hr1s]
        have hR2e : R2 = wCells (replQ c stamp ((i : Int) + 1) 1 z) none 0 0 none 0 0 := by rw [hR2, HR1.out]; rfl
        have hr21 : R2.all (·.oneCell') = true := by rw [hR2e]; exact wCells_one _ _ _ _ _ _ _
        rw [← hR2] at hd5
        have HD5 := Lib.hid hd5
        have HR2 := Lib.hid hR2e
        clear hd5 hR2 hR2e hT d7 d8 f7
        generalize w4.setCell ⟨g11, 7, none⟩ (.int .i64 1) = w5 at HB5 HK5 HD5 ⊢
        go_wp2_with (first | refine wpList_load_part (o := ⟨some 79, _, _, _, _, _⟩) rfl 48 (.tmp 11) rfl g11 0 10 rfl 48 _ R2 _ HD5.out Tryz.underlying48 rfl rfl hr2s (fun _ _ => by rw [Nat.zero_add]) ?_ | (refine wpList_store_part (o := ⟨none, _, _, _, _, _⟩) rfl 48 (.tmp 6) (.tmp 79) rfl g6 0 R2 rfl rfl 48 (wCells zeroW none 0 0 none 0 0) HK5.out (by rw [hr2s]; kernel_rfl) (by rw [hr2s]; simp [wCells]) hr21 ?_; intro w9 hT9 hD9; rw [spl_self _ _ (by rw [hr2s]; simp [wCells])] at hD9))
        refine bodyPost_ret (results_part rfl _ _ g6 10 48 _ _ rfl hD9 Tryz.underlying48 rfl rfl hr2s) rfl ?_
        rw [HPZ.out, HR2.out]
        exact ⟨rfl, hT9.below HB5.out hgw⟩
      · have hob : (o1 == z) = false := by simpa using hoz
        have HPZ := Lib.hid (show P = AWishPost w (replQ c stamp ((i : Int) + 1) o1 z) by rw [HPR.out, if_neg hoz])
        clear hoz f7
        go_wp2_with (first | refine wpList_load_part (o := ⟨some 79, _, _, _, _, _⟩) rfl 48 (.tmp 11) rfl g11 0 10 rfl 48 _ R1 _ HD4.out Tryz.underlying48 rfl rfl hr1s (fun _ _ => by rw [Nat.zero_add]) ?_ | (refine wpList_store_part (o := ⟨none, _, _, _, _, _⟩) rfl 48 (.tmp 6) (.tmp 79) rfl g6 0 R1 rfl rfl 48 (wCells zeroW none 0 0 none 0 0) HK4.out (by rw [hr1s]; kernel_rfl) (by rw [hr1s]; simp [wCells]) hr11 ?_; intro w9 hT9 hD9; rw [spl_self _ _ (by rw [hr1s]; simp [wCells])] at hD9))
        refine bodyPost_ret (results_part rfl _ _ g6 10 48 _ _ rfl hD9 Tryz.underlying48 rfl rfl hr1s) rfl ?_
        rw [HPZ.out, HR1.out]
        exact ⟨rfl, hT9.below HB4'.out hgw⟩
    by_cases hq3 : b16 = 3
    · have HCC := Lib.hid (show c = 34 by rw [HHC.out, if_neg hq1])
      have HOO := Lib.hid (show o1 = 28 by rw [HHO.out, if_pos hq3])
      have HZZ := Lib.hid (show z = 13 + (b9 : Int) by rw [HHZ.out, if_neg hq2])
      have n1 : ((b16 : Int) == 1) = false := by simp; omega
      have n2 : ((b16 : Int) == 2) = false := by simp; omega
      have q3 : ((b16 : Int) == 3) = true := by simp [hq3]
      have cc : w3.cell? ⟨g11, 7, none⟩ = some (.int .i64 o) := (HD3.out.cell 7).trans (by rw [HR0.out]; rfl)
      have ff := HD3.out.frozen 7
      have hT := Turned.setCell w3 ⟨g11, 7, none⟩ (.int .i64 28)
      have hset := HD3.out.set_ 7 (.int .i64 28)
      rw [HR0.out] at hset
      have hset2 : Blk (w3.setCell ⟨g11, 7, none⟩ (.int .i64 28)) g11 48 (wCells (replQ c stamp ((i : Int) + 1) o1 z) none 0 0 none 0 0) := by
        rw [HCC.out, HOO.out, HZZ.out]
        exact hset
      have HD4 := Lib.hid hset2
      have HK4 := Lib.hid (hT.blk K3.out hg611)
      have HB4' := Lib.hid (HB3.out.setCell (p := ⟨g11, 7, none⟩) hgw11 (.int .i64 28))
      clear hq3 hT hset hset2
      go_upto_region 14 with fail
      generalize w3.setCell ⟨g11, 7, none⟩ (.int .i64 28) = w4 at HD4 HK4 HB4' ⊢
      clear cc ff
      clear HR0 HD3 K3 HB3 hb3l
      obtain ⟨R1, hR1⟩ : ∃ R, R = wCells (replQ c stamp ((i : Int) + 1) o1 z) none 0 0 none 0 0 := ⟨_, rfl⟩
      have hr1s : R1.size = 10 := by rw [hR1]; simp [wCells]
      have hr11 : R1.all (·.oneCell') = true := by rw [hR1]; exact wCells_one _ _ _ _ _ _ _
      have d7 : w4.cell? ⟨g11, 7, none⟩ = some (.int .i64 o1) := (HD4.out.cell 7).trans rfl
      have d8 : w4.cell? ⟨g11, 8, none⟩ = some (.int .i64 z) := (HD4.out.cell 8).trans rfl
      have f7 := HD4.out.frozen 7
      rw [← hR1] at HD4
      have HR1 := Lib.hid hR1
      clear hR1
      by_cases hoz : o1 = z
      · have hob : (o1 == z) = true := by simpa using hoz
        have HPZ := Lib.hid (show P = AWishPost w (replQ c stamp ((i : Int) + 1) 1 z) by rw [HPR.out, if_pos hoz])
        clear hoz
        go_upto_region 16 with fail
        have hT := Turned.setCell w4 ⟨g11, 7, none⟩ (.int .i64 1)
        have HB5 := Lib.hid (HB4'.out.setCell (p := ⟨g11, 7, none⟩) hgw11 (.int .i64 1))
        have HK5 := Lib.hid (hT.blk HK4.out hg611)
        have hd5 := HD4.out.set_ 7 (.int .i64 1)
        obtain ⟨R2, hR2⟩ : ∃ R, R = R1.setIfInBounds 7 (.int .i64 1) := ⟨_, rfl⟩
        have hr2s : R2.size = 10 := by rw [hR2]; simp [hr1s]
        have hR2e : R2 = wCells (replQ c stamp ((i : Int) + 1) 1 z) none 0 0 none 0 0 := by rw [hR2, HR1.out]; rfl
        have hr21 : R2.all (·.oneCell') = true := by rw [hR2e]; exact wCells_one _ _ _ _ _ _ _
        rw [← hR2] at hd5
        have HD5 := Lib.hid hd5
        have HR2 := Lib.hid hR2e
        clear hd5 hR2 hR2e hT d7 d8 f7
        generalize w4.setCell ⟨g11, 7, none⟩ (.int .i64 1) = w5 at HB5 HK5 HD5 ⊢
        go_wp2_with (first | refine wpList_load_part (o := ⟨some 79, _, _, _, _, _⟩) rfl 48 (.tmp 11) rfl g11 0 10 rfl 48 _ R2 _ HD5.out Tryz.underlying48 rfl rfl hr2s (fun _ _ => by rw [Nat.zero_add]) ?_ | (refine wpList_store_part (o := ⟨none, _, _, _, _, _⟩) rfl 48 (.tmp 6) (.tmp 79) rfl g6 0 R2 rfl rfl 48 (wCells zeroW none 0 0 none 0 0) HK5.out (by rw [hr2s]; kernel_rfl) (by rw [hr2s]; simp [wCells]) hr21 ?_; intro w9 hT9 hD9; rw [spl_self _ _ (by rw [hr2s]; simp [wCells])] at hD9))
        refine bodyPost_ret (results_part rfl _ _ g6 10 48 _ _ rfl hD9 Tryz.underlying48 rfl rfl hr2s) rfl ?_
        rw [HPZ.out, HR2.out]
        exact ⟨rfl, hT9.below HB5.out hgw⟩
      · have hob : (o1 == z) = false := by simpa using hoz
        have HPZ := Lib.hid (show P = AWishPost w (replQ c stamp ((i : Int) + 1) o1 z) by rw [HPR.out, if_neg hoz])
        clear hoz f7
        go_wp2_with (first | refine wpList_load_part (o := ⟨some 79, _, _, _, _, _⟩) rfl 48 (.tmp 11) rfl g11 0 10 rfl 48 _ R1 _ HD4.out Tryz.underlying48 rfl rfl hr1s (fun _ _ => by rw [Nat.zero_add]) ?_ | (refine wpList_store_part (o := ⟨none, _, _, _, _, _⟩) rfl 48 (.tmp 6) (.tmp 79) rfl g6 0 R1 rfl rfl 48 (wCells zeroW none 0 0 none 0 0) HK4.out (by rw [hr1s]; kernel_rfl) (by rw [hr1s]; simp [wCells]) hr11 ?_; intro w9 hT9 hD9; rw [spl_self _ _ (by rw [hr1s]; simp [wCells])] at hD9))
        refine bodyPost_ret (results_part rfl _ _ g6 10 48 _ _ rfl hD9 Tryz.underlying48 rfl rfl hr1s) rfl ?_
        rw [HPZ.out, HR1.out]
        exact ⟨rfl, hT9.below HB4'.out hgw⟩
    · have HCC := Lib.hid (show c = 34 by rw [HHC.out, if_neg hq1])
      have HOO := Lib.hid (show o1 = o by rw [HHO.out, if_neg hq3])
      have HZZ := Lib.hid (show z = 13 + (b9 : Int) by rw [HHZ.out, if_neg hq2])
      have n1 : ((b16 : Int) == 1) = false := by simp; omega
      have n2 : ((b16 : Int) == 2) = false := by simp; omega
      have n3 : ((b16 : Int) == 3) = false := by simp; omega
      clear hq1 hq2 hq3
      have hd4 : Blk w3 g11 48 (wCells (replQ c stamp ((i : Int) + 1) o1 z) none 0 0 none 0 0) := by
        rw [HCC.out, HOO.out, HZZ.out, ← HR0.out]
        exact HD3.out
      obtain ⟨w4, hw4⟩ : ∃ w4, w4 = w3 := ⟨_, rfl⟩
      rw [← hw4] at hd4
      have HD4 := Lib.hid hd4
      have HK4 := Lib.hid K3.out
      have HB4' := Lib.hid HB3.out
      rw [← hw4] at HK4 HB4'
      clear hd4
      go_upto_region 14 with fail
      rw [← hw4]
      clear hw4
      clear HR0 HD3 K3 HB3 hb3l
      obtain ⟨R1, hR1⟩ : ∃ R, R = wCells (replQ c stamp ((i : Int) + 1) o1 z) none 0 0 none 0 0 := ⟨_, rfl⟩
      have hr1s : R1.size = 10 := by rw [hR1]; simp [wCells]
      have hr11 : R1.all (·.oneCell') = true := by rw [hR1]; exact wCells_one _ _ _ _ _ _ _
      have d7 : w4.cell? ⟨g11, 7, none⟩ = some (.int .i64 o1) := (HD4.out.cell 7).trans rfl
      have d8 : w4.cell? ⟨g11, 8, none⟩ = some (.int .i64 z) := (HD4.out.cell 8).trans rfl
      have f7 := HD4.out.frozen 7
      rw [← hR1] at HD4
      have HR1 := Lib.hid hR1
      clear hR1
      by_cases hoz : o1 = z
      · have hob : (o1 == z) = true := by simpa using hoz
        have HPZ := Lib.hid (show P = AWishPost w (replQ c stamp ((i : Int) + 1) 1 z) by rw [HPR.out, if_pos hoz])
        clear hoz
        go_upto_region 16 with fail
        have hT := Turned.setCell w4 ⟨g11, 7, none⟩ (.int .i64 1)
        have HB5 := Lib.hid (HB4'.out.setCell (p := ⟨g11, 7, none⟩) hgw11 (.int .i64 1))
        have HK5 := Lib.hid (hT.blk HK4.out hg611)
        have hd5 := HD4.out.set_ 7 (.int .i64 1)
        obtain ⟨R2, hR2⟩ : ∃ R, R = R1.setIfInBounds 7 (.int .i64 1) := ⟨_, rfl⟩
        have hr2s : R2.size = 10 := by rw [hR2]; simp [hr1s]
        have hR2e : R2 = wCells (replQ c stamp ((i : Int) + 1) 1 z) none 0 0 none 0 0 := by rw [hR2, HR1.out]; rfl
        have hr21 : R2.all (·.oneCell') = true := by rw [hR2e]; exact wCells_one _ _ _ _ _ _ _
        rw [← hR2] at hd5
        have HD5 := Lib.hid hd5
        have HR2 := Lib.hid hR2e
        clear hd5 hR2 hR2e hT d7 d8 f7
        generalize w4.setCell ⟨g11, 7, none⟩ (.int .i64 1) = w5 at HB5 HK5 HD5 ⊢
        go_wp2_with (first | refine wpList_load_part (o := ⟨some 79, _, _, _, _, _⟩) rfl 48 (.tmp 11) rfl g11 0 10 rfl 48 _ R2 _ HD5.out Tryz.underlying48 rfl rfl hr2s (fun _ _ => by rw [Nat.zero_add]) ?_ | (refine wpList_store_part (o := ⟨none, _, _, _, _, _⟩) rfl 48 (.tmp 6) (.tmp 79) rfl g6 0 R2 rfl rfl 48 (wCells zeroW none 0 0 none 0 0) HK5.out (by rw [hr2s]; kernel_rfl) (by rw [hr2s]; simp [wCells]) hr21 ?_; intro w9 hT9 hD9; rw [spl_self _ _ (by rw [hr2s]; simp [wCells])] at hD9))
        refine bodyPost_ret (results_part rfl _ _ g6 10 48 _ _ rfl hD9 Tryz.underlying48 rfl rfl hr2s) rfl ?_
        rw [HPZ.out, HR2.out]
        exact ⟨rfl, hT9.below HB5.out hgw⟩
      · have hob : (o1 == z) = false := by simpa using hoz
        have HPZ := Lib.hid (show P = AWishPost w (replQ c stamp ((i : Int) + 1) o1 z) by rw [HPR.out, if_neg hoz])
        clear hoz f7
        go_wp2_with (first | refine wpList_load_part (o := ⟨some 79, _, _, _, _, _⟩) rfl 48 (.tmp 11) rfl g11 0 10 rfl 48 _ R1 _ HD4.out Tryz.underlying48 rfl rfl hr1s (fun _ _ => by rw [Nat.zero_add]) ?_ | (refine wpList_store_part (o := ⟨none, _, _, _, _, _⟩) rfl 48 (.tmp 6) (.tmp 79) rfl g6 0 R1 rfl rfl 48 (wCells zeroW none 0 0 none 0 0) HK4.out (by rw [hr1s]; kernel_rfl) (by rw [hr1s]; simp [wCells]) hr11 ?_; intro w9 hT9 hD9; rw [spl_self _ _ (by rw [hr1s]; simp [wCells])] at hD9))
        refine bodyPost_ret (results_part rfl _ _ g6 10 48 _ _ rfl hD9 Tryz.underlying48 rfl rfl hr1s) rfl ?_
        rw [HPZ.out, HR1.out]
        exact ⟨rfl, hT9.below HB4'.out hgw⟩

end Go.Proofs.YtlaodmmjhjpfmaaGreat

/- A law's atlas in memory; contract of the laws' works. -/
namespace Go.Proofs.YtlaodmmjhjpfmaaGreat
set_option linter.unusedVariables false
set_option linter.unusedSimpArgs false
open Go.RowKit Go.Maps

attribute [local irreducible] wpList wpCalm
structure ALSt (w0 : World) (V : ALoc) (N : Nat → Prop) (m : AM) (a : Nat) (W : World) : Prop where
  vat : AAt W V N m
  book : ∃ L a', BookAt W V.k L a' ∧ a' ≤ a ∧ InBook L (leavesQ m)
  low : Below w0.heap.size w0 W
  nlt : ∀ b, N b → b < W.heap.size
  old : ∀ b, b < w0.heap.size → N b
  new : ∀ b, V.all b → w0.heap.size ≤ b
theorem ALSt.below {w0 W W' : World} {V : ALoc} {N : Nat → Prop} {m : AM} {a : Nat} (h : ALSt w0 V N m a W) (hb : Below W.heap.size W W') : ALSt w0 V N m a W' := by
  obtain ⟨L, a', h1, h2, h3⟩ := h.book
  exact ⟨h.vat.below hb, ⟨L, a', h1.below hb, h2, h3⟩, h.low.trans (hb.mono h.low.size), fun b hn => by have := h.nlt b hn; have := hb.size; omega, h.old, h.new⟩
theorem ALSt.only {w0 W W' : World} {V : ALoc} {N : Nat → Prop} {m : AM} {a : Nat} (h : ALSt w0 V N m a W) (ho : Only (V.hasN N) W W') : Below w0.heap.size w0 W' :=
  h.low.trans (ho.below h.low.size fun b hb hv => by
    rcases hv with e | e
    · exact absurd (h.new b (AAt.has_all (w := w0) (m := m) (N := N) e)) (by omega)
    · exact e (h.old b hb))
theorem ALSt.did {w0 W W' : World} {V : ALoc} {N : Nat → Prop} {m m' : AM} {a a' q asked : Nat} {L : List (List UInt8)} (h : ALSt w0 V N m a W) (hd : ADone W W' V N m' L asked q) (hq : asked + q ≤ a') : ALSt w0 V N m' a' W' := by
  obtain ⟨L', b', h1, h2, h3, h4⟩ := hd.book
  exact ⟨hd.vat, ⟨L', b', h1, by omega, h4⟩, h.only hd.only, fun b hn => by have := h.nlt b hn; have := hd.only.size; omega, h.old, h.new⟩
theorem ALSt.more {w0 W : World} {V : ALoc} {N : Nat → Prop} {m : AM} {a a' : Nat} (h : ALSt w0 V N m a W) (ha : a ≤ a') : ALSt w0 V N m a' W := by
  obtain ⟨L, b, h1, h2, h3⟩ := h.book
  exact ⟨h.vat, ⟨L, b, h1, by omega, h3⟩, h.low, h.nlt, h.old, h.new⟩
theorem ALSt.later {w0 W W' : World} {V : ALoc} {N : Nat → Prop} {m : AM} {a : Nat} (h : ALSt w0 V N m a W) (hb : Below W.heap.size W W') : ALSt w0 V (fun b => N b ∨ (W.heap.size ≤ b ∧ b < W'.heap.size)) m a W' := by
  obtain ⟨L, a', h1, h2, h3⟩ := h.book
  exact ⟨h.vat.later hb, ⟨L, a', h1.below hb, h2, h3⟩, h.low.trans (hb.mono h.low.size), fun b hn => hn.elim (fun e => by have := h.nlt b e; have := hb.size; omega) (fun e => e.2), fun b hb' => .inl (h.old b hb'), h.new⟩
theorem ALoc.all_lt {w : World} {V : ALoc} {N : Nat → Prop} {m : AM} {L : List (List UInt8)} {a : Nat} (h : AAt w V N m) (hb : BookAt w V.k L a) : ∀ b, V.all b → b < w.heap.size := fun b hb' => by
  obtain ⟨S, hd⟩ := h.dat
  have hl := hb.lt
  rcases hb' with e | e | e | e
  · rw [e]; exact hd.lt.1
  · rw [e]; exact hd.lt.2
  · rcases e with e | e | e <;> rw [e]
    · exact hl.1
    · exact hl.2.1
    · exact hl.2.2
  · exact h.tree.lt e
theorem ALSt.start {w0 W W' : World} {V : ALoc} {m : AM} {asked : Nat} {L : List (List UInt8)} (hb : Below w0.heap.size w0 W) (hk : w0.heap.size ≤ V.k.g ∧ w0.heap.size ≤ V.k.b1 ∧ w0.heap.size ≤ V.k.b2) (h : ANew W W' V.k V L asked m) : ALSt w0 V (fun b => V.all b ∨ b < W.heap.size) m (asked + 30) W' := by
  obtain ⟨L', a', h1, h2, h3, h4⟩ := h.book
  have hs := hb.size
  refine ⟨h.vat, ⟨L', a', h1, by omega, h4⟩, hb.trans (h.only.below hs fun b hb' hn => by rcases hn with e | e | e <;> omega), fun b hn => hn.elim (fun e => ALoc.all_lt h.vat h1 b e) (fun e => by have := h.only.size; omega), fun b hb' => .inr (by omega), fun b hb' => ?_⟩
  rcases hb' with e | e | e | e
  · have := h.new.1; omega
  · have := h.new.2.1; omega
  · rcases e with e | e | e <;> omega
  · have := h.new.2.2 b e; omega
/-- Do -/
def ADidP (w0 : World) (V : ALoc) (N : Nat → Prop) (a : Nat) (W : World) (p : AM × Ans × Nat) (r : Ending) (W' : World) : Prop :=
  ∃ D, r = .returned (.tuple #[.agg D, .int .i64 (p.2.2 : Int)]) ∧ D.size = 4 ∧ AnsN W' W.heap.size D p.2.1 ∧ ALSt w0 V N p.1 (a + 6) W' ∧ Only (V.hasN N) W W'
theorem ALSt.do_ {w0 W : World} {V : ALoc} {N : Nat → Prop} {m : AM} {a : Nat} (h : ALSt w0 V N m a W) (ha : a ≤ 700000) (x : Wish) (A : Option Addr) (n c : Nat) (A' : Option Addr) (n' c' : Nat) (B : Nat) (hx : WishIn W B x A n c A' n' c') (hB : B ≤ W.heap.size) :
    Calls Tryz.prog 24 #[.pointer (some ⟨V.g, 0, none⟩), .agg (wCells x A n c A' n' c')] W (ADidP w0 V N a W (doQ m x)) := by
  obtain ⟨L, a', h1, h2, h3⟩ := h.book
  refine (aDo_any W V N m L a' h.vat h.nlt h1 h3 (by omega) x A n c A' n' c' B hx hB).mono ?_
  rintro r W' ⟨D, rfl, hs, ho, hd⟩
  exact ⟨D, rfl, hs, ho, h.did hd (by omega), hd.only⟩
theorem ALSt.does_ {w0 W0 W : World} {V : ALoc} {N : Nat → Prop} {m : AM} {a : Nat} (h : ALSt w0 V N m a W0) (hb : Below W0.heap.size W0 W) (ha : a ≤ 700000) (x : Wish) (hx : WishIn W W.heap.size x none 0 0 none 0 0)
    (err ep : Nat) (nodes : List Int) (D : Option Addr) (k d : Nat) (hy : Reads W W.heap.size 1 D k (nodes.map vn)) (hyp : ∀ a, 0 < k → D = some a → W0.heap.size ≤ a.block) (hk : k ≤ 1000000)
    (m' : AM) (hm' : (doQ m x).1 = m') (hres : (doQ m x).2.2 = 0 ∧ (doQ m x).2.1.err = err ∧ (doQ m x).2.1.epoch = ep ∧ (doQ m x).2.1.nodes = nodes) (args : Array Value) (hargs : args = #[.pointer (some ⟨V.g, 0, none⟩), .agg (wCells x none 0 0 none 0 0), .int .i64 (err : Int), .int .i64 (ep : Int), .slice D k d]) :
    Calls Tryz.prog 75 args W fun e W' => e = .returned (.bool true) ∧ ALSt w0 V (fun b => N b ∨ (W0.heap.size ≤ b ∧ b < W.heap.size)) m' (a + 6) W' := by
  have hl := h.later hb
  obtain ⟨L, a', h1, h2, h3⟩ := hl.book
  subst hargs
  refine (adoes_any W V _ m L a' hl.vat hl.nlt h1 h3 (by omega) x none 0 0 none 0 0 _ hx (Nat.le_refl _) err ep nodes D k d hy (fun ad h0 hA => ?_) hk).mono ?_
  · obtain ⟨ad', e, hlt, _⟩ := hy.2 h0
    rw [hA] at e
    injection e with e
    subst e
    have h5 := hyp ad h0 hA
    exact ⟨.inr ⟨h5, hlt⟩, fun hv => by have := h.nlt _ (h.vat.all _ hv); omega⟩
  · rintro e W' ⟨rfl, hd⟩
    subst hm'
    exact ⟨by rw [decide_eq_true hres], hl.did hd (by omega)⟩
theorem queryIn {w : World} {c s b : Int} (h : I64 c ∧ I64 s ∧ I64 b) : WishIn w w.heap.size (queryQ c s b) none 0 0 none 0 0 :=
  ⟨Reads.none_, by simp [queryQ], by simp [queryQ], Reads.none_, by simp [queryQ], by simp [queryQ], ⟨h.1, h.2.1, by show I64 0; unfold I64; omega, by show I64 0; unfold I64; omega, by show I64 3; unfold I64; omega, h.2.2, by show I64 0; unfold I64; omega, by show I64 0; unfold I64; omega, fun z hz => by simp [queryQ] at hz⟩⟩
theorem replIn {w : World} {c s b o z : Int} (h : I64 c ∧ I64 s ∧ I64 b ∧ I64 o ∧ I64 z) : WishIn w w.heap.size (replQ c s b o z) none 0 0 none 0 0 :=
  ⟨Reads.none_, by simp [replQ], by simp [replQ], Reads.none_, by simp [replQ], by simp [replQ], ⟨h.1, h.2.1, by show I64 0; unfold I64; omega, by show I64 0; unfold I64; omega, by show I64 4; unfold I64; omega, h.2.2.1, h.2.2.2.1, h.2.2.2.2, fun z hz => by simp [replQ] at hz⟩⟩
def ak0 : AM := freshQ [⟨1, [5, 6, 7, 8], []⟩, ⟨1, [9, 10, 11, 12], []⟩]
theorem newQ_two : newQ twoL = some ak0 := by kernel_rfl
def ak1 : AM := (doQ ak0 (queryQ 31 1 2)).1
def ak2 : AM := (doQ ak1 (queryQ 31 1 2)).1
def ak3 : AM := (doQ ak2 (replQ 34 1 1 6 20)).1
def ak4 : AM := (doQ ak3 (replQ 34 2 1 6 21)).1
def ak5 : AM := (doQ ak4 (replQ 34 3 1 7 6)).1
def ak6 : AM := (doQ ak5 (replQ 31 2 1 7 21)).1
def AAnsIs (m : AM) (x : Wish) (err ep : Nat) (nodes : List Int) : Prop := (doQ m x).2.2 = 0 ∧ (doQ m x).2.1.err = err ∧ (doQ m x).2.1.epoch = ep ∧ (doQ m x).2.1.nodes = nodes
instance (m : AM) (x : Wish) (err ep : Nat) (nodes : List Int) : Decidable (AAnsIs m x err ep nodes) := by unfold AAnsIs; infer_instance
theorem ak_0 : AAnsIs ak0 (queryQ 31 1 2) 0 0 [9, 10, 11, 12] := by decide +kernel
theorem ak_1 : AAnsIs ak1 (queryQ 31 1 2) 0 0 [9, 10, 11, 12] := by decide +kernel
theorem ak_2 : AAnsIs ak2 (replQ 34 1 1 6 20) 0 1 [] := by decide +kernel
theorem ak_3 : AAnsIs ak3 (replQ 34 2 1 6 21) 180 1 [] := by decide +kernel
theorem ak_4 : AAnsIs ak4 (replQ 34 3 1 7 6) 180 1 [] := by decide +kernel
theorem ak_5 : AAnsIs ak5 (replQ 31 2 1 7 21) 180 0 [] := by decide +kernel
theorem ak_6 : (ak6.chunks[0]?.map fun s => crewsL s.first s.moves) = some [[5, 6, 7, 8], [5, 7, 8, 20]] ∧ ak6.chunks.length = 2 := by decide +kernel

end Go.Proofs.YtlaodmmjhjpfmaaGreat

/- Contract of the laws' works: the chapter's atlas. -/
namespace Go.Proofs.YtlaodmmjhjpfmaaGreat
set_option linter.unusedVariables false
set_option linter.unusedSimpArgs false
open Go.RowKit Go.Maps

attribute [local irreducible] wpList wpCalm
theorem reads4 (w : World) (a b c d : Int) : Reads (w.alloc (.cells #[.int .i64 a, .int .i64 b, .int .i64 c, .int .i64 d] 3)) (w.alloc (.cells #[.int .i64 a, .int .i64 b, .int .i64 c, .int .i64 d] 3)).heap.size 1 (some ⟨w.heap.size, 0, none⟩) 4 ([a, b, c, d].map vn) := by
  have hk : Blk (w.alloc (.cells #[.int .i64 a, .int .i64 b, .int .i64 c, .int .i64 d] 3)) w.heap.size 3 #[.int .i64 a, .int .i64 b, .int .i64 c, .int .i64 d] := Blk.newAt rfl
  exact ⟨rfl, fun _ => ⟨⟨w.heap.size, 0, none⟩, rfl, hk.lt, fun j u hu => by rw [add_off, Nat.zero_add, hk.cell, ← Array.getElem?_toList]; exact hu⟩⟩

set_option maxRecDepth 100000 in
set_option maxHeartbeats 4000000 in
theorem aworks_any (w : World) :
    Calls Tryz.prog 19 #[] w fun e w' => e = .returned (.bool true) ∧ Below w.heap.size w w' := by
  go_enter Tryz.func19, Tryz.ntmps19
  go_wp2_with fail
  refine (inkNew_any w).mono ?_
  rintro _ w1 ⟨k, rfl, hbk, hkn, hb1⟩
  have HB1 := Lib.hid hb1
  have HKN := Lib.hid hkn
  have HBK := Lib.hid hbk
  have hs1 := hb1.size
  clear hb1 hkn hbk
  go_wp2_with fail
  refine (atwo_any w1).mono ?_
  rintro _ wt ⟨At, ct, rfl, hct, hbt⟩
  have HNW := Lib.hid (aNew_any k [] 0 At 2 ct twoL wt (HBK.out.below hbt) (by omega) hct (by omega))
  have HBT := Lib.hid (HB1.out.trans (hbt.mono hs1))
  clear hct hbt
  go_wp2_with fail
  refine HNW.out.mono ?_
  rintro _ w2 ⟨_, hgo⟩
  obtain ⟨V, rfl, hna⟩ := hgo ak0 newQ_two
  have hkk := hna.kk
  subst hkk
  have HS0 := Lib.hid (ALSt.start HBT.out HKN.out hna)
  clear hgo hna HNW HBK HBT HB1 HKN
  have hI0 : ∀ z : Int, 0 ≤ z → z ≤ 1000 → I64 z := fun z h1 h2 => by unfold I64; omega
  go_wp2_with fail
  refine (aquery_any _ _ _ _).mono ?_
  rintro _ q0 ⟨rfl, hbq0⟩
  have hb0 := hbq0.trans ((below_lit q0 (.cells #[.int .i64 9, .int .i64 10, .int .i64 11, .int .i64 12] 3)).mono hbq0.size)
  have HD0 := Lib.hid (HS0.out.does_ hb0 (by omega) (queryQ 31 1 2) (queryIn ⟨hI0 31 (by omega) (by omega), hI0 1 (by omega) (by omega), hI0 2 (by omega) (by omega)⟩) 0 0 [9, 10, 11, 12] _ 4 4 (reads4 q0 9 10 11 12) (fun a _ ha => by injection ha with ha; subst ha; exact hbq0.size) (by omega) ak1 rfl ak_0 _ rfl)
  clear hb0 hbq0 hI0
  go_wp2_with fail
  refine HD0.out.mono ?_
  rintro _ d0 ⟨rfl, hs0⟩
  have HS1 := Lib.hid hs0
  clear hs0 HD0 HS0
  have hI1 : ∀ z : Int, 0 ≤ z → z ≤ 1000 → I64 z := fun z h1 h2 => by unfold I64; omega
  go_wp2_with fail
  refine (aquery_any _ _ _ _).mono ?_
  rintro _ q1 ⟨rfl, hbq1⟩
  have hb1 := hbq1.trans ((below_lit q1 (.cells #[.int .i64 9, .int .i64 10, .int .i64 11, .int .i64 12] 3)).mono hbq1.size)
  have HD1 := Lib.hid (HS1.out.does_ hb1 (by omega) (queryQ 31 1 2) (queryIn ⟨hI1 31 (by omega) (by omega), hI1 1 (by omega) (by omega), hI1 2 (by omega) (by omega)⟩) 0 0 [9, 10, 11, 12] _ 4 4 (reads4 q1 9 10 11 12) (fun a _ ha => by injection ha with ha; subst ha; exact hbq1.size) (by omega) ak2 rfl ak_1 _ rfl)
  clear hb1 hbq1 hI1
  go_wp2_with fail
  refine HD1.out.mono ?_
  rintro _ d1 ⟨rfl, hs1⟩
  have HS2 := Lib.hid hs1
  clear hs1 HD1 HS1
  have hI2 : ∀ z : Int, 0 ≤ z → z ≤ 1000 → I64 z := fun z h1 h2 => by unfold I64; omega
  go_wp2_with fail
  refine (areplace_any _ _ _ _ _ _).mono ?_
  rintro _ q2 ⟨rfl, hbq2⟩
  have HD2 := Lib.hid (HS2.out.does_ hbq2 (by omega) (replQ 34 1 1 6 20) (replIn ⟨hI2 34 (by omega) (by omega), hI2 1 (by omega) (by omega), hI2 1 (by omega) (by omega), hI2 6 (by omega) (by omega), hI2 20 (by omega) (by omega)⟩) 0 1 [] none 0 0 Reads.none_ (fun a h0 _ => by omega) (by omega) ak3 rfl ak_2 _ rfl)
  clear hbq2 hI2
  go_wp2_with fail
  refine HD2.out.mono ?_
  rintro _ d2 ⟨rfl, hs2⟩
  have HS3 := Lib.hid hs2
  clear hs2 HD2 HS2
  have hI3 : ∀ z : Int, 0 ≤ z → z ≤ 1000 → I64 z := fun z h1 h2 => by unfold I64; omega
  go_wp2_with fail
  refine (areplace_any _ _ _ _ _ _).mono ?_
  rintro _ q3 ⟨rfl, hbq3⟩
  have HD3 := Lib.hid (HS3.out.does_ hbq3 (by omega) (replQ 34 2 1 6 21) (replIn ⟨hI3 34 (by omega) (by omega), hI3 2 (by omega) (by omega), hI3 1 (by omega) (by omega), hI3 6 (by omega) (by omega), hI3 21 (by omega) (by omega)⟩) 180 1 [] none 0 0 Reads.none_ (fun a h0 _ => by omega) (by omega) ak4 rfl ak_3 _ rfl)
  clear hbq3 hI3
  go_wp2_with fail
  refine HD3.out.mono ?_
  rintro _ d3 ⟨rfl, hs3⟩
  have HS4 := Lib.hid hs3
  clear hs3 HD3 HS3
  have hI4 : ∀ z : Int, 0 ≤ z → z ≤ 1000 → I64 z := fun z h1 h2 => by unfold I64; omega
  go_wp2_with fail
  refine (areplace_any _ _ _ _ _ _).mono ?_
  rintro _ q4 ⟨rfl, hbq4⟩
  have HD4 := Lib.hid (HS4.out.does_ hbq4 (by omega) (replQ 34 3 1 7 6) (replIn ⟨hI4 34 (by omega) (by omega), hI4 3 (by omega) (by omega), hI4 1 (by omega) (by omega), hI4 7 (by omega) (by omega), hI4 6 (by omega) (by omega)⟩) 180 1 [] none 0 0 Reads.none_ (fun a h0 _ => by omega) (by omega) ak5 rfl ak_4 _ rfl)
  clear hbq4 hI4
  go_wp2_with fail
  refine HD4.out.mono ?_
  rintro _ d4 ⟨rfl, hs4⟩
  have HS5 := Lib.hid hs4
  clear hs4 HD4 HS4
  have hI5 : ∀ z : Int, 0 ≤ z → z ≤ 1000 → I64 z := fun z h1 h2 => by unfold I64; omega
  go_wp2_with fail
  refine (areplace_any _ _ _ _ _ _).mono ?_
  rintro _ q5 ⟨rfl, hbq5⟩
  have HD5 := Lib.hid (HS5.out.does_ hbq5 (by omega) (replQ 31 2 1 7 21) (replIn ⟨hI5 31 (by omega) (by omega), hI5 2 (by omega) (by omega), hI5 1 (by omega) (by omega), hI5 7 (by omega) (by omega), hI5 21 (by omega) (by omega)⟩) 180 0 [] none 0 0 Reads.none_ (fun a h0 _ => by omega) (by omega) ak6 rfl ak_5 _ rfl)
  clear hbq5 hI5
  go_wp2_with fail
  refine HD5.out.mono ?_
  rintro _ d5 ⟨rfl, hs5⟩
  have HS6 := Lib.hid hs5
  clear hs5 HD5 HS5
  obtain ⟨S, hd⟩ := HS6.out.vat.dat
  obtain ⟨s, hs⟩ : ∃ s, ak6.chunks[0]? = some s := ⟨_, List.getElem?_eq_getElem (by rw [ak_6.2]; omega)⟩
  have hcr : crewsL s.first s.moves = [[5, 6, 7, 8], [5, 7, 8, 20]] := by
    have := ak_6.1
    rw [hs] at this
    exact Option.some.inj this
  have HCW := Lib.hid (aCrews_any _ _ _ 0 _ _ _ _ s hd hs)
  have HCR := Lib.hid hcr
  clear hd hs hcr
  go_wp2_with fail
  refine HCW.out.mono ?_
  rintro _ w7 ⟨v, nA, nC, rfl, hown, hb7⟩
  rw [HCR.out] at hown
  obtain ⟨gl, cap, rfl, hgl, hgl2, hcl⟩ := hown.at_ (i := 1) (l := [5, 7, 8, 20]) rfl
  have hnd := own_reads (hown.nodes 1 [5, 7, 8, 20] rfl)
  obtain ⟨An, hAn⟩ : ∃ A, A = nA 1 := ⟨_, rfl⟩
  obtain ⟨cn, hcn⟩ : ∃ c, c = nC 1 := ⟨_, rfl⟩
  rw [← hAn] at hnd hcl
  rw [← hcn] at hcl
  have hcl' : w7.cell? ⟨gl, 3, none⟩ = some (.slice An 4 cn) := hcl
  have hb8 := below_lit w7 (.cells #[.int .i64 5, .int .i64 7, .int .i64 8, .int .i64 20] 3)
  have HEQ := Lib.hid (eqInts_any An (some ⟨w7.heap.size, 0, none⟩) 4 4 cn 4 [5, 7, 8, 20] [5, 7, 8, 20] _ w7.heap.size _ (hnd.2.below hb8) (reads4 w7 5 7 8 20) (by unfold maxLen; omega) (by unfold maxLen; omega))
  have HS7 := Lib.hid (HS6.out.below (hb7.trans (hb8.mono hb7.size)))
  have hz2 : [[5, 6, 7, 8], [5, 7, 8, (20 : Int)]].length = 2 := rfl
  rw [hz2]
  clear hown hcl hnd hAn hcn hb7 hb8 HCW HS6 hgl hgl2 hz2
  go_wp2_with fail
  refine HEQ.out.mono ?_
  rintro _ _ ⟨rfl, q, rfl⟩
  rw [decide_eq_true trivial]
  have HS8 := Lib.hid (HS7.out.below (below_drewN (Below.refl _ _) q))
  clear HEQ HS7 hcl'
  obtain ⟨S, hd⟩ := HS8.out.vat.dat
  have HCH := Lib.hid (aChunks_any _ _ _ _ _ _ _ hd)
  rw [ak_6.2] at HCH
  clear hd
  go_wp2_with fail
  refine HCH.out.mono ?_
  rintro _ _ ⟨rfl, rfl⟩
  go_wp2_with fail
  go_ret
  exact ⟨rfl, HS8.out.low⟩

end Go.Proofs.YtlaodmmjhjpfmaaGreat

/- Plain facts of a run of wishes. -/
namespace Go.Proofs.YtlaodmmjhjpfmaaGreat
set_option linter.unusedVariables false
set_option linter.unusedSimpArgs false
open Go.RowKit Go.Maps

theorem answerQ_len (m : AM) (x : Wish) : (answerQ m x).1.chunks.length = m.chunks.length ∧ (answerQ m x).1.last = m.last := by
  unfold answerQ
  split
  · exact ⟨rfl, rfl⟩
  · split
    · exact ⟨rfl, rfl⟩
    · split
      · exact ⟨rfl, rfl⟩
      · split
        · exact ⟨rfl, rfl⟩
        · split
          · exact ⟨rfl, rfl⟩
          · exact ⟨by simp, rfl⟩
theorem didQ_len (m : AM) (x : Wish) : (didQ m x).chunks.length = m.chunks.length := by
  unfold didQ
  split
  · exact (answerQ_len m x).1
  · rfl
theorem doQ_len (m : AM) (x : Wish) : (doQ m x).1.chunks.length = m.chunks.length := by
  unfold doQ
  split
  · exact didQ_len m x
  · rfl
theorem lastQ_put (l : List (Nat × Ans)) (cs : List Srv) (j i : Nat) (v : Nat × Ans) : lastQ ⟨cs, l.set j v⟩ i = if i = j ∧ j < l.length then v else lastQ ⟨cs, l⟩ i := by
  unfold lastQ
  rw [List.getD_eq_getElem?_getD, List.getD_eq_getElem?_getD, List.getElem?_set]
  by_cases h : j = i
  · subst h
    by_cases h2 : j < l.length
    · rw [if_pos rfl, if_pos h2, if_pos ⟨rfl, h2⟩]; rfl
    · rw [if_pos rfl, if_neg h2, if_neg (fun e => h2 e.2), List.getElem?_eq_none (by show l.length ≤ j; omega)]
  · rw [if_neg h, if_neg (fun e => h e.1.symm)]
theorem doQ_last {m : AM} {x : Wish} {k : Nat} (h : ∀ j, (lastQ m j).1 ≤ k) (hx : x.stamp ≤ (k : Int) + 1) : ∀ j, (lastQ (doQ m x).1 j).1 ≤ k + 1 := by
  intro j
  have hb := h j
  unfold doQ
  split
  · unfold didQ
    split
    · show (lastQ ⟨(answerQ m x).1.chunks, (answerQ m x).1.last.set (x.client - 31).toNat (x.stamp.toNat, (answerQ m x).2)⟩ j).1 ≤ k + 1
      rw [(answerQ_len m x).2, lastQ_put]
      split
      · show x.stamp.toNat ≤ k + 1; omega
      · have : (lastQ ⟨(answerQ m x).1.chunks, m.last⟩ j).1 = (lastQ m j).1 := rfl
        omega
    · show (lastQ m j).1 ≤ k + 1; omega
  · show (lastQ m j).1 ≤ k + 1; omega
theorem wishS_stamp (now : List Int) (n stamp : Int) : (wishS now n stamp).stamp = stamp := by
  unfold wishS
  split <;> rfl
theorem wishS_in {w : World} {now : List Int} {n stamp : Int} (h : ∀ z, z ∈ now → 0 < z ∧ z ≤ 28) (h0 : 0 ≤ stamp) (h1 : stamp ≤ 1000000) : WishIn w w.heap.size (wishS now n stamp) none 0 0 none 0 0 := by
  have hc := clientW_le n
  have hb := bringF_lt (n / 64) 2 (by omega)
  have h9 := bringF_lt (n / 512) 16 (by omega)
  have hg : 0 ≤ now.getD (bringF (n / 128) now.length) 0 ∧ now.getD (bringF (n / 128) now.length) 0 ≤ 28 := by
    rw [List.getD_eq_getElem?_getD]
    cases hq : now[bringF (n / 128) now.length]? with
    | none => simp
    | some z => have := h z (List.mem_of_getElem? hq); simp; omega
  unfold wishS
  generalize now.getD (bringF (n / 128) now.length) 0 = o at hg ⊢
  split
  · exact queryIn ⟨by unfold I64; omega, by unfold I64; omega, by unfold I64; omega⟩
  · refine replIn ⟨?_, by unfold I64; omega, by unfold I64; omega, ?_, ?_⟩
    · split <;> (unfold I64; omega)
    · split
      · unfold I64; omega
      · split <;> (unfold I64; omega)
    · split <;> (unfold I64; omega)
/-- a law's run -/
structure ARun (m : AM) (k : Nat) : Prop where
  two : m.chunks.length = 2
  last : ∀ j, (lastQ m j).1 ≤ k
theorem ARun.step {m : AM} {k : Nat} (h : ARun m k) {x : Wish} (hx : x.stamp ≤ (k : Int) + 1) : ARun (doQ m x).1 (k + 1) := ⟨by rw [doQ_len]; exact h.two, doQ_last h.last hx⟩
theorem ARun.fresh : ARun ak0 0 := ⟨rfl, fun j => by
  unfold ak0
  rw [lastQ_fresh]
  exact Nat.le_refl _⟩

end Go.Proofs.YtlaodmmjhjpfmaaGreat

/- Contracts of (*Atlas).Heard, of a wish that may be, and of (*Atlas).Root, and the laws' root. -/

