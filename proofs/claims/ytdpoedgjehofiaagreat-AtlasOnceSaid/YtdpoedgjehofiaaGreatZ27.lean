/- Parts of the proof, in one text: AtY, AtZ, VaultI. -/
import Derived.Test.YtdpoedgjehofiaaGreatZ26
import Derived.BigRegion
import Derived.Deep.DeepCutAuto
import Derived.Test.YtdpoedgjehofiaaGreatZ16

/- Contract of the laws' wish: one that is told by a number. -/
namespace Go.Proofs.YtdpoedgjehofiaaGreat
set_option linter.unusedVariables false
set_option linter.unusedSimpArgs false
open Go.RowKit Go.Maps

attribute [local irreducible] wpList wpCalm
/-- what a wish asks for, of a chunk's nodes -/
def wishS (now : List Int) (n stamp : Int) : Wish :=
  if bringF n 4 = 0 then queryQ (clientW n) stamp (1 + (bringF (n / 64) 2 : Int))
  else replQ (if bringF n 16 = 1 then clientW n else 34) stamp (1 + (bringF (n / 64) 2 : Int))
    (if (if bringF n 16 = 3 then 28 else now.getD (bringF (n / 128) now.length) 0) = (if bringF n 16 = 2 then 5 else 13 + (bringF (n / 512) 16 : Int)) then 1 else (if bringF n 16 = 3 then 28 else now.getD (bringF (n / 128) now.length) 0))
    (if bringF n 16 = 2 then 5 else 13 + (bringF (n / 512) 16 : Int))
theorem OwnCr.at_ {w : World} {B f i : Nat} {v : Value} {ls : List (List Int)} {nA : Nat → Option Addr} {nC : Nat → Nat} {l : List Int} (h : OwnCr w B v f ls nA nC) (hi : ls[i]? = some l) : ∃ gl cap, v = .slice (some ⟨gl, 0, none⟩) ls.length cap ∧ B ≤ gl ∧ gl < w.heap.size ∧ w.cell? ⟨gl, i * 2 + 1, none⟩ = some (.slice (nA i) l.length (nC i)) := by
  have hil : i < ls.length := (List.getElem?_eq_some_iff.1 hi).1
  have hr := h.row
  rcases h.row.2 with ⟨_, h0⟩ | ⟨gl, cap, cur, hv, h2, h3, h4, h5, h6, h7⟩
  · omega
  · have hB : Blk w gl 85 cur := h3
    refine ⟨gl, cap, hv, h2, hB.lt, ?_⟩
    rw [hB.cell]
    have := (crRows_get f nA nC ls 0 i l hi).2
    rw [Nat.zero_add] at this
    rw [← this, ← h7, List.getElem?_take, if_pos (by omega), Array.getElem?_toList]
theorem own_at {w : World} {B n : Nat} {A : Option Addr} {c : Nat} {l : List Int} (h : OwnN w B (.slice A n c) l) (h0 : 0 < n) : ∃ gn, A = some ⟨gn, 0, none⟩ ∧ B ≤ gn ∧ gn < w.heap.size ∧ ∀ j x, l[j]? = some x → w.cell? ⟨gn, j, none⟩ = some (.int .i64 x) := by
  obtain ⟨hl, hrd⟩ := own_reads h
  rcases h.2 with ⟨e, h1⟩ | ⟨gn, cap, cur, e, h2, h3, h4, h5, h6, h7⟩
  · rw [hl] at h1; omega
  · injection e with e
    subst e
    have hB : Blk w gn 3 cur := h3
    refine ⟨gn, rfl, h2, hB.lt, fun j x hj => ?_⟩
    have hjl := (List.getElem?_eq_some_iff.1 hj).1
    rw [hB.cell]
    have : (l.map vn)[j]? = some (vn x) := by rw [List.getElem?_map, hj]; rfl
    rw [← h7, List.getElem?_take, if_pos (by omega), Array.getElem?_toList] at this
    exact this

end Go.Proofs.YtdpoedgjehofiaaGreat

/- Contract of the laws' wish: the walk. -/
namespace Go.Proofs.YtdpoedgjehofiaaGreat
set_option linter.unusedVariables false
set_option linter.unusedSimpArgs false
open Go.RowKit Go.Maps

attribute [local irreducible] wpList wpCalm
def AWishPost (w : World) (x : Wish) (e : Ending) (w' : World) : Prop := e = .returned (.agg (wCells x none 0 0 none 0 0)) ∧ Below w.heap.size w w'

set_option maxRecDepth 100000 in
set_option maxHeartbeats 2000000 in
theorem awish_any (w : World) (g gc i : Nat) (T : Nat) (N : Nat → Prop) (m : AM) (S : ASl) (s : Srv) (h : ADat w g gc (some ⟨T, 0, none⟩) N m S) (n stamp : Int) (hs : m.chunks[i]? = some s) (hin : i = bringF (n / 64) 2) (h1 : -9223372036854775808 ≤ n) (h2 : n ≤ 9223372036854775807) (hs0 : 0 ≤ stamp) (hs1 : stamp ≤ 1000000) :
    Calls Tryz.prog 43 #[.pointer (some ⟨g, 0, none⟩), .int .i64 n, .int .i64 stamp] w (AWishPost w (wishS s.now n stamp)) := by
  have hX := below_lit w (.cells (wCells zeroW none 0 0 none 0 0) 44)
  have hk0 : Blk (w.alloc (.cells (wCells zeroW none 0 0 none 0 0) 44)) w.heap.size 44 (wCells zeroW none 0 0 none 0 0) := Blk.newAt rfl
  have hsk := h.ok.srv s (List.mem_of_getElem? hs)
  have hnok := hsk.now_ok
  have HX := Lib.hid hX
  have HK := Lib.hid hk0
  have HCW := Lib.hid (aCrews_any _ g gc i T N m S s (h.below hX) hs)
  have hZ : wCells zeroW none 0 0 none 0 0 = #[.int .i64 0, .int .i64 0, .int .i64 0, .int .i64 0, .int .i64 0, .int .i64 0, .slice none 0 0, .int .i64 0, .int .i64 0, .slice none 0 0] := rfl
  have HBR := Lib.hid (fun (i z : Int) (k : Nat) (hz : z = (k : Int)) (hk : 0 < k) (hk2 : k ≤ 100) (hi : -9223372036854775808 ≤ i) (hi2 : i ≤ 9223372036854775807) (W : World) => (show Calls Tryz.prog 44 #[.int .i64 i, .int .i64 z] W fun e w' => e = .returned (.int .i64 (bringF i k : Int)) ∧ W = w' from hz ▸ bring_any i k hk (by unfold maxLen; omega) hi hi2 W))
  obtain ⟨k, hk⟩ : ∃ k, k = s.now.length := ⟨_, rfl⟩
  have hk7 : k ≤ 7 := by rw [hk]; exact hnok.short.2
  have hk1 : 1 ≤ k := by rw [hk]; exact hnok.short.1
  obtain ⟨b3, hb3⟩ : ∃ q, q = bringF (n / 16) 4 := ⟨_, rfl⟩
  obtain ⟨b4, hb4⟩ : ∃ q, q = bringF n 4 := ⟨_, rfl⟩
  obtain ⟨b7, hb7⟩ : ∃ q, q = bringF (n / 128) k := ⟨_, rfl⟩
  obtain ⟨b9, hb9⟩ : ∃ q, q = bringF (n / 512) 16 := ⟨_, rfl⟩
  obtain ⟨b16, hb16⟩ : ∃ q, q = bringF n 16 := ⟨_, rfl⟩
  have hb7l : b7 < k := by rw [hb7]; exact bringF_lt _ _ (by omega)
  have hb9l : b9 < 16 := by rw [hb9]; exact bringF_lt _ _ (by omega)
  have hb3l : b3 < 4 := by rw [hb3]; exact bringF_lt _ _ (by omega)
  have hb16l : b16 < 16 := by rw [hb16]; exact bringF_lt _ _ (by omega)
  have hi2 : i < 2 := by rw [hin]; exact bringF_lt _ _ (by omega)
  obtain ⟨o, ho⟩ : ∃ o, s.now[b7]? = some o := ⟨_, List.getElem?_eq_getElem (by omega)⟩
  have hob := hnok.bound (List.mem_of_getElem? ho)
  have hWS : wishS s.now n stamp = if b4 = 0 then queryQ (31 + (b3 : Int)) stamp (1 + (i : Int)) else replQ (if b16 = 1 then 31 + (b3 : Int) else 34) stamp (1 + (i : Int)) (if (if b16 = 3 then 28 else o) = (if b16 = 2 then 5 else 13 + (b9 : Int)) then 1 else (if b16 = 3 then 28 else o)) (if b16 = 2 then 5 else 13 + (b9 : Int)) := by
    unfold wishS clientW
    rw [← hk, ← hb3, ← hb4, ← hb7, ← hb9, ← hb16, ← hin, List.getD_eq_getElem?_getD, ho]
    rfl
  have HB3 := Lib.hid hb3
  have HB4 := Lib.hid hb4
  have HB7 := Lib.hid hb7
  have HB9 := Lib.hid hb9
  have HB16 := Lib.hid hb16
  have HIN := Lib.hid hin
  have HO := Lib.hid ho
  have HKK := Lib.hid hk
  obtain ⟨P, hP⟩ : ∃ P, P = AWishPost w (wishS s.now n stamp) := ⟨_, rfl⟩
  rw [hWS] at hP
  have HP := Lib.hid (show P = AWishPost w (if b4 = 0 then queryQ (31 + (b3 : Int)) stamp ((i : Int) + 1) else replQ (if b16 = 1 then 31 + (b3 : Int) else 34) stamp ((i : Int) + 1) (if (if b16 = 3 then 28 else o) = (if b16 = 2 then 5 else 13 + (b9 : Int)) then 1 else (if b16 = 3 then 28 else o)) (if b16 = 2 then 5 else 13 + (b9 : Int))) by rw [hP, show (1 : Int) + (i : Int) = (i : Int) + 1 by omega])
  rw [show AWishPost w (wishS s.now n stamp) = P by rw [hP, hWS]]
  obtain ⟨a, ha⟩ : ∃ a, a = s.moves.length := ⟨_, rfl⟩
  have HA := Lib.hid ha
  have ha21 : a ≤ 21 := by rw [ha]; exact hsk.len
  obtain ⟨g6, hg6⟩ : ∃ g, g = w.heap.size := ⟨_, rfl⟩
  clear h hX hk0 hsk hnok hk hb3 hb4 hb7 hb9 hb16 hin ho hWS hP ha hs
  go_enter Tryz.func43, Tryz.ntmps43
  go_upto_region 1 with fail
  rw [← hZ]
  generalize World.alloc w _ = w1 at HX HK HCW ⊢
  rw [← hg6] at HK ⊢
  have hgw : w.heap.size ≤ g6 := by omega
  have hl := HK.out.lt
  have hs1' := HX.out.size
  clear hg6 hZ
  go_wp2_with fail
  refine (HBR.out _ _ 4 (by omega) (by omega) (by omega) (by omega) (by omega) _).mono ?_
  rintro _ _ ⟨rfl, rfl⟩
  rw [← HB3.out]
  go_wp2_with fail
  refine (HBR.out _ _ 2 (by omega) (by omega) (by omega) (by omega) (by omega) _).mono ?_
  rintro _ _ ⟨rfl, rfl⟩
  rw [← HIN.out]
  have hcm : (1 : Int) + (i : Int) = (i : Int) + 1 := by omega
  go_wp2_with fail
  refine HCW.out.mono ?_
  rintro _ w2 ⟨v, nA, nC, rfl, hown, hb2⟩
  have hget : (crewsL s.first s.moves)[a]? = some s.now := by
    rw [HA.out, crewsL_at _ _ _ (Nat.le_refl _), List.take_of_length_le (Nat.le_refl _)]; rfl
  obtain ⟨gl, cap, rfl, hgl, hgl2, hcl⟩ := hown.at_ hget
  have hnd := hown.nodes a _ hget
  rw [← HKK.out] at hcl hnd
  obtain ⟨gn, hgn, hgn2, hgn3, hcn⟩ := own_at hnd (by omega)
  rw [hgn] at hcl
  have hlen : (crewsL s.first s.moves).length = a + 1 := by rw [crewsL_len, HA.out]
  rw [hlen]
  obtain ⟨cn, hcn2⟩ : ∃ c, c = nC a := ⟨_, rfl⟩
  rw [← hcn2] at hcl
  obtain ⟨a0, ha0⟩ : ∃ q, q = a := ⟨_, rfl⟩
  rw [← ha0] at hcl ⊢
  have ha21' : a0 ≤ 21 := by omega
  have CL := Lib.hid (fun (W : World) (hb : Below w2.heap.size w2 W) => (hb.cell (p := ⟨gl, a0 * 2 + 1, none⟩) hgl2).trans hcl)
  have CN := Lib.hid (fun (W : World) (hb : Below w2.heap.size w2 W) => (hb.cell (p := ⟨gn, b7, none⟩) hgn3).trans (hcn b7 o HO.out))
  have HB2 := Lib.hid (HX.out.trans (hb2.mono hs1'))
  have K2 := Lib.hid (HK.out.below' hb2)
  have hs2 := hb2.size
  have hl2 := K2.out.lt
  have hi0 : 0 ≤ (a0 : Int) := by omega
  have hi1 : (a0 : Int) < ((a0 + 1 : Nat) : Int) := by omega
  have hi1' : (a0 : Int) < (a0 : Int) + 1 := by omega
  have hi3 : ((a0 + 1 : Nat) : Int) - 1 = (a0 : Int) := by omega
  have hi4 : ((a0 + 1 : Nat) : Int) = (a0 : Int) + 1 := by omega
  have hcl0 : ¬ ((a0 : Int) + 1 = 0) := by omega
  clear hown hb2 hget hcl hnd hcn hlen hcn2 ha0 hgn HCW HK HX hgl hgl2 hgn2 hgn3
  go_wp2_with fail
  refine (HBR.out _ _ 4 (by omega) (by omega) (by omega) (by omega) (by omega) _).mono ?_
  rintro _ _ ⟨rfl, rfl⟩
  rw [← HB4.out]
  by_cases hq : b4 = 0
  · have hqb : ((b4 : Int) == 0) = true := by simp [hq]
    have HP1 := Lib.hid (show P = AWishPost w (queryQ (31 + (b3 : Int)) stamp ((i : Int) + 1)) by rw [HP.out, if_pos hq])
    clear hq
    go_wp2_with fail
    refine (aquery_any _ _ _ _).mono ?_
    rintro _ w3 ⟨rfl, hb3⟩
    have K3 := Lib.hid (K2.out.below' hb3)
    have HB23 := Lib.hid (HB2.out.trans (hb3.mono (by omega)))
    clear hb3
    obtain ⟨R, hR⟩ : ∃ R, R = wCells (queryQ (31 + (b3 : Int)) stamp ((i : Int) + 1)) none 0 0 none 0 0 := ⟨_, rfl⟩
    rw [← hR]
    have hrs : R.size = 10 := by rw [hR]; simp [wCells]
    have hr1 : R.all (·.oneCell') = true := by rw [hR]; exact wCells_one _ _ _ _ _ _ _
    have HR := Lib.hid hR
    clear hR
    go_wp2_with (refine wpList_store_part (o := ⟨none, _, _, _, _, _⟩) rfl 44 (.tmp 6) (.tmp 34) rfl g6 0 R rfl rfl 44 (wCells zeroW none 0 0 none 0 0) K3.out (by rw [hrs]; kernel_rfl) (by rw [hrs]; simp [wCells]) hr1 ?_; intro w4 hT4 hD4; rw [spl_self _ _ (by rw [hrs]; simp [wCells])] at hD4)
    refine bodyPost_ret (results_part rfl _ _ g6 10 44 _ _ rfl hD4 Tryz.underlying44 rfl rfl hrs) rfl ?_
    rw [HP1.out, HR.out]
    exact ⟨rfl, hT4.below HB23.out hgw⟩
  · have hqb : ((b4 : Int) == 0) = false := by simpa using hq
    obtain ⟨R0, hR0⟩ : ∃ R, R = wCells (replQ 34 stamp ((i : Int) + 1) o (13 + (b9 : Int))) none 0 0 none 0 0 := ⟨_, rfl⟩
    have hr0s : R0.size = 10 := by rw [hR0]; simp [wCells]
    have hr01 : R0.all (·.oneCell') = true := by rw [hR0]; exact wCells_one _ _ _ _ _ _ _
    have HR0 := Lib.hid hR0
    clear hR0
    go_upto_region 6 with fail
    refine wp_region_rel' 24 80 (fun jx W v => match jx with
      | 0 => v = .int .i64 stamp
      | 1 => v = .int .i64 ((i : Int) + 1)
      | 2 => v = .slice (some ⟨gl, 0, none⟩) (a0 + 1) cap
      | 3 => v = .int .i64 (a0 : Int)
      | 4 => v = .pointer (some ⟨gl, a0 * 2, none⟩)
      | 5 => v = .pointer (some ⟨gl, a0 * 2 + 1, none⟩)
      | 6 => v = .slice (some ⟨gn, 0, none⟩) k cn
      | 7 => v = .int .i64 n
      | 8 => v = .int .i64 (n / 128)
      | 9 => v = .slice (some ⟨gl, 0, none⟩) (a0 + 1) cap
      | 10 => v = .int .i64 (a0 : Int)
      | 11 => v = .pointer (some ⟨gl, a0 * 2, none⟩)
      | 12 => v = .pointer (some ⟨gl, a0 * 2 + 1, none⟩)
      | 13 => v = .slice (some ⟨gn, 0, none⟩) k cn
      | 14 => v = .int .i64 (k : Int)
      | 15 => v = .int .i64 (b7 : Int)
      | 16 => v = .pointer (some ⟨gn, b7, none⟩)
      | 17 => v = .int .i64 o
      | 18 => v = .int .i64 n
      | 19 => v = .int .i64 (n / 512)
      | 20 => v = .int .i64 (b9 : Int)
      | 21 => v = .int .i64 (13 + (b9 : Int))
      | 22 => v = .agg R0
      | _ => ∃ g11, v = .pointer (some ⟨g11, 0, none⟩) ∧ w2.heap.size ≤ g11 ∧ Blk W g11 44 (wCells zeroW none 0 0 none 0 0)) [38, 39, 40, 41, 42, 43, 44, 45, 46, 47, 48, 49, 50, 51, 52, 53, 54, 55, 56, 57, 58, 59, 60, 11] (by kernel_rfl) (by kernel_rfl) (by kernel_rfl) (by first | rfl | simp) (by kernel_rfl) (fun jx => ?last) ?heads ?_
    case last =>
      match jx with
      | 0 | 1 | 2 | 3 | 4 | 5 | 6 | 7 | 8 | 9 | 10 | 11 | 12 | 13 | 14 | 15 | 16 | 17 | 18 | 19 | 20 | 21 | 22 => exact Lasts.pure _
      | jx + 23 => exact fun W W' u ⟨g11, h1, h2, h3⟩ hb => ⟨g11, h1, h2, h3.below' hb⟩
    case heads =>
      simp only [List.take_succ_cons, List.take_zero]
      refine ⟨fun a W hb hkp hd => ?_, fun a W hb hkp hd => ?_, fun a W hb hkp hd => ?_, fun a W hb hkp hd => ?_, fun a W hb hkp hd => ?_, fun a W hb hkp hd => ?_, fun a W hb hkp hd => ?_, fun a W hb hkp hd => ?_, fun a W hb hkp hd => ?_, fun a W hb hkp hd => ?_, fun a W hb hkp hd => ?_, fun a W hb hkp hd => ?_, fun a W hb hkp hd => ?_, fun a W hb hkp hd => ?_, fun a W hb hkp hd => ?_, fun a W hb hkp hd => ?_, fun a W hb hkp hd => ?_, fun a W hb hkp hd => ?_, fun a W hb hkp hd => ?_, fun a W hb hkp hd => ?_, fun a W hb hkp hd => ?_, fun a W hb hkp hd => ?_, fun a W hb hkp hd => ?_, fun a W hb hkp hd => ?_, trivial⟩
      · have e0 : a.tmps[2]?.getD undef = .int .i64 stamp := hkp.get (by kernel_rfl) rfl
        exact rel_value rfl (.int .i64 stamp) (by go_simp) rfl
      · have e0 : a.tmps[8]?.getD undef = .int .i64 ((i : Int) + 1) := hkp.get (by kernel_rfl) rfl
        exact rel_value rfl (.int .i64 ((i : Int) + 1)) (by go_simp) rfl
      · have e0 : a.tmps[9]?.getD undef = .slice (some ⟨gl, 0, none⟩) (a0 + 1) cap := hkp.get (by kernel_rfl) rfl
        exact rel_value rfl (.slice (some ⟨gl, 0, none⟩) (a0 + 1) cap) (by go_simp) rfl
      · have e0 : a.tmps[10]?.getD undef = .int .i64 (a0 : Int) := hkp.get (by kernel_rfl) rfl
        exact rel_value rfl (.int .i64 (a0 : Int)) (by go_simp) rfl
      · have e0 : a.tmps[40]?.getD undef = .slice (some ⟨gl, 0, none⟩) (a0 + 1) cap := (hd 2 (by kernel_rfl)).get 40 rfl rfl
        have e1 : a.tmps[41]?.getD undef = .int .i64 (a0 : Int) := (hd 3 (by kernel_rfl)).get 41 rfl rfl
        exact rel_value rfl (.pointer (some ⟨gl, a0 * 2, none⟩)) (by go_simp) rfl
      · have e0 : a.tmps[42]?.getD undef = .pointer (some ⟨gl, a0 * 2, none⟩) := (hd 4 (by kernel_rfl)).get 42 rfl rfl
        exact rel_value rfl (.pointer (some ⟨gl, a0 * 2 + 1, none⟩)) (by go_simp) rfl
      · have e0 : a.tmps[43]?.getD undef = .pointer (some ⟨gl, a0 * 2 + 1, none⟩) := (hd 5 (by kernel_rfl)).get 43 rfl rfl
        have cc := CL.out W hb
        exact rel_value rfl (.slice (some ⟨gn, 0, none⟩) k cn) (by go_simp) rfl
      · have e0 : a.tmps[1]?.getD undef = .int .i64 n := hkp.get (by kernel_rfl) rfl
        exact rel_value rfl (.int .i64 n) (by go_simp) rfl
      · have e0 : a.tmps[45]?.getD undef = .int .i64 n := (hd 7 (by kernel_rfl)).get 45 rfl rfl
        exact rel_value rfl (.int .i64 (n / 128)) (by go_simp) rfl
      · have e0 : a.tmps[9]?.getD undef = .slice (some ⟨gl, 0, none⟩) (a0 + 1) cap := hkp.get (by kernel_rfl) rfl
        exact rel_value rfl (.slice (some ⟨gl, 0, none⟩) (a0 + 1) cap) (by go_simp) rfl
      · have e0 : a.tmps[10]?.getD undef = .int .i64 (a0 : Int) := hkp.get (by kernel_rfl) rfl
        exact rel_value rfl (.int .i64 (a0 : Int)) (by go_simp) rfl
      · have e0 : a.tmps[47]?.getD undef = .slice (some ⟨gl, 0, none⟩) (a0 + 1) cap := (hd 9 (by kernel_rfl)).get 47 rfl rfl
        have e1 : a.tmps[48]?.getD undef = .int .i64 (a0 : Int) := (hd 10 (by kernel_rfl)).get 48 rfl rfl
        exact rel_value rfl (.pointer (some ⟨gl, a0 * 2, none⟩)) (by go_simp) rfl
      · have e0 : a.tmps[49]?.getD undef = .pointer (some ⟨gl, a0 * 2, none⟩) := (hd 11 (by kernel_rfl)).get 49 rfl rfl
        exact rel_value rfl (.pointer (some ⟨gl, a0 * 2 + 1, none⟩)) (by go_simp) rfl
      · have e0 : a.tmps[50]?.getD undef = .pointer (some ⟨gl, a0 * 2 + 1, none⟩) := (hd 12 (by kernel_rfl)).get 50 rfl rfl
        have cc := CL.out W hb
        exact rel_value rfl (.slice (some ⟨gn, 0, none⟩) k cn) (by go_simp) rfl
      · have e0 : a.tmps[51]?.getD undef = .slice (some ⟨gn, 0, none⟩) k cn := (hd 13 (by kernel_rfl)).get 51 rfl rfl
        exact rel_value rfl (.int .i64 (k : Int)) (by go_simp) rfl
      · have e0 : a.tmps[46]?.getD undef = .int .i64 (n / 128) := (hd 8 (by kernel_rfl)).get 46 rfl rfl
        have e1 : a.tmps[52]?.getD undef = .int .i64 (k : Int) := (hd 14 (by kernel_rfl)).get 52 rfl rfl
        refine rel_call rfl 44 #[.int .i64 (n / 128), .int .i64 (k : Int)] (by go_simp) ((HBR.out _ _ k (by omega) (by omega) (by omega) (by omega) (by omega) W).mono ?_)
        rintro e w' ⟨rfl, rfl⟩
        exact ⟨_, rfl, Below.refl _ _, congrArg (fun q : Nat => Value.int .i64 (q : Int)) HB7.out.symm⟩
      · have e0 : a.tmps[44]?.getD undef = .slice (some ⟨gn, 0, none⟩) k cn := (hd 6 (by kernel_rfl)).get 44 rfl rfl
        have e1 : a.tmps[53]?.getD undef = .int .i64 (b7 : Int) := (hd 15 (by kernel_rfl)).get 53 rfl rfl
        exact rel_value rfl (.pointer (some ⟨gn, b7, none⟩)) (by go_simp) rfl
      · have e0 : a.tmps[54]?.getD undef = .pointer (some ⟨gn, b7, none⟩) := (hd 16 (by kernel_rfl)).get 54 rfl rfl
        have cc := CN.out W hb
        exact rel_value rfl (.int .i64 o) (by go_simp) rfl
      · have e0 : a.tmps[1]?.getD undef = .int .i64 n := hkp.get (by kernel_rfl) rfl
        exact rel_value rfl (.int .i64 n) (by go_simp) rfl
      · have e0 : a.tmps[56]?.getD undef = .int .i64 n := (hd 18 (by kernel_rfl)).get 56 rfl rfl
        exact rel_value rfl (.int .i64 (n / 512)) (by go_simp) rfl
      · have e0 : a.tmps[57]?.getD undef = .int .i64 (n / 512) := (hd 19 (by kernel_rfl)).get 57 rfl rfl
        refine rel_call rfl 44 #[.int .i64 (n / 512), .int .i64 16] (by go_simp) ((HBR.out _ _ 16 (by omega) (by omega) (by omega) (by omega) (by omega) W).mono ?_)
        rintro e w' ⟨rfl, rfl⟩
        exact ⟨_, rfl, Below.refl _ _, congrArg (fun q : Nat => Value.int .i64 (q : Int)) HB9.out.symm⟩
      · have e0 : a.tmps[58]?.getD undef = .int .i64 (b9 : Int) := (hd 20 (by kernel_rfl)).get 58 rfl rfl
        have hw : IntKind.i64.wrap (13 + (b9 : Int)) = 13 + (b9 : Int) := by rw [IntKind.wrap_i64]; omega
        exact rel_value rfl (.int .i64 (13 + (b9 : Int))) (by go_simp) rfl
      · have e0 : a.tmps[38]?.getD undef = .int .i64 stamp := (hd 0 (by kernel_rfl)).get 38 rfl rfl
        have e1 : a.tmps[39]?.getD undef = .int .i64 ((i : Int) + 1) := (hd 1 (by kernel_rfl)).get 39 rfl rfl
        have e2 : a.tmps[55]?.getD undef = .int .i64 o := (hd 17 (by kernel_rfl)).get 55 rfl rfl
        have e3 : a.tmps[59]?.getD undef = .int .i64 (13 + (b9 : Int)) := (hd 21 (by kernel_rfl)).get 59 rfl rfl
        refine rel_call rfl 69 #[.int .i64 34, .int .i64 stamp, .int .i64 ((i : Int) + 1), .int .i64 o, .int .i64 (13 + (b9 : Int))] (by go_simp) ((areplace_any _ _ _ _ _ W).mono ?_)
        rintro e w' ⟨rfl, hb'⟩
        exact ⟨_, rfl, hb', congrArg Value.agg HR0.out.symm⟩
      · exact rel_exec rfl (.pointer (some ⟨W.heap.size, 0, none⟩)) (W.alloc (.cells (wCells zeroW none 0 0 none 0 0) 44)) (by go_simp; try rfl) (below_lit _ _) ⟨W.heap.size, rfl, hb.size, Blk.new W _ _⟩
    intro fv W hb hd
    have h60 : fv 60 = .agg R0 := hd 22 (by omega) _ 60 rfl rfl
    obtain ⟨g11, h11, hg11, hB11⟩ := hd 23 (by omega) _ 11 rfl rfl
    simp only [putAll, List.drop_succ_cons, List.drop_zero, h60, h11]
    have HBW := Lib.hid (HB2.out.trans (hb.mono (by omega)))
    have KW := Lib.hid (K2.out.below' hb)
    have HB11 := Lib.hid hB11
    have hsW := hb.size
    clear hd hb hB11 h60 h11 CL CN HB2 K2
    try simp only [Act.put, List.setIfInBounds_toArray, List.set_cons_zero, List.set_cons_succ]
    go_upto_region 7 with (refine wpList_store_part (o := ⟨none, _, _, _, _, _⟩) rfl 44 (.tmp 11) (.tmp 60) rfl g11 0 R0 rfl rfl 44 (wCells zeroW none 0 0 none 0 0) HB11.out (by rw [hr0s]; kernel_rfl) (by rw [hr0s]; simp [wCells]) hr01 ?_; intro w3 hT3 hD3)
    rw [spl_self _ _ (by rw [hr0s]; simp [wCells])] at hD3
    have hg6l := KW.out.lt
    have K3 := Lib.hid (hT3.blk KW.out (show g6 ≠ g11 by omega))
    have HB3 := Lib.hid (hT3.below HBW.out (show w.heap.size ≤ g11 by omega))
    have HD3 := Lib.hid hD3
    have hg611 : g6 ≠ g11 := by omega
    have hgw11 : w.heap.size ≤ g11 := by omega
    clear hT3 hD3 HBW KW HB11
    go_wp2_with fail
    refine (HBR.out _ _ 16 (by omega) (by omega) (by omega) (by omega) (by omega) _).mono ?_
    rintro _ _ ⟨rfl, rfl⟩
    rw [← HB16.out]
    obtain ⟨c, hc⟩ : ∃ c : Int, c = if b16 = 1 then 31 + (b3 : Int) else 34 := ⟨_, rfl⟩
    obtain ⟨o1, ho1⟩ : ∃ c : Int, c = if b16 = 3 then 28 else o := ⟨_, rfl⟩
    obtain ⟨z, hz⟩ : ∃ c : Int, c = if b16 = 2 then 5 else 13 + (b9 : Int) := ⟨_, rfl⟩
    have HPR := Lib.hid (show P = AWishPost w (replQ c stamp ((i : Int) + 1) (if o1 = z then 1 else o1) z) by rw [HP.out, if_neg hq, ← hc, ← ho1, ← hz])
    have HHC := Lib.hid hc
    have HHO := Lib.hid ho1
    have HHZ := Lib.hid hz
    clear hq hc ho1 hz
    by_cases hq1 : b16 = 1
    · have HCC := Lib.hid (show c = 31 + (b3 : Int) by rw [HHC.out, if_pos hq1])
      have HOO := Lib.hid (show o1 = o by rw [HHO.out, if_neg (by omega)])
      have HZZ := Lib.hid (show z = 13 + (b9 : Int) by rw [HHZ.out, if_neg (by omega)])
      have q1 : ((b16 : Int) == 1) = true := by simp [hq1]
      have cc : w3.cell? ⟨g11, 0, none⟩ = some (.int .i64 34) := (HD3.out.cell 0).trans (by rw [HR0.out]; rfl)
      have ff := HD3.out.frozen 0
      have hT := Turned.setCell w3 ⟨g11, 0, none⟩ (.int .i64 (31 + (b3 : Int)))
      have hset := HD3.out.set_ 0 (.int .i64 (31 + (b3 : Int)))
      rw [HR0.out] at hset
      have hset2 : Blk (w3.setCell ⟨g11, 0, none⟩ (.int .i64 (31 + (b3 : Int)))) g11 44 (wCells (replQ c stamp ((i : Int) + 1) o1 z) none 0 0 none 0 0) := by
        rw [HCC.out, HOO.out, HZZ.out]
        exact hset
      have HD4 := Lib.hid hset2
      have HK4 := Lib.hid (hT.blk K3.out hg611)
      have HB4' := Lib.hid (HB3.out.setCell (p := ⟨g11, 0, none⟩) hgw11 (.int .i64 (31 + (b3 : Int))))
      clear hq1 hT hset hset2
      go_upto_region 14 with fail
      generalize w3.setCell ⟨g11, 0, none⟩ (.int .i64 (31 + (b3 : Int))) = w4 at HD4 HK4 HB4' ⊢
      clear cc ff
      clear HR0 HD3 K3 HB3 hb3l
      obtain ⟨R1, hR1⟩ : ∃ R, R = wCells (replQ c stamp ((i : Int) + 1) o1 z) none 0 0 none 0 0 := ⟨_, rfl⟩
      have hr1s : R1.size = 10 := by rw [hR1]; simp [wCells]
      have hr11 : R1.all (·.oneCell') = true := by rw [hR1]; exact wCells_one _ _ _ _ _ _ _
      have d7 : w4.cell? ⟨g11, 7, none⟩ = some (.int .i64 o1) := (HD4.out.cell 7).trans rfl
      have d8 : w4.cell? ⟨g11, 8, none⟩ = some (.int .i64 z) := (HD4.out.cell 8).trans rfl
      have f7 := HD4.out.frozen 7
      rw [← hR1] at HD4
      have HR1 := Lib.hid hR1
      clear hR1
      by_cases hoz : o1 = z
      · have hob : (o1 == z) = true := by simpa using hoz
        have HPZ := Lib.hid (show P = AWishPost w (replQ c stamp ((i : Int) + 1) 1 z) by rw [HPR.out, if_pos hoz])
        clear hoz
        go_upto_region 16 with fail
        have hT := Turned.setCell w4 ⟨g11, 7, none⟩ (.int .i64 1)
        have HB5 := Lib.hid (HB4'.out.setCell (p := ⟨g11, 7, none⟩) hgw11 (.int .i64 1))
        have HK5 := Lib.hid (hT.blk HK4.out hg611)
        have hd5 := HD4.out.set_ 7 (.int .i64 1)
        obtain ⟨R2, hR2⟩ : ∃ R, R = R1.setIfInBounds 7 (.int .i64 1) := ⟨_, rfl⟩
        have hr2s : R2.size = 10 := by rw [hR2]; simp [hr1s]
        have hR2e : R2 = wCells (replQ c stamp ((i : Int) + 1) 1 z) none 0 0 none 0 0 := by rw [hR2, HR1.out]; rfl
        have hr21 : R2.all (·.oneCell') = true := by rw [hR2e]; exact wCells_one _ _ _ _ _ _ _
        rw [← hR2] at hd5
        have HD5 := Lib.hid hd5
        have HR2 := Lib.hid hR2e
        clear hd5 hR2 hR2e hT d7 d8 f7
        generalize w4.setCell ⟨g11, 7, none⟩ (.int .i64 1) = w5 at HB5 HK5 HD5 ⊢
        go_wp2_with (first | refine wpList_load_part (o := ⟨some 79, _, _, _, _, _⟩) rfl 44 (.tmp 11) rfl g11 0 10 rfl 44 _ R2 _ HD5.out Tryz.underlying44 rfl rfl hr2s (fun _ _ => by rw [Nat.zero_add]) ?_ | (refine wpList_store_part (o := ⟨none, _, _, _, _, _⟩) rfl 44 (.tmp 6) (.tmp 79) rfl g6 0 R2 rfl rfl 44 (wCells zeroW none 0 0 none 0 0) HK5.out (by rw [hr2s]; kernel_rfl) (by rw [hr2s]; simp [wCells]) hr21 ?_; intro w9 hT9 hD9; rw [spl_self _ _ (by rw [hr2s]; simp [wCells])] at hD9))
        refine bodyPost_ret (results_part rfl _ _ g6 10 44 _ _ rfl hD9 Tryz.underlying44 rfl rfl hr2s) rfl ?_
        rw [HPZ.out, HR2.out]
        exact ⟨rfl, hT9.below HB5.out hgw⟩
      · have hob : (o1 == z) = false := by simpa using hoz
        have HPZ := Lib.hid (show P = AWishPost w (replQ c stamp ((i : Int) + 1) o1 z) by rw [HPR.out, if_neg hoz])
        clear hoz f7
        go_wp2_with (first | refine wpList_load_part (o := ⟨some 79, _, _, _, _, _⟩) rfl 44 (.tmp 11) rfl g11 0 10 rfl 44 _ R1 _ HD4.out Tryz.underlying44 rfl rfl hr1s (fun _ _ => by rw [Nat.zero_add]) ?_ | (refine wpList_store_part (o := ⟨none, _, _, _, _, _⟩) rfl 44 (.tmp 6) (.tmp 79) rfl g6 0 R1 rfl rfl 44 (wCells zeroW none 0 0 none 0 0) HK4.out (by rw [hr1s]; kernel_rfl) (by rw [hr1s]; simp [wCells]) hr11 ?_; intro w9 hT9 hD9; rw [spl_self _ _ (by rw [hr1s]; simp [wCells])] at hD9))
        refine bodyPost_ret (results_part rfl _ _ g6 10 44 _ _ rfl hD9 Tryz.underlying44 rfl rfl hr1s) rfl ?_
        rw [HPZ.out, HR1.out]
        exact ⟨rfl, hT9.below HB4'.out hgw⟩
    by_cases hq2 : b16 = 2
    · have HCC := Lib.hid (show c = 34 by rw [HHC.out, if_neg hq1])
      have HOO := Lib.hid (show o1 = o by rw [HHO.out, if_neg (by omega)])
      have HZZ := Lib.hid (show z = 5 by rw [HHZ.out, if_pos hq2])
      have n1 : ((b16 : Int) == 1) = false := by simp; omega
      have q2 : ((b16 : Int) == 2) = true := by simp [hq2]
      have cc : w3.cell? ⟨g11, 8, none⟩ = some (.int .i64 (13 + (b9 : Int))) := (HD3.out.cell 8).trans (by rw [HR0.out]; rfl)
      have ff := HD3.out.frozen 8
      have hT := Turned.setCell w3 ⟨g11, 8, none⟩ (.int .i64 5)
      have hset := HD3.out.set_ 8 (.int .i64 5)
      rw [HR0.out] at hset
      have hset2 : Blk (w3.setCell ⟨g11, 8, none⟩ (.int .i64 5)) g11 44 (wCells (replQ c stamp ((i : Int) + 1) o1 z) none 0 0 none 0 0) := by
        rw [HCC.out, HOO.out, HZZ.out]
        exact hset
      have HD4 := Lib.hid hset2
      have HK4 := Lib.hid (hT.blk K3.out hg611)
      have HB4' := Lib.hid (HB3.out.setCell (p := ⟨g11, 8, none⟩) hgw11 (.int .i64 5))
      clear hq2 hT hset hset2
      go_upto_region 14 with fail
      generalize w3.setCell ⟨g11, 8, none⟩ (.int .i64 5) = w4 at HD4 HK4 HB4' ⊢
      clear cc ff
      clear HR0 HD3 K3 HB3 hb3l
      obtain ⟨R1, hR1⟩ : ∃ R, R = wCells (replQ c stamp ((i : Int) + 1) o1 z) none 0 0 none 0 0 := ⟨_, rfl⟩
      have hr1s : R1.size = 10 := by rw [hR1]; simp [wCells]
      have hr11 : R1.all (·.oneCell') = true := by rw [hR1]; exact wCells_one _ _ _ _ _ _ _
      have d7 : w4.cell? ⟨g11, 7, none⟩ = some (.int .i64 o1) := (HD4.out.cell 7).trans rfl
      have d8 : w4.cell? ⟨g11, 8, none⟩ = some (.int .i64 z) := (HD4.out.cell 8).trans rfl
      have f7 := HD4.out.frozen 7
      rw [← hR1] at HD4
      have HR1 := Lib.hid hR1
      clear hR1
      by_cases hoz : o1 = z
      · have hob : (o1 == z) = true := by simpa using hoz
        have HPZ := Lib.hid (show P = AWishPost w (replQ c stamp ((i : Int) + 1) 1 z) by rw [HPR.out, if_pos hoz])
        clear hoz
        go_upto_region 16 with fail
        have hT := Turned.setCell w4 ⟨g11, 7, none⟩ (.int .i64 1)
        have HB5 := Lib.hid (HB4'.out.setCell (p := ⟨g11, 7, none⟩) hgw11 (.int .i64 1))
        have HK5 := Lib.hid (hT.blk HK4.out hg611)
        have hd5 := HD4.out.set_ 7 (.int .i64 1)
        obtain ⟨R2, hR2⟩ : ∃ R, R = R1.setIfInBounds 7 (.int .i64 1) := ⟨_, rfl⟩
        have hr2s : R2.size = 10 := by rw [hR2]; simp [hr1s]
        have hR2e : R2 = wCells (replQ c stamp ((i : Int) + 1) 1 z) none 0 0 none 0 0 := by rw [hR2, HR1.out]; rfl
        have hr21 : R2.all (·.oneCell') = true := by rw [hR2e]; exact wCells_one _ _ _ _ _ _ _
        rw [← hR2] at hd5
        have HD5 := Lib.hid hd5
        have HR2 := Lib.hid hR2e
        clear hd5 hR2 hR2e hT d7 d8 f7
        generalize w4.setCell ⟨g11, 7, none⟩ (.int .i64 1) = w5 at HB5 HK5 HD5 ⊢
        go_wp2_with (first | refine wpList_load_part (o := ⟨some 79, _, _, _, _, _⟩) rfl 44 (.tmp 11) rfl g11 0 10 rfl 44 _ R2 _ HD5.out Tryz.underlying44 rfl rfl hr2s (fun _ _ => by rw [Nat.zero_add]) ?_ | (refine wpList_store_part (o := ⟨none, _, _, _, _, _⟩) rfl 44 (.tmp 6) (.tmp 79) rfl g6 0 R2 rfl rfl 44 (wCells zeroW none 0 0 none 0 0) HK5.out (by rw [hr2s]; kernel_rfl) (by rw [hr2s]; simp [wCells]) hr21 ?_; intro w9 hT9 hD9; rw [spl_self _ _ (by rw [hr2s]; simp [wCells])] at hD9))
        refine bodyPost_ret (results_part rfl _ _ g6 10 44 _ _ rfl hD9 Tryz.underlying44 rfl rfl hr2s) rfl ?_
        rw [HPZ.out, HR2.out]
        exact ⟨rfl, hT9.below HB5.out hgw⟩
      · have hob : (o1 == z) = false := by simpa using hoz
        have HPZ := Lib.hid (show P = AWishPost w (replQ c stamp ((i : Int) + 1) o1 z) by rw [HPR.out, if_neg hoz])
        clear hoz f7
        go_wp2_with (first | refine wpList_load_part (o := ⟨some 79, _, _, _, _, _⟩) rfl 44 (.tmp 11) rfl g11 0 10 rfl 44 _ R1 _ HD4.out Tryz.underlying44 rfl rfl hr1s (fun _ _ => by rw [Nat.zero_add]) ?_ | (refine wpList_store_part (o := ⟨none, _, _, _, _, _⟩) rfl 44 (.tmp 6) (.tmp 79) rfl g6 0 R1 rfl rfl 44 (wCells zeroW none 0 0 none 0 0) HK4.out (by rw [hr1s]; kernel_rfl) (by rw [hr1s]; simp [wCells]) hr11 ?_; intro w9 hT9 hD9; rw [spl_self _ _ (by rw [hr1s]; simp [wCells])] at hD9))
        refine bodyPost_ret (results_part rfl _ _ g6 10 44 _ _ rfl hD9 Tryz.underlying44 rfl rfl hr1s) rfl ?_
        rw [HPZ.out, HR1.out]
        exact ⟨rfl, hT9.below HB4'.out hgw⟩
    by_cases hq3 : b16 = 3
    · have HCC := Lib.hid (show c = 34 by rw [HHC.out, if_neg hq1])
      have HOO := Lib.hid (show o1 = 28 by rw [HHO.out, if_pos hq3])
      have HZZ := Lib.hid (show z = 13 + (b9 : Int) by rw [HHZ.out, if_neg hq2])
      have n1 : ((b16 : Int) == 1) = false := by simp; omega
      have n2 : ((b16 : Int) == 2) = false := by simp; omega
      have q3 : ((b16 : Int) == 3) = true := by simp [hq3]
      have cc : w3.cell? ⟨g11, 7, none⟩ = some (.int .i64 o) := (HD3.out.cell 7).trans (by rw [HR0.out]; rfl)
      have ff := HD3.out.frozen 7
      have hT := Turned.setCell w3 ⟨g11, 7, none⟩ (.int .i64 28)
      have hset := HD3.out.set_ 7 (.int .i64 28)
      rw [HR0.out] at hset
      have hset2 : Blk (w3.setCell ⟨g11, 7, none⟩ (.int .i64 28)) g11 44 (wCells (replQ c stamp ((i : Int) + 1) o1 z) none 0 0 none 0 0) := by
        rw [HCC.out, HOO.out, HZZ.out]
        exact hset
      have HD4 := Lib.hid hset2
      have HK4 := Lib.hid (hT.blk K3.out hg611)
      have HB4' := Lib.hid (HB3.out.setCell (p := ⟨g11, 7, none⟩) hgw11 (.int .i64 28))
      clear hq3 hT hset hset2
      go_upto_region 14 with fail
      generalize w3.setCell ⟨g11, 7, none⟩ (.int .i64 28) = w4 at HD4 HK4 HB4' ⊢
      clear cc ff
      clear HR0 HD3 K3 HB3 hb3l
      obtain ⟨R1, hR1⟩ : ∃ R, R = wCells (replQ c stamp ((i : Int) + 1) o1 z) none 0 0 none 0 0 := ⟨_, rfl⟩
      have hr1s : R1.size = 10 := by rw [hR1]; simp [wCells]
      have hr11 : R1.all (·.oneCell') = true := by rw [hR1]; exact wCells_one _ _ _ _ _ _ _
      have d7 : w4.cell? ⟨g11, 7, none⟩ = some (.int .i64 o1) := (HD4.out.cell 7).trans rfl
      have d8 : w4.cell? ⟨g11, 8, none⟩ = some (.int .i64 z) := (HD4.out.cell 8).trans rfl
      have f7 := HD4.out.frozen 7
      rw [← hR1] at HD4
      have HR1 := Lib.hid hR1
      clear hR1
      by_cases hoz : o1 = z
      · have hob : (o1 == z) = true := by simpa using hoz
        have HPZ := Lib.hid (show P = AWishPost w (replQ c stamp ((i : Int) + 1) 1 z) by rw [HPR.out, if_pos hoz])
        clear hoz
        go_upto_region 16 with fail
        have hT := Turned.setCell w4 ⟨g11, 7, none⟩ (.int .i64 1)
        have HB5 := Lib.hid (HB4'.out.setCell (p := ⟨g11, 7, none⟩) hgw11 (.int .i64 1))
        have HK5 := Lib.hid (hT.blk HK4.out hg611)
        have hd5 := HD4.out.set_ 7 (.int .i64 1)
        obtain ⟨R2, hR2⟩ : ∃ R, R = R1.setIfInBounds 7 (.int .i64 1) := ⟨_, rfl⟩
        have hr2s : R2.size = 10 := by rw [hR2]; simp [hr1s]
        have hR2e : R2 = wCells (replQ c stamp ((i : Int) + 1) 1 z) none 0 0 none 0 0 := by rw [hR2, HR1.out]; rfl
        have hr21 : R2.all (·.oneCell') = true := by rw [hR2e]; exact wCells_one _ _ _ _ _ _ _
        rw [← hR2] at hd5
        have HD5 := Lib.hid hd5
        have HR2 := Lib.hid hR2e
        clear hd5 hR2 hR2e hT d7 d8 f7
        generalize w4.setCell ⟨g11, 7, none⟩ (.int .i64 1) = w5 at HB5 HK5 HD5 ⊢
        go_wp2_with (first | refine wpList_load_part (o := ⟨some 79, _, _, _, _, _⟩) rfl 44 (.tmp 11) rfl g11 0 10 rfl 44 _ R2 _ HD5.out Tryz.underlying44 rfl rfl hr2s (fun _ _ => by rw [Nat.zero_add]) ?_ | (refine wpList_store_part (o := ⟨none, _, _, _, _, _⟩) rfl 44 (.tmp 6) (.tmp 79) rfl g6 0 R2 rfl rfl 44 (wCells zeroW none 0 0 none 0 0) HK5.out (by rw [hr2s]; kernel_rfl) (by rw [hr2s]; simp [wCells]) hr21 ?_; intro w9 hT9 hD9; rw [spl_self _ _ (by rw [hr2s]; simp [wCells])] at hD9))
        refine bodyPost_ret (results_part rfl _ _ g6 10 44 _ _ rfl hD9 Tryz.underlying44 rfl rfl hr2s) rfl ?_
        rw [HPZ.out, HR2.out]
        exact ⟨rfl, hT9.below HB5.out hgw⟩
      · have hob : (o1 == z) = false := by simpa using hoz
        have HPZ := Lib.hid (show P = AWishPost w (replQ c stamp ((i : Int) + 1) o1 z) by rw [HPR.out, if_neg hoz])
        clear hoz f7
        go_wp2_with (first | refine wpList_load_part (o := ⟨some 79, _, _, _, _, _⟩) rfl 44 (.tmp 11) rfl g11 0 10 rfl 44 _ R1 _ HD4.out Tryz.underlying44 rfl rfl hr1s (fun _ _ => by rw [Nat.zero_add]) ?_ | (refine wpList_store_part (o := ⟨none, _, _, _, _, _⟩) rfl 44 (.tmp 6) (.tmp 79) rfl g6 0 R1 rfl rfl 44 (wCells zeroW none 0 0 none 0 0) HK4.out (by rw [hr1s]; kernel_rfl) (by rw [hr1s]; simp [wCells]) hr11 ?_; intro w9 hT9 hD9; rw [spl_self _ _ (by rw [hr1s]; simp [wCells])] at hD9))
        refine bodyPost_ret (results_part rfl _ _ g6 10 44 _ _ rfl hD9 Tryz.underlying44 rfl rfl hr1s) rfl ?_
        rw [HPZ.out, HR1.out]
        exact ⟨rfl, hT9.below HB4'.out hgw⟩
    · have HCC := Lib.hid (show c = 34 by rw [HHC.out, if_neg hq1])
      have HOO := Lib.hid (show o1 = o by rw [HHO.out, if_neg hq3])
      have HZZ := Lib.hid (show z = 13 + (b9 : Int) by rw [HHZ.out, if_neg hq2])
      have n1 : ((b16 : Int) == 1) = false := by simp; omega
      have n2 : ((b16 : Int) == 2) = false := by simp; omega
      have n3 : ((b16 : Int) == 3) = false := by simp; omega
      clear hq1 hq2 hq3
      have hd4 : Blk w3 g11 44 (wCells (replQ c stamp ((i : Int) + 1) o1 z) none 0 0 none 0 0) := by
        rw [HCC.out, HOO.out, HZZ.out, ← HR0.out]
        exact HD3.out
      obtain ⟨w4, hw4⟩ : ∃ w4, w4 = w3 := ⟨_, rfl⟩
      rw [← hw4] at hd4
      have HD4 := Lib.hid hd4
      have HK4 := Lib.hid K3.out
      have HB4' := Lib.hid HB3.out
      rw [← hw4] at HK4 HB4'
      clear hd4
      go_upto_region 14 with fail
      rw [← hw4]
      clear hw4
      clear HR0 HD3 K3 HB3 hb3l
      obtain ⟨R1, hR1⟩ : ∃ R, R = wCells (replQ c stamp ((i : Int) + 1) o1 z) none 0 0 none 0 0 := ⟨_, rfl⟩
      have hr1s : R1.size = 10 := by rw [hR1]; simp [wCells]
      have hr11 : R1.all (·.oneCell') = true := by rw [hR1]; exact wCells_one _ _ _ _ _ _ _
      have d7 : w4.cell? ⟨g11, 7, none⟩ = some (.int .i64 o1) := (HD4.out.cell 7).trans rfl
      have d8 : w4.cell? ⟨g11, 8, none⟩ = some (.int .i64 z) := (HD4.out.cell 8).trans rfl
      have f7 := HD4.out.frozen 7
      rw [← hR1] at HD4
      have HR1 := Lib.hid hR1
      clear hR1
      by_cases hoz : o1 = z
      · have hob : (o1 == z) = true := by simpa using hoz
        have HPZ := Lib.hid (show P = AWishPost w (replQ c stamp ((i : Int) + 1) 1 z) by rw [HPR.out, if_pos hoz])
        clear hoz
        go_upto_region 16 with fail
        have hT := Turned.setCell w4 ⟨g11, 7, none⟩ (.int .i64 1)
        have HB5 := Lib.hid (HB4'.out.setCell (p := ⟨g11, 7, none⟩) hgw11 (.int .i64 1))
        have HK5 := Lib.hid (hT.blk HK4.out hg611)
        have hd5 := HD4.out.set_ 7 (.int .i64 1)
        obtain ⟨R2, hR2⟩ : ∃ R, R = R1.setIfInBounds 7 (.int .i64 1) := ⟨_, rfl⟩
        have hr2s : R2.size = 10 := by rw [hR2]; simp [hr1s]
        have hR2e : R2 = wCells (replQ c stamp ((i : Int) + 1) 1 z) none 0 0 none 0 0 := by rw [hR2, HR1.out]; rfl
        have hr21 : R2.all (·.oneCell') = true := by rw [hR2e]; exact wCells_one _ _ _ _ _ _ _
        rw [← hR2] at hd5
        have HD5 := Lib.hid hd5
        have HR2 := Lib.hid hR2e
        clear hd5 hR2 hR2e hT d7 d8 f7
        generalize w4.setCell ⟨g11, 7, none⟩ (.int .i64 1) = w5 at HB5 HK5 HD5 ⊢
        go_wp2_with (first | refine wpList_load_part (o := ⟨some 79, _, _, _, _, _⟩) rfl 44 (.tmp 11) rfl g11 0 10 rfl 44 _ R2 _ HD5.out Tryz.underlying44 rfl rfl hr2s (fun _ _ => by rw [Nat.zero_add]) ?_ | (refine wpList_store_part (o := ⟨none, _, _, _, _, _⟩) rfl 44 (.tmp 6) (.tmp 79) rfl g6 0 R2 rfl rfl 44 (wCells zeroW none 0 0 none 0 0) HK5.out (by rw [hr2s]; kernel_rfl) (by rw [hr2s]; simp [wCells]) hr21 ?_; intro w9 hT9 hD9; rw [spl_self _ _ (by rw [hr2s]; simp [wCells])] at hD9))
        refine bodyPost_ret (results_part rfl _ _ g6 10 44 _ _ rfl hD9 Tryz.underlying44 rfl rfl hr2s) rfl ?_
        rw [HPZ.out, HR2.out]
        exact ⟨rfl, hT9.below HB5.out hgw⟩
      · have hob : (o1 == z) = false := by simpa using hoz
        have HPZ := Lib.hid (show P = AWishPost w (replQ c stamp ((i : Int) + 1) o1 z) by rw [HPR.out, if_neg hoz])
        clear hoz f7
        go_wp2_with (first | refine wpList_load_part (o := ⟨some 79, _, _, _, _, _⟩) rfl 44 (.tmp 11) rfl g11 0 10 rfl 44 _ R1 _ HD4.out Tryz.underlying44 rfl rfl hr1s (fun _ _ => by rw [Nat.zero_add]) ?_ | (refine wpList_store_part (o := ⟨none, _, _, _, _, _⟩) rfl 44 (.tmp 6) (.tmp 79) rfl g6 0 R1 rfl rfl 44 (wCells zeroW none 0 0 none 0 0) HK4.out (by rw [hr1s]; kernel_rfl) (by rw [hr1s]; simp [wCells]) hr11 ?_; intro w9 hT9 hD9; rw [spl_self _ _ (by rw [hr1s]; simp [wCells])] at hD9))
        refine bodyPost_ret (results_part rfl _ _ g6 10 44 _ _ rfl hD9 Tryz.underlying44 rfl rfl hr1s) rfl ?_
        rw [HPZ.out, HR1.out]
        exact ⟨rfl, hT9.below HB4'.out hgw⟩

end Go.Proofs.YtdpoedgjehofiaaGreat

/- Contract of a vault's New. -/
namespace Go.Proofs.YtdpoedgjehofiaaGreat
set_option linter.unusedVariables false
open Go.RowKit Go.Maps

def zer16 : List UInt8 := List.replicate 16 0
/-- a new vault, the first i blocks of which are made -/
def midV (q i : Nat) : VM := ⟨q, 0, List.replicate i zer16 ++ List.replicate (8 - i) [], List.replicate 4 (0, []), []⟩
theorem midV_end (q : Nat) : midV q 8 = newV q := by
  unfold midV newV zer16
  simp
theorem midV_block (q i j : Nat) (hi : i ≤ 8) : blockV (midV q i) j = if j < i then zer16 else [] := by
  unfold blockV midV
  simp only [List.getD_eq_getElem?_getD]
  by_cases h : j < i
  · rw [if_pos h, List.getElem?_append_left (by simpa using h), List.getElem?_replicate, if_pos h]; rfl
  · rw [if_neg h, List.getElem?_append_right (by simpa using h), List.getElem?_replicate]
    split <;> rfl
theorem midV_last (q i j : Nat) : lastV (midV q i) j = (0, []) := by
  unfold lastV midV
  simp only [List.getD_eq_getElem?_getD, List.getElem?_replicate]
  split <;> rfl
def midS (S : VSl) (i g : Nat) : VSl := ⟨fun j => if j = i then some ⟨g, 0, none⟩ else S.bA j, fun j => if j = i then 16 else S.bC j, S.lA, S.lC, S.sA, S.sC⟩
theorem vC_mid (q i g : Nat) (S : VSl) (hi : i < 8) : (vC none (midV q i) S).setIfInBounds (3 + i) (.slice (some ⟨g, 0, none⟩) 16 16) = vC none (midV q (i + 1)) (midS S i g) := by
  apply Array.ext_getElem?
  intro j
  rw [Array.getElem?_setIfInBounds, vC_size]
  rcases Nat.lt_or_ge j 20 with hj | hj
  · rw [vC_at _ _ _ _ hj, vC_at _ _ _ _ hj]
    by_cases h : 3 + i = j
    · subst h
      rw [if_pos rfl, if_pos hj]
      unfold vF
      rw [if_neg (by omega), if_neg (by omega), if_neg (by omega), if_pos (by omega), show 3 + i - 3 = i by omega, midV_block _ _ _ (by omega), if_pos (by omega)]
      simp [midS, zer16]
    · rw [if_neg h]
      unfold vF
      by_cases h0 : j = 0
      · rw [if_pos h0, if_pos h0]
      · rw [if_neg h0, if_neg h0]
        by_cases h1 : j = 1
        · rw [if_pos h1, if_pos h1]; rfl
        · rw [if_neg h1, if_neg h1]
          by_cases h2 : j = 2
          · rw [if_pos h2, if_pos h2]; rfl
          · rw [if_neg h2, if_neg h2]
            by_cases h11 : j < 11
            · rw [if_pos h11, if_pos h11, midV_block _ _ _ (by omega), midV_block _ _ _ (by omega)]
              have : (j - 3 < i) = (j - 3 < i + 1) := by
                apply propext
                omega
              simp only [midS, this, if_neg (show ¬ j - 3 = i by omega)]
            · rw [if_neg h11, if_neg h11]
              simp only [midV_last]
              rfl
  · rw [if_neg (by omega), Array.getElem?_eq_none (by rw [vC_size]; exact hj), Array.getElem?_eq_none (by rw [vC_size]; exact hj)]
def noS : VSl := ⟨fun _ => none, fun _ => 0, fun _ => none, fun _ => 0, none, 0⟩
theorem vC_new (q : Nat) : vC none (midV q 0) noS = #[.pointer none, .int .i64 (q : Int), .int .i64 0, .slice none 0 0, .slice none 0 0, .slice none 0 0, .slice none 0 0, .slice none 0 0, .slice none 0 0, .slice none 0 0, .slice none 0 0, .int .i64 0, .slice none 0 0, .int .i64 0, .slice none 0 0, .int .i64 0, .slice none 0 0, .int .i64 0, .slice none 0 0, .slice none 0 0] := by kernel_rfl
/-- how far New has come -/
structure NewSt (w wr : World) (g q i : Nat) (S : VSl) : Prop where
  blk : Blk wr g 73 (vC none (midV q i) S)
  block : ∀ j, j < i → ∃ g', S.bA j = some ⟨g', 0, none⟩ ∧ g < g' ∧ S.bC j = 16 ∧ Blk wr g' 5 (Array.replicate 16 (.int .u8 0))
  rest : S.lA = noS.lA ∧ S.lC = noS.lC ∧ S.sA = none ∧ S.sC = 0
  low : Below w.heap.size w wr
theorem zer16_row : (zer16.map vb) = (Array.replicate 16 (Value.int .u8 0)).toList := by kernel_rfl
theorem NewSt.done {w wr : World} {g q : Nat} {S : VSl} {k : Book} (h : NewSt w wr g q 8 S) (hg : w.heap.size ≤ g) (hk : k.g < w.heap.size ∧ k.b1 < w.heap.size ∧ k.b2 < w.heap.size) (hq : 1 ≤ q ∧ q ≤ 2) : VDat wr g none (fun b => b = g ∨ k.has b ∨ b < g) (newV q) S := by
  refine ⟨by rw [← midV_end]; exact h.blk, fun i hi => ?_, fun i hi => ?_, ?_, newV_ok q hq.1 hq.2⟩
  · obtain ⟨g', e1, e2, e3, e4⟩ := h.block i hi
    have hb : blockV (newV q) i = zer16 := by rw [← midV_end, midV_block _ _ _ (by omega), if_pos hi]
    rw [hb, e1, e3]
    refine ⟨?_, by simp [zer16, maxLen], fun a _ ha hn => ?_⟩
    · have := reads_blk e4 (n := 16) (by simp)
      rw [zer16_row]
      exact this
    · injection ha with ha
      subst ha
      rcases hn with e | (e | e | e) | e <;> simp only at e <;> omega
  · rw [← midV_end, midV_last, h.rest.1, h.rest.2.1]
    exact Far.nil _ _
  · rw [h.rest.2.2.1, h.rest.2.2.2]
    exact FarN.nil _ _

set_option maxRecDepth 100000 in
set_option maxHeartbeats 4000000 in
theorem vNew_any (k : Book) (L : List (List UInt8)) (asked q : Nat) (w : World) (hbk : BookAt w k L asked) (has : asked ≤ 600000) (hq : 1 ≤ q ∧ q ≤ 2) :
    Calls Tryz.prog 23 #[.pointer (some ⟨k.g, 0, none⟩), .int .i64 (q : Int)] w fun e w' => ∃ (g : Nat) (T : TreeLoc) (w1 : World), e = .returned (.tuple #[.pointer (some ⟨g, 0, none⟩), .int .i64 0]) ∧ w.heap.size ≤ g ∧ g < w1.heap.size ∧ Below w.heap.size w w1 ∧ MadeSt (fun b => b < g) w1 w' g T k L asked (newV q) 13 := by
  have hq1 : ¬ (q : Int) < 1 := by omega
  have hq2 : ¬ (2 : Int) < (q : Int) := by omega
  have hlt := hbk.lt
  have HBK := Lib.hid hbk
  obtain ⟨i0, hi0, hz0, hz1, hz2⟩ := info_parts u8_info
  have hVN := vC_new q
  have hX := below_lit w (.cells (vC none (midV q 0) noS) 73)
  have hk0 : Blk (w.alloc (.cells (vC none (midV q 0) noS) 73)) w.heap.size 73 (vC none (midV q 0) noS) := Blk.newAt rfl
  have hst : NewSt w (w.alloc (.cells (vC none (midV q 0) noS) 73)) w.heap.size q 0 noS := ⟨hk0, fun j hj => by omega, ⟨rfl, rfl, rfl, rfl⟩, hX⟩
  have HST := Lib.hid hst
  have HVN := Lib.hid hVN
  obtain ⟨g, hg⟩ : ∃ g, g = w.heap.size := ⟨_, rfl⟩
  have hgw : w.heap.size ≤ g := by omega
  clear hbk hst hX hk0 hVN
  go_enter Tryz.func23, Tryz.ntmps23
  go_upto_region 4 with fail
  rw [← HVN.out]
  generalize World.alloc w _ = w1 at HST ⊢
  rw [← hg] at HST ⊢
  clear hg HVN
  go_wp2_with fail
  go_loopw [17] (fun iv wr => ∃ (i : Nat) (S : VSl), i ≤ 8 ∧ iv = .int .i64 i ∧ NewSt w wr g q i S) (fun iv _ => 8 - (intOf iv).toNat)
  case atStart => exact ⟨0, noS, by omega, rfl, HST.out⟩
  case round =>
    obtain ⟨i, S, hi, rfl, hst⟩ := hrel
    have HS := Lib.hid hst
    have hgl := hst.blk.lt
    have hsz := hst.low.size
    clear hst
    by_cases hin : i < 8
    · have hinI : (i : Int) < 8 := by omega
      go_upto_region 7 with fail
      refine wp_region_rel' 6 32 (fun jx W v => match jx with
        | 0 => v = .pointer (some ⟨g, 0, none⟩)
        | 1 => v = .int .i64 (i : Int)
        | 2 => ∃ g', v = .slice (some ⟨g', 0, none⟩) 16 16 ∧ wr.heap.size ≤ g' ∧ Blk W g' 5 (Array.replicate 16 (.int .u8 0))
        | 3 => v = .pointer (some ⟨g, 0, none⟩)
        | 4 => v = .pointer (some ⟨g, 3, none⟩)
        | _ => v = .pointer (some ⟨g, 3 + i, none⟩)) [20, 21, 22, 23, 24, 25] (by kernel_rfl) (by kernel_rfl) (by kernel_rfl) (by simp) (by kernel_rfl) (fun jx => ?last) ?heads ?_
      case last =>
        match jx with
        | 0 | 1 | 3 | 4 | jx + 5 => exact Lasts.pure _
        | 2 => exact fun W W' v ⟨g', h1, h2, h3⟩ hb => ⟨g', h1, h2, h3.below' hb⟩
      case heads =>
        simp only [List.take_succ_cons, List.take_zero]
        refine ⟨fun a W hb hkp hd => ?_, fun a W hb hkp hd => ?_, fun a W hb hkp hd => ?_, fun a W hb hkp hd => ?_, fun a W hb hkp hd => ?_, fun a W hb hkp hd => ?_, trivial⟩
        · have e0 : a.tmps[6]?.getD undef = .pointer (some ⟨g, 0, none⟩) := hkp.get (by kernel_rfl) rfl
          exact rel_value rfl (.pointer (some ⟨g, 0, none⟩)) (by go_simp) rfl
        · have e0 : a.tmps[7]?.getD undef = .int .i64 (i : Int) := hkp.get (by kernel_rfl) rfl
          exact rel_value rfl (.int .i64 (i : Int)) (by go_simp) rfl
        · refine rel_exec rfl (.slice (some ⟨W.heap.size, 0, none⟩) 16 16) (W.alloc (.cells (Array.replicate 16 (.int .u8 0)) 5)) (by
            go_simp
            have h := run_make_rowN (P := Tryz.prog) 22 5 i0 _ Tryz.underlying22 hi0 hz0 .i64 .i64 16 16 (by omega) (by rw [hz2]; omega) (by omega) W
            rw [hz1] at h
            rw [show ((16 : Nat) : Int) = 16 from rfl] at h
            rw [h, show madeCells (Value.int .u8 0).cells (16 * 1) = Array.replicate 16 (.int .u8 0) from by kernel_rfl]
            rfl) ((Below.refl _ _).alloc (Nat.le_refl _) _) ⟨W.heap.size, rfl, hb.size, Blk.new W _ _⟩
        · have e0 : a.tmps[20]?.getD undef = .pointer (some ⟨g, 0, none⟩) := (hd 0 (by kernel_rfl)).get 20 rfl rfl
          exact rel_value rfl (.pointer (some ⟨g, 0, none⟩)) (by go_simp) rfl
        · have e0 : a.tmps[23]?.getD undef = .pointer (some ⟨g, 0, none⟩) := (hd 3 (by kernel_rfl)).get 23 rfl rfl
          exact rel_value rfl (.pointer (some ⟨g, 3, none⟩)) (by go_simp) rfl
        · have e0 : a.tmps[24]?.getD undef = .pointer (some ⟨g, 3, none⟩) := (hd 4 (by kernel_rfl)).get 24 rfl rfl
          have e1 : a.tmps[21]?.getD undef = .int .i64 (i : Int) := (hd 1 (by kernel_rfl)).get 21 rfl rfl
          exact rel_value rfl (.pointer (some ⟨g, 3 + i, none⟩)) (by go_simp) rfl
      intro f W hb hd
      obtain ⟨g', h22, hg', hB'⟩ : ∃ g', f 22 = .slice (some ⟨g', 0, none⟩) 16 16 ∧ wr.heap.size ≤ g' ∧ Blk W g' 5 (Array.replicate 16 (.int .u8 0)) := hd 2 (by omega) _ 22 rfl rfl
      have h25 : f 25 = .pointer (some ⟨g, 3 + i, none⟩) := hd 5 (by omega) _ 25 rfl rfl
      have hkW := HS.out.blk.below' hb
      have cc : W.cell? ⟨g, 3 + i, none⟩ = some (.slice (S.bA i) (blockV (midV q i) i).length (S.bC i)) := (hkW.cell _).trans (vC_block _ _ _ i hin)
      have ff := hkW.frozen (3 + i)
      have hB2 := hkW.set_ (3 + i) (.slice (some ⟨g', 0, none⟩) 16 16)
      rw [vC_mid q i g' S hin] at hB2
      have hT2 := Turned.setCell W ⟨g, 3 + i, none⟩ (.slice (some ⟨g', 0, none⟩) 16 16)
      have hst2 : NewSt w (W.setCell ⟨g, 3 + i, none⟩ (.slice (some ⟨g', 0, none⟩) 16 16)) g q (i + 1) (midS S i g') := by
        refine ⟨hB2, fun j hj => ?_, HS.out.rest, hT2.below (HS.out.low.trans (hb.mono hsz)) hgw⟩
        by_cases hji : j = i
        · subst hji
          exact ⟨g', by simp [midS], by omega, by simp [midS], hT2.blk hB' (by simp only; omega)⟩
        · obtain ⟨g'', e1, e2, e3, e4⟩ := HS.out.block j (by omega)
          exact ⟨g'', by simp only [midS, if_neg hji]; exact e1, e2, by simp only [midS, if_neg hji]; exact e3, hT2.blk (e4.below' hb) (by simp only; omega)⟩
      have HST2 := Lib.hid hst2
      simp only [putAll, List.drop_succ_cons, List.drop_zero, h22, h25]
      clear hd hB' hkW hB2 hT2 hst2
      try simp only [Act.put, List.setIfInBounds_toArray, List.set_cons_zero, List.set_cons_succ]
      go_wp2_with fail
      go_roundw
      case rel => exact ⟨i + 1, midS S i g', by omega, by go_num, HST2.out⟩
      case measure => simp [intOf]; omega
    · obtain rfl : i = 8 := by omega
      have hinI : ¬ (8 : Int) < 8 := by omega
      have hd := HS.out.done (k := k) hgw hlt hq
      have HM := Lib.hid (made_any (fun b => b < g) k L asked g (newV q) S wr (HBK.out.below HS.out.low) has hd (by rintro (e | e | e) <;> omega))
      clear hd
      go_wp2_with fail
      refine HM.out.mono ?_
      rintro _ w3 ⟨T, rfl, hms⟩
      have HMS := Lib.hid hms
      clear hms HM
      go_wp2_with fail
      go_ret2
      exact ⟨g, T, wr, rfl, hgw, hgl, HS.out.low, HMS.out⟩

end Go.Proofs.YtdpoedgjehofiaaGreat
