/-
  Contract of bastideref11.CopyAll.
-/
import Derived.Test.YtcmbmimmfgfefaaUnbatch
import Derived.Test.YtcmbmimmfgfefaaRefCopy
namespace Go.Proofs.Ytcmbmimmfgfefaa
set_option linter.unusedVariables false
open Go.RowKit

theorem OwnW.keeps' {w : World} {B2 g : Nat} {l : List Wish} {es : List (Array Value)} {A : Option Addr} {n c : Nat} (h : OwnW w B2 (fun b => b < g ∨ (Value.slice A n c).ownBlock = some b) (.slice A n c) l es) (hg : g ≤ B2) : Keeps w g A n l := fun W hs hk =>
  (h.keep hs (fun i hi hn => hk i hi (by rcases Nat.lt_or_ge i g with h1 | h1; exact absurd (.inl h1) hn; exact h1)) (fun b hb => hk b (rowW_lt h.row hb).2 (by have := (rowW_lt h.row hb).1; omega))).wishes.2.2

set_option maxRecDepth 100000 in
set_option maxHeartbeats 4000000 in
theorem copyAll_any (A : Option Addr) (n c : Nat) (l : List Wish) (w : World) (B : Nat) (h : WishesIn w B A n l) (hB : B ≤ w.heap.size) (hn : n ≤ 1256584717421) :
    Calls Try.prog 13 #[.slice A n c] w fun e w' => ∃ A1 n1 c1, e = .returned (.slice A1 n1 c1) ∧ n1 = l.length ∧ n1 ≤ c1 ∧ Keeps w' w.heap.size A1 n1 l ∧ Below w.heap.size w w' := by
  have HLN := Lib.hid h.1
  have H := Lib.hid h
  clear h
  obtain ⟨i0, hi0, hz0, hz1, hz2⟩ := info_parts wish_info
  go_enter Try.func13, Try.ntmps13
  go_wp2_with fail
  go_loopw [3, 4] (fun ov iv wr => ∃ (i : Nat) (es : List (Array Value)) (v : Value), v = ov ∧ i ≤ n ∧ iv = .int .i64 i ∧ OwnW wr w.heap.size (fun b => b < w.heap.size ∨ ov.ownBlock = some b) ov (l.take i) es ∧ Below w.heap.size w wr) (fun _ iv _ => n - (intOf iv).toNat)
  case atStart => exact ⟨0, [], _, rfl, by omega, rfl, ⟨rfl, ⟨rfl, .inl ⟨rfl, rfl⟩⟩, fun k x hx => by simp at hx⟩, Below.refl _ _⟩
  case round =>
    obtain ⟨i, es, ov, rfl, hi, rfl, how, hb⟩ := hrel
    have HOW := Lib.hid how
    have HB := Lib.hid hb
    have hsz := hb.size
    clear how hb
    by_cases hin : i < n
    · obtain ⟨ad, hA, hadb, hcell⟩ := H.out.2 (by omega)
      subst hA
      have hil : i < l.length := by have := HLN.out; omega
      obtain ⟨A1, n1, c1, A2, n2, c2, hcs, hwi⟩ := hcell i l[i] (List.getElem?_eq_getElem hil)
      have HCS := Lib.hid (fun (j : Nat) (v : Value) hv => (HB.out.cell (show (ad.add (10 * i + j)).block < w.heap.size by rw [block_of_add]; omega)).trans (hcs j v hv))
      have HWI := Lib.hid (refCopy_any l[i] A1 n1 c1 A2 n2 c2 wr B (hwi.below (HB.out.mono hB)) (by omega))
      have htk : l.take (i + 1) = l.take i ++ [l[i]] := List.take_succ_eq_append_getElem hil
      have htl : (l.take i).length = i := by rw [List.length_take]; omega
      generalize l[i] = x at HCS HWI htk
      have HTK := Lib.hid htk
      have HTL := Lib.hid htl
      clear hcell hcs hwi htk htl
      go_wp2_with (refine wpList_load_cells (o := ⟨some 15, _, _, _, _, _⟩) rfl 26 (.tmp 14) rfl (ad.add (i * 10)) 10 rfl (wCells x A1 n1 c1 A2 n2 c2) _ Try.underlying26 rfl rfl rfl (fun j v hv => by rw [add_of_add, Nat.mul_comm]; exact HCS.out j v hv) ?_)
      refine HWI.out.mono ?_
      rintro _ w5 ⟨D1, m1, d1, D2, m2, d2, rfl, hwo, hb5⟩
      have HB5 := Lib.hid (HB.out.trans (hb5.mono hsz))
      have hO5 := HOW.out.keep hb5.size (fun i hi _ => hb5.block i hi) (fun b hb => hb5.block b (rowW_lt HOW.out.row hb).2)
      have HO5 := Lib.hid hO5
      have HW5 := Lib.hid (show WishApart w5 (fun b => b < w.heap.size ∨ ov.ownBlock = some b) x D1 m1 d1 D2 m2 d2 from ⟨hwo.is, fun a h0 ha hn => by
        have h1 := hwo.data.ge (b := a.block) (by rw [ha]; rfl)
        rcases hn with h2 | h2
        · omega
        · have := (rowW_lt HOW.out.row h2).2; omega, fun a h0 ha hn => by
        have h1 := own_ge hwo.next (b := a.block) (by rw [ha]; rfl)
        rcases hn with h2 | h2
        · omega
        · have := (rowW_lt HOW.out.row h2).2; omega⟩)
      have hrw := hO5.row
      rw [HTL.out] at hrw
      have HRW := Lib.hid hrw
      have hs5 := hb5.size
      have hwz : (wCells x D1 m1 d1 D2 m2 d2).size = 10 := rfl
      clear hwo hb5 hO5 hrw HCS HWI
      go_wp2_with (at_builtin; (rw [fill_cells]; refine wpList_append_any _ rfl (.tmp 11) (.tmp 17) 34 rfl w.heap.size 26 i0 _ 10 112 Try.underlying34 hi0 hz0 hz1 hz2 rfl (by omega) ov i (es.map (·.toList)).flatten rfl ?row (w5.heap.size + 1) (some ⟨w5.heap.size, 0, none⟩) 1 1 (wCells x D1 m1 d1 D2 m2 d2).toList rfl ?rd ?c1 ?c2 ?c3 ?c4 ?_))
      case row => exact rowW_keep HRW.out (fun b hb => Below.heap_alloc _ _ b (rowW_lt HRW.out hb).2)
      case rd => exact reads_struct _ _ _ rfl
      case c1 => exact fun u hu => List.all_eq_true.1 (by have := wCells_one x D1 m1 d1 D2 m2 d2; rw [← Array.all_toList] at this; exact this) u hu
      case c2 => unfold maxLen; omega
      case c3 => omega
      case c4 => simp; omega
      intro v6 w6 hown6 hg6 hor6
      obtain ⟨o6, ho6⟩ : ∃ o, o = Obj.cells (wCells x D1 m1 d1 D2 m2 d2) 26 := ⟨_, rfl⟩
      rw [← ho6] at hg6
      have hsz6 : (w5.alloc o6).heap.size = w5.heap.size + 1 := by simp
      rw [← hsz6] at hor6
      have hal : Below w5.heap.size w5 (w5.alloc o6) := (Below.refl _ _).alloc (Nat.le_refl _) _
      have hN : ∀ b, ov.ownBlock = some b → (b < w.heap.size ∨ ov.ownBlock = some b) := fun b hb => .inr hb
      have hN' : ∀ b, (b < w.heap.size ∨ v6.ownBlock = some b) → (b < w.heap.size ∨ ov.ownBlock = some b) ∨ (w5.alloc o6).heap.size ≤ b := fun b hb => by
        rcases hb with hb | hb
        · exact .inl (.inl hb)
        · rcases hor6 with e | e
          · exact .inl (.inr (e ▸ hb))
          · rw [e] at hb; injection hb with hb; exact .inr (by omega)
      have hge6 : ∀ b, ov.ownBlock = some b → w.heap.size ≤ b := fun b hb => (rowW_lt HRW.out hb).1
      have hgs6 := hg6.size
      have HO6 := Lib.hid (OwnW.push (N' := fun b => b < w.heap.size ∨ v6.ownBlock = some b) (HO5.out.keep hal.size (fun i hi _ => hal.block i hi) (fun b hb => hal.block b (rowW_lt HO5.out.row hb).2)) (HW5.out.keep hal.size (fun i hi _ => hal.block i hi)) (HTL.out.symm ▸ hown6) hg6 hN hN')
      rw [← HTK.out] at HO6
      have HB6 := Lib.hid (grown_below ((HB5.out.trans (hal.mono (by omega)))) (by omega) hg6 (fun b hb => hge6 b hb))
      clear hown6 hg6 hor6 hal hN hN'
      go_wp2_with fail
      go_roundw
      case rel => exact ⟨i + 1, es ++ [wCells x D1 m1 d1 D2 m2 d2], v6, rfl, by omega, by go_num, HO6.out, HB6.out⟩
      case measure => simp [intOf]; omega
    · obtain rfl : i = n := by omega
      rw [List.take_of_length_le (by have := HLN.out; omega)] at HOW
      obtain ⟨A1, c1, rfl⟩ := own_shape' HOW.out.row
      go_wp2_with fail
      go_ret
      exact ⟨A1, _, c1, rfl, rfl, HOW.out.wishes.2.1, HOW.out.keeps' (Nat.le_refl _), HB.out⟩

end Go.Proofs.Ytcmbmimmfgfefaa
