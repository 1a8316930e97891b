/-
  WishFields: the law's walk.
-/
import Derived.Test.YtiomahognfmpgaaRefCopy
import Derived.Test.YtiomahognfmpgaaBatch
import Derived.Test.YtiomahognfmpgaaUnbatch
import Derived.Test.YtiomahognfmpgaaBring
import Derived.Great.Walk
namespace Go.Proofs.Ytiomahognfmpgaa
set_option linter.unusedVariables false
open Go.RowKit

def queryW : Wish := ⟨34, 1, 0, 0, 3, 1, [], 0, 0, []⟩
def replW : Wish := ⟨34, 1, 0, 0, 4, 2, [], 3, 4, []⟩
def writeW : Wish := ⟨33, 1099511627776, 2, 0, 2, 7, [0, 0, 0, 0, 0, 0, 0, 0, 0, 0, 0, 0, 0, 0, 0, 0], 0, 0, []⟩
def fieldsL : List Wish := [readW, sealW, queryW, replW, writeW]
theorem fields_may : ∀ x, x ∈ fieldsL → mayB x = true ∧ mayB { x with data := x.data ++ [1] } = false ∧ mayB { x with old := 40 } = false ∧ mayB { x with new := -1 } = false ∧ mayB { x with next := x.next ++ [28] } = false ∧ mayB { x with epoch := 1048577 } = false := by
  decide

theorem may_small {x : Wish} (h : mayB x = true) : x.data.length ≤ 16 ∧ x.next.length ≤ 7 := by
  obtain ⟨_, _, _, hd, hl⟩ := may_nums h
  omega
theorem WishOwn.apart {w : World} {B : Nat} {x : Wish} {A : Option Addr} {n c : Nat} {A' : Option Addr} {n' c' : Nat} (h : WishOwn w B x A n c A' n' c') (b : Nat) (h1 : (Value.slice A n c).ownBlock = some b) (h2 : (Value.slice A' n' c').ownBlock = some b) : False := by
  rcases h.data.2 with ⟨e, _⟩ | ⟨g, cap, cur, e, _, hh, _⟩
  · rw [e] at h1; simp [Value.ownBlock] at h1
  · rcases h.next.2 with ⟨e', _⟩ | ⟨g', cap', cur', e', _, hh', _⟩
    · rw [e'] at h2; simp [Value.ownBlock] at h2
    · rw [e] at h1; rw [e'] at h2
      simp [Value.ownBlock] at h1 h2
      subst h1 h2
      rw [hh] at hh'
      injection hh' with hh'
      injection hh' with _ ht
      exact absurd ht (by decide)
theorem WishOwn.keep' {w w' : World} {B : Nat} {x : Wish} {A : Option Addr} {n c : Nat} {A' : Option Addr} {n' c' : Nat} (h : WishOwn w B x A n c A' n' c') (hk : ∀ b, (Value.slice A n c).ownBlock = some b ∨ (Value.slice A' n' c').ownBlock = some b → w'.heap[b]? = w.heap[b]?) : WishOwn w' B x A n c A' n' c' :=
  ⟨h.data.keep fun b hb => hk b (.inl hb), own_keep h.next fun b hb => hk b (.inr hb), h.dm, h.nm, h.rng⟩
def LastsIn (w : World) (x : Wish) (A : Option Addr) (n c : Nat) (A' : Option Addr) (n' c' : Nat) : Prop := WishIn w w.heap.size x A n c A' n' c'
def fieldsP (j : Nat) (W : World) (v : Value) : Prop := match j with
  | 0 => v = .agg (wCells readW none 0 0 none 0 0)
  | 1 => ∃ A c, v = .agg (wCells sealW none 0 0 A 4 c) ∧ WishIn W W.heap.size sealW none 0 0 A 4 c
  | 2 => v = .agg (wCells queryW none 0 0 none 0 0)
  | 3 => v = .agg (wCells replW none 0 0 none 0 0)
  | 4 => ∃ A, v = .slice A 16 16 ∧ Reads W W.heap.size 1 A 16 (writeW.data.map vb)
  | _ => ∃ A, v = .agg (wCells writeW A 16 16 none 0 0) ∧ Reads W W.heap.size 1 A 16 (writeW.data.map vb)
theorem fieldsP_lasts : ∀ j, Lasts (fieldsP j)
  | 0 => Lasts.pure _
  | 1 => fun w w' v ⟨A, c, h1, h2⟩ hb => ⟨A, c, h1, (h2.below hb).more hb.size⟩
  | 2 => Lasts.pure _
  | 3 => Lasts.pure _
  | 4 => fun w w' v ⟨A, h1, h2⟩ hb => ⟨A, h1, (h2.below hb).more hb.size⟩
  | j + 5 => fun w w' v ⟨A, h1, h2⟩ hb => ⟨A, h1, (h2.below hb).more hb.size⟩

def cells5 (A1 : Option Addr) (c1 : Nat) (A5 : Option Addr) : Array Value :=
  ((wCells readW none 0 0 none 0 0).toList ++ ((wCells sealW none 0 0 A1 4 c1).toList ++ ((wCells queryW none 0 0 none 0 0).toList ++ ((wCells replW none 0 0 none 0 0).toList ++ (wCells writeW A5 16 16 none 0 0).toList)))).toArray
theorem cells5_at {W : World} {A1 : Option Addr} {c1 : Nat} {A5 : Option Addr} (h1 : WishIn W W.heap.size sealW none 0 0 A1 4 c1) (h5 : Reads W W.heap.size 1 A5 16 (writeW.data.map vb)) (k : Nat) (x : Wish) (hx : fieldsL[k]? = some x) :
    ∃ A n c A' n' c', (∀ (j : Nat) (v : Value), (wCells x A n c A' n' c')[j]? = some v → (cells5 A1 c1 A5)[10 * k + j]? = some v) ∧ WishIn W W.heap.size x A n c A' n' c' := by
  have hpl : ∀ y, y ∈ [readW, queryW, replW] → WishIn W W.heap.size y none 0 0 none 0 0 := by
    intro y hy
    simp at hy
    rcases hy with rfl | rfl | rfl <;> exact ⟨Reads.none_, Nat.le_refl _, by omega, Reads.none_, Nat.le_refl _, by omega, by unfold I64; simp [readW, queryW, replW]⟩
  have hlt : ∀ (x : Wish) A n c A' n' c' (j : Nat) (v : Value), (wCells x A n c A' n' c')[j]? = some v → j < 10 ∧ (wCells x A n c A' n' c').toList[j]? = some v := fun x A n c A' n' c' j v hv => by
    refine ⟨?_, by rw [Array.getElem?_toList]; exact hv⟩
    rcases Nat.lt_or_ge j 10 with h | h
    · exact h
    · rw [Array.getElem?_eq_none (by exact h)] at hv; cases hv
  have hlen : ∀ (x : Wish) A n c A' n' c', (wCells x A n c A' n' c').toList.length = 10 := fun _ _ _ _ _ _ _ => rfl
  match k, hx with
  | 0, hx =>
    injection hx with hx; subst hx
    refine ⟨none, 0, 0, none, 0, 0, fun j v hv => ?_, hpl _ (by simp)⟩
    obtain ⟨hj, hv⟩ := hlt _ _ _ _ _ _ _ j v hv
    unfold cells5
    rw [List.getElem?_toArray, List.getElem?_append_left (by rw [hlen]; omega), show 10 * 0 + j = j by omega]; exact hv
  | 1, hx =>
    injection hx with hx; subst hx
    refine ⟨none, 0, 0, A1, 4, c1, fun j v hv => ?_, h1⟩
    obtain ⟨hj, hv⟩ := hlt _ _ _ _ _ _ _ j v hv
    unfold cells5
    rw [List.getElem?_toArray, List.getElem?_append_right (by rw [hlen]; omega), hlen, List.getElem?_append_left (by rw [hlen]; omega), show 10 * 1 + j - 10 = j by omega]; exact hv
  | 2, hx =>
    injection hx with hx; subst hx
    refine ⟨none, 0, 0, none, 0, 0, fun j v hv => ?_, hpl _ (by simp)⟩
    obtain ⟨hj, hv⟩ := hlt _ _ _ _ _ _ _ j v hv
    unfold cells5
    rw [List.getElem?_toArray, List.getElem?_append_right (by rw [hlen]; omega), hlen, List.getElem?_append_right (by rw [hlen]; omega), hlen, List.getElem?_append_left (by rw [hlen]; omega), show 10 * 2 + j - 10 - 10 = j by omega]; exact hv
  | 3, hx =>
    injection hx with hx; subst hx
    refine ⟨none, 0, 0, none, 0, 0, fun j v hv => ?_, hpl _ (by simp)⟩
    obtain ⟨hj, hv⟩ := hlt _ _ _ _ _ _ _ j v hv
    unfold cells5
    rw [List.getElem?_toArray, List.getElem?_append_right (by rw [hlen]; omega), hlen, List.getElem?_append_right (by rw [hlen]; omega), hlen, List.getElem?_append_right (by rw [hlen]; omega), hlen, List.getElem?_append_left (by rw [hlen]; omega), show 10 * 3 + j - 10 - 10 - 10 = j by omega]; exact hv
  | 4, hx =>
    injection hx with hx; subst hx
    refine ⟨A5, 16, 16, none, 0, 0, fun j v hv => ?_, ⟨h5, Nat.le_refl _, by omega, Reads.none_, Nat.le_refl _, by omega, by unfold I64; simp [writeW]⟩⟩
    obtain ⟨hj, hv⟩ := hlt _ _ _ _ _ _ _ j v hv
    unfold cells5
    rw [List.getElem?_toArray, List.getElem?_append_right (by rw [hlen]; omega), hlen, List.getElem?_append_right (by rw [hlen]; omega), hlen, List.getElem?_append_right (by rw [hlen]; omega), hlen, List.getElem?_append_right (by rw [hlen]; omega), hlen, show 10 * 4 + j - 10 - 10 - 10 - 10 = j by omega]; exact hv
  | k + 5, hx => simp [fieldsL] at hx

set_option maxRecDepth 100000 in
set_option maxHeartbeats 8000000 in
theorem wishFields_law (kd wh : Int) (w : World) (h1 : I64 kd) (h2 : I64 wh) :
    Calls Try.prog 10 #[.int .i64 kd, .int .i64 wh] w fun e w' => e = .returned (.bool true) ∧ Below w.heap.size w w' := by
  have hk1 := h1.1
  have hk2 := h1.2
  have hw1 := h2.1
  have hw2 := h2.2
  clear h1 h2
  obtain ⟨i0, hi0, hz0, hz1, hz2⟩ := info_parts u8_info
  go_enter Try.func10, Try.ntmps10
  go_wp2_with fail
  refine (worksW_any _).mono ?_
  rintro _ w1 ⟨rfl, hb1⟩
  have HB1 := Lib.hid hb1
  have hs1 := hb1.size
  clear hb1
  go_upto_region 3 with fail
  refine wp_region_rel' 6 54 fieldsP [10, 11, 12, 13, 14, 15] (by kernel_rfl) (by kernel_rfl) (by kernel_rfl) (by simp) (by kernel_rfl) fieldsP_lasts ?heads ?_
  case heads =>
    simp only [List.take_succ_cons, List.take_zero]
    refine ⟨fun a W hb hkp hd => ?_, fun a W hb hkp hd => ?_, fun a W hb hkp hd => ?_, fun a W hb hkp hd => ?_, fun a W hb hkp hd => ?_, fun a W hb hkp hd => ?_, trivial⟩
    · refine rel_call rfl 32 #[] (by go_simp) ((read_any W).mono ?_)
      rintro e w' ⟨rfl, hb'⟩
      exact ⟨_, rfl, hb', rfl⟩
    · refine rel_call rfl 33 #[] (by go_simp) ((seal_any W).mono ?_)
      rintro e w' ⟨A, c, rfl, hwi, hb'⟩
      exact ⟨_, rfl, hb', A, c, rfl, hwi⟩
    · exact rel_value rfl (.agg (wCells queryW none 0 0 none 0 0)) (by go_simp; rfl) rfl
    · exact rel_value rfl (.agg (wCells replW none 0 0 none 0 0)) (by go_simp; rfl) rfl
    · refine rel_exec rfl (.slice (some ⟨W.heap.size, 0, none⟩) 16 16) (W.alloc (.cells (Array.replicate 16 (.int .u8 0)) 5)) (by
        go_simp
        have h := run_make_rowN (P := Try.prog) 22 5 i0 _ Try.underlying22 hi0 hz0 .i64 .i64 16 16 (by omega) (by rw [hz2]; omega) (by omega) W
        rw [hz1] at h
        rw [show ((16 : Nat) : Int) = 16 from rfl] at h
        rw [h, show madeCells (Value.int .u8 0).cells (16 * 1) = Array.replicate 16 (.int .u8 0) from by kernel_rfl]
        rfl) ((Below.refl _ _).alloc (Nat.le_refl _) _) ⟨_, rfl, ?_⟩
      have h := reads_cells W (Array.replicate 16 (.int .u8 0)) 5
      exact h.more (by simp)
    · obtain ⟨A, e0, hr⟩ := (hd 4 (by kernel_rfl)).get 14 rfl rfl
      refine rel_value rfl (.agg (wCells writeW A 16 16 none 0 0)) (by go_simp; rfl) ⟨A, rfl, hr⟩
  intro f W hb hd
  have p0 : fieldsP 0 W (f 10) := hd 0 (by omega) _ 10 rfl rfl
  have p1 : fieldsP 1 W (f 11) := hd 1 (by omega) _ 11 rfl rfl
  have p2 : fieldsP 2 W (f 12) := hd 2 (by omega) _ 12 rfl rfl
  have p3 : fieldsP 3 W (f 13) := hd 3 (by omega) _ 13 rfl rfl
  have p5 : fieldsP 5 W (f 15) := hd 5 (by omega) _ 15 rfl rfl
  simp only [putAll, List.drop_succ_cons, List.drop_zero]
  obtain ⟨A1, c1, p1, hw1'⟩ := p1
  obtain ⟨A5, p5, hw5⟩ := p5
  unfold fieldsP at p0 p2 p3
  simp only at p0 p2 p3
  rw [p0, p1, p2, p3, p5]
  have HB2 := Lib.hid (HB1.out.trans (hb.mono hs1))
  have hsW := HB2.out.size
  clear p0 p1 p2 p3 p5 hd hb
  try simp only [Act.put, List.setIfInBounds_toArray, List.set_cons_zero, List.set_cons_succ]
  refine Great.wpList_buildSliceTo rfl 39 25 5 _ rfl W.heap.size rfl (some 16) rfl Try.underlying39 (cells5 A1 c1 A5) (by kernel_rfl) ?_
  try simp only [Act.put, List.setIfInBounds_toArray, List.set_cons_zero, List.set_cons_succ]
  have hk5 : Blk (W.alloc (.cells (cells5 A1 c1 A5) 25)) W.heap.size 25 (cells5 A1 c1 A5) := Blk.newAt rfl
  have hX5 : Below W.heap.size W (W.alloc (.cells (cells5 A1 c1 A5) 25)) := (Below.refl _ _).alloc (Nat.le_refl _) _
  have hin : WishesIn (W.alloc (.cells (cells5 A1 c1 A5) 25)) (W.heap.size + 1) (some ⟨W.heap.size, 0, none⟩) 5 fieldsL := by
    refine ⟨rfl, fun _ => ⟨_, rfl, by show W.heap.size < W.heap.size + 1; omega, fun k x hx => ?_⟩⟩
    obtain ⟨A, n, c, A', n', c', hcs, hwi⟩ := cells5_at hw1' hw5 k x hx
    exact ⟨A, n, c, A', n', c', fun j v hv => by rw [add_off, hk5.cell, Nat.zero_add]; exact hcs j v hv, (hwi.below hX5).more (by omega)⟩
  have HIN := Lib.hid hin
  have HB3 := Lib.hid (HB2.out.trans (hX5.mono hsW))
  have hs3 : (W.alloc (.cells (cells5 A1 c1 A5) 25)).heap.size = W.heap.size + 1 := by simp
  have HS3 := Lib.hid hs3
  obtain ⟨g5, hg5⟩ : ∃ g, g = W.heap.size := ⟨_, rfl⟩
  clear hin hk5 hX5 hs3
  rw [← hg5] at HIN HS3 ⊢
  have hg5w : w.heap.size ≤ g5 := by omega
  clear hg5
  generalize World.alloc W _ = w3 at HIN HB3 HS3 ⊢
  have hs3 := HS3.out
  have hs3' : g5 + 1 ≤ w3.heap.size := by omega
  clear hw1' hw5 hsW HB2 HB1 hs1 hs3 HS3
  go_wp2_with fail
  have hbr := bring_any kd 5 (by omega) (by unfold maxLen; omega) hk1 hk2 w3
  have hk5 := bringF_lt kd 5 (by omega)
  generalize bringF kd 5 = k at hbr hk5
  refine hbr.mono ?_
  rintro _ _ ⟨rfl, rfl⟩
  obtain ⟨x, hx⟩ : ∃ x, fieldsL[k]? = some x := ⟨_, List.getElem?_eq_getElem (by exact hk5)⟩
  have hmem : x ∈ fieldsL := List.mem_of_getElem? hx
  obtain ⟨ad, hA, hadb, hcell⟩ := HIN.out.2 (by omega)
  injection hA with hA
  subst hA
  obtain ⟨A1, n1, c1, A2, n2, c2, hcs, hwi⟩ := hcell k x hx
  have HCS := Lib.hid hcs
  have HWI := Lib.hid hwi
  have HM := Lib.hid (fields_may x hmem)
  clear hbr hx hmem hcell hcs hwi HIN
  go_upto_region 6 with (first
    | (refine wpList_load_cells (o := ⟨some 22, _, _, _, _, _⟩) rfl 25 (.tmp 21) rfl ⟨g5, k * 10, none⟩ 10 rfl (wCells x A1 n1 c1 A2 n2 c2) _ Try.underlying25 rfl rfl rfl (fun j v hv => by rw [add_off, show k * 10 + j = 0 + (10 * k + j) by omega, ← add_off]; exact HCS.out j v hv) ?_)
    | (refine wpList_store_part (o := ⟨none, _, _, _, _, _⟩) rfl 25 (.tmp 6) (.tmp 22) rfl w3.heap.size 0 (wCells x A1 n1 c1 A2 n2 c2) rfl rfl 25 (wCells zeroW none 0 0 none 0 0) (Blk.newAt rfl) (wCells_info _ _ _ _ _ _ _) (by simp [wCells]) (wCells_one _ _ _ _ _ _ _) ?_; intro w4 hT4 hD4; rw [spl_self _ _ (by simp [wCells])] at hD4))
  have hb4 : Below w3.heap.size w3 w4 := hT4.below ((Below.refl _ _).alloc (Nat.le_refl _) _) (Nat.le_refl _)
  have hs34 := hb4.size
  have HB4 := Lib.hid (HB3.out.trans (hb4.mono HB3.out.size))
  have hs4 := HB4.out.size
  obtain ⟨g6, hg6⟩ : ∃ g, g = w3.heap.size := ⟨_, rfl⟩
  rw [← hg6] at hD4 ⊢
  have HD4 := Lib.hid hD4
  have HW4 := Lib.hid ((HWI.out.below (hb4.mono hs3')).more (B' := w4.heap.size) (by omega))
  clear hT4 hD4 hb4 hg6 HCS HWI
  have hck := check_any x A1 n1 c1 A2 n2 c2 w4 _ HW4.out (Nat.le_refl _)
  rw [HM.out.1] at hck
  have HCK := Lib.hid hck
  clear hck
  go_wp2_with (refine wpList_load_part (o := ⟨some 23, _, _, _, _, _⟩) rfl 25 (.tmp 6) rfl g6 0 10 rfl 25 _ (wCells x A1 n1 c1 A2 n2 c2) _ HD4.out Try.underlying25 rfl rfl rfl (fun _ _ => by rw [Nat.zero_add]) ?_)
  refine HCK.out.mono ?_
  rintro _ w5 ⟨rfl, hb5⟩
  have HB5 := Lib.hid (HB4.out.trans (hb5.mono hs4))
  have HD5 := Lib.hid (HD4.out.under hb5)
  have HW5 := Lib.hid ((HW4.out.below hb5).more (B' := w5.heap.size) hb5.size)
  have hs5 := HB5.out.size
  clear hb5 HCK HD4 HW4
  go_wp2_with (refine wpList_load_part (o := ⟨some 26, _, _, _, _, _⟩) rfl 25 (.tmp 6) rfl g6 0 10 rfl 25 _ (wCells x A1 n1 c1 A2 n2 c2) _ HD5.out Try.underlying25 rfl rfl rfl (fun _ _ => by rw [Nat.zero_add]) ?_)
  refine (refCopy_any x A1 n1 c1 A2 n2 c2 w5 _ HW5.out (Nat.le_refl _)).mono ?_
  rintro _ w6 ⟨A3, n3, c3, A4, n4, c4, rfl, how, hb6⟩
  have HB6 := Lib.hid (HB5.out.trans (hb6.mono hs5))
  have hs6 := HB6.out.size
  have hs56 := hb6.size
  have HO6 := Lib.hid how
  have hap : ∀ b, (Value.slice A3 n3 c3).ownBlock = some b → (Value.slice A4 n4 c4).ownBlock = some b → False := fun b h1 h2 => how.apart b h1 h2
  have HAP := Lib.hid hap
  clear hap
  clear hb6 how HD5 HW5
  go_upto_region 9 with (refine wpList_store_part (o := ⟨none, _, _, _, _, _⟩) rfl 25 (.tmp 7) (.tmp 27) rfl w6.heap.size 0 (wCells x A3 n3 c3 A4 n4 c4) rfl rfl 25 (wCells zeroW none 0 0 none 0 0) (Blk.newAt rfl) (wCells_info _ _ _ _ _ _ _) (by simp [wCells]) (wCells_one _ _ _ _ _ _ _) ?_; intro w7 hT7 hD7; rw [spl_self _ _ (by simp [wCells])] at hD7)
  have hb7 : Below w6.heap.size w6 w7 := hT7.below ((Below.refl _ _).alloc (Nat.le_refl _) _) (Nat.le_refl _)
  have HB7 := Lib.hid (HB6.out.trans (hb7.mono hs6))
  have hs7 := HB7.out.size
  have hs67 := hb7.size
  obtain ⟨g7, hg7⟩ : ∃ g, g = w6.heap.size := ⟨_, rfl⟩
  have hne : ∀ b, (Value.slice A3 n3 c3).ownBlock = some b ∨ (Value.slice A4 n4 c4).ownBlock = some b → b ≠ g7 := fun b hb => by
    rcases hb with h | h
    · have := HO6.out.data.lt h; omega
    · have := own_lt HO6.out.next h; omega
  have HO7 := Lib.hid (HO6.out.keep (w' := w7) fun b _ hlt => hb7.block b hlt)
  rw [← hg7] at hD7 ⊢
  have HD7 := Lib.hid hD7
  have hg7lt := hD7.lt
  have HNE := Lib.hid hne
  have hg7w : w.heap.size ≤ g7 := by omega
  clear hT7 hD7 hb7 hg7 HO6 hne
  go_wp2_with fail
  have hbr := bring_any wh 5 (by omega) (by unfold maxLen; omega) hw1 hw2 w7
  have hk5' := bringF_lt wh 5 (by omega)
  generalize bringF wh 5 = k2 at hbr hk5'
  refine hbr.mono ?_
  rintro _ _ ⟨rfl, rfl⟩
  clear hbr
  obtain rfl | rfl | rfl | rfl | rfl : k2 = 0 ∨ k2 = 1 ∨ k2 = 2 ∨ k2 = 3 ∨ k2 = 4 := by omega
  · obtain ⟨j0, hj0, hy0, hy1, hy2⟩ := info_parts u8_info
    have hnl := HO7.out.is.dlen
    have hnb : n3 ≤ 4000 := by
      have hm1 := HM.out.1
      have hb := may_small hm1
      omega
    have hcw : w7.cell? ⟨g7, 6, none⟩ = some (.slice A3 n3 c3) := (HD7.out.cell 6).trans rfl
    have hX : Below w7.heap.size w7 (w7.alloc (.cells #[.int .u8 1] 5)) := (Below.refl _ _).alloc (Nat.le_refl _) _
    have hro := reads_cells w7 #[.int .u8 1] 5
    have hrow : (w7.alloc (.cells #[.int .u8 1] 5)).ownsRow w5.heap.size 5 1 (.slice A3 n3 c3) n3 (x.data.map vb) := by
      have h := HO7.out.keep (w' := w7.alloc (.cells #[.int .u8 1] 5)) (fun b _ hlt => hX.block b hlt)
      have h2 := h.data
      unfold OwnB at h2
      rw [hnl] at h2
      exact h2
    have HX := Lib.hid hX
    have HRO := Lib.hid hro
    have HROW := Lib.hid hrow
    have HNL := Lib.hid hnl
    clear hX hro hrow hnl
    go_wp2_with (at_builtin; go_must (refine wpList_append_any _ rfl (.tmp 34) (.tmp 35) 22 rfl w5.heap.size 5 j0 _ 1 1 Try.underlying22 hj0 hy0 hy1 hy2 rfl (by omega) (.slice A3 n3 c3) n3 (x.data.map vb) rfl HROW.out (w7.heap.size + 1) (some ⟨w7.heap.size, 0, none⟩) 1 1 [.int .u8 1] rfl HRO.out ?c1 ?c2 ?c3 ?c4 ?_))
    case c1 => simp [Value.oneCell']
    case c2 => unfold maxLen; omega
    case c3 => omega
    case c4 => simp; omega
    intro v9 w9 hown9 hg9 hor9
    have hsA : (w7.alloc (.cells #[.int .u8 1] 5)).heap.size = w7.heap.size + 1 := by simp
    have hg9s := hg9.size
    have hge : ∀ b, (Value.slice A3 n3 c3).ownBlock = some b → w5.heap.size ≤ b := fun b hb => (rowW_lt HROW.out hb).1
    have own9 : OwnB w9 w5.heap.size v9 (x.data ++ [1]) := by
      unfold OwnB
      rw [List.length_append, List.map_append, HNL.out]
      exact hown9
    obtain ⟨A9, c9, hv9, hc9, hcm9, _, _⟩ := own_slice_b own9
    obtain ⟨nl, hnl9⟩ : ∃ nl, nl = (x.data ++ [1]).length := ⟨_, rfl⟩
    rw [← hnl9] at hv9 hc9
    subst hv9
    have hnl10 : nl ≤ 5000 := by rw [hnl9, List.length_append, HNL.out]; simp; omega
    clear hnl9
    have hne9 : ∀ b, (Value.slice A9 nl c9).ownBlock = some b → b ≠ g7 := fun b hb => by
      rcases hor9 with e | e
      · rw [e] at hb; exact HNE.out b (.inl hb)
      · rw [e] at hb; injection hb with hb; omega
    have k9 : Blk w9 g7 25 (wCells x A3 n3 c3 A4 n4 c4) := (hg9.block g7 (by omega) (fun e => (HNE.out g7 (.inl e.symm)) rfl)).trans (HX.out.block g7 hg7lt |>.trans HD7.out)
    have cell9 : w9.cell? ⟨g7, 6, none⟩ = some (.slice A3 n3 c3) := (k9.cell 6).trans rfl
    have fw9 := k9.frozen 6
    obtain ⟨u9, hu9⟩ : ∃ u, u = Value.slice A9 nl c9 := ⟨_, rfl⟩
    have HB9 := Lib.hid ((grown_below (HB7.out.trans (HX.out.mono hs7)) (by omega) hg9 (fun b hb => by have := hge b hb; omega)).setCell (p := ⟨g7, 6, none⟩) (by show w.heap.size ≤ g7; omega) u9)
    have HD9 := Lib.hid (show Blk (w9.setCell ⟨g7, 6, none⟩ u9) g7 25 ((wCells x A3 n3 c3 A4 n4 c4).setIfInBounds 6 u9) from k9.set_ 6 u9)
    have HO9 := Lib.hid (show WishOwn (w9.setCell ⟨g7, 6, none⟩ u9) w5.heap.size { x with data := x.data ++ [1] } A9 nl c9 A4 n4 c4 from by
      have h := HO7.out
      have hoth : OwnN w9 w5.heap.size (.slice A4 n4 c4) x.next := own_keep h.next fun b hb => by
        have hlt := own_lt h.next hb
        refine (hg9.block b (by omega) (fun e => ?_)).trans (HX.out.block b hlt)
        exact HAP.out b e.symm hb
      exact ⟨own9.keep fun b hb => Below.heap_setCell w9 ⟨g7, 6, none⟩ u9 b (hne9 b hb), own_keep hoth fun b hb => Below.heap_setCell w9 ⟨g7, 6, none⟩ u9 b (HNE.out b (.inr hb)), by omega, h.nm, h.rng⟩)
    rw [hu9] at HB9 HD9 HO9
    clear hu9 hown9 hg9 hor9 own9 hne9 k9 hge hcw
    go_upto_region 19 with fail
    generalize w9.setCell _ _ = w10 at HD9 HO9 HB9 ⊢
    have HD10 := Lib.hid (show Blk w10 g7 25 (wCells { x with data := x.data ++ [1] } A9 nl c9 A4 n4 c4) from HD9.out)
    clear cell9 fw9 HD9
    have hck := check_any { x with data := x.data ++ [1] } A9 nl c9 A4 n4 c4 w10 _ HO9.out.is (Nat.le_refl _)
    rw [HM.out.2.1] at hck
    have HCK := Lib.hid hck
    clear hck
    go_wp2_with (refine wpList_load_part (o := ⟨some 51, _, _, _, _, _⟩) rfl 25 (.tmp 7) rfl g7 0 10 rfl 25 _ (wCells { x with data := x.data ++ [1] } A9 nl c9 A4 n4 c4) _ HD10.out Try.underlying25 rfl rfl rfl (fun _ _ => by rw [Nat.zero_add]) ?_)
    refine HCK.out.mono ?_
    rintro _ wz ⟨rfl, hbz⟩
    have HBZ := Lib.hid (HB9.out.trans (hbz.mono HB9.out.size))
    clear hbz HCK
    go_wp2_with fail
    go_ret
    exact ⟨rfl, HBZ.out⟩
  · obtain ⟨cw, hcw⟩ : ∃ z, z = x.old := ⟨_, rfl⟩
    have cell7 : w7.cell? ⟨g7, 7, none⟩ = some (.int .i64 cw) := by rw [hcw]; exact (HD7.out.cell 7).trans rfl
    have fw := HD7.out.frozen 7
    have HD8 := Lib.hid (show Blk (w7.setCell ⟨g7, 7, none⟩ (.int .i64 (40))) g7 25 (wCells { x with old := 40 } A3 n3 c3 A4 n4 c4) from HD7.out.set_ 7 (.int .i64 (40)))
    have HO8 := Lib.hid (show WishOwn (w7.setCell ⟨g7, 7, none⟩ (.int .i64 (40))) w5.heap.size { x with old := 40 } A3 n3 c3 A4 n4 c4 from by
      have h := HO7.out.keep' (w' := w7.setCell ⟨g7, 7, none⟩ (.int .i64 (40))) fun b hb => Below.heap_setCell w7 ⟨g7, 7, none⟩ (.int .i64 (40)) b (HNE.out b hb)
      obtain ⟨r1, r2, r3, r4, r5, r6, r7, r8, r9⟩ := h.rng
      exact ⟨h.data, h.next, h.dm, h.nm, r1, r2, r3, r4, r5, r6, (by unfold I64; simp), r8, r9⟩)
    have HB8 := Lib.hid (HB7.out.setCell (p := ⟨g7, 7, none⟩) (by show w.heap.size ≤ g7; omega) (.int .i64 (40)))
    clear hcw
    go_upto_region 19 with fail
    generalize w7.setCell _ _ = w8 at HD8 HO8 HB8 ⊢
    clear cell7 fw
    have hck := check_any { x with old := 40 } A3 n3 c3 A4 n4 c4 w8 _ HO8.out.is (Nat.le_refl _)
    rw [HM.out.2.2.1] at hck
    have HCK := Lib.hid hck
    clear hck
    go_wp2_with (refine wpList_load_part (o := ⟨some 51, _, _, _, _, _⟩) rfl 25 (.tmp 7) rfl g7 0 10 rfl 25 _ (wCells { x with old := 40 } A3 n3 c3 A4 n4 c4) _ HD8.out Try.underlying25 rfl rfl rfl (fun _ _ => by rw [Nat.zero_add]) ?_)
    refine HCK.out.mono ?_
    rintro _ wz ⟨rfl, hbz⟩
    have HBZ := Lib.hid (HB8.out.trans (hbz.mono HB8.out.size))
    clear hbz HCK
    go_wp2_with fail
    go_ret
    exact ⟨rfl, HBZ.out⟩
  · obtain ⟨cw, hcw⟩ : ∃ z, z = x.new := ⟨_, rfl⟩
    have cell7 : w7.cell? ⟨g7, 8, none⟩ = some (.int .i64 cw) := by rw [hcw]; exact (HD7.out.cell 8).trans rfl
    have fw := HD7.out.frozen 8
    have HD8 := Lib.hid (show Blk (w7.setCell ⟨g7, 8, none⟩ (.int .i64 (-1))) g7 25 (wCells { x with new := -1 } A3 n3 c3 A4 n4 c4) from HD7.out.set_ 8 (.int .i64 (-1)))
    have HO8 := Lib.hid (show WishOwn (w7.setCell ⟨g7, 8, none⟩ (.int .i64 (-1))) w5.heap.size { x with new := -1 } A3 n3 c3 A4 n4 c4 from by
      have h := HO7.out.keep' (w' := w7.setCell ⟨g7, 8, none⟩ (.int .i64 (-1))) fun b hb => Below.heap_setCell w7 ⟨g7, 8, none⟩ (.int .i64 (-1)) b (HNE.out b hb)
      obtain ⟨r1, r2, r3, r4, r5, r6, r7, r8, r9⟩ := h.rng
      exact ⟨h.data, h.next, h.dm, h.nm, r1, r2, r3, r4, r5, r6, r7, (by unfold I64; simp), r9⟩)
    have HB8 := Lib.hid (HB7.out.setCell (p := ⟨g7, 8, none⟩) (by show w.heap.size ≤ g7; omega) (.int .i64 (-1)))
    clear hcw
    go_upto_region 19 with fail
    generalize w7.setCell _ _ = w8 at HD8 HO8 HB8 ⊢
    clear cell7 fw
    have hck := check_any { x with new := -1 } A3 n3 c3 A4 n4 c4 w8 _ HO8.out.is (Nat.le_refl _)
    rw [HM.out.2.2.2.1] at hck
    have HCK := Lib.hid hck
    clear hck
    go_wp2_with (refine wpList_load_part (o := ⟨some 51, _, _, _, _, _⟩) rfl 25 (.tmp 7) rfl g7 0 10 rfl 25 _ (wCells { x with new := -1 } A3 n3 c3 A4 n4 c4) _ HD8.out Try.underlying25 rfl rfl rfl (fun _ _ => by rw [Nat.zero_add]) ?_)
    refine HCK.out.mono ?_
    rintro _ wz ⟨rfl, hbz⟩
    have HBZ := Lib.hid (HB8.out.trans (hbz.mono HB8.out.size))
    clear hbz HCK
    go_wp2_with fail
    go_ret
    exact ⟨rfl, HBZ.out⟩
  · obtain ⟨j0, hj0, hy0, hy1, hy2⟩ := info_parts ci_info
    have hnl := HO7.out.is.nlen
    have hnb : n4 ≤ 4000 := by
      have hm1 := HM.out.1
      have hb := may_small hm1
      omega
    have hcw : w7.cell? ⟨g7, 9, none⟩ = some (.slice A4 n4 c4) := (HD7.out.cell 9).trans rfl
    have hX : Below w7.heap.size w7 (w7.alloc (.cells #[.int .i64 28] 3)) := (Below.refl _ _).alloc (Nat.le_refl _) _
    have hro := reads_cells w7 #[.int .i64 28] 3
    have hrow : (w7.alloc (.cells #[.int .i64 28] 3)).ownsRow w5.heap.size 3 1 (.slice A4 n4 c4) n4 (x.next.map vn) := by
      have h := HO7.out.keep (w' := w7.alloc (.cells #[.int .i64 28] 3)) (fun b _ hlt => hX.block b hlt)
      have h2 := h.next
      unfold OwnN at h2
      rw [hnl] at h2
      exact h2
    have HX := Lib.hid hX
    have HRO := Lib.hid hro
    have HROW := Lib.hid hrow
    have HNL := Lib.hid hnl
    clear hX hro hrow hnl
    go_wp2_with (at_builtin; go_must (refine wpList_append_any _ rfl (.tmp 47) (.tmp 48) 23 rfl w5.heap.size 3 j0 _ 1 8 Try.underlying23 hj0 hy0 hy1 hy2 rfl (by omega) (.slice A4 n4 c4) n4 (x.next.map vn) rfl HROW.out (w7.heap.size + 1) (some ⟨w7.heap.size, 0, none⟩) 1 1 [.int .i64 28] rfl HRO.out ?c1 ?c2 ?c3 ?c4 ?_))
    case c1 => simp [Value.oneCell']
    case c2 => unfold maxLen; omega
    case c3 => omega
    case c4 => simp; omega
    intro v9 w9 hown9 hg9 hor9
    have hsA : (w7.alloc (.cells #[.int .i64 28] 3)).heap.size = w7.heap.size + 1 := by simp
    have hg9s := hg9.size
    have hge : ∀ b, (Value.slice A4 n4 c4).ownBlock = some b → w5.heap.size ≤ b := fun b hb => (rowW_lt HROW.out hb).1
    have own9 : OwnN w9 w5.heap.size v9 (x.next ++ [28]) := by
      unfold OwnN
      rw [List.length_append, List.map_append, HNL.out]
      exact hown9
    obtain ⟨A9, c9, hv9, hc9, hcm9, _, _⟩ := own_slice_n own9
    obtain ⟨nl, hnl9⟩ : ∃ nl, nl = (x.next ++ [28]).length := ⟨_, rfl⟩
    rw [← hnl9] at hv9 hc9
    subst hv9
    have hnl10 : nl ≤ 5000 := by rw [hnl9, List.length_append, HNL.out]; simp; omega
    clear hnl9
    have hne9 : ∀ b, (Value.slice A9 nl c9).ownBlock = some b → b ≠ g7 := fun b hb => by
      rcases hor9 with e | e
      · rw [e] at hb; exact HNE.out b (.inr hb)
      · rw [e] at hb; injection hb with hb; omega
    have k9 : Blk w9 g7 25 (wCells x A3 n3 c3 A4 n4 c4) := (hg9.block g7 (by omega) (fun e => (HNE.out g7 (.inr e.symm)) rfl)).trans (HX.out.block g7 hg7lt |>.trans HD7.out)
    have cell9 : w9.cell? ⟨g7, 9, none⟩ = some (.slice A4 n4 c4) := (k9.cell 9).trans rfl
    have fw9 := k9.frozen 9
    obtain ⟨u9, hu9⟩ : ∃ u, u = Value.slice A9 nl c9 := ⟨_, rfl⟩
    have HB9 := Lib.hid ((grown_below (HB7.out.trans (HX.out.mono hs7)) (by omega) hg9 (fun b hb => by have := hge b hb; omega)).setCell (p := ⟨g7, 9, none⟩) (by show w.heap.size ≤ g7; omega) u9)
    have HD9 := Lib.hid (show Blk (w9.setCell ⟨g7, 9, none⟩ u9) g7 25 ((wCells x A3 n3 c3 A4 n4 c4).setIfInBounds 9 u9) from k9.set_ 9 u9)
    have HO9 := Lib.hid (show WishOwn (w9.setCell ⟨g7, 9, none⟩ u9) w5.heap.size { x with next := x.next ++ [28] } A3 n3 c3 A9 nl c9 from by
      have h := HO7.out
      have hoth : OwnB w9 w5.heap.size (.slice A3 n3 c3) x.data := h.data.keep fun b hb => by
        have hlt := h.data.lt hb
        refine (hg9.block b (by omega) (fun e => ?_)).trans (HX.out.block b hlt)
        exact HAP.out b hb e.symm
      obtain ⟨r1, r2, r3, r4, r5, r6, r7, r8, r9⟩ := h.rng
      exact ⟨hoth.keep fun b hb => Below.heap_setCell w9 ⟨g7, 9, none⟩ u9 b (HNE.out b (.inl hb)), own_keep own9 fun b hb => Below.heap_setCell w9 ⟨g7, 9, none⟩ u9 b (hne9 b hb), h.dm, by omega, r1, r2, r3, r4, r5, r6, r7, r8, fun z hz => by
        rcases List.mem_append.1 hz with e | e
        · exact r9 z e
        · rw [List.mem_singleton] at e; subst e; unfold I64; omega⟩)
    rw [hu9] at HB9 HD9 HO9
    clear hu9 hown9 hg9 hor9 own9 hne9 k9 hge hcw
    go_upto_region 19 with fail
    generalize w9.setCell _ _ = w10 at HD9 HO9 HB9 ⊢
    have HD10 := Lib.hid (show Blk w10 g7 25 (wCells { x with next := x.next ++ [28] } A3 n3 c3 A9 nl c9) from HD9.out)
    clear cell9 fw9 HD9
    have hck := check_any { x with next := x.next ++ [28] } A3 n3 c3 A9 nl c9 w10 _ HO9.out.is (Nat.le_refl _)
    rw [HM.out.2.2.2.2.1] at hck
    have HCK := Lib.hid hck
    clear hck
    go_wp2_with (refine wpList_load_part (o := ⟨some 51, _, _, _, _, _⟩) rfl 25 (.tmp 7) rfl g7 0 10 rfl 25 _ (wCells { x with next := x.next ++ [28] } A3 n3 c3 A9 nl c9) _ HD10.out Try.underlying25 rfl rfl rfl (fun _ _ => by rw [Nat.zero_add]) ?_)
    refine HCK.out.mono ?_
    rintro _ wz ⟨rfl, hbz⟩
    have HBZ := Lib.hid (HB9.out.trans (hbz.mono HB9.out.size))
    clear hbz HCK
    go_wp2_with fail
    go_ret
    exact ⟨rfl, HBZ.out⟩
  · obtain ⟨cw, hcw⟩ : ∃ z, z = x.epoch := ⟨_, rfl⟩
    have cell7 : w7.cell? ⟨g7, 3, none⟩ = some (.int .i64 cw) := by rw [hcw]; exact (HD7.out.cell 3).trans rfl
    have fw := HD7.out.frozen 3
    have HD8 := Lib.hid (show Blk (w7.setCell ⟨g7, 3, none⟩ (.int .i64 (1048577))) g7 25 (wCells { x with epoch := 1048577 } A3 n3 c3 A4 n4 c4) from HD7.out.set_ 3 (.int .i64 (1048577)))
    have HO8 := Lib.hid (show WishOwn (w7.setCell ⟨g7, 3, none⟩ (.int .i64 (1048577))) w5.heap.size { x with epoch := 1048577 } A3 n3 c3 A4 n4 c4 from by
      have h := HO7.out.keep' (w' := w7.setCell ⟨g7, 3, none⟩ (.int .i64 (1048577))) fun b hb => Below.heap_setCell w7 ⟨g7, 3, none⟩ (.int .i64 (1048577)) b (HNE.out b hb)
      obtain ⟨r1, r2, r3, r4, r5, r6, r7, r8, r9⟩ := h.rng
      exact ⟨h.data, h.next, h.dm, h.nm, r1, r2, r3, (by unfold I64; simp), r5, r6, r7, r8, r9⟩)
    have HB8 := Lib.hid (HB7.out.setCell (p := ⟨g7, 3, none⟩) (by show w.heap.size ≤ g7; omega) (.int .i64 (1048577)))
    clear hcw
    go_upto_region 19 with fail
    generalize w7.setCell _ _ = w8 at HD8 HO8 HB8 ⊢
    clear cell7 fw
    have hck := check_any { x with epoch := 1048577 } A3 n3 c3 A4 n4 c4 w8 _ HO8.out.is (Nat.le_refl _)
    rw [HM.out.2.2.2.2.2] at hck
    have HCK := Lib.hid hck
    clear hck
    go_wp2_with (refine wpList_load_part (o := ⟨some 51, _, _, _, _, _⟩) rfl 25 (.tmp 7) rfl g7 0 10 rfl 25 _ (wCells { x with epoch := 1048577 } A3 n3 c3 A4 n4 c4) _ HD8.out Try.underlying25 rfl rfl rfl (fun _ _ => by rw [Nat.zero_add]) ?_)
    refine HCK.out.mono ?_
    rintro _ wz ⟨rfl, hbz⟩
    have HBZ := Lib.hid (HB8.out.trans (hbz.mono HB8.out.size))
    clear hbz HCK
    go_wp2_with fail
    go_ret
    exact ⟨rfl, HBZ.out⟩

end Go.Proofs.Ytiomahognfmpgaa
