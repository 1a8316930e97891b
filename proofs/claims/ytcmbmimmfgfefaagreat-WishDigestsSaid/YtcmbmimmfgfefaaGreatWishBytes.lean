/-
  Contracts of wish.Check, wish.Bytes.
-/
import Derived.Test.YtcmbmimmfgfefaaGreatWishVal
namespace Go.Proofs.YtcmbmimmfgfefaaGreat
set_option linter.unusedVariables false
open Go.RowKit

def numsI (l : List Int) : List UInt8 := l.flatMap fun z => numB z.toNat
def wishB (x : Wish) : List UInt8 := numsI [x.kind, x.client, x.stamp, x.group, x.epoch, x.block] ++ strB x.data ++ numsI [x.old, x.new, (x.next.length : Int)] ++ numsI x.next
def NumI (z : Int) : Prop := 0 ≤ z ∧ z ≤ 9007199254740991

theorem rising_num : ∀ (l : List Int) (a : Int), 0 ≤ a → risingB a l = true → ∀ z, z ∈ l → 1 ≤ z ∧ z ≤ 28
  | [], _, _, _, z, hz => by cases hz
  | n :: t, a, ha, h, z, hz => by
    simp only [risingB, Bool.and_eq_true, decide_eq_true_eq] at h
    rcases List.mem_cons.1 hz with rfl | hz
    · exact ⟨by omega, h.1.2⟩
    · exact rising_num t n (by omega) h.2 z hz
theorem may_nums {x : Wish} (h : mayB x = true) : (∀ z, z ∈ [x.kind, x.client, x.stamp, x.group, x.epoch, x.block] → NumI z) ∧ (∀ z, z ∈ [x.old, x.new, (x.next.length : Int)] → NumI z) ∧ (∀ z, z ∈ x.next → NumI z) ∧ x.data.length ≤ 16 ∧ x.next.length ≤ 7 := by
  have hm : MayP x := of_decide_eq_true h
  unfold MayP at hm
  have hc : crewB x.next = true → (∀ z, z ∈ x.next → NumI z) ∧ x.next.length ≤ 7 := fun hc => by
    unfold crewB at hc
    rw [Bool.and_eq_true, decide_eq_true_eq] at hc
    exact ⟨fun z hz => by have := rising_num _ 0 (by omega) hc.2 z hz; unfold NumI; omega, hc.1.2⟩
  have hn : x.next.length = 0 → (∀ z, z ∈ x.next → NumI z) := fun h0 z hz => by rw [List.eq_nil_of_length_eq_zero h0] at hz; cases hz
  have h3 : (∀ z, z ∈ x.next → NumI z) ∧ x.next.length ≤ 7 := by
    rcases hm.2.2 with h1 | h1
    · exact hc h1.2.2.2.2.2.2.2.2.2
    · exact ⟨hn h1.2.2.2.2.2.1, by omega⟩
  refine ⟨?_, ?_, h3.1, by omega, h3.2⟩
  · intro z hz
    unfold NumI
    simp only [List.mem_cons, List.not_mem_nil, or_false] at hz
    omega
  · intro z hz
    unfold NumI
    have := h3.2
    simp only [List.mem_cons, List.not_mem_nil, or_false] at hz
    omega
theorem numsI_any (A : Option Addr) (n c : Nat) (zs : List Int) (w : World) (B : Nat) (h : Reads w B 1 A n (zs.map vn)) (hB : B ≤ w.heap.size) (hn : n ≤ 1000000) (hm : ∀ z, z ∈ zs → NumI z) :
    Calls Tryz.prog 31 #[.slice A n c] w fun e w' => ∃ v, e = .returned v ∧ OwnB w' w.heap.size v (numsI zs) ∧ Below w.heap.size w w' := by
  have e : zs.map vn = (zs.map Int.toNat).map fun x : Nat => Value.int .i64 (x : Int) := by
    rw [List.map_map]
    apply List.map_congr_left
    intro z hz
    have := hm z hz
    unfold NumI at this
    simp [vn]
    omega
  rw [e] at h
  have e2 : numsI zs = (zs.map Int.toNat).flatMap numB := by unfold numsI; rw [List.flatMap_map]
  rw [e2]
  exact nums_any A n c _ w B h hB hn (fun x hx => by
    obtain ⟨z, hz, rfl⟩ := List.mem_map.1 hx
    have := hm z hz
    unfold NumI at this
    unfold maxN
    omega)
theorem numsI_len {l : List Int} (h : ∀ z, z ∈ l → NumI z) : (numsI l).length ≤ 8 * l.length := by
  unfold numsI
  induction l with
  | nil => simp
  | cons a t ih =>
    have h1 := h a (by simp)
    unfold NumI at h1
    have h2 := (numB_len (n := a.toNat) (by unfold maxN; omega)).2
    have h3 := ih (fun z hz => h z (by simp [hz]))
    rw [List.flatMap_cons, List.length_append, List.length_cons]
    omega
theorem reads_cells (w : World) (vs : Array Value) (t : TypeId) : Reads (w.alloc (.cells vs t)) (w.heap.size + 1) 1 (some ⟨w.heap.size, 0, none⟩) vs.size vs.toList := by
  refine ⟨by simp, fun _ => ⟨_, rfl, Nat.lt_succ_self _, fun j u hu => ?_⟩⟩
  have hk : Blk (w.alloc (.cells vs t)) w.heap.size t vs := Blk.newAt rfl
  have := hk.cell j
  rw [Array.getElem?_toList] at hu
  rw [hu] at this
  unfold Addr.add
  split
  · rename_i h0; subst h0; exact this
  · simpa using this
theorem lasts_lit (m : Nat) (l : List Value) : Lasts fun W v => ∃ g', v = .slice (some ⟨g', 0, none⟩) m m ∧ Reads W W.heap.size 1 (some ⟨g', 0, none⟩) m l := fun W W' v ⟨g', e, h⟩ hb => ⟨g', e, (h.below hb).more hb.size⟩
/-- slices laid out in a new block -/
theorem rowsB_lit (w : World) (t : TypeId) (l : List (Option Addr × Nat × Nat × List UInt8)) (h : ∀ p, p ∈ l → Reads w w.heap.size 1 p.1 p.2.1 (p.2.2.2.map vb)) :
    RowsB (w.alloc (.cells (l.map fun p => Value.slice p.1 p.2.1 p.2.2.1).toArray t)) (w.heap.size + 1) (some ⟨w.heap.size, 0, none⟩) l.length (l.map (·.2.2.2)) := by
  have hb : Below w.heap.size w (w.alloc (.cells (l.map fun p => Value.slice p.1 p.2.1 p.2.2.1).toArray t)) := (Below.refl _ _).alloc (Nat.le_refl _) _
  have hr := reads_cells w (l.map fun p => Value.slice p.1 p.2.1 p.2.2.1).toArray t
  refine ⟨by simp, fun h0 => ⟨_, rfl, Nat.lt_succ_self _, fun k x hx => ?_⟩⟩
  obtain ⟨ad, hA, _, hc⟩ := hr.2 (by simpa using h0)
  injection hA with hA
  subst hA
  rw [List.getElem?_map] at hx
  cases hp : l[k]? with
  | none => rw [hp] at hx; cases hx
  | some p =>
    rw [hp] at hx
    injection hx with hx
    refine ⟨p.1, p.2.1, p.2.2.1, hc k _ (by simp [hp]), ?_⟩
    rw [← hx]
    exact ((h p (List.mem_of_getElem? hp)).below hb).more (by omega)

set_option maxRecDepth 100000 in
set_option maxHeartbeats 1000000 in
theorem check_any (x : Wish) (A : Option Addr) (n c : Nat) (A' : Option Addr) (n' c' : Nat) (w : World) (B : Nat) (h : WishIn w B x A n c A' n' c') (hB : B ≤ w.heap.size) :
    Calls Tryz.prog 28 #[.agg (wCells x A n c A' n' c')] w fun e w' => e = .returned (.int .i64 (if mayB x = true then 0 else 2)) ∧ Below w.heap.size w w' := by
  have HM := Lib.hid (fun W (hb : Below w.heap.size w W) => may_any x A n c A' n' c' W B (h.below (hb.mono hB)) (by have := hb.size; omega))
  clear h
  obtain ⟨mb, hmb⟩ : ∃ b, b = mayB x := ⟨_, rfl⟩
  rw [← hmb] at HM ⊢
  clear hmb
  unfold wCells at HM ⊢
  go_enter Tryz.func28, Tryz.ntmps28
  go_wp2_with fail
  have hb : Below w.heap.size w (w.alloc (.cells #[.int .i64 x.client, .int .i64 x.stamp, .int .i64 x.group, .int .i64 x.epoch, .int .i64 x.kind, .int .i64 x.block, .slice A n c, .int .i64 x.old, .int .i64 x.new, .slice A' n' c'] 25)) := (Below.refl _ _).alloc (Nat.le_refl _) _
  refine (HM.out _ hb).mono ?_
  rintro _ w2 ⟨rfl, hb2⟩
  have HB2 := Lib.hid (hb.trans (hb2.mono (by simp)))
  clear hb hb2
  cases mb with
  | true =>
    go_wp2_with fail
    go_ret
    exact ⟨rfl, HB2.out⟩
  | false =>
    go_wp2_with fail
    go_ret
    exact ⟨rfl, HB2.out⟩

set_option maxRecDepth 100000 in
set_option maxHeartbeats 4000000 in
theorem bytes_any (x : Wish) (A : Option Addr) (n c : Nat) (A' : Option Addr) (n' c' : Nat) (w : World) (B : Nat) (h : WishIn w B x A n c A' n' c') (hB : B ≤ w.heap.size) :
    Calls Tryz.prog 15 #[.agg (wCells x A n c A' n' c')] w fun e w' => ∃ v, e = .returned (.tuple #[v, .int .i64 (if mayB x = true then 0 else 2)]) ∧ OwnB w' w.heap.size v (if mayB x = true then wishB x else []) ∧ Below w.heap.size w w' := by
  have H := Lib.hid h
  have HC := Lib.hid (fun W (hb : Below w.heap.size w W) => check_any x A n c A' n' c' W B (h.below (hb.mono hB)) (by have := hb.size; omega))
  have hdl := h.dlen
  have hnl := h.nlen
  have HDL := Lib.hid hdl
  have HNL := Lib.hid hnl
  clear h hdl hnl
  obtain ⟨mb, hmb⟩ : ∃ b, b = mayB x := ⟨_, rfl⟩
  rw [← hmb] at HC ⊢
  have HMB := Lib.hid hmb
  clear hmb
  unfold wCells at HC ⊢
  go_enter Tryz.func15, Tryz.ntmps15
  go_wp2_with fail
  have hb : Below w.heap.size w (w.alloc (.cells #[.int .i64 x.client, .int .i64 x.stamp, .int .i64 x.group, .int .i64 x.epoch, .int .i64 x.kind, .int .i64 x.block, .slice A n c, .int .i64 x.old, .int .i64 x.new, .slice A' n' c'] 25)) := (Below.refl _ _).alloc (Nat.le_refl _) _
  have hk := Blk.new w 25 #[.int .i64 x.client, .int .i64 x.stamp, .int .i64 x.group, .int .i64 x.epoch, .int .i64 x.kind, .int .i64 x.block, .slice A n c, .int .i64 x.old, .int .i64 x.new, .slice A' n' c']
  obtain ⟨g, hg⟩ : ∃ g, g = w.heap.size := ⟨_, rfl⟩
  rw [← hg] at hk ⊢
  clear hg
  refine (HC.out _ hb).mono ?_
  rintro _ w2 ⟨rfl, hb2⟩
  have HK2 := Lib.hid (hk.under hb2)
  have HB2 := Lib.hid (hb.trans (hb2.mono (by simp)))
  clear hb hb2 hk
  cases mb with
  | false =>
    go_wp2_with fail
    go_ret2
    exact ⟨_, rfl, OwnB.nil _ _, HB2.out⟩
  | true =>
    obtain ⟨hn6, hn3, hnx, hd16, hnx7⟩ := may_nums HMB.out.symm
    have HN6 := Lib.hid hn6
    have HN3 := Lib.hid (show ∀ z, z ∈ [x.old, x.new, (n' : Int)] → NumI z by rw [← HNL.out]; exact hn3)
    have HNN := Lib.hid hnx
    rw [HDL.out] at hd16
    rw [HNL.out] at hnx7
    clear hn6 hn3 hnx
    have c6 := Blk.cell HK2.out 6
    simp only [List.getElem?_toArray, List.getElem?_cons_zero, List.getElem?_cons_succ] at c6
    have hs2 := HB2.out.size
    go_wp2_with fail
    refine (str_any A n c x.data w2 B (H.out.data.below (HB2.out.mono hB)) (by omega) (by omega)).mono ?_
    rintro _ w3 ⟨v5, rfl, ho5, hb3⟩
    have hs3 := hb3.size
    have HO5 := Lib.hid ho5
    have HB3 := Lib.hid (HB2.out.trans (hb3.mono hs2))
    have hk3 := HK2.out.under hb3
    have HNX := Lib.hid (fun W (hb : Below w3.heap.size w3 W) => H.out.next.below ((HB3.out.trans (hb.mono (by omega))).mono hB))
    clear c6 ho5 hb3
    have HC0 := Lib.hid (fun W (hb : Below w3.heap.size w3 W) => (show W.cell? ⟨g, 0, none⟩ = some (.int .i64 x.client) from ((hk3.under hb).cell 0).trans rfl))
    have HC1 := Lib.hid (fun W (hb : Below w3.heap.size w3 W) => (show W.cell? ⟨g, 1, none⟩ = some (.int .i64 x.stamp) from ((hk3.under hb).cell 1).trans rfl))
    have HC2 := Lib.hid (fun W (hb : Below w3.heap.size w3 W) => (show W.cell? ⟨g, 2, none⟩ = some (.int .i64 x.group) from ((hk3.under hb).cell 2).trans rfl))
    have HC3 := Lib.hid (fun W (hb : Below w3.heap.size w3 W) => (show W.cell? ⟨g, 3, none⟩ = some (.int .i64 x.epoch) from ((hk3.under hb).cell 3).trans rfl))
    have HC4 := Lib.hid (fun W (hb : Below w3.heap.size w3 W) => (show W.cell? ⟨g, 4, none⟩ = some (.int .i64 x.kind) from ((hk3.under hb).cell 4).trans rfl))
    have HC5 := Lib.hid (fun W (hb : Below w3.heap.size w3 W) => (show W.cell? ⟨g, 5, none⟩ = some (.int .i64 x.block) from ((hk3.under hb).cell 5).trans rfl))
    have HC6 := Lib.hid (fun W (hb : Below w3.heap.size w3 W) => (show W.cell? ⟨g, 6, none⟩ = some (.slice A n c) from ((hk3.under hb).cell 6).trans rfl))
    have HC7 := Lib.hid (fun W (hb : Below w3.heap.size w3 W) => (show W.cell? ⟨g, 7, none⟩ = some (.int .i64 x.old) from ((hk3.under hb).cell 7).trans rfl))
    have HC8 := Lib.hid (fun W (hb : Below w3.heap.size w3 W) => (show W.cell? ⟨g, 8, none⟩ = some (.int .i64 x.new) from ((hk3.under hb).cell 8).trans rfl))
    have HC9 := Lib.hid (fun W (hb : Below w3.heap.size w3 W) => (show W.cell? ⟨g, 9, none⟩ = some (.slice A' n' c') from ((hk3.under hb).cell 9).trans rfl))
    clear hk3
    go_upto_region 7 with fail
    refine wp_region_rel' 27 50 (fun j W v => match j with
      | 0 => v = .pointer (some ⟨g, 4, none⟩)
      | 1 => v = .int .i64 x.kind
      | 2 => v = .pointer (some ⟨g, 0, none⟩)
      | 3 => v = .int .i64 x.client
      | 4 => v = .pointer (some ⟨g, 1, none⟩)
      | 5 => v = .int .i64 x.stamp
      | 6 => v = .pointer (some ⟨g, 2, none⟩)
      | 7 => v = .int .i64 x.group
      | 8 => v = .pointer (some ⟨g, 3, none⟩)
      | 9 => v = .int .i64 x.epoch
      | 10 => v = .pointer (some ⟨g, 5, none⟩)
      | 11 => v = .int .i64 x.block
      | 12 => ∃ g', v = .slice (some ⟨g', 0, none⟩) 6 6 ∧ Reads W W.heap.size 1 (some ⟨g', 0, none⟩) 6 [.int .i64 x.kind, .int .i64 x.client, .int .i64 x.stamp, .int .i64 x.group, .int .i64 x.epoch, .int .i64 x.block]
      | 13 => OwnB W w3.heap.size v (numsI [x.kind, x.client, x.stamp, x.group, x.epoch, x.block])
      | 14 => v = v5
      | 15 => v = .pointer (some ⟨g, 7, none⟩)
      | 16 => v = .int .i64 x.old
      | 17 => v = .pointer (some ⟨g, 8, none⟩)
      | 18 => v = .int .i64 x.new
      | 19 => v = .pointer (some ⟨g, 9, none⟩)
      | 20 => v = .slice A' n' c'
      | 21 => v = .int .i64 (n' : Int)
      | 22 => ∃ g', v = .slice (some ⟨g', 0, none⟩) 3 3 ∧ Reads W W.heap.size 1 (some ⟨g', 0, none⟩) 3 [.int .i64 x.old, .int .i64 x.new, .int .i64 (n' : Int)]
      | 23 => OwnB W w3.heap.size v (numsI [x.old, x.new, (n' : Int)])
      | 24 => v = .pointer (some ⟨g, 9, none⟩)
      | 25 => v = .slice A' n' c'
      | _ => OwnB W w3.heap.size v (numsI x.next)) [21, 22, 23, 24, 25, 26, 27, 28, 29, 30, 31, 32, 33, 34, 35, 36, 37, 38, 39, 40, 41, 42, 43, 44, 45, 46, 47] (by kernel_rfl) (by kernel_rfl) (by kernel_rfl) (by simp) (by kernel_rfl) (fun j => ?last) ?heads ?_
    case last =>
      match j with
      | 0 | 1 | 2 | 3 | 4 | 5 | 6 | 7 | 8 | 9 | 10 | 11 | 14 | 15 | 16 | 17 | 18 | 19 | 20 | 21 | 24 | 25 => exact Lasts.pure _
      | 12 => exact lasts_lit _ _
      | 13 => exact lasts_own _ _
      | 22 => exact lasts_lit _ _
      | 23 => exact lasts_own _ _
      | j + 26 => exact lasts_own _ _
    case heads =>
      simp only [List.take_succ_cons, List.take_zero]
      refine ⟨fun a W hb hkp hd => ?_, fun a W hb hkp hd => ?_, fun a W hb hkp hd => ?_, fun a W hb hkp hd => ?_, fun a W hb hkp hd => ?_, fun a W hb hkp hd => ?_, fun a W hb hkp hd => ?_, fun a W hb hkp hd => ?_, fun a W hb hkp hd => ?_, fun a W hb hkp hd => ?_, fun a W hb hkp hd => ?_, fun a W hb hkp hd => ?_, fun a W hb hkp hd => ?_, fun a W hb hkp hd => ?_, fun a W hb hkp hd => ?_, fun a W hb hkp hd => ?_, fun a W hb hkp hd => ?_, fun a W hb hkp hd => ?_, fun a W hb hkp hd => ?_, fun a W hb hkp hd => ?_, fun a W hb hkp hd => ?_, fun a W hb hkp hd => ?_, fun a W hb hkp hd => ?_, fun a W hb hkp hd => ?_, fun a W hb hkp hd => ?_, fun a W hb hkp hd => ?_, fun a W hb hkp hd => ?_, trivial⟩
      · have e0 : a.tmps[1]?.getD undef = .pointer (some ⟨g, 0, none⟩) := hkp.get (by kernel_rfl) rfl
        exact rel_value rfl (.pointer (some ⟨g, 4, none⟩)) (by go_simp) rfl
      · have e0 : a.tmps[21]?.getD undef = .pointer (some ⟨g, 4, none⟩) := (hd 0 (by kernel_rfl)).get 21 rfl rfl
        have cc := HC4.out W hb
        exact rel_value rfl (.int .i64 x.kind) (by go_simp) rfl
      · have e0 : a.tmps[1]?.getD undef = .pointer (some ⟨g, 0, none⟩) := hkp.get (by kernel_rfl) rfl
        exact rel_value rfl (.pointer (some ⟨g, 0, none⟩)) (by go_simp) rfl
      · have e0 : a.tmps[23]?.getD undef = .pointer (some ⟨g, 0, none⟩) := (hd 2 (by kernel_rfl)).get 23 rfl rfl
        have cc := HC0.out W hb
        exact rel_value rfl (.int .i64 x.client) (by go_simp) rfl
      · have e0 : a.tmps[1]?.getD undef = .pointer (some ⟨g, 0, none⟩) := hkp.get (by kernel_rfl) rfl
        exact rel_value rfl (.pointer (some ⟨g, 1, none⟩)) (by go_simp) rfl
      · have e0 : a.tmps[25]?.getD undef = .pointer (some ⟨g, 1, none⟩) := (hd 4 (by kernel_rfl)).get 25 rfl rfl
        have cc := HC1.out W hb
        exact rel_value rfl (.int .i64 x.stamp) (by go_simp) rfl
      · have e0 : a.tmps[1]?.getD undef = .pointer (some ⟨g, 0, none⟩) := hkp.get (by kernel_rfl) rfl
        exact rel_value rfl (.pointer (some ⟨g, 2, none⟩)) (by go_simp) rfl
      · have e0 : a.tmps[27]?.getD undef = .pointer (some ⟨g, 2, none⟩) := (hd 6 (by kernel_rfl)).get 27 rfl rfl
        have cc := HC2.out W hb
        exact rel_value rfl (.int .i64 x.group) (by go_simp) rfl
      · have e0 : a.tmps[1]?.getD undef = .pointer (some ⟨g, 0, none⟩) := hkp.get (by kernel_rfl) rfl
        exact rel_value rfl (.pointer (some ⟨g, 3, none⟩)) (by go_simp) rfl
      · have e0 : a.tmps[29]?.getD undef = .pointer (some ⟨g, 3, none⟩) := (hd 8 (by kernel_rfl)).get 29 rfl rfl
        have cc := HC3.out W hb
        exact rel_value rfl (.int .i64 x.epoch) (by go_simp) rfl
      · have e0 : a.tmps[1]?.getD undef = .pointer (some ⟨g, 0, none⟩) := hkp.get (by kernel_rfl) rfl
        exact rel_value rfl (.pointer (some ⟨g, 5, none⟩)) (by go_simp) rfl
      · have e0 : a.tmps[31]?.getD undef = .pointer (some ⟨g, 5, none⟩) := (hd 10 (by kernel_rfl)).get 31 rfl rfl
        have cc := HC5.out W hb
        exact rel_value rfl (.int .i64 x.block) (by go_simp) rfl
      · have e1 : a.tmps[22]?.getD undef = .int .i64 x.kind := (hd 1 (by kernel_rfl)).get 22 rfl rfl
        have e3 : a.tmps[24]?.getD undef = .int .i64 x.client := (hd 3 (by kernel_rfl)).get 24 rfl rfl
        have e5 : a.tmps[26]?.getD undef = .int .i64 x.stamp := (hd 5 (by kernel_rfl)).get 26 rfl rfl
        have e7 : a.tmps[28]?.getD undef = .int .i64 x.group := (hd 7 (by kernel_rfl)).get 28 rfl rfl
        have e9 : a.tmps[30]?.getD undef = .int .i64 x.epoch := (hd 9 (by kernel_rfl)).get 30 rfl rfl
        have e11 : a.tmps[32]?.getD undef = .int .i64 x.block := (hd 11 (by kernel_rfl)).get 32 rfl rfl
        refine rel_exec rfl (.slice (some ⟨W.heap.size, 0, none⟩) 6 6) (W.alloc (.cells #[.int .i64 x.kind, .int .i64 x.client, .int .i64 x.stamp, .int .i64 x.group, .int .i64 x.epoch, .int .i64 x.block] 3)) (by go_simp) ((Below.refl _ _).alloc (Nat.le_refl _) _) ⟨W.heap.size, rfl, ?_⟩
        have := reads_cells W #[.int .i64 x.kind, .int .i64 x.client, .int .i64 x.stamp, .int .i64 x.group, .int .i64 x.epoch, .int .i64 x.block] 3
        simpa using this
      · obtain ⟨g', e0, hr⟩ : ∃ g', a.tmps[33]?.getD undef = .slice (some ⟨g', 0, none⟩) 6 6 ∧ Reads W W.heap.size 1 (some ⟨g', 0, none⟩) 6 [.int .i64 x.kind, .int .i64 x.client, .int .i64 x.stamp, .int .i64 x.group, .int .i64 x.epoch, .int .i64 x.block] := (hd 12 (by kernel_rfl)).get 33 rfl rfl
        refine rel_call rfl 31 #[.slice (some ⟨g', 0, none⟩) 6 6] (by go_simp) ((numsI_any _ _ _ _ W _ hr (Nat.le_refl _) (by omega) (HN6.out)).mono ?_)
        rintro e w' ⟨v, rfl, ho, hb'⟩
        exact ⟨v, rfl, hb', ho.more hb.size⟩
      · have e0 : a.tmps[5]?.getD undef = v5 := hkp.get (by kernel_rfl) rfl
        exact rel_value rfl (v5) (by go_simp) rfl
      · have e0 : a.tmps[1]?.getD undef = .pointer (some ⟨g, 0, none⟩) := hkp.get (by kernel_rfl) rfl
        exact rel_value rfl (.pointer (some ⟨g, 7, none⟩)) (by go_simp) rfl
      · have e0 : a.tmps[36]?.getD undef = .pointer (some ⟨g, 7, none⟩) := (hd 15 (by kernel_rfl)).get 36 rfl rfl
        have cc := HC7.out W hb
        exact rel_value rfl (.int .i64 x.old) (by go_simp) rfl
      · have e0 : a.tmps[1]?.getD undef = .pointer (some ⟨g, 0, none⟩) := hkp.get (by kernel_rfl) rfl
        exact rel_value rfl (.pointer (some ⟨g, 8, none⟩)) (by go_simp) rfl
      · have e0 : a.tmps[38]?.getD undef = .pointer (some ⟨g, 8, none⟩) := (hd 17 (by kernel_rfl)).get 38 rfl rfl
        have cc := HC8.out W hb
        exact rel_value rfl (.int .i64 x.new) (by go_simp) rfl
      · have e0 : a.tmps[1]?.getD undef = .pointer (some ⟨g, 0, none⟩) := hkp.get (by kernel_rfl) rfl
        exact rel_value rfl (.pointer (some ⟨g, 9, none⟩)) (by go_simp) rfl
      · have e0 : a.tmps[40]?.getD undef = .pointer (some ⟨g, 9, none⟩) := (hd 19 (by kernel_rfl)).get 40 rfl rfl
        have cc := HC9.out W hb
        exact rel_value rfl (.slice A' n' c') (by go_simp) rfl
      · have e20 : a.tmps[41]?.getD undef = .slice A' n' c' := (hd 20 (by kernel_rfl)).get 41 rfl rfl
        exact rel_value rfl (.int .i64 (n' : Int)) (by go_simp) rfl
      · have e16 : a.tmps[37]?.getD undef = .int .i64 x.old := (hd 16 (by kernel_rfl)).get 37 rfl rfl
        have e18 : a.tmps[39]?.getD undef = .int .i64 x.new := (hd 18 (by kernel_rfl)).get 39 rfl rfl
        have e21 : a.tmps[42]?.getD undef = .int .i64 (n' : Int) := (hd 21 (by kernel_rfl)).get 42 rfl rfl
        refine rel_exec rfl (.slice (some ⟨W.heap.size, 0, none⟩) 3 3) (W.alloc (.cells #[.int .i64 x.old, .int .i64 x.new, .int .i64 (n' : Int)] 3)) (by go_simp) ((Below.refl _ _).alloc (Nat.le_refl _) _) ⟨W.heap.size, rfl, ?_⟩
        have := reads_cells W #[.int .i64 x.old, .int .i64 x.new, .int .i64 (n' : Int)] 3
        simpa using this
      · obtain ⟨g', e0, hr⟩ : ∃ g', a.tmps[43]?.getD undef = .slice (some ⟨g', 0, none⟩) 3 3 ∧ Reads W W.heap.size 1 (some ⟨g', 0, none⟩) 3 [.int .i64 x.old, .int .i64 x.new, .int .i64 (n' : Int)] := (hd 22 (by kernel_rfl)).get 43 rfl rfl
        refine rel_call rfl 31 #[.slice (some ⟨g', 0, none⟩) 3 3] (by go_simp) ((numsI_any _ _ _ _ W _ hr (Nat.le_refl _) (by omega) (HN3.out)).mono ?_)
        rintro e w' ⟨v, rfl, ho, hb'⟩
        exact ⟨v, rfl, hb', ho.more hb.size⟩
      · have e0 : a.tmps[1]?.getD undef = .pointer (some ⟨g, 0, none⟩) := hkp.get (by kernel_rfl) rfl
        exact rel_value rfl (.pointer (some ⟨g, 9, none⟩)) (by go_simp) rfl
      · have e0 : a.tmps[45]?.getD undef = .pointer (some ⟨g, 9, none⟩) := (hd 24 (by kernel_rfl)).get 45 rfl rfl
        have cc := HC9.out W hb
        exact rel_value rfl (.slice A' n' c') (by go_simp) rfl
      · have e25 : a.tmps[46]?.getD undef = .slice A' n' c' := (hd 25 (by kernel_rfl)).get 46 rfl rfl
        refine rel_call rfl 31 #[.slice A' n' c'] (by go_simp) ((numsI_any _ _ _ _ W _ (HNX.out W hb) (by have := hb.size; omega) (by omega) HNN.out).mono ?_)
        rintro e w' ⟨v, rfl, ho, hb'⟩
        exact ⟨v, rfl, hb', ho.more hb.size⟩
    intro f W hb hd
    have h13 : OwnB W w3.heap.size (f 34) (numsI [x.kind, x.client, x.stamp, x.group, x.epoch, x.block]) := hd 13 (by omega) _ 34 rfl rfl
    have h14 : f 35 = v5 := hd 14 (by omega) _ 35 rfl rfl
    have h23 : OwnB W w3.heap.size (f 44) (numsI [x.old, x.new, (n' : Int)]) := hd 23 (by omega) _ 44 rfl rfl
    have h26 : OwnB W w3.heap.size (f 47) (numsI x.next) := hd 26 (by omega) _ 47 rfl rfl
    have h5 := HO5.out.below hb
    obtain ⟨A1, k1, e1, _, _, r1, _⟩ := own_slice_b h13
    obtain ⟨A2, k2, e2, _, _, r2, _⟩ := own_slice_b h5
    obtain ⟨A3, k3, e3, _, _, r3, _⟩ := own_slice_b h23
    obtain ⟨A4, k4, e4, _, _, r4, _⟩ := own_slice_b h26
    have hrow := rowsB_lit W 22 [(A1, (numsI [x.kind, x.client, x.stamp, x.group, x.epoch, x.block]).length, k1, numsI [x.kind, x.client, x.stamp, x.group, x.epoch, x.block]), (A2, (strB x.data).length, k2, strB x.data), (A3, (numsI [x.old, x.new, (n' : Int)]).length, k3, numsI [x.old, x.new, (n' : Int)]), (A4, (numsI x.next).length, k4, numsI x.next)] (by
      intro p hp
      simp only [List.mem_cons, List.not_mem_nil, or_false] at hp
      rcases hp with rfl | rfl | rfl | rfl
      · exact r1
      · exact r2
      · exact r3
      · exact r4)
    simp only [List.map_cons, List.map_nil, List.length_cons, List.length_nil] at hrow
    have HROW := Lib.hid hrow
    have HB4 := Lib.hid (HB3.out.trans (hb.mono (by omega)))
    have hs4 := hb.size
    have hdl := HDL.out
    have hnl := HNL.out
    subst e2
    clear r1 r2 r3 r4 hrow h13 h23 h26 h5 hd hb
    simp only [putAll, List.drop_succ_cons, List.drop_zero]
    try simp only [Act.put, List.setIfInBounds_toArray, List.set_cons_zero, List.set_cons_succ]
    simp only [e1, h14, e3, e4]
    go_wp2_with fail
    refine (join_any _ 4 4 _ _ _ HROW.out (by simp) (by omega) ?_).mono ?_
    · have h1 := numsI_len HN6.out
      have h3 := numsI_len HN3.out
      have h4 := numsI_len HNN.out
      have h2 := (numB_len (n := x.data.length) (by rw [HDL.out]; unfold maxN; omega)).2
      simp only [List.length_cons, List.length_nil] at h1 h3
      have h5 : (strB x.data).length ≤ 24 := by unfold strB; rw [List.length_append, HDL.out]; rw [HDL.out] at h2; omega
      simp only [List.flatten_cons, List.flatten_nil, List.length_append, List.length_nil]
      rw [HNL.out] at h4
      omega
    rintro _ w5 ⟨v, rfl, ho6, hb6⟩
    have HB6 := Lib.hid ((HB4.out.trans ((Below.refl _ W).alloc (Nat.le_refl _) (.cells #[.slice A1 (numsI [x.kind, x.client, x.stamp, x.group, x.epoch, x.block]).length k1, .slice A2 (strB x.data).length k2, .slice A3 (numsI [x.old, x.new, (n' : Int)]).length k3, .slice A4 (numsI x.next).length k4] 22) |>.mono (by omega))).trans (hb6.mono (by simp; omega)))
    have HO6 := Lib.hid (show OwnB w5 w.heap.size v (wishB x) by
      have := ho6.more (B' := w.heap.size) (by simp; omega)
      unfold wishB
      rw [HNL.out]
      simpa only [List.flatten_cons, List.flatten_nil, List.append_nil, List.append_assoc] using this)
    clear ho6 hb6
    go_wp2_with fail
    go_ret2
    exact ⟨v, rfl, HO6.out, HB6.out⟩

end Go.Proofs.YtcmbmimmfgfefaaGreat
