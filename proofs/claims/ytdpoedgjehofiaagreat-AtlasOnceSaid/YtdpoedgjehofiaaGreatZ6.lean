/- Parts of the proof, in one text: InkOf, InkEvery, InkFill, Open, Bring, InkCl, BookReads, Noted, InkTell, Works, InkAll, ClashMath. -/
import Derived.Test.YtdpoedgjehofiaaGreatZ5
import Derived.Deep.DeepCutAuto
import Derived.Test.YtdpoedgjehofiaaGreatZ1
import Derived.ProofKit
import Derived.OpenShut
import Derived.ChangeOld
import Derived.ChangeSlices
import Derived.Deep.Slices
import Derived.SizedLaws
import Derived.Test.YtdpoedgjehofiaaGreatRows
import Derived.Test.YtdpoedgjehofiaaGreatZ2
import Derived.Lib.SlBytesConst

/- Contract of (*Book).Of. -/
namespace Go.Proofs.YtdpoedgjehofiaaGreat
set_option linter.unusedVariables false
open Go.RowKit Go.Maps

theorem conv_str {W : World} {B n c : Nat} {A : Option Addr} {xs : List UInt8} (h : Reads W B 1 A n (xs.map vb)) : (convert 22 9 (.slice A n c)).run Tryz.prog W = .ok (.string ⟨xs.toArray⟩) W := by
  have hn : xs.length = n := by have := h.1; simpa using this
  rcases Nat.eq_zero_or_pos n with h0 | h0
  · subst h0
    have hx : xs = [] := List.eq_nil_of_length_eq_zero hn
    subst hx
    cases A with
    | none => exact run_convert_bytes_nil W 22 5 Tryz.underlying22 Tryz.underlying5 0 c 9 Tryz.underlying9
    | some ad => exact run_convert_bytes_back W 22 9 5 ad c [] Tryz.underlying22 Tryz.underlying5 Tryz.underlying9 (fun j hj => by simp at hj)
  · obtain ⟨ad, rfl, _, hc⟩ := h.2 h0
    rw [← hn]
    exact run_convert_bytes_back W 22 9 5 ad c xs Tryz.underlying22 Tryz.underlying5 Tryz.underlying9 (fun j hj => hc j _ (by rw [List.getElem?_map, List.getElem?_eq_getElem hj]; rfl))

theorem zeros32a : Array.replicate 32 (Value.int .u8 0) = #[.int .u8 0, .int .u8 0, .int .u8 0, .int .u8 0, .int .u8 0, .int .u8 0, .int .u8 0, .int .u8 0, .int .u8 0, .int .u8 0, .int .u8 0, .int .u8 0, .int .u8 0, .int .u8 0, .int .u8 0, .int .u8 0, .int .u8 0, .int .u8 0, .int .u8 0, .int .u8 0, .int .u8 0, .int .u8 0, .int .u8 0, .int .u8 0, .int .u8 0, .int .u8 0, .int .u8 0, .int .u8 0, .int .u8 0, .int .u8 0, .int .u8 0, .int .u8 0] := by kernel_rfl

theorem Reads.keepAt {w w' : World} {B n : Nat} {A : Option Addr} {xs : List Value} (h : Reads w B 1 A n xs) (hk : ∀ a, 0 < n → A = some a → ∀ p : Addr, p.block = a.block → w'.cell? p = w.cell? p) : Reads w' B 1 A n xs :=
  ⟨h.1, fun h0 => by obtain ⟨ad, rfl, hB, hc⟩ := h.2 h0; exact ⟨ad, rfl, hB, fun k u hu => (hk ad h0 rfl (ad.add k) (by simp [Addr.add]; split <;> rfl)).trans (hc k u hu)⟩⟩
theorem Reads.apart {w : World} {B n g : Nat} {A : Option Addr} {xs : List Value} (h : Reads w B 1 A n xs) (hB : B ≤ g) : ∀ a, 0 < n → A = some a → a.block ≠ g := fun a h0 ha e => by
  obtain ⟨ad, rfl, hb, _⟩ := h.2 h0
  injection ha with ha
  subst ha
  omega
theorem BookAt.asked {w : World} {k : Book} {l : List (List UInt8)} {n : Nat} (h : BookAt w k l n) : BookAt (w.setCell ⟨k.g, 2, none⟩ (.int .i64 ((n + 1 : Nat) : Int))) k l (n + 1) := by
  obtain ⟨D1, D2, n1, n2, h1, h2, h3⟩ := h.maps
  exact ⟨h.cells.set_ 2 _, ⟨D1, D2, n1, n2, h1.setCell (a := ⟨k.g, 2, none⟩) (Ne.symm h.apart.1) _, h2.setCell (a := ⟨k.g, 2, none⟩) (Ne.symm h.apart.2.1) _, h3⟩, Nat.le_succ_of_le h.len, h.apart⟩

theorem BookAt.grown {w w' : World} {k : Book} {l : List (List UInt8)} {n b : Nat} (h : BookAt w k l n) (hg : w.grownBy w' (some b)) (hb : b ≠ k.g ∧ b ≠ k.b1 ∧ b ≠ k.b2) : BookAt w' k l n := by
  obtain ⟨D1, D2, n1, n2, h1, h2, h3⟩ := h.maps
  exact ⟨h.cells.beside hg (Ne.symm hb.1), ⟨D1, D2, n1, n2, h1.kept hg (fun e => hb.2.1 (by injection e with e; exact e.symm)), h2.kept hg (fun e => hb.2.2 (by injection e with e; exact e.symm)), h3⟩, h.len, h.apart⟩
theorem OnlyBook.grown {k : Book} {w w' w'' : World} {b : Nat} (h : OnlyBook k w w') (hg : w'.grownBy w'' (some b)) (hb : w.heap.size ≤ b) : OnlyBook k w w'' :=
  ⟨hg.os.trans h.os, hg.tape.trans h.tape, hg.output.trans h.output, Nat.le_trans h.size hg.size, fun i hi hn => (hg.block i (Nat.lt_of_lt_of_le hi h.size) (fun e => by injection e with e; omega)).trans (h.block i hi hn)⟩

set_option maxRecDepth 100000 in
set_option maxHeartbeats 2000000 in
theorem inkOf_any (k : Book) (l : List (List UInt8)) (asked : Nat) (A : Option Addr) (n c : Nat) (xs : List UInt8) (w : World) (B : Nat) (hbk : BookAt w k l asked) (h : Reads w B 1 A n (xs.map vb)) (hB : B ≤ w.heap.size)
    (hk : ∀ a, 0 < n → A = some a → a.block ≠ k.g) (hc : n ≤ c) (hcm : c ≤ maxLen) (hn : n ≤ 65536) (has : asked ≤ 1000000) :
    Calls Tryz.prog 186 #[.pointer (some ⟨k.g, 0, none⟩), .slice A n c] w fun e w' => e = .returned (.tuple #[.agg (bRow (shaOf xs)), .int .i64 0]) ∧ BookAt w' k (addInk l xs) (asked + 1) ∧ OnlyBook k w w' := by
  have HK := Lib.hid hk
  clear hk
  have hxn : xs.length = n := by have := h.1; simpa using this
  have HXN := Lib.hid hxn
  have HKB := Lib.hid hbk
  have HRD := Lib.hid h
  unfold maxLen at hcm
  clear hbk h hxn
  go_enter Tryz.func186, Tryz.ntmps186
  go_wp2_with fail
  have hW := Blk.new w 60 (Array.replicate 32 (.int .u8 0))
  have hX1 : Below w.heap.size w (w.alloc (.cells (Array.replicate 32 (.int .u8 0)) 60)) := (Below.refl _ _).alloc (Nat.le_refl _) _
  have hS1 : (w.alloc (.cells (Array.replicate 32 (.int .u8 0)) 60)).heap.size = w.heap.size + 1 := by simp
  have HKB1 := Lib.hid (HKB.out.below hX1)
  have HRD1 := Lib.hid (HRD.out.below (hX1.mono hB))
  rw [zeros32a] at hW hX1 hS1 HKB1 HRD1
  obtain ⟨gd, hgd⟩ : ∃ g, g = w.heap.size := ⟨_, rfl⟩
  rw [← hgd] at hW hS1 ⊢
  generalize w.alloc _ = W1 at hW hX1 hS1 HKB1 HRD1 ⊢
  have hkl := HKB.out.lt
  rw [← hgd] at hkl
  have hgB : B ≤ gd := by rw [hgd]; exact hB
  have HGD := Lib.hid hgd
  clear hgd
  have HD1 := Lib.hid hW
  have HX1 := Lib.hid hX1
  clear hW hX1
  have c2 : W1.cell? ⟨k.g, 2, none⟩ = some (.int .i64 (asked : Int)) := (HKB1.out.cells.cell 2).trans rfl
  have f2 := HKB1.out.cells.frozen 2
  refine (bookNone_false k l asked W1 HKB1.out).mono ?_
  rintro _ _ ⟨rfl, rfl⟩
  go_wp2_with fail
  refine (addI64_any ⟨k.g, 2, none⟩ asked W1 c2 f2 (by omega)).mono ?_
  rintro _ W2 ⟨rfl, hW2⟩
  have HT2 := Lib.hid (Turned.setCell W1 ⟨k.g, 2, none⟩ (.int .i64 ((asked + 1 : Nat) : Int)))
  have HKB2 := Lib.hid HKB1.out.asked
  rw [← hW2] at HT2 HKB2
  have HO2 := Lib.hid ((OnlyBook.of_below HX1.out).trans (OnlyBook.of_grown (k := k) HT2.out.grown (.inl rfl)))
  have hs2 := HT2.out.size
  clear c2 f2 hW2
  go_wp2_with fail
  have hrd2 : Reads W2 B 1 A n (xs.map vb) := HRD1.out.keepAt (fun a h0 ha p hp => HT2.out.cell (by have := HK.out a h0 ha; show p.block ≠ k.g; omega))
  refine (shaOf_any A n c xs W2 B hrd2 (by omega) hc (by unfold maxLen; omega)).mono ?_
  rintro _ W3 ⟨rfl, hb3⟩
  have HKB3 := Lib.hid (HKB2.out.below hb3)
  have HRD3 := Lib.hid (hrd2.below (hb3.mono (by omega)))
  have HD3 := Lib.hid ((HT2.out.blk HD1.out (by show gd ≠ k.g; omega)).below hb3 (by omega))
  have HO3 := Lib.hid (HO2.out.trans (OnlyBook.of_below hb3))
  have hs3 := hb3.size
  clear hb3 hrd2
  have hdl := shaOf_len xs
  have HDL := Lib.hid hdl
  have hds : (bRow (shaOf xs)).size = 32 := by rw [bRow_size, hdl]
  have HDS := Lib.hid hds
  have HDO := Lib.hid (bRow_one (shaOf xs))
  clear hdl hds
  generalize hd : bRow (shaOf xs) = D at HDS HDO ⊢
  have HDD := Lib.hid hd
  clear hd
  go_upto_region 7 with (refine wpList_store_part rfl 60 (.tmp 6) (.tmp 23) rfl W3.heap.size 0 D rfl rfl 60 _ (Blk.newAt rfl) (by rw [HDS.out]; rfl) (by rw [HDS.out]; simp) HDO.out ?_; intro W4 hT4 hB4; rw [spl_self _ _ (by rw [HDS.out]; simp)] at hB4)
  have hX4 : Below W3.heap.size W3 W4 := hT4.below ((Below.refl _ _).alloc (Nat.le_refl _) _) (Nat.le_refl _)
  have HKB4 := Lib.hid (HKB3.out.below hX4)
  have HRD4 := Lib.hid (HRD3.out.below (hX4.mono (by omega)))
  have HD4 := Lib.hid (HD3.out.below' hX4)
  have HO4 := Lib.hid (HO3.out.trans (OnlyBook.of_below hX4))
  have hs4 := hX4.size
  obtain ⟨ge, hge⟩ : ∃ g, g = W3.heap.size := ⟨_, rfl⟩
  rw [← hge] at hB4 ⊢
  have hgel : gd < ge := by omega
  have hkl2 := HKB3.out.lt
  rw [← hge] at hkl2
  have HB4 := Lib.hid hB4
  clear hT4 hX4 hB4 hge
  obtain ⟨D1, D2, n1, n2, h1, h2, h3⟩ := HKB4.out.maps
  have hlk := fun (W : World) (hb : Below W4.heap.size W4 W) => look_dig (w := W) (h1.kept (only_of_below hb none) (by simp)) h3 (shaOf xs) HDL.out
  rw [HDD.out] at hlk
  have hm1 := fun (W : World) (hb : Below W4.heap.size W4 W) => ((HKB4.out.cells.below' hb).cell 0).trans (rfl : (bookCells k ((asked + 1 : Nat) : Int))[0]? = some (.map (some k.b1)))
  have hm2 := fun (W : World) (hb : Below W4.heap.size W4 W) => ((HKB4.out.cells.below' hb).cell 1).trans (rfl : (bookCells k ((asked + 1 : Nat) : Int))[1]? = some (.map (some k.b2)))
  have hcv := fun (W : World) (hb : Below W4.heap.size W4 W) => conv_str (c := c) (HRD4.out.below (hb.mono (show B ≤ W4.heap.size by omega)))
  have HLK := Lib.hid hlk
  have HM1 := Lib.hid hm1
  have HM2 := Lib.hid hm2
  have HCV := Lib.hid hcv
  have H1 := Lib.hid h1
  have H2 := Lib.hid h2
  have H3 := Lib.hid h3
  clear hlk hm1 hm2 hcv h1 h2 h3
  obtain ⟨fo, hfo⟩ : ∃ fo, fo = firstOf l (shaOf xs) := ⟨_, rfl⟩
  rw [← hfo] at HLK
  have HFO := Lib.hid hfo
  clear hfo
  refine wp_region_quiet_b (by kernel_rfl) (by kernel_rfl) ?_
  refine wpQuiet_value rfl (.pointer (some ⟨k.g, 0, none⟩)) (fun W _ => rfl) ?_
  refine wpQuiet_value rfl (.pointer (some ⟨k.g, 0, none⟩)) (fun W _ => by go_simp) ?_
  try simp only [Act.put, List.setIfInBounds_toArray, List.set_cons_zero, List.set_cons_succ]
  refine wpQuiet_value rfl (.pointer (some ⟨k.g, 0, none⟩)) (fun W _ => by go_simp) ?_
  try simp only [Act.put, List.setIfInBounds_toArray, List.set_cons_zero, List.set_cons_succ]
  refine wpQuiet_load_cell rfl (.map (some k.b1)) (fun W hb => exec_load_one 120 (.tmp 27) rfl ⟨k.g, 0, none⟩ rfl (by kernel_rfl) _ (HM1.out W hb)) ?_
  try simp only [Act.put, List.setIfInBounds_toArray, List.set_cons_zero, List.set_cons_succ]
  refine wpQuiet_load_part rfl 60 (.tmp 6) rfl ge 0 32 rfl 60 _ D _ HB4.out Tryz.underlying60 rfl rfl HDS.out (fun _ _ => by rw [Nat.zero_add]) ?_
  try simp only [Act.put, List.setIfInBounds_toArray, List.set_cons_zero, List.set_cons_succ]
  refine wpQuiet_load_cell rfl (.tuple #[.string ⟨(fo.getD []).toArray⟩, .bool fo.isSome]) (fun W hb => by have hc := HLK.out W hb; go_simp) ?_
  try simp only [Act.put, List.setIfInBounds_toArray, List.set_cons_zero, List.set_cons_succ]
  refine wpQuiet_value rfl (.tuple #[.string ⟨(fo.getD []).toArray⟩, .bool fo.isSome]) (fun W _ => rfl) ?_
  try simp only [Act.put, List.setIfInBounds_toArray, List.set_cons_zero, List.set_cons_succ]
  refine wpQuiet_value rfl (.string ⟨(fo.getD []).toArray⟩) (fun W _ => by go_simp) ?_
  try simp only [Act.put, List.setIfInBounds_toArray, List.set_cons_zero, List.set_cons_succ]
  refine wpQuiet_value rfl (.bool fo.isSome) (fun W _ => by go_simp) ?_
  try simp only [Act.put, List.setIfInBounds_toArray, List.set_cons_zero, List.set_cons_succ]
  refine wpQuiet_value rfl (.string ⟨(fo.getD []).toArray⟩) (fun W _ => rfl) ?_
  try simp only [Act.put, List.setIfInBounds_toArray, List.set_cons_zero, List.set_cons_succ]
  refine wpQuiet_value rfl (.bool fo.isSome) (fun W _ => rfl) ?_
  try simp only [Act.put, List.setIfInBounds_toArray, List.set_cons_zero, List.set_cons_succ]
  refine wpQuiet_nil ?_
  intro W5 hb5
  have HKB5 := Lib.hid (HKB4.out.below hb5)
  have HRD5 := Lib.hid (HRD4.out.below (hb5.mono (by omega)))
  have HD5 := Lib.hid (HD4.out.below' hb5)
  have HB5 := Lib.hid (HB4.out.below' hb5)
  have HO5 := Lib.hid (HO4.out.trans (OnlyBook.of_below hb5))
  have hs5 := hb5.size
  have H15 := Lib.hid (ownsMap_tight (H1.out.kept (only_of_below hb5 none) (by simp)))
  have H25 := Lib.hid (ownsMap_tight (H2.out.kept (only_of_below hb5 none) (by simp)))
  have hsz := H3.out.size
  have hlen := HKB.out.len
  have hap := HKB.out.apart
  clear hb5
  go_upto_if 34 with (fail)
  go_cut [4, 5, 6] (fun s4 s5 s6 wx => s4 = .pointer (some ⟨gd, 0, none⟩) ∧ s5 = .int .i64 0 ∧ s6 = .pointer (some ⟨ge, 0, none⟩) ∧ BookAt wx k (addInk l xs) (asked + 1) ∧ OnlyBook k w wx ∧ Blk wx gd 60 #[.int .u8 0, .int .u8 0, .int .u8 0, .int .u8 0, .int .u8 0, .int .u8 0, .int .u8 0, .int .u8 0, .int .u8 0, .int .u8 0, .int .u8 0, .int .u8 0, .int .u8 0, .int .u8 0, .int .u8 0, .int .u8 0, .int .u8 0, .int .u8 0, .int .u8 0, .int .u8 0, .int .u8 0, .int .u8 0, .int .u8 0, .int .u8 0, .int .u8 0, .int .u8 0, .int .u8 0, .int .u8 0, .int .u8 0, .int .u8 0, .int .u8 0, .int .u8 0] ∧ Blk wx ge 60 D)
  case first =>
    cases fo with
    | none =>
      go_upto_region 9 with fail
      have hm5 := fun (W : World) (hb : Below W5.heap.size W5 W) => ((HKB5.out.cells.below' hb).cell 0).trans (rfl : (bookCells k ((asked + 1 : Nat) : Int))[0]? = some (.map (some k.b1)))
      have hc5 := fun (W : World) (hb : Below W5.heap.size W5 W) => conv_str (c := c) (HRD5.out.below (hb.mono (show B ≤ W5.heap.size by omega)))
      refine wp_region_calm0 7 53 (by kernel_rfl) (by kernel_rfl) (by kernel_rfl) (by simp) ?_
      simp only [List.take_succ_cons, List.take_zero, List.drop_succ_cons, List.drop_zero]
      refine wpCalm_value rfl rfl (.pointer (some ⟨k.g, 0, none⟩)) (fun W _ => rfl) ?_
      try simp only [Act.put, List.setIfInBounds_toArray, List.set_cons_zero, List.set_cons_succ]
      refine wpCalm_value rfl rfl (.pointer (some ⟨k.g, 0, none⟩)) (fun W _ => by go_simp) ?_
      try simp only [Act.put, List.setIfInBounds_toArray, List.set_cons_zero, List.set_cons_succ]
      refine wpCalm_value rfl rfl (.pointer (some ⟨k.g, 0, none⟩)) (fun W _ => by go_simp) ?_
      try simp only [Act.put, List.setIfInBounds_toArray, List.set_cons_zero, List.set_cons_succ]
      refine wpCalm_below rfl rfl (.map (some k.b1)) (fun W hb => exec_load_one 120 (.tmp 37) rfl ⟨k.g, 0, none⟩ rfl (by kernel_rfl) _ (hm5 W hb)) ?_
      try simp only [Act.put, List.setIfInBounds_toArray, List.set_cons_zero, List.set_cons_succ]
      refine wpCalm_load_part rfl 60 (.tmp 6) rfl ge 0 32 rfl 60 _ D _ HB5.out Tryz.underlying60 rfl rfl HDS.out (fun _ _ => by rw [Nat.zero_add]) ?_
      try simp only [Act.put, List.setIfInBounds_toArray, List.set_cons_zero, List.set_cons_succ]
      refine wpCalm_value rfl rfl (.slice A n c) (fun W _ => rfl) ?_
      try simp only [Act.put, List.setIfInBounds_toArray, List.set_cons_zero, List.set_cons_succ]
      refine wpCalm_below rfl rfl (.string ⟨xs.toArray⟩) (fun W hb => by have hx := hc5 W hb; go_simp) ?_
      try simp only [Act.put, List.setIfInBounds_toArray, List.set_cons_zero, List.set_cons_succ]
      refine wpCalm_nil ?_
      intro W6 hb6
      have HKB6 := Lib.hid (HKB5.out.below hb6)
      have HD6 := Lib.hid (HD5.out.below' hb6)
      have HB6 := Lib.hid (HB5.out.below' hb6)
      have HO6 := Lib.hid (HO5.out.trans (OnlyBook.of_below hb6))
      have H16 := Lib.hid (H15.out.kept (only_of_below hb6 none) (by simp))
      have H26 := Lib.hid (H25.out.kept (only_of_below hb6 none) (by simp))
      have hs6 := hb6.size
      clear hb6 hm5 hc5
      have hkey := keyOf_dig (shaOf xs) HDL.out
      rw [HDD.out] at hkey
      have hval : plainElem (H := Unit) Tryz.prog 9 (.string ⟨xs.toArray⟩) = some (.lit (.string xs), []) := plainElem_string Tryz.underlying9 (s := ⟨xs.toArray⟩) (by show xs.toArray.size ≤ maxLen; have := HXN.out; unfold maxLen; simp; omega)
      have HKEY := Lib.hid hkey
      have HVAL := Lib.hid hval
      clear hkey hval
      go_wp2_with (at_mapUpdate; go_must (refine wpList_mapUpdate_own _ rfl (.tmp 38) (.tmp 39) (.tmp 41) 120 rfl 60 9 digKeyed Tryz.underlying120 _ k.b1 (Maps.size D1) D1 rfl H16.out (by unfold maxLen; omega) (.agg D) (.string ⟨xs.toArray⟩) _ rfl rfl HKEY.out (.lit (.string xs)) [] HVAL.out ?_))
      intro W7 hown7 hg7
      go_wp2_with fail
      go_meet
      have hap := HKB6.out.apart
      have hfr := H3.out.fresh (H1.out.tidy digKeyed) xs HFO.out.symm
      have hal := addInk_len l xs
      exact ⟨rfl, rfl, rfl, ⟨HKB6.out.cells.beside hg7 hap.1, ⟨_, D2, _, _, hown7, H26.out.kept hg7 (fun e => hap.2.2 (by injection e with e; exact e.symm)), hfr⟩, by omega, hap⟩,
        HO6.out.trans (OnlyBook.of_grown hg7 (.inr (.inl rfl))), HD6.out.beside hg7 (by omega), HB6.out.beside hg7 (by omega)⟩
    | some y =>
      simp only [Option.getD_some, Option.isSome_some]
      by_cases hyx : y = xs
      · have hne : (y == xs) = true := by rw [hyx]; simp
        have hcx := conv_str (c := c) HRD5.out
        have HYX := Lib.hid hyx
        clear hyx
        go_wp2_with fail
        go_meet
        have hfo := HFO.out
        rw [HYX.out] at hfo
        exact ⟨rfl, rfl, rfl, ⟨HKB5.out.cells, ⟨D1, D2, _, _, H15.out, H25.out, H3.out.same xs hfo.symm⟩, by have := addInk_len l xs; omega, hap⟩, HO5.out, HD5.out, HB5.out⟩
      · have hne : (y == xs) = false := by simpa using hyx
        have hcx := conv_str (c := c) HRD5.out
        have HYX := Lib.hid hyx
        clear hyx
        go_upto_region 11 with fail
        have hm5 := fun (W : World) (hb : Below W5.heap.size W5 W) => ((HKB5.out.cells.below' hb).cell 1).trans (rfl : (bookCells k ((asked + 1 : Nat) : Int))[1]? = some (.map (some k.b2)))
        have hc5 := fun (W : World) (hb : Below W5.heap.size W5 W) => conv_str (c := c) (HRD5.out.below (hb.mono (show B ≤ W5.heap.size by omega)))
        refine wp_region_calm0 6 53 (by kernel_rfl) (by kernel_rfl) (by kernel_rfl) (by simp) ?_
        simp only [List.take_succ_cons, List.take_zero, List.drop_succ_cons, List.drop_zero]
        refine wpCalm_value rfl rfl (.pointer (some ⟨k.g, 0, none⟩)) (fun W _ => rfl) ?_
        try simp only [Act.put, List.setIfInBounds_toArray, List.set_cons_zero, List.set_cons_succ]
        refine wpCalm_value rfl rfl (.pointer (some ⟨k.g, 0, none⟩)) (fun W _ => by go_simp) ?_
        try simp only [Act.put, List.setIfInBounds_toArray, List.set_cons_zero, List.set_cons_succ]
        refine wpCalm_value rfl rfl (.pointer (some ⟨k.g, 1, none⟩)) (fun W _ => by go_simp) ?_
        try simp only [Act.put, List.setIfInBounds_toArray, List.set_cons_zero, List.set_cons_succ]
        refine wpCalm_below rfl rfl (.map (some k.b2)) (fun W hb => exec_load_one 121 (.tmp 48) rfl ⟨k.g, 1, none⟩ rfl (by kernel_rfl) _ (hm5 W hb)) ?_
        try simp only [Act.put, List.setIfInBounds_toArray, List.set_cons_zero, List.set_cons_succ]
        refine wpCalm_value rfl rfl (.slice A n c) (fun W _ => rfl) ?_
        try simp only [Act.put, List.setIfInBounds_toArray, List.set_cons_zero, List.set_cons_succ]
        refine wpCalm_below rfl rfl (.string ⟨xs.toArray⟩) (fun W hb => by have hx := hc5 W hb; go_simp) ?_
        try simp only [Act.put, List.setIfInBounds_toArray, List.set_cons_zero, List.set_cons_succ]
        refine wpCalm_nil ?_
        intro W6 hb6
        have HKB6 := Lib.hid (HKB5.out.below hb6)
        have HD6 := Lib.hid (HD5.out.below' hb6)
        have HB6 := Lib.hid (HB5.out.below' hb6)
        have HO6 := Lib.hid (HO5.out.trans (OnlyBook.of_below hb6))
        have H16 := Lib.hid (H15.out.kept (only_of_below hb6 none) (by simp))
        have H26 := Lib.hid (H25.out.kept (only_of_below hb6 none) (by simp))
        have hs6 := hb6.size
        clear hb6 hm5 hc5
        have hkey := keyOf_str xs (by have := HXN.out; unfold maxLen; omega)
        have hval : plainElem (H := Unit) Tryz.prog 4 (.bool true) = some (.lit (.bool true), []) := plainElem_bool Tryz.underlying4 true
        have HKEY := Lib.hid hkey
        have HVAL := Lib.hid hval
        clear hkey hval
        go_wp2_with (at_mapUpdate; go_must (refine wpList_mapUpdate_own _ rfl (.tmp 49) (.tmp 51) (.const (.bool true)) 121 rfl 9 4 strKeyed Tryz.underlying121 _ k.b2 (Maps.size D2) D2 rfl H26.out (by unfold maxLen; omega) (.string ⟨xs.toArray⟩) (.bool true) _ rfl rfl HKEY.out (.lit (.bool true)) [] HVAL.out ?_))
        intro W7 hown7 hg7
        go_wp2_with fail
        go_meet
        have hap := HKB6.out.apart
        have hfr := H3.out.other (H2.out.tidy strKeyed) xs y HFO.out.symm HYX.out
        have hal := addInk_len l xs
        exact ⟨rfl, rfl, rfl, ⟨HKB6.out.cells.beside hg7 hap.2.1, ⟨D1, _, _, _, H16.out.kept hg7 (fun e => hap.2.2 (by injection e with e)), hown7, hfr⟩, by omega, hap⟩,
          HO6.out.trans (OnlyBook.of_grown hg7 (.inr (.inr rfl))), HD6.out.beside hg7 (by omega), HB6.out.beside hg7 (by omega)⟩
  case rest =>
    obtain ⟨rfl, rfl, rfl, hbk, hob, hd, he⟩ := hcut
    have HBK := Lib.hid hbk
    have HOB := Lib.hid hob
    clear hbk hob
    go_upto_region 12 with fail
    have HDW := Lib.hid hd
    have HEW := Lib.hid he
    have hgw := hd.lt
    clear hd he
    go_wp2_with (first
      | (refine wpList_load_part rfl 60 (.tmp 6) rfl ge 0 32 rfl 60 _ D _ HEW.out Tryz.underlying60 rfl rfl HDS.out (fun _ _ => by rw [Nat.zero_add]) ?_)
      | (refine wpList_store_part rfl 60 (.tmp 4) (.tmp 52) rfl gd 0 D rfl rfl 60 _ HDW.out (by rw [HDS.out]; rfl) (by rw [HDS.out]; simp) HDO.out ?_; intro W8 hT8 hB8; rw [spl_self _ _ (by rw [HDS.out]; rfl)] at hB8))
    refine bodyPost_ret (results_part2 rfl _ _ gd 32 60 _ _ rfl hB8 Tryz.underlying60 rfl rfl HDS.out) rfl ⟨by rw [HDD.out]; rfl, ?_, ?_⟩
    · exact HBK.out.grown hT8.grown (by omega)
    · exact HOB.out.grown hT8.grown (by have := HGD.out; omega)

def inkZ : Array Value := bRow (List.replicate 32 0)
set_option maxRecDepth 100000 in
set_option maxHeartbeats 1000000 in
/-- too many bytes: the digest of noughts, and nothing has turned -/
theorem inkOf_big (k : Book) (l : List (List UInt8)) (asked : Nat) (A : Option Addr) (n c : Nat) (w : World) (hbk : BookAt w k l asked) (hn : 65536 < n) (hc : n ≤ c) (hcm : c ≤ maxLen) :
    Calls Tryz.prog 186 #[.pointer (some ⟨k.g, 0, none⟩), .slice A n c] w fun e w' => e = .returned (.tuple #[.agg inkZ, .int .i64 5]) ∧ Below w.heap.size w w' := by
  have hz : inkZ.size = 32 := by simp [inkZ, bRow]
  have ho : inkZ.all (·.oneCell') = true := bRow_one _
  have he : inkZ = #[.int .u8 0, .int .u8 0, .int .u8 0, .int .u8 0, .int .u8 0, .int .u8 0, .int .u8 0, .int .u8 0, .int .u8 0, .int .u8 0, .int .u8 0, .int .u8 0, .int .u8 0, .int .u8 0, .int .u8 0, .int .u8 0, .int .u8 0, .int .u8 0, .int .u8 0, .int .u8 0, .int .u8 0, .int .u8 0, .int .u8 0, .int .u8 0, .int .u8 0, .int .u8 0, .int .u8 0, .int .u8 0, .int .u8 0, .int .u8 0, .int .u8 0, .int .u8 0] := by kernel_rfl
  have HZ := Lib.hid hz
  have HO := Lib.hid ho
  have HE := Lib.hid he
  clear hz ho he
  generalize inkZ = zd at HZ HO HE ⊢
  have hX : Below w.heap.size w (w.alloc (.cells zd 60)) := (Below.refl _ _).alloc (Nat.le_refl _) _
  have HN := Lib.hid (fun W hb => bookNone_false k l asked W (hbk.below hb))
  have HX := Lib.hid hX
  unfold maxLen at hcm
  clear hbk hX
  go_enter Tryz.func186, Tryz.ntmps186
  go_wp2_with fail
  refine (HN.out _ ((Below.refl _ _).alloc (Nat.le_refl _) _)).mono ?_
  rintro _ _ ⟨rfl, rfl⟩
  go_wp2_with (refine wpList_store_part rfl 60 (.tmp 4) _ rfl w.heap.size 0 zd rfl (by rw [HE.out]; rfl) 60 zd (by rw [HE.out]; exact Blk.newAt rfl) (by rw [HZ.out]; rfl) (by rw [HZ.out]; simp) HO.out ?_; intro W5 hT5 hB5; rw [spl_self _ _ rfl] at hB5)
  refine bodyPost_ret (results_part2 rfl _ _ w.heap.size 32 60 _ _ rfl hB5 Tryz.underlying60 rfl rfl HZ.out) rfl ⟨rfl, ?_⟩
  have := HX.out
  rw [HE.out] at this
  exact hT5.below this (Nat.le_refl _)

/-- a book that is none -/
def NoBook (w : World) (p : Option Addr) : Prop := p = none ∨ ∃ g, p = some ⟨g, 0, none⟩ ∧ g < w.heap.size ∧ w.cell? ⟨g, 0, none⟩ = some (.map none)
theorem NoBook.below {w w' : World} {p : Option Addr} (h : NoBook w p) (hb : Below w.heap.size w w') : NoBook w' p := by
  rcases h with rfl | ⟨g, rfl, hg, hc⟩
  · exact .inl rfl
  · exact .inr ⟨g, rfl, Nat.lt_of_lt_of_le hg hb.size, (hb.cell (by show g < _; exact hg)).trans hc⟩
theorem bookNone_true (w : World) (p : Option Addr) (h : NoBook w p) : Calls Tryz.prog 109 #[.pointer p] w fun e w' => e = .returned (.bool true) ∧ w = w' := by
  have hmn := run_eql_map_nil (P := Tryz.prog) w 120 60 9 none Tryz.underlying120
  rcases h with rfl | ⟨g, rfl, _, c0⟩
  all_goals
    go_enter Tryz.func109, Tryz.ntmps109
    go_wp2
    go_ret
    exact ⟨rfl, rfl⟩
set_option maxRecDepth 100000 in
set_option maxHeartbeats 1000000 in
theorem inkOf_none (p : Option Addr) (v : Value) (w : World) (h : NoBook w p) :
    Calls Tryz.prog 186 #[.pointer p, v] w fun e w' => e = .returned (.tuple #[.agg inkZ, .int .i64 1]) ∧ Below w.heap.size w w' := by
  have hz : inkZ.size = 32 := by simp [inkZ, bRow]
  have ho : inkZ.all (·.oneCell') = true := bRow_one _
  have he : inkZ = #[.int .u8 0, .int .u8 0, .int .u8 0, .int .u8 0, .int .u8 0, .int .u8 0, .int .u8 0, .int .u8 0, .int .u8 0, .int .u8 0, .int .u8 0, .int .u8 0, .int .u8 0, .int .u8 0, .int .u8 0, .int .u8 0, .int .u8 0, .int .u8 0, .int .u8 0, .int .u8 0, .int .u8 0, .int .u8 0, .int .u8 0, .int .u8 0, .int .u8 0, .int .u8 0, .int .u8 0, .int .u8 0, .int .u8 0, .int .u8 0, .int .u8 0, .int .u8 0] := by kernel_rfl
  have HZ := Lib.hid hz
  have HO := Lib.hid ho
  have HE := Lib.hid he
  clear hz ho he
  generalize inkZ = zd at HZ HO HE ⊢
  have hX : Below w.heap.size w (w.alloc (.cells zd 60)) := (Below.refl _ _).alloc (Nat.le_refl _) _
  have HN := Lib.hid (fun W hb => bookNone_true W p (h.below hb))
  have HX := Lib.hid hX
  clear h hX
  go_enter Tryz.func186, Tryz.ntmps186
  go_wp2_with fail
  refine (HN.out _ ((Below.refl _ _).alloc (Nat.le_refl _) _)).mono ?_
  rintro _ _ ⟨rfl, rfl⟩
  go_wp2_with (refine wpList_store_part rfl 60 (.tmp 4) _ rfl w.heap.size 0 zd rfl (by rw [HE.out]; rfl) 60 zd (by rw [HE.out]; exact Blk.newAt rfl) (by rw [HZ.out]; rfl) (by rw [HZ.out]; simp) HO.out ?_; intro W5 hT5 hB5; rw [spl_self _ _ rfl] at hB5)
  refine bodyPost_ret (results_part2 rfl _ _ w.heap.size 32 60 _ _ rfl hB5 Tryz.underlying60 rfl rfl HZ.out) rfl ⟨rfl, ?_⟩
  have := HX.out
  rw [HE.out] at this
  exact hT5.below this (Nat.le_refl _)

end Go.Proofs.YtdpoedgjehofiaaGreat

/- (*Book).Of of bytes of any number; Len and Clash out of worlds that are alike. -/
namespace Go.Proofs.YtdpoedgjehofiaaGreat
set_option linter.unusedVariables false
open Go.RowKit Go.Maps

/-- what a book has once it was asked of bytes of any number -/
def noteInk (l : List (List UInt8)) (x : List UInt8) : List (List UInt8) := if x.length ≤ 65536 then addInk l x else l
def noteN (asked : Nat) (x : List UInt8) : Nat := if x.length ≤ 65536 then asked + 1 else asked
/-- Of's answer -/
structure OfAns (D : Array Value) (code : Int) (x : List UInt8) : Prop where
  size : D.size = 32
  one : D.all (·.oneCell') = true
  small : x.length ≤ 65536 → code = 0 ∧ D = bRow (shaOf x)
  big : 65536 < x.length → code = 5 ∧ D = inkZ
theorem noteN_le (asked : Nat) (x : List UInt8) : noteN asked x ≤ asked + 1 := by unfold noteN; split <;> omega

theorem inkOf_all (k : Book) (l : List (List UInt8)) (asked : Nat) (A : Option Addr) (n c : Nat) (xs : List UInt8) (w : World) (B : Nat) (hbk : BookAt w k l asked) (h : Reads w B 1 A n (xs.map vb)) (hB : B ≤ w.heap.size)
    (hk : ∀ a, 0 < n → A = some a → ¬ k.has a.block) (hc : n ≤ c) (hcm : c ≤ maxLen) (has : asked ≤ 1000000) :
    Calls Tryz.prog 186 #[.pointer (some ⟨k.g, 0, none⟩), .slice A n c] w fun e w' => ∃ D code, e = .returned (.tuple #[.agg D, .int .i64 code]) ∧ OfAns D code xs ∧ BookAt w' k (noteInk l xs) (noteN asked xs) ∧ OnlyBook k w w' := by
  have hxn : xs.length = n := by have := h.1; simpa using this
  by_cases hn : n ≤ 65536
  · refine (inkOf_any k l asked A n c xs w B hbk h hB (fun a h0 ha e => hk a h0 ha (.inl e)) hc hcm hn has).mono ?_
    rintro e w' ⟨rfl, hb, ho⟩
    have hx : xs.length ≤ 65536 := by omega
    refine ⟨_, _, rfl, ⟨by rw [bRow_size, shaOf_len], bRow_one _, fun _ => ⟨rfl, rfl⟩, fun hh => absurd hh (by omega)⟩, ?_, ho⟩
    unfold noteInk noteN
    rw [if_pos hx, if_pos hx]
    exact hb
  · refine (inkOf_big k l asked A n c w hbk (by omega) hc hcm).mono ?_
    rintro e w' ⟨rfl, hb⟩
    have hx : ¬ xs.length ≤ 65536 := by omega
    refine ⟨_, _, rfl, ⟨by simp [inkZ, bRow], bRow_one _, fun hh => absurd hh hx, fun _ => ⟨rfl, rfl⟩⟩, ?_, OnlyBook.of_below hb⟩
    unfold noteInk noteN
    rw [if_neg hx, if_neg hx]
    exact hbk.below hb
theorem clash_one (x : List UInt8) : clashB (addInk [] x) = (shaOf x == List.replicate 32 0) := by
  have h1 : addInk [] x = [x] := by unfold addInk; simp
  have h2 : firstOf [x] (shaOf x) = some x := by unfold firstOf; simp
  have h3 : moreOf [x] = [] := by unfold moreOf; simp [h2]
  unfold clashB
  rw [h1, h3]
  unfold firstOf
  generalize (List.replicate 32 0 : List UInt8) = z
  by_cases h : shaOf x = z <;> simp [h]
theorem Book.apart_of {k q : Book} {B : Nat} (hk : k.g < B ∧ k.b1 < B ∧ k.b2 < B) (hq : B ≤ q.g ∧ B ≤ q.b1 ∧ B ≤ q.b2) : (¬ q.has k.g ∧ ¬ q.has k.b1 ∧ ¬ q.has k.b2) ∧ (¬ k.has q.g ∧ ¬ k.has q.b1 ∧ ¬ k.has q.b2) := by
  refine ⟨⟨?_, ?_, ?_⟩, ?_, ?_, ?_⟩ <;> rintro (e | e | e) <;> omega

end Go.Proofs.YtdpoedgjehofiaaGreat

/- What a book has of the first k of a list. -/
namespace Go.Proofs.YtdpoedgjehofiaaGreat
set_option linter.unusedVariables false
open Go.RowKit Go.Maps

def inkL (xss : List (List UInt8)) (k : Nat) : List (List UInt8) := (xss.take k).foldl noteInk []
def inkN (xss : List (List UInt8)) (k : Nat) : Nat := (xss.take k).foldl noteN 0
theorem inkL_next (xss : List (List UInt8)) (k : Nat) (h : k < xss.length) : inkL xss (k + 1) = noteInk (inkL xss k) (xss[k]) := by
  unfold inkL
  rw [List.take_succ_eq_append_getElem h, List.foldl_append]; rfl
theorem inkN_next (xss : List (List UInt8)) (k : Nat) (h : k < xss.length) : inkN xss (k + 1) = noteN (inkN xss k) (xss[k]) := by
  unfold inkN
  rw [List.take_succ_eq_append_getElem h, List.foldl_append]; rfl
theorem inkN_le (xss : List (List UInt8)) (k : Nat) : inkN xss k ≤ k := by
  induction k with
  | zero => exact Nat.le_refl _
  | succ k ih =>
    rcases Nat.lt_or_ge k xss.length with h | h
    · rw [inkN_next xss k h]
      have := noteN_le (inkN xss k) (xss[k])
      omega
    · have : inkN xss (k + 1) = inkN xss k := by
        unfold inkN
        rw [List.take_of_length_le (by omega), List.take_of_length_le (by omega)]
      omega
theorem noteInk_mem {l : List (List UInt8)} {x y : List UInt8} (h : y ∈ l) : y ∈ noteInk l x := by
  unfold noteInk addInk
  split
  · split
    · exact h
    · exact List.mem_append_left _ h
  · exact h
theorem inkL_mem (xss : List (List UInt8)) (m : Nat) : ∀ k, k < m → ∀ h : k < xss.length, xss[k].length ≤ 65536 → xss[k] ∈ inkL xss m := by
  induction m with
  | zero => exact fun k hk => absurd hk (Nat.not_lt_zero k)
  | succ m ih =>
    intro k hk h hx
    rcases Nat.lt_or_ge m xss.length with hm | hm
    · rw [inkL_next xss m hm]
      rcases Nat.lt_or_ge k m with hkm | hkm
      · exact noteInk_mem (ih k hkm h hx)
      · obtain rfl : k = m := by omega
        unfold noteInk addInk
        rw [if_pos hx]
        split
        · assumption
        · simp
    · have e : inkL xss (m + 1) = inkL xss m := by
        unfold inkL
        rw [List.take_of_length_le (by omega), List.take_of_length_le (by omega)]
      rw [e]
      exact ih k (by omega) h hx
theorem addInk_mem {l : List (List UInt8)} {x : List UInt8} (h : x ∈ l) : addInk l x = l := by unfold addInk; rw [if_pos h]
/-- no clash: unlike ones have unlike digests -/
theorem clash_inj {l : List (List UInt8)} (h : clashB l = false) {x y : List UInt8} (hx : x ∈ l) (hy : y ∈ l) (he : shaOf x = shaOf y) : x = y := by
  unfold clashB at h
  rw [Bool.or_eq_false_iff] at h
  have hm : moreOf l = [] := by
    have := h.2
    simp at this
    exact this
  have hf : ∀ z, z ∈ l → firstOf l (shaOf z) = some z := fun z hz => by
    have := List.filter_eq_nil_iff.1 hm z hz
    simpa using this
  have h1 := hf x hx
  have h2 := hf y hy
  rw [he, h2] at h1
  injection h1 with h1
  exact h1.symm

end Go.Proofs.YtdpoedgjehofiaaGreat

/- Arguments, opened: bytes, numbers, arrays of numbers, lists of bytes, as lists that memory reads as. No program is named. -/
namespace Go.Proofs.YtdpoedgjehofiaaGreat
set_option linter.unusedVariables false
open Go.RowKit Go.WideShapes Go.ChangeShapes

/-- each slice of a datum takes no more bytes than a process can have -/
def Light {H : Type} (P : Program) (t : TypeId) (d : DataW H) : Prop := ∀ n ∈ d.weights P t, n ≤ reachBytes
theorem light_of {H : Type} {P : Program} {ts : List TypeId} {ds : List (DataW H)} (h : (DataW.weightsEach P ts ds).all (· ≤ reachBytes) = true) (j : Nat) {t : TypeId} {d : DataW H} (ht : ts[j]? = some t) (hd : ds[j]? = some d) : Light P t d := fun n hn => by
  have := List.all_eq_true.1 h n (DataW.weights_mem_each ht hd n hn)
  simpa using this
theorem weightsAll_mem {H : Type} {P : Program} {e : TypeId} : ∀ {l : List (DataW H)} {d : DataW H}, d ∈ l → ∀ n ∈ d.weights P e, n ∈ DataW.weightsAll P e l
  | d0 :: l, d, hd, n, hn => by
    simp only [DataW.weightsAll, List.mem_append]
    rcases List.mem_cons.1 hd with rfl | hd
    · exact .inl hn
    · exact .inr (weightsAll_mem hd n hn)
  | [], _, hd, _, _ => by simp at hd
theorem light_slice {H : Type} {P : Program} {t e : TypeId} {l s : List (DataW H)} (ht : P.underlying t = some (.slice e)) (h : Light P t (.slice l s)) : (l.length + s.length) * P.bytesOf e ≤ reachBytes ∧ ∀ d, d ∈ l ∨ d ∈ s → Light P e d := by
  unfold Light at h
  rw [DataW.weights] at h
  simp only [ht] at h
  refine ⟨h _ (List.mem_cons_self ..), fun d hd n hn => h n ?_⟩
  refine List.mem_cons_of_mem _ (List.mem_append.2 ?_)
  rcases hd with hd | hd
  · exact .inl (weightsAll_mem hd n hn)
  · exact .inr (weightsAll_mem hd n hn)

section
variable {H : Type} {enc : TypeId × Value → H} {P : Program} {w : World} {held : Bool}

theorem u8_of_wf {z : Int} (h : (Lit.int .u8 z).wf = true) : Value.int .u8 z = vb (UInt8.ofNat z.toNat) := by
  have hb := bounds_u8 h
  unfold vb bi
  congr 1
  rw [UInt8.toNat_ofNat']
  omega

theorem open_bytes {t e : TypeId} (ht : P.underlying t = some (.slice e)) (he : P.underlying e = some (.int .u8)) (hc : P.cellsOf e = 1) (hby : P.bytesOf e = 1) {fuel : Nat} {cs : List Value} {x : DataW H × List MemPlace}
    (h : DataW.trod enc P w 0 (fun _ => true) held fuel t cs = some x) (hw : Light P t x.1) :
    ∃ (A : Option Addr) (n c : Nat) (xs : List UInt8), cs = [.slice A n c] ∧ Reads w w.heap.size 1 A n (xs.map vb) ∧ n ≤ c ∧ c ≤ reachBytes := by
  rcases open_ints ht he hc h with ⟨rfl, rfl⟩ | ⟨a, len, cap, zs, rfl, _, hl, hm, hz, rfl, hcell, hwf⟩
  · exact ⟨none, 0, 0, [], rfl, Reads.none_, Nat.le_refl _, Nat.zero_le _⟩
  · have hz' : zs.length = cap := by simpa using hz
    have hlight := (light_slice ht hw).1
    rw [hby] at hlight
    simp only [lits, List.length_map, List.length_take, List.length_drop] at hlight
    refine ⟨some a, len, cap, (zs.take len).map (fun z => UInt8.ofNat z.toNat), rfl, ⟨by simp; omega, fun hn => ⟨a, rfl, ?_, ?_⟩⟩, hl, by omega⟩
    · have := hcell 0 (by omega)
      have hb := World.block_lt_of_cell? _ _ this
      rwa [block_of_add] at hb
    · intro j u hu
      obtain ⟨hj, rfl⟩ := getElem?_vb hu
      have hjl : j < zs.length := by simp at hj; omega
      rw [hcell j hjl]
      have hz : zs.getD j 0 = zs[j] := by rw [List.getD_eq_getElem?_getD, List.getElem?_eq_getElem hjl]; rfl
      rw [hz, u8_of_wf (hwf zs[j] (List.getElem_mem hjl)), List.getElem_map, List.getElem_take]
      rfl

/-- numbers as cells -/
def vn (z : Int) : Value := .int .i64 z
theorem open_nums {t e : TypeId} (ht : P.underlying t = some (.slice e)) (he : P.underlying e = some (.int .i64)) (hc : P.cellsOf e = 1) (hby : P.bytesOf e = 8) {fuel : Nat} {cs : List Value} {x : DataW H × List MemPlace}
    (h : DataW.trod enc P w 0 (fun _ => true) held fuel t cs = some x) (hw : Light P t x.1) :
    ∃ (A : Option Addr) (n c : Nat) (xs : List Int), cs = [.slice A n c] ∧ Reads w w.heap.size 1 A n (xs.map vn) ∧ n ≤ c ∧ 8 * c ≤ reachBytes ∧ ∀ z ∈ xs, -9223372036854775808 ≤ z ∧ z ≤ 9223372036854775807 := by
  rcases open_ints ht he hc h with ⟨rfl, rfl⟩ | ⟨a, len, cap, zs, rfl, _, hl, hm, hz, rfl, hcell, hwf⟩
  · exact ⟨none, 0, 0, [], rfl, Reads.none_, Nat.le_refl _, Nat.zero_le _, by simp⟩
  · have hz' : zs.length = cap := by simpa using hz
    have hlight := (light_slice ht hw).1
    rw [hby] at hlight
    simp only [lits, List.length_map, List.length_take, List.length_drop] at hlight
    refine ⟨some a, len, cap, zs.take len, rfl, ⟨by simp; omega, fun hn => ⟨a, rfl, ?_, ?_⟩⟩, hl, by omega, fun z hz' => bounds_i64 (hwf z (List.mem_of_mem_take hz'))⟩
    · have := hcell 0 (by omega)
      have hb := World.block_lt_of_cell? _ _ this
      rwa [block_of_add] at hb
    · intro j u hu
      rw [List.getElem?_map, List.getElem?_take] at hu
      split at hu
      · rename_i hj
        have hjl : j < zs.length := by omega
        rw [List.getElem?_eq_getElem hjl] at hu
        rw [hcell j hjl, List.getD_eq_getElem?_getD, List.getElem?_eq_getElem hjl]
        exact hu
      · cases hu

theorem okWide_arr {t e : TypeId} {n : Nat} {r : Reach} {base : Nat} {v : Value} (ht : P.underlying t = some (.array n e)) (h : Value.okWide P w r base t v) : ∃ cs, v = .agg cs ∧ cs.size = P.cellsOf t := by
  unfold Value.okWide at h
  rw [ht] at h
  obtain ⟨cs, h1, h2, _⟩ := h
  exact ⟨cs, h1, h2⟩
theorem okWide_str {t : TypeId} {fs : Array Field} {r : Reach} {base : Nat} {v : Value} (ht : P.underlying t = some (.struct fs)) (h : Value.okWide P w r base t v) : ∃ cs, v = .agg cs ∧ cs.size = P.cellsOf t := by
  unfold Value.okWide at h
  rw [ht] at h
  obtain ⟨cs, h1, h2, _⟩ := h
  exact ⟨cs, h1, h2⟩
/-- an array of numbers -/
theorem open_array {t e : TypeId} {n : Nat} {k : IntKind} (ht : P.underlying t = some (.array n e)) (he : P.underlying e = some (.int k)) (hc : P.cellsOf e = 1) (ht1 : P.cellsOf t = n) {fuel : Nat} {cs : List Value} {x : DataW H × List MemPlace}
    (h : DataW.trod enc P w 0 (fun _ => true) held fuel t cs = some x) : cs.length = n ∧ ∀ j, j < n → ∃ z, cs[j]? = some (.int k z) ∧ (Lit.int k z).wf = true := by
  obtain ⟨xs, m, rfl, rfl, hl, hxl, hx⟩ := DataW.trod_array ht h
  rw [ht1] at hl
  refine ⟨hl, fun j hj => ?_⟩
  have hy := hx j hj
  rw [hc, Nat.mul_one, List.getElem?_eq_getElem (by omega)] at hy
  have hcj : (cs.drop j).take 1 = [cs[j]'(by omega)] := by
    rw [List.take_one, List.head?_drop, List.getElem?_eq_getElem (by omega)]; rfl
  rw [hcj] at hy
  obtain ⟨z, hz, _, hwf⟩ := DataW.trod_int he hy
  exact ⟨z, by rw [List.getElem?_eq_getElem (by omega)]; congr 1; simpa using hz, hwf⟩

/-- lists of bytes, as memory reads -/
def Rows2 (w : World) (A : Option Addr) (n : Nat) (xss : List (List UInt8)) : Prop :=
  xss.length = n ∧ (0 < n → ∃ ad, A = some ad ∧ ad.block < w.heap.size ∧ ∀ j xs, xss[j]? = some xs → ∃ B m c, w.cell? (ad.add j) = some (.slice B m c) ∧ Reads w w.heap.size 1 B m (xs.map vb) ∧ m ≤ c ∧ c ≤ reachBytes)
theorem open_rows {t e q : TypeId} (ht : P.underlying t = some (.slice e)) (he : P.underlying e = some (.slice q)) (hq : P.underlying q = some (.int .u8)) (hce : P.cellsOf e = 1) (hcq : P.cellsOf q = 1) (hbe : P.bytesOf e = 24) (hbq : P.bytesOf q = 1) {fuel : Nat} {cs : List Value} {x : DataW H × List MemPlace}
    (h : DataW.trod enc P w 0 (fun _ => true) held fuel t cs = some x) (hw : Light P t x.1) :
    ∃ (A : Option Addr) (n c : Nat) (xss : List (List UInt8)), cs = [.slice A n c] ∧ Rows2 w A n xss ∧ n ≤ c ∧ 24 * c ≤ reachBytes := by
  rcases Deep.open_slice1 ht hce h with ⟨rfl, rfl⟩ | ⟨a, len, cap, m, n, V, D, Pl, rfl, _, hl, hm, hmm, rfl, hx⟩
  · exact ⟨none, 0, 0, [], rfl, ⟨rfl, fun h => absurd h (by omega)⟩, Nat.le_refl _, Nat.zero_le _⟩
  · simp only [if_true] at hmm
    subst hmm
    have hlight := light_slice ht hw
    have hlt := hlight.1
    rw [hbe] at hlt
    simp only [List.length_map, List.length_range] at hlt
    have each : ∀ i, i < len → ∃ y : Option Addr × Nat × Nat × List UInt8, V i = .slice y.1 y.2.1 y.2.2.1 ∧ Reads w w.heap.size 1 y.1 y.2.1 (y.2.2.2.map vb) ∧ y.2.1 ≤ y.2.2.1 ∧ y.2.2.1 ≤ reachBytes := by
      intro i hi
      obtain ⟨A, k, c, xs, hcs, hr, h1, h2⟩ := open_bytes he hq hcq hbq (hx i (by omega)).2 (hlight.2 _ (.inl (List.mem_map.2 ⟨i, List.mem_range.2 hi, rfl⟩)))
      exact ⟨(A, k, c, xs), by simpa using hcs, hr, h1, h2⟩
    obtain ⟨y, hy⟩ := Go.Deep.choose_lt (α := Option Addr × Nat × Nat × List UInt8) (p := fun i y => V i = .slice y.1 y.2.1 y.2.2.1 ∧ Reads w w.heap.size 1 y.1 y.2.1 (y.2.2.2.map vb) ∧ y.2.1 ≤ y.2.2.1 ∧ y.2.2.1 ≤ reachBytes) each
    refine ⟨some a, len, m, (List.range len).map fun i => (y i).2.2.2, rfl, ⟨by simp, fun hn => ⟨a, rfl, ?_, fun j xs hj => ?_⟩⟩, hl, by omega⟩
    · have := (hx 0 (by omega)).1
      have hb := World.block_lt_of_cell? _ _ this
      rwa [block_of_add] at hb
    · rw [List.getElem?_map] at hj
      rcases Nat.lt_or_ge j len with hjl | hjl
      · rw [List.getElem?_range hjl] at hj
        simp only [Option.map_some, Option.some.injEq] at hj
        subst hj
        obtain ⟨h1, h2, h3, h4⟩ := hy j hjl
        exact ⟨_, _, _, by rw [(hx j (by omega)).1, h1], h2, h3, h4⟩
      · rw [List.getElem?_eq_none (by simpa using hjl)] at hj
        simp at hj
end

end Go.Proofs.YtdpoedgjehofiaaGreat

/- Contract of the helper Bring. -/
namespace Go.Proofs.YtdpoedgjehofiaaGreat
set_option linter.unusedVariables false
open Go.RowKit

/-- Bring's number -/
def bringF (i : Int) (n : Nat) : Nat := if i.tmod n < 0 then (i.tmod n + n).toNat else (i.tmod n).toNat
theorem bringF_lt (i : Int) (n : Nat) (hn : 0 < n) : bringF i n < n := by
  have h1 := Int.tmod_lt_of_pos i (show (0 : Int) < n by omega)
  have h2 := Int.lt_tmod_of_pos i (show (0 : Int) < n by omega)
  unfold bringF; split <;> omega

set_option maxHeartbeats 400000 in
theorem bring_any (i : Int) (n : Nat) (hn : 0 < n) (hm : n ≤ maxLen) (h1 : -9223372036854775808 ≤ i) (h2 : i ≤ 9223372036854775807) (w : World) :
    Calls Tryz.prog 44 #[.int .i64 i, .int .i64 (n : Int)] w fun e w' => e = .returned (.int .i64 (bringF i n : Int)) ∧ w = w' := by
  unfold maxLen at hm
  have hmod := Int.tmod_lt_of_pos i (show (0 : Int) < n by omega)
  have hmod2 := Int.lt_tmod_of_pos i (show (0 : Int) < n by omega)
  go_enter Tryz.func44, Tryz.ntmps44
  go_wp2
  all_goals go_ret
  · rename_i h; exact ⟨ret_int (by unfold bringF; rw [if_pos (by omega)]; omega), rfl⟩
  · rename_i h; exact ⟨ret_int (by unfold bringF; rw [if_neg (by omega)]; omega), rfl⟩


end Go.Proofs.YtdpoedgjehofiaaGreat

/- Contracts of (*ink.Book).Clash. -/
namespace Go.Proofs.YtdpoedgjehofiaaGreat
set_option linter.unusedVariables false
open Go.RowKit Go.Maps

set_option maxHeartbeats 400000 in
set_option maxRecDepth 100000 in
theorem inkClash_any (k : Book) (l : List (List UInt8)) (n : Nat) (w : World) (h : BookAt w k l n) :
    Calls Tryz.prog 55 #[.pointer (some ⟨k.g, 0, none⟩)] w fun e w' => e = .returned (.bool (clashB l)) ∧ w = w' := by
  have c0 : w.cell? ⟨k.g, 0, none⟩ = some (.map (some k.b1)) := (h.cells.cell 0).trans rfl
  have c1 : w.cell? ⟨k.g, 1, none⟩ = some (.map (some k.b2)) := (h.cells.cell 1).trans rfl
  have HN := Lib.hid (bookNone_false k l n w h)
  obtain ⟨D1, D2, n1, n2, h1, h2, h3⟩ := h.maps
  have hlk := look_dig h1 h3 (List.replicate 32 0) (by simp)
  have l2 := h2.len Tryz.underlying121 3
  rw [h3.size2] at l2
  have hz : bRow (List.replicate 32 0) = #[.int .u8 0, .int .u8 0, .int .u8 0, .int .u8 0, .int .u8 0, .int .u8 0, .int .u8 0, .int .u8 0, .int .u8 0, .int .u8 0, .int .u8 0, .int .u8 0, .int .u8 0, .int .u8 0, .int .u8 0, .int .u8 0, .int .u8 0, .int .u8 0, .int .u8 0, .int .u8 0, .int .u8 0, .int .u8 0, .int .u8 0, .int .u8 0, .int .u8 0, .int .u8 0, .int .u8 0, .int .u8 0, .int .u8 0, .int .u8 0, .int .u8 0, .int .u8 0] := by kernel_rfl
  rw [hz] at hlk
  have hcl : clashB l = ((firstOf l (List.replicate 32 0)).isSome || decide (0 < (moreOf l).length)) := rfl
  generalize (⟨((firstOf l (List.replicate 32 0)).getD []).toArray⟩ : ByteArray) = sv at hlk
  generalize hb1 : (firstOf l (List.replicate 32 0)).isSome = p at hlk hcl
  generalize (moreOf l).length = m at l2 hcl
  have HCL := Lib.hid hcl
  clear h h1 h2 h3 hz hb1 hcl
  cases p with
  | true =>
    go_enter Tryz.func55, Tryz.ntmps55
    go_wp2_with (go_at_call 109; refine HN.out.mono ?_; rintro _ _ ⟨rfl, rfl⟩)
    go_ret
    exact ⟨by rw [HCL.out]; rfl, rfl⟩
  | false =>
    by_cases hm : 0 < m
    · have hm1 : decide (0 < (m : Int)) = true := by simp; omega
      go_enter Tryz.func55, Tryz.ntmps55
      go_wp2_with (go_at_call 109; refine HN.out.mono ?_; rintro _ _ ⟨rfl, rfl⟩)
      go_ret
      exact ⟨by rw [HCL.out, decide_eq_true hm]; rfl, rfl⟩
    · obtain rfl : m = 0 := by omega
      go_enter Tryz.func55, Tryz.ntmps55
      go_wp2_with (go_at_call 109; refine HN.out.mono ?_; rintro _ _ ⟨rfl, rfl⟩)
      go_ret
      exact ⟨by rw [HCL.out]; rfl, rfl⟩
theorem inkClash_none (w : World) (p : Option Addr) (h : NoBook w p) : Calls Tryz.prog 55 #[.pointer p] w fun e w' => e = .returned (.bool false) ∧ w = w' := by
  have HN := Lib.hid (bookNone_true w p h)
  clear h
  go_enter Tryz.func55, Tryz.ntmps55
  go_wp2_with (go_at_call 109; refine HN.out.mono ?_; rintro _ _ ⟨rfl, rfl⟩)
  go_ret
  exact ⟨rfl, rfl⟩
/-- Clash, where what comes after cares for nothing but what was there -/
theorem inkClash_b (k : Book) (l : List (List UInt8)) (n : Nat) (w : World) (h : BookAt w k l n) :
    Calls Tryz.prog 55 #[.pointer (some ⟨k.g, 0, none⟩)] w fun e w' => e = .returned (.bool (clashB l)) ∧ Below w.heap.size w w' :=
  (inkClash_any k l n w h).mono fun e w' ⟨he, hw⟩ => ⟨he, hw ▸ Below.refl _ _⟩

end Go.Proofs.YtdpoedgjehofiaaGreat

/- Bytes beside a book. -/
namespace Go.Proofs.YtdpoedgjehofiaaGreat
set_option linter.unusedVariables false
open Go.RowKit Go.Maps

theorem Reads.only {w w' : World} {B n : Nat} {A : Option Addr} {xs : List Value} {k : Book} (h : Reads w B 1 A n xs) (ho : OnlyBook k w w') (hB : B ≤ w.heap.size) (hk : ∀ a, 0 < n → A = some a → ¬ k.has a.block) : Reads w' B 1 A n xs :=
  ⟨h.1, fun h0 => by
    obtain ⟨ad, rfl, hb, hc⟩ := h.2 h0
    refine ⟨ad, rfl, hb, fun j u hj => ?_⟩
    have he : (ad.add j).block = ad.block := by simp [Addr.add]; split <;> rfl
    have hh := ho.block ad.block (Nat.lt_of_lt_of_le hb hB) (hk ad h0 rfl)
    rw [← hc j u hj]
    exact World.cell?_of_block (w := w) (by rw [he]; exact hh)⟩
theorem Reads.above {w : World} {B n : Nat} {A : Option Addr} {xs : List Value} {k : Book} (h : Reads w B 1 A n xs) (hk : B ≤ k.g ∧ B ≤ k.b1 ∧ B ≤ k.b2) : ∀ a, 0 < n → A = some a → ¬ k.has a.block := fun a h0 ha => by
  obtain ⟨ad, rfl, hb, _⟩ := h.2 h0
  injection ha with ha
  subst ha
  rintro (e | e | e) <;> omega
theorem OnlyBook.below' {k : Book} {w w' w'' : World} (h : OnlyBook k w w') (hb : Below w'.heap.size w' w'') : OnlyBook k w w'' := h.trans (OnlyBook.of_below hb)
theorem BookAt.keep {w w' : World} {k : Book} {l : List (List UInt8)} {n : Nat} (h : BookAt w k l n) (hk : ∀ b, k.has b → w'.heap[b]? = w.heap[b]?) : BookAt w' k l n := by
  obtain ⟨D1, D2, n1, n2, h1, h2, h3⟩ := h.maps
  refine ⟨(hk _ (.inl rfl)).trans h.cells, ⟨D1, D2, n1, n2, ?_, ?_, h3⟩, h.len, h.apart⟩
  · obtain ⟨es, c, hb, F, hs, hD⟩ := h1
    exact ⟨es, c, (hk _ (.inr (.inl rfl))).trans hb, F, hs, hD⟩
  · obtain ⟨es, c, hb, F, hs, hD⟩ := h2
    exact ⟨es, c, (hk _ (.inr (.inr rfl))).trans hb, F, hs, hD⟩
theorem BookAt.has_lt {w : World} {k : Book} {l : List (List UInt8)} {n : Nat} (h : BookAt w k l n) {b : Nat} (hb : k.has b) : b < w.heap.size := by
  have := h.lt
  rcases hb with rfl | rfl | rfl <;> omega

end Go.Proofs.YtdpoedgjehofiaaGreat

/- Contracts of bastidelaw03.noted and works. -/
namespace Go.Proofs.YtdpoedgjehofiaaGreat
set_option linter.unusedVariables false
open Go.RowKit Go.Maps

end Go.Proofs.YtdpoedgjehofiaaGreat

/- Len and Asked of a book, and of none. -/
namespace Go.Proofs.YtdpoedgjehofiaaGreat
set_option linter.unusedVariables false
open Go.RowKit Go.Maps

end Go.Proofs.YtdpoedgjehofiaaGreat

/- Contract of bastidelaw03.works. -/
namespace Go.Proofs.YtdpoedgjehofiaaGreat
set_option linter.unusedVariables false
open Go.RowKit Go.Maps

/-- a constant's bytes -/
theorem reads_lit (W : World) (xs : List UInt8) (t : TypeId) (fr : Nat × Nat) : Reads (W.alloc (.cells (xs.map vb).toArray t fr)) (W.heap.size + 1) 1 (some ⟨W.heap.size, 0, none⟩) xs.length (xs.map vb) := by
  refine ⟨by simp, fun _ => ⟨_, rfl, Nat.lt_succ_self _, fun j u hj => ?_⟩⟩
  have he : (⟨W.heap.size, 0, none⟩ : Addr).add j = ⟨W.heap.size, j, none⟩ := by
    unfold Addr.add; split
    · simp_all
    · simp
  rw [he, World.cell?_alloc_mark]
  simpa using hj
theorem below_lit (W : World) (o : Obj) : Below W.heap.size W (W.alloc o) := (Below.refl _ _).alloc (Nat.le_refl _) _
def abcB : List UInt8 := [97, 98, 99]
set_option maxRecDepth 100000 in
theorem works_clash : clashB (addInk (addInk (addInk [] abcB) abcB) []) = false := by kernel_rfl

end Go.Proofs.YtdpoedgjehofiaaGreat

/- noted of bytes of any number. -/
namespace Go.Proofs.YtdpoedgjehofiaaGreat
set_option linter.unusedVariables false
open Go.RowKit Go.Maps

end Go.Proofs.YtdpoedgjehofiaaGreat

/- When a book has a clash. -/
namespace Go.Proofs.YtdpoedgjehofiaaGreat
set_option linter.unusedVariables false

theorem firstOf_isSome (l : List (List UInt8)) (d : List UInt8) : (firstOf l d).isSome = true ↔ ∃ x, x ∈ l ∧ shaOf x = d := by
  unfold firstOf
  rw [List.find?_isSome]
  constructor
  · rintro ⟨x, hx, he⟩; exact ⟨x, hx, by simpa using he⟩
  · rintro ⟨x, hx, he⟩; exact ⟨x, hx, by simpa using he⟩
theorem clashB_iff (l : List (List UInt8)) : clashB l = true ↔ (∃ x, x ∈ l ∧ shaOf x = List.replicate 32 0) ∨ ∃ x y, x ∈ l ∧ y ∈ l ∧ x ≠ y ∧ shaOf x = shaOf y := by
  unfold clashB
  rw [Bool.or_eq_true, firstOf_isSome, decide_eq_true_iff]
  refine or_congr Iff.rfl ?_
  constructor
  · intro h
    obtain ⟨x, hx⟩ := List.exists_mem_of_length_pos h
    unfold moreOf at hx
    rw [List.mem_filter] at hx
    obtain ⟨h1, h2⟩ := hx
    obtain ⟨y, hy⟩ := firstOf_mem h1
    rw [hy] at h2
    obtain ⟨h3, h4⟩ := firstOf_some hy
    refine ⟨x, y, h1, h3, fun e => ?_, h4.symm⟩
    subst e
    simp at h2
  · rintro ⟨x, y, hx, hy, hne, he⟩
    have key : ∀ z, z ∈ l → firstOf l (shaOf z) ≠ some z → 0 < (moreOf l).length := fun z hz h => by
      apply List.length_pos_of_mem (a := z)
      unfold moreOf
      rw [List.mem_filter]
      exact ⟨hz, by simpa using h⟩
    by_cases h1 : firstOf l (shaOf x) = some x
    · refine key y hy fun h2 => hne ?_
      rw [he, h2] at h1
      injection h1 with h1
      exact h1.symm
    · exact key x hx h1
theorem noteInk_iff {l : List (List UInt8)} {x : List UInt8} (hx : x.length ≤ 65536) (y : List UInt8) : y ∈ noteInk l x ↔ y ∈ l ∨ y = x := by
  unfold noteInk addInk
  rw [if_pos hx]
  split
  · rename_i h
    constructor
    · exact .inl
    · rintro (h' | rfl)
      · exact h'
      · exact h
  · simp
theorem clash_step {l : List (List UInt8)} {x : List UInt8} (hx : x.length ≤ 65536) :
    clashB (noteInk l x) = true ↔ clashB l = true ∨ shaOf x = List.replicate 32 0 ∨ ∃ y, y ∈ l ∧ y ≠ x ∧ shaOf y = shaOf x := by
  rw [clashB_iff, clashB_iff]
  simp only [noteInk_iff hx]
  constructor
  · rintro (⟨y, hy | rfl, h⟩ | ⟨y, z, hy | rfl, hz | rfl, hne, h⟩)
    · exact .inl (.inl ⟨y, hy, h⟩)
    · exact .inr (.inl h)
    · exact .inl (.inr ⟨y, z, hy, hz, hne, h⟩)
    · exact .inr (.inr ⟨y, hy, hne, h⟩)
    · exact .inr (.inr ⟨z, hz, Ne.symm hne, h.symm⟩)
    · exact absurd rfl hne
  · rintro ((⟨y, hy, h⟩ | ⟨y, z, hy, hz, hne, h⟩) | h | ⟨y, hy, hne, h⟩)
    · exact .inl ⟨y, .inl hy, h⟩
    · exact .inr ⟨y, z, .inl hy, .inl hz, hne, h⟩
    · exact .inl ⟨x, .inr rfl, h⟩
    · exact .inr ⟨y, x, .inl hy, .inr rfl, hne, h⟩
theorem inkL_iff (xss : List (List UInt8)) (m : Nat) (x : List UInt8) : x ∈ inkL xss m ↔ x.length ≤ 65536 ∧ ∃ k, k < m ∧ xss[k]? = some x := by
  constructor
  · induction m with
    | zero => intro hx; simp [inkL] at hx
    | succ m ih =>
      intro hx
      rcases Nat.lt_or_ge m xss.length with hm | hm
      · rw [inkL_next xss m hm] at hx
        have old : x ∈ inkL xss m → x.length ≤ 65536 ∧ ∃ k, k < m + 1 ∧ xss[k]? = some x := fun h => by
          obtain ⟨h0, k, hk, he⟩ := ih h
          exact ⟨h0, k, by omega, he⟩
        unfold noteInk addInk at hx
        split at hx
        · split at hx
          · exact old hx
          · rcases List.mem_append.1 hx with h | h
            · exact old h
            · obtain rfl : x = xss[m] := by simpa using h
              rename_i h0 _
              exact ⟨h0, m, by omega, List.getElem?_eq_getElem hm⟩
        · exact old hx
      · have e : inkL xss (m + 1) = inkL xss m := by
          unfold inkL
          rw [List.take_of_length_le (by omega), List.take_of_length_le (by omega)]
        rw [e] at hx
        obtain ⟨h0, k, hk, he⟩ := ih hx
        exact ⟨h0, k, by omega, he⟩
  · rintro ⟨h0, k, hk, he⟩
    obtain ⟨hk2, he2⟩ := List.getElem?_eq_some_iff.1 he
    subst he2
    exact inkL_mem xss m k hk hk2 h0
/-- is one of the first j unlike x and of the same digest? -/
def sameB (x y : List UInt8) : Bool := decide (y.length ≤ 65536) && (!decide (y = x) && (shaOf y == shaOf x))
def anyB (xss : List (List UInt8)) (x : List UInt8) (j : Nat) : Bool := (xss.take j).any (sameB x)
theorem anyB_next (xss : List (List UInt8)) (x : List UInt8) (j : Nat) (h : j < xss.length) : anyB xss x (j + 1) = (anyB xss x j || sameB x xss[j]) := by
  unfold anyB
  rw [List.take_succ_eq_append_getElem h, List.any_append]; simp
theorem clash_next (xss : List (List UInt8)) (k : Nat) (h : k < xss.length) (hx : xss[k].length ≤ 65536) :
    clashB (inkL xss (k + 1)) = ((clashB (inkL xss k) || (shaOf xss[k] == List.replicate 32 0)) || anyB xss xss[k] k) := by
  rw [Bool.eq_iff_iff, inkL_next xss k h, clash_step hx, Bool.or_eq_true, Bool.or_eq_true, or_assoc]
  refine or_congr Iff.rfl (or_congr (by rw [beq_iff_eq]) ?_)
  unfold anyB sameB
  rw [List.any_eq_true]
  constructor
  · rintro ⟨y, hy, hne, he⟩
    obtain ⟨h0, j, hj, hg⟩ := (inkL_iff xss k y).1 hy
    obtain ⟨hj2, hg2⟩ := List.getElem?_eq_some_iff.1 hg
    refine ⟨y, List.mem_take_iff_getElem.2 ⟨j, by omega, hg2⟩, ?_⟩
    rw [decide_eq_true h0, decide_eq_false hne, he]; simp
  · rintro ⟨y, hy, he⟩
    rw [List.mem_take_iff_getElem] at hy
    obtain ⟨j, hj, hg⟩ := hy
    have hj2 : j < xss.length := by omega
    rw [Bool.and_eq_true, Bool.and_eq_true, decide_eq_true_iff, Bool.not_eq_true', decide_eq_false_iff_not, beq_iff_eq] at he
    exact ⟨y, (inkL_iff xss k y).2 ⟨he.1, j, by omega, by rw [List.getElem?_eq_getElem hj2, hg]⟩, he.2.1, he.2.2⟩

end Go.Proofs.YtdpoedgjehofiaaGreat
