/-
  Contract of (*Book).Of.
-/
import Derived.Test.YtcmbmimmfgfefaaGreatInk
import Derived.Deep.DeepCutAuto
namespace Go.Proofs.YtcmbmimmfgfefaaGreat
set_option linter.unusedVariables false
open Go.RowKit Go.Maps

theorem conv_str {W : World} {B n c : Nat} {A : Option Addr} {xs : List UInt8} (h : Reads W B 1 A n (xs.map vb)) : (convert 22 9 (.slice A n c)).run Tryz.prog W = .ok (.string ⟨xs.toArray⟩) W := by
  have hn : xs.length = n := by have := h.1; simpa using this
  rcases Nat.eq_zero_or_pos n with h0 | h0
  · subst h0
    have hx : xs = [] := List.eq_nil_of_length_eq_zero hn
    subst hx
    cases A with
    | none => exact run_convert_bytes_nil W 22 5 Tryz.underlying22 Tryz.underlying5 0 c 9 Tryz.underlying9
    | some ad => exact run_convert_bytes_back W 22 9 5 ad c [] Tryz.underlying22 Tryz.underlying5 Tryz.underlying9 (fun j hj => by simp at hj)
  · obtain ⟨ad, rfl, _, hc⟩ := h.2 h0
    rw [← hn]
    exact run_convert_bytes_back W 22 9 5 ad c xs Tryz.underlying22 Tryz.underlying5 Tryz.underlying9 (fun j hj => hc j _ (by rw [List.getElem?_map, List.getElem?_eq_getElem hj]; rfl))

theorem zeros32a : Array.replicate 32 (Value.int .u8 0) = #[.int .u8 0, .int .u8 0, .int .u8 0, .int .u8 0, .int .u8 0, .int .u8 0, .int .u8 0, .int .u8 0, .int .u8 0, .int .u8 0, .int .u8 0, .int .u8 0, .int .u8 0, .int .u8 0, .int .u8 0, .int .u8 0, .int .u8 0, .int .u8 0, .int .u8 0, .int .u8 0, .int .u8 0, .int .u8 0, .int .u8 0, .int .u8 0, .int .u8 0, .int .u8 0, .int .u8 0, .int .u8 0, .int .u8 0, .int .u8 0, .int .u8 0, .int .u8 0] := by kernel_rfl

theorem Reads.keepAt {w w' : World} {B n : Nat} {A : Option Addr} {xs : List Value} (h : Reads w B 1 A n xs) (hk : ∀ a, 0 < n → A = some a → ∀ p : Addr, p.block = a.block → w'.cell? p = w.cell? p) : Reads w' B 1 A n xs :=
  ⟨h.1, fun h0 => by obtain ⟨ad, rfl, hB, hc⟩ := h.2 h0; exact ⟨ad, rfl, hB, fun k u hu => (hk ad h0 rfl (ad.add k) (by simp [Addr.add]; split <;> rfl)).trans (hc k u hu)⟩⟩
theorem Reads.apart {w : World} {B n g : Nat} {A : Option Addr} {xs : List Value} (h : Reads w B 1 A n xs) (hB : B ≤ g) : ∀ a, 0 < n → A = some a → a.block ≠ g := fun a h0 ha e => by
  obtain ⟨ad, rfl, hb, _⟩ := h.2 h0
  injection ha with ha
  subst ha
  omega
theorem BookAt.asked {w : World} {k : Book} {l : List (List UInt8)} {n : Nat} (h : BookAt w k l n) : BookAt (w.setCell ⟨k.g, 2, none⟩ (.int .i64 ((n + 1 : Nat) : Int))) k l (n + 1) := by
  obtain ⟨D1, D2, n1, n2, h1, h2, h3⟩ := h.maps
  exact ⟨h.cells.set_ 2 _, ⟨D1, D2, n1, n2, h1.setCell (a := ⟨k.g, 2, none⟩) (Ne.symm h.apart.1) _, h2.setCell (a := ⟨k.g, 2, none⟩) (Ne.symm h.apart.2.1) _, h3⟩, Nat.le_succ_of_le h.len, h.apart⟩

theorem BookAt.grown {w w' : World} {k : Book} {l : List (List UInt8)} {n b : Nat} (h : BookAt w k l n) (hg : w.grownBy w' (some b)) (hb : b ≠ k.g ∧ b ≠ k.b1 ∧ b ≠ k.b2) : BookAt w' k l n := by
  obtain ⟨D1, D2, n1, n2, h1, h2, h3⟩ := h.maps
  exact ⟨h.cells.beside hg (Ne.symm hb.1), ⟨D1, D2, n1, n2, h1.kept hg (fun e => hb.2.1 (by injection e with e; exact e.symm)), h2.kept hg (fun e => hb.2.2 (by injection e with e; exact e.symm)), h3⟩, h.len, h.apart⟩
theorem OnlyBook.grown {k : Book} {w w' w'' : World} {b : Nat} (h : OnlyBook k w w') (hg : w'.grownBy w'' (some b)) (hb : w.heap.size ≤ b) : OnlyBook k w w'' :=
  ⟨hg.os.trans h.os, hg.tape.trans h.tape, hg.output.trans h.output, Nat.le_trans h.size hg.size, fun i hi hn => (hg.block i (Nat.lt_of_lt_of_le hi h.size) (fun e => by injection e with e; omega)).trans (h.block i hi hn)⟩

set_option maxRecDepth 100000 in
set_option maxHeartbeats 2000000 in
theorem inkOf_any (k : Book) (l : List (List UInt8)) (asked : Nat) (A : Option Addr) (n c : Nat) (xs : List UInt8) (w : World) (B : Nat) (hbk : BookAt w k l asked) (h : Reads w B 1 A n (xs.map vb)) (hB : B ≤ w.heap.size)
    (hk : ∀ a, 0 < n → A = some a → a.block ≠ k.g) (hc : n ≤ c) (hcm : c ≤ maxLen) (hn : n ≤ 65536) (has : asked ≤ 1000000) :
    Calls Tryz.prog 16 #[.pointer (some ⟨k.g, 0, none⟩), .slice A n c] w fun e w' => e = .returned (.tuple #[.agg (bRow (shaOf xs)), .int .i64 0]) ∧ BookAt w' k (addInk l xs) (asked + 1) ∧ OnlyBook k w w' := by
  have HK := Lib.hid hk
  clear hk
  have hxn : xs.length = n := by have := h.1; simpa using this
  have HXN := Lib.hid hxn
  have HKB := Lib.hid hbk
  have HRD := Lib.hid h
  unfold maxLen at hcm
  clear hbk h hxn
  go_enter Tryz.func16, Tryz.ntmps16
  go_wp2_with fail
  have hW := Blk.new w 32 (Array.replicate 32 (.int .u8 0))
  have hX1 : Below w.heap.size w (w.alloc (.cells (Array.replicate 32 (.int .u8 0)) 32)) := (Below.refl _ _).alloc (Nat.le_refl _) _
  have hS1 : (w.alloc (.cells (Array.replicate 32 (.int .u8 0)) 32)).heap.size = w.heap.size + 1 := by simp
  have HKB1 := Lib.hid (HKB.out.below hX1)
  have HRD1 := Lib.hid (HRD.out.below (hX1.mono hB))
  rw [zeros32a] at hW hX1 hS1 HKB1 HRD1
  obtain ⟨gd, hgd⟩ : ∃ g, g = w.heap.size := ⟨_, rfl⟩
  rw [← hgd] at hW hS1 ⊢
  generalize w.alloc _ = W1 at hW hX1 hS1 HKB1 HRD1 ⊢
  have hkl := HKB.out.lt
  rw [← hgd] at hkl
  have hgB : B ≤ gd := by rw [hgd]; exact hB
  have HGD := Lib.hid hgd
  clear hgd
  have HD1 := Lib.hid hW
  have HX1 := Lib.hid hX1
  clear hW hX1
  have c2 : W1.cell? ⟨k.g, 2, none⟩ = some (.int .i64 (asked : Int)) := (HKB1.out.cells.cell 2).trans rfl
  have f2 := HKB1.out.cells.frozen 2
  refine (bookNone_false k l asked W1 HKB1.out).mono ?_
  rintro _ _ ⟨rfl, rfl⟩
  go_wp2_with fail
  refine (addI64_any ⟨k.g, 2, none⟩ asked W1 c2 f2 (by omega)).mono ?_
  rintro _ W2 ⟨rfl, hW2⟩
  have HT2 := Lib.hid (Turned.setCell W1 ⟨k.g, 2, none⟩ (.int .i64 ((asked + 1 : Nat) : Int)))
  have HKB2 := Lib.hid HKB1.out.asked
  rw [← hW2] at HT2 HKB2
  have HO2 := Lib.hid ((OnlyBook.of_below HX1.out).trans (OnlyBook.of_grown (k := k) HT2.out.grown (.inl rfl)))
  have hs2 := HT2.out.size
  clear c2 f2 hW2
  go_wp2_with fail
  have hrd2 : Reads W2 B 1 A n (xs.map vb) := HRD1.out.keepAt (fun a h0 ha p hp => HT2.out.cell (by have := HK.out a h0 ha; show p.block ≠ k.g; omega))
  refine (shaOf_any A n c xs W2 B hrd2 (by omega) hc (by unfold maxLen; omega)).mono ?_
  rintro _ W3 ⟨rfl, hb3⟩
  have HKB3 := Lib.hid (HKB2.out.below hb3)
  have HRD3 := Lib.hid (hrd2.below (hb3.mono (by omega)))
  have HD3 := Lib.hid ((HT2.out.blk HD1.out (by show gd ≠ k.g; omega)).below hb3 (by omega))
  have HO3 := Lib.hid (HO2.out.trans (OnlyBook.of_below hb3))
  have hs3 := hb3.size
  clear hb3 hrd2
  have hdl := shaOf_len xs
  have HDL := Lib.hid hdl
  have hds : (bRow (shaOf xs)).size = 32 := by rw [bRow_size, hdl]
  have HDS := Lib.hid hds
  have HDO := Lib.hid (bRow_one (shaOf xs))
  clear hdl hds
  generalize hd : bRow (shaOf xs) = D at HDS HDO ⊢
  have HDD := Lib.hid hd
  clear hd
  go_upto_region 7 with (refine wpList_store_part rfl 32 (.tmp 6) (.tmp 23) rfl W3.heap.size 0 D rfl rfl 32 _ (Blk.newAt rfl) (by rw [HDS.out]; rfl) (by rw [HDS.out]; simp) HDO.out ?_; intro W4 hT4 hB4; rw [spl_self _ _ (by rw [HDS.out]; simp)] at hB4)
  have hX4 : Below W3.heap.size W3 W4 := hT4.below ((Below.refl _ _).alloc (Nat.le_refl _) _) (Nat.le_refl _)
  have HKB4 := Lib.hid (HKB3.out.below hX4)
  have HRD4 := Lib.hid (HRD3.out.below (hX4.mono (by omega)))
  have HD4 := Lib.hid (HD3.out.below' hX4)
  have HO4 := Lib.hid (HO3.out.trans (OnlyBook.of_below hX4))
  have hs4 := hX4.size
  obtain ⟨ge, hge⟩ : ∃ g, g = W3.heap.size := ⟨_, rfl⟩
  rw [← hge] at hB4 ⊢
  have hgel : gd < ge := by omega
  have hkl2 := HKB3.out.lt
  rw [← hge] at hkl2
  have HB4 := Lib.hid hB4
  clear hT4 hX4 hB4 hge
  obtain ⟨D1, D2, n1, n2, h1, h2, h3⟩ := HKB4.out.maps
  have hlk := fun (W : World) (hb : Below W4.heap.size W4 W) => look_dig (w := W) (h1.kept (only_of_below hb none) (by simp)) h3 (shaOf xs) HDL.out
  rw [HDD.out] at hlk
  have hm1 := fun (W : World) (hb : Below W4.heap.size W4 W) => ((HKB4.out.cells.below' hb).cell 0).trans (rfl : (bookCells k ((asked + 1 : Nat) : Int))[0]? = some (.map (some k.b1)))
  have hm2 := fun (W : World) (hb : Below W4.heap.size W4 W) => ((HKB4.out.cells.below' hb).cell 1).trans (rfl : (bookCells k ((asked + 1 : Nat) : Int))[1]? = some (.map (some k.b2)))
  have hcv := fun (W : World) (hb : Below W4.heap.size W4 W) => conv_str (c := c) (HRD4.out.below (hb.mono (show B ≤ W4.heap.size by omega)))
  have HLK := Lib.hid hlk
  have HM1 := Lib.hid hm1
  have HM2 := Lib.hid hm2
  have HCV := Lib.hid hcv
  have H1 := Lib.hid h1
  have H2 := Lib.hid h2
  have H3 := Lib.hid h3
  clear hlk hm1 hm2 hcv h1 h2 h3
  obtain ⟨fo, hfo⟩ : ∃ fo, fo = firstOf l (shaOf xs) := ⟨_, rfl⟩
  rw [← hfo] at HLK
  have HFO := Lib.hid hfo
  clear hfo
  refine wp_region_quiet_b (by kernel_rfl) (by kernel_rfl) ?_
  refine wpQuiet_value rfl (.pointer (some ⟨k.g, 0, none⟩)) (fun W _ => rfl) ?_
  refine wpQuiet_value rfl (.pointer (some ⟨k.g, 0, none⟩)) (fun W _ => by go_simp) ?_
  try simp only [Act.put, List.setIfInBounds_toArray, List.set_cons_zero, List.set_cons_succ]
  refine wpQuiet_value rfl (.pointer (some ⟨k.g, 0, none⟩)) (fun W _ => by go_simp) ?_
  try simp only [Act.put, List.setIfInBounds_toArray, List.set_cons_zero, List.set_cons_succ]
  refine wpQuiet_load_cell rfl (.map (some k.b1)) (fun W hb => exec_load_one 42 (.tmp 27) rfl ⟨k.g, 0, none⟩ rfl (by kernel_rfl) _ (HM1.out W hb)) ?_
  try simp only [Act.put, List.setIfInBounds_toArray, List.set_cons_zero, List.set_cons_succ]
  refine wpQuiet_load_part rfl 32 (.tmp 6) rfl ge 0 32 rfl 32 _ D _ HB4.out Tryz.underlying32 rfl rfl HDS.out (fun _ _ => by rw [Nat.zero_add]) ?_
  try simp only [Act.put, List.setIfInBounds_toArray, List.set_cons_zero, List.set_cons_succ]
  refine wpQuiet_load_cell rfl (.tuple #[.string ⟨(fo.getD []).toArray⟩, .bool fo.isSome]) (fun W hb => by have hc := HLK.out W hb; go_simp) ?_
  try simp only [Act.put, List.setIfInBounds_toArray, List.set_cons_zero, List.set_cons_succ]
  refine wpQuiet_value rfl (.tuple #[.string ⟨(fo.getD []).toArray⟩, .bool fo.isSome]) (fun W _ => rfl) ?_
  try simp only [Act.put, List.setIfInBounds_toArray, List.set_cons_zero, List.set_cons_succ]
  refine wpQuiet_value rfl (.string ⟨(fo.getD []).toArray⟩) (fun W _ => by go_simp) ?_
  try simp only [Act.put, List.setIfInBounds_toArray, List.set_cons_zero, List.set_cons_succ]
  refine wpQuiet_value rfl (.bool fo.isSome) (fun W _ => by go_simp) ?_
  try simp only [Act.put, List.setIfInBounds_toArray, List.set_cons_zero, List.set_cons_succ]
  refine wpQuiet_value rfl (.string ⟨(fo.getD []).toArray⟩) (fun W _ => rfl) ?_
  try simp only [Act.put, List.setIfInBounds_toArray, List.set_cons_zero, List.set_cons_succ]
  refine wpQuiet_value rfl (.bool fo.isSome) (fun W _ => rfl) ?_
  try simp only [Act.put, List.setIfInBounds_toArray, List.set_cons_zero, List.set_cons_succ]
  refine wpQuiet_nil ?_
  intro W5 hb5
  have HKB5 := Lib.hid (HKB4.out.below hb5)
  have HRD5 := Lib.hid (HRD4.out.below (hb5.mono (by omega)))
  have HD5 := Lib.hid (HD4.out.below' hb5)
  have HB5 := Lib.hid (HB4.out.below' hb5)
  have HO5 := Lib.hid (HO4.out.trans (OnlyBook.of_below hb5))
  have hs5 := hb5.size
  have H15 := Lib.hid (ownsMap_tight (H1.out.kept (only_of_below hb5 none) (by simp)))
  have H25 := Lib.hid (ownsMap_tight (H2.out.kept (only_of_below hb5 none) (by simp)))
  have hsz := H3.out.size
  have hlen := HKB.out.len
  have hap := HKB.out.apart
  clear hb5
  go_upto_if 34 with (fail)
  go_cut [4, 5, 6] (fun s4 s5 s6 wx => s4 = .pointer (some ⟨gd, 0, none⟩) ∧ s5 = .int .i64 0 ∧ s6 = .pointer (some ⟨ge, 0, none⟩) ∧ BookAt wx k (addInk l xs) (asked + 1) ∧ OnlyBook k w wx ∧ Blk wx gd 32 #[.int .u8 0, .int .u8 0, .int .u8 0, .int .u8 0, .int .u8 0, .int .u8 0, .int .u8 0, .int .u8 0, .int .u8 0, .int .u8 0, .int .u8 0, .int .u8 0, .int .u8 0, .int .u8 0, .int .u8 0, .int .u8 0, .int .u8 0, .int .u8 0, .int .u8 0, .int .u8 0, .int .u8 0, .int .u8 0, .int .u8 0, .int .u8 0, .int .u8 0, .int .u8 0, .int .u8 0, .int .u8 0, .int .u8 0, .int .u8 0, .int .u8 0, .int .u8 0] ∧ Blk wx ge 32 D)
  case first =>
    cases fo with
    | none =>
      go_upto_region 9 with fail
      have hm5 := fun (W : World) (hb : Below W5.heap.size W5 W) => ((HKB5.out.cells.below' hb).cell 0).trans (rfl : (bookCells k ((asked + 1 : Nat) : Int))[0]? = some (.map (some k.b1)))
      have hc5 := fun (W : World) (hb : Below W5.heap.size W5 W) => conv_str (c := c) (HRD5.out.below (hb.mono (show B ≤ W5.heap.size by omega)))
      refine wp_region_calm0 7 53 (by kernel_rfl) (by kernel_rfl) (by kernel_rfl) (by simp) ?_
      simp only [List.take_succ_cons, List.take_zero, List.drop_succ_cons, List.drop_zero]
      refine wpCalm_value rfl rfl (.pointer (some ⟨k.g, 0, none⟩)) (fun W _ => rfl) ?_
      try simp only [Act.put, List.setIfInBounds_toArray, List.set_cons_zero, List.set_cons_succ]
      refine wpCalm_value rfl rfl (.pointer (some ⟨k.g, 0, none⟩)) (fun W _ => by go_simp) ?_
      try simp only [Act.put, List.setIfInBounds_toArray, List.set_cons_zero, List.set_cons_succ]
      refine wpCalm_value rfl rfl (.pointer (some ⟨k.g, 0, none⟩)) (fun W _ => by go_simp) ?_
      try simp only [Act.put, List.setIfInBounds_toArray, List.set_cons_zero, List.set_cons_succ]
      refine wpCalm_below rfl rfl (.map (some k.b1)) (fun W hb => exec_load_one 42 (.tmp 37) rfl ⟨k.g, 0, none⟩ rfl (by kernel_rfl) _ (hm5 W hb)) ?_
      try simp only [Act.put, List.setIfInBounds_toArray, List.set_cons_zero, List.set_cons_succ]
      refine wpCalm_load_part rfl 32 (.tmp 6) rfl ge 0 32 rfl 32 _ D _ HB5.out Tryz.underlying32 rfl rfl HDS.out (fun _ _ => by rw [Nat.zero_add]) ?_
      try simp only [Act.put, List.setIfInBounds_toArray, List.set_cons_zero, List.set_cons_succ]
      refine wpCalm_value rfl rfl (.slice A n c) (fun W _ => rfl) ?_
      try simp only [Act.put, List.setIfInBounds_toArray, List.set_cons_zero, List.set_cons_succ]
      refine wpCalm_below rfl rfl (.string ⟨xs.toArray⟩) (fun W hb => by have hx := hc5 W hb; go_simp) ?_
      try simp only [Act.put, List.setIfInBounds_toArray, List.set_cons_zero, List.set_cons_succ]
      refine wpCalm_nil ?_
      intro W6 hb6
      have HKB6 := Lib.hid (HKB5.out.below hb6)
      have HD6 := Lib.hid (HD5.out.below' hb6)
      have HB6 := Lib.hid (HB5.out.below' hb6)
      have HO6 := Lib.hid (HO5.out.trans (OnlyBook.of_below hb6))
      have H16 := Lib.hid (H15.out.kept (only_of_below hb6 none) (by simp))
      have H26 := Lib.hid (H25.out.kept (only_of_below hb6 none) (by simp))
      have hs6 := hb6.size
      clear hb6 hm5 hc5
      have hkey := keyOf_dig (shaOf xs) HDL.out
      rw [HDD.out] at hkey
      have hval : plainElem (H := Unit) Tryz.prog 9 (.string ⟨xs.toArray⟩) = some (.lit (.string xs), []) := plainElem_string Tryz.underlying9 (s := ⟨xs.toArray⟩) (by show xs.toArray.size ≤ maxLen; have := HXN.out; unfold maxLen; simp; omega)
      have HKEY := Lib.hid hkey
      have HVAL := Lib.hid hval
      clear hkey hval
      go_wp2_with (at_mapUpdate; go_must (refine wpList_mapUpdate_own _ rfl (.tmp 38) (.tmp 39) (.tmp 41) 42 rfl 32 9 digKeyed Tryz.underlying42 _ k.b1 (Maps.size D1) D1 rfl H16.out (by unfold maxLen; omega) (.agg D) (.string ⟨xs.toArray⟩) _ rfl rfl HKEY.out (.lit (.string xs)) [] HVAL.out ?_))
      intro W7 hown7 hg7
      go_wp2_with fail
      go_meet
      have hap := HKB6.out.apart
      have hfr := H3.out.fresh (H1.out.tidy digKeyed) xs HFO.out.symm
      have hal := addInk_len l xs
      exact ⟨rfl, rfl, rfl, ⟨HKB6.out.cells.beside hg7 hap.1, ⟨_, D2, _, _, hown7, H26.out.kept hg7 (fun e => hap.2.2 (by injection e with e; exact e.symm)), hfr⟩, by omega, hap⟩,
        HO6.out.trans (OnlyBook.of_grown hg7 (.inr (.inl rfl))), HD6.out.beside hg7 (by omega), HB6.out.beside hg7 (by omega)⟩
    | some y =>
      simp only [Option.getD_some, Option.isSome_some]
      by_cases hyx : y = xs
      · have hne : (y == xs) = true := by rw [hyx]; simp
        have hcx := conv_str (c := c) HRD5.out
        have HYX := Lib.hid hyx
        clear hyx
        go_wp2_with fail
        go_meet
        have hfo := HFO.out
        rw [HYX.out] at hfo
        exact ⟨rfl, rfl, rfl, ⟨HKB5.out.cells, ⟨D1, D2, _, _, H15.out, H25.out, H3.out.same xs hfo.symm⟩, by have := addInk_len l xs; omega, hap⟩, HO5.out, HD5.out, HB5.out⟩
      · have hne : (y == xs) = false := by simpa using hyx
        have hcx := conv_str (c := c) HRD5.out
        have HYX := Lib.hid hyx
        clear hyx
        go_upto_region 11 with fail
        have hm5 := fun (W : World) (hb : Below W5.heap.size W5 W) => ((HKB5.out.cells.below' hb).cell 1).trans (rfl : (bookCells k ((asked + 1 : Nat) : Int))[1]? = some (.map (some k.b2)))
        have hc5 := fun (W : World) (hb : Below W5.heap.size W5 W) => conv_str (c := c) (HRD5.out.below (hb.mono (show B ≤ W5.heap.size by omega)))
        refine wp_region_calm0 6 53 (by kernel_rfl) (by kernel_rfl) (by kernel_rfl) (by simp) ?_
        simp only [List.take_succ_cons, List.take_zero, List.drop_succ_cons, List.drop_zero]
        refine wpCalm_value rfl rfl (.pointer (some ⟨k.g, 0, none⟩)) (fun W _ => rfl) ?_
        try simp only [Act.put, List.setIfInBounds_toArray, List.set_cons_zero, List.set_cons_succ]
        refine wpCalm_value rfl rfl (.pointer (some ⟨k.g, 0, none⟩)) (fun W _ => by go_simp) ?_
        try simp only [Act.put, List.setIfInBounds_toArray, List.set_cons_zero, List.set_cons_succ]
        refine wpCalm_value rfl rfl (.pointer (some ⟨k.g, 1, none⟩)) (fun W _ => by go_simp) ?_
        try simp only [Act.put, List.setIfInBounds_toArray, List.set_cons_zero, List.set_cons_succ]
        refine wpCalm_below rfl rfl (.map (some k.b2)) (fun W hb => exec_load_one 43 (.tmp 48) rfl ⟨k.g, 1, none⟩ rfl (by kernel_rfl) _ (hm5 W hb)) ?_
        try simp only [Act.put, List.setIfInBounds_toArray, List.set_cons_zero, List.set_cons_succ]
        refine wpCalm_value rfl rfl (.slice A n c) (fun W _ => rfl) ?_
        try simp only [Act.put, List.setIfInBounds_toArray, List.set_cons_zero, List.set_cons_succ]
        refine wpCalm_below rfl rfl (.string ⟨xs.toArray⟩) (fun W hb => by have hx := hc5 W hb; go_simp) ?_
        try simp only [Act.put, List.setIfInBounds_toArray, List.set_cons_zero, List.set_cons_succ]
        refine wpCalm_nil ?_
        intro W6 hb6
        have HKB6 := Lib.hid (HKB5.out.below hb6)
        have HD6 := Lib.hid (HD5.out.below' hb6)
        have HB6 := Lib.hid (HB5.out.below' hb6)
        have HO6 := Lib.hid (HO5.out.trans (OnlyBook.of_below hb6))
        have H16 := Lib.hid (H15.out.kept (only_of_below hb6 none) (by simp))
        have H26 := Lib.hid (H25.out.kept (only_of_below hb6 none) (by simp))
        have hs6 := hb6.size
        clear hb6 hm5 hc5
        have hkey := keyOf_str xs (by have := HXN.out; unfold maxLen; omega)
        have hval : plainElem (H := Unit) Tryz.prog 4 (.bool true) = some (.lit (.bool true), []) := plainElem_bool Tryz.underlying4 true
        have HKEY := Lib.hid hkey
        have HVAL := Lib.hid hval
        clear hkey hval
        go_wp2_with (at_mapUpdate; go_must (refine wpList_mapUpdate_own _ rfl (.tmp 49) (.tmp 51) (.const (.bool true)) 43 rfl 9 4 strKeyed Tryz.underlying43 _ k.b2 (Maps.size D2) D2 rfl H26.out (by unfold maxLen; omega) (.string ⟨xs.toArray⟩) (.bool true) _ rfl rfl HKEY.out (.lit (.bool true)) [] HVAL.out ?_))
        intro W7 hown7 hg7
        go_wp2_with fail
        go_meet
        have hap := HKB6.out.apart
        have hfr := H3.out.other (H2.out.tidy strKeyed) xs y HFO.out.symm HYX.out
        have hal := addInk_len l xs
        exact ⟨rfl, rfl, rfl, ⟨HKB6.out.cells.beside hg7 hap.2.1, ⟨D1, _, _, _, H16.out.kept hg7 (fun e => hap.2.2 (by injection e with e)), hown7, hfr⟩, by omega, hap⟩,
          HO6.out.trans (OnlyBook.of_grown hg7 (.inr (.inr rfl))), HD6.out.beside hg7 (by omega), HB6.out.beside hg7 (by omega)⟩
  case rest =>
    obtain ⟨rfl, rfl, rfl, hbk, hob, hd, he⟩ := hcut
    have HBK := Lib.hid hbk
    have HOB := Lib.hid hob
    clear hbk hob
    go_upto_region 12 with fail
    have HDW := Lib.hid hd
    have HEW := Lib.hid he
    have hgw := hd.lt
    clear hd he
    go_wp2_with (first
      | (refine wpList_load_part rfl 32 (.tmp 6) rfl ge 0 32 rfl 32 _ D _ HEW.out Tryz.underlying32 rfl rfl HDS.out (fun _ _ => by rw [Nat.zero_add]) ?_)
      | (refine wpList_store_part rfl 32 (.tmp 4) (.tmp 52) rfl gd 0 D rfl rfl 32 _ HDW.out (by rw [HDS.out]; rfl) (by rw [HDS.out]; simp) HDO.out ?_; intro W8 hT8 hB8; rw [spl_self _ _ (by rw [HDS.out]; rfl)] at hB8))
    refine bodyPost_ret (results_part2 rfl _ _ gd 32 32 _ _ rfl hB8 Tryz.underlying32 rfl rfl HDS.out) rfl ⟨by rw [HDD.out]; rfl, ?_, ?_⟩
    · exact HBK.out.grown hT8.grown (by omega)
    · exact HOB.out.grown hT8.grown (by have := HGD.out; omega)

def inkZ : Array Value := bRow (List.replicate 32 0)
set_option maxRecDepth 100000 in
set_option maxHeartbeats 1000000 in
/-- too many bytes: the digest of noughts, and nothing has turned -/
theorem inkOf_big (k : Book) (l : List (List UInt8)) (asked : Nat) (A : Option Addr) (n c : Nat) (w : World) (hbk : BookAt w k l asked) (hn : 65536 < n) (hc : n ≤ c) (hcm : c ≤ maxLen) :
    Calls Tryz.prog 16 #[.pointer (some ⟨k.g, 0, none⟩), .slice A n c] w fun e w' => e = .returned (.tuple #[.agg inkZ, .int .i64 5]) ∧ Below w.heap.size w w' := by
  have hz : inkZ.size = 32 := by simp [inkZ, bRow]
  have ho : inkZ.all (·.oneCell') = true := bRow_one _
  have he : inkZ = #[.int .u8 0, .int .u8 0, .int .u8 0, .int .u8 0, .int .u8 0, .int .u8 0, .int .u8 0, .int .u8 0, .int .u8 0, .int .u8 0, .int .u8 0, .int .u8 0, .int .u8 0, .int .u8 0, .int .u8 0, .int .u8 0, .int .u8 0, .int .u8 0, .int .u8 0, .int .u8 0, .int .u8 0, .int .u8 0, .int .u8 0, .int .u8 0, .int .u8 0, .int .u8 0, .int .u8 0, .int .u8 0, .int .u8 0, .int .u8 0, .int .u8 0, .int .u8 0] := by kernel_rfl
  have HZ := Lib.hid hz
  have HO := Lib.hid ho
  have HE := Lib.hid he
  clear hz ho he
  generalize inkZ = zd at HZ HO HE ⊢
  have hX : Below w.heap.size w (w.alloc (.cells zd 32)) := (Below.refl _ _).alloc (Nat.le_refl _) _
  have HN := Lib.hid (fun W hb => bookNone_false k l asked W (hbk.below hb))
  have HX := Lib.hid hX
  unfold maxLen at hcm
  clear hbk hX
  go_enter Tryz.func16, Tryz.ntmps16
  go_wp2_with fail
  refine (HN.out _ ((Below.refl _ _).alloc (Nat.le_refl _) _)).mono ?_
  rintro _ _ ⟨rfl, rfl⟩
  go_wp2_with (refine wpList_store_part rfl 32 (.tmp 4) _ rfl w.heap.size 0 zd rfl (by rw [HE.out]; rfl) 32 zd (by rw [HE.out]; exact Blk.newAt rfl) (by rw [HZ.out]; rfl) (by rw [HZ.out]; simp) HO.out ?_; intro W5 hT5 hB5; rw [spl_self _ _ rfl] at hB5)
  refine bodyPost_ret (results_part2 rfl _ _ w.heap.size 32 32 _ _ rfl hB5 Tryz.underlying32 rfl rfl HZ.out) rfl ⟨rfl, ?_⟩
  have := HX.out
  rw [HE.out] at this
  exact hT5.below this (Nat.le_refl _)

/-- a book that is none -/
def NoBook (w : World) (p : Option Addr) : Prop := p = none ∨ ∃ g, p = some ⟨g, 0, none⟩ ∧ g < w.heap.size ∧ w.cell? ⟨g, 0, none⟩ = some (.map none)
theorem NoBook.below {w w' : World} {p : Option Addr} (h : NoBook w p) (hb : Below w.heap.size w w') : NoBook w' p := by
  rcases h with rfl | ⟨g, rfl, hg, hc⟩
  · exact .inl rfl
  · exact .inr ⟨g, rfl, Nat.lt_of_lt_of_le hg hb.size, (hb.cell (by show g < _; exact hg)).trans hc⟩
theorem bookNone_true (w : World) (p : Option Addr) (h : NoBook w p) : Calls Tryz.prog 21 #[.pointer p] w fun e w' => e = .returned (.bool true) ∧ w = w' := by
  have hmn := run_eql_map_nil (P := Tryz.prog) w 42 32 9 none Tryz.underlying42
  rcases h with rfl | ⟨g, rfl, _, c0⟩
  all_goals
    go_enter Tryz.func21, Tryz.ntmps21
    go_wp2
    go_ret
    exact ⟨rfl, rfl⟩
set_option maxRecDepth 100000 in
set_option maxHeartbeats 1000000 in
theorem inkOf_none (p : Option Addr) (v : Value) (w : World) (h : NoBook w p) :
    Calls Tryz.prog 16 #[.pointer p, v] w fun e w' => e = .returned (.tuple #[.agg inkZ, .int .i64 1]) ∧ Below w.heap.size w w' := by
  have hz : inkZ.size = 32 := by simp [inkZ, bRow]
  have ho : inkZ.all (·.oneCell') = true := bRow_one _
  have he : inkZ = #[.int .u8 0, .int .u8 0, .int .u8 0, .int .u8 0, .int .u8 0, .int .u8 0, .int .u8 0, .int .u8 0, .int .u8 0, .int .u8 0, .int .u8 0, .int .u8 0, .int .u8 0, .int .u8 0, .int .u8 0, .int .u8 0, .int .u8 0, .int .u8 0, .int .u8 0, .int .u8 0, .int .u8 0, .int .u8 0, .int .u8 0, .int .u8 0, .int .u8 0, .int .u8 0, .int .u8 0, .int .u8 0, .int .u8 0, .int .u8 0, .int .u8 0, .int .u8 0] := by kernel_rfl
  have HZ := Lib.hid hz
  have HO := Lib.hid ho
  have HE := Lib.hid he
  clear hz ho he
  generalize inkZ = zd at HZ HO HE ⊢
  have hX : Below w.heap.size w (w.alloc (.cells zd 32)) := (Below.refl _ _).alloc (Nat.le_refl _) _
  have HN := Lib.hid (fun W hb => bookNone_true W p (h.below hb))
  have HX := Lib.hid hX
  clear h hX
  go_enter Tryz.func16, Tryz.ntmps16
  go_wp2_with fail
  refine (HN.out _ ((Below.refl _ _).alloc (Nat.le_refl _) _)).mono ?_
  rintro _ _ ⟨rfl, rfl⟩
  go_wp2_with (refine wpList_store_part rfl 32 (.tmp 4) _ rfl w.heap.size 0 zd rfl (by rw [HE.out]; rfl) 32 zd (by rw [HE.out]; exact Blk.newAt rfl) (by rw [HZ.out]; rfl) (by rw [HZ.out]; simp) HO.out ?_; intro W5 hT5 hB5; rw [spl_self _ _ rfl] at hB5)
  refine bodyPost_ret (results_part2 rfl _ _ w.heap.size 32 32 _ _ rfl hB5 Tryz.underlying32 rfl rfl HZ.out) rfl ⟨rfl, ?_⟩
  have := HX.out
  rw [HE.out] at this
  exact hT5.below this (Nat.le_refl _)

end Go.Proofs.YtcmbmimmfgfefaaGreat
