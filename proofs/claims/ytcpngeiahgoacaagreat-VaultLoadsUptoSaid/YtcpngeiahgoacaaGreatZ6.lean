/- Parts of the proof, in one text: InkOf, InkEvery, InkFill, Open, Bring, InkCl, BookReads, Noted, InkTell, Works, InkAll, ClashMath, TreeM, NumMath, BinNum, BinJoin, Slice. -/
import Derived.Test.YtcpngeiahgoacaaGreatZ5
import Derived.Deep.DeepCutAuto
import Derived.Test.YtcpngeiahgoacaaGreatZ1
import Derived.ProofKit
import Derived.OpenShut
import Derived.ChangeOld
import Derived.ChangeSlices
import Derived.Deep.Slices
import Derived.SizedLaws
import Derived.Test.YtcpngeiahgoacaaGreatRows
import Derived.Test.YtcpngeiahgoacaaGreatZ2
import Derived.Lib.SlBytesConst
import Derived.Test.YtcpngeiahgoacaaGreatZ4
import Derived.Lib.SliceRun

/- Contract of (*Book).Of. -/
namespace Go.Proofs.YtcpngeiahgoacaaGreat
set_option linter.unusedVariables false
open Go.RowKit Go.Maps

theorem conv_str {W : World} {B n c : Nat} {A : Option Addr} {xs : List UInt8} (h : Reads W B 1 A n (xs.map vb)) : (convert 22 9 (.slice A n c)).run Tryz.prog W = .ok (.string ⟨xs.toArray⟩) W := by
  have hn : xs.length = n := by have := h.1; simpa using this
  rcases Nat.eq_zero_or_pos n with h0 | h0
  · subst h0
    have hx : xs = [] := List.eq_nil_of_length_eq_zero hn
    subst hx
    cases A with
    | none => exact run_convert_bytes_nil W 22 5 Tryz.underlying22 Tryz.underlying5 0 c 9 Tryz.underlying9
    | some ad => exact run_convert_bytes_back W 22 9 5 ad c [] Tryz.underlying22 Tryz.underlying5 Tryz.underlying9 (fun j hj => by simp at hj)
  · obtain ⟨ad, rfl, _, hc⟩ := h.2 h0
    rw [← hn]
    exact run_convert_bytes_back W 22 9 5 ad c xs Tryz.underlying22 Tryz.underlying5 Tryz.underlying9 (fun j hj => hc j _ (by rw [List.getElem?_map, List.getElem?_eq_getElem hj]; rfl))

theorem zeros32a : Array.replicate 32 (Value.int .u8 0) = #[.int .u8 0, .int .u8 0, .int .u8 0, .int .u8 0, .int .u8 0, .int .u8 0, .int .u8 0, .int .u8 0, .int .u8 0, .int .u8 0, .int .u8 0, .int .u8 0, .int .u8 0, .int .u8 0, .int .u8 0, .int .u8 0, .int .u8 0, .int .u8 0, .int .u8 0, .int .u8 0, .int .u8 0, .int .u8 0, .int .u8 0, .int .u8 0, .int .u8 0, .int .u8 0, .int .u8 0, .int .u8 0, .int .u8 0, .int .u8 0, .int .u8 0, .int .u8 0] := by kernel_rfl

theorem Reads.keepAt {w w' : World} {B n : Nat} {A : Option Addr} {xs : List Value} (h : Reads w B 1 A n xs) (hk : ∀ a, 0 < n → A = some a → ∀ p : Addr, p.block = a.block → w'.cell? p = w.cell? p) : Reads w' B 1 A n xs :=
  ⟨h.1, fun h0 => by obtain ⟨ad, rfl, hB, hc⟩ := h.2 h0; exact ⟨ad, rfl, hB, fun k u hu => (hk ad h0 rfl (ad.add k) (by simp [Addr.add]; split <;> rfl)).trans (hc k u hu)⟩⟩
theorem Reads.apart {w : World} {B n g : Nat} {A : Option Addr} {xs : List Value} (h : Reads w B 1 A n xs) (hB : B ≤ g) : ∀ a, 0 < n → A = some a → a.block ≠ g := fun a h0 ha e => by
  obtain ⟨ad, rfl, hb, _⟩ := h.2 h0
  injection ha with ha
  subst ha
  omega
theorem BookAt.asked {w : World} {k : Book} {l : List (List UInt8)} {n : Nat} (h : BookAt w k l n) : BookAt (w.setCell ⟨k.g, 2, none⟩ (.int .i64 ((n + 1 : Nat) : Int))) k l (n + 1) := by
  obtain ⟨D1, D2, n1, n2, h1, h2, h3⟩ := h.maps
  exact ⟨h.cells.set_ 2 _, ⟨D1, D2, n1, n2, h1.setCell (a := ⟨k.g, 2, none⟩) (Ne.symm h.apart.1) _, h2.setCell (a := ⟨k.g, 2, none⟩) (Ne.symm h.apart.2.1) _, h3⟩, Nat.le_succ_of_le h.len, h.apart⟩

theorem BookAt.grown {w w' : World} {k : Book} {l : List (List UInt8)} {n b : Nat} (h : BookAt w k l n) (hg : w.grownBy w' (some b)) (hb : b ≠ k.g ∧ b ≠ k.b1 ∧ b ≠ k.b2) : BookAt w' k l n := by
  obtain ⟨D1, D2, n1, n2, h1, h2, h3⟩ := h.maps
  exact ⟨h.cells.beside hg (Ne.symm hb.1), ⟨D1, D2, n1, n2, h1.kept hg (fun e => hb.2.1 (by injection e with e; exact e.symm)), h2.kept hg (fun e => hb.2.2 (by injection e with e; exact e.symm)), h3⟩, h.len, h.apart⟩
theorem OnlyBook.grown {k : Book} {w w' w'' : World} {b : Nat} (h : OnlyBook k w w') (hg : w'.grownBy w'' (some b)) (hb : w.heap.size ≤ b) : OnlyBook k w w'' :=
  ⟨hg.os.trans h.os, hg.tape.trans h.tape, hg.output.trans h.output, Nat.le_trans h.size hg.size, fun i hi hn => (hg.block i (Nat.lt_of_lt_of_le hi h.size) (fun e => by injection e with e; omega)).trans (h.block i hi hn)⟩

set_option maxRecDepth 100000 in
set_option maxHeartbeats 2000000 in
theorem inkOf_any (k : Book) (l : List (List UInt8)) (asked : Nat) (A : Option Addr) (n c : Nat) (xs : List UInt8) (w : World) (B : Nat) (hbk : BookAt w k l asked) (h : Reads w B 1 A n (xs.map vb)) (hB : B ≤ w.heap.size)
    (hk : ∀ a, 0 < n → A = some a → a.block ≠ k.g) (hc : n ≤ c) (hcm : c ≤ maxLen) (hn : n ≤ 65536) (has : asked ≤ 1000000) :
    Calls Tryz.prog 170 #[.pointer (some ⟨k.g, 0, none⟩), .slice A n c] w fun e w' => e = .returned (.tuple #[.agg (bRow (shaOf xs)), .int .i64 0]) ∧ BookAt w' k (addInk l xs) (asked + 1) ∧ OnlyBook k w w' := by
  have HK := Lib.hid hk
  clear hk
  have hxn : xs.length = n := by have := h.1; simpa using this
  have HXN := Lib.hid hxn
  have HKB := Lib.hid hbk
  have HRD := Lib.hid h
  unfold maxLen at hcm
  clear hbk h hxn
  go_enter Tryz.func170, Tryz.ntmps170
  go_wp2_with fail
  have hW := Blk.new w 60 (Array.replicate 32 (.int .u8 0))
  have hX1 : Below w.heap.size w (w.alloc (.cells (Array.replicate 32 (.int .u8 0)) 60)) := (Below.refl _ _).alloc (Nat.le_refl _) _
  have hS1 : (w.alloc (.cells (Array.replicate 32 (.int .u8 0)) 60)).heap.size = w.heap.size + 1 := by simp
  have HKB1 := Lib.hid (HKB.out.below hX1)
  have HRD1 := Lib.hid (HRD.out.below (hX1.mono hB))
  rw [zeros32a] at hW hX1 hS1 HKB1 HRD1
  obtain ⟨gd, hgd⟩ : ∃ g, g = w.heap.size := ⟨_, rfl⟩
  rw [← hgd] at hW hS1 ⊢
  generalize w.alloc _ = W1 at hW hX1 hS1 HKB1 HRD1 ⊢
  have hkl := HKB.out.lt
  rw [← hgd] at hkl
  have hgB : B ≤ gd := by rw [hgd]; exact hB
  have HGD := Lib.hid hgd
  clear hgd
  have HD1 := Lib.hid hW
  have HX1 := Lib.hid hX1
  clear hW hX1
  have c2 : W1.cell? ⟨k.g, 2, none⟩ = some (.int .i64 (asked : Int)) := (HKB1.out.cells.cell 2).trans rfl
  have f2 := HKB1.out.cells.frozen 2
  refine (bookNone_false k l asked W1 HKB1.out).mono ?_
  rintro _ _ ⟨rfl, rfl⟩
  go_wp2_with fail
  refine (addI64_any ⟨k.g, 2, none⟩ asked W1 c2 f2 (by omega)).mono ?_
  rintro _ W2 ⟨rfl, hW2⟩
  have HT2 := Lib.hid (Turned.setCell W1 ⟨k.g, 2, none⟩ (.int .i64 ((asked + 1 : Nat) : Int)))
  have HKB2 := Lib.hid HKB1.out.asked
  rw [← hW2] at HT2 HKB2
  have HO2 := Lib.hid ((OnlyBook.of_below HX1.out).trans (OnlyBook.of_grown (k := k) HT2.out.grown (.inl rfl)))
  have hs2 := HT2.out.size
  clear c2 f2 hW2
  go_wp2_with fail
  have hrd2 : Reads W2 B 1 A n (xs.map vb) := HRD1.out.keepAt (fun a h0 ha p hp => HT2.out.cell (by have := HK.out a h0 ha; show p.block ≠ k.g; omega))
  refine (shaOf_any A n c xs W2 B hrd2 (by omega) hc (by unfold maxLen; omega)).mono ?_
  rintro _ W3 ⟨rfl, hb3⟩
  have HKB3 := Lib.hid (HKB2.out.below hb3)
  have HRD3 := Lib.hid (hrd2.below (hb3.mono (by omega)))
  have HD3 := Lib.hid ((HT2.out.blk HD1.out (by show gd ≠ k.g; omega)).below hb3 (by omega))
  have HO3 := Lib.hid (HO2.out.trans (OnlyBook.of_below hb3))
  have hs3 := hb3.size
  clear hb3 hrd2
  have hdl := shaOf_len xs
  have HDL := Lib.hid hdl
  have hds : (bRow (shaOf xs)).size = 32 := by rw [bRow_size, hdl]
  have HDS := Lib.hid hds
  have HDO := Lib.hid (bRow_one (shaOf xs))
  clear hdl hds
  generalize hd : bRow (shaOf xs) = D at HDS HDO ⊢
  have HDD := Lib.hid hd
  clear hd
  go_upto_region 7 with (refine wpList_store_part rfl 60 (.tmp 6) (.tmp 23) rfl W3.heap.size 0 D rfl rfl 60 _ (Blk.newAt rfl) (by rw [HDS.out]; rfl) (by rw [HDS.out]; simp) HDO.out ?_; intro W4 hT4 hB4; rw [spl_self _ _ (by rw [HDS.out]; simp)] at hB4)
  have hX4 : Below W3.heap.size W3 W4 := hT4.below ((Below.refl _ _).alloc (Nat.le_refl _) _) (Nat.le_refl _)
  have HKB4 := Lib.hid (HKB3.out.below hX4)
  have HRD4 := Lib.hid (HRD3.out.below (hX4.mono (by omega)))
  have HD4 := Lib.hid (HD3.out.below' hX4)
  have HO4 := Lib.hid (HO3.out.trans (OnlyBook.of_below hX4))
  have hs4 := hX4.size
  obtain ⟨ge, hge⟩ : ∃ g, g = W3.heap.size := ⟨_, rfl⟩
  rw [← hge] at hB4 ⊢
  have hgel : gd < ge := by omega
  have hkl2 := HKB3.out.lt
  rw [← hge] at hkl2
  have HB4 := Lib.hid hB4
  clear hT4 hX4 hB4 hge
  obtain ⟨D1, D2, n1, n2, h1, h2, h3⟩ := HKB4.out.maps
  have hlk := fun (W : World) (hb : Below W4.heap.size W4 W) => look_dig (w := W) (h1.kept (only_of_below hb none) (by simp)) h3 (shaOf xs) HDL.out
  rw [HDD.out] at hlk
  have hm1 := fun (W : World) (hb : Below W4.heap.size W4 W) => ((HKB4.out.cells.below' hb).cell 0).trans (rfl : (bookCells k ((asked + 1 : Nat) : Int))[0]? = some (.map (some k.b1)))
  have hm2 := fun (W : World) (hb : Below W4.heap.size W4 W) => ((HKB4.out.cells.below' hb).cell 1).trans (rfl : (bookCells k ((asked + 1 : Nat) : Int))[1]? = some (.map (some k.b2)))
  have hcv := fun (W : World) (hb : Below W4.heap.size W4 W) => conv_str (c := c) (HRD4.out.below (hb.mono (show B ≤ W4.heap.size by omega)))
  have HLK := Lib.hid hlk
  have HM1 := Lib.hid hm1
  have HM2 := Lib.hid hm2
  have HCV := Lib.hid hcv
  have H1 := Lib.hid h1
  have H2 := Lib.hid h2
  have H3 := Lib.hid h3
  clear hlk hm1 hm2 hcv h1 h2 h3
  obtain ⟨fo, hfo⟩ : ∃ fo, fo = firstOf l (shaOf xs) := ⟨_, rfl⟩
  rw [← hfo] at HLK
  have HFO := Lib.hid hfo
  clear hfo
  refine wp_region_quiet_b (by kernel_rfl) (by kernel_rfl) ?_
  refine wpQuiet_value rfl (.pointer (some ⟨k.g, 0, none⟩)) (fun W _ => rfl) ?_
  refine wpQuiet_value rfl (.pointer (some ⟨k.g, 0, none⟩)) (fun W _ => by go_simp) ?_
  try simp only [Act.put, List.setIfInBounds_toArray, List.set_cons_zero, List.set_cons_succ]
  refine wpQuiet_value rfl (.pointer (some ⟨k.g, 0, none⟩)) (fun W _ => by go_simp) ?_
  try simp only [Act.put, List.setIfInBounds_toArray, List.set_cons_zero, List.set_cons_succ]
  refine wpQuiet_load_cell rfl (.map (some k.b1)) (fun W hb => exec_load_one 109 (.tmp 27) rfl ⟨k.g, 0, none⟩ rfl (by kernel_rfl) _ (HM1.out W hb)) ?_
  try simp only [Act.put, List.setIfInBounds_toArray, List.set_cons_zero, List.set_cons_succ]
  refine wpQuiet_load_part rfl 60 (.tmp 6) rfl ge 0 32 rfl 60 _ D _ HB4.out Tryz.underlying60 rfl rfl HDS.out (fun _ _ => by rw [Nat.zero_add]) ?_
  try simp only [Act.put, List.setIfInBounds_toArray, List.set_cons_zero, List.set_cons_succ]
  refine wpQuiet_load_cell rfl (.tuple #[.string ⟨(fo.getD []).toArray⟩, .bool fo.isSome]) (fun W hb => by have hc := HLK.out W hb; go_simp) ?_
  try simp only [Act.put, List.setIfInBounds_toArray, List.set_cons_zero, List.set_cons_succ]
  refine wpQuiet_value rfl (.tuple #[.string ⟨(fo.getD []).toArray⟩, .bool fo.isSome]) (fun W _ => rfl) ?_
  try simp only [Act.put, List.setIfInBounds_toArray, List.set_cons_zero, List.set_cons_succ]
  refine wpQuiet_value rfl (.string ⟨(fo.getD []).toArray⟩) (fun W _ => by go_simp) ?_
  try simp only [Act.put, List.setIfInBounds_toArray, List.set_cons_zero, List.set_cons_succ]
  refine wpQuiet_value rfl (.bool fo.isSome) (fun W _ => by go_simp) ?_
  try simp only [Act.put, List.setIfInBounds_toArray, List.set_cons_zero, List.set_cons_succ]
  refine wpQuiet_value rfl (.string ⟨(fo.getD []).toArray⟩) (fun W _ => rfl) ?_
  try simp only [Act.put, List.setIfInBounds_toArray, List.set_cons_zero, List.set_cons_succ]
  refine wpQuiet_value rfl (.bool fo.isSome) (fun W _ => rfl) ?_
  try simp only [Act.put, List.setIfInBounds_toArray, List.set_cons_zero, List.set_cons_succ]
  refine wpQuiet_nil ?_
  intro W5 hb5
  have HKB5 := Lib.hid (HKB4.out.below hb5)
  have HRD5 := Lib.hid (HRD4.out.below (hb5.mono (by omega)))
  have HD5 := Lib.hid (HD4.out.below' hb5)
  have HB5 := Lib.hid (HB4.out.below' hb5)
  have HO5 := Lib.hid (HO4.out.trans (OnlyBook.of_below hb5))
  have hs5 := hb5.size
  have H15 := Lib.hid (ownsMap_tight (H1.out.kept (only_of_below hb5 none) (by simp)))
  have H25 := Lib.hid (ownsMap_tight (H2.out.kept (only_of_below hb5 none) (by simp)))
  have hsz := H3.out.size
  have hlen := HKB.out.len
  have hap := HKB.out.apart
  clear hb5
  go_upto_if 34 with (fail)
  go_cut [4, 5, 6] (fun s4 s5 s6 wx => s4 = .pointer (some ⟨gd, 0, none⟩) ∧ s5 = .int .i64 0 ∧ s6 = .pointer (some ⟨ge, 0, none⟩) ∧ BookAt wx k (addInk l xs) (asked + 1) ∧ OnlyBook k w wx ∧ Blk wx gd 60 #[.int .u8 0, .int .u8 0, .int .u8 0, .int .u8 0, .int .u8 0, .int .u8 0, .int .u8 0, .int .u8 0, .int .u8 0, .int .u8 0, .int .u8 0, .int .u8 0, .int .u8 0, .int .u8 0, .int .u8 0, .int .u8 0, .int .u8 0, .int .u8 0, .int .u8 0, .int .u8 0, .int .u8 0, .int .u8 0, .int .u8 0, .int .u8 0, .int .u8 0, .int .u8 0, .int .u8 0, .int .u8 0, .int .u8 0, .int .u8 0, .int .u8 0, .int .u8 0] ∧ Blk wx ge 60 D)
  case first =>
    cases fo with
    | none =>
      go_upto_region 9 with fail
      have hm5 := fun (W : World) (hb : Below W5.heap.size W5 W) => ((HKB5.out.cells.below' hb).cell 0).trans (rfl : (bookCells k ((asked + 1 : Nat) : Int))[0]? = some (.map (some k.b1)))
      have hc5 := fun (W : World) (hb : Below W5.heap.size W5 W) => conv_str (c := c) (HRD5.out.below (hb.mono (show B ≤ W5.heap.size by omega)))
      refine wp_region_calm0 7 53 (by kernel_rfl) (by kernel_rfl) (by kernel_rfl) (by simp) ?_
      simp only [List.take_succ_cons, List.take_zero, List.drop_succ_cons, List.drop_zero]
      refine wpCalm_value rfl rfl (.pointer (some ⟨k.g, 0, none⟩)) (fun W _ => rfl) ?_
      try simp only [Act.put, List.setIfInBounds_toArray, List.set_cons_zero, List.set_cons_succ]
      refine wpCalm_value rfl rfl (.pointer (some ⟨k.g, 0, none⟩)) (fun W _ => by go_simp) ?_
      try simp only [Act.put, List.setIfInBounds_toArray, List.set_cons_zero, List.set_cons_succ]
      refine wpCalm_value rfl rfl (.pointer (some ⟨k.g, 0, none⟩)) (fun W _ => by go_simp) ?_
      try simp only [Act.put, List.setIfInBounds_toArray, List.set_cons_zero, List.set_cons_succ]
      refine wpCalm_below rfl rfl (.map (some k.b1)) (fun W hb => exec_load_one 109 (.tmp 37) rfl ⟨k.g, 0, none⟩ rfl (by kernel_rfl) _ (hm5 W hb)) ?_
      try simp only [Act.put, List.setIfInBounds_toArray, List.set_cons_zero, List.set_cons_succ]
      refine wpCalm_load_part rfl 60 (.tmp 6) rfl ge 0 32 rfl 60 _ D _ HB5.out Tryz.underlying60 rfl rfl HDS.out (fun _ _ => by rw [Nat.zero_add]) ?_
      try simp only [Act.put, List.setIfInBounds_toArray, List.set_cons_zero, List.set_cons_succ]
      refine wpCalm_value rfl rfl (.slice A n c) (fun W _ => rfl) ?_
      try simp only [Act.put, List.setIfInBounds_toArray, List.set_cons_zero, List.set_cons_succ]
      refine wpCalm_below rfl rfl (.string ⟨xs.toArray⟩) (fun W hb => by have hx := hc5 W hb; go_simp) ?_
      try simp only [Act.put, List.setIfInBounds_toArray, List.set_cons_zero, List.set_cons_succ]
      refine wpCalm_nil ?_
      intro W6 hb6
      have HKB6 := Lib.hid (HKB5.out.below hb6)
      have HD6 := Lib.hid (HD5.out.below' hb6)
      have HB6 := Lib.hid (HB5.out.below' hb6)
      have HO6 := Lib.hid (HO5.out.trans (OnlyBook.of_below hb6))
      have H16 := Lib.hid (H15.out.kept (only_of_below hb6 none) (by simp))
      have H26 := Lib.hid (H25.out.kept (only_of_below hb6 none) (by simp))
      have hs6 := hb6.size
      clear hb6 hm5 hc5
      have hkey := keyOf_dig (shaOf xs) HDL.out
      rw [HDD.out] at hkey
      have hval : plainElem (H := Unit) Tryz.prog 9 (.string ⟨xs.toArray⟩) = some (.lit (.string xs), []) := plainElem_string Tryz.underlying9 (s := ⟨xs.toArray⟩) (by show xs.toArray.size ≤ maxLen; have := HXN.out; unfold maxLen; simp; omega)
      have HKEY := Lib.hid hkey
      have HVAL := Lib.hid hval
      clear hkey hval
      go_wp2_with (at_mapUpdate; go_must (refine wpList_mapUpdate_own _ rfl (.tmp 38) (.tmp 39) (.tmp 41) 109 rfl 60 9 digKeyed Tryz.underlying109 _ k.b1 (Maps.size D1) D1 rfl H16.out (by unfold maxLen; omega) (.agg D) (.string ⟨xs.toArray⟩) _ rfl rfl HKEY.out (.lit (.string xs)) [] HVAL.out ?_))
      intro W7 hown7 hg7
      go_wp2_with fail
      go_meet
      have hap := HKB6.out.apart
      have hfr := H3.out.fresh (H1.out.tidy digKeyed) xs HFO.out.symm
      have hal := addInk_len l xs
      exact ⟨rfl, rfl, rfl, ⟨HKB6.out.cells.beside hg7 hap.1, ⟨_, D2, _, _, hown7, H26.out.kept hg7 (fun e => hap.2.2 (by injection e with e; exact e.symm)), hfr⟩, by omega, hap⟩,
        HO6.out.trans (OnlyBook.of_grown hg7 (.inr (.inl rfl))), HD6.out.beside hg7 (by omega), HB6.out.beside hg7 (by omega)⟩
    | some y =>
      simp only [Option.getD_some, Option.isSome_some]
      by_cases hyx : y = xs
      · have hne : (y == xs) = true := by rw [hyx]; simp
        have hcx := conv_str (c := c) HRD5.out
        have HYX := Lib.hid hyx
        clear hyx
        go_wp2_with fail
        go_meet
        have hfo := HFO.out
        rw [HYX.out] at hfo
        exact ⟨rfl, rfl, rfl, ⟨HKB5.out.cells, ⟨D1, D2, _, _, H15.out, H25.out, H3.out.same xs hfo.symm⟩, by have := addInk_len l xs; omega, hap⟩, HO5.out, HD5.out, HB5.out⟩
      · have hne : (y == xs) = false := by simpa using hyx
        have hcx := conv_str (c := c) HRD5.out
        have HYX := Lib.hid hyx
        clear hyx
        go_upto_region 11 with fail
        have hm5 := fun (W : World) (hb : Below W5.heap.size W5 W) => ((HKB5.out.cells.below' hb).cell 1).trans (rfl : (bookCells k ((asked + 1 : Nat) : Int))[1]? = some (.map (some k.b2)))
        have hc5 := fun (W : World) (hb : Below W5.heap.size W5 W) => conv_str (c := c) (HRD5.out.below (hb.mono (show B ≤ W5.heap.size by omega)))
        refine wp_region_calm0 6 53 (by kernel_rfl) (by kernel_rfl) (by kernel_rfl) (by simp) ?_
        simp only [List.take_succ_cons, List.take_zero, List.drop_succ_cons, List.drop_zero]
        refine wpCalm_value rfl rfl (.pointer (some ⟨k.g, 0, none⟩)) (fun W _ => rfl) ?_
        try simp only [Act.put, List.setIfInBounds_toArray, List.set_cons_zero, List.set_cons_succ]
        refine wpCalm_value rfl rfl (.pointer (some ⟨k.g, 0, none⟩)) (fun W _ => by go_simp) ?_
        try simp only [Act.put, List.setIfInBounds_toArray, List.set_cons_zero, List.set_cons_succ]
        refine wpCalm_value rfl rfl (.pointer (some ⟨k.g, 1, none⟩)) (fun W _ => by go_simp) ?_
        try simp only [Act.put, List.setIfInBounds_toArray, List.set_cons_zero, List.set_cons_succ]
        refine wpCalm_below rfl rfl (.map (some k.b2)) (fun W hb => exec_load_one 110 (.tmp 48) rfl ⟨k.g, 1, none⟩ rfl (by kernel_rfl) _ (hm5 W hb)) ?_
        try simp only [Act.put, List.setIfInBounds_toArray, List.set_cons_zero, List.set_cons_succ]
        refine wpCalm_value rfl rfl (.slice A n c) (fun W _ => rfl) ?_
        try simp only [Act.put, List.setIfInBounds_toArray, List.set_cons_zero, List.set_cons_succ]
        refine wpCalm_below rfl rfl (.string ⟨xs.toArray⟩) (fun W hb => by have hx := hc5 W hb; go_simp) ?_
        try simp only [Act.put, List.setIfInBounds_toArray, List.set_cons_zero, List.set_cons_succ]
        refine wpCalm_nil ?_
        intro W6 hb6
        have HKB6 := Lib.hid (HKB5.out.below hb6)
        have HD6 := Lib.hid (HD5.out.below' hb6)
        have HB6 := Lib.hid (HB5.out.below' hb6)
        have HO6 := Lib.hid (HO5.out.trans (OnlyBook.of_below hb6))
        have H16 := Lib.hid (H15.out.kept (only_of_below hb6 none) (by simp))
        have H26 := Lib.hid (H25.out.kept (only_of_below hb6 none) (by simp))
        have hs6 := hb6.size
        clear hb6 hm5 hc5
        have hkey := keyOf_str xs (by have := HXN.out; unfold maxLen; omega)
        have hval : plainElem (H := Unit) Tryz.prog 4 (.bool true) = some (.lit (.bool true), []) := plainElem_bool Tryz.underlying4 true
        have HKEY := Lib.hid hkey
        have HVAL := Lib.hid hval
        clear hkey hval
        go_wp2_with (at_mapUpdate; go_must (refine wpList_mapUpdate_own _ rfl (.tmp 49) (.tmp 51) (.const (.bool true)) 110 rfl 9 4 strKeyed Tryz.underlying110 _ k.b2 (Maps.size D2) D2 rfl H26.out (by unfold maxLen; omega) (.string ⟨xs.toArray⟩) (.bool true) _ rfl rfl HKEY.out (.lit (.bool true)) [] HVAL.out ?_))
        intro W7 hown7 hg7
        go_wp2_with fail
        go_meet
        have hap := HKB6.out.apart
        have hfr := H3.out.other (H2.out.tidy strKeyed) xs y HFO.out.symm HYX.out
        have hal := addInk_len l xs
        exact ⟨rfl, rfl, rfl, ⟨HKB6.out.cells.beside hg7 hap.2.1, ⟨D1, _, _, _, H16.out.kept hg7 (fun e => hap.2.2 (by injection e with e)), hown7, hfr⟩, by omega, hap⟩,
          HO6.out.trans (OnlyBook.of_grown hg7 (.inr (.inr rfl))), HD6.out.beside hg7 (by omega), HB6.out.beside hg7 (by omega)⟩
  case rest =>
    obtain ⟨rfl, rfl, rfl, hbk, hob, hd, he⟩ := hcut
    have HBK := Lib.hid hbk
    have HOB := Lib.hid hob
    clear hbk hob
    go_upto_region 12 with fail
    have HDW := Lib.hid hd
    have HEW := Lib.hid he
    have hgw := hd.lt
    clear hd he
    go_wp2_with (first
      | (refine wpList_load_part rfl 60 (.tmp 6) rfl ge 0 32 rfl 60 _ D _ HEW.out Tryz.underlying60 rfl rfl HDS.out (fun _ _ => by rw [Nat.zero_add]) ?_)
      | (refine wpList_store_part rfl 60 (.tmp 4) (.tmp 52) rfl gd 0 D rfl rfl 60 _ HDW.out (by rw [HDS.out]; rfl) (by rw [HDS.out]; simp) HDO.out ?_; intro W8 hT8 hB8; rw [spl_self _ _ (by rw [HDS.out]; rfl)] at hB8))
    refine bodyPost_ret (results_part2 rfl _ _ gd 32 60 _ _ rfl hB8 Tryz.underlying60 rfl rfl HDS.out) rfl ⟨by rw [HDD.out]; rfl, ?_, ?_⟩
    · exact HBK.out.grown hT8.grown (by omega)
    · exact HOB.out.grown hT8.grown (by have := HGD.out; omega)

def inkZ : Array Value := bRow (List.replicate 32 0)
/-- a book that is none -/
def NoBook (w : World) (p : Option Addr) : Prop := p = none ∨ ∃ g, p = some ⟨g, 0, none⟩ ∧ g < w.heap.size ∧ w.cell? ⟨g, 0, none⟩ = some (.map none)
theorem NoBook.below {w w' : World} {p : Option Addr} (h : NoBook w p) (hb : Below w.heap.size w w') : NoBook w' p := by
  rcases h with rfl | ⟨g, rfl, hg, hc⟩
  · exact .inl rfl
  · exact .inr ⟨g, rfl, Nat.lt_of_lt_of_le hg hb.size, (hb.cell (by show g < _; exact hg)).trans hc⟩
end Go.Proofs.YtcpngeiahgoacaaGreat

/- (*Book).Of of bytes of any number; Len and Clash out of worlds that are alike. -/
namespace Go.Proofs.YtcpngeiahgoacaaGreat
set_option linter.unusedVariables false
open Go.RowKit Go.Maps

/-- what a book has once it was asked of bytes of any number -/
def noteInk (l : List (List UInt8)) (x : List UInt8) : List (List UInt8) := if x.length ≤ 65536 then addInk l x else l
def noteN (asked : Nat) (x : List UInt8) : Nat := if x.length ≤ 65536 then asked + 1 else asked
/-- Of's answer -/
structure OfAns (D : Array Value) (code : Int) (x : List UInt8) : Prop where
  size : D.size = 32
  one : D.all (·.oneCell') = true
  small : x.length ≤ 65536 → code = 0 ∧ D = bRow (shaOf x)
  big : 65536 < x.length → code = 5 ∧ D = inkZ
theorem noteN_le (asked : Nat) (x : List UInt8) : noteN asked x ≤ asked + 1 := by unfold noteN; split <;> omega

end Go.Proofs.YtcpngeiahgoacaaGreat

/- What a book has of the first k of a list. -/


/- Arguments, opened: bytes, numbers, arrays of numbers, lists of bytes, as lists that memory reads as. No program is named. -/
namespace Go.Proofs.YtcpngeiahgoacaaGreat
set_option linter.unusedVariables false
open Go.RowKit Go.WideShapes Go.ChangeShapes

/-- each slice of a datum takes no more bytes than a process can have -/
def Light {H : Type} (P : Program) (t : TypeId) (d : DataW H) : Prop := ∀ n ∈ d.weights P t, n ≤ reachBytes
theorem light_of {H : Type} {P : Program} {ts : List TypeId} {ds : List (DataW H)} (h : (DataW.weightsEach P ts ds).all (· ≤ reachBytes) = true) (j : Nat) {t : TypeId} {d : DataW H} (ht : ts[j]? = some t) (hd : ds[j]? = some d) : Light P t d := fun n hn => by
  have := List.all_eq_true.1 h n (DataW.weights_mem_each ht hd n hn)
  simpa using this
theorem weightsAll_mem {H : Type} {P : Program} {e : TypeId} : ∀ {l : List (DataW H)} {d : DataW H}, d ∈ l → ∀ n ∈ d.weights P e, n ∈ DataW.weightsAll P e l
  | d0 :: l, d, hd, n, hn => by
    simp only [DataW.weightsAll, List.mem_append]
    rcases List.mem_cons.1 hd with rfl | hd
    · exact .inl hn
    · exact .inr (weightsAll_mem hd n hn)
  | [], _, hd, _, _ => by simp at hd
theorem light_slice {H : Type} {P : Program} {t e : TypeId} {l s : List (DataW H)} (ht : P.underlying t = some (.slice e)) (h : Light P t (.slice l s)) : (l.length + s.length) * P.bytesOf e ≤ reachBytes ∧ ∀ d, d ∈ l ∨ d ∈ s → Light P e d := by
  unfold Light at h
  rw [DataW.weights] at h
  simp only [ht] at h
  refine ⟨h _ (List.mem_cons_self ..), fun d hd n hn => h n ?_⟩
  refine List.mem_cons_of_mem _ (List.mem_append.2 ?_)
  rcases hd with hd | hd
  · exact .inl (weightsAll_mem hd n hn)
  · exact .inr (weightsAll_mem hd n hn)

section
variable {H : Type} {enc : TypeId × Value → H} {P : Program} {w : World} {held : Bool}

theorem u8_of_wf {z : Int} (h : (Lit.int .u8 z).wf = true) : Value.int .u8 z = vb (UInt8.ofNat z.toNat) := by
  have hb := bounds_u8 h
  unfold vb bi
  congr 1
  rw [UInt8.toNat_ofNat']
  omega

/-- numbers as cells -/
def vn (z : Int) : Value := .int .i64 z
/-- lists of bytes, as memory reads -/
def Rows2 (w : World) (A : Option Addr) (n : Nat) (xss : List (List UInt8)) : Prop :=
  xss.length = n ∧ (0 < n → ∃ ad, A = some ad ∧ ad.block < w.heap.size ∧ ∀ j xs, xss[j]? = some xs → ∃ B m c, w.cell? (ad.add j) = some (.slice B m c) ∧ Reads w w.heap.size 1 B m (xs.map vb) ∧ m ≤ c ∧ c ≤ reachBytes)
end

end Go.Proofs.YtcpngeiahgoacaaGreat

/- Contract of the helper Bring. -/


/- Contracts of (*ink.Book).Clash. -/


/- Bytes beside a book. -/
namespace Go.Proofs.YtcpngeiahgoacaaGreat
set_option linter.unusedVariables false
open Go.RowKit Go.Maps

theorem Reads.only {w w' : World} {B n : Nat} {A : Option Addr} {xs : List Value} {k : Book} (h : Reads w B 1 A n xs) (ho : OnlyBook k w w') (hB : B ≤ w.heap.size) (hk : ∀ a, 0 < n → A = some a → ¬ k.has a.block) : Reads w' B 1 A n xs :=
  ⟨h.1, fun h0 => by
    obtain ⟨ad, rfl, hb, hc⟩ := h.2 h0
    refine ⟨ad, rfl, hb, fun j u hj => ?_⟩
    have he : (ad.add j).block = ad.block := by simp [Addr.add]; split <;> rfl
    have hh := ho.block ad.block (Nat.lt_of_lt_of_le hb hB) (hk ad h0 rfl)
    rw [← hc j u hj]
    exact World.cell?_of_block (w := w) (by rw [he]; exact hh)⟩
theorem Reads.above {w : World} {B n : Nat} {A : Option Addr} {xs : List Value} {k : Book} (h : Reads w B 1 A n xs) (hk : B ≤ k.g ∧ B ≤ k.b1 ∧ B ≤ k.b2) : ∀ a, 0 < n → A = some a → ¬ k.has a.block := fun a h0 ha => by
  obtain ⟨ad, rfl, hb, _⟩ := h.2 h0
  injection ha with ha
  subst ha
  rintro (e | e | e) <;> omega
theorem OnlyBook.below' {k : Book} {w w' w'' : World} (h : OnlyBook k w w') (hb : Below w'.heap.size w' w'') : OnlyBook k w w'' := h.trans (OnlyBook.of_below hb)
theorem BookAt.keep {w w' : World} {k : Book} {l : List (List UInt8)} {n : Nat} (h : BookAt w k l n) (hk : ∀ b, k.has b → w'.heap[b]? = w.heap[b]?) : BookAt w' k l n := by
  obtain ⟨D1, D2, n1, n2, h1, h2, h3⟩ := h.maps
  refine ⟨(hk _ (.inl rfl)).trans h.cells, ⟨D1, D2, n1, n2, ?_, ?_, h3⟩, h.len, h.apart⟩
  · obtain ⟨es, c, hb, F, hs, hD⟩ := h1
    exact ⟨es, c, (hk _ (.inr (.inl rfl))).trans hb, F, hs, hD⟩
  · obtain ⟨es, c, hb, F, hs, hD⟩ := h2
    exact ⟨es, c, (hk _ (.inr (.inr rfl))).trans hb, F, hs, hD⟩
end Go.Proofs.YtcpngeiahgoacaaGreat

/- Contracts of bastidelaw03.noted and works. -/


/- Len and Asked of a book, and of none. -/


/- Contract of bastidelaw03.works. -/
namespace Go.Proofs.YtcpngeiahgoacaaGreat
set_option linter.unusedVariables false
open Go.RowKit Go.Maps

theorem below_lit (W : World) (o : Obj) : Below W.heap.size W (W.alloc o) := (Below.refl _ _).alloc (Nat.le_refl _) _
end Go.Proofs.YtcpngeiahgoacaaGreat

/- noted of bytes of any number. -/


/- When a book has a clash. -/


/- Trees of digests in plain words: leaves, groups of four, the level above, what a root says of its leaves. -/
namespace Go.Proofs.YtcpngeiahgoacaaGreat
set_option linter.unusedVariables false

def leafIn (x : List UInt8) : List UInt8 := 0 :: x
def leafD (x : List UInt8) : List UInt8 := shaOf (leafIn x)
def upIn (ds : List (List UInt8)) : List UInt8 := 1 :: ds.flatten
def upD (ds : List (List UInt8)) : List UInt8 := shaOf (upIn ds)
def grp (ds : List (List UInt8)) (p : Nat) : List (List UInt8) := (ds.drop (4 * p)).take 4
def grps (n : Nat) : Nat := (n + 3) / 4
def aboveL (ds : List (List UInt8)) : List (List UInt8) := (List.range (grps ds.length)).map fun p => upD (grp ds p)
def Digs (ds : List (List UInt8)) : Prop := ∀ d, d ∈ ds → d.length = 32

theorem leafD_len (x : List UInt8) : (leafD x).length = 32 := shaOf_len _
theorem upD_len (ds : List (List UInt8)) : (upD ds).length = 32 := shaOf_len _
theorem aboveL_len (ds : List (List UInt8)) : (aboveL ds).length = grps ds.length := by simp [aboveL]
theorem aboveL_digs (ds : List (List UInt8)) : Digs (aboveL ds) := fun d hd => by
  obtain ⟨p, _, rfl⟩ := List.mem_map.1 hd
  exact upD_len _
theorem leaves_digs (ls : List (List UInt8)) : Digs (ls.map leafD) := fun d hd => by
  obtain ⟨p, _, rfl⟩ := List.mem_map.1 hd
  exact leafD_len _
theorem grp_digs {ds : List (List UInt8)} (h : Digs ds) (p : Nat) : Digs (grp ds p) := fun d hd => h d (List.mem_of_mem_drop (List.mem_of_mem_take hd))
theorem digs_flat_len : ∀ {ds : List (List UInt8)}, Digs ds → ds.flatten.length = 32 * ds.length
  | [], _ => rfl
  | d :: t, h => by
    have h1 := h d (List.mem_cons_self ..)
    have h2 := digs_flat_len (ds := t) fun e he => h e (List.mem_cons_of_mem _ he)
    simp only [List.flatten_cons, List.length_append, List.length_cons]
    omega
theorem upIn_len {ds : List (List UInt8)} (h : Digs ds) : (upIn ds).length = 1 + 32 * ds.length := by
  unfold upIn
  rw [List.length_cons, digs_flat_len h]
  omega
theorem Digs.set {ds : List (List UInt8)} (h : Digs ds) (i : Nat) {d : List UInt8} (hd : d.length = 32) : Digs (ds.set i d) := fun e he => by
  rcases List.mem_or_eq_of_mem_set he with h1 | rfl
  · exact h e h1
  · exact hd
theorem grp_get (ds : List (List UInt8)) (p j : Nat) : (grp ds p)[j]? = if j < 4 then ds[4 * p + j]? else none := by
  unfold grp
  rw [List.getElem?_take]
  split <;> simp
theorem grp_set_far (ds : List (List UInt8)) (i p : Nat) (d : List UInt8) (h : p ≠ i / 4) : grp (ds.set i d) p = grp ds p := by
  apply List.ext_getElem?
  intro j
  rw [grp_get, grp_get]
  split
  · rename_i hj
    rw [List.getElem?_set]
    rw [if_neg (by omega)]
  · rfl
theorem aboveL_get (ds : List (List UInt8)) (p : Nat) : (aboveL ds)[p]? = if p < grps ds.length then some (upD (grp ds p)) else none := by
  unfold aboveL
  rw [List.getElem?_map]
  split
  · rename_i h; rw [List.getElem?_range h]; rfl
  · rename_i h; rw [List.getElem?_eq_none (by simpa using h)]; rfl
/-- one digest is turned: so is the one above it -/
theorem aboveL_set (ds : List (List UInt8)) (i : Nat) (d : List UInt8) (h : i < ds.length) : aboveL (ds.set i d) = (aboveL ds).set (i / 4) (upD (grp (ds.set i d) (i / 4))) := by
  apply List.ext_getElem?
  intro p
  rw [List.getElem?_set, aboveL_get, aboveL_get, List.length_set]
  by_cases hp : i / 4 = p
  · subst hp
    rw [if_pos rfl, if_pos (by unfold grps; omega), aboveL_len, if_pos (by unfold grps; omega)]
  · rw [if_neg hp, grp_set_far _ _ _ _ (fun e => hp e.symm)]

/-- the three levels over 5 to 16 leaves -/
def lv (ls : List (List UInt8)) : Nat → List (List UInt8)
  | 0 => ls.map leafD
  | n + 1 => aboveL (lv ls n)
def rootL (ls : List (List UInt8)) : List UInt8 := (lv ls 2).getD 0 []
theorem lv_digs (ls : List (List UInt8)) : ∀ n, Digs (lv ls n)
  | 0 => leaves_digs ls
  | n + 1 => aboveL_digs _
theorem lv_len0 (ls : List (List UInt8)) : (lv ls 0).length = ls.length := by simp [lv]
theorem lv_len1 (ls : List (List UInt8)) : (lv ls 1).length = grps ls.length := by
  show (aboveL (lv ls 0)).length = _
  rw [aboveL_len, lv_len0]
theorem lv_len2 (ls : List (List UInt8)) : (lv ls 2).length = grps (grps ls.length) := by
  show (aboveL (lv ls 1)).length = _
  rw [aboveL_len, lv_len1]
theorem lv_one (ls : List (List UInt8)) (h1 : 5 ≤ ls.length) (h2 : ls.length ≤ 16) : lv ls 2 = [rootL ls] ∧ (rootL ls).length = 32 := by
  have h := lv_len2 ls
  have hl : (lv ls 2).length = 1 := by rw [h]; unfold grps; omega
  obtain ⟨d, hd⟩ := List.length_eq_one_iff.1 hl
  have hr : rootL ls = d := by unfold rootL; rw [hd]; rfl
  rw [hr]
  exact ⟨hd, lv_digs ls 2 d (by rw [hd]; exact List.mem_singleton.2 rfl)⟩
/-- one leaf is turned -/
theorem lv_set0 (ls : List (List UInt8)) (i : Nat) (x : List UInt8) : lv (ls.set i x) 0 = (lv ls 0).set i (leafD x) := by
  simp [lv, List.map_set]
/-- all that a tree digests is in the book -/
structure InBook (L : List (List UInt8)) (ls : List (List UInt8)) : Prop where
  leaf : ∀ x, x ∈ ls → leafIn x ∈ L
  one : ∀ p, p < grps ls.length → upIn (grp (lv ls 0) p) ∈ L
  two : upIn (lv ls 1) ∈ L
theorem InBook.more {L L' ls : List (List UInt8)} (h : InBook L ls) (hs : ∀ x, x ∈ L → x ∈ L') : InBook L' ls := ⟨fun x hx => hs _ (h.leaf x hx), fun p hp => hs _ (h.one p hp), hs _ h.two⟩
theorem InBook.set {L L' ls : List (List UInt8)} {i : Nat} {x : List UInt8} (h : InBook L ls) (hi : i < ls.length) (hs : ∀ y, y ∈ L → y ∈ L') (h0 : leafIn x ∈ L') (h1 : upIn (grp (lv (ls.set i x) 0) (i / 4)) ∈ L') (h2 : upIn (lv (ls.set i x) 1) ∈ L') : InBook L' (ls.set i x) := by
  refine ⟨fun y hy => ?_, fun p hp => ?_, h2⟩
  · rcases List.mem_or_eq_of_mem_set hy with hm | rfl
    · exact hs _ (h.leaf y hm)
    · exact h0
  · by_cases he : p = i / 4
    · subst he; exact h1
    · rw [lv_set0, grp_set_far _ _ _ _ he]
      rw [List.length_set] at hp
      exact hs _ (h.one p hp)
end Go.Proofs.YtcpngeiahgoacaaGreat

/- Numbers as bytes: how many digits, which. -/
namespace Go.Proofs.YtcpngeiahgoacaaGreat
set_option linter.unusedVariables false

/-- how many digits of 256 a number has -/
def nd (n : Nat) : Nat := if h : n = 0 then 0 else nd (n / 256) + 1
theorem nd_zero : nd 0 = 0 := by unfold nd; simp
theorem nd_pos {n : Nat} (h : n ≠ 0) : nd n = nd (n / 256) + 1 := by rw [nd]; simp [h]
theorem nd_gt (n : Nat) : ∀ j, (0 < n / 256 ^ j ↔ j < nd n) := by
  induction n using Nat.strongRecOn with
  | _ n ih =>
    intro j
    by_cases h : n = 0
    · subst h; simp [nd_zero]
    · rw [nd_pos h]
      cases j with
      | zero => simp; omega
      | succ j =>
        rw [Nat.pow_succ, Nat.mul_comm, ← Nat.div_div_eq_div_mul, ih (n / 256) (by omega) j]
        omega
theorem nd_le {n k : Nat} (h : n < 256 ^ k) : nd n ≤ k := by
  rcases Nat.lt_or_ge k (nd n) with h1 | h1
  · have := (nd_gt n k).2 h1
    rw [Nat.div_eq_of_lt h] at this
    omega
  · exact h1
/-- digit i of k, the highest first -/
def dig (n k i : Nat) : UInt8 := UInt8.ofNat (n / 256 ^ (k - 1 - i) % 256)
def digs (n k : Nat) : List UInt8 := (List.range k).map (dig n k)
theorem digs_len (n k : Nat) : (digs n k).length = k := by simp [digs]
theorem digs_succ (n k : Nat) : digs n (k + 1) = digs (n / 256) k ++ [UInt8.ofNat (n % 256)] := by
  unfold digs
  rw [List.range_succ, List.map_append]
  congr 1
  · apply List.map_congr_left
    intro i hi
    have hi := List.mem_range.1 hi
    unfold dig
    rw [show k + 1 - 1 - i = (k - 1 - i) + 1 by omega, Nat.pow_succ, Nat.mul_comm, ← Nat.div_div_eq_div_mul]
  · simp [dig]
/-- the bytes of a number -/
def numB (n : Nat) : List UInt8 := UInt8.ofNat (nd n) :: digs n (nd n)
def valB (l : List UInt8) : Nat := l.foldl (fun a b => a * 256 + b.toNat) 0
theorem valB_snoc (l : List UInt8) (b : UInt8) : valB (l ++ [b]) = valB l * 256 + b.toNat := by simp [valB, List.foldl_append]
theorem split_last (l : List UInt8) (k : Nat) (h : l.length = k + 1) : l = l.take k ++ [l[k]'(by omega)] := by
  rw [List.take_append_getElem (by omega), ← h, List.take_length]
theorem valB_lt (k : Nat) : ∀ l : List UInt8, l.length = k → valB l < 256 ^ k := by
  induction k with
  | zero => intro l h; rw [List.eq_nil_of_length_eq_zero h]; decide
  | succ k ih =>
    intro l h
    rw [split_last l k h, valB_snoc, Nat.pow_succ]
    have h1 := ih (l.take k) (by simp; omega)
    have h2 := (l[k]'(by omega)).toNat_lt
    omega
theorem digs_back (k : Nat) : ∀ l : List UInt8, l.length = k → digs (valB l) k = l := by
  induction k with
  | zero => intro l h; rw [List.eq_nil_of_length_eq_zero h]; rfl
  | succ k ih =>
    intro l h
    have hl := split_last l k h
    have hb := (l[k]'(by omega)).toNat_lt
    have hv : valB l = valB (l.take k) * 256 + (l[k]'(by omega)).toNat := by rw [← valB_snoc, ← hl]
    rw [digs_succ, hv, show (valB (l.take k) * 256 + (l[k]'(by omega)).toNat) / 256 = valB (l.take k) by omega, show (valB (l.take k) * 256 + (l[k]'(by omega)).toNat) % 256 = (l[k]'(by omega)).toNat by omega, ih _ (by simp; omega)]
    rw [UInt8.ofNat_toNat]
    exact hl.symm
theorem valB_ge (l : List UInt8) (k : Nat) (h : l.length = k + 1) (h0 : l.head? ≠ some 0) : 256 ^ k ≤ valB l := by
  induction k generalizing l with
  | zero =>
    match l, h with
    | [b], _ =>
      have : b.toNat ≠ 0 := fun e => h0 (by simp; exact UInt8.toNat_inj.1 e)
      simp [valB]; omega
  | succ k ih =>
    have hl := split_last l (k + 1) h
    have hv : valB l = valB (l.take (k + 1)) * 256 + (l[k + 1]'(by omega)).toNat := by rw [← valB_snoc, ← hl]
    have h1 := ih (l.take (k + 1)) (by simp; omega) (by rw [List.head?_take]; simpa using h0)
    rw [hv, Nat.pow_succ]
    omega
theorem nd_back (l : List UInt8) (h0 : 0 < l.length → l.head? ≠ some 0) : nd (valB l) = l.length := by
  have h1 : nd (valB l) ≤ l.length := nd_le (valB_lt _ l rfl)
  cases hk : l.length with
  | zero => omega
  | succ k =>
    have h2 := valB_ge l k hk (h0 (by omega))
    have h3 : 0 < valB l / 256 ^ k := Nat.div_pos h2 (Nat.pow_pos (by omega))
    have := (nd_gt (valB l) k).1 h3
    omega
theorem numB_back (m : UInt8) (l : List UInt8) (hm : m.toNat = l.length) (h0 : 0 < l.length → l.head? ≠ some 0) : numB (valB l) = m :: l := by
  unfold numB
  rw [nd_back l h0, digs_back _ l rfl, ← hm, UInt8.ofNat_toNat]
def maxN : Nat := 9007199254740991
theorem nd_max {n : Nat} (h : n ≤ maxN) : nd n ≤ 7 := nd_le (by unfold maxN at h; omega)

/-- a number is taken off -/
def takeN (b : List UInt8) : Except Nat (Nat × List UInt8) :=
  match b with
  | [] => .error 3
  | m :: r =>
    if 7 < m.toNat then .error 4
    else if r.length < m.toNat then .error 3
    else if 0 < m.toNat ∧ r.head? = some 0 then .error 4
    else if maxN < valB (r.take m.toNat) then .error 9
    else .ok (valB (r.take m.toNat), r.drop m.toNat)
theorem nd_byte {n : Nat} (h : n ≤ maxN) : (UInt8.ofNat (nd n)).toNat = nd n := by
  have := nd_max h
  rw [UInt8.toNat_ofNat', Nat.mod_eq_of_lt (by omega)]
theorem takeN_back {b r : List UInt8} {n : Nat} (h : takeN b = .ok (n, r)) : b = numB n ++ r ∧ n ≤ maxN := by
  unfold takeN at h
  match b, h with
  | m :: t, h =>
    simp only at h
    split at h
    · cases h
    · split at h
      · cases h
      · split at h
        · cases h
        · rename_i h1 h2 h3
          split at h
          · cases h
          · rename_i h4
            injection h with h
            injection h with h5 h6
            subst h5 h6
            refine ⟨?_, by omega⟩
            have hl : (t.take m.toNat).length = m.toNat := by simp; omega
            rw [numB_back m (t.take m.toNat) hl.symm (fun hp => by
              rw [List.head?_take, if_neg (by omega)]
              exact fun e => h3 ⟨by omega, e⟩), List.cons_append, List.take_append_drop]
theorem numB_len {n : Nat} (h : n ≤ maxN) : 1 ≤ (numB n).length ∧ (numB n).length ≤ 8 := by
  have := nd_max h
  unfold numB
  simp [digs_len]
  omega
/-- so many bytes are taken off -/
def takeF (b : List UInt8) (n : Nat) : Except Nat (List UInt8 × List UInt8) := if b.length < n then .error 3 else .ok (b.take n, b.drop n)
/-- a text is taken off -/
def takeS (b : List UInt8) (most : Nat) : Except Nat (List UInt8 × List UInt8) :=
  match takeN b with
  | .error e => .error e
  | .ok (n, r) => if min most 65536 < n then .error 5 else takeF r n
def strB (s : List UInt8) : List UInt8 := numB s.length ++ s
end Go.Proofs.YtcpngeiahgoacaaGreat

/- Contract of bin.Num. -/
namespace Go.Proofs.YtcpngeiahgoacaaGreat
set_option linter.unusedVariables false
open Go.RowKit

theorem reads_first (w : World) (x : Value) (t : TypeId) : Reads (w.alloc (.cells #[x] t)) (w.heap.size + 1) 1 (some ⟨w.heap.size, 0, none⟩) 1 [x] :=
  ⟨rfl, fun _ => ⟨_, rfl, Nat.lt_succ_self _, cell_one_new w x t⟩⟩

theorem shr_nat (n j : Nat) : (n : Int) / 2 ^ (8 * j) = ((n / 256 ^ j : Nat) : Int) := by
  rw [Nat.pow_mul 2 8 j |> fun h => (show (2 : Int) ^ (8 * j) = ((2 ^ (8 * j) : Nat) : Int) by simp)]
  rw [Nat.pow_mul]
  simp
set_option maxRecDepth 100000 in
set_option maxHeartbeats 1000000 in
theorem binNum_any (n : Nat) (hn : n ≤ maxN) (w : World) :
    Calls Tryz.prog 132 #[.int .i64 (n : Int)] w fun e w' => ∃ v, e = .returned (.tuple #[v, .int .i64 0]) ∧ OwnB w' w.heap.size v (numB n) ∧ Below w.heap.size w w' := by
  have h7 := nd_max hn
  unfold maxN at hn
  obtain ⟨i0, hi0, hz0, hz1, hz2⟩ := info_parts u8_info
  go_enter Tryz.func132, Tryz.ntmps132
  go_wp2_with fail
  go_loopw [4] (fun mv wr => ∃ j : Nat, j ≤ nd n ∧ mv = .int .i64 j ∧ w = wr) (fun mv _ => 8 - (intOf mv).toNat)
  case atStart => exact ⟨0, by omega, rfl, rfl⟩
  case round =>
    obtain ⟨j, hj, rfl, rfl⟩ := hrel
    by_cases hjn : j < nd n
    · have hsh : (0 : Int) < (n : Int) / 2 ^ (8 * j) := by rw [shr_nat]; have := (nd_gt n j).2 hjn; omega
      go_wp2_with fail
      go_roundw
      case rel => exact ⟨j + 1, by omega, by go_num, trivial⟩
      case measure => simp [intOf]; omega
    · obtain rfl : j = nd n := by omega
      have hsh : ¬ (0 : Int) < (n : Int) / 2 ^ (8 * nd n) := by rw [shr_nat]; have := (nd_gt n (nd n)); omega
      go_wp2_with fail
      clear hsh
      have hX : Below w.heap.size w (w.alloc (.cells #[.int .u8 (nd n : Int)] 5)) := (Below.refl _ _).alloc (Nat.le_refl _) _
      have hb0 : vb (UInt8.ofNat (nd n)) = .int .u8 (nd n : Int) := by unfold vb bi; rw [nd_byte hn]
      have ho : OwnB (w.alloc (.cells #[.int .u8 (nd n : Int)] 5)) w.heap.size (.slice (some ⟨w.heap.size, 0, none⟩) 1 1) ((numB n).take 1) := by
        rw [← hb0]
        exact ⟨rfl, .inr ⟨w.heap.size, 1, _, rfl, Nat.le_refl _, heap_alloc_new w _, Nat.le_refl _, by unfold maxLen; omega, rfl, rfl⟩⟩
      have HO := Lib.hid ho
      have HX := Lib.hid hX
      clear ho hX hb0
      go_loopw [5, 24] (fun ov iv w2 => ∃ (i : Nat), i ≤ nd n ∧ iv = .int .i64 i ∧ OwnB w2 w.heap.size ov ((numB n).take (i + 1)) ∧ Below w.heap.size w w2) (fun _ iv _ => nd n - (intOf iv).toNat)
      case atStart => exact ⟨0, by omega, rfl, HO.out, HX.out⟩
      case round =>
        obtain ⟨i, hi, rfl, hov, hbel⟩ := hrel
        have hown := hov
        unfold OwnB at hown
        have HOV := Lib.hid hov
        have HWN := Lib.hid hown
        have HB := Lib.hid hbel
        have hsz := hbel.size
        clear hov hown hbel
        have hlen : (numB n).length = nd n + 1 := by simp [numB, digs_len]
        by_cases hin : i < nd n
        · have hd : vb (dig n (nd n) i) = .int .u8 ((n : Int) / 2 ^ (8 * (nd n - 1 - i)) % 256) := by
            rw [shr_nat]; unfold vb bi dig; rw [UInt8.toNat_ofNat']; congr 1; omega
          have hnext : (numB n).take (i + 1 + 1) = (numB n).take (i + 1) ++ [dig n (nd n) i] := by
            rw [List.take_succ_eq_append_getElem (by omega)]
            simp [numB, digs]
          have HD := Lib.hid hd
          have HNX := Lib.hid hnext
          have hti : ((numB n).take (i + 1)).length = i + 1 := by rw [List.length_take]; omega
          have HTI := Lib.hid hti
          clear hd hnext hlen hti
          go_wp2_with (at_builtin; go_must (refine wpList_append_any _ rfl (.tmp 27) (.tmp 36) 22 rfl w.heap.size 5 i0 _ 1 1 Tryz.underlying22 hi0 hz0 hz1 hz2 rfl (by omega) _ _ _ rfl (HWN.out.alloc _) (wr.heap.size + 1) (some ⟨wr.heap.size, 0, none⟩) 1 1 [.int .u8 ((n : Int) / 2 ^ (8 * (nd n - 1 - i)) % 256)] rfl (reads_first _ _ _) (by simp [Value.oneCell']) ?c1 ?c2 ?c3 ?_))
          case c1 => have := HTI.out; unfold maxLen; omega
          case c2 => have := HTI.out; omega
          case c3 => simp; omega
          intro v3 w3 hown3 hg3 hor3
          have hb3 := grown_below (HB.out.trans ((Below.refl _ _).alloc (Nat.le_refl _) (.cells #[.int .u8 ((n : Int) / 2 ^ (8 * (nd n - 1 - i)) % 256)] 5) |>.mono hsz)) (by simp; omega) hg3 (fun b hb => HOV.out.ge hb)
          have HB3 := Lib.hid hb3
          have HO3 := Lib.hid (show OwnB w3 w.heap.size v3 ((numB n).take (i + 1 + 1)) by
            unfold OwnB
            rw [HNX.out, List.length_append, List.map_append, List.length_singleton, List.map_singleton, HD.out]
            simpa [List.map_take] using hown3)
          clear hb3 hown3 hg3 hor3
          go_wp2_with fail
          go_roundw
          case rel => exact ⟨i + 1, by omega, by go_num, HO3.out, HB3.out⟩
          case measure => simp [intOf]; omega
        · obtain rfl : i = nd n := by omega
          go_wp2_with fail
          go_ret2
          refine ⟨_, rfl, ?_, HB.out⟩
          have := HOV.out
          rw [List.take_of_length_le (by omega)] at this
          exact this

end Go.Proofs.YtcpngeiahgoacaaGreat

/- Contracts of slices.Clone, bin.Join, bin.Str, wish.nums. -/
namespace Go.Proofs.YtcpngeiahgoacaaGreat
set_option linter.unusedVariables false
open Go.RowKit

set_option maxRecDepth 100000 in
set_option maxHeartbeats 1000000 in
theorem clone_any (A : Option Addr) (n c : Nat) (xs : List UInt8) (w : World) (B : Nat) (h : Reads w B 1 A n (xs.map vb)) (hB : B ≤ w.heap.size) (hn : n ≤ 140737488355328) :
    Calls Tryz.prog 63 #[.slice A n c] w fun e w' => ∃ v, e = .returned v ∧ OwnB w' w.heap.size v xs ∧ Below w.heap.size w w' := by
  have hxn : xs.length = n := by have := h.1; simpa using this
  have HXN := Lib.hid hxn
  clear hxn
  obtain ⟨i0, hi0, hz0, hz1, hz2⟩ := info_parts u8_info
  have hnil : ∀ (w : World) (a : Option Addr) (n c n' c' : Nat), (binOp .eql 22 (.slice a n c) (.slice none n' c')).run Tryz.prog w = .ok (.bool a.isNone) w := fun w a n c n' c' => Lib.run_eql_slice_nil w _ _ a n c n' c' Tryz.underlying22
  cases A with
  | none =>
    have h0 : n = 0 := by
      rcases Nat.eq_zero_or_pos n with h0 | h0
      · exact h0
      · obtain ⟨ad, e, _⟩ := h.2 h0; cases e
    subst h0
    have hx0 : xs = [] := List.eq_nil_of_length_eq_zero HXN.out
    subst hx0
    go_enter Tryz.func63, Tryz.ntmps63
    go_wp2_with fail
    go_ret
    exact ⟨_, rfl, OwnB.nil _ _, Below.refl _ _⟩
  | some ad =>
    go_enter Tryz.func63, Tryz.ntmps63
    go_wp2_with (at_builtin; go_must (refine wpList_append_any _ rfl (.tmp 5) (.tmp 6) 22 rfl w.heap.size 5 i0 _ 1 1 Tryz.underlying22 hi0 hz0 hz1 hz2 rfl (by omega) (.slice (some ⟨w.heap.size, 0, none⟩) 0 0) 0 [] rfl ⟨rfl, .inr ⟨w.heap.size, 0, #[], rfl, Nat.le_refl _, heap_alloc_new w _, Nat.le_refl _, Nat.zero_le _, rfl, rfl⟩⟩ B (some ad) n c (xs.map vb) rfl (h.alloc hB _) ?c1 ?c2 ?c3 ?c4 ?_))
    case c1 => intro u hu; obtain ⟨x, _, rfl⟩ := List.mem_map.1 hu; rfl
    case c2 => unfold maxLen; omega
    case c3 => omega
    case c4 => simp
    intro v1 w1 hown1 hg1 hor
    go_wp2
    go_ret
    refine ⟨v1, rfl, ?_, grown_below ((Below.refl _ _).alloc (Nat.le_refl _) _) (by simp) hg1 (fun b hb => by simp [Value.ownBlock] at hb; omega)⟩
    unfold OwnB
    rw [HXN.out]
    simpa using hown1

theorem OwnB.row {w : World} {B : Nat} {v : Value} {xs : List UInt8} (h : OwnB w B v xs) : w.ownsRow B 5 1 v xs.length (xs.map vb) := h
/-- slices of bytes, that lie below B -/
def RowsB (w : World) (B : Nat) (A : Option Addr) (n : Nat) (xss : List (List UInt8)) : Prop :=
  xss.length = n ∧ (0 < n → ∃ ad, A = some ad ∧ ad.block < B ∧ ∀ (k : Nat) (x : List UInt8), xss[k]? = some x → ∃ Ak mk ck, w.cell? (ad.add k) = some (.slice Ak mk ck) ∧ Reads w B 1 Ak mk (x.map vb))
theorem RowsB.below {w w' : World} {B n : Nat} {A : Option Addr} {xss : List (List UInt8)} (h : RowsB w B A n xss) (hb : Below B w w') : RowsB w' B A n xss :=
  ⟨h.1, fun h0 => by
    obtain ⟨ad, hA, hB, hc⟩ := h.2 h0
    exact ⟨ad, hA, hB, fun k x hx => by
      obtain ⟨Ak, mk, ck, h1, h2⟩ := hc k x hx
      exact ⟨Ak, mk, ck, (hb.cell (by rw [block_of_add]; exact hB)).trans h1, h2.below hb⟩⟩⟩

set_option maxRecDepth 100000 in
set_option maxHeartbeats 1000000 in
theorem join_any (A : Option Addr) (n c : Nat) (xss : List (List UInt8)) (w : World) (B : Nat) (h : RowsB w B A n xss) (hB : B ≤ w.heap.size) (hn : n ≤ 1000000) (hl : xss.flatten.length ≤ 100000000) :
    Calls Tryz.prog 128 #[.slice A n c] w fun e w' => ∃ v, e = .returned v ∧ OwnB w' w.heap.size v xss.flatten ∧ Below w.heap.size w w' := by
  have H := Lib.hid h
  have hxn := h.1
  have HXN := Lib.hid hxn
  clear h hxn
  obtain ⟨i0, hi0, hz0, hz1, hz2⟩ := info_parts u8_info
  go_enter Tryz.func128, Tryz.ntmps128
  go_wp2_with fail
  go_loopw [3, 8] (fun ov iv wr => ∃ i : Nat, i ≤ n ∧ iv = .int .i64 i ∧ OwnB wr w.heap.size ov (xss.take i).flatten ∧ Below w.heap.size w wr) (fun _ iv _ => n - (intOf iv).toNat)
  case atStart => exact ⟨0, by omega, rfl, OwnB.nil _ _, Below.refl _ _⟩
  case round =>
    obtain ⟨i, hi, rfl, hov, hbel⟩ := hrel
    have HOV := Lib.hid hov
    have HB := Lib.hid hbel
    have hsz := hbel.size
    clear hov hbel
    by_cases hin : i < n
    · obtain ⟨ad, hA, hadb, hcell⟩ := H.out.2 (by omega)
      subst hA
      have hxi : i < xss.length := by have := HXN.out; omega
      obtain ⟨Ak, mk, ck, hck, hrk⟩ := hcell i xss[i] (List.getElem?_eq_getElem hxi)
      have hck' := (HB.out.cell (show (ad.add i).block < w.heap.size by rw [block_of_add]; omega)).trans hck
      have hrk' := hrk.below (HB.out.mono hB)
      have hmk : xss[i].length = mk := by have := hrk.1; simpa using this
      obtain ⟨ys, hys⟩ : ∃ ys, ys = (xss.take i).flatten := ⟨_, rfl⟩
      have htk : (xss.take (i + 1)).flatten = (xss.take i).flatten ++ xss[i] := by rw [List.take_succ_eq_append_getElem hxi, List.flatten_append]; simp only [List.flatten_cons, List.flatten_nil, List.append_nil]
      have htl : (xss.take (i + 1)).flatten.length ≤ xss.flatten.length := by
        conv => rhs; rw [← List.take_append_drop (i + 1) xss, List.flatten_append, List.length_append]
        omega
      rw [htk, List.length_append] at htl
      rw [← hys] at HOV htk htl
      have HTK := Lib.hid htk
      have HYS := Lib.hid hys
      clear hys
      have HWN := Lib.hid HOV.out.row
      have HRK := Lib.hid hrk'
      generalize xss[i] = x at HTK HRK hmk htl
      have HMK := Lib.hid hmk
      clear hcell hck hrk hrk' hmk htk
      go_wp2_with (at_builtin; go_must (refine wpList_append_any _ rfl (.tmp 12) (.tmp 13) 22 rfl w.heap.size 5 i0 _ 1 1 Tryz.underlying22 hi0 hz0 hz1 hz2 rfl (by omega) _ _ _ rfl HWN.out B Ak mk ck (x.map vb) rfl HRK.out ?c1 ?c2 ?c3 ?c4 ?_))
      case c1 => intro u hu; obtain ⟨y, _, rfl⟩ := List.mem_map.1 hu; rfl
      case c2 => have := HMK.out; unfold maxLen; omega
      case c3 => have := HMK.out; omega
      case c4 => omega
      intro v3 w3 hown3 hg3 hor3
      have HB3 := Lib.hid (grown_below HB.out hsz hg3 (fun b hb => HOV.out.ge hb))
      have HO3 := Lib.hid (show OwnB w3 w.heap.size v3 (xss.take (i + 1)).flatten by
        unfold OwnB
        rw [HTK.out, List.length_append, List.map_append, HMK.out]
        exact hown3)
      clear hown3 hg3 hor3
      go_wp2_with fail
      go_roundw
      case rel => exact ⟨i + 1, by omega, by go_num, HO3.out, HB3.out⟩
      case measure => simp [intOf]; omega
    · obtain rfl : i = n := by omega
      go_wp2_with fail
      go_ret
      refine ⟨_, rfl, ?_, HB.out⟩
      have := HOV.out
      rw [List.take_of_length_le (by have := HXN.out; omega)] at this
      exact this

theorem rowsB_two {w : World} {t : TypeId} {A A' : Option Addr} {n n' c c' : Nat} {xs ys : List UInt8} (h : Reads w w.heap.size 1 A n (xs.map vb)) (h' : Reads w w.heap.size 1 A' n' (ys.map vb)) :
    RowsB (w.alloc (.cells #[.slice A n c, .slice A' n' c'] t)) (w.heap.size + 1) (some ⟨w.heap.size, 0, none⟩) 2 [xs, ys] := by
  have hb : Below w.heap.size w (w.alloc (.cells #[.slice A n c, .slice A' n' c'] t)) := (Below.refl _ _).alloc (Nat.le_refl _) _
  have hk : Blk (w.alloc (.cells #[.slice A n c, .slice A' n' c'] t)) w.heap.size t #[.slice A n c, .slice A' n' c'] := Blk.newAt rfl
  refine ⟨rfl, fun _ => ⟨_, rfl, Nat.lt_succ_self _, fun k x hx => ?_⟩⟩
  match k, hx with
  | 0, hx => simp at hx; subst hx; exact ⟨_, _, _, (hk.cell 0).trans rfl, (h.below hb).more (by omega)⟩
  | 1, hx => simp at hx; subst hx; exact ⟨A', n', c', (by rw [show ((⟨w.heap.size, 0, none⟩ : Addr).add 1) = ⟨w.heap.size, 1, none⟩ from rfl]; exact (hk.cell 1).trans rfl), (h'.below hb).more (by omega)⟩

set_option maxRecDepth 100000 in
set_option maxHeartbeats 1000000 in
theorem str_any (A : Option Addr) (n c : Nat) (xs : List UInt8) (w : World) (B : Nat) (h : Reads w B 1 A n (xs.map vb)) (hB : B ≤ w.heap.size) (hn : n ≤ 65536) :
    Calls Tryz.prog 84 #[.slice A n c] w fun e w' => ∃ v, e = .returned (.tuple #[v, .int .i64 0]) ∧ OwnB w' w.heap.size v (strB xs) ∧ Below w.heap.size w w' := by
  have hxn : xs.length = n := by have := h.1; simpa using this
  have H := Lib.hid h
  have HXN := Lib.hid hxn
  clear h hxn
  go_enter Tryz.func84, Tryz.ntmps84
  go_wp2_with fail
  refine (binNum_any n (by unfold maxN; omega) w).mono ?_
  rintro _ w2 ⟨v, rfl, hov2, hb2⟩
  obtain ⟨Av, cv, rfl, hvc, hvm, hvr, hvB⟩ := own_slice_b hov2
  have hx8 := numB_len (show n ≤ maxN by unfold maxN; omega)
  have hs2 := hb2.size
  have hrow := rowsB_two (t := 22) (c := cv) (c' := c) hvr ((H.out.below (hb2.mono hB)).more (by omega))
  have HROW := Lib.hid hrow
  have HB2 := Lib.hid hb2
  obtain ⟨xb, hxb⟩ : ∃ xb, xb = numB n := ⟨_, rfl⟩
  rw [← hxb] at hx8 HROW ⊢
  have HXB := Lib.hid hxb
  clear hov2 hb2 hvr hxb hrow hvc
  go_wp2_with fail
  refine (join_any _ 2 2 _ _ _ HROW.out (by simp) (by omega) (by simp; have := HXN.out; omega)).mono ?_
  rintro _ w3 ⟨v3, rfl, ho3, hb3⟩
  have HB3 := Lib.hid ((HB2.out.trans (((Below.refl _ w2).alloc (Nat.le_refl _) _).mono hs2)).trans (hb3.mono (by simp; omega)))
  have HO3 := Lib.hid ho3
  clear ho3 hb3
  go_wp2_with fail
  go_ret2
  refine ⟨_, rfl, ?_, HB3.out⟩
  have := HO3.out.more (B' := w.heap.size) (by simp; omega)
  unfold strB
  rw [HXN.out, ← HXB.out]
  simpa using this

end Go.Proofs.YtcpngeiahgoacaaGreat

/- Slice expressions, as lists that memory reads as. No program is named. -/
namespace Go.Proofs.YtcpngeiahgoacaaGreat
set_option linter.unusedVariables false
open Go.RowKit

/-- 'x[:h]' of a slice, one cell an element -/
theorem run_slice_to {P : Program} {t e : TypeId} (ht : P.underlying t = some (.slice e)) (hs : (P.info? e).map (·.size) = some 1) (A : Option Addr) (len cap h : Nat) (hi : Int) (eh : hi = h) (hl : h ≤ cap) (W : World) :
    (Instr.slice t (.slice A len cap) none (some (.int .i64 hi)) none).run P W = .ok (.slice (if cap = 0 then A else A.map (·.add 0)) h cap) W := by
  subst eh
  obtain ⟨i, hi, hsz⟩ : ∃ i, P.info? e = some i ∧ i.size = 1 := by
    cases hh : P.info? e with
    | none => rw [hh] at hs; cases hs
    | some i => rw [hh] at hs; exact ⟨i, rfl, by simpa using hs⟩
  have he : P.elem t = e := by simp [Program.elem, ht]
  rw [run_slice_h W t A len cap (by rw [he]; exact ht) .i64 (h : Int) (by omega) (by omega)]
  simp [he, sizeOf, typeInfo, hi, hsz, sliced]
theorem Reads.to {w : World} {B n : Nat} {A : Option Addr} {xs : List Value} (h : Reads w B 1 A n xs) {k cap : Nat} (hk : k ≤ n) (hc : n ≤ cap) :
    Reads w B 1 (if cap = 0 then A else A.map (·.add 0)) k (xs.take k) := by
  refine ⟨by have := h.1; simp; omega, fun hn => ?_⟩
  obtain ⟨ad, rfl, hb, hcell⟩ := h.2 (by omega)
  rw [if_neg (by omega)]
  refine ⟨ad.add 0, rfl, by rw [block_of_add]; exact hb, fun j u hu => ?_⟩
  rw [add_of_add, Nat.zero_add]
  refine hcell j u ?_
  rw [List.getElem?_take] at hu
  split at hu
  · exact hu
  · cases hu

end Go.Proofs.YtcpngeiahgoacaaGreat
