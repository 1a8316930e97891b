/-
  Contracts of bastidelaw03.noted and works.
-/
import Derived.Test.YtmklppomcpimaaaInkOf
namespace Go.Proofs.Ytmklppomcpimaaa
set_option linter.unusedVariables false
open Go.RowKit Go.Maps

theorem Reads.only {w w' : World} {B n : Nat} {A : Option Addr} {xs : List Value} {k : Book} (h : Reads w B 1 A n xs) (ho : OnlyBook k w w') (hB : B ≤ w.heap.size) (hk : ∀ a, 0 < n → A = some a → ¬ k.has a.block) : Reads w' B 1 A n xs :=
  ⟨h.1, fun h0 => by
    obtain ⟨ad, rfl, hb, hc⟩ := h.2 h0
    refine ⟨ad, rfl, hb, fun j u hj => ?_⟩
    have he : (ad.add j).block = ad.block := by simp [Addr.add]; split <;> rfl
    have hh := ho.block ad.block (Nat.lt_of_lt_of_le hb hB) (hk ad h0 rfl)
    rw [← hc j u hj]
    exact World.cell?_of_block (w := w) (by rw [he]; exact hh)⟩
theorem Reads.above {w : World} {B n : Nat} {A : Option Addr} {xs : List Value} {k : Book} (h : Reads w B 1 A n xs) (hk : B ≤ k.g ∧ B ≤ k.b1 ∧ B ≤ k.b2) : ∀ a, 0 < n → A = some a → ¬ k.has a.block := fun a h0 ha => by
  obtain ⟨ad, rfl, hb, _⟩ := h.2 h0
  injection ha with ha
  subst ha
  rintro (e | e | e) <;> omega
theorem OnlyBook.below' {k : Book} {w w' w'' : World} (h : OnlyBook k w w') (hb : Below w'.heap.size w' w'') : OnlyBook k w w'' := h.trans (OnlyBook.of_below hb)

set_option maxRecDepth 100000 in
set_option maxHeartbeats 1000000 in
theorem noted_any (k : Book) (l : List (List UInt8)) (asked : Nat) (A : Option Addr) (n c : Nat) (xs : List UInt8) (w : World) (B : Nat) (hbk : BookAt w k l asked) (h : Reads w B 1 A n (xs.map vb)) (hB : B ≤ w.heap.size)
    (hk : ∀ a, 0 < n → A = some a → ¬ k.has a.block) (hc : n ≤ c) (hcm : c ≤ maxLen) (hn : n ≤ 65536) (has : asked ≤ 1000000) :
    Calls Try.prog 25 #[.pointer (some ⟨k.g, 0, none⟩), .slice A n c] w fun e w' => e = .returned (.bool true) ∧ BookAt w' k (addInk l xs) (asked + 1) ∧ OnlyBook k w w' := by
  have hof := inkOf_any k l asked A n c xs w B hbk h hB (fun a h0 ha e => hk a h0 ha (.inl e)) hc hcm hn has
  have hrd := fun (W : World) (ho : OnlyBook k w W) => h.only ho hB hk
  have hxn : xs.length = n := by have := h.1; simpa using this
  have hDl : (bRow (shaOf xs)).size = 32 := by rw [bRow_size, shaOf_len]
  have hsd : ∀ W, Reads W B 1 A n (xs.map vb) → B ≤ W.heap.size → Calls Try.prog 24 #[.slice A n c] W fun e w' => e = .returned (.agg (bRow (shaOf xs))) ∧ Below W.heap.size W w' := fun W h1 h2 => shaOf_any A n c xs W B h1 h2 hc hcm
  have heq := eql_digest (shaOf xs) (shaOf xs) (shaOf_len _) (shaOf_len _)
  rw [beq_self_eq_true] at heq
  have HON := Lib.hid (bRow_one (shaOf xs))
  have HQ := Lib.hid heq
  have HDL := Lib.hid hDl
  have HS := Lib.hid hsd
  have HOF := Lib.hid hof
  have HRD := Lib.hid hrd
  clear hbk h hxn hDl hsd heq hof hrd
  generalize bRow (shaOf xs) = D at HDL HS HQ HON HOF ⊢
  go_enter Try.func25, Try.ntmps25
  go_wp2_with fail
  refine HOF.out.mono ?_
  rintro _ w6 ⟨rfl, hb6, ho6⟩
  have hs6 := ho6.size
  have HB6 := Lib.hid hb6
  have HO6 := Lib.hid ho6
  clear hb6 ho6
  go_upto_region 2 with (refine wpList_store_part rfl 28 (.tmp 5) (.tmp 11) rfl w6.heap.size 0 D rfl rfl 28 _ (Blk.newAt rfl) (by rw [HDL.out]; rfl) (by rw [HDL.out]; simp) HON.out ?_; intro W4 hT4 hB4; rw [spl_self _ _ (by rw [HDL.out]; simp)] at hB4)
  have hX4 : Below w6.heap.size w6 W4 := hT4.below ((Below.refl _ _).alloc (Nat.le_refl _) _) (Nat.le_refl _)
  have hO4 := HO6.out.below' hX4
  have HK4 := Lib.hid (HB6.out.below hX4)
  have hs4 := hX4.size
  have hR4 := HRD.out W4 hO4
  have HO4 := Lib.hid hO4
  have HRR := Lib.hid hR4
  have HBB := Lib.hid hB4
  clear hX4 hO4 hT4 hR4 hB4
  refine wp_region_calm0 8 21 (by kernel_rfl) (by kernel_rfl) (by kernel_rfl) (by simp) ?_
  simp only [List.take_succ_cons, List.take_zero, List.drop_succ_cons, List.drop_zero]
  refine wpCalm_value rfl rfl (.int .i64 0) (fun W _ => rfl) ?_
  try simp only [Act.put, List.setIfInBounds_toArray, List.set_cons_zero, List.set_cons_succ]
  refine wpCalm_value rfl rfl (.bool true) (fun W _ => by go_simp) ?_
  try simp only [Act.put, List.setIfInBounds_toArray, List.set_cons_zero, List.set_cons_succ]
  refine wpCalm_value rfl rfl (.bool true) (fun W _ => rfl) ?_
  try simp only [Act.put, List.setIfInBounds_toArray, List.set_cons_zero, List.set_cons_succ]
  refine wpCalm_load_part rfl 28 (.tmp 5) rfl w6.heap.size 0 32 rfl 28 _ D _ HBB.out Try.underlying28 rfl rfl HDL.out (fun _ _ => by rw [Nat.zero_add]) ?_
  try simp only [Act.put, List.setIfInBounds_toArray, List.set_cons_zero, List.set_cons_succ]
  refine wpCalm_value rfl rfl (.slice A n c) (fun W _ => rfl) ?_
  try simp only [Act.put, List.setIfInBounds_toArray, List.set_cons_zero, List.set_cons_succ]
  refine wpCalm_call rfl rfl 24 #[.slice A n c] (fun W => by go_simp) (.agg D) (fun W hb => HS.out W (HRR.out.below (hb.mono (by omega))) (by have := hb.size; omega)) ?_
  try simp only [Act.put, List.setIfInBounds_toArray, List.set_cons_zero, List.set_cons_succ]
  refine wpCalm_value rfl rfl (.bool true) (fun W _ => exec_eql_agg 28 (.tmp 16) (.tmp 18) _ rfl D D rfl rfl eqg_digest _ (HQ.out W)) ?_
  try simp only [Act.put, List.setIfInBounds_toArray, List.set_cons_zero, List.set_cons_succ]
  refine wpCalm_value rfl rfl (.bool true) (fun W _ => by go_simp) ?_
  try simp only [Act.put, List.setIfInBounds_toArray, List.set_cons_zero, List.set_cons_succ]
  refine wpCalm_nil ?_
  intro W1 hb1
  have HO1 := Lib.hid (HO4.out.below' hb1)
  have HK1 := Lib.hid (HK4.out.below hb1)
  clear hb1
  go_wp2_with fail
  go_ret
  exact ⟨rfl, HK1.out, HO1.out⟩

set_option maxRecDepth 100000 in
set_option maxHeartbeats 1000000 in
/-- too many bytes -/
theorem noted_big (k : Book) (l : List (List UInt8)) (asked : Nat) (A : Option Addr) (n c : Nat) (w : World) (hbk : BookAt w k l asked) (hn : 65536 < n) (hc : n ≤ c) (hcm : c ≤ maxLen) :
    Calls Try.prog 25 #[.pointer (some ⟨k.g, 0, none⟩), .slice A n c] w fun e w' => e = .returned (.bool false) ∧ Below w.heap.size w w' := by
  have HOF := Lib.hid (inkOf_big k l asked A n c w hbk hn hc hcm)
  have hz : inkZ.size = 32 := by simp [inkZ, bRow]
  have ho : inkZ.all (·.oneCell') = true := bRow_one _
  have HDL := Lib.hid hz
  have HON := Lib.hid ho
  clear hbk hz ho
  generalize inkZ = D at HDL HON HOF ⊢
  go_enter Try.func25, Try.ntmps25
  go_wp2_with fail
  refine HOF.out.mono ?_
  rintro _ w6 ⟨rfl, hb6⟩
  have hs6 := hb6.size
  have HB6 := Lib.hid hb6
  clear hb6
  go_upto_region 2 with (refine wpList_store_part rfl 28 (.tmp 5) (.tmp 11) rfl w6.heap.size 0 D rfl rfl 28 _ (Blk.newAt rfl) (by rw [HDL.out]; rfl) (by rw [HDL.out]; simp) HON.out ?_; intro W4 hT4 hB4; rw [spl_self _ _ (by rw [HDL.out]; simp)] at hB4)
  have HX4 := Lib.hid (hT4.below (HB6.out.alloc hs6 _) hs6)
  have hs4 := HX4.out.size
  clear hT4 hB4
  refine wp_region_calm0 8 21 (by kernel_rfl) (by kernel_rfl) (by kernel_rfl) (by simp) ?_
  simp only [List.take_succ_cons, List.take_zero, List.drop_succ_cons, List.drop_zero]
  refine wpCalm_value rfl rfl (.int .i64 5) (fun W _ => rfl) ?_
  try simp only [Act.put, List.setIfInBounds_toArray, List.set_cons_zero, List.set_cons_succ]
  refine wpCalm_value rfl rfl (.bool false) (fun W _ => by go_simp) ?_
  try simp only [Act.put, List.setIfInBounds_toArray, List.set_cons_zero, List.set_cons_succ]
  refine wpCalm_value rfl rfl (.bool false) (fun W _ => rfl) ?_
  try simp only [Act.put, List.setIfInBounds_toArray, List.set_cons_zero, List.set_cons_succ]
  refine wpCalm_skip rfl rfl ?_
  try simp only [Act.put, List.setIfInBounds_toArray, List.set_cons_zero, List.set_cons_succ]
  refine wpCalm_skip rfl rfl ?_
  try simp only [Act.put, List.setIfInBounds_toArray, List.set_cons_zero, List.set_cons_succ]
  refine wpCalm_skip rfl rfl ?_
  try simp only [Act.put, List.setIfInBounds_toArray, List.set_cons_zero, List.set_cons_succ]
  refine wpCalm_skip rfl rfl ?_
  try simp only [Act.put, List.setIfInBounds_toArray, List.set_cons_zero, List.set_cons_succ]
  refine wpCalm_value rfl rfl (.bool false) (fun W _ => by go_simp) ?_
  try simp only [Act.put, List.setIfInBounds_toArray, List.set_cons_zero, List.set_cons_succ]
  refine wpCalm_nil ?_
  intro W1 hb1
  have HO1 := Lib.hid (HX4.out.trans (hb1.mono hs4))
  clear hb1
  go_wp2_with fail
  go_ret
  exact ⟨rfl, HO1.out⟩

end Go.Proofs.Ytmklppomcpimaaa
