/-
  ShaNothing: no bytes change nothing: the law's walk.
-/
import Derived.Test.YtndjaibnapilnaaSummed
import Derived.Test.YtndjaibnapilnaaShaLen
namespace Go.Proofs.Ytndjaibnapilnaa
set_option linter.unusedVariables false
open Go.RowKit

/-- a digest as a list of cells, closed to the walk -/
def dl (l : List UInt8) : List Value := l.map vb
theorem dl_len (l : List UInt8) : (dl l).length = l.length := by simp [dl]
theorem rangeAt_row {W : World} {g : Nat} {t : TypeId} {D : List Value} (hB : Blk W g t D.toArray) : W.rangeAt g 0 D := fun j v hv => by
  rw [Nat.zero_add, hB.cell, List.getElem?_toArray]; exact hv
theorem rangeAt_below {W W' : World} {g o : Nat} {D : List Value} (h : W.rangeAt g o D) (hb : Below W.heap.size W W') (hlt : g < W.heap.size) : W'.rangeAt g o D := fun j v hv =>
  (hb.cell (p := ⟨g, o + j, none⟩) hlt).trans (h j v hv)
theorem Src.nil (w : World) (g : Nat) : Src w g none 0 [] := ⟨rfl, fun h => absurd h (by omega)⟩

set_option maxRecDepth 100000 in
set_option maxHeartbeats 1000000 in
theorem nothing_law (A : Option Addr) (n c : Nat) (xs : List UInt8) (w : World) (B : Nat) (h : Reads w B 1 A n (xs.map vb)) (hB : B ≤ w.heap.size) (hc : n ≤ c) (hcm : c ≤ maxLen) :
    Calls Try.prog 11 #[.slice A n c] w fun e w' => e = .returned (.bool true) ∧ Below w.heap.size w w' := by
  have hxn : xs.length = n := by have := h.1; simpa using this
  have HXN := Lib.hid hxn
  have hnot : ∀ (x : Bool) (w : World), (Op.unary .not (.bool x)).run Try.prog w = .ok (.bool (!x)) w := fun _ _ => rfl
  clear hxn
  go_enter Try.func11, Try.ntmps11
  go_wp2_with fail
  refine (works_any w).mono ?_
  rintro _ w1 ⟨rfl, hb1⟩
  have hs1 := hb1.size
  go_wp2_with fail
  refine (new_any w1).mono ?_
  rintro _ w2 ⟨rfl, hH2, hb2, hs2⟩
  obtain ⟨g, hg⟩ : ∃ g, g = w1.heap.size := ⟨_, rfl⟩
  rw [← hg] at hH2 hb2 hs2 hs1 ⊢
  have hgw2 : g < w2.heap.size := by omega
  have hb2' := hb1.trans (hb2.mono (by omega))
  have hA2 : HashAt w2 g [] := .inr ⟨rfl, hH2⟩
  have HH := Lib.hid hA2
  have HBB := Lib.hid hb2'
  clear hH2 hb2 hs2 hg hb1 hA2 hb2'
  go_wp2_with fail
  refine (write_any g [] [] none 0 0 w2 HH.out (Src.nil w2 g) (Nat.le_refl _) (by omega) (by simp)).mono ?_
  rintro _ w3 ⟨rfl, hH3, hg3⟩
  have hb3 := HBB.out.trans ((Below.refl w.heap.size w2).grown hg3 (by omega) (fun k hk => by injection hk with hk; omega))
  have hgw3 : g < w3.heap.size := by have := hg3.size; omega
  have hr3 := h.below (hb3.mono hB)
  have hS3 : Src w3 g A n xs := Src.of_below hr3 (by omega) (by omega)
  have HH := Lib.hid hH3
  have HBB := Lib.hid hb3
  have HS := Lib.hid hS3
  clear hH3 hg3 hb3 hr3 hS3
  go_wp2_with fail
  refine (write_any g ([] ++ []) xs A n c w3 (.inl HH.out) HS.out hc hcm (by unfold maxLen at hcm ⊢; simp; omega)).mono ?_
  rintro _ w4 ⟨rfl, hH4, hg4⟩
  have hb4 := HBB.out.trans ((Below.refl w.heap.size w3).grown hg4 (by omega) (fun k hk => by injection hk with hk; omega))
  have hgw4 : g < w4.heap.size := by have := hg4.size; omega
  have HH := Lib.hid hH4
  have HBB := Lib.hid hb4
  clear hH4 hg4 hb4
  go_wp2_with fail
  refine (write_any g ([] ++ [] ++ xs) [] none 0 0 w4 (.inl HH.out) (Src.nil w4 g) (Nat.le_refl _) (by omega) (by have := HXN.out; simp; omega)).mono ?_
  rintro _ w5 ⟨rfl, hH5, hg5⟩
  rw [show [] ++ [] ++ xs ++ [] = xs by simp] at hH5
  have hb5 := HBB.out.trans ((Below.refl w.heap.size w4).grown hg5 (by omega) (fun k hk => by injection hk with hk; omega))
  have hgw5 : g < w5.heap.size := by have := hg5.size; omega
  have HH := Lib.hid hH5
  have HBB := Lib.hid hb5
  clear hH5 hg5 hb5
  go_wp2_with fail
  refine (summed_any g xs w5 (.inl HH.out) (by have := HXN.out; omega)).mono ?_
  rintro _ w6 ⟨rfl, hH6, hg6⟩
  have hb6 := HBB.out.trans ((Below.refl w.heap.size w5).grown hg6 (by omega) (fun k hk => by injection hk with hk; omega))
  have hgw6 : g < w6.heap.size := by have := hg6.size; omega
  have hr6 := h.below (hb6.mono hB)
  have HH := Lib.hid hH6
  have HBB := Lib.hid hb6
  have HR := Lib.hid hr6
  have hDl : (dl (shaOf xs)).length = 32 := by rw [dl_len, shaOf_len]
  have hsd : ∀ W, Reads W B 1 A n (xs.map vb) → B ≤ W.heap.size → Calls Try.prog 14 #[.slice A n c] W fun e w' => e = .returned (.agg (dl (shaOf xs)).toArray) ∧ Below W.heap.size W w' := fun W h1 h2 => shaOf_any A n c xs W B h1 h2 hc hcm
  have hqd : ∀ W, (binOp .eql 25 (.agg (dl (shaOf xs)).toArray) (.agg (dl (shaOf xs)).toArray)).run Try.prog W = .ok (.bool true) W := fun W => by
    have := eql_digest (shaOf xs) (shaOf xs) (shaOf_len _) (shaOf_len _) W
    rw [beq_self_eq_true] at this
    exact this
  have hon : (dl (shaOf xs)).toArray.all (·.oneCell') = true := bRow_one (shaOf xs)
  rw [show bRow (shaOf xs) = (dl (shaOf xs)).toArray from rfl]
  generalize dl (shaOf xs) = D at hDl hsd hqd hon ⊢
  have HS := Lib.hid hsd
  have HON := Lib.hid hon
  clear hH6 hg6 hb6 hr6 hsd hon
  go_upto_region 6 with (refine wpList_store_part rfl 25 (.tmp 7) (.tmp 22) rfl w6.heap.size 0 D.toArray rfl rfl 25 _ (Blk.newAt rfl) (by rw [List.size_toArray, hDl]; rfl) (by rw [List.size_toArray, hDl]; simp) HON.out ?_; intro W4 hT4 hB4; rw [spl_self _ _ (by rw [List.size_toArray, hDl]; simp)] at hB4; have hG4 := hT4.below (HBB.out.alloc (by omega) _) (by omega); have hH4 := (HH.out.keep (Below.heap_alloc w6 _ g hgw6)).keep (hT4.block g (by omega)); have hR4 := HR.out.below ((Below.refl w.heap.size w6).alloc (by omega) _ |>.trans (hT4.below (Below.refl _ _) (by omega)) |>.mono hB))
  have hra := rangeAt_row hB4
  have hg7 : w6.heap.size < W4.heap.size := hB4.lt
  have HRA := Lib.hid hra
  have HB4 := Lib.hid hB4
  have HG4 := Lib.hid hG4
  have HH4 := Lib.hid hH4
  have HR4 := Lib.hid hR4
  have hsz4 := hT4.size
  have hu := Try.underlying25
  have hi : (Try.prog.info? 25).map (·.size) = some D.length := by rw [hDl]; rfl
  have hxl : xs.length = n := HXN.out
  have hB4s : B ≤ W4.heap.size := by omega
  have hgW4 : g < W4.heap.size := by omega
  clear hra hB4 hG4 hH4 hR4 hT4 hsz4
  go_region_held3 (fun w' => w'.rangeAt w6.heap.size 0 D)
    (first
      | exact HRA.out
      | exact rangeAt_below (W := W4.drew) HRA.out hb7 hg7)
    (first
      | (go_at_call 14; refine (HS.out _ HR4.out.drew hB4s).mono ?_; rintro _ w7 ⟨rfl, hb7⟩)
      | (go_at_call 25; refine (len_any g xs _ (.inl (HH4.out.keep (hb7.block g hgW4)))).mono ?_; rintro _ _ ⟨rfl, rfl⟩))
  go_wp2
  go_ret
  exact ⟨rfl, HG4.out.trans ((Below.refl _ W4).drew.trans (hb7.mono HG4.out.size))⟩

end Go.Proofs.Ytndjaibnapilnaa
