/-
  Contract of sha.Of.
-/
import Derived.Test.YtcmbmimmfgfefaaGreatSum
namespace Go.Proofs.YtcmbmimmfgfefaaGreat
set_option linter.unusedVariables false
open Go.RowKit

theorem zeros32 : rng 32 z8 = #[.int .u8 0, .int .u8 0, .int .u8 0, .int .u8 0, .int .u8 0, .int .u8 0, .int .u8 0, .int .u8 0, .int .u8 0, .int .u8 0, .int .u8 0, .int .u8 0, .int .u8 0, .int .u8 0, .int .u8 0, .int .u8 0, .int .u8 0, .int .u8 0, .int .u8 0, .int .u8 0, .int .u8 0, .int .u8 0, .int .u8 0, .int .u8 0, .int .u8 0, .int .u8 0, .int .u8 0, .int .u8 0, .int .u8 0, .int .u8 0, .int .u8 0, .int .u8 0] := rfl

set_option maxRecDepth 100000 in
set_option maxHeartbeats 1000000 in
theorem shaOf_any (A : Option Addr) (n c : Nat) (xs : List UInt8) (w : World) (B : Nat) (h : Reads w B 1 A n (xs.map vb)) (hB : B ≤ w.heap.size) (hc : n ≤ c) (hcm : c ≤ maxLen) :
    Calls Tryz.prog 33 #[.slice A n c] w fun e w' => e = .returned (.agg (bRow (shaOf xs))) ∧ Below w.heap.size w w' := by
  have hxn : xs.length = n := by have := h.1; simpa using this
  have h1 : Reads w w.heap.size 1 A n (xs.map vb) := h.more hB
  go_enter Tryz.func33, Tryz.ntmps33
  go_wp2_with fail
  have hWb : Below w.heap.size w (w.alloc (.cells (rng 32 z8) 32)) := (Below.refl _ _).alloc (Nat.le_refl _) _
  have hWr := Blk.new w 32 (rng 32 z8)
  have hWs : (w.alloc (.cells (rng 32 z8) 32)).heap.size = w.heap.size + 1 := by simp
  rw [zeros32] at hWb hWr hWs
  generalize w.alloc _ = W at hWb hWr hWs ⊢
  refine (new_any W).mono ?_
  rintro _ w1 ⟨rfl, hH1, hb1, hs1⟩
  obtain ⟨g, hg⟩ : ∃ g, g = W.heap.size := ⟨_, rfl⟩
  rw [← hg] at hH1 hb1 hs1 hWs ⊢
  have hsz : w.heap.size < g ∧ g < w1.heap.size := by omega
  obtain ⟨hsz1, hsz2⟩ := hsz
  have hn1 : HashAt w1 g [] := .inr ⟨rfl, hH1⟩
  have hR1 := (h1.below hWb).below (hb1.mono (by omega))
  have hS1 : Src w1 g A n xs := Src.of_below hR1 (by omega) (by omega)
  have hbb1 := hWb.trans (hb1.mono (by omega))
  have hWr1 := hWr.below hb1 (by omega)
  have HN := Lib.hid hn1
  have HS := Lib.hid hS1
  have HBB := Lib.hid hbb1
  have HR := Lib.hid hWr1
  clear hH1 hn1 hR1 hS1 hbb1 hWr1 hWb hWr hb1 h h1 hs1 hWs hg
  have HXN := Lib.hid hxn
  clear hxn
  go_wp2_with fail
  refine (write_any g [] xs A n c w1 HN.out HS.out hc hcm (by unfold maxLen at hcm ⊢; simp; omega)).mono ?_
  rintro _ w2 ⟨rfl, hH2, hg2⟩
  rw [List.nil_append] at hH2
  have hR2 := HR.out.grown hg2 (by intro e; injection e with e; omega)
  have hb2 := (HBB.out).trans ((Below.refl w.heap.size w1).grown hg2 (by omega) (fun k hk => by injection hk with hk; omega))
  have hs2 := hg2.size
  have HH2 := Lib.hid (HashAt.lt (.inl hH2))
  have HN := Lib.hid hH2
  have HR := Lib.hid hR2
  have HBB := Lib.hid hb2
  clear hH2 hR2 hb2 hg2
  go_wp2_with fail
  refine (sum_any g xs w2 (.inl HN.out) (by rw [HXN.out]; omega)).mono ?_
  rintro _ w3 ⟨rfl, hH3, hg3⟩
  have hR3 := HR.out.grown hg3 (by intro e; injection e with e; omega)
  have hb3 := (HBB.out).trans ((Below.refl w.heap.size w2).grown hg3 (by omega) (fun k hk => by injection hk with hk; omega))
  have hs3 := hg3.size
  have HR := Lib.hid hR3
  have HBB := Lib.hid hb3
  clear hH3 hR3 hb3 hg3
  have hbs := bRow_size (shaOf xs)
  rw [shaOf_len] at hbs
  have HBS := Lib.hid hbs
  have HON := Lib.hid (bRow_one (shaOf xs))
  clear hbs
  go_wp2_with (first
    | (refine wpList_store_part rfl 32 (.tmp 4) (.tmp 15) rfl w3.heap.size 0 (bRow (shaOf xs)) rfl rfl 32 _ (Blk.newAt rfl) (by rw [HBS.out]; rfl) (by rw [HBS.out]; simp) HON.out ?_; intro W4 hT4 hB4; rw [spl_self _ _ (by rw [HBS.out]; simp)] at hB4; have hR4 := hT4.blk (HR.out.alloc _) (by omega); have hE4 := hT4.below (HBB.out.alloc (by omega) _) (by omega))
    | (refine wpList_load_part rfl 32 (.tmp 4) rfl w3.heap.size 0 32 rfl 32 _ (bRow (shaOf xs)) _ hB4 Tryz.underlying32 rfl rfl HBS.out (fun _ _ => by rw [Nat.zero_add]) ?_)
    | (refine wpList_store_part rfl 32 (.tmp 2) (.tmp 17) rfl w.heap.size 0 (bRow (shaOf xs)) rfl rfl 32 _ hR4 (by rw [HBS.out]; rfl) (by rw [HBS.out]; simp) HON.out ?_; intro W5 hT5 hB5; rw [spl_self _ _ (by rw [HBS.out]; simp)] at hB5))
  refine bodyPost_ret (results_part rfl _ _ w.heap.size 32 32 _ _ rfl hB5 Tryz.underlying32 rfl rfl HBS.out) rfl ⟨rfl, hT5.below hE4 (by omega)⟩

theorem zeros8r : rng 8 z32 = #[.int .u32 0, .int .u32 0, .int .u32 0, .int .u32 0, .int .u32 0, .int .u32 0, .int .u32 0, .int .u32 0] := rfl
theorem blkOf_id (blk : List UInt8) (h : blk.length = 64) : bRow blk = rng 64 (fun j => vb (blk.getD j 0)) := by
  refine rng_of (by rw [bRow_size, h]) fun j hj => ?_
  rw [bRow, List.getElem?_toArray, List.getElem?_map, getD_some _ _ (by omega)]; rfl
theorem bytesAt_row {W : World} {g : Nat} {t : TypeId} {l : List UInt8} (hB : Blk W g t (bRow l)) : BytesAt W ⟨g, 0, none⟩ l := by
  intro j hj
  rw [add_off, Nat.zero_add, hB.cell, bRow, List.getElem?_toArray, List.getElem?_map, List.getElem?_eq_getElem hj]; rfl
theorem wordsAt_k {W : World} {g : Nat} {t : TypeId} (hB : Blk W g t kRow) : WordsAt W ⟨g, 0, none⟩ kc := by
  intro j hj
  have hj' : j < 64 := hj
  rw [add_off, Nat.zero_add, hB.cell, kRow, rng_get _ _ _ hj', List.getD_eq_getElem?_getD, List.getElem?_eq_getElem hj]; rfl

end Go.Proofs.YtcmbmimmfgfefaaGreat
