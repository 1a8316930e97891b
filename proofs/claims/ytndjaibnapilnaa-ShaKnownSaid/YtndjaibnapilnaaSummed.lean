/-
  Contract of the law's summed.
-/
import Derived.Test.YtndjaibnapilnaaHex
namespace Go.Proofs.Ytndjaibnapilnaa
set_option linter.unusedVariables false
open Go.RowKit

set_option maxRecDepth 100000 in
set_option maxHeartbeats 1000000 in
theorem summed_any (g : Nat) (l : List UInt8) (w : World) (h : HashAt w g l) (hlen : l.length ≤ maxLen) :
    Calls Try.prog 20 #[.pointer (some ⟨g, 0, none⟩)] w fun e w' => e = .returned (.tuple #[.agg (bRow (shaOf l)), .bool true]) ∧ HashDone w' g l ∧ w.grownBy w' (some g) := by
  have hgl := h.lt
  have HH := Lib.hid h
  clear h
  go_enter Try.func20, Try.ntmps20
  go_wp2_with fail
  have hWr := Blk.new w 25 (rng 32 z8)
  have hWs : (w.alloc (.cells (rng 32 z8) 25)).heap.size = w.heap.size + 1 := by simp
  have hWh := HH.out.keep (Below.heap_alloc w (.cells (rng 32 z8) 25) g hgl)
  have hWg := only_alloc (World.grownBy.refl w (some g)) (.cells (rng 32 z8) 25)
  rw [zeros32] at hWr hWs hWh hWg
  generalize w.alloc _ = W at hWr hWs hWh hWg ⊢
  refine (sum_any g l W hWh hlen).mono ?_
  rintro _ w1 ⟨rfl, hH1, hg1⟩
  have hR1 := hWr.grown hg1 (by intro e; injection e with e; omega)
  have hG1 := hWg.trans hg1
  have hs1 : w.heap.size < w1.heap.size := by have := hg1.size; omega
  have hbs := bRow_size (shaOf l)
  rw [shaOf_len] at hbs
  have HBS := Lib.hid hbs
  have HON := Lib.hid (bRow_one (shaOf l))
  have HR1 := Lib.hid hR1
  have HG1 := Lib.hid hG1
  have HH1 := Lib.hid hH1
  clear hbs hWr hWs hWh hWg hR1 hG1 hH1 hg1
  generalize hd : bRow (shaOf l) = d at HBS HON ⊢
  have HDD := Lib.hid hd
  clear hd
  go_wp2_with (first
    | (refine wpList_store_part rfl 25 (.tmp 4) (.tmp 9) rfl w1.heap.size 0 d rfl rfl 25 _ (Blk.newAt rfl) (by rw [HBS.out]; rfl) (by rw [HBS.out]; simp) HON.out ?_; intro W4 hT4 hB4; rw [spl_self _ _ (by rw [HBS.out]; simp)] at hB4; have hR4 := hT4.blk (HR1.out.alloc _) (by omega); have hG4 := grown_turned (only_alloc HG1.out _) hT4 (by omega); have hH4 := (HH1.out.keep (Below.heap_alloc w1 _ g (by omega))).keep (hT4.block g (by omega)))
    | (refine wpList_load_part rfl 25 (.tmp 4) rfl w1.heap.size 0 32 rfl 25 _ d _ hB4 Try.underlying25 rfl rfl HBS.out (fun _ _ => by rw [Nat.zero_add]) ?_)
    | (refine wpList_store_part rfl 25 (.tmp 2) (.tmp 11) rfl w.heap.size 0 d rfl rfl 25 _ hR4 (by rw [HBS.out]; rfl) (by rw [HBS.out]; simp) HON.out ?_; intro W5 hT5 hB5; rw [spl_self _ _ (by rw [HBS.out]; simp)] at hB5))
  refine bodyPost_ret (results_part2 rfl _ _ w.heap.size 32 25 _ _ rfl hB5 Try.underlying25 rfl rfl HBS.out) rfl ⟨by rw [HDD.out]; rfl, hH4.keep (hT5.block g (by omega)), grown_turned hG4 hT5 (Nat.le_refl _)⟩

end Go.Proofs.Ytndjaibnapilnaa
