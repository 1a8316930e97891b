/-
  ShaSplit: in whichever two pieces bytes come, the digest is that of all of them: the law's walk; Bring.
-/
import Derived.Test.YtndjaibnapilnaaNothing
import Derived.Test.YtndjaibnapilnaaSlice
import Derived.Test.YtndjaibnapilnaaBring
import Derived.Deep.RegionLaw
import Derived.Test.YtndjaibnapilnaaShaLen
namespace Go.Proofs.Ytndjaibnapilnaa
set_option linter.unusedVariables false
open Go.RowKit

set_option maxRecDepth 100000 in
set_option maxHeartbeats 1000000 in
theorem split_law (A : Option Addr) (n c : Nat) (xs : List UInt8) (at_ : Int) (h1 : -9223372036854775808 ≤ at_) (h2 : at_ ≤ 9223372036854775807) (w : World) (B : Nat) (h : Reads w B 1 A n (xs.map vb)) (hB : B ≤ w.heap.size) (hc : n ≤ c) (hcm : c ≤ maxLen) :
    Calls Try.prog 10 #[.slice A n c, .int .i64 at_] w fun e w' => e = .returned (.bool true) ∧ Below w.heap.size w w' := by
  have hnot : ∀ (x : Bool) (w : World), (Op.unary .not (.bool x)).run Try.prog w = .ok (.bool (!x)) w := fun _ _ => rfl
  obtain ⟨m, hm⟩ : ∃ m, m = min n 4000 := ⟨_, rfl⟩
  have hm1 : m ≤ n := by omega
  have hm2 : m ≤ 4000 := by omega
  have hr0 := h.to (cap := c) hm1 hc
  have hsl0 := fun W => run_slice_to (P := Try.prog) (t := 22) (e := 5) rfl rfl A n c m (m : Int) rfl (by omega) W
  generalize (if c = 0 then A else A.map (·.add 0)) = A0 at hr0 hsl0
  have hmin1 : (if (4000 : Int) < (n : Int) then (4000 : Int) else (n : Int)) = (m : Int) := by split <;> omega
  have hmin2 : (if 4000 < n then (4000 : Int) else (n : Int)) = (m : Int) := by split <;> omega
  have HM := Lib.hid hm
  clear hm
  rw [← List.map_take] at hr0
  generalize xs.take m = ys at hr0
  unfold maxLen at hcm
  go_enter Try.func10, Try.ntmps10
  go_wp2_with fail
  refine (works_any w).mono ?_
  rintro _ w1 ⟨rfl, hb1⟩
  have hs1 := hb1.size
  go_wp2_with fail
  have hbr : ∀ W, Calls Try.prog 26 #[.int .i64 at_, .int .i64 ((m : Int) + 1)] W fun e w' => e = .returned (.int .i64 (bringF at_ (m + 1) : Int)) ∧ W = w' := fun W =>
    bring_any at_ (m + 1) (by omega) (by unfold maxLen; omega) h1 h2 W
  have hrl := bringF_lt at_ (m + 1) (by omega)
  generalize bringF at_ (m + 1) = r at hbr hrl
  refine (hbr _).mono ?_
  rintro _ _ ⟨rfl, rfl⟩
  have hrm : r ≤ m := by omega
  have hmc : m ≤ c := by omega
  have hrA := hr0.to (cap := c) hrm hmc
  have hrB := hr0.cut (cap := c) hrm hmc
  simp only [Nat.mul_one] at hrB
  have hslA := fun W => run_slice_to (P := Try.prog) (t := 22) (e := 5) rfl rfl A0 m c r (r : Int) rfl (by omega) W
  have hslB := fun W => run_slice_from (P := Try.prog) (t := 22) (e := 5) rfl rfl A0 m c r (r : Int) rfl hrm W
  generalize (if c = 0 then A0 else A0.map (·.add 0)) = A1 at hrA hslA
  generalize (if c = r then A0 else A0.map (·.add r)) = A2 at hrB hslB
  clear hbr hsl0 hmin1 hmin2
  have HR0 := Lib.hid hr0
  have HRA := Lib.hid hrA
  have HRB := Lib.hid hrB
  clear hr0 hrA hrB h1 h2
  go_wp2_with fail
  refine (new_any w1).mono ?_
  rintro _ w2 ⟨rfl, hH2, hb2, hs2⟩
  obtain ⟨g, hg⟩ : ∃ g, g = w1.heap.size := ⟨_, rfl⟩
  rw [← hg] at hH2 hb2 hs2 hs1 ⊢
  have hgw2 : g < w2.heap.size := by omega
  have hb2' := hb1.trans (hb2.mono (by omega))
  have hA2 : HashAt w2 g [] := .inr ⟨rfl, hH2⟩
  have HH := Lib.hid hA2
  have HBB := Lib.hid hb2'
  clear hH2 hb2 hs2 hg hb1 hA2 hb2'
  go_upto_region 6 with fail
  have hyl : ys.length = m := by have := HR0.out.1; simpa using this
  have HYL := Lib.hid hyl
  clear hyl
  have tok1 : True := trivial
  have hwle2 : w.heap.size ≤ w2.drew.heap.size := HBB.out.size
  have hBg : B ≤ g := by omega
  have HSA : Src w2.drew g A1 r (ys.take r) := Src.of_below (B := B) (by rw [List.map_take]; exact (HRA.out.below (HBB.out.mono hB)).drew) (by have := HBB.out.size; simp; omega) hBg
  have HW1 := Lib.hid (write_any g [] (ys.take r) A1 r c w2.drew (HH.out.keep rfl) HSA (by omega) (by unfold maxLen; omega) (by unfold maxLen; simp; omega))
  go_region_law (first
    | (go_simp; go_at_call 19; have _t := tok1; refine HW1.out.mono ?_; rintro _ w3 ⟨rfl, hH3, hg3⟩; have hb3 := HBB.out.drew.trans ((Below.refl w.heap.size w2.drew).grown hg3 hwle2 (fun k hk => by injection hk with hk; omega)); have HSB : Src w3 g A2 (m - r) (ys.drop r) := Src.of_below (B := B) (by rw [List.map_drop]; exact HRB.out.below (hb3.mono hB)) (Nat.le_trans hB hb3.size) hBg; clear tok1)
    | (go_simp; go_at_call 19; refine (write_any g ([] ++ ys.take r) (ys.drop r) A2 (m - r) (c - r) w3 (.inl hH3) HSB (by omega) (by unfold maxLen; omega) (by unfold maxLen; simp; omega)).mono ?_; rintro _ w4 ⟨rfl, hH4, hg4⟩))
  rw [show [] ++ ys.take r ++ ys.drop r = ys by simp] at hH4
  have hb4 := hb3.trans ((Below.refl w.heap.size w3).grown hg4 hb3.size (fun k hk => by injection hk with hk; omega))
  have hgw4 : g < w4.heap.size := by have h3 := hg3.size; have h4 := hg4.size; have : w2.drew.heap.size = w2.heap.size := rfl; omega
  have HH := Lib.hid hH4
  have HBB := Lib.hid hb4
  clear hH4 hg4 hb4 hH3 hg3 hb3 HSB HSA HW1 hslA hslB
  go_wp2_with fail
  refine (summed_any g ys w4 (.inl HH.out) (by have := HYL.out; unfold maxLen; omega)).mono ?_
  rintro _ w6 ⟨rfl, hH6, hg6⟩
  have hb6 := HBB.out.trans ((Below.refl w.heap.size w4).grown hg6 HBB.out.size (fun k hk => by injection hk with hk; omega))
  have hgw6 : g < w6.heap.size := by have := hg6.size; omega
  have hr6 := HR0.out.below (hb6.mono hB)
  have hsz6 := hb6.size
  have HH := Lib.hid hH6
  have HBB := Lib.hid hb6
  have HR := Lib.hid hr6
  have hDl : (dl (shaOf ys)).length = 32 := by rw [dl_len, shaOf_len]
  have hsd : ∀ W, Reads W B 1 A0 m (ys.map vb) → B ≤ W.heap.size → Calls Try.prog 14 #[.slice A0 m c] W fun e w' => e = .returned (.agg (dl (shaOf ys)).toArray) ∧ Below W.heap.size W w' := fun W h1 h2 => shaOf_any A0 m c ys W B h1 h2 hmc (by unfold maxLen; omega)
  have hqd : ∀ W, (binOp .eql 25 (.agg (dl (shaOf ys)).toArray) (.agg (dl (shaOf ys)).toArray)).run Try.prog W = .ok (.bool true) W := fun W => by
    have := eql_digest (shaOf ys) (shaOf ys) (shaOf_len _) (shaOf_len _) W
    rw [beq_self_eq_true] at this
    exact this
  have hon : (dl (shaOf ys)).toArray.all (·.oneCell') = true := bRow_one (shaOf ys)
  rw [show bRow (shaOf ys) = (dl (shaOf ys)).toArray from rfl]
  generalize dl (shaOf ys) = D at hDl hsd hqd hon ⊢
  have HS := Lib.hid hsd
  have HON := Lib.hid hon
  clear hH6 hg6 hb6 hr6 hsd hon
  go_upto_region 8 with (refine wpList_store_part rfl 25 (.tmp 8) (.tmp 36) rfl w6.heap.size 0 D.toArray rfl rfl 25 _ (Blk.newAt rfl) (by rw [List.size_toArray, hDl]; rfl) (by rw [List.size_toArray, hDl]; simp) HON.out ?_; intro W4 hT4 hB4; rw [spl_self _ _ (by rw [List.size_toArray, hDl]; simp)] at hB4; have hG4 := hT4.below (HBB.out.alloc hsz6 _) hsz6; have hH4 := (HH.out.keep (Below.heap_alloc w6 _ g hgw6)).keep (hT4.block g (by omega)); have hR4 := HR.out.below (((Below.refl w.heap.size w6).alloc hsz6 _).trans (hT4.below (Below.refl _ _) hsz6) |>.mono hB))
  have hra := rangeAt_row hB4
  have hg7 : w6.heap.size < W4.heap.size := hB4.lt
  have HRA := Lib.hid hra
  have HG4 := Lib.hid hG4
  have HH4 := Lib.hid hH4
  have HR4 := Lib.hid hR4
  have hsz4 := hT4.size
  have hu := Try.underlying25
  have hi : (Try.prog.info? 25).map (·.size) = some D.length := by rw [hDl]; rfl
  have hyl : ys.length = m := HYL.out
  have hB4s : B ≤ W4.heap.size := by omega
  have hgW4 : g < W4.heap.size := by omega
  clear hra hB4 hG4 hH4 hR4 hT4 hsz4
  go_region_held3 (fun w' => w'.rangeAt w6.heap.size 0 D)
    (first
      | exact HRA.out
      | exact rangeAt_below (W := W4.drew) HRA.out hb7 hg7)
    (first
      | (go_at_call 14; refine (HS.out _ HR4.out.drew hB4s).mono ?_; rintro _ w7 ⟨rfl, hb7⟩)
      | (go_at_call 25; refine (len_any g ys _ (.inl (HH4.out.keep (hb7.block g hgW4)))).mono ?_; rintro _ _ ⟨rfl, rfl⟩))
  go_wp2
  go_ret
  exact ⟨rfl, HG4.out.trans ((Below.refl _ W4).drew.trans (hb7.mono HG4.out.size))⟩

end Go.Proofs.Ytndjaibnapilnaa
