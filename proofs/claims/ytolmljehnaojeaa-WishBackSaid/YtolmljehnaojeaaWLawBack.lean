/-
  WishBack: the law's walk.
-/
import Derived.Test.YtolmljehnaojeaaPSame
import Derived.Test.YtolmljehnaojeaaWishMathB
namespace Go.Proofs.Ytolmljehnaojeaa
set_option linter.unusedVariables false
open Go.RowKit

set_option maxRecDepth 100000 in
set_option maxHeartbeats 4000000 in
theorem wishBack_law (x : Wish) (A : Option Addr) (n c : Nat) (A' : Option Addr) (n' c' : Nat) (w : World) (B : Nat) (hx : WishIn w B x A n c A' n' c') (hB : B ≤ w.heap.size) :
    Calls Try.prog 12 #[.agg (wCells x A n c A' n' c')] w fun e w' => e = .returned (.bool true) ∧ Below w.heap.size w w' := by
  have hX : Below w.heap.size w (w.alloc (.cells (wCells x A n c A' n' c') 25)) := (Below.refl _ _).alloc (Nat.le_refl _) _
  have hk0 : Blk (w.alloc (.cells (wCells x A n c A' n' c') 25)) w.heap.size 25 (wCells x A n c A' n' c') := Blk.newAt rfl
  have HWX := Lib.hid (fun W (hb : Below w.heap.size w W) => hx.below (hb.mono hB))
  have HX := Lib.hid hX
  have HK0 := Lib.hid hk0
  have hs0 : w.heap.size ≤ (w.alloc (.cells (wCells x A n c A' n' c') 25)).heap.size := by simp
  clear hx hX hk0
  go_enter Try.func12, Try.ntmps12
  go_wp2_with fail
  refine (worksW_any _).mono ?_
  rintro _ w1 ⟨rfl, hb1⟩
  have HB1 := Lib.hid (HX.out.trans (hb1.mono hs0))
  have HK1 := Lib.hid (HK0.out.under hb1)
  have hs1 := HB1.out.size
  clear hb1
  go_wp2_with (refine wpList_load_part rfl 25 (.tmp 1) rfl w.heap.size 0 10 rfl 25 _ (wCells x A n c A' n' c') _ HK1.out Try.underlying25 rfl rfl rfl (fun _ _ => by rw [Nat.zero_add]) ?_)
  refine (bytes_any x A n c A' n' c' w1 B (HWX.out w1 HB1.out) (by omega)).mono ?_
  obtain ⟨mb, hmb⟩ : ∃ mb, mb = mayB x := ⟨_, rfl⟩
  rw [← hmb]
  have HMB := Lib.hid (fun (_ : Unit) => hmb)
  clear hmb
  rintro _ w2 ⟨bv, rfl, hob, hb2⟩
  have HB2 := Lib.hid (HB1.out.trans (hb2.mono hs1))
  have HK2 := Lib.hid (HK1.out.under hb2)
  have hs2 := HB2.out.size
  clear hb2
  cases mb with
  | false =>
    have hob' : OwnB w2 w1.heap.size bv [] := hob
    obtain ⟨Ab, cb, rfl, hbc, hbm, hbr, hbB⟩ := own_slice_b hob'
    have hck := check_any x A n c A' n' c' w2 B (HWX.out w2 HB2.out) (by omega)
    rw [← HMB.out ()] at hck
    have HCK := Lib.hid hck
    clear hob hob' hck hbr
    go_wp2_with (refine wpList_load_guarded rfl 25 (.tmp 1) rfl w.heap.size 0 10 rfl 25 _ (wCells x A n c A' n' c') _ HK2.out Try.underlying25 rfl rfl rfl (fun _ _ => by rw [Nat.zero_add]) ?_)
    refine HCK.out.mono ?_
    rintro _ w3 ⟨rfl, hb3⟩
    have HB3 := Lib.hid (HB2.out.trans (hb3.mono hs2))
    clear hb3
    go_wp2_with fail
    go_ret
    exact ⟨rfl, HB3.out⟩
  | true =>
    have hob' : OwnB w2 w1.heap.size bv (wishB x) := hob
    obtain ⟨Ab, cb, rfl, hbc, hbm, hbr, hbB⟩ := own_slice_b hob'
    have hlt := wishB_lt (HMB.out ()).symm
    have hps := parse_of (HMB.out ()).symm
    obtain ⟨xb, hxb⟩ : ∃ xb, xb = wishB x := ⟨_, rfl⟩
    rw [← hxb] at hlt hps hbr hbc ⊢
    have HPS := Lib.hid (fun (_ : Unit) => hps)
    have HBR := Lib.hid hbr
    clear hob hob' hps hbr hxb
    go_wp2_with fail
    refine (parse_any Ab xb.length cb xb w2 _ HBR.out (Nat.le_refl _) hbc (by omega)).mono ?_
    rw [HPS.out ()]
    rintro _ w3 ⟨A1, n1, c1, A2, n2, c2, rfl, hwi, hb3⟩
    have HW3 := Lib.hid hwi
    have HB3 := Lib.hid (HB2.out.trans (hb3.mono hs2))
    have HK3 := Lib.hid (HK2.out.under hb3)
    have hs3 := HB3.out.size
    clear hwi hb3
    go_upto_region 7 with (refine wpList_store_part rfl 25 (.tmp 5) (.tmp 31) rfl w3.heap.size 0 (wCells x A1 n1 c1 A2 n2 c2) rfl rfl 25 (wCells zeroW none 0 0 none 0 0) (Blk.newAt rfl) (wCells_info _ _ _ _ _ _ _) (by simp [wCells]) (wCells_one _ _ _ _ _ _ _) ?_; intro w4 hT4 hD4; rw [spl_self _ _ (by simp [wCells])] at hD4)
    have hb4 : Below w3.heap.size w3 w4 := hT4.below ((Below.refl _ _).alloc (Nat.le_refl _) _) (Nat.le_refl _)
    have HB4 := Lib.hid (HB3.out.trans (hb4.mono hs3))
    have HK4 := Lib.hid (HK3.out.under hb4)
    have HD4 := Lib.hid hD4
    have HW4 := Lib.hid ((HW3.out.below hb4).more hb4.size)
    have hs4 := HB4.out.size
    clear hT4 hD4 hb4
    have HSM := Lib.hid (fun W (hb : Below w4.heap.size w4 W) => refSame_any x x A1 n1 c1 A2 n2 c2 A n c A' n' c' W w4.heap.size (HW4.out.below hb) ((HWX.out W (HB4.out.trans (hb.mono hs4))).more (by omega)) hb.size)
    have HSP := Lib.hid (fun W (hb : Below w4.heap.size w4 W) => wishSame_any x x A1 n1 c1 A2 n2 c2 A n c A' n' c' W w4.heap.size (HW4.out.below hb) ((HWX.out W (HB4.out.trans (hb.mono hs4))).more (by omega)) hb.size)
    rw [(sameW_iff x x).2 rfl] at HSM HSP
    go_wp2_with (first
      | (refine wpList_load_guarded rfl 25 (.tmp 5) rfl w3.heap.size 0 10 rfl 25 _ (wCells x A1 n1 c1 A2 n2 c2) _ HD4.out Try.underlying25 rfl rfl rfl (fun _ _ => by rw [Nat.zero_add]) ?_)
      | (refine wpList_load_guarded rfl 25 (.tmp 1) rfl w.heap.size 0 10 rfl 25 _ (wCells x A n c A' n' c') _ HK4.out Try.underlying25 rfl rfl rfl (fun _ _ => by rw [Nat.zero_add]) ?_))
    refine (HSM.out w4 (Below.refl _ _)).mono ?_
    rintro _ w5 ⟨rfl, hb5⟩
    have HB5 := Lib.hid (HB4.out.trans (hb5.mono hs4))
    have HK5 := Lib.hid (HK4.out.under hb5)
    have HD5 := Lib.hid (HD4.out.under hb5)
    have hsp := HSP.out w5 hb5
    have HS5 := Lib.hid hsp
    have hs5 := HB5.out.size
    clear hb5 hsp
    go_wp2_with (first
      | (refine wpList_load_guarded rfl 25 (.tmp 5) rfl w3.heap.size 0 10 rfl 25 _ (wCells x A1 n1 c1 A2 n2 c2) _ HD5.out Try.underlying25 rfl rfl rfl (fun _ _ => by rw [Nat.zero_add]) ?_)
      | (refine wpList_load_guarded rfl 25 (.tmp 1) rfl w.heap.size 0 10 rfl 25 _ (wCells x A n c A' n' c') _ HK5.out Try.underlying25 rfl rfl rfl (fun _ _ => by rw [Nat.zero_add]) ?_))
    refine HS5.out.mono ?_
    rintro _ w6 ⟨rfl, hb6⟩
    have HB6 := Lib.hid (HB5.out.trans (hb6.mono hs5))
    clear hb6
    go_wp2_with fail
    go_ret
    refine ⟨?_, HB6.out⟩
    show Ending.returned (.bool (decide ((xb.length : Int) < 128))) = _
    rw [decide_eq_true (by omega)]

end Go.Proofs.Ytolmljehnaojeaa
