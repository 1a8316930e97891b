/-
  WishBatch: the law's walk.
-/
import Derived.Test.YtcmbmimmfgfefaaCopyAll
import Derived.Test.YtcmbmimmfgfefaaRefBatch
import Derived.Test.YtcmbmimmfgfefaaRefUnbatch
import Derived.Test.YtcmbmimmfgfefaaAlike
import Derived.Test.YtcmbmimmfgfefaaUnbMath
import Derived.Test.YtcmbmimmfgfefaaBump
namespace Go.Proofs.Ytcmbmimmfgfefaa
set_option linter.unusedVariables false
open Go.RowKit

theorem Keeps.below {w w' : World} {g n : Nat} {A : Option Addr} {l : List Wish} (h : Keeps w g A n l) (hb : Below w.heap.size w w') : Keeps w' g A n l := fun W hs hk =>
  h W (by have := hb.size; omega) (fun i hi hg => (hk i (by have := hb.size; omega) hg).trans (hb.block i hi))
theorem Keeps.more {w : World} {g g' n : Nat} {A : Option Addr} {l : List Wish} (h : Keeps w g A n l) (hg : g' ≤ g) : Keeps w g' A n l := fun W hs hk => h W hs fun i hi hge => hk i hi (by omega)
theorem Keeps.now {w : World} {g n : Nat} {A : Option Addr} {l : List Wish} (h : Keeps w g A n l) : WishesIn w w.heap.size A n l := h w (Nat.le_refl _) fun _ _ _ => rfl
theorem Keeps.grown {w w' : World} {g n : Nat} {A : Option Addr} {l : List Wish} {ob : Option Nat} (h : Keeps w g A n l) (hg : w.grownBy w' ob) (hb : ∀ b, ob = some b → b < g) : Keeps w' g A n l := fun W hs hk =>
  h W (by have := hg.size; omega) (fun i hi hge => (hk i (by have := hg.size; omega) hge).trans (hg.block i hi (fun e => by have := hb i e.symm; omega)))
theorem unb_len (b : List UInt8) : (unbatch b).1.length ≤ 4 := by
  by_cases h : (unbatch b).2 = 0
  · exact (unb_fact h).2.1
  · rw [unb_bad h]; simp

/-- what the walk carries -/
structure LB (w W : World) (A : Option Addr) (n : Nat) (l : List Wish) (raw : Value) (xs : List UInt8) (g : Nat) : Prop where
  bl : Below w.heap.size w W
  inn : WishesIn W W.heap.size A n l
  raw : OwnB W g raw xs
theorem LB.below {w W W' : World} {A : Option Addr} {n g : Nat} {l : List Wish} {raw : Value} {xs : List UInt8} (h : LB w W A n l raw xs g) (hb : Below W.heap.size W W') : LB w W' A n l raw xs g :=
  ⟨h.bl.trans (hb.mono h.bl.size), (h.inn.below hb).more hb.size, h.raw.below hb⟩

section
attribute [local irreducible] batch unbatch
set_option maxRecDepth 100000 in
set_option maxHeartbeats 8000000 in
theorem wishBatch_law (A : Option Addr) (n c : Nat) (l : List Wish) (D : Option Addr) (m d : Nat) (xs : List UInt8) (w : World) (B : Nat) (h : WishesIn w B A n l) (hr : Reads w B 1 D m (xs.map vb)) (hB : B ≤ w.heap.size) (hn : n ≤ 1256584717421) (hd : m ≤ d) (hm : m ≤ 140737488355328) :
    Calls Try.prog 4 #[.slice A n c, .slice D m d] w fun e w' => e = .returned (.bool true) ∧ Below w.heap.size w w' := by
  have hln := h.1
  have hxm : xs.length = m := by have := hr.1; simpa using this
  have HLN := Lib.hid hln
  have HXM := Lib.hid hxm
  have H := Lib.hid h
  have HR := Lib.hid hr
  have HBT := Lib.hid (fun (Ai : Option Addr) (ci : Nat) (W : World) (hi : WishesIn W W.heap.size Ai n l) => batch_any Ai n ci l W _ hi (Nat.le_refl _) (by omega))
  have HRB := Lib.hid (fun (W : World) (hb : Below w.heap.size w W) => refBatch_any A n c l W B (h.below (hb.mono hB)) (by have := hb.size; omega) (by omega))
  have HUB := Lib.hid (fun (Ai : Option Addr) (ci : Nat) (W : World) (hr : Reads W W.heap.size 1 Ai m (xs.map vb)) (hci : m ≤ ci) => unbatch_any Ai m ci xs W _ hr (Nat.le_refl _) hci hm)
  have HRU := Lib.hid (fun (W : World) (hb : Below w.heap.size w W) => refUnbatch_any D m d xs W B (hr.below (hb.mono hB)) (by have := hb.size; omega) hd hm)
  have hu4 := unb_len xs
  obtain ⟨p, hp⟩ : ∃ p, p = batch l := ⟨_, rfl⟩
  rw [← hp] at HBT HRB
  obtain ⟨u, hu⟩ : ∃ u, u = unbatch xs := ⟨_, rfl⟩
  rw [← hu] at HUB HRU hu4
  clear hp hu h hr
  obtain ⟨bs, e⟩ := p
  obtain ⟨L, f⟩ := u
  simp only at HBT HRB HUB HRU hu4
  go_enter Try.func4, Try.ntmps4
  go_wp2_with fail
  refine (copyAll_any A n c l w B H.out hB hn).mono ?_
  rintro _ w1 ⟨Ai, ni, ci, rfl, hni, hci, hk1, hb1⟩
  obtain rfl : ni = n := by omega
  have hs1 := hb1.size
  have HB1 := Lib.hid hb1
  have HI1 := Lib.hid hk1.now
  clear hk1 hb1 hni hln
  go_wp2_with fail
  refine (copyBytes_any D m d xs w1 B (HR.out.below (HB1.out.mono hB)) (by omega) (by omega)).mono ?_
  rintro _ w2 ⟨rv, rfl, hov, hb2⟩
  obtain ⟨Ar, cr, rfl, hcr, hcrm, hrr, hrB⟩ := own_slice_b hov
  rw [hxm] at hcr ⊢
  rw [hxm] at hov
  have hs2 := hb2.size
  have HL2 := Lib.hid (show LB w w2 Ai ni l (.slice Ar m cr) xs w1.heap.size from ⟨HB1.out.trans (hb2.mono hs1), (HI1.out.below hb2).more hs2, hov⟩)
  have HRL := Lib.hid (fun b (hb : (Value.slice Ar m cr).ownBlock = some b) => (⟨hov.ge hb, hov.lt hb⟩ : w1.heap.size ≤ b ∧ b < w2.heap.size))
  clear hb2 hov hrr hrB HB1 HI1 hxm
  go_wp2_with fail
  refine (HBT.out Ai ci w2 HL2.out.inn).mono ?_
  rintro _ w3 ⟨xv, rfl, hox, hb3⟩
  obtain ⟨Ax, cx, rfl, hcx, hcxm, hrx, _⟩ := own_slice_b hox
  have HL3 := Lib.hid (HL2.out.below hb3)
  have hs3 := hb3.size
  have HX3 := Lib.hid hrx
  clear hb3 hox hrx HL2 HBT
  go_wp2_with fail
  refine (HRB.out w3 HL3.out.bl).mono ?_
  rintro _ w4 ⟨yv, rfl, hoy, hb4⟩
  obtain ⟨Ay, cy, rfl, hcy, hcym, hry, _⟩ := own_slice_b hoy
  have HL4 := Lib.hid (HL3.out.below hb4)
  have hs4 := hb4.size
  have HX4 := Lib.hid ((HX3.out.below hb4).more hs4)
  have HY4 := Lib.hid hry
  clear hb4 hoy hry HL3 HX3 HRB
  have hrd : Reads w4 w4.heap.size 1 Ar m (xs.map vb) := by have := HL4.out.raw.reads.2.2.2.1; exact this
  have HUC := Lib.hid (HUB.out Ar cr w4 hrd hcr)
  clear hrd HUB
  go_wp2_with fail
  refine HUC.out.mono ?_
  rintro _ w5 ⟨A1, n1, c1, rfl, rfl, hc1, hk1, hb5⟩
  have HL5 := Lib.hid (HL4.out.below hb5)
  have hs5 := hb5.size
  have HX5 := Lib.hid ((HX4.out.below hb5).more hs5)
  have HY5 := Lib.hid ((HY4.out.below hb5).more hs5)
  have HM5 := Lib.hid hk1
  clear hb5 HL4 HX4 HY4 HUC hk1
  go_wp2_with fail
  refine (HRU.out w5 HL5.out.bl).mono ?_
  rintro _ w6 ⟨A2, n2, c2, rfl, rfl, hc2, hk2, hb6⟩
  have HL6 := Lib.hid (HL5.out.below hb6)
  have hs6 := hb6.size
  have HX6 := Lib.hid ((HX5.out.below hb6).more hs6)
  have HY6 := Lib.hid ((HY5.out.below hb6).more hs6)
  have HM6 := Lib.hid (HM5.out.below hb6)
  have HN6 := Lib.hid (hk2.more (g' := w4.heap.size) hs5)
  clear hb6 HL5 HX5 HY5 HM5 HRU hk2
  have heq := eqBytes_any Ax Ay bs.length bs.length cx cy bs bs w6 _ _ HX6.out HY6.out (by omega) (by omega)
  rw [decide_eq_true rfl] at heq
  have HEQ := Lib.hid heq
  clear heq HX6 HY6
  go_wp2_with fail
  refine HEQ.out.mono ?_
  rintro _ w7 ⟨rfl, q7, hq7⟩
  have hb7 : Below w6.heap.size w6 w7 := hq7 ▸ below_drewN (Below.refl _ _) q7
  have HL7 := Lib.hid (HL6.out.below hb7)
  have hs7 := hb7.size
  have HM7 := Lib.hid (HM6.out.below hb7)
  have HN7 := Lib.hid (HN6.out.below hb7)
  clear hb7 hq7 HL6 HM6 HN6 HEQ
  have hal := alike_any A1 A2 _ c1 _ c2 L L w7 _ HM7.out.now HN7.out.now (Nat.le_refl _) (by omega) (by omega)
  rw [decide_eq_true rfl] at hal
  have HAL := Lib.hid hal
  clear hal
  go_wp2_with fail
  refine HAL.out.mono ?_
  rintro _ w8 ⟨rfl, hb8⟩
  have HL8 := Lib.hid (HL7.out.below hb8)
  have hs8 := hb8.size
  have HM8 := Lib.hid (HM7.out.below hb8)
  have HN8 := Lib.hid (HN7.out.below hb8)
  clear hb8 HL7 HM7 HN7 HAL
  have hal := alike_any Ai A ni ci ni c l l w8 w8.heap.size HL8.out.inn ((H.out.below (HL8.out.bl.mono hB)).more (by have := HL8.out.bl.size; omega)) (Nat.le_refl _) (by omega) (by omega)
  rw [decide_eq_true rfl] at hal
  have HAL := Lib.hid hal
  clear hal
  go_wp2_with fail
  refine HAL.out.mono ?_
  rintro _ w9 ⟨rfl, hb9⟩
  have HL9 := Lib.hid (HL8.out.below hb9)
  have hs9 := hb9.size
  have HM9 := Lib.hid (HM8.out.below hb9)
  have HN9 := Lib.hid (HN8.out.below hb9)
  clear hb9 HL8 HM8 HN8 HAL
  have hrd : Reads w9 w9.heap.size 1 Ar m (xs.map vb) := by have := HL9.out.raw.reads.2.2.2.1; exact this
  have heq := eqBytes_any Ar D m m cr d xs xs w9 _ _ hrd (HR.out.below (HL9.out.bl.mono hB)) (by unfold maxLen; omega) (by unfold maxLen; omega)
  rw [decide_eq_true rfl] at heq
  have HEQ := Lib.hid heq
  clear heq hrd
  go_wp2_with fail
  refine HEQ.out.mono ?_
  rintro _ w7 ⟨rfl, q7, hq7⟩
  have hb7 : Below w9.heap.size w9 w7 := hq7 ▸ below_drewN (Below.refl _ _) q7
  have HL7 := Lib.hid (HL9.out.below hb7)
  have hs10 := hb7.size
  have HM7 := Lib.hid (HM9.out.below hb7)
  have HN7 := Lib.hid (HN9.out.below hb7)
  have hI7 := InB.of_own HL7.out.raw
  rw [HXM.out] at hI7
  have HI7 := Lib.hid hI7
  clear hb7 hq7 hI7 HL9 HM9 HN9 HEQ
  go_wp2_with fail
  go_loopw [15] (fun i wr => ∃ j : Nat, j ≤ m ∧ i = .int .i64 j ∧ InB wr (.slice Ar m cr) m ∧ w7.grownBy wr (Value.ownBlock (.slice Ar m cr))) (fun i _ => m - (intOf i).toNat)
  case atStart => exact ⟨0, by omega, rfl, HI7.out, World.grownBy.refl _ _⟩
  case round =>
    obtain ⟨j, hj, rfl, hI, hgr⟩ := hrel
    by_cases hj1 : j < m
    · rcases hI with h0 | ⟨gi, cap, cur, hv, hBk, hcur⟩
      · omega
      injection hv with hv1 _ hv3
      subst hv1 hv3
      obtain ⟨u, hu⟩ := hcur j hj1
      have hcell := (hBk.cell j).trans hu
      have hfz := hBk.frozen j
      unfold vb at hcell
      have hv : (bi u + 1) % 256 = bi (u + 1) := bump_byte u
      have HBk := Lib.hid hBk
      have HC := Lib.hid hcur
      have HGR := Lib.hid hgr
      clear hBk hcur hgr hu
      go_wp2
      go_roundw
      case rel => exact ⟨j + 1, by omega, by go_num, .inr ⟨gi, _, _, rfl, HBk.out.set_ j (vb (u + 1)), bump_set HC.out _⟩, HGR.out.trans (Turned.setCell _ ⟨gi, j, none⟩ _).grown⟩
      case measure => simp [intOf]; omega
    · obtain rfl : j = m := by omega
      have hgs := hgr.size
      have HB8 := Lib.hid (grown_below HL7.out.bl HL7.out.bl.size hgr (fun b hb => by have := (HRL.out b hb).1; omega))
      have HM8 := Lib.hid (HM7.out.grown hgr (fun b hb => by have := (HRL.out b hb).2; omega))
      have HN8 := Lib.hid (HN7.out.grown hgr (fun b hb => by have := (HRL.out b hb).2; omega))
      have hs11 := HB8.out.size
      clear hI hgr HL7 HM7 HN7 HI7
      have hal := alike_any A1 A2 _ c1 _ c2 L L wr _ HM8.out.now HN8.out.now (Nat.le_refl _) (by omega) (by omega)
      rw [decide_eq_true rfl] at hal
      have HAL := Lib.hid hal
      clear hal
      go_wp2_with fail
      refine HAL.out.mono ?_
      rintro _ w12 ⟨rfl, hb12⟩
      have HB12 := Lib.hid (HB8.out.trans (hb12.mono hs11))
      have hs12 := HB12.out.size
      clear hb12 HAL
      go_wp2_with fail
      refine (worksW_any _).mono ?_
      rintro _ w13 ⟨rfl, hb13⟩
      have HB13 := Lib.hid (HB12.out.trans (hb13.mono hs12))
      clear hb13
      go_wp2_with fail
      go_ret
      exact ⟨rfl, HB13.out⟩
end

end Go.Proofs.Ytcmbmimmfgfefaa
