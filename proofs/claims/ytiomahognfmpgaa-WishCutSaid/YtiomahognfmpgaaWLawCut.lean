/-
  WishCut: the law's walk.
-/
import Derived.Test.YtiomahognfmpgaaPSame
import Derived.Test.YtiomahognfmpgaaUnbMath
import Derived.Test.YtiomahognfmpgaaBring
import Derived.Test.YtiomahognfmpgaaSlice
namespace Go.Proofs.Ytiomahognfmpgaa
set_option linter.unusedVariables false
open Go.RowKit

theorem single_wishes {w : World} {B : Nat} {x : Wish} {A : Option Addr} {n c : Nat} {A' : Option Addr} {n' c' : Nat} (h : WishIn w B x A n c A' n' c') (hB : B ≤ w.heap.size) :
    WishesIn (w.alloc (.cells (wCells x A n c A' n' c') 25)) (w.heap.size + 1) (some ⟨w.heap.size, 0, none⟩) 1 [x] := by
  have hb : Below w.heap.size w (w.alloc (.cells (wCells x A n c A' n' c') 25)) := (Below.refl _ _).alloc (Nat.le_refl _) _
  obtain ⟨_, h2⟩ := reads_struct w (wCells x A n c A' n' c') 25 rfl
  obtain ⟨ad, h3, h4, h5⟩ := h2 (by omega)
  refine ⟨rfl, fun _ => ⟨ad, h3, h4, fun k y hy => ?_⟩⟩
  match k, hy with
  | 0, hy =>
    simp at hy
    subst hy
    exact ⟨A, n, c, A', n', c', fun j v hv => by rw [Nat.mul_zero, Nat.zero_add]; exact h5 j v (by rw [Array.getElem?_toList]; exact hv), (h.below (hb.mono hB)).more (by omega)⟩
theorem batch_one {x : Wish} (h : mayB x = true) : batch [x] = (batchOf [x], 0) := batch_of (by simp) (by simp [h])
theorem batchOf_one_len {x : Wish} (h : mayB x = true) : 0 < (batchOf [x]).length ∧ (batchOf [x]).length ≤ 2000 := by
  have := outs_len (l := [x]) (n := 1) (k := 4) (fun y hy => by rw [List.mem_singleton] at hy; rw [hy]; exact h) (by omega) (by simp)
  have h1 := (numB_len (n := 1) (by unfold maxN; omega)).1
  unfold batchOf
  show 0 < (numB 1 ++ _).length ∧ (numB 1 ++ _).length ≤ 2000
  rw [List.length_append] at this ⊢
  omega
theorem wishB_pos (x : Wish) : 0 < (wishB x).length := by
  unfold wishB numsI numB
  simp only [List.length_append, List.flatMap_cons, List.length_cons]
  omega

set_option maxRecDepth 100000 in
set_option maxHeartbeats 4000000 in
theorem wishCut_law (x : Wish) (A : Option Addr) (n c : Nat) (A' : Option Addr) (n' c' : Nat) (at_ : Int) (w : World) (B : Nat) (hx : WishIn w B x A n c A' n' c') (hB : B ≤ w.heap.size) (ha : I64 at_) :
    Calls Try.prog 9 #[.agg (wCells x A n c A' n' c'), .int .i64 at_] w fun e w' => e = .returned (.bool true) ∧ Below w.heap.size w w' := by
  have hX : Below w.heap.size w (w.alloc (.cells (wCells x A n c A' n' c') 25)) := (Below.refl _ _).alloc (Nat.le_refl _) _
  have hk0 : Blk (w.alloc (.cells (wCells x A n c A' n' c') 25)) w.heap.size 25 (wCells x A n c A' n' c') := Blk.newAt rfl
  have HWX := Lib.hid (fun W (hb : Below w.heap.size w W) => hx.below (hb.mono hB))
  have HX := Lib.hid hX
  have HK0 := Lib.hid hk0
  have hs0 : w.heap.size ≤ (w.alloc (.cells (wCells x A n c A' n' c') 25)).heap.size := by simp
  have ha1 := ha.1
  have ha2 := ha.2
  clear hx hX hk0 ha
  obtain ⟨i0, hi0, hz0, hz1, hz2⟩ := info_parts u8_info
  go_enter Try.func9, Try.ntmps9
  go_wp2_with fail
  refine (worksW_any _).mono ?_
  rintro _ w1 ⟨rfl, hb1⟩
  have HB1 := Lib.hid (HX.out.trans (hb1.mono hs0))
  have HK1 := Lib.hid (HK0.out.under hb1)
  have hs1 := HB1.out.size
  clear hb1
  go_wp2_with (refine wpList_load_part (o := ⟨some 20, _, _, _, _, _⟩) rfl 25 (.tmp 2) rfl w.heap.size 0 10 rfl 25 _ (wCells x A n c A' n' c') _ HK1.out Try.underlying25 rfl rfl rfl (fun _ _ => by rw [Nat.zero_add]) ?_)
  refine (bytes_any x A n c A' n' c' w1 B (HWX.out w1 HB1.out) (by omega)).mono ?_
  obtain ⟨mb, hmb⟩ : ∃ mb, mb = mayB x := ⟨_, rfl⟩
  rw [← hmb]
  have HMB := Lib.hid (fun (_ : Unit) => hmb)
  clear hmb
  rintro _ w2 ⟨bv, rfl, hob, hb2⟩
  have HB2 := Lib.hid (HB1.out.trans (hb2.mono hs1))
  have HK2 := Lib.hid (HK1.out.under hb2)
  have hs2 := HB2.out.size
  clear hb2
  cases mb with
  | false =>
    go_wp2_with fail
    go_ret
    exact ⟨rfl, HB2.out⟩
  | true =>
    have hmx := (HMB.out ()).symm
    have hob' : OwnB w2 w1.heap.size bv (wishB x) := hob
    obtain ⟨Ab, cb, rfl, hbc, hbm, hbr, hbB⟩ := own_slice_b hob'
    have hlt := wishB_lt hmx
    have hpos := wishB_pos x
    have HP1 := Lib.hid (fun k hk => parse_cut hmx k hk)
    have HP2 := Lib.hid (parse_behind hmx [0] (by simp))
    have HU1 := Lib.hid (fun k hk => unb_cut hmx k hk)
    have HU2 := Lib.hid (show unbatch (batchOf [x] ++ [0]) = ([], 4) from unb_behind (by simp) (by simp [hmx]) [0] (by simp))
    have hcl := batchOf_one_len hmx
    have hba := batch_any (some ⟨w2.heap.size, 0, none⟩) 1 1 [x] (w2.alloc (.cells (wCells x A n c A' n' c') 25)) (w2.heap.size + 1) (single_wishes (HWX.out w2 HB2.out) (by omega)) (by simp) (by omega)
    rw [batch_one hmx] at hba
    have HBA := Lib.hid hba
    obtain ⟨xb, hxb⟩ : ∃ xb, xb = wishB x := ⟨_, rfl⟩
    obtain ⟨xc, hxc⟩ : ∃ xc, xc = batchOf [x] := ⟨_, rfl⟩
    rw [← hxb] at hlt hpos hbr hbc HP1 HP2 ⊢
    rw [← hxc] at HU1 HU2 HBA hcl
    have hcl1 := hcl.1
    have hcl2 := hcl.2
    have HBR := Lib.hid hbr
    have hwz : (wCells x A n c A' n' c').size = 10 := rfl
    have hX2 : Below w2.heap.size w2 (w2.alloc (.cells (wCells x A n c A' n' c') 25)) := (Below.refl _ _).alloc (Nat.le_refl _) _
    have HX2 := Lib.hid hX2
    clear hob hob' hbr hxb hxc hmx hba hcl hX2
    go_wp2_with (refine wpList_load_part (o := ⟨some 27, _, _, _, _, _⟩) rfl 25 (.tmp 2) rfl w.heap.size 0 10 rfl 25 _ (wCells x A n c A' n' c') _ HK2.out Try.underlying25 rfl rfl rfl (fun _ _ => by rw [Nat.zero_add]) ?_)
    rw [fill_cells]
    refine HBA.out.mono ?_
    rintro _ w3 ⟨cv, rfl, hoc, hb3⟩
    have hb23 := HX2.out.trans (hb3.mono (by simp))
    have HB3 := Lib.hid (HB2.out.trans (hb23.mono hs2))
    have HBR3 := Lib.hid (HBR.out.below hb23)
    have hs3 := HB3.out.size
    have hs23 := hb23.size
    obtain ⟨Ac, cc, rfl, hcc, hccm, hcr, hcB⟩ := own_slice_b hoc
    have HCR3 := Lib.hid hcr
    clear hoc hb3 hb23 hcr hwz HX2 HBA
    -- the shorter bytes
    obtain ⟨k, hk⟩ : ∃ k, k = bringF at_ xb.length := ⟨_, rfl⟩
    have hklt : k < xb.length := by rw [hk]; exact bringF_lt _ _ hpos
    have hbr1 := bring_any at_ xb.length hpos (by unfold maxLen; omega) ha1 ha2 w3
    rw [← hk] at hbr1
    have HBG := Lib.hid hbr1
    obtain ⟨E, hE⟩ : ∃ E, E = (if cb = 0 then Ab else Ab.map (·.add 0)) := ⟨_, rfl⟩
    have hsl := fun W => run_slice_to (P := Try.prog) (t := 22) (e := 5) rfl rfl Ab xb.length cb k (k : Int) rfl (by omega) W
    rw [← hE] at hsl
    have hrk := HBR3.out.to (k := k) (cap := cb) (by omega) hbc
    rw [← hE, ← List.map_take] at hrk
    have HRK := Lib.hid hrk
    clear hbr1 hE hrk hk
    go_wp2_with fail
    refine HBG.out.mono ?_
    rintro _ _ ⟨rfl, rfl⟩
    go_wp2_with fail
    have hpa := parse_any E k cb (xb.take k) w3 _ HRK.out (by omega) (by omega) (by omega)
    rw [HP1.out k hklt] at hpa
    generalize (parse (xb.take k)).1 = p1 at hpa
    refine hpa.mono ?_
    rintro _ w4 ⟨A1, n1, c1, A2, n2, c2, rfl, hwi, hb4⟩
    have HB4 := Lib.hid (HB3.out.trans (hb4.mono hs3))
    have hs4 := HB4.out.size
    have hs34 := hb4.size
    have HBR4 := Lib.hid (HBR3.out.below (hb4.mono hs23))
    have HCR4 := Lib.hid (HCR3.out.below hb4)
    clear hwi hb4 hsl hpa HRK HBG
    go_upto_region 8 with (refine wpList_store_part rfl 25 (.tmp 9) (.tmp 40) rfl w4.heap.size 0 (wCells p1 A1 n1 c1 A2 n2 c2) rfl rfl 25 (wCells zeroW none 0 0 none 0 0) (Blk.newAt rfl) (wCells_info _ _ _ _ _ _ _) (by simp [wCells]) (wCells_one _ _ _ _ _ _ _) ?_; intro w5 hT5 hD5; clear hD5)
    have hb5 : Below w4.heap.size w4 w5 := hT5.below ((Below.refl _ _).alloc (Nat.le_refl _) _) (Nat.le_refl _)
    have HB5 := Lib.hid (HB4.out.trans (hb5.mono hs4))
    have hs5 := HB5.out.size
    have hs45 := hb5.size
    have HBR5 := Lib.hid (HBR4.out.below (hb5.mono (by omega)))
    have HCR5 := Lib.hid (HCR4.out.below (hb5.mono hs34))
    clear hT5 hb5
    -- the bytes with one more behind
    go_wp2_with fail
    refine (copyBytes_any Ab xb.length cb xb w5 _ HBR5.out (by omega) (by omega)).mono ?_
    rintro _ w6 ⟨dv, rfl, hod, hb6⟩
    have HB6 := Lib.hid (HB5.out.trans (hb6.mono hs5))
    have hs6 := HB6.out.size
    have hs56 := hb6.size
    have hX6 : Below w6.heap.size w6 (w6.alloc (.cells #[.int .u8 0] 5)) := (Below.refl _ _).alloc (Nat.le_refl _) _
    have HX6 := Lib.hid hX6
    have HO6 := Lib.hid (show (w6.alloc (.cells #[.int .u8 0] 5)).ownsRow w5.heap.size 5 1 dv xb.length (xb.map vb) from hod.below hX6)
    have hr6 := reads_cells w6 #[.int .u8 0] 5
    have HR6 := Lib.hid hr6
    have HGE6 := Lib.hid (fun b (hb : dv.ownBlock = some b) => hod.ge hb)
    have HB5X := Lib.hid (hb6.trans (hX6.mono hs56))
    clear hb6 hod hX6 hr6
    go_wp2_with (at_builtin; go_must (refine wpList_append_any _ rfl (.tmp 44) (.tmp 45) 22 rfl w5.heap.size 5 i0 _ 1 1 Try.underlying22 hi0 hz0 hz1 hz2 rfl (by omega) dv xb.length (xb.map vb) rfl HO6.out (w6.heap.size + 1) (some ⟨w6.heap.size, 0, none⟩) 1 1 [.int .u8 0] rfl HR6.out ?c1 ?c2 ?c3 ?c4 ?_))
    case c1 => simp [Value.oneCell']
    case c2 => unfold maxLen; omega
    case c3 => omega
    case c4 => simp; omega
    intro v7 w7 hown7 hg7 hor7
    have hb57 := grown_below HB5X.out (by simp; omega) hg7 (fun b hb => HGE6.out b hb)
    have own7 : OwnB w7 w5.heap.size v7 (xb ++ [0]) := by unfold OwnB; rw [List.length_append, List.map_append]; exact hown7
    obtain ⟨A7, c7, rfl, hc7, hcm7, hr7, _⟩ := own_slice_b own7
    have hl7 : (xb ++ [0]).length = xb.length + 1 := by simp
    rw [hl7] at hc7 hr7 ⊢
    have HB7 := Lib.hid (HB5.out.trans (hb57.mono hs5))
    have hs7 := HB7.out.size
    have hs57 := hb57.size
    have HCR7 := Lib.hid (HCR5.out.below (hb57.mono (by omega)))
    have hpa := parse_any A7 (xb.length + 1) c7 (xb ++ [0]) w7 _ hr7 (by omega) hc7 (by omega)
    rw [HP2.out] at hpa
    generalize (parse (xb ++ [0])).1 = p2 at hpa
    have HPA := Lib.hid hpa
    clear hown7 hg7 hor7 hb57 own7 hl7 hr7 hpa HB5X HX6 HO6 HR6 HGE6
    go_wp2_with fail
    refine HPA.out.mono ?_
    rintro _ w8 ⟨A3, n3, c3, A4, n4, c4, rfl, hwi, hb8⟩
    have HB8 := Lib.hid (HB7.out.trans (hb8.mono hs7))
    have hs8 := HB8.out.size
    have hs78 := hb8.size
    have HCR8 := Lib.hid (HCR7.out.below (hb8.mono (by omega)))
    clear hwi hb8 HPA
    go_upto_region 9 with (refine wpList_store_part rfl 25 (.tmp 11) (.tmp 48) rfl w8.heap.size 0 (wCells p2 A3 n3 c3 A4 n4 c4) rfl rfl 25 (wCells zeroW none 0 0 none 0 0) (Blk.newAt rfl) (wCells_info _ _ _ _ _ _ _) (by simp [wCells]) (wCells_one _ _ _ _ _ _ _) ?_; intro w9 hT9 hD9; clear hD9)
    have hb9 : Below w8.heap.size w8 w9 := hT9.below ((Below.refl _ _).alloc (Nat.le_refl _) _) (Nat.le_refl _)
    have HB9 := Lib.hid (HB8.out.trans (hb9.mono hs8))
    have hs9 := HB9.out.size
    have hs89 := hb9.size
    have HCR9 := Lib.hid (HCR8.out.below (hb9.mono (by omega)))
    clear hT9 hb9
    -- the batch's bytes, shorter
    obtain ⟨k2, hk2⟩ : ∃ k, k = bringF at_ xc.length := ⟨_, rfl⟩
    have hk2lt : k2 < xc.length := by rw [hk2]; exact bringF_lt _ _ hcl1
    have hbr2 := bring_any at_ xc.length hcl1 (by unfold maxLen; omega) ha1 ha2 w9
    rw [← hk2] at hbr2
    have HBG2 := Lib.hid hbr2
    obtain ⟨E2, hE2⟩ : ∃ E, E = (if cc = 0 then Ac else Ac.map (·.add 0)) := ⟨_, rfl⟩
    have hsl2 := fun W => run_slice_to (P := Try.prog) (t := 22) (e := 5) rfl rfl Ac xc.length cc k2 (k2 : Int) rfl (by omega) W
    rw [← hE2] at hsl2
    have hrk2 := HCR9.out.to (k := k2) (cap := cc) (by omega) hcc
    rw [← hE2, ← List.map_take] at hrk2
    have HRK2 := Lib.hid hrk2
    clear hbr2 hE2 hrk2 hk2
    go_wp2_with fail
    refine HBG2.out.mono ?_
    rintro _ _ ⟨rfl, rfl⟩
    go_wp2_with fail
    have hun := unbatch_any E2 k2 cc (xc.take k2) w9 _ HRK2.out (by omega) (by omega) (by omega)
    rw [HU1.out k2 hk2lt] at hun
    generalize (unbatch (xc.take k2)).1 = p3 at hun
    refine hun.mono ?_
    rintro _ w10 ⟨A5, n5, c5, rfl, _, _, _, hb10⟩
    have HB10 := Lib.hid (HB9.out.trans (hb10.mono hs9))
    have hs10 := HB10.out.size
    have hs910 := hb10.size
    have HCR10 := Lib.hid (HCR9.out.below (hb10.mono (by omega)))
    clear hb10 hsl2 hun HRK2 HBG2
    -- and with one more behind
    go_wp2_with fail
    refine (copyBytes_any Ac xc.length cc xc w10 _ HCR10.out (by omega) (by omega)).mono ?_
    rintro _ w11 ⟨dv, rfl, hod, hb11⟩
    have HB11 := Lib.hid (HB10.out.trans (hb11.mono hs10))
    have hs11 := HB11.out.size
    have hs1011 := hb11.size
    have hX11 : Below w11.heap.size w11 (w11.alloc (.cells #[.int .u8 0] 5)) := (Below.refl _ _).alloc (Nat.le_refl _) _
    have HO11 := Lib.hid (show (w11.alloc (.cells #[.int .u8 0] 5)).ownsRow w10.heap.size 5 1 dv xc.length (xc.map vb) from hod.below hX11)
    have hr11 := reads_cells w11 #[.int .u8 0] 5
    have HR11 := Lib.hid hr11
    have HGE11 := Lib.hid (fun b (hb : dv.ownBlock = some b) => hod.ge hb)
    have HB10X := Lib.hid (hb11.trans (hX11.mono hs1011))
    clear hb11 hod hX11 hr11
    go_wp2_with (at_builtin; go_must (refine wpList_append_any _ rfl (.tmp 62) (.tmp 63) 22 rfl w10.heap.size 5 i0 _ 1 1 Try.underlying22 hi0 hz0 hz1 hz2 rfl (by omega) dv xc.length (xc.map vb) rfl HO11.out (w11.heap.size + 1) (some ⟨w11.heap.size, 0, none⟩) 1 1 [.int .u8 0] rfl HR11.out ?d1 ?d2 ?d3 ?d4 ?_))
    case d1 => simp [Value.oneCell']
    case d2 => unfold maxLen; omega
    case d3 => omega
    case d4 => simp; omega
    intro v12 w12 hown12 hg12 hor12
    have hb1012 := grown_below HB10X.out (by simp; omega) hg12 (fun b hb => HGE11.out b hb)
    have own12 : OwnB w12 w10.heap.size v12 (xc ++ [0]) := by unfold OwnB; rw [List.length_append, List.map_append]; exact hown12
    obtain ⟨A12, c12, rfl, hc12, hcm12, hr12, _⟩ := own_slice_b own12
    have hl12 : (xc ++ [0]).length = xc.length + 1 := by simp
    rw [hl12] at hc12 hr12 ⊢
    have HB12 := Lib.hid (HB10.out.trans (hb1012.mono hs10))
    have hs12 := HB12.out.size
    have hub := unbatch_any A12 (xc.length + 1) c12 (xc ++ [0]) w12 _ hr12 (by omega) hc12 (by omega)
    rw [HU2.out] at hub
    have HUB := Lib.hid hub
    clear hown12 hg12 hor12 hb1012 own12 hl12 hr12 hub HB10X HO11 HR11 HGE11
    go_wp2_with fail
    refine HUB.out.mono ?_
    rintro _ w13 ⟨A6, n6, c6, rfl, _, _, _, hb13⟩
    have HB13 := Lib.hid (HB12.out.trans (hb13.mono hs12))
    clear hb13 HUB
    go_wp2_with fail
    go_ret
    exact ⟨rfl, HB13.out⟩

end Go.Proofs.Ytiomahognfmpgaa
