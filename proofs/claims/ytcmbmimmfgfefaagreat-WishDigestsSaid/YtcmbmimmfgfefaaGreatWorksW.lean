/-
  The law's own helpers: read, seal, is, works.
-/
import Derived.Test.YtcmbmimmfgfefaaGreatBatch
import Derived.Test.YtcmbmimmfgfefaaGreatRefSame
namespace Go.Proofs.YtcmbmimmfgfefaaGreat
set_option linter.unusedVariables false
open Go.RowKit

theorem wpList_load_guarded {P : Program} {ops : Array Oper} {rest : List Oper} {o : Oper} {a : Act} {w : World} {Q : Exit → Act → World → Prop} (hw : Region.wanted o (yielded ops a.tmps) = true) (ty : TypeId) (x : Operand) (ho : o.op = .load ty x)
    (g off n : Nat) (hx : a.eval x = .pointer (some ⟨g, off, none⟩)) (t : TypeId) (cs vs : Array Value) (d : TypeDesc) (hB : Blk w g t cs)
    (hu : P.underlying ty = some d) (hd : (match d with | .struct _ | .array _ _ => true | _ => false) = true) (hi : (P.info? ty).map (·.size) = some n)
    (hn : vs.size = n) (hv : ∀ j, j < n → cs[off + j]? = vs[j]?)
    (h : wpList P ops Q rest (a.put o.dst (.agg vs)) w) : wpList P ops Q (o :: rest) a w := by
  unfold wpList
  rw [if_pos hw]
  exact .inl (wp_load_part ty x ho g off n hx t cs vs d hB hu hd hi hn hv h)


set_option maxRecDepth 100000 in
set_option maxHeartbeats 1000000 in
theorem read_any (w : World) : Calls Tryz.prog 25 #[] w fun e w' => e = .returned (.agg (wCells readW none 0 0 none 0 0)) ∧ Below w.heap.size w w' := by
  go_enter Tryz.func25, Tryz.ntmps25
  go_wp2_with (refine wpList_store_part rfl 25 (.tmp 0) (.tmp 1) rfl w.heap.size 0 (wCells readW none 0 0 none 0 0) rfl rfl 25 (wCells zeroW none 0 0 none 0 0) (Blk.newAt rfl) (wCells_info _ _ _ _ _ _ _) (by simp [wCells]) (wCells_one _ _ _ _ _ _ _) ?_; intro w11 hT10 hD10; rw [spl_self _ _ (by simp [wCells])] at hD10)
  refine bodyPost_ret (results_part rfl _ _ w.heap.size 10 25 _ _ rfl hD10 Tryz.underlying25 rfl rfl rfl) rfl ⟨rfl, hT10.below ((Below.refl _ _).alloc (Nat.le_refl _) _) (Nat.le_refl _)⟩

set_option maxRecDepth 100000 in
set_option maxHeartbeats 1000000 in
theorem seal_any (w : World) : Calls Tryz.prog 26 #[] w fun e w' => ∃ A c, e = .returned (.agg (wCells sealW none 0 0 A 4 c)) ∧ WishIn w' w'.heap.size sealW none 0 0 A 4 c ∧ Below w.heap.size w w' := by
  go_enter Tryz.func26, Tryz.ntmps26
  go_wp2_with fail
  have hk : Blk ((w.alloc (.cells #[.int .i64 0, .int .i64 0, .int .i64 2, .int .i64 1, .int .i64 5, .int .i64 0, .slice none 0 0, .int .i64 0, .int .i64 0, .slice (some ⟨w.heap.size + 1, 0, none⟩) 4 4] 25)).alloc (.cells #[.int .i64 1, .int .i64 2, .int .i64 3, .int .i64 4] 3)) w.heap.size 25 _ := (Blk.new w _ _).alloc _
  have hb : Below w.heap.size w ((w.alloc (.cells #[.int .i64 0, .int .i64 0, .int .i64 2, .int .i64 1, .int .i64 5, .int .i64 0, .slice none 0 0, .int .i64 0, .int .i64 0, .slice (some ⟨w.heap.size + 1, 0, none⟩) 4 4] 25)).alloc (.cells #[.int .i64 1, .int .i64 2, .int .i64 3, .int .i64 4] 3)) := ((Below.refl _ _).alloc (Nat.le_refl _) _).alloc (by simp) _
  have hr := reads_cells (w.alloc (.cells #[.int .i64 0, .int .i64 0, .int .i64 2, .int .i64 1, .int .i64 5, .int .i64 0, .slice none 0 0, .int .i64 0, .int .i64 0, .slice (some ⟨w.heap.size + 1, 0, none⟩) 4 4] 25)) #[.int .i64 1, .int .i64 2, .int .i64 3, .int .i64 4] 3
  have hs : (w.alloc (.cells #[.int .i64 0, .int .i64 0, .int .i64 2, .int .i64 1, .int .i64 5, .int .i64 0, .slice none 0 0, .int .i64 0, .int .i64 0, .slice (some ⟨w.heap.size + 1, 0, none⟩) 4 4] 25)).heap.size = w.heap.size + 1 := by simp
  rw [hs] at hr
  refine bodyPost_ret (results_part rfl _ _ w.heap.size 10 25 _ _ rfl hk Tryz.underlying25 rfl rfl rfl) rfl ⟨some ⟨w.heap.size + 1, 0, none⟩, 4, rfl, ⟨Reads.none_, Nat.le_refl _, by omega, hr.more (by simp), Nat.le_refl _, by omega, by unfold I64 sealW; simp⟩, hb⟩

set_option maxRecDepth 100000 in
set_option maxHeartbeats 1000000 in
theorem unbatchZero_any (A : Option Addr) (c : Nat) (w : World) (B : Nat) (h : Reads w B 1 A 1 ([0].map vb)) (hB : B ≤ w.heap.size) (hc : 1 ≤ c) :
    Calls Tryz.prog 23 #[.slice A 1 c] w fun e w' => e = .returned (.tuple #[.slice none 0 0, .int .i64 0]) ∧ Below w.heap.size w w' := by
  have H := Lib.hid h
  clear h
  go_enter Tryz.func23, Tryz.ntmps23
  go_wp2_with fail
  have hX : Below w.heap.size w (w.alloc (.cells #[.slice A 1 c, .int .i64 0] 78)) := (Below.refl _ _).alloc (Nat.le_refl _) _
  have hrd : RdAt (w.alloc (.cells #[.slice A 1 c, .int .i64 0] 78)) w.heap.size (fun b => b = w.heap.size) ([0], 0) := ⟨by omega, A, 1, c, Blk.newAt rfl, hc, by omega, (H.out.below (hX.mono hB)).more (by simp; omega), fun a h0 ha e => by
    obtain ⟨ad, hA, hb, _⟩ := H.out.2 h0
    rw [hA] at ha
    injection ha with ha
    subst ha
    omega⟩
  refine (rdMany_any w.heap.size 4 _ _ _ hrd (by rintro b rfl; simp) rfl (by omega)).mono ?_
  have hm : rdM ([0], 0) 4 = (0, ([], 0)) := by
    have h1 : rdN (numB 0 ++ [], 0) = (0, ([], 0)) := rdN_num (by unfold maxN; omega) []
    rw [numB_zero] at h1
    unfold rdM
    rw [show (([0] : List UInt8), 0) = (([0] ++ [] : List UInt8), 0) from rfl, h1]
    rfl
  rw [hm]
  rintro _ w2 ⟨rfl, hr2, ho2⟩
  have HR2 := Lib.hid hr2
  have HB2 := Lib.hid (ho2.below hX (by simp) (Nat.le_refl _))
  have hs2 := ho2.size
  clear hX hrd hm hr2 ho2
  go_wp2_with fail
  go_loopw [5, 15] (fun ov iv wr => ov = .slice none 0 0 ∧ iv = .int .i64 0 ∧ w2 = wr) (fun _ _ _ => 0)
  case atStart => exact ⟨rfl, rfl, rfl⟩
  case round =>
    obtain ⟨rfl, rfl, rfl⟩ := hrel
    go_wp2_with fail
    refine (rdEnd_any w.heap.size _ _ w2 HR2.out rfl).mono ?_
    rw [show rdE (([] : List UInt8), 0) = 0 from rfl]
    rintro _ w3 ⟨rfl, hr3, ho3⟩
    have HB3 := Lib.hid (ho3.below HB2.out HB2.out.size (Nat.le_refl _))
    clear hr3 ho3
    go_wp2_with fail
    go_ret2
    exact ⟨rfl, HB3.out⟩

set_option maxRecDepth 100000 in
set_option maxHeartbeats 2000000 in
theorem is_any (x : Wish) (A : Option Addr) (n c : Nat) (A' : Option Addr) (n' c' : Nat) (D : Option Addr) (m d : Nat) (bs : List UInt8) (w : World) (B : Nat) (h : WishIn w B x A n c A' n' c') (hr : Reads w B 1 D m (bs.map vb)) (hB : B ≤ w.heap.size) (hd : m ≤ d) (hm : m ≤ 1000) (hx : mayB x = true) (hbs : wishB x = bs) :
    Calls Tryz.prog 24 #[.agg (wCells x A n c A' n' c'), .slice D m d] w fun e w' => e = .returned (.bool true) ∧ Below w.heap.size w w' := by
  have hps : parse bs = (x, 0) := by rw [← hbs]; exact parse_of hx
  have H := Lib.hid h
  have HR := Lib.hid hr
  have hX : Below w.heap.size w (w.alloc (.cells (wCells x A n c A' n' c') 25)) := (Below.refl _ _).alloc (Nat.le_refl _) _
  have hk0 : Blk (w.alloc (.cells (wCells x A n c A' n' c') 25)) w.heap.size 25 (wCells x A n c A' n' c') := Blk.newAt rfl
  have hby := bytes_any x A n c A' n' c' (w.alloc (.cells (wCells x A n c A' n' c') 25)) B (h.below (hX.mono hB)) (by simp; omega)
  rw [if_pos hx, if_pos hx, hbs] at hby
  have HBY := Lib.hid hby
  have HPS := Lib.hid (fun (_ : Unit) => hps)
  have HX := Lib.hid hX
  have HK0 := Lib.hid hk0
  clear h hr hps hX hk0 hby
  go_enter Tryz.func24, Tryz.ntmps24
  go_wp2_with (refine wpList_load_part rfl 25 (.tmp 2) rfl w.heap.size 0 10 rfl 25 _ (wCells x A n c A' n' c') _ HK0.out Tryz.underlying25 rfl rfl rfl (fun _ _ => by rw [Nat.zero_add]) ?_)
  refine HBY.out.mono ?_
  rintro _ w2 ⟨bv, rfl, hob, hb2⟩
  have HB2 := Lib.hid (HX.out.trans (hb2.mono (by simp)))
  have HK2 := Lib.hid (HK0.out.under hb2)
  have HOB := Lib.hid (hob.more (B' := w.heap.size) (by simp))
  have hs2 := HB2.out.size
  clear hob hb2
  go_wp2_with fail
  refine (parse_any D m d bs w2 B (HR.out.below (HB2.out.mono hB)) (by omega) hd (by omega)).mono ?_
  rw [HPS.out ()]
  rintro _ w3 ⟨A1, n1, c1, A2, n2, c2, rfl, hwi, hb3⟩
  have HW3 := Lib.hid hwi
  have HB3 := Lib.hid (HB2.out.trans (hb3.mono hs2))
  have HK3 := Lib.hid (HK2.out.under hb3)
  have HO3 := Lib.hid (HOB.out.below hb3)
  have hs3 := HB3.out.size
  clear hwi hb3
  go_upto_region 3 with (refine wpList_store_part rfl 25 (.tmp 7) (.tmp 17) rfl w3.heap.size 0 (wCells x A1 n1 c1 A2 n2 c2) rfl rfl 25 (wCells zeroW none 0 0 none 0 0) (Blk.newAt rfl) (wCells_info _ _ _ _ _ _ _) (by simp [wCells]) (wCells_one _ _ _ _ _ _ _) ?_; intro w4 hT4 hD4; rw [spl_self _ _ (by simp [wCells])] at hD4)
  have hb4 : Below w3.heap.size w3 w4 := hT4.below ((Below.refl _ _).alloc (Nat.le_refl _) _) (Nat.le_refl _)
  have HB4 := Lib.hid (HB3.out.trans (hb4.mono hs3))
  have HK4 := Lib.hid (HK3.out.under hb4)
  have HO4 := Lib.hid (HO3.out.below hb4)
  have HD4 := Lib.hid hD4
  have HW4 := Lib.hid ((HW3.out.below hb4).more hb4.size)
  have hs4 := HB4.out.size
  clear hT4 hD4 hb4
  obtain ⟨Ab, cb, rfl, hbc, hbm, hbr, hbB⟩ := own_slice_b HO4.out
  have hml : m = bs.length := by have := HR.out.1; simp at this; omega
  have heq := eqBytes_any Ab D bs.length m cb d bs bs w4 _ _ hbr (HR.out.below (HB4.out.mono hB)) (by unfold maxLen; omega) (by unfold maxLen; omega)
  rw [decide_eq_true rfl] at heq
  have HEQ := Lib.hid heq
  have HSM := Lib.hid (fun W (hb : Below w4.heap.size w4 W) => refSame_any x x A1 n1 c1 A2 n2 c2 A n c A' n' c' W w4.heap.size (HW4.out.below hb) ((H.out.below ((HB4.out.trans (hb.mono hs4)).mono hB)).more (by omega)) hb.size)
  clear heq hbr hml
  go_wp2_with fail
  refine HEQ.out.mono ?_
  rintro _ w5 ⟨rfl, q, hq⟩
  have hb5 : Below w4.heap.size w4 w5 := hq ▸ below_drewN (Below.refl _ _) q
  have HB5 := Lib.hid (HB4.out.trans (hb5.mono hs4))
  have HK5 := Lib.hid (HK4.out.under hb5)
  have HD5 := Lib.hid (HD4.out.under hb5)
  have hsm := HSM.out w5 hb5
  rw [(sameW_iff x x).2 rfl] at hsm
  have HS5 := Lib.hid hsm
  have hs5 := HB5.out.size
  clear hq hb5 hsm
  go_wp2_with (first
    | (refine wpList_load_guarded rfl 25 (.tmp 7) rfl w3.heap.size 0 10 rfl 25 _ (wCells x A1 n1 c1 A2 n2 c2) _ HD5.out Tryz.underlying25 rfl rfl rfl (fun _ _ => by rw [Nat.zero_add]) ?_)
    | (refine wpList_load_guarded rfl 25 (.tmp 2) rfl w.heap.size 0 10 rfl 25 _ (wCells x A n c A' n' c') _ HK5.out Tryz.underlying25 rfl rfl rfl (fun _ _ => by rw [Nat.zero_add]) ?_))
  refine HS5.out.mono ?_
  rintro _ w6 ⟨rfl, hb6⟩
  have HB6 := Lib.hid (HB5.out.trans (hb6.mono hs5))
  clear hb6
  go_wp2_with fail
  go_ret
  exact ⟨rfl, HB6.out⟩

set_option maxRecDepth 100000 in
set_option maxHeartbeats 4000000 in
theorem worksW_any (w : World) : Calls Tryz.prog 14 #[] w fun e w' => e = .returned (.bool true) ∧ Below w.heap.size w w' := by
  go_enter Tryz.func14, Tryz.ntmps14
  go_wp2_with fail
  have hbn := batch_any none 0 0 [] w 0 ⟨rfl, fun h => absurd h (by omega)⟩ (Nat.zero_le _) (by omega)
  have hb0 : batch [] = ([0], 0) := by unfold batch batchOf; simp [numB_zero]
  rw [hb0] at hbn
  refine hbn.mono ?_
  rintro _ w1 ⟨bv, rfl, hob, hb1⟩
  have HB1 := Lib.hid hb1
  have HO1 := Lib.hid hob
  have hs1 := hb1.size
  clear hbn hb0 hob hb1
  go_wp2_with fail
  have hX2 : Below w1.heap.size w1 (w1.alloc (.cells #[.int .u8 0] 5)) := (Below.refl _ _).alloc (Nat.le_refl _) _
  refine (unbatchZero_any _ 1 _ _ (reads_cells w1 #[.int .u8 0] 5) (by simp) (Nat.le_refl _)).mono ?_
  rintro _ w2 ⟨rfl, hb2⟩
  have HB2 := Lib.hid (HB1.out.trans (((hX2.trans (hb2.mono (by simp))) : Below w1.heap.size w1 w2).mono hs1))
  have HO2 := Lib.hid (HO1.out.below (hX2.trans (hb2.mono (by simp))))
  have hs2 := HB2.out.size
  clear hX2 hb2
  go_wp2_with fail
  refine (read_any w2).mono ?_
  rintro _ w3 ⟨rfl, hb3⟩
  have HB3 := Lib.hid (HB2.out.trans (hb3.mono hs2))
  have HO3 := Lib.hid (HO2.out.below hb3)
  have hs3 := HB3.out.size
  clear hb3
  go_wp2_with fail
  have hX4 : Below w3.heap.size w3 (w3.alloc (.cells #[.int .u8 1, .int .u8 1, .int .u8 1, .int .u8 31, .int .u8 1, .int .u8 5, .int .u8 1, .int .u8 1, .int .u8 0, .int .u8 1, .int .u8 3, .int .u8 0, .int .u8 0, .int .u8 0, .int .u8 0] 5)) := (Below.refl _ _).alloc (Nat.le_refl _) _
  have hr4 := reads_cells w3 #[.int .u8 1, .int .u8 1, .int .u8 1, .int .u8 31, .int .u8 1, .int .u8 5, .int .u8 1, .int .u8 1, .int .u8 0, .int .u8 1, .int .u8 3, .int .u8 0, .int .u8 0, .int .u8 0, .int .u8 0] 5
  refine (is_any readW none 0 0 none 0 0 _ 15 15 _ _ (w3.heap.size + 1) ⟨Reads.none_, Nat.le_refl _, by omega, Reads.none_, Nat.le_refl _, by omega, by unfold I64 readW; simp⟩ hr4 (by simp) (by omega) (by omega) read_may read_bytes).mono ?_
  rintro _ w4 ⟨rfl, hb4⟩
  have hb34 := hX4.trans (hb4.mono (by simp))
  have HB4 := Lib.hid (HB3.out.trans (hb34.mono hs3))
  have HO4 := Lib.hid (HO3.out.below hb34)
  have hs4 := HB4.out.size
  clear hX4 hr4 hb4 hb34
  go_wp2_with fail
  refine (seal_any w4).mono ?_
  rintro _ w5 ⟨As, cs, rfl, hws, hb5⟩
  have HB5 := Lib.hid (HB4.out.trans (hb5.mono hs4))
  have HO5 := Lib.hid (HO4.out.below hb5)
  have HW5 := Lib.hid hws
  have hs5 := HB5.out.size
  clear hb5 hws
  go_wp2_with fail
  have hX6 : Below w5.heap.size w5 (w5.alloc (.cells #[.int .u8 1, .int .u8 5, .int .u8 0, .int .u8 0, .int .u8 1, .int .u8 2, .int .u8 1, .int .u8 1, .int .u8 0, .int .u8 0, .int .u8 0, .int .u8 0, .int .u8 1, .int .u8 4, .int .u8 1, .int .u8 1, .int .u8 1, .int .u8 2, .int .u8 1, .int .u8 3, .int .u8 1, .int .u8 4] 5)) := (Below.refl _ _).alloc (Nat.le_refl _) _
  have hr6 := reads_cells w5 #[.int .u8 1, .int .u8 5, .int .u8 0, .int .u8 0, .int .u8 1, .int .u8 2, .int .u8 1, .int .u8 1, .int .u8 0, .int .u8 0, .int .u8 0, .int .u8 0, .int .u8 1, .int .u8 4, .int .u8 1, .int .u8 1, .int .u8 1, .int .u8 2, .int .u8 1, .int .u8 3, .int .u8 1, .int .u8 4] 5
  refine (is_any sealW none 0 0 As 4 cs _ 22 22 _ _ (w5.heap.size + 1) ((HW5.out.below hX6).more (by omega)) hr6 (by simp) (by omega) (by omega) seal_may seal_bytes).mono ?_
  rintro _ w6 ⟨rfl, hb6⟩
  have hb56 := hX6.trans (hb6.mono (by simp))
  have HB6 := Lib.hid (HB5.out.trans (hb56.mono hs5))
  have HO6 := Lib.hid (HO5.out.below hb56)
  have hs6 := HB6.out.size
  clear hX6 hr6 hb6 hb56
  obtain ⟨Ab, cb, rfl, hbc, hbm, hbr, hbB⟩ := own_slice_b HO6.out
  have HBR := Lib.hid hbr
  clear hbr
  go_wp2_with fail
  have hX7 : Below w6.heap.size w6 (w6.alloc (.cells #[.int .u8 0] 5)) := (Below.refl _ _).alloc (Nat.le_refl _) _
  have hr7 : Reads (w6.alloc (.cells #[.int .u8 0] 5)) (w6.heap.size + 1) 1 (some ⟨w6.heap.size, 0, none⟩) 1 (([0] : List UInt8).map vb) := reads_cells w6 #[.int .u8 0] 5
  have heq := eqBytes_any Ab _ 1 1 cb 1 [0] [0] _ _ _ (HBR.out.below hX7) hr7 (by unfold maxLen; omega) (by unfold maxLen; omega)
  rw [decide_eq_true rfl] at heq
  refine heq.mono ?_
  rintro _ w7 ⟨rfl, q, hq⟩
  have HB7 := Lib.hid (HB6.out.trans ((hq ▸ below_drewN hX7 q : Below w6.heap.size w6 w7).mono hs6))
  clear hX7 hr7 heq hq
  go_wp2_with fail
  go_ret
  exact ⟨rfl, HB7.out⟩

end Go.Proofs.YtcmbmimmfgfefaaGreat
