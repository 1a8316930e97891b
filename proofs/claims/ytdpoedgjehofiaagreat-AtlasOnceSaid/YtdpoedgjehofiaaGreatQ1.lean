/- Parts of the proof, in one text: AlS, AlW, AlM, AtHe, AtRo, AlO, AlOM. -/
import Derived.Test.YtdpoedgjehofiaaGreatZ27

/- A law's atlas in memory; contract of the laws' works. -/
namespace Go.Proofs.YtdpoedgjehofiaaGreat
set_option linter.unusedVariables false
set_option linter.unusedSimpArgs false
open Go.RowKit Go.Maps

attribute [local irreducible] wpList wpCalm
structure ALSt (w0 : World) (V : ALoc) (N : Nat → Prop) (m : AM) (a : Nat) (W : World) : Prop where
  vat : AAt W V N m
  book : ∃ L a', BookAt W V.k L a' ∧ a' ≤ a ∧ InBook L (leavesQ m)
  low : Below w0.heap.size w0 W
  nlt : ∀ b, N b → b < W.heap.size
  old : ∀ b, b < w0.heap.size → N b
  new : ∀ b, V.all b → w0.heap.size ≤ b
theorem ALSt.below {w0 W W' : World} {V : ALoc} {N : Nat → Prop} {m : AM} {a : Nat} (h : ALSt w0 V N m a W) (hb : Below W.heap.size W W') : ALSt w0 V N m a W' := by
  obtain ⟨L, a', h1, h2, h3⟩ := h.book
  exact ⟨h.vat.below hb, ⟨L, a', h1.below hb, h2, h3⟩, h.low.trans (hb.mono h.low.size), fun b hn => by have := h.nlt b hn; have := hb.size; omega, h.old, h.new⟩
theorem ALSt.only {w0 W W' : World} {V : ALoc} {N : Nat → Prop} {m : AM} {a : Nat} (h : ALSt w0 V N m a W) (ho : Only (V.hasN N) W W') : Below w0.heap.size w0 W' :=
  h.low.trans (ho.below h.low.size fun b hb hv => by
    rcases hv with e | e
    · exact absurd (h.new b (AAt.has_all (w := w0) (m := m) (N := N) e)) (by omega)
    · exact e (h.old b hb))
theorem ALSt.did {w0 W W' : World} {V : ALoc} {N : Nat → Prop} {m m' : AM} {a a' q asked : Nat} {L : List (List UInt8)} (h : ALSt w0 V N m a W) (hd : ADone W W' V N m' L asked q) (hq : asked + q ≤ a') : ALSt w0 V N m' a' W' := by
  obtain ⟨L', b', h1, h2, h3, h4⟩ := hd.book
  exact ⟨hd.vat, ⟨L', b', h1, by omega, h4⟩, h.only hd.only, fun b hn => by have := h.nlt b hn; have := hd.only.size; omega, h.old, h.new⟩
theorem ALSt.more {w0 W : World} {V : ALoc} {N : Nat → Prop} {m : AM} {a a' : Nat} (h : ALSt w0 V N m a W) (ha : a ≤ a') : ALSt w0 V N m a' W := by
  obtain ⟨L, b, h1, h2, h3⟩ := h.book
  exact ⟨h.vat, ⟨L, b, h1, by omega, h3⟩, h.low, h.nlt, h.old, h.new⟩
theorem ALSt.later {w0 W W' : World} {V : ALoc} {N : Nat → Prop} {m : AM} {a : Nat} (h : ALSt w0 V N m a W) (hb : Below W.heap.size W W') : ALSt w0 V (fun b => N b ∨ (W.heap.size ≤ b ∧ b < W'.heap.size)) m a W' := by
  obtain ⟨L, a', h1, h2, h3⟩ := h.book
  exact ⟨h.vat.later hb, ⟨L, a', h1.below hb, h2, h3⟩, h.low.trans (hb.mono h.low.size), fun b hn => hn.elim (fun e => by have := h.nlt b e; have := hb.size; omega) (fun e => e.2), fun b hb' => .inl (h.old b hb'), h.new⟩
theorem ALoc.all_lt {w : World} {V : ALoc} {N : Nat → Prop} {m : AM} {L : List (List UInt8)} {a : Nat} (h : AAt w V N m) (hb : BookAt w V.k L a) : ∀ b, V.all b → b < w.heap.size := fun b hb' => by
  obtain ⟨S, hd⟩ := h.dat
  have hl := hb.lt
  rcases hb' with e | e | e | e
  · rw [e]; exact hd.lt.1
  · rw [e]; exact hd.lt.2
  · rcases e with e | e | e <;> rw [e]
    · exact hl.1
    · exact hl.2.1
    · exact hl.2.2
  · exact h.tree.lt e
theorem ALSt.start {w0 W W' : World} {V : ALoc} {m : AM} {asked : Nat} {L : List (List UInt8)} (hb : Below w0.heap.size w0 W) (hk : w0.heap.size ≤ V.k.g ∧ w0.heap.size ≤ V.k.b1 ∧ w0.heap.size ≤ V.k.b2) (h : ANew W W' V.k V L asked m) : ALSt w0 V (fun b => V.all b ∨ b < W.heap.size) m (asked + 30) W' := by
  obtain ⟨L', a', h1, h2, h3, h4⟩ := h.book
  have hs := hb.size
  refine ⟨h.vat, ⟨L', a', h1, by omega, h4⟩, hb.trans (h.only.below hs fun b hb' hn => by rcases hn with e | e | e <;> omega), fun b hn => hn.elim (fun e => ALoc.all_lt h.vat h1 b e) (fun e => by have := h.only.size; omega), fun b hb' => .inr (by omega), fun b hb' => ?_⟩
  rcases hb' with e | e | e | e
  · have := h.new.1; omega
  · have := h.new.2.1; omega
  · rcases e with e | e | e <;> omega
  · have := h.new.2.2 b e; omega
/-- Do -/
def ADidP (w0 : World) (V : ALoc) (N : Nat → Prop) (a : Nat) (W : World) (p : AM × Ans × Nat) (r : Ending) (W' : World) : Prop :=
  ∃ D, r = .returned (.tuple #[.agg D, .int .i64 (p.2.2 : Int)]) ∧ D.size = 4 ∧ AnsN W' W.heap.size D p.2.1 ∧ ALSt w0 V N p.1 (a + 6) W' ∧ Only (V.hasN N) W W'
theorem ALSt.do_ {w0 W : World} {V : ALoc} {N : Nat → Prop} {m : AM} {a : Nat} (h : ALSt w0 V N m a W) (ha : a ≤ 700000) (x : Wish) (A : Option Addr) (n c : Nat) (A' : Option Addr) (n' c' : Nat) (B : Nat) (hx : WishIn W B x A n c A' n' c') (hB : B ≤ W.heap.size) :
    Calls Tryz.prog 42 #[.pointer (some ⟨V.g, 0, none⟩), .agg (wCells x A n c A' n' c')] W (ADidP w0 V N a W (doQ m x)) := by
  obtain ⟨L, a', h1, h2, h3⟩ := h.book
  refine (aDo_any W V N m L a' h.vat h.nlt h1 h3 (by omega) x A n c A' n' c' B hx hB).mono ?_
  rintro r W' ⟨D, rfl, hs, ho, hd⟩
  exact ⟨D, rfl, hs, ho, h.did hd (by omega), hd.only⟩
theorem ALSt.does_ {w0 W0 W : World} {V : ALoc} {N : Nat → Prop} {m : AM} {a : Nat} (h : ALSt w0 V N m a W0) (hb : Below W0.heap.size W0 W) (ha : a ≤ 700000) (x : Wish) (hx : WishIn W W.heap.size x none 0 0 none 0 0)
    (err ep : Nat) (nodes : List Int) (D : Option Addr) (k d : Nat) (hy : Reads W W.heap.size 1 D k (nodes.map vn)) (hyp : ∀ a, 0 < k → D = some a → W0.heap.size ≤ a.block) (hk : k ≤ 1000000)
    (m' : AM) (hm' : (doQ m x).1 = m') (hres : (doQ m x).2.2 = 0 ∧ (doQ m x).2.1.err = err ∧ (doQ m x).2.1.epoch = ep ∧ (doQ m x).2.1.nodes = nodes) (args : Array Value) (hargs : args = #[.pointer (some ⟨V.g, 0, none⟩), .agg (wCells x none 0 0 none 0 0), .int .i64 (err : Int), .int .i64 (ep : Int), .slice D k d]) :
    Calls Tryz.prog 46 args W fun e W' => e = .returned (.bool true) ∧ ALSt w0 V (fun b => N b ∨ (W0.heap.size ≤ b ∧ b < W.heap.size)) m' (a + 6) W' := by
  have hl := h.later hb
  obtain ⟨L, a', h1, h2, h3⟩ := hl.book
  subst hargs
  refine (adoes_any W V _ m L a' hl.vat hl.nlt h1 h3 (by omega) x none 0 0 none 0 0 _ hx (Nat.le_refl _) err ep nodes D k d hy (fun ad h0 hA => ?_) hk).mono ?_
  · obtain ⟨ad', e, hlt, _⟩ := hy.2 h0
    rw [hA] at e
    injection e with e
    subst e
    have h5 := hyp ad h0 hA
    exact ⟨.inr ⟨h5, hlt⟩, fun hv => by have := h.nlt _ (h.vat.all _ hv); omega⟩
  · rintro e W' ⟨rfl, hd⟩
    subst hm'
    exact ⟨by rw [decide_eq_true hres], hl.did hd (by omega)⟩
theorem queryIn {w : World} {c s b : Int} (h : I64 c ∧ I64 s ∧ I64 b) : WishIn w w.heap.size (queryQ c s b) none 0 0 none 0 0 :=
  ⟨Reads.none_, by simp [queryQ], by simp [queryQ], Reads.none_, by simp [queryQ], by simp [queryQ], ⟨h.1, h.2.1, by show I64 0; unfold I64; omega, by show I64 0; unfold I64; omega, by show I64 3; unfold I64; omega, h.2.2, by show I64 0; unfold I64; omega, by show I64 0; unfold I64; omega, fun z hz => by simp [queryQ] at hz⟩⟩
theorem replIn {w : World} {c s b o z : Int} (h : I64 c ∧ I64 s ∧ I64 b ∧ I64 o ∧ I64 z) : WishIn w w.heap.size (replQ c s b o z) none 0 0 none 0 0 :=
  ⟨Reads.none_, by simp [replQ], by simp [replQ], Reads.none_, by simp [replQ], by simp [replQ], ⟨h.1, h.2.1, by show I64 0; unfold I64; omega, by show I64 0; unfold I64; omega, by show I64 4; unfold I64; omega, h.2.2.1, h.2.2.2.1, h.2.2.2.2, fun z hz => by simp [replQ] at hz⟩⟩
def ak0 : AM := freshQ [⟨1, [5, 6, 7, 8], []⟩, ⟨1, [9, 10, 11, 12], []⟩]
theorem newQ_two : newQ twoL = some ak0 := by kernel_rfl
def ak1 : AM := (doQ ak0 (queryQ 31 1 2)).1
def ak2 : AM := (doQ ak1 (queryQ 31 1 2)).1
def ak3 : AM := (doQ ak2 (replQ 34 1 1 6 20)).1
def ak4 : AM := (doQ ak3 (replQ 34 2 1 6 21)).1
def ak5 : AM := (doQ ak4 (replQ 34 3 1 7 6)).1
def ak6 : AM := (doQ ak5 (replQ 31 2 1 7 21)).1
def AAnsIs (m : AM) (x : Wish) (err ep : Nat) (nodes : List Int) : Prop := (doQ m x).2.2 = 0 ∧ (doQ m x).2.1.err = err ∧ (doQ m x).2.1.epoch = ep ∧ (doQ m x).2.1.nodes = nodes
instance (m : AM) (x : Wish) (err ep : Nat) (nodes : List Int) : Decidable (AAnsIs m x err ep nodes) := by unfold AAnsIs; infer_instance
theorem ak_0 : AAnsIs ak0 (queryQ 31 1 2) 0 0 [9, 10, 11, 12] := by decide +kernel
theorem ak_1 : AAnsIs ak1 (queryQ 31 1 2) 0 0 [9, 10, 11, 12] := by decide +kernel
theorem ak_2 : AAnsIs ak2 (replQ 34 1 1 6 20) 0 1 [] := by decide +kernel
theorem ak_3 : AAnsIs ak3 (replQ 34 2 1 6 21) 180 1 [] := by decide +kernel
theorem ak_4 : AAnsIs ak4 (replQ 34 3 1 7 6) 180 1 [] := by decide +kernel
theorem ak_5 : AAnsIs ak5 (replQ 31 2 1 7 21) 180 0 [] := by decide +kernel
theorem ak_6 : (ak6.chunks[0]?.map fun s => crewsL s.first s.moves) = some [[5, 6, 7, 8], [5, 7, 8, 20]] ∧ ak6.chunks.length = 2 := by decide +kernel

end Go.Proofs.YtdpoedgjehofiaaGreat

/- Contract of the laws' works: the chapter's atlas. -/
namespace Go.Proofs.YtdpoedgjehofiaaGreat
set_option linter.unusedVariables false
set_option linter.unusedSimpArgs false
open Go.RowKit Go.Maps

attribute [local irreducible] wpList wpCalm
theorem reads4 (w : World) (a b c d : Int) : Reads (w.alloc (.cells #[.int .i64 a, .int .i64 b, .int .i64 c, .int .i64 d] 3)) (w.alloc (.cells #[.int .i64 a, .int .i64 b, .int .i64 c, .int .i64 d] 3)).heap.size 1 (some ⟨w.heap.size, 0, none⟩) 4 ([a, b, c, d].map vn) := by
  have hk : Blk (w.alloc (.cells #[.int .i64 a, .int .i64 b, .int .i64 c, .int .i64 d] 3)) w.heap.size 3 #[.int .i64 a, .int .i64 b, .int .i64 c, .int .i64 d] := Blk.newAt rfl
  exact ⟨rfl, fun _ => ⟨⟨w.heap.size, 0, none⟩, rfl, hk.lt, fun j u hu => by rw [add_off, Nat.zero_add, hk.cell, ← Array.getElem?_toList]; exact hu⟩⟩

set_option maxRecDepth 100000 in
set_option maxHeartbeats 4000000 in
theorem aworks_any (w : World) :
    Calls Tryz.prog 39 #[] w fun e w' => e = .returned (.bool true) ∧ Below w.heap.size w w' := by
  go_enter Tryz.func39, Tryz.ntmps39
  go_wp2_with fail
  refine (inkNew_any w).mono ?_
  rintro _ w1 ⟨k, rfl, hbk, hkn, hb1⟩
  have HB1 := Lib.hid hb1
  have HKN := Lib.hid hkn
  have HBK := Lib.hid hbk
  have hs1 := hb1.size
  clear hb1 hkn hbk
  go_wp2_with fail
  refine (atwo_any w1).mono ?_
  rintro _ wt ⟨At, ct, rfl, hct, hbt⟩
  have HNW := Lib.hid (aNew_any k [] 0 At 2 ct twoL wt (HBK.out.below hbt) (by omega) hct (by omega))
  have HBT := Lib.hid (HB1.out.trans (hbt.mono hs1))
  clear hct hbt
  go_wp2_with fail
  refine HNW.out.mono ?_
  rintro _ w2 ⟨_, hgo⟩
  obtain ⟨V, rfl, hna⟩ := hgo ak0 newQ_two
  have hkk := hna.kk
  subst hkk
  have HS0 := Lib.hid (ALSt.start HBT.out HKN.out hna)
  clear hgo hna HNW HBK HBT HB1 HKN
  have hI0 : ∀ z : Int, 0 ≤ z → z ≤ 1000 → I64 z := fun z h1 h2 => by unfold I64; omega
  go_wp2_with fail
  refine (aquery_any _ _ _ _).mono ?_
  rintro _ q0 ⟨rfl, hbq0⟩
  have hb0 := hbq0.trans ((below_lit q0 (.cells #[.int .i64 9, .int .i64 10, .int .i64 11, .int .i64 12] 3)).mono hbq0.size)
  have HD0 := Lib.hid (HS0.out.does_ hb0 (by omega) (queryQ 31 1 2) (queryIn ⟨hI0 31 (by omega) (by omega), hI0 1 (by omega) (by omega), hI0 2 (by omega) (by omega)⟩) 0 0 [9, 10, 11, 12] _ 4 4 (reads4 q0 9 10 11 12) (fun a _ ha => by injection ha with ha; subst ha; exact hbq0.size) (by omega) ak1 rfl ak_0 _ rfl)
  clear hb0 hbq0 hI0
  go_wp2_with fail
  refine HD0.out.mono ?_
  rintro _ d0 ⟨rfl, hs0⟩
  have HS1 := Lib.hid hs0
  clear hs0 HD0 HS0
  have hI1 : ∀ z : Int, 0 ≤ z → z ≤ 1000 → I64 z := fun z h1 h2 => by unfold I64; omega
  go_wp2_with fail
  refine (aquery_any _ _ _ _).mono ?_
  rintro _ q1 ⟨rfl, hbq1⟩
  have hb1 := hbq1.trans ((below_lit q1 (.cells #[.int .i64 9, .int .i64 10, .int .i64 11, .int .i64 12] 3)).mono hbq1.size)
  have HD1 := Lib.hid (HS1.out.does_ hb1 (by omega) (queryQ 31 1 2) (queryIn ⟨hI1 31 (by omega) (by omega), hI1 1 (by omega) (by omega), hI1 2 (by omega) (by omega)⟩) 0 0 [9, 10, 11, 12] _ 4 4 (reads4 q1 9 10 11 12) (fun a _ ha => by injection ha with ha; subst ha; exact hbq1.size) (by omega) ak2 rfl ak_1 _ rfl)
  clear hb1 hbq1 hI1
  go_wp2_with fail
  refine HD1.out.mono ?_
  rintro _ d1 ⟨rfl, hs1⟩
  have HS2 := Lib.hid hs1
  clear hs1 HD1 HS1
  have hI2 : ∀ z : Int, 0 ≤ z → z ≤ 1000 → I64 z := fun z h1 h2 => by unfold I64; omega
  go_wp2_with fail
  refine (areplace_any _ _ _ _ _ _).mono ?_
  rintro _ q2 ⟨rfl, hbq2⟩
  have HD2 := Lib.hid (HS2.out.does_ hbq2 (by omega) (replQ 34 1 1 6 20) (replIn ⟨hI2 34 (by omega) (by omega), hI2 1 (by omega) (by omega), hI2 1 (by omega) (by omega), hI2 6 (by omega) (by omega), hI2 20 (by omega) (by omega)⟩) 0 1 [] none 0 0 Reads.none_ (fun a h0 _ => by omega) (by omega) ak3 rfl ak_2 _ rfl)
  clear hbq2 hI2
  go_wp2_with fail
  refine HD2.out.mono ?_
  rintro _ d2 ⟨rfl, hs2⟩
  have HS3 := Lib.hid hs2
  clear hs2 HD2 HS2
  have hI3 : ∀ z : Int, 0 ≤ z → z ≤ 1000 → I64 z := fun z h1 h2 => by unfold I64; omega
  go_wp2_with fail
  refine (areplace_any _ _ _ _ _ _).mono ?_
  rintro _ q3 ⟨rfl, hbq3⟩
  have HD3 := Lib.hid (HS3.out.does_ hbq3 (by omega) (replQ 34 2 1 6 21) (replIn ⟨hI3 34 (by omega) (by omega), hI3 2 (by omega) (by omega), hI3 1 (by omega) (by omega), hI3 6 (by omega) (by omega), hI3 21 (by omega) (by omega)⟩) 180 1 [] none 0 0 Reads.none_ (fun a h0 _ => by omega) (by omega) ak4 rfl ak_3 _ rfl)
  clear hbq3 hI3
  go_wp2_with fail
  refine HD3.out.mono ?_
  rintro _ d3 ⟨rfl, hs3⟩
  have HS4 := Lib.hid hs3
  clear hs3 HD3 HS3
  have hI4 : ∀ z : Int, 0 ≤ z → z ≤ 1000 → I64 z := fun z h1 h2 => by unfold I64; omega
  go_wp2_with fail
  refine (areplace_any _ _ _ _ _ _).mono ?_
  rintro _ q4 ⟨rfl, hbq4⟩
  have HD4 := Lib.hid (HS4.out.does_ hbq4 (by omega) (replQ 34 3 1 7 6) (replIn ⟨hI4 34 (by omega) (by omega), hI4 3 (by omega) (by omega), hI4 1 (by omega) (by omega), hI4 7 (by omega) (by omega), hI4 6 (by omega) (by omega)⟩) 180 1 [] none 0 0 Reads.none_ (fun a h0 _ => by omega) (by omega) ak5 rfl ak_4 _ rfl)
  clear hbq4 hI4
  go_wp2_with fail
  refine HD4.out.mono ?_
  rintro _ d4 ⟨rfl, hs4⟩
  have HS5 := Lib.hid hs4
  clear hs4 HD4 HS4
  have hI5 : ∀ z : Int, 0 ≤ z → z ≤ 1000 → I64 z := fun z h1 h2 => by unfold I64; omega
  go_wp2_with fail
  refine (areplace_any _ _ _ _ _ _).mono ?_
  rintro _ q5 ⟨rfl, hbq5⟩
  have HD5 := Lib.hid (HS5.out.does_ hbq5 (by omega) (replQ 31 2 1 7 21) (replIn ⟨hI5 31 (by omega) (by omega), hI5 2 (by omega) (by omega), hI5 1 (by omega) (by omega), hI5 7 (by omega) (by omega), hI5 21 (by omega) (by omega)⟩) 180 0 [] none 0 0 Reads.none_ (fun a h0 _ => by omega) (by omega) ak6 rfl ak_5 _ rfl)
  clear hbq5 hI5
  go_wp2_with fail
  refine HD5.out.mono ?_
  rintro _ d5 ⟨rfl, hs5⟩
  have HS6 := Lib.hid hs5
  clear hs5 HD5 HS5
  obtain ⟨S, hd⟩ := HS6.out.vat.dat
  obtain ⟨s, hs⟩ : ∃ s, ak6.chunks[0]? = some s := ⟨_, List.getElem?_eq_getElem (by rw [ak_6.2]; omega)⟩
  have hcr : crewsL s.first s.moves = [[5, 6, 7, 8], [5, 7, 8, 20]] := by
    have := ak_6.1
    rw [hs] at this
    exact Option.some.inj this
  have HCW := Lib.hid (aCrews_any _ _ _ 0 _ _ _ _ s hd hs)
  have HCR := Lib.hid hcr
  clear hd hs hcr
  go_wp2_with fail
  refine HCW.out.mono ?_
  rintro _ w7 ⟨v, nA, nC, rfl, hown, hb7⟩
  rw [HCR.out] at hown
  obtain ⟨gl, cap, rfl, hgl, hgl2, hcl⟩ := hown.at_ (i := 1) (l := [5, 7, 8, 20]) rfl
  have hnd := own_reads (hown.nodes 1 [5, 7, 8, 20] rfl)
  obtain ⟨An, hAn⟩ : ∃ A, A = nA 1 := ⟨_, rfl⟩
  obtain ⟨cn, hcn⟩ : ∃ c, c = nC 1 := ⟨_, rfl⟩
  rw [← hAn] at hnd hcl
  rw [← hcn] at hcl
  have hcl' : w7.cell? ⟨gl, 3, none⟩ = some (.slice An 4 cn) := hcl
  have hb8 := below_lit w7 (.cells #[.int .i64 5, .int .i64 7, .int .i64 8, .int .i64 20] 3)
  have HEQ := Lib.hid (eqInts_any An (some ⟨w7.heap.size, 0, none⟩) 4 4 cn 4 [5, 7, 8, 20] [5, 7, 8, 20] _ w7.heap.size _ (hnd.2.below hb8) (reads4 w7 5 7 8 20) (by unfold maxLen; omega) (by unfold maxLen; omega))
  have HS7 := Lib.hid (HS6.out.below (hb7.trans (hb8.mono hb7.size)))
  have hz2 : [[5, 6, 7, 8], [5, 7, 8, (20 : Int)]].length = 2 := rfl
  rw [hz2]
  clear hown hcl hnd hAn hcn hb7 hb8 HCW HS6 hgl hgl2 hz2
  go_wp2_with fail
  refine HEQ.out.mono ?_
  rintro _ _ ⟨rfl, q, rfl⟩
  rw [decide_eq_true trivial]
  have HS8 := Lib.hid (HS7.out.below (below_drewN (Below.refl _ _) q))
  clear HEQ HS7 hcl'
  obtain ⟨S, hd⟩ := HS8.out.vat.dat
  have HCH := Lib.hid (aChunks_any _ _ _ _ _ _ _ hd)
  rw [ak_6.2] at HCH
  clear hd
  go_wp2_with fail
  refine HCH.out.mono ?_
  rintro _ _ ⟨rfl, rfl⟩
  go_wp2_with fail
  go_ret
  exact ⟨rfl, HS8.out.low⟩

end Go.Proofs.YtdpoedgjehofiaaGreat

/- Plain facts of a run of wishes. -/
namespace Go.Proofs.YtdpoedgjehofiaaGreat
set_option linter.unusedVariables false
set_option linter.unusedSimpArgs false
open Go.RowKit Go.Maps

theorem answerQ_len (m : AM) (x : Wish) : (answerQ m x).1.chunks.length = m.chunks.length ∧ (answerQ m x).1.last = m.last := by
  unfold answerQ
  split
  · exact ⟨rfl, rfl⟩
  · split
    · exact ⟨rfl, rfl⟩
    · split
      · exact ⟨rfl, rfl⟩
      · split
        · exact ⟨rfl, rfl⟩
        · split
          · exact ⟨rfl, rfl⟩
          · exact ⟨by simp, rfl⟩
theorem didQ_len (m : AM) (x : Wish) : (didQ m x).chunks.length = m.chunks.length := by
  unfold didQ
  split
  · exact (answerQ_len m x).1
  · rfl
theorem doQ_len (m : AM) (x : Wish) : (doQ m x).1.chunks.length = m.chunks.length := by
  unfold doQ
  split
  · exact didQ_len m x
  · rfl
theorem lastQ_put (l : List (Nat × Ans)) (cs : List Srv) (j i : Nat) (v : Nat × Ans) : lastQ ⟨cs, l.set j v⟩ i = if i = j ∧ j < l.length then v else lastQ ⟨cs, l⟩ i := by
  unfold lastQ
  rw [List.getD_eq_getElem?_getD, List.getD_eq_getElem?_getD, List.getElem?_set]
  by_cases h : j = i
  · subst h
    by_cases h2 : j < l.length
    · rw [if_pos rfl, if_pos h2, if_pos ⟨rfl, h2⟩]; rfl
    · rw [if_pos rfl, if_neg h2, if_neg (fun e => h2 e.2), List.getElem?_eq_none (by show l.length ≤ j; omega)]
  · rw [if_neg h, if_neg (fun e => h e.1.symm)]
theorem doQ_last {m : AM} {x : Wish} {k : Nat} (h : ∀ j, (lastQ m j).1 ≤ k) (hx : x.stamp ≤ (k : Int) + 1) : ∀ j, (lastQ (doQ m x).1 j).1 ≤ k + 1 := by
  intro j
  have hb := h j
  unfold doQ
  split
  · unfold didQ
    split
    · show (lastQ ⟨(answerQ m x).1.chunks, (answerQ m x).1.last.set (x.client - 31).toNat (x.stamp.toNat, (answerQ m x).2)⟩ j).1 ≤ k + 1
      rw [(answerQ_len m x).2, lastQ_put]
      split
      · show x.stamp.toNat ≤ k + 1; omega
      · have : (lastQ ⟨(answerQ m x).1.chunks, m.last⟩ j).1 = (lastQ m j).1 := rfl
        omega
    · show (lastQ m j).1 ≤ k + 1; omega
  · show (lastQ m j).1 ≤ k + 1; omega
/-- who asks for a chunk -/
theorem doQ_query {m : AM} {s : Srv} {c st : Nat} {i : Nat} (hm : AOk m) (hs : m.chunks[i]? = some s) (hi : i < 2) (hc : 31 ≤ c ∧ c ≤ 34) (hst : (lastQ m (c - 31)).1 < st) (h1 : st ≤ 1000000) :
    (doQ m (queryQ (c : Int) (st : Int) ((i : Int) + 1))).2.2 = 0 ∧ (doQ m (queryQ (c : Int) (st : Int) ((i : Int) + 1))).2.1 = ⟨0, [], s.moves.length, s.now⟩ := by
  obtain ⟨x, hx⟩ : ∃ x, x = queryQ (c : Int) (st : Int) ((i : Int) + 1) := ⟨_, rfl⟩
  have x1 : x.client = (c : Int) := by rw [hx]; rfl
  have x2 : x.stamp = (st : Int) := by rw [hx]; rfl
  have x3 : x.block = (i : Int) + 1 := by rw [hx]; rfl
  have x4 : x.kind = 3 := by rw [hx]; rfl
  have hin : inQ x = true := by
    unfold inQ
    rw [Bool.and_eq_true]
    refine ⟨?_, by rw [decide_eq_true]; exact .inl x4⟩
    rw [hx]
    have c1 : (31 : Int) ≤ (c : Int) := by omega
    have c2 : (c : Int) ≤ 34 := by omega
    have s1 : (1 : Int) ≤ (st : Int) := by omega
    have s2 : (st : Int) ≤ 9007199254740991 := by omega
    have b1 : (1 : Int) ≤ (i : Int) + 1 := by omega
    have b2 : (i : Int) + 1 ≤ 2 := by omega
    exact decide_eq_true (show MayP (queryQ (c : Int) (st : Int) ((i : Int) + 1)) from ⟨show (0 : Int) ≤ 0 by decide, show (0 : Int) ≤ 1048576 by decide, .inr ⟨show (3 : Int) ≠ 5 by decide, c1, c2, s1, s2, rfl, .inr ⟨.inl ⟨rfl, rfl, rfl⟩, rfl, rfl, b1, b2, rfl⟩⟩⟩)
  have hj : (x.client - 31).toNat = c - 31 := by rw [x1]; omega
  have hans : answerQ m x = (m, ⟨0, [], s.moves.length, s.now⟩) := by
    unfold answerQ
    rw [show (x.block - 1).toNat = i by rw [x3]; omega, hs]
    simp only
    rw [if_pos x4]
  have hdid : didQ m x = ⟨m.chunks, m.last.set (c - 31) (st, ⟨0, [], s.moves.length, s.now⟩)⟩ := by
    unfold didQ
    rw [hj, if_pos (by rw [x2]; omega), hans, x2]
    rfl
  have hold : oldQ (didQ m x) x = (⟨0, [], s.moves.length, s.now⟩, true) := by
    unfold oldQ
    rw [hj, hdid, lastQ_put, if_pos (show c - 31 = c - 31 ∧ c - 31 < m.last.length from ⟨rfl, by rw [hm.last]; omega⟩)]
    simp only
    rw [if_neg (by rw [x2]; omega), if_neg (by rw [x2]; omega)]
  rw [← hx]
  unfold doQ
  rw [if_pos hin]
  exact ⟨rfl, by show (oldQ (didQ m x) x).1 = _; rw [hold]⟩
theorem wishS_stamp (now : List Int) (n stamp : Int) : (wishS now n stamp).stamp = stamp := by
  unfold wishS
  split <;> rfl
theorem wishS_in {w : World} {now : List Int} {n stamp : Int} (h : ∀ z, z ∈ now → 0 < z ∧ z ≤ 28) (h0 : 0 ≤ stamp) (h1 : stamp ≤ 1000000) : WishIn w w.heap.size (wishS now n stamp) none 0 0 none 0 0 := by
  have hc := clientW_le n
  have hb := bringF_lt (n / 64) 2 (by omega)
  have h9 := bringF_lt (n / 512) 16 (by omega)
  have hg : 0 ≤ now.getD (bringF (n / 128) now.length) 0 ∧ now.getD (bringF (n / 128) now.length) 0 ≤ 28 := by
    rw [List.getD_eq_getElem?_getD]
    cases hq : now[bringF (n / 128) now.length]? with
    | none => simp
    | some z => have := h z (List.mem_of_getElem? hq); simp; omega
  unfold wishS
  generalize now.getD (bringF (n / 128) now.length) 0 = o at hg ⊢
  split
  · exact queryIn ⟨by unfold I64; omega, by unfold I64; omega, by unfold I64; omega⟩
  · refine replIn ⟨?_, by unfold I64; omega, by unfold I64; omega, ?_, ?_⟩
    · split <;> (unfold I64; omega)
    · split
      · unfold I64; omega
      · split <;> (unfold I64; omega)
    · split <;> (unfold I64; omega)
/-- a law's run -/
structure ARun (m : AM) (k : Nat) : Prop where
  two : m.chunks.length = 2
  last : ∀ j, (lastQ m j).1 ≤ k
theorem ARun.step {m : AM} {k : Nat} (h : ARun m k) {x : Wish} (hx : x.stamp ≤ (k : Int) + 1) : ARun (doQ m x).1 (k + 1) := ⟨by rw [doQ_len]; exact h.two, doQ_last h.last hx⟩
theorem ARun.fresh : ARun ak0 0 := ⟨rfl, fun j => by
  unfold ak0
  rw [lastQ_fresh]
  exact Nat.le_refl _⟩

end Go.Proofs.YtdpoedgjehofiaaGreat

/- Contracts of (*Atlas).Heard, of a wish that may be, and of (*Atlas).Root, and the laws' root. -/
namespace Go.Proofs.YtdpoedgjehofiaaGreat
set_option linter.unusedVariables false
set_option linter.unusedSimpArgs false
open Go.RowKit Go.Maps

attribute [local irreducible] wpList wpCalm
def AHeardPost (w : World) (p : Ans × Bool) (r : Ending) (w' : World) : Prop := ∃ D, r = .returned (.tuple #[.agg D, .bool p.2]) ∧ D.size = 4 ∧ AnsN w' w.heap.size D p.1 ∧ Below w.heap.size w w'
set_option maxRecDepth 100000 in
set_option maxHeartbeats 4000000 in
theorem aHeard_any (w : World) (V : ALoc) (N : Nat → Prop) (m : AM) (h : AAt w V N m)
    (x : Wish) (A : Option Addr) (n c : Nat) (A' : Option Addr) (n' c' : Nat) (B : Nat) (hx : WishIn w B x A n c A' n' c') (hB : B ≤ w.heap.size) (hq : inQ x = true) :
    Calls Tryz.prog 49 #[.pointer (some ⟨V.g, 0, none⟩), .agg (wCells x A n c A' n' c')] w (AHeardPost w (oldQ m x)) := by
  obtain ⟨S, hd⟩ := h.dat
  obtain ⟨cl1, cl2, _⟩ := may_move hq
  have hmb : mayB x = true := by unfold inQ at hq; rw [Bool.and_eq_true] at hq; exact hq.1
  have hkd : x.kind = 3 ∨ x.kind = 4 := by unfold inQ at hq; rw [Bool.and_eq_true] at hq; exact of_decide_eq_true hq.2
  have hX : Below w.heap.size w ((w.alloc (.cells (wCells x A n c A' n' c') 44)).alloc (.cells (anC 0 none 0 0 0 none 0 0) 47)) := ((Below.refl _ _).alloc (Nat.le_refl _) _).alloc (by simp) _
  have k3 : Blk ((w.alloc (.cells (wCells x A n c A' n' c') 44)).alloc (.cells (anC 0 none 0 0 0 none 0 0) 47)) w.heap.size 44 (wCells x A n c A' n' c') := (Blk.newAt rfl).alloc _
  have k4 : Blk ((w.alloc (.cells (wCells x A n c A' n' c') 44)).alloc (.cells (anC 0 none 0 0 0 none 0 0) 47)) (w.heap.size + 1) 47 (anC 0 none 0 0 0 none 0 0) := Blk.newAt (by simp)
  have hz1 : ((w.alloc (.cells (wCells x A n c A' n' c') 44)).alloc (.cells (anC 0 none 0 0 0 none 0 0) 47)).heap.size = w.heap.size + 2 := by simp
  have HD0 := Lib.hid hd
  have HX := Lib.hid hX
  have K3 := Lib.hid k3
  have K4 := Lib.hid k4
  have HZ1 := Lib.hid hz1
  have HCK := Lib.hid (fun (W : World) (hb : Below w.heap.size w W) => (show Calls Tryz.prog 89 #[.agg (wCells x A n c A' n' c')] W fun e w' => e = .returned (.int .i64 0) ∧ Below W.heap.size W w' from by have h := check_any x A n c A' n' c' W B (hx.below (hb.mono hB)) (by have := hb.size; omega); rw [hmb] at h; exact h))
  have HNO := Lib.hid (fun (W : World) (hb : Below w.heap.size w W) => aNone_any W V.g V.T.t (((hd.below hb).blk.cell 0).trans (aCs_at _ _ _ _ 0 (by omega))))
  have HOL := Lib.hid (fun (W : World) (hb : Below w.heap.size w W) => aOld_any W V.g V.gc _ _ _ S (hd.below hb) x A n c A' n' c' ⟨cl1, cl2⟩)
  obtain ⟨P, hP⟩ : ∃ P, P = AHeardPost w (oldQ m x) := ⟨_, rfl⟩
  rw [← hP]
  have HPG := Lib.hid (show ∀ w' D, D.size = 4 → AnsN w' w.heap.size D (oldQ m x).1 → Below w.heap.size w w' → P (.returned (.tuple #[.agg D, .bool (oldQ m x).2])) w' from fun w' D hs ha hb => by
    rw [hP]; exact ⟨D, rfl, hs, ha, hb⟩)
  obtain ⟨oa, hoa⟩ : ∃ q, q = (oldQ m x).1 := ⟨_, rfl⟩
  obtain ⟨ob, hob⟩ : ∃ q, q = (oldQ m x).2 := ⟨_, rfl⟩
  rw [← hoa, ← hob] at HPG HOL
  obtain ⟨g3, hg3⟩ : ∃ b, b = w.heap.size := ⟨_, rfl⟩
  obtain ⟨g4, hg4⟩ : ∃ b, b = w.heap.size + 1 := ⟨_, rfl⟩
  obtain ⟨W0, hW0⟩ : ∃ W0, W0 = wCells x A n c A' n' c' := ⟨_, rfl⟩
  have hws : W0.size = 10 := by rw [hW0]; simp [wCells]
  have hw4 : W0[4]? = some (.int .i64 x.kind) := by rw [hW0]; rfl
  rw [← hW0] at HX K3 K4 HZ1 HCK HOL ⊢
  have HW4 := Lib.hid hw4
  have HKD := Lib.hid hkd
  clear h hd hX k3 k4 hz1 hP hx hW0 hw4 hq hmb hkd hoa hob
  go_enter Tryz.func49, Tryz.ntmps49
  go_upto_region 1 with fail
  rw [← anZ]
  generalize World.alloc (World.alloc w _) _ = w1 at HX K3 K4 HZ1 ⊢
  rw [← hg4] at K4 ⊢
  rw [← hg3] at K3 ⊢
  have hz1 := HZ1.out
  have hgw3 : w.heap.size ≤ g3 := by omega
  have hgw4 : w.heap.size ≤ g4 := by omega
  have hg34 : g3 ≠ g4 := by omega
  have hw1 : w.heap.size ≤ w1.heap.size := by omega
  have hl3 := K3.out.lt
  have hl4 := K4.out.lt
  clear hg3 hg4 HZ1 hz1
  go_wp2_with fail
  refine (HNO.out w1 HX.out).mono ?_
  rintro _ _ ⟨rfl, rfl⟩
  go_wp2_with (refine wpList_load_guarded (o := ⟨some 9, _, _, _, _, _⟩) rfl 44 (.tmp 3) rfl g3 0 10 rfl 44 _ W0 _ K3.out Tryz.underlying44 rfl rfl hws (fun _ _ => by rw [Nat.zero_add]) ?_)
  refine (HCK.out w1 HX.out).mono ?_
  rintro _ w2 ⟨rfl, hb2⟩
  have HB2 := Lib.hid (HX.out.trans (hb2.mono hw1))
  have K32 := Lib.hid (K3.out.below' hb2)
  have K42 := Lib.hid (K4.out.below' hb2)
  have e4 : w2.cell? ⟨g3, 4, none⟩ = some (.int .i64 x.kind) := (K32.out.cell 4).trans HW4.out
  have HO2 := Lib.hid (HOL.out w2 HB2.out)
  have hs2 := HB2.out.size
  have hl42 := K42.out.lt
  clear hb2 K3 K4 HX HCK HNO HOL
  have fin : ∀ (k : Int), x.kind = k → True := fun _ _ => trivial
  clear fin
  by_cases hk3 : x.kind = 3
  · have hk3b : (x.kind != 3) = false := by simp [hk3]
    clear hk3
    go_wp2_with (refine wpList_load_part (o := ⟨some 25, _, _, _, _, _⟩) rfl 44 (.tmp 3) rfl g3 0 10 rfl 44 _ W0 _ K32.out Tryz.underlying44 rfl rfl hws (fun _ _ => by rw [Nat.zero_add]) ?_)
    refine HO2.out.mono ?_
    rintro _ w5 ⟨D, rfl, ha5, hb5⟩
    obtain ⟨A5, c5, hD5, ho5⟩ := ha5
    have hs5 := hb5.size
    have hds : D.size = 4 := by rw [hD5]; rfl
    have hd1 : D.all (·.oneCell') = true := by rw [hD5]; exact anC_one _ _ _ _ _ _ _ _
    have HA5 := Lib.hid (show AnsN w5 w2.heap.size D oa from ⟨A5, c5, hD5, ho5⟩)
    have HB5 := Lib.hid (HB2.out.trans (hb5.mono hs2))
    have K45 := Lib.hid (K42.out.below' hb5)
    clear hD5 ho5 hb5 HO2
    go_wp2_with (refine wpList_store_part (o := ⟨none, _, _, _, _, _⟩) rfl 47 (.tmp 4) (.tmp 27) rfl g4 0 D rfl rfl 47 (anC 0 none 0 0 0 none 0 0) K45.out (by rw [hds]; kernel_rfl) (by rw [hds]; simp [anC]) hd1 ?_; intro w8 hT8 hD8; rw [spl_self _ _ (by rw [hds]; rfl)] at hD8)
    refine bodyPost_ret (results_part2 rfl _ _ g4 4 47 _ _ rfl hD8 Tryz.underlying47 rfl rfl hds) rfl ?_
    exact HPG.out w8 D hds ((HA5.out.keepN (fun b h1 h2 => hT8.block b (by omega))).more (by omega)) (hT8.below HB5.out hgw4)
  · have hk3b : (x.kind != 3) = true := by simpa using hk3
    have hk4b : (x.kind != 4) = false := by
      rcases HKD.out with e | e
      · exact absurd e hk3
      · simp [e]
    clear hk3
    go_wp2_with (refine wpList_load_part (o := ⟨some 25, _, _, _, _, _⟩) rfl 44 (.tmp 3) rfl g3 0 10 rfl 44 _ W0 _ K32.out Tryz.underlying44 rfl rfl hws (fun _ _ => by rw [Nat.zero_add]) ?_)
    refine HO2.out.mono ?_
    rintro _ w5 ⟨D, rfl, ha5, hb5⟩
    obtain ⟨A5, c5, hD5, ho5⟩ := ha5
    have hs5 := hb5.size
    have hds : D.size = 4 := by rw [hD5]; rfl
    have hd1 : D.all (·.oneCell') = true := by rw [hD5]; exact anC_one _ _ _ _ _ _ _ _
    have HA5 := Lib.hid (show AnsN w5 w2.heap.size D oa from ⟨A5, c5, hD5, ho5⟩)
    have HB5 := Lib.hid (HB2.out.trans (hb5.mono hs2))
    have K45 := Lib.hid (K42.out.below' hb5)
    clear hD5 ho5 hb5 HO2
    go_wp2_with (refine wpList_store_part (o := ⟨none, _, _, _, _, _⟩) rfl 47 (.tmp 4) (.tmp 27) rfl g4 0 D rfl rfl 47 (anC 0 none 0 0 0 none 0 0) K45.out (by rw [hds]; kernel_rfl) (by rw [hds]; simp [anC]) hd1 ?_; intro w8 hT8 hD8; rw [spl_self _ _ (by rw [hds]; rfl)] at hD8)
    refine bodyPost_ret (results_part2 rfl _ _ g4 4 47 _ _ rfl hD8 Tryz.underlying47 rfl rfl hds) rfl ?_
    exact HPG.out w8 D hds ((HA5.out.keepN (fun b h1 h2 => hT8.block b (by omega))).more (by omega)) (hT8.below HB5.out hgw4)

end Go.Proofs.YtdpoedgjehofiaaGreat

/- Contracts of (*Atlas).Root, of the laws' root. -/
namespace Go.Proofs.YtdpoedgjehofiaaGreat
set_option linter.unusedVariables false
set_option linter.unusedSimpArgs false
open Go.RowKit Go.Maps

attribute [local irreducible] wpList wpCalm
set_option maxRecDepth 100000 in
set_option maxHeartbeats 1000000 in
theorem aRoot_any (w : World) (V : ALoc) (N : Nat → Prop) (m : AM) (h : AAt w V N m) :
    Calls Tryz.prog 71 #[.pointer (some ⟨V.g, 0, none⟩)] w fun e w' => e = .returned (.tuple #[.agg (bRow (rootL (leavesQ m))), .int .i64 0]) ∧ Below w.heap.size w w' := by
  obtain ⟨S, hd⟩ := h.dat
  have hX := below_lit w (.cells inkZ 60)
  have hk0 : Blk (w.alloc (.cells inkZ 60)) w.heap.size 60 inkZ := Blk.newAt rfl
  have c0 := ((hd.below hX).blk.cell 0).trans (aCs_at _ _ _ _ 0 (by omega))
  have HN := Lib.hid (aNone_any (w.alloc (.cells inkZ 60)) V.g V.T.t c0)
  have HR := Lib.hid (treeRoot_any (w.alloc (.cells inkZ 60)) V.T V.k (leavesQ m) (h.tree.below hX))
  have hln := leavesQ_len m
  have hds : (bRow (rootL (leavesQ m))).size = 32 := bRow_size32 (lv_one (leavesQ m) (by omega) (by omega)).2
  have hdo := bRow_one (rootL (leavesQ m))
  obtain ⟨D, hD⟩ : ∃ D, D = bRow (rootL (leavesQ m)) := ⟨_, rfl⟩
  rw [← hD] at HR hds hdo ⊢
  have HDS := Lib.hid hds
  have HDO := Lib.hid hdo
  have HZ := Lib.hid treeZ_eq
  have HZS := Lib.hid (show inkZ.size = 32 by simp [inkZ, bRow])
  have HX := Lib.hid hX
  have HK := Lib.hid hk0
  have C0 := Lib.hid c0
  obtain ⟨g, hg⟩ : ∃ g, g = w.heap.size := ⟨_, rfl⟩
  clear h hd hX hk0 c0 hD hds hdo hln
  go_enter Tryz.func71, Tryz.ntmps71
  go_upto_region 1 with fail
  rw [← HZ.out]
  generalize World.alloc w _ = w1 at HN HR HX HK C0 ⊢
  rw [← hg] at HK ⊢
  have hgw : w.heap.size ≤ g := by omega
  have c0 := C0.out
  clear hg
  go_wp2_with fail
  refine HN.out.mono ?_
  rintro _ _ ⟨rfl, rfl⟩
  go_wp2_with fail
  refine HR.out.mono ?_
  rintro _ w2 ⟨rfl, hb2⟩
  have HB2 := Lib.hid (HX.out.trans (hb2.mono HX.out.size))
  have HK2 := Lib.hid (HK.out.below' hb2)
  clear hb2
  go_wp2_with (refine wpList_store_part (o := ⟨none, _, _, _, _, _⟩) rfl 60 (.tmp 2) (.tmp 12) rfl g 0 D rfl rfl 60 inkZ HK2.out (by rw [HDS.out]; rfl) (by rw [HDS.out, HZS.out]; omega) HDO.out ?_; intro w5 hT5 hD5; rw [spl_self _ _ (by rw [HDS.out, HZS.out])] at hD5)
  refine bodyPost_ret (results_part2 rfl _ _ g 32 60 _ _ rfl hD5 Tryz.underlying60 rfl rfl HDS.out) rfl ⟨rfl, ?_⟩
  exact hT5.below HB2.out hgw

def ARootPost (w : World) (m : AM) (e : Ending) (w' : World) : Prop := e = .returned (.tuple #[.agg (bRow (rootL (leavesQ m))), .bool true]) ∧ Below w.heap.size w w'
set_option maxRecDepth 100000 in
set_option maxHeartbeats 4000000 in
theorem arootL_any (w : World) (V : ALoc) (N : Nat → Prop) (m : AM) (h : AAt w V N m) :
    Calls Tryz.prog 48 #[.pointer (some ⟨V.g, 0, none⟩)] w (ARootPost w m) := by
  have hX := below_lit w (.cells inkZ 60)
  have hk0 : Blk (w.alloc (.cells inkZ 60)) w.heap.size 60 inkZ := Blk.newAt rfl
  have HR := Lib.hid (aRoot_any (w.alloc (.cells inkZ 60)) V N m (h.below hX))
  have hln := leavesQ_len m
  have hds : (bRow (rootL (leavesQ m))).size = 32 := bRow_size32 (lv_one (leavesQ m) (by omega) (by omega)).2
  have hdo := bRow_one (rootL (leavesQ m))
  unfold ARootPost
  obtain ⟨D, hD⟩ : ∃ D, D = bRow (rootL (leavesQ m)) := ⟨_, rfl⟩
  rw [← hD] at HR hds hdo ⊢
  have HDS := Lib.hid hds
  have HDO := Lib.hid hdo
  have HZ := Lib.hid treeZ_eq
  have HZS := Lib.hid (show inkZ.size = 32 by simp [inkZ, bRow])
  have HX := Lib.hid hX
  have HK := Lib.hid hk0
  obtain ⟨g, hg⟩ : ∃ g, g = w.heap.size := ⟨_, rfl⟩
  clear h hX hk0 hD hds hdo hln
  go_enter Tryz.func48, Tryz.ntmps48
  go_upto_region 1 with fail
  rw [← HZ.out]
  generalize World.alloc w _ = w1 at HR HX HK ⊢
  rw [← hg] at HK ⊢
  have hgw : w.heap.size ≤ g := by omega
  have hl := HK.out.lt
  clear hg
  go_wp2_with fail
  refine HR.out.mono ?_
  rintro _ w2 ⟨rfl, hb2⟩
  have HB2 := Lib.hid (HX.out.trans (hb2.mono HX.out.size))
  have HK2 := Lib.hid (HK.out.below' hb2)
  have hs2 := HB2.out.size
  have hs12 := hb2.size
  clear hb2 HR
  go_upto_region 2 with (refine wpList_store_part (o := ⟨none, _, _, _, _, _⟩) rfl 60 (.tmp 4) (.tmp 9) rfl w2.heap.size 0 D rfl rfl 60 inkZ (by rw [HZ.out]; exact Blk.newAt rfl) (by rw [HDS.out]; rfl) (by rw [HDS.out, HZS.out]; omega) HDO.out ?_; intro w3 hT3 hD3; rw [spl_self _ _ (by rw [HDS.out, HZS.out])] at hD3)
  have hb3 : Below w2.heap.size w2 w3 := hT3.below ((Below.refl _ _).alloc (Nat.le_refl _) _) (Nat.le_refl _)
  have HD3 := Lib.hid hD3
  have HK3 := Lib.hid (HK2.out.below' hb3)
  have HB3 := Lib.hid (HB2.out.trans (hb3.mono hs2))
  obtain ⟨g4, hg4⟩ : ∃ g, g = w2.heap.size := ⟨_, rfl⟩
  rw [← hg4] at HD3 ⊢
  clear hb3 hD3 hT3 hg4
  go_wp2_with (first
    | (refine wpList_load_part (o := ⟨some 11, _, _, _, _, _⟩) rfl 60 (.tmp 4) rfl g4 0 32 rfl 60 _ D _ HD3.out Tryz.underlying60 rfl rfl HDS.out (fun _ _ => by rw [Nat.zero_add]) ?_)
    | (refine wpList_store_part (o := ⟨none, _, _, _, _, _⟩) rfl 60 (.tmp 2) (.tmp 11) rfl g 0 D rfl rfl 60 inkZ HK3.out (by rw [HDS.out]; rfl) (by rw [HDS.out, HZS.out]; omega) HDO.out ?_; intro w5 hT5 hD5; rw [spl_self _ _ (by rw [HDS.out, HZS.out])] at hD5))
  refine bodyPost_ret (results_part2 rfl _ _ g 32 60 _ _ rfl hD5 Tryz.underlying60 rfl rfl HDS.out) rfl ⟨rfl, ?_⟩
  exact hT5.below HB3.out hgw

end Go.Proofs.YtdpoedgjehofiaaGreat

/- A law's atlas beside blocks that it leaves as they are. -/
namespace Go.Proofs.YtdpoedgjehofiaaGreat
set_option linter.unusedVariables false
set_option linter.unusedSimpArgs false
open Go.RowKit Go.Maps

attribute [local irreducible] wpList wpCalm
theorem ALSt.do2_ {w0 W : World} {V : ALoc} {N : Nat → Prop} {m : AM} {a : Nat} (h : ALSt w0 V N m a W) (ha : a ≤ 700000) (x : Wish) (A : Option Addr) (n c : Nat) (A' : Option Addr) (n' c' : Nat) (B : Nat) (hx : WishIn W B x A n c A' n' c') (hB : B ≤ W.heap.size) :
    Calls Tryz.prog 42 #[.pointer (some ⟨V.g, 0, none⟩), .agg (wCells x A n c A' n' c')] W fun r W' => ∃ D q, r = .returned (.tuple #[.agg D, .int .i64 ((doQ m x).2.2 : Int)]) ∧ D.size = 4 ∧ W.heap.size ≤ q ∧ AnsN W' q D (doQ m x).2.1 ∧ ALSt w0 V (fun b => N b ∨ (q ≤ b ∧ b < W'.heap.size)) (doQ m x).1 (a + 6) W' ∧ Only (V.hasN N) W W' := by
  obtain ⟨L, a', h1, h2, h3⟩ := h.book
  refine (aDo2_any W V N m L a' h.vat h.nlt h1 h3 (by omega) x A n c A' n' c' B hx hB).mono ?_
  rintro r W' ⟨D, q, rfl, hs, hq, ho, hd⟩
  have hl := h.did (hd.less (fun b hb => .inl hb) h.vat.all) (a' := a + 6) (by omega)
  obtain ⟨L', b', p1, p2, p3, p4⟩ := hd.book
  refine ⟨D, q, rfl, hs, hq, ho, ⟨hd.vat, ⟨L', b', p1, by omega, p4⟩, hl.low, fun b hn => hn.elim (hl.nlt b) (fun e => e.2), fun b hb => .inl (h.old b hb), h.new⟩, hd.only.mono fun b _ e => e.imp id (fun e hn => e (.inl hn))⟩
/-- .. beside blocks -/
def AL (w0 : World) (V : ALoc) (m : AM) (a : Nat) (W : World) (Bs : List Nat) : Prop := ∃ N, ALSt w0 V N m a W ∧ ∀ b, b ∈ Bs → N b ∧ ¬ V.all b
theorem AL.add {w0 W W' : World} {V : ALoc} {m : AM} {a : Nat} {Bs : List Nat} (h : AL w0 V m a W Bs) (hb : Below W.heap.size W W') {g : Nat} (h1 : W.heap.size ≤ g) (h2 : g < W'.heap.size) : AL w0 V m a W' (g :: Bs) := by
  obtain ⟨N, hl, hB⟩ := h
  refine ⟨_, hl.later hb, fun b hb' => ?_⟩
  rcases List.mem_cons.1 hb' with rfl | hb'
  · exact ⟨.inr ⟨h1, h2⟩, fun hv => by have := hl.nlt _ (hl.vat.all _ hv); omega⟩
  · exact ⟨.inl (hB b hb').1, (hB b hb').2⟩
theorem AL.below {w0 W W' : World} {V : ALoc} {m : AM} {a : Nat} {Bs : List Nat} (h : AL w0 V m a W Bs) (hb : Below W.heap.size W W') : AL w0 V m a W' Bs := by
  obtain ⟨N, hl, hB⟩ := h
  exact ⟨N, hl.below hb, hB⟩
theorem AL.more {w0 W : World} {V : ALoc} {m : AM} {a a' : Nat} {Bs Bs' : List Nat} (h : AL w0 V m a W Bs) (ha : a ≤ a') (hs : ∀ b, b ∈ Bs' → b ∈ Bs) : AL w0 V m a' W Bs' := by
  obtain ⟨N, hl, hB⟩ := h
  exact ⟨N, hl.more ha, fun b hb => hB b (hs b hb)⟩
theorem AL.vat {w0 W : World} {V : ALoc} {m : AM} {a : Nat} {Bs : List Nat} (h : AL w0 V m a W Bs) : ∃ N, AAt W V N m := by
  obtain ⟨N, hl, hB⟩ := h
  exact ⟨N, hl.vat⟩
theorem AL.low {w0 W : World} {V : ALoc} {m : AM} {a : Nat} {Bs : List Nat} (h : AL w0 V m a W Bs) : Below w0.heap.size w0 W := by
  obtain ⟨N, hl, hB⟩ := h
  exact hl.low
def adB : Option Addr → List Nat
  | none => []
  | some a => [a.block]
/-- the answer, the state, what stays -/
def ALDid (w0 : World) (V : ALoc) (m : AM) (a : Nat) (W : World) (Bs : List Nat) (x : Wish) (r : Ending) (W' : World) : Prop :=
  ∃ A c, r = .returned (.tuple #[.agg (anC (doQ m x).2.1.err none 0 0 (doQ m x).2.1.epoch A (doQ m x).2.1.nodes.length c), .int .i64 ((doQ m x).2.2 : Int)]) ∧ (doQ m x).2.1.nodes.length ≤ maxLen ∧ Reads W' W'.heap.size 1 A (doQ m x).2.1.nodes.length ((doQ m x).2.1.nodes.map vn) ∧ AL w0 V (doQ m x).1 (a + 6) W' (adB A ++ Bs) ∧ (∀ b, b ∈ Bs → b < W.heap.size → W'.heap[b]? = W.heap[b]?) ∧ W.heap.size ≤ W'.heap.size
theorem AL.do_ {w0 W : World} {V : ALoc} {m : AM} {a : Nat} {Bs : List Nat} (h : AL w0 V m a W Bs) (ha : a ≤ 700000) (x : Wish) (hx : WishIn W W.heap.size x none 0 0 none 0 0) :
    Calls Tryz.prog 42 #[.pointer (some ⟨V.g, 0, none⟩), .agg (wCells x none 0 0 none 0 0)] W (ALDid w0 V m a W Bs x) := by
  obtain ⟨N, hl, hB⟩ := h
  refine (hl.do2_ ha x none 0 0 none 0 0 _ hx (Nat.le_refl _)).mono ?_
  rintro r W' ⟨D, q, rfl, hs, hq, ⟨A, c, rfl, ho⟩, hl', hon⟩
  obtain ⟨A2, c2, e, q1, q2, q3, q4⟩ := own_slice_n ho
  injection e with e1 _ e2
  subst e1 e2
  refine ⟨A, c, rfl, Nat.le_trans q1 q2, q3, ⟨_, hl', fun b hb => ?_⟩, fun b hb hlt => hon.block b hlt fun e => ?_, hon.size⟩
  · rcases List.mem_append.1 hb with hb | hb
    · cases A with
      | none => cases hb
      | some ad =>
        obtain rfl := List.mem_singleton.1 hb
        have hge := q4 ad rfl
        have hlt : ad.block < W'.heap.size := (rowD_lt ho (b := ad.block) rfl).2
        exact ⟨.inr ⟨hge, hlt⟩, fun hv => by have := hl.nlt _ (hl.vat.all _ hv); omega⟩
    · exact ⟨.inl (hB b hb).1, (hB b hb).2⟩
  · rcases e with e | e
    · exact (hB b hb).2 (AAt.has_all (w := w0) (m := m) (N := N) e)
    · exact e (hB b hb).1
theorem reads_same {W W' : World} {n : Nat} {A : Option Addr} {xs : List Value} (h : Reads W W.heap.size 1 A n xs) (hk : ∀ b, b ∈ adB A → b < W.heap.size → W'.heap[b]? = W.heap[b]?) (hs : W.heap.size ≤ W'.heap.size) : Reads W' W'.heap.size 1 A n xs :=
  ⟨h.1, fun h0 => by
    obtain ⟨ad, rfl, hlt, hc⟩ := h.2 h0
    exact ⟨ad, rfl, by omega, fun j u hu => (World.cell?_of_block (by
      have : (ad.add j).block = ad.block := block_of_add _ _
      rw [this]
      exact hk _ (List.mem_singleton.2 rfl) hlt)).trans (hc j u hu)⟩⟩

end Go.Proofs.YtdpoedgjehofiaaGreat

/- Plain facts of a wish that was done. -/
namespace Go.Proofs.YtdpoedgjehofiaaGreat
set_option linter.unusedVariables false
set_option linter.unusedSimpArgs false
open Go.RowKit Go.Maps

theorem queryQ_in {c s b : Int} (c1 : 31 ≤ c) (c2 : c ≤ 34) (s1 : 1 ≤ s) (s2 : s ≤ 1000000) (b1 : 1 ≤ b) (b2 : b ≤ 2) : inQ (queryQ c s b) = true := by
  have s3 : s ≤ 9007199254740991 := by omega
  unfold inQ
  rw [Bool.and_eq_true]
  exact ⟨decide_eq_true (show MayP (queryQ c s b) from ⟨show (0 : Int) ≤ 0 by decide, show (0 : Int) ≤ 1048576 by decide, .inr ⟨show (3 : Int) ≠ 5 by decide, c1, c2, s1, s3, rfl, .inr ⟨.inl ⟨rfl, rfl, rfl⟩, rfl, rfl, b1, b2, rfl⟩⟩⟩), decide_eq_true (.inl rfl)⟩
theorem replQ_in {c s b o z : Int} (c1 : 31 ≤ c) (c2 : c ≤ 34) (s1 : 1 ≤ s) (s2 : s ≤ 1000000) (b1 : 1 ≤ b) (b2 : b ≤ 2) (o1 : 1 ≤ o) (o2 : o ≤ 28) (z1 : 1 ≤ z) (z2 : z ≤ 28) (hne : o ≠ z) : inQ (replQ c s b o z) = true := by
  have s3 : s ≤ 9007199254740991 := by omega
  unfold inQ
  rw [Bool.and_eq_true]
  exact ⟨decide_eq_true (show MayP (replQ c s b o z) from ⟨show (0 : Int) ≤ 0 by decide, show (0 : Int) ≤ 1048576 by decide, .inr ⟨show (4 : Int) ≠ 5 by decide, c1, c2, s1, s3, rfl, .inr ⟨.inr ⟨rfl, o1, o2, z1, z2, hne⟩, rfl, rfl, b1, b2, rfl⟩⟩⟩), decide_eq_true (.inr rfl)⟩
theorem wishS_inQ {now : List Int} {n stamp : Int} (h : ∀ z, z ∈ now → 0 < z ∧ z ≤ 28) (hl : 1 ≤ now.length) (h0 : 1 ≤ stamp) (h1 : stamp ≤ 1000000) : inQ (wishS now n stamp) = true := by
  have hc := clientW_le n
  have hb := bringF_lt (n / 64) 2 (by omega)
  have h9 := bringF_lt (n / 512) 16 (by omega)
  have h7 := bringF_lt (n / 128) now.length (by omega)
  have hg : 1 ≤ now.getD (bringF (n / 128) now.length) 0 ∧ now.getD (bringF (n / 128) now.length) 0 ≤ 28 := by
    rw [List.getD_eq_getElem?_getD, List.getElem?_eq_getElem h7]
    have := h _ (List.getElem_mem h7)
    simp only [Option.getD_some]
    omega
  unfold wishS
  generalize now.getD (bringF (n / 128) now.length) 0 = o at hg ⊢
  split
  · exact queryQ_in hc.1 hc.2 h0 h1 (by omega) (by omega)
  · have hz : 5 ≤ (if bringF n 16 = 2 then 5 else 13 + (bringF (n / 512) 16 : Int)) ∧ (if bringF n 16 = 2 then 5 else 13 + (bringF (n / 512) 16 : Int)) ≤ 28 := by split <;> omega
    have ho : 1 ≤ (if bringF n 16 = 3 then 28 else o) ∧ (if bringF n 16 = 3 then 28 else o) ≤ 28 := by split <;> omega
    generalize (if bringF n 16 = 2 then 5 else 13 + (bringF (n / 512) 16 : Int)) = z at hz ⊢
    generalize (if bringF n 16 = 3 then 28 else o) = o' at ho ⊢
    refine replQ_in ?_ ?_ h0 h1 (by omega) (by omega) ?_ ?_ (by omega) (by omega) ?_
    · split <;> omega
    · split <;> omega
    · split <;> omega
    · split <;> omega
    · split <;> omega
theorem wishS_client (now : List Int) (n stamp : Int) : 31 ≤ (wishS now n stamp).client ∧ (wishS now n stamp).client ≤ 34 := by
  have hc := clientW_le n
  unfold wishS
  split
  · exact hc
  · show 31 ≤ (if bringF n 16 = 1 then clientW n else 34) ∧ (if bringF n 16 = 1 then clientW n else 34) ≤ 34
    split <;> omega
theorem oldQ_same {m : AM} {x : Wish} {S : Nat} {an : Ans} (h : lastQ m (x.client - 31).toNat = (S, an)) (hs : x.stamp = (S : Int)) : oldQ m x = (an, true) := by
  unfold oldQ
  rw [h]
  simp only
  rw [if_neg (by omega), if_neg (by omega)]
theorem doQ_same {m : AM} {x : Wish} {S : Nat} {an : Ans} (hq : inQ x = true) (h : lastQ m (x.client - 31).toNat = (S, an)) (hs : x.stamp = (S : Int)) : doQ m x = (m, an, 0) := by
  have hd : didQ m x = m := by unfold didQ; rw [h, if_neg (by show ¬ ((S : Int) < x.stamp); omega)]
  unfold doQ
  rw [if_pos hq, hd, oldQ_same h hs]
theorem doQ_older {m : AM} {x : Wish} {S : Nat} {an : Ans} (hq : inQ x = true) (h : lastQ m (x.client - 31).toNat = (S, an)) (hs : x.stamp < (S : Int)) : doQ m x = (m, errA 172 0, 0) := by
  have hd : didQ m x = m := by unfold didQ; rw [h, if_neg (by show ¬ ((S : Int) < x.stamp); omega)]
  unfold doQ
  rw [if_pos hq, hd]
  unfold oldQ
  rw [h]
  simp only
  rw [if_pos hs]
theorem doQ_new {m : AM} {x : Wish} {S : Nat} (hm : AOk m) (hq : inQ x = true) (hs : x.stamp = (S : Int)) (h : (lastQ m (x.client - 31).toNat).1 < S) : (doQ m x).2.2 = 0 ∧ lastQ (doQ m x).1 (x.client - 31).toNat = (S, (doQ m x).2.1) := by
  obtain ⟨c1, c2, _⟩ := may_move hq
  obtain ⟨j, hj⟩ : ∃ j, j = (x.client - 31).toNat := ⟨_, rfl⟩
  have hd : didQ m x = ⟨(answerQ m x).1.chunks, m.last.set j (S, (answerQ m x).2)⟩ := by
    unfold didQ
    rw [← hj] at h ⊢
    rw [if_pos (by omega), (answerQ_len m x).2, show x.stamp.toNat = S by omega]
  have hl : lastQ (didQ m x) j = (S, (answerQ m x).2) := by
    rw [hd, lastQ_put, if_pos (show j = j ∧ j < m.last.length from ⟨rfl, by rw [hm.last]; omega⟩)]
  have ho : oldQ (didQ m x) x = ((answerQ m x).2, true) := oldQ_same (by rw [← hj]; exact hl) hs
  have he : doQ m x = (didQ m x, (answerQ m x).2, 0) := by
    unfold doQ
    rw [if_pos hq, ho]
  rw [he]
  exact ⟨rfl, by rw [← hj]; exact hl⟩

end Go.Proofs.YtdpoedgjehofiaaGreat
