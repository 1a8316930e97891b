/- Parts of the proof, in one text: AtT, AtU. -/
import Derived.Test.YtlaodmmjhjpfmaaGreatZ19
import Derived.BigRegion
import Derived.Deep.DeepCutAuto

/- Contract of (*Atlas).Do. -/
namespace Go.Proofs.YtlaodmmjhjpfmaaGreat
set_option linter.unusedVariables false
set_option linter.unusedSimpArgs false
open Go.RowKit Go.Maps

attribute [local irreducible] wpList wpCalm
def ADoPost (w : World) (V : ALoc) (N : Nat → Prop) (L : List (List UInt8)) (asked : Nat) (p : AM × Ans × Nat) (r : Ending) (w' : World) : Prop :=
  ∃ D, r = .returned (.tuple #[.agg D, .int .i64 (p.2.2 : Int)]) ∧ D.size = 4 ∧ AnsN w' w.heap.size D p.2.1 ∧ ADone w w' V N p.1 L asked 6
/-- .. and what the answer lies in may be held fast from then on -/
def ADoPost2 (w : World) (V : ALoc) (N : Nat → Prop) (L : List (List UInt8)) (asked : Nat) (p : AM × Ans × Nat) (r : Ending) (w' : World) : Prop :=
  ∃ D q, r = .returned (.tuple #[.agg D, .int .i64 (p.2.2 : Int)]) ∧ D.size = 4 ∧ w.heap.size ≤ q ∧ AnsN w' q D p.2.1 ∧ ADone w w' V (fun b => N b ∨ (q ≤ b ∧ b < w'.heap.size)) p.1 L asked 6
theorem ADone.more {w w' : World} {V : ALoc} {N : Nat → Prop} {m : AM} {L : List (List UInt8)} {asked q q' : Nat} (h : ADone w w' V N m L asked q) (hq : q ≤ q') : ADone w w' V N m L asked q' := by
  obtain ⟨L', a', h1, h2, h3, h4⟩ := h.book
  exact ⟨h.vat, ⟨L', a', h1, by omega, h3, h4⟩, h.only⟩
/-- where Do's two roads meet -/
structure DoMid (w : World) (V : ALoc) (N : Nat → Prop) (m' : AM) (L : List (List UInt8)) (asked g3 g4 : Nat) (wc : Array Value) (W : World) : Prop where
  done : ADone w W V (fun b => N b ∨ b = g3 ∨ b = g4) m' L asked 6
  k3 : Blk W g3 48 wc
  k4 : Blk W g4 52 (anC 0 none 0 0 0 none 0 0)
  size : w.heap.size ≤ W.heap.size

/-- an atlas in a later world, its names grown by what is new -/
theorem AAt.later {w W : World} {V : ALoc} {N : Nat → Prop} {m : AM} (h : AAt w V N m) (hb : Below w.heap.size w W) : AAt W V (fun b => N b ∨ (w.heap.size ≤ b ∧ b < W.heap.size)) m :=
  (h.mono (N' := fun b => N b ∨ (w.heap.size ≤ b ∧ b < W.heap.size)) (fun b hb' hn => hn.elim id (fun e => by omega)) (fun b hv => .inl (h.all b hv))).below hb
theorem ADone.fold {w W W' : World} {V : ALoc} {N : Nat → Prop} {m : AM} {L : List (List UInt8)} {asked q : Nat} (hN : ∀ b, N b → b < w.heap.size) (hall : ∀ b, V.all b → N b) (hT : ∀ b, V.T.mut b → V.T.has b) (hb : Below w.heap.size w W) (h : ADone W W' V (fun b => N b ∨ (w.heap.size ≤ b ∧ b < W.heap.size)) m L asked q) :
    ADone w W' V N m L asked q ∧ (∀ b, w.heap.size ≤ b → b < W.heap.size → W'.heap[b]? = W.heap[b]?) ∧ ∀ b, N b → ¬ V.all b → b < W.heap.size → W'.heap[b]? = W.heap[b]? := by
  have hva : ∀ b, V.has b → V.all b := fun b hb => by
    rcases hb with e | e | e | e
    · exact .inl e
    · exact .inr (.inl e)
    · exact .inr (.inr (.inr (hT b e)))
    · exact .inr (.inr (.inl e))
  have hv : ∀ b, V.has b → N b := fun b hb => hall b (hva b hb)
  refine ⟨⟨h.vat.mono (fun b _ hn => .inl hn) hall, h.book, (Only.of_below hb).trans (h.only.mono fun b _ e => ?_)⟩, fun b h1 h2 => h.only.block b h2 fun e => ?_, fun b h1 h3 h2 => h.only.block b h2 fun e => ?_⟩
  · rcases e with e | e
    · exact .inl e
    · exact .inr (fun hn => e (.inl hn))
  · rcases e with e | e
    · have := hN b (hv b e); omega
    · exact e (.inr ⟨h1, h2⟩)
  · rcases e with e | e
    · exact h3 (hva b e)
    · exact e (.inl h1)
/-- with another answer in the atlas's own block: its tree, its book -/
theorem ADone.kept {w W W7 : World} {V : ALoc} {N : Nat → Prop} {m : AM} {L : List (List UInt8)} {asked q : Nat} (h : ADone w W V N m L asked q) (hT : Turned V.g W W7) :
    TreeAt W7 V.T V.k (leavesQ m) ∧ ∃ L' a', BookAt W7 V.k L' a' ∧ a' ≤ asked + q ∧ (∀ x, x ∈ L → x ∈ L') ∧ InBook L' (leavesQ m) := by
  have ho : Only (fun b => b = V.g) W W7 := Only.of_turned hT rfl
  have hf := h.vat.far
  obtain ⟨L', a', h1, h2, h3, h4⟩ := h.book
  exact ⟨h.vat.tree.only ho (fun b hb e => hf.2.1 (e ▸ hb)), L', a', h1.only ho (fun e => hf.2.2.2.1 (.inl e.symm)) (fun e => hf.2.2.2.1 (.inr (.inl e.symm))) (fun e => hf.2.2.2.1 (.inr (.inr e.symm))), h2, h3, h4⟩
theorem ADone.set_last {w W W7 W8 : World} {V : ALoc} {N : Nat → Prop} {m m' : AM} {S' : ASl} {L L' : List (List UInt8)} {asked a' q q' : Nat} (h : ADone w W V N m L asked q) (hT : Turned V.g W W7) (hd : ADat W7 V.g V.gc (some ⟨V.T.t, 0, none⟩) N m' S') (h2 : a' ≤ asked + q) (h3 : ∀ x, x ∈ L → x ∈ L') (h4 : InBook L' (leavesQ m))
    (hsb : SetBy W7 W8 V.T V.k (leavesQ m) (leavesQ m') L' a' q') : ADone w W8 V N m' L asked (q + q') := by
  have hf := h.vat.far
  have hall := h.vat.all
  obtain ⟨L2, a2, p1, p2, p3, p4⟩ := hsb.book
  have hm : ∀ b, (V.T.mut b ∨ V.k.has b) → V.all b := fun b hb => by
    rcases hb with e | e
    · exact .inr (.inr (.inr (.inr (.inr e))))
    · exact .inr (.inr (.inl e))
  refine ⟨⟨⟨S', hd.only hsb.only (fun b hb => hall b (hm b hb)) (fun e => ?_) (fun e => ?_)⟩, hsb.tree, hf, hall⟩, ⟨L2, a2, p1, by omega, fun x hx => p3 x (h3 x hx), p4 L' (fun _ h => h) h4⟩, (h.only.trans (Only.of_turned hT (.inl (.inl rfl)))).trans (hsb.only.mono fun b _ e => ?_)⟩
  · rcases e with e | e
    · exact hf.2.1 (.inr (.inr e))
    · exact hf.2.2.2.1 e
  · rcases e with e | e
    · exact hf.2.2.1 (.inr (.inr e))
    · exact hf.2.2.2.2 e
  · rcases e with e | e
    · exact .inl (.inr (.inr (.inl e)))
    · exact .inl (.inr (.inr (.inr e)))
structure DoSt (wd : World) (V : ALoc) (N : Nat → Prop) (m' : AM) (L : List (List UInt8)) (asked g3 g4 : Nat) (W0 : Array Value) (s : Nat) (W : World) : Prop where
  k3 : Blk W g3 48 W0
  k4 : Blk W g4 52 (anC 0 none 0 0 0 none 0 0)
  size : wd.heap.size ≤ W.heap.size
  zero : s = 0 → Below wd.heap.size wd W
  one : s = 1 → ADone wd W V N m' L asked 3
theorem DoSt.below {wd W W' : World} {V : ALoc} {N : Nat → Prop} {m' : AM} {L : List (List UInt8)} {asked g3 g4 : Nat} {W0 : Array Value} {s : Nat} (h : DoSt wd V N m' L asked g3 g4 W0 s W) (hb : Below W.heap.size W W') : DoSt wd V N m' L asked g3 g4 W0 s W' :=
  ⟨h.k3.below' hb, h.k4.below' hb, Nat.le_trans h.size hb.size, fun e => (h.zero e).trans (hb.mono h.size), fun e => (h.one e).after hb⟩
theorem ADone.side2 {w w1 w2 : World} {V : ALoc} {Nb N' : Nat → Prop} {m : AM} {L : List (List UInt8)} {asked q g4 : Nat} (hall : ∀ b, V.all b → N' b) (hne : ∀ b, V.all b → b ≠ g4) (hg : w.heap.size ≤ g4) (hN4 : Nb g4) (hsub : ∀ b, b < w1.heap.size → N' b → Nb b) (h : ADone w w1 V Nb m L asked q) (hT : Turned g4 w1 w2) : ADone w w2 V N' m L asked q := by
  obtain ⟨S, hd⟩ := h.vat.dat
  obtain ⟨L', a', h1, h2, h3, h4⟩ := h.book
  have ht4 : Only (fun b => b = g4) w1 w2 := Only.of_turned hT rfl
  have hs := hT.size
  exact ⟨⟨⟨S, (hd.only ht4 (fun b e => e ▸ hN4) (fun e => hne _ (.inl rfl) e) (fun e => hne _ (.inr (.inl rfl)) e)).mono (fun b hb hn => hsub b (by omega) hn) ⟨hall _ (.inl rfl), hall _ (.inr (.inl rfl))⟩⟩, h.vat.tree.only ht4 (fun b hb e => hne b (.inr (.inr (.inr hb))) e), h.vat.far, hall⟩, ⟨L', a', h1.only ht4 (fun e => hne _ (.inr (.inr (.inl (.inl rfl)))) e) (fun e => hne _ (.inr (.inr (.inl (.inr (.inl rfl))))) e) (fun e => hne _ (.inr (.inr (.inl (.inr (.inr rfl))))) e), h2, h3, h4⟩, ⟨ht4.os.trans h.only.os, ht4.tape.trans h.only.tape, ht4.output.trans h.only.output, Nat.le_trans h.only.size ht4.size, fun b hb hn => (ht4.block b (by have := h.only.size; omega) (fun e => by omega)).trans (h.only.block b hb (fun e => hn (by
    rcases e with e | e
    · exact .inl e
    · exact .inr (fun q => e (hsub b (by have := h.only.size; omega) q)))))⟩⟩
theorem ADone.later {w w1 w2 : World} {V : ALoc} {N : Nat → Prop} {m : AM} {L : List (List UInt8)} {asked q : Nat} (h : ADone w w1 V N m L asked q) (hb : Below w1.heap.size w1 w2) : ADone w w2 V (fun b => N b ∨ (w1.heap.size ≤ b ∧ b < w2.heap.size)) m L asked q := by
  obtain ⟨L', a', h1, h2, h3, h4⟩ := h.book
  refine ⟨h.vat.later hb, ⟨L', a', h1.below hb, h2, h3, h4⟩, (h.only.mono fun b hb' e => ?_).trans (Only.of_below hb)⟩
  rcases e with e | e
  · exact .inl e
  · exact .inr (fun hn => hn.elim e (fun q => by have := h.only.size; omega))
theorem AnsN.keepN {w w' : World} {B : Nat} {D : Array Value} {x : Ans} (h : AnsN w B D x) (hk : ∀ b, B ≤ b → b < w.heap.size → w'.heap[b]? = w.heap[b]?) : AnsN w' B D x := by
  obtain ⟨A, c, h1, h2⟩ := h
  exact ⟨A, c, h1, h2.keep_ fun b hb => hk b (h2.ge_ hb) (rowD_lt h2 hb).2⟩
/-- the last wish's cells, as they are built -/
def lsV (z : Int) (a : Ans) (A : Option Addr) (k : Nat) : Array Value := #[.int .i64 z, .int .i64 (a.err : Int), .slice none 0 0, .int .i64 (a.epoch : Int), .slice A a.nodes.length k]
theorem lsV_one (z : Int) (a : Ans) (A : Option Addr) (k : Nat) : (lsV z a A k).all (·.oneCell') = true := by simp [lsV, Value.oneCell']

set_option maxRecDepth 100000 in
set_option maxHeartbeats 4000000 in
theorem aDo2_any (w : World) (V : ALoc) (N : Nat → Prop) (m : AM) (L : List (List UInt8)) (asked : Nat) (h : AAt w V N m) (hN : ∀ b, N b → b < w.heap.size) (hbk : BookAt w V.k L asked) (hin : InBook L (leavesQ m)) (has : asked ≤ 700000)
    (x : Wish) (A : Option Addr) (n c : Nat) (A' : Option Addr) (n' c' : Nat) (B : Nat) (hx : WishIn w B x A n c A' n' c') (hB : B ≤ w.heap.size) :
    Calls Tryz.prog 24 #[.pointer (some ⟨V.g, 0, none⟩), .agg (wCells x A n c A' n' c')] w (ADoPost2 w V N L asked (doQ m x)) := by
  obtain ⟨S, hd⟩ := h.dat
  have hlt := hd.lt
  have hX : Below w.heap.size w ((w.alloc (.cells (wCells x A n c A' n' c') 48)).alloc (.cells (anC 0 none 0 0 0 none 0 0) 52)) := ((Below.refl _ _).alloc (Nat.le_refl _) _).alloc (by simp) _
  have k3 : Blk ((w.alloc (.cells (wCells x A n c A' n' c') 48)).alloc (.cells (anC 0 none 0 0 0 none 0 0) 52)) w.heap.size 48 (wCells x A n c A' n' c') := (Blk.newAt rfl).alloc _
  have k4 : Blk ((w.alloc (.cells (wCells x A n c A' n' c') 48)).alloc (.cells (anC 0 none 0 0 0 none 0 0) 52)) (w.heap.size + 1) 52 (anC 0 none 0 0 0 none 0 0) := Blk.newAt (by simp)
  have hz1 : ((w.alloc (.cells (wCells x A n c A' n' c') 48)).alloc (.cells (anC 0 none 0 0 0 none 0 0) 52)).heap.size = w.heap.size + 2 := by simp
  have HV := Lib.hid h
  have HNL := Lib.hid hN
  have HBK := Lib.hid hbk
  have HIN := Lib.hid hin
  have HD0 := Lib.hid hd
  have HX := Lib.hid hX
  have K3 := Lib.hid k3
  have K4 := Lib.hid k4
  have HZ1 := Lib.hid hz1
  have HCK := Lib.hid (fun (W : World) (hb : Below w.heap.size w W) => check_any x A n c A' n' c' W B (hx.below (hb.mono hB)) (by have := hb.size; omega))
  have HNO := Lib.hid (fun (W : World) (hb : Below w.heap.size w W) => aNone_any W V.g V.T.t (((hd.below hb).blk.cell 0).trans (aCs_at _ _ _ _ 0 (by omega))))
  have HQE := Lib.hid (show inQ x = (mayB x && decide (x.kind = 3 ∨ x.kind = 4)) from rfl)
  obtain ⟨P, hP⟩ : ∃ P, P = ADoPost2 w V N L asked (doQ m x) := ⟨_, rfl⟩
  rw [← hP]
  have HPB := Lib.hid (show ∀ w', inQ x = false → Below w.heap.size w w' → P (.returned (.tuple #[.agg (anC 0 none 0 0 0 none 0 0), .int .i64 2])) w' from fun w' hq hb => by
    rw [hP]
    unfold doQ
    rw [if_neg (by rw [hq]; simp)]
    exact ⟨_, w'.heap.size, rfl, rfl, hb.size, AnsN.bare _ _ 0 0, ⟨(h.below hb).later (Below.refl _ _), ⟨L, asked, hbk.below hb, by omega, fun _ h => h, hin⟩, Only.of_below hb⟩⟩)
  have HPG := Lib.hid (show ∀ w' D q, inQ x = true → D.size = 4 → w.heap.size ≤ q → AnsN w' q D (oldQ (didQ m x) x).1 → ADone w w' V (fun b => N b ∨ (q ≤ b ∧ b < w'.heap.size)) (didQ m x) L asked 6 → P (.returned (.tuple #[.agg D, .int .i64 0])) w' from fun w' D q hq hs hwq ha hdn => by
    rw [hP]
    unfold doQ
    rw [if_pos hq]
    exact ⟨D, q, rfl, hs, hwq, ha, hdn⟩)
  obtain ⟨g3, hg3⟩ : ∃ b, b = w.heap.size := ⟨_, rfl⟩
  obtain ⟨g4, hg4⟩ : ∃ b, b = w.heap.size + 1 := ⟨_, rfl⟩
  have hl1 := hlt.1
  have hl2 := hlt.2
  obtain ⟨W0, hW0⟩ : ∃ W0, W0 = wCells x A n c A' n' c' := ⟨_, rfl⟩
  have hws : W0.size = 10 := by rw [hW0]; simp [wCells]
  have hw4 : W0[4]? = some (.int .i64 x.kind) := by rw [hW0]; rfl
  have hw0 : W0[0]? = some (.int .i64 x.client) := by rw [hW0]; rfl
  have hw1' : W0[1]? = some (.int .i64 x.stamp) := by rw [hW0]; rfl
  have HW0 := Lib.hid hW0
  rw [← hW0] at HX K3 K4 HZ1 HCK ⊢
  have HW4 := Lib.hid hw4
  have HW00 := Lib.hid hw0
  have HW1 := Lib.hid hw1'
  clear h hN hbk hin hd hX k3 k4 hz1 hP hx hlt hW0 hw4 hw0 hw1'
  go_enter Tryz.func24, Tryz.ntmps24
  go_upto_region 1 with fail
  rw [← anZ]
  generalize World.alloc (World.alloc w _) _ = w1 at HX K3 K4 HZ1 ⊢
  rw [← hg4] at K4 ⊢
  rw [← hg3] at K3 ⊢
  have hz1 := HZ1.out
  have hgw3 : w.heap.size ≤ g3 := by omega
  have hgw4 : w.heap.size ≤ g4 := by omega
  have hg34 : g3 ≠ g4 := by omega
  have hw1 : w.heap.size ≤ w1.heap.size := by omega
  have hl3 := K3.out.lt
  have hl4 := K4.out.lt
  clear hg3 hg4 HZ1 hz1
  go_wp2_with fail
  refine (HNO.out w1 HX.out).mono ?_
  rintro _ _ ⟨rfl, rfl⟩
  obtain ⟨qb, hqb⟩ : ∃ b, b = inQ x := ⟨_, rfl⟩
  have HQB := Lib.hid hqb
  clear hqb
  go_upto_region 3 with fail
  go_cut [13] (fun s13 wx => s13 = .bool (!qb) ∧ Below w.heap.size w wx ∧ Blk wx g3 48 W0 ∧ Blk wx g4 52 (anC 0 none 0 0 0 none 0 0))
  case first =>
    go_wp2_with (refine wpList_load_part (o := ⟨some 14, _, _, _, _, _⟩) rfl 48 (.tmp 3) rfl g3 0 10 rfl 48 _ W0 _ K3.out Tryz.underlying48 rfl rfl hws (fun _ _ => by rw [Nat.zero_add]; try rfl) ?_)
    refine (HCK.out w1 HX.out).mono ?_
    rintro _ w2 ⟨rfl, hb2⟩
    have HB2 := Lib.hid (HX.out.trans (hb2.mono hw1))
    have K32 := Lib.hid (K3.out.below' hb2)
    have K42 := Lib.hid (K4.out.below' hb2)
    have e4 : w2.cell? ⟨g3, 4, none⟩ = some (.int .i64 x.kind) := (K32.out.cell 4).trans HW4.out
    clear hb2 K3 K4 HX HCK HNO
    by_cases hmb : mayB x = true
    · rw [if_pos hmb]
      by_cases hk3 : x.kind = 3
      · have hq : qb = true := by rw [HQB.out, HQE.out, hmb, decide_eq_true (.inl hk3)]; rfl
        have hk3b : (x.kind != 3) = false := by simp [hk3]
        subst hq
        clear hmb hk3
        go_wp2_with fail
        go_meet
        exact ⟨rfl, HB2.out, K32.out, K42.out⟩
      · have hk3b : (x.kind != 3) = true := by simpa using hk3
        by_cases hk4 : x.kind = 4
        · have hq : qb = true := by rw [HQB.out, HQE.out, hmb, decide_eq_true (.inr hk4)]; rfl
          have hk4b : (x.kind != 4) = false := by simp [hk4]
          subst hq
          clear hmb hk3 hk4
          go_wp2_with fail
          go_meet
          exact ⟨rfl, HB2.out, K32.out, K42.out⟩
        · have hq : qb = false := by rw [HQB.out, HQE.out, hmb, decide_eq_false (by omega)]; rfl
          have hk4b : (x.kind != 4) = true := by simpa using hk4
          subst hq
          clear hmb hk3 hk4
          go_wp2_with fail
          go_meet
          exact ⟨rfl, HB2.out, K32.out, K42.out⟩
    · rw [if_neg hmb]
      have hq : qb = false := by
        rw [HQB.out, HQE.out]
        cases hmq : mayB x with
        | true => exact absurd hmq hmb
        | false => rfl
      subst hq
      clear hmb
      go_wp2_with fail
      go_meet
      exact ⟨rfl, HB2.out, K32.out, K42.out⟩
  case rest =>
    obtain ⟨rfl, hb2, hk32, hk42⟩ := hcut
    have HB2 := Lib.hid hb2
    have K32 := Lib.hid hk32
    have K42 := Lib.hid hk42
    have hs2 := hb2.size
    have hl32 := hk32.lt
    have hl42 := hk42.lt
    clear hb2 hk32 hk42 K3 K4 HX HCK HNO
    cases qb with
    | false =>
      go_wp2_with (refine wpList_store_part (o := ⟨none, _, _, _, _, _⟩) rfl 52 (.tmp 4) (.tmp 27) rfl g4 0 (anC 0 none 0 0 0 none 0 0) rfl rfl 52 _ K42.out (anC_info _ _ _ _ _ _ _ _) (by simp [anC]) (anC_one _ _ _ _ _ _ _ _) ?_; intro w7 hT7 hD7; rw [anC_spl _ rfl] at hD7)
      refine bodyPost_ret (results_part2 rfl _ _ g4 4 52 _ _ rfl hD7 Tryz.underlying52 rfl rfl rfl) rfl ?_
      exact HPB.out w7 HQB.out.symm (hT7.below HB2.out hgw4)
    | true =>
      have hq : inQ x = true := HQB.out.symm
      have HQ := Lib.hid hq
      obtain ⟨cl1, cl2, st1, _⟩ := may_move hq
      obtain ⟨j, hj⟩ : ∃ j, j = (x.client - 31).toNat := ⟨_, rfl⟩
      have hjc : x.client - 31 = (j : Int) := by omega
      have hj4 : j < 4 := by omega
      have hjI : (j : Int) < 4 := by omega
      have HJ := Lib.hid hj
      have e0 : wc.cell? ⟨g3, 0, none⟩ = some (.int .i64 x.client) := (K32.out.cell 0).trans HW00.out
      have e1 : wc.cell? ⟨g3, 1, none⟩ = some (.int .i64 x.stamp) := (K32.out.cell 1).trans HW1.out
      obtain ⟨st, hst⟩ : ∃ k, k = (lastQ m j).1 := ⟨_, rfl⟩
      have cst : wc.cell? ⟨V.g, 2 + j * 5, none⟩ = some (.int .i64 (st : Int)) := by
        rw [hst]
        exact ((HD0.out.below HB2.out).blk.cell _).trans (aCs_last _ _ m S j 0 hj4 (by omega))
      have HST := Lib.hid hst
      clear hq hj hst
      go_upto_region 6 with fail
      go_quiet (fail)
      have hbd := below_drewN (Below.refl wc.heap.size wc) nq
      have k3d := K32.out.drewN nq
      have k4d := K42.out.drewN nq
      have HBD := Lib.hid (HB2.out.trans (hbd.mono hs2))
      generalize wc.drewN nq = wd at HBD k3d k4d hbd ⊢
      have K3D := Lib.hid k3d
      have K4D := Lib.hid k4d
      have hsd := hbd.size
      have HV4 := Lib.hid (HV.out.mono (N' := fun b => N b ∨ b = g3 ∨ b = g4) (fun b hb hn => hn.elim id (fun e => by omega)) (fun b hv => .inl (HV.out.all b hv)))
      clear hbd k3d k4d e0 e1 cst K32 K42
      go_upto_if 40 with (fail)
      go_cut [6] (fun s6 wx => s6 = .int .i64 (j : Int) ∧ DoMid w V N (didQ m x) L asked g3 g4 W0 wx)
      case first =>
        by_cases hnew : (st : Int) < x.stamp
        · rw [decide_eq_true hnew]
          obtain ⟨sn, hsn⟩ : ∃ k : Nat, k = x.stamp.toNat := ⟨_, rfl⟩
          have hsx : x.stamp = (sn : Int) := by omega
          have HSN := Lib.hid (show W0[1]? = some (.int .i64 (sn : Int)) by rw [HW1.out, hsx])
          have HDID := Lib.hid (show didQ m x = lsQ (answerQ m x).1 j sn (answerQ m x).2 by rw [hsn]; exact didQ_new HJ.out (by rw [← HST.out]; exact hnew) HQ.out HD0.out.ok)
          have HOK := Lib.hid (HD0.out.ok.did HQ.out)
          have hN4 : ∀ b, (N b ∨ b = g3 ∨ b = g4) → b < wd.heap.size := fun b hb => by
            rcases hb with hb | hb
            · have := HNL.out b hb; omega
            · omega
          have HN4 := Lib.hid hN4
          have HBW := Lib.hid HBD.out
          have HANS := Lib.hid (fun (W : World) (hb : Below wd.heap.size wd W) => aAnswer_any W V _ m L asked ((HV4.out.below HBD.out).later hb) (fun b hb' => hb'.elim (fun e => by have := HN4.out b e; have := hb.size; omega) (fun e => e.2)) ((HBK.out.below HBD.out).below (hb.mono (by have := HBK.out.lt; have := HBD.out.size; omega))) HIN.out (by omega) x A n c A' n' c' HQ.out)
          rw [← HW0.out] at HANS
          obtain ⟨q1, hq1⟩ : ∃ q, q = (answerQ m x).1 := ⟨_, rfl⟩
          obtain ⟨an, han⟩ : ∃ q, q = (answerQ m x).2 := ⟨_, rfl⟩
          rw [← hq1, ← han] at HDID
          have HQ1 := Lib.hid hq1
          have HAN := Lib.hid han
          clear hsn hsx hnew hN4 hq1 han
          go_upto_region 7 with fail
          refine wp_region_loud 11 63 (fun jx W v => match jx with
            | 0 => v = .pointer (some ⟨V.g, 0, none⟩)
            | 1 => v = .int .i64 (j : Int)
            | 2 => v = .pointer (some ⟨g3, 1, none⟩)
            | 3 => v = .int .i64 (sn : Int)
            | 4 => v = .pointer (some ⟨V.g, 0, none⟩)
            | 5 => v = .agg W0
            | 6 => ∃ A9 c9, v = .agg (anC an.err none 0 0 an.epoch A9 an.nodes.length c9) ∧ OwnN W wd.heap.size (.slice A9 an.nodes.length c9) an.nodes
            | 7 => ∃ A9 c9, v = .agg (lsV (sn : Int) an A9 c9) ∧ OwnN W wd.heap.size (.slice A9 an.nodes.length c9) an.nodes
            | 8 => v = .pointer (some ⟨V.g, 0, none⟩)
            | 9 => v = .pointer (some ⟨V.g, 2, none⟩)
            | _ => v = .pointer (some ⟨V.g, 2 + j * 5, none⟩)) (DoSt wd V (fun b => N b ∨ b = g3 ∨ b = g4) q1 L asked g3 g4 W0) (fun W W' => ∀ b, wd.heap.size ≤ b → b < W.heap.size → W'.heap[b]? = W.heap[b]?) [6] [41, 42, 43, 44, 45, 46, 47, 48, 49, 50, 51] (by kernel_rfl) (by kernel_rfl) (by kernel_rfl) (by kernel_rfl) (by first | rfl | simp) (by kernel_rfl) (fun jx => ?last) ?lastR (fun s W W' h1 h2 => h1.below h2) ⟨K3D.out, K4D.out, Nat.le_refl _, fun _ => Below.refl _ _, fun e => by omega⟩ ?heads ?_
          case last =>
            match jx with
            | 0 | 1 | 2 | 3 | 4 | 5 | 8 | 9 | jx + 10 => exact Lasts.pure _
            | 6 | 7 => exact fun W W' u ⟨A9, c9, h1, h2⟩ hb => ⟨A9, c9, h1, h2.below_ hb⟩
          case lastR =>
            intro s jx W W' u hsl hs hj hp hR
            match jx with
            | 0 | 1 | 2 | 3 | 4 | 5 | 8 | 9 | jx + 10 => exact hp
            | 6 | 7 =>
              obtain ⟨A9, c9, h1, h2⟩ := hp
              exact ⟨A9, c9, h1, h2.keep_ fun b hb => hR b (h2.ge_ hb) (rowD_lt h2 hb).2⟩
          case heads =>
            simp only [List.take_succ_cons, List.take_zero]
            refine ⟨?_, ?_, ?_, ?_, ?_, ?_, ?_, ?_, ?_, ?_, ?_, trivial⟩
            · rw [if_neg (by decide)]
              intro s a W hj hkp hd
              have e0 : a.tmps[0]?.getD undef = .pointer (some ⟨V.g, 0, none⟩) := hkp.get (by kernel_rfl) rfl
              exact rel_value rfl (.pointer (some ⟨V.g, 0, none⟩)) (by go_simp) rfl
            · rw [if_neg (by decide)]
              intro s a W hj hkp hd
              have e0 : a.tmps[6]?.getD undef = .int .i64 (j : Int) := hkp.get (by kernel_rfl) rfl
              exact rel_value rfl (.int .i64 (j : Int)) (by go_simp) rfl
            · rw [if_neg (by decide)]
              intro s a W hj hkp hd
              have e0 : a.tmps[3]?.getD undef = .pointer (some ⟨g3, 0, none⟩) := hkp.get (by kernel_rfl) rfl
              exact rel_value rfl (.pointer (some ⟨g3, 1, none⟩)) (by go_simp) rfl
            · rw [if_neg (by decide)]
              intro s a W hj hkp hd
              have e0 : a.tmps[43]?.getD undef = .pointer (some ⟨g3, 1, none⟩) := (hd 2 (by kernel_rfl)).get 43 rfl rfl
              have cc : W.cell? ⟨g3, 1, none⟩ = some (.int .i64 (sn : Int)) := (hj.k3.cell 1).trans HSN.out
              exact rel_value rfl (.int .i64 (sn : Int)) (by go_simp) rfl
            · rw [if_neg (by decide)]
              intro s a W hj hkp hd
              have e0 : a.tmps[0]?.getD undef = .pointer (some ⟨V.g, 0, none⟩) := hkp.get (by kernel_rfl) rfl
              exact rel_value rfl (.pointer (some ⟨V.g, 0, none⟩)) (by go_simp) rfl
            · rw [if_neg (by decide)]
              intro s a W hj hkp hd
              have e0 : a.eval (.tmp 3) = .pointer (some ⟨g3, 0, none⟩) := by have := hkp.at_ (d := 3) (by kernel_rfl); rw [this]; rfl
              exact rel_value rfl (.agg W0) (exec_load_part 48 (.tmp 3) rfl g3 0 10 e0 48 _ W0 _ hj.k3 Tryz.underlying48 rfl rfl hws (fun _ _ => by rw [Nat.zero_add])) rfl
            · rw [if_pos (by decide)]
              intro s a W hs hj hkp hd
              have h0 : s = 0 := by
                match s, hs with
                | 0, _ => rfl
                | s + 1, hs => simp at hs
              have hbW := hj.zero h0
              have e0 : a.tmps[45]?.getD undef = .pointer (some ⟨V.g, 0, none⟩) := (hd 4 (by kernel_rfl)).get 45 rfl rfl
              have e1 : a.tmps[46]?.getD undef = .agg W0 := (hd 5 (by kernel_rfl)).get 46 rfl rfl
              refine loud_call rfl 85 #[.pointer (some ⟨V.g, 0, none⟩), .agg W0] (by go_simp) ((HANS.out W hbW).mono ?_)
              rintro e w' ⟨D, rfl, ⟨A9, c9, hD, ho⟩, _, hdn⟩
              have hf := ADone.fold HN4.out HV4.out.all (fun b hb => .inr (.inr hb)) hbW hdn
              have hsW := hbW.size
              refine ⟨_, rfl, fun b h1 h2 => hf.2.1 b h1 h2, ⟨?_, ?_, ?_, fun e => by omega, fun _ => ?_⟩, A9, c9, by rw [HAN.out, hD], ?_⟩
              · exact (hf.2.2 g3 (.inr (.inl rfl)) (fun e => by have := HNL.out _ (HV.out.all _ e); omega) hj.k3.lt).trans hj.k3
              · exact (hf.2.2 g4 (.inr (.inr rfl)) (fun e => by have := HNL.out _ (HV.out.all _ e); omega) hj.k4.lt).trans hj.k4
              · exact Nat.le_trans hsW hdn.only.size
              · rw [HQ1.out]; exact hf.1
              · rw [HAN.out]; exact ho.more hsW
            · rw [if_neg (by decide)]
              intro s a W hj hkp hd
              have e0 : a.tmps[44]?.getD undef = .int .i64 (sn : Int) := (hd 3 (by kernel_rfl)).get 44 rfl rfl
              obtain ⟨A9, c9, e1, ho⟩ := (hd 6 (by kernel_rfl)).get 47 rfl rfl
              exact rel_value rfl (.agg (lsV (sn : Int) an A9 c9)) (by simp only [anC] at e1; go_simp; try rfl) ⟨A9, c9, rfl, ho⟩
            · rw [if_neg (by decide)]
              intro s a W hj hkp hd
              have e0 : a.tmps[41]?.getD undef = .pointer (some ⟨V.g, 0, none⟩) := (hd 0 (by kernel_rfl)).get 41 rfl rfl
              exact rel_value rfl (.pointer (some ⟨V.g, 0, none⟩)) (by go_simp) rfl
            · rw [if_neg (by decide)]
              intro s a W hj hkp hd
              have e0 : a.tmps[49]?.getD undef = .pointer (some ⟨V.g, 0, none⟩) := (hd 8 (by kernel_rfl)).get 49 rfl rfl
              exact rel_value rfl (.pointer (some ⟨V.g, 2, none⟩)) (by go_simp) rfl
            · rw [if_neg (by decide)]
              intro s a W hj hkp hd
              have e0 : a.tmps[50]?.getD undef = .pointer (some ⟨V.g, 2, none⟩) := (hd 9 (by kernel_rfl)).get 50 rfl rfl
              have e1 : a.tmps[42]?.getD undef = .int .i64 (j : Int) := (hd 1 (by kernel_rfl)).get 42 rfl rfl
              exact rel_value rfl (.pointer (some ⟨V.g, 2 + j * 5, none⟩)) (by go_simp) rfl
          intro f W hj hd
          have h51 : f 51 = .pointer (some ⟨V.g, 2 + j * 5, none⟩) := hd 10 (by omega) _ 51 rfl rfl
          obtain ⟨A9, c9, h48, ho⟩ := hd 7 (by omega) _ 48 rfl rfl
          have hdn := hj.one rfl
          obtain ⟨S1, hd1⟩ := hdn.vat.dat
          obtain ⟨C, hC⟩ : ∃ C, C = lsV (sn : Int) an A9 c9 := ⟨_, rfl⟩
          have hcs : C.size = 5 := by rw [hC]; rfl
          have hc1 : C.all (·.oneCell') = true := by rw [hC]; exact lsV_one _ _ _ _
          rw [← hC] at h48
          have HC := Lib.hid hC
          have HO := Lib.hid ho
          have HDN := Lib.hid hdn
          have HD1 := Lib.hid hd1
          have K3W := Lib.hid hj.k3
          have K4W := Lib.hid hj.k4
          have hsW := hj.size
          simp only [putAll, List.drop_succ_cons, List.drop_zero, h48, h51]
          clear hd hj ho hdn hd1 hC h48 h51 HANS HBD HV4 K3D K4D
          try simp only [Act.put, List.setIfInBounds_toArray, List.set_cons_zero, List.set_cons_succ]
          go_upto_region 8 with (refine wpList_store_part (o := ⟨none, _, _, _, _, _⟩) rfl 144 (.tmp 51) (.tmp 48) rfl V.g (2 + j * 5) C rfl rfl 147 _ HD1.out.blk (by rw [hcs]; kernel_rfl) (by rw [hcs, aCs_size]; omega) hc1 ?_; intro w7 hT7 hD7)
          have hfar := HDN.out.vat.far
          obtain ⟨hT, L', a', p1, p2, p3, p4⟩ := HDN.out.kept hT7
          have hd7 := HD1.out.lasted hj4 hfar.1 hT7 (by rw [HC.out] at hD7; exact hD7) HO.out HN4.out (by rw [← HDID.out]; exact HOK.out)
          have HST := Lib.hid (aset_any w7 V.g V.gc (2 + j) V.T V.k _ _ _ (leavesQ q1) L' a' hd7 (by omega) hT (leavesQ_len _) p1 (by omega))
          rw [leavesQ_ls hj4, show ((2 + j : Nat) : Int) = 2 + (j : Int) by omega] at HST
          have hne : ∀ g, w.heap.size ≤ g → g ≠ V.g := fun g h e => by have := HNL.out _ (HV.out.all _ (.inl rfl)); omega
          have K37 := Lib.hid (hT7.blk K3W.out (hne g3 hgw3))
          have K47 := Lib.hid (hT7.blk K4W.out (hne g4 hgw4))
          have hs7 := hT7.size
          have HSL := Lib.hid (fun (w8 : World) (h : SetBy w7 w8 V.T V.k (leavesQ q1) (leavesQ (lsQ q1 j sn an)) L' a' 3) => HDN.out.set_last hT7 hd7 p2 p3 p4 h)
          clear hfar hT p1 p2 p3 p4 hd7 hT7 hD7 HO HC
          go_wp2_with fail
          refine HST.out.mono ?_
          rintro _ w8 ⟨rfl, hsb⟩
          have hkT : ∀ b, (V.T.mut b ∨ V.k.has b) → b < w.heap.size := fun b hb => HNL.out b (HV.out.all b (by
            rcases hb with e | e
            · exact .inr (.inr (.inr (.inr (.inr e))))
            · exact .inr (.inr (.inl e))))
          have HM := Lib.hid (show DoMid w V N (didQ m x) L asked g3 g4 W0 w8 from ⟨by rw [HDID.out]; exact (HSL.out w8 hsb).under HBW.out, hsb.only.blk K37.out (fun e => by have := hkT g3 e; omega), hsb.only.blk K47.out (fun e => by have := hkT g4 e; omega), by have := hsb.only.size; omega⟩)
          clear hsb hkT HST HSL
          go_wp2_with fail
          go_meet
          exact ⟨rfl, HM.out⟩
        · rw [decide_eq_false hnew]
          have hdid : didQ m x = m := by
            unfold didQ
            rw [← HJ.out, if_neg (by rw [← HST.out]; exact hnew)]
          have HM := Lib.hid (show DoMid w V N (didQ m x) L asked g3 g4 W0 wd from ⟨by rw [hdid]; exact ADone.idle HBD.out HV4.out HBK.out HIN.out, K3D.out, K4D.out, by omega⟩)
          clear hdid hnew
          go_wp2_with fail
          go_meet
          exact ⟨rfl, HM.out⟩
      case rest =>
        obtain ⟨rfl, hmid⟩ := hcut
        have hmd := hmid.done
        obtain ⟨S6, hd6⟩ := hmd.vat.dat
        have HOL := Lib.hid (aOld_any wc V.g V.gc _ _ _ S6 hd6 x A n c A' n' c' ⟨by omega, by omega⟩)
        rw [← HW0.out] at HOL
        have K36 := Lib.hid hmid.k3
        have K46 := Lib.hid hmid.k4
        have HMD := Lib.hid hmd
        have hs6 := hmid.size
        obtain ⟨oa, hoa⟩ : ∃ q, q = (oldQ (didQ m x) x).1 := ⟨_, rfl⟩
        obtain ⟨ob, hob⟩ : ∃ q, q = (oldQ (didQ m x) x).2 := ⟨_, rfl⟩
        rw [← hoa, ← hob] at HOL
        rw [← hoa] at HPG
        have hl36 := hmid.k3.lt
        have hl46 := hmid.k4.lt
        clear hmid hmd hd6 K3D K4D hoa hob HBD HV4 HD0
        go_wp2_with (refine wpList_load_part (o := ⟨some 58, _, _, _, _, _⟩) rfl 48 (.tmp 3) rfl g3 0 10 rfl 48 _ W0 _ K36.out Tryz.underlying48 rfl rfl hws (fun _ _ => by rw [Nat.zero_add]; try rfl) ?_)
        refine HOL.out.mono ?_
        rintro _ w5 ⟨D, rfl, ha5, hb5⟩
        obtain ⟨A5, c5, hD5, ho5⟩ := ha5
        have hs5 := hb5.size
        have hds : D.size = 4 := by rw [hD5]; rfl
        have hd1 : D.all (·.oneCell') = true := by rw [hD5]; exact anC_one _ _ _ _ _ _ _ _
        have HA5 := Lib.hid (show AnsN w5 wc.heap.size D oa from ⟨A5, c5, hD5, ho5⟩)
        have HB5 := Lib.hid hb5
        have K45 := Lib.hid (K46.out.below' hb5)
        clear hD5 ho5 hb5 HOL
        go_upto_region 10 with (refine wpList_store_part (o := ⟨none, _, _, _, _, _⟩) rfl 52 (.tmp 7) (.tmp 60) rfl w5.heap.size 0 D rfl rfl 52 (anC 0 none 0 0 0 none 0 0) (Blk.newAt rfl) (by rw [hds]; kernel_rfl) (by rw [hds]; simp [anC]) hd1 ?_; intro w7 hT7 hD7)
        rw [spl_self _ _ (by rw [hds]; rfl)] at hD7
        have hb57 : Below w5.heap.size w5 w7 := hT7.below ((Below.refl _ _).alloc (Nat.le_refl _) _) (Nat.le_refl _)
        have hb67 : Below wc.heap.size wc w7 := HB5.out.trans (hb57.mono hs5)
        have hs7 := hb57.size
        have K47 := Lib.hid (K45.out.below' hb57)
        have HA7 := Lib.hid (HA5.out.below hb57)
        have HM7 := Lib.hid (HMD.out.later hb67)
        obtain ⟨g7, hg7⟩ : ∃ b, b = w5.heap.size := ⟨_, rfl⟩
        rw [← hg7] at hD7 ⊢
        have K77 := Lib.hid hD7
        clear hT7 hD7 hb57 hb67 hg7 HB5 HA5 HMD
        go_wp2_with (first | refine wpList_load_part (o := ⟨some 62, _, _, _, _, _⟩) rfl 52 (.tmp 7) rfl g7 0 4 rfl 52 _ D _ K77.out Tryz.underlying52 rfl rfl hds (fun _ _ => by rw [Nat.zero_add]) ?_ | (refine wpList_store_part (o := ⟨none, _, _, _, _, _⟩) rfl 52 (.tmp 4) (.tmp 62) rfl g4 0 D rfl rfl 52 _ K47.out (by rw [hds]; kernel_rfl) (by rw [hds]; simp [anC]) hd1 ?_; intro w8 hT8 hD8; rw [spl_self _ _ (by rw [hds]; rfl)] at hD8))
        refine bodyPost_ret (results_part2 rfl _ _ g4 4 52 _ _ rfl hD8 Tryz.underlying52 rfl rfl hds) rfl ?_
        exact HPG.out w8 D wc.heap.size HQ.out hds (by omega) (HA7.out.keepN (fun b h1 h2 => hT8.block b (by omega))) (ADone.side2 (fun b hb => .inl (HV.out.all b hb)) (fun b hb e => by have := HNL.out b (HV.out.all b hb); omega) hgw4 (.inl (.inr (.inr rfl))) (fun b hb hn => hn.elim (fun e => .inl (.inl e)) (fun e => .inr ⟨e.1, hb⟩)) HM7.out hT8)

theorem ADone.less {w w' : World} {V : ALoc} {N N' : Nat → Prop} {m : AM} {L : List (List UInt8)} {asked q : Nat} (h : ADone w w' V N' m L asked q) (hs : ∀ b, N b → N' b) (hall : ∀ b, V.all b → N b) : ADone w w' V N m L asked q :=
  ⟨h.vat.mono (fun b _ hn => hs b hn) hall, h.book, h.only.mono fun b _ e => e.imp id (fun e hn => e (hs b hn))⟩
theorem aDo_any (w : World) (V : ALoc) (N : Nat → Prop) (m : AM) (L : List (List UInt8)) (asked : Nat) (h : AAt w V N m) (hN : ∀ b, N b → b < w.heap.size) (hbk : BookAt w V.k L asked) (hin : InBook L (leavesQ m)) (has : asked ≤ 700000)
    (x : Wish) (A : Option Addr) (n c : Nat) (A' : Option Addr) (n' c' : Nat) (B : Nat) (hx : WishIn w B x A n c A' n' c') (hB : B ≤ w.heap.size) :
    Calls Tryz.prog 24 #[.pointer (some ⟨V.g, 0, none⟩), .agg (wCells x A n c A' n' c')] w (ADoPost w V N L asked (doQ m x)) := by
  refine (aDo2_any w V N m L asked h hN hbk hin has x A n c A' n' c' B hx hB).mono ?_
  rintro r w' ⟨D, q, h1, h2, h3, h4, h5⟩
  exact ⟨D, h1, h2, h4.more h3, h5.less (fun b hb => .inl hb) h.all⟩

end Go.Proofs.YtlaodmmjhjpfmaaGreat

/- Lists of crews in memory of their own. -/
namespace Go.Proofs.YtlaodmmjhjpfmaaGreat
set_option linter.unusedVariables false
set_option linter.unusedSimpArgs false
open Go.RowKit Go.Maps

attribute [local irreducible] wpList wpCalm
def crRows (f : Nat) (nA : Nat → Option Addr) (nC : Nat → Nat) : Nat → List (List Int) → List Value
  | _, [] => []
  | i, l :: t => .int .i64 (f : Int) :: .slice (nA i) l.length (nC i) :: crRows f nA nC (i + 1) t
theorem crRows_app (f : Nat) (nA : Nat → Option Addr) (nC : Nat → Nat) (s : List Int) : ∀ (l : List (List Int)) (i : Nat), crRows f nA nC i (l ++ [s]) = crRows f nA nC i l ++ [.int .i64 (f : Int), .slice (nA (i + l.length)) s.length (nC (i + l.length))]
  | [], i => rfl
  | q :: t, i => by
    show _ :: _ :: crRows f nA nC (i + 1) (t ++ [s]) = _ :: _ :: (crRows f nA nC (i + 1) t ++ _)
    rw [crRows_app f nA nC s t (i + 1), show i + (q :: t).length = i + 1 + t.length by simp only [List.length_cons]; omega]
theorem crRows_same (f : Nat) (nA nA' : Nat → Option Addr) (nC nC' : Nat → Nat) : ∀ (l : List (List Int)) (i : Nat), (∀ k, i ≤ k → k < i + l.length → nA k = nA' k ∧ nC k = nC' k) → crRows f nA nC i l = crRows f nA' nC' i l
  | [], _, _ => rfl
  | q :: t, i, h => by
    have h1 := h i (Nat.le_refl _) (by simp)
    show _ :: _ :: crRows f nA nC (i + 1) t = _ :: _ :: crRows f nA' nC' (i + 1) t
    rw [h1.1, h1.2, crRows_same f nA nA' nC nC' t (i + 1) fun k h2 h3 => h k (by omega) (by simp only [List.length_cons]; omega)]
theorem crRows_get (f : Nat) (nA : Nat → Option Addr) (nC : Nat → Nat) : ∀ (l : List (List Int)) (i k : Nat) (s : List Int), l[k]? = some s → (crRows f nA nC i l)[k * 2]? = some (.int .i64 (f : Int)) ∧ (crRows f nA nC i l)[k * 2 + 1]? = some (.slice (nA (i + k)) s.length (nC (i + k)))
  | q :: t, i, 0, s, h => by
    obtain rfl := Option.some.inj h
    exact ⟨rfl, rfl⟩
  | q :: t, i, k + 1, s, h => by
    have := crRows_get f nA nC t (i + 1) k s (by simpa using h)
    rw [show (k + 1) * 2 = k * 2 + 1 + 1 by omega, show i + (k + 1) = i + 1 + k by omega]
    exact this
/-- crews in memory of their own, rows and nodes -/
structure OwnCr (w : World) (B : Nat) (v : Value) (f : Nat) (ls : List (List Int)) (nA : Nat → Option Addr) (nC : Nat → Nat) : Prop where
  row : w.ownsRow B 57 2 v ls.length (crRows f nA nC 0 ls)
  nodes : ∀ i l, ls[i]? = some l → OwnN w B (.slice (nA i) l.length (nC i)) l
theorem OwnCr.keep {w w' : World} {B f : Nat} {v : Value} {ls : List (List Int)} {nA : Nat → Option Addr} {nC : Nat → Nat} (h : OwnCr w B v f ls nA nC) (hk : ∀ b, B ≤ b → b < w.heap.size → w'.heap[b]? = w.heap[b]?) : OwnCr w' B v f ls nA nC :=
  ⟨rowD_keep h.row fun b hb => hk b (rowD_lt h.row hb).1 (rowD_lt h.row hb).2, fun i l hl => (h.nodes i l hl).keep_ fun b hb => hk b ((h.nodes i l hl).ge_ hb) (rowD_lt (h.nodes i l hl) hb).2⟩
theorem OwnCr.below {w w' : World} {B f : Nat} {v : Value} {ls : List (List Int)} {nA : Nat → Option Addr} {nC : Nat → Nat} (h : OwnCr w B v f ls nA nC) (hb : Below w.heap.size w w') : OwnCr w' B v f ls nA nC := h.keep fun b _ hl => hb.block b hl
/-- a variable of a crew's turns -/
theorem OwnCr.turned {w w' : World} {B f g : Nat} {v : Value} {ls : List (List Int)} {nA : Nat → Option Addr} {nC : Nat → Nat} (h : OwnCr w B v f ls nA nC) (hT : Turned g w w') (hv : v.ownBlock ≠ some g) {t : TypeId} {cs : Array Value} (hg : Blk w g t cs) (ht : 3 ≠ t) : OwnCr w' B v f ls nA nC :=
  ⟨rowD_keep h.row fun b hb => hT.block b (fun e => hv (by rw [hb, e])), fun i l hl => (h.nodes i l hl).keep_ fun b hb => hT.block b (fun e => own_blk_ne (h.nodes i l hl) hg ht (by rw [hb, e]))⟩
theorem OwnCr.push {w W : World} {B f : Nat} {v v' : Value} {ls : List (List Int)} {l : List Int} {nA : Nat → Option Addr} {nC : Nat → Nat} {A : Option Addr} {c : Nat} (h : OwnCr w B v f ls nA nC) (hg : w.grownBy W v.ownBlock) (ho : OwnN w B (.slice A l.length c) l)
    (hrow : W.ownsRow B 57 2 v' (ls.length + 1) (crRows f nA nC 0 ls ++ [.int .i64 (f : Int), .slice A l.length c])) :
    OwnCr W B v' f (ls ++ [l]) (fun k => if k = ls.length then A else nA k) (fun k => if k = ls.length then c else nC k) := by
  have hkeep : ∀ {u : Value} {xs : List Int}, OwnN w B u xs → OwnN W B u xs := fun {u xs} hu => hu.keep_ fun b hb => hg.block b (rowD_lt hu hb).2 (fun e => by
    rcases h.row.2 with ⟨e1, _⟩ | ⟨gc, cap, cur, e1, _, e3, _⟩
    · rw [e1] at e; cases e
    · have hB : Blk w gc 57 cur := e3
      rw [e1] at e
      have e' : b = gc := by simpa [Value.ownBlock] using e
      exact own_blk_ne hu hB (by decide) (e' ▸ hb))
  refine ⟨?_, ?_⟩
  · have e1 : crRows f (fun k => if k = ls.length then A else nA k) (fun k => if k = ls.length then c else nC k) 0 (ls ++ [l]) = crRows f nA nC 0 ls ++ [.int .i64 (f : Int), .slice A l.length c] := by
      rw [crRows_app, crRows_same f _ nA _ nC ls 0 (fun k _ hk => ⟨if_neg (by omega), if_neg (by omega)⟩)]
      simp only [Nat.zero_add, if_true]
    rw [e1, List.length_append]
    exact hrow
  · intro i s hs
    rcases Nat.lt_or_ge i ls.length with hi | hi
    · rw [List.getElem?_append_left hi] at hs
      rw [if_neg (by omega), if_neg (by omega)]
      exact hkeep (h.nodes i s hs)
    · have hi2 : i = ls.length := by
        have := (List.getElem?_eq_some_iff.1 hs).1
        rw [List.length_append, List.length_singleton] at this; omega
      subst hi2
      rw [List.getElem?_append_right (Nat.le_refl _), Nat.sub_self] at hs
      obtain rfl := Option.some.inj hs
      simp only [if_true]
      exact hkeep ho
theorem OwnCr.one {w : World} {B f g : Nat} {l : List Int} {A : Option Addr} {c : Nat} (hB : B ≤ g) (hb : Blk w g 57 (crC f A l.length c)) (ho : OwnN w B (.slice A l.length c) l) : OwnCr w B (.slice (some ⟨g, 0, none⟩) 1 1) f [l] (fun _ => A) (fun _ => c) :=
  ⟨⟨rfl, .inr ⟨g, 1, _, rfl, hB, hb, Nat.le_refl _, by unfold maxLen; omega, rfl, rfl⟩⟩, fun i s hs => by
    cases i with
    | zero => obtain rfl := Option.some.inj hs; exact ho
    | succ i => simp at hs⟩
theorem MovesOk.at_ : ∀ {l : List Int} {a : List (Int × Int)} {i : Nat} {o z : Int}, MovesOk l a → a[i]? = some (o, z) → goodR (nowL l (a.take i)) o z
  | _, m :: t, 0, o, z, h, e => by
    obtain rfl := Option.some.inj e
    exact ⟨h.1, h.2.1, h.2.2.1, h.2.2.2.1⟩
  | l, m :: t, i + 1, o, z, h, e => MovesOk.at_ (l := replL l m.1 m.2) h.2.2.2.2 (by simpa using e)
theorem cr_info : (Tryz.prog.info? 57).map (fun i => (i.zero, i.size, i.bytes)) = some (some (.agg (crC 0 none 0 0)), 2, 32) := by kernel_rfl

end Go.Proofs.YtlaodmmjhjpfmaaGreat
