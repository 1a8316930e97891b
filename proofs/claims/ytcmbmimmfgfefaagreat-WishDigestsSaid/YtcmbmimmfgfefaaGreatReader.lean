/-
  Contracts of the reader: num, str, many, end.
-/
import Derived.Test.YtcmbmimmfgfefaaGreatWishBytes
namespace Go.Proofs.YtcmbmimmfgfefaaGreat
set_option linter.unusedVariables false
open Go.RowKit

/-- bytes that are left, the error's number -/
abbrev RdS := List UInt8 × Nat
def rdN (s : RdS) : Nat × RdS := if s.2 = 0 then ((tn s.1).1, ((tn s.1).2.1, (tn s.1).2.2)) else (0, s)
def rdT (s : RdS) (most : Nat) : List UInt8 × RdS := if s.2 = 0 then ((ts s.1 most).1, ((ts s.1 most).2.1, (ts s.1 most).2.2)) else ([], s)
def rdM (s : RdS) (most : Nat) : Nat × RdS :=
  if (rdN s).2.2 = 0 then (if most < (rdN s).1 then (0, ((rdN s).2.1, 5)) else ((rdN s).1, (rdN s).2)) else (0, (rdN s).2)
def rdE (s : RdS) : Nat := if s.2 = 0 ∧ 0 < s.1.length then 4 else s.2

/-- of what was there, block g alone may have turned -/
structure OnlyAt (g : Nat) (w w' : World) : Prop where
  os : w'.os = w.os
  tape : w'.tape = w.tape
  output : w'.output = w.output
  size : w.heap.size ≤ w'.heap.size
  block : ∀ i, i < w.heap.size → i ≠ g → w'.heap[i]? = w.heap[i]?
theorem OnlyAt.refl (g : Nat) (w : World) : OnlyAt g w w := ⟨rfl, rfl, rfl, Nat.le_refl _, fun _ _ _ => rfl⟩
theorem OnlyAt.of_below {g : Nat} {w w' : World} (h : Below w.heap.size w w') : OnlyAt g w w' := ⟨h.os, h.tape, h.output, h.size, fun i hi _ => h.block i hi⟩
theorem OnlyAt.trans {g : Nat} {a b c : World} (h : OnlyAt g a b) (k : OnlyAt g b c) : OnlyAt g a c :=
  ⟨k.os.trans h.os, k.tape.trans h.tape, k.output.trans h.output, Nat.le_trans h.size k.size, fun i hi hn => (k.block i (Nat.lt_of_lt_of_le hi h.size) hn).trans (h.block i hi hn)⟩
theorem OnlyAt.set {g : Nat} {a b : World} (h : OnlyAt g a b) (i : Nat) (u : Value) : OnlyAt g a (b.setCell ⟨g, i, none⟩ u) :=
  ⟨h.os, h.tape, h.output, by simpa [World.setCell] using h.size, fun j hj h1 => (Below.heap_setCell b ⟨g, i, none⟩ u j h1).trans (h.block j hj h1)⟩
theorem OnlyAt.below {g : Nat} {w0 w w' : World} {B : Nat} (h : OnlyAt g w w') (hb : Below B w0 w) (hB : B ≤ w.heap.size) (hg : B ≤ g) : Below B w0 w' :=
  hb.trans ⟨h.os, h.tape, h.output, h.size, fun i hi => h.block i (by omega) (by omega)⟩

def rdCells (A : Option Addr) (n c e : Nat) : Array Value := #[.slice A n c, .int .i64 (e : Int)]
structure RdAt (w : World) (g : Nat) (N : Nat → Prop) (s : RdS) : Prop where
  err : s.2 < 10
  has : ∃ A n c, Blk w g 78 (rdCells A n c s.2) ∧ n ≤ c ∧ n ≤ 140737488355328 ∧ Reads w w.heap.size 1 A n (s.1.map vb) ∧ ∀ a, 0 < n → A = some a → ¬ N a.block
theorem RdAt.keep {w w' : World} {g : Nat} {N : Nat → Prop} {s : RdS} (h : RdAt w g N s) (hg : w'.heap[g]? = w.heap[g]?) (hs : w.heap.size ≤ w'.heap.size) (hk : ∀ i, i < w.heap.size → ¬ N i → w'.heap[i]? = w.heap[i]?) : RdAt w' g N s := by
  obtain ⟨A, n, c, h1, h2, h3, h4, h5⟩ := h.has
  refine ⟨h.err, A, n, c, hg.trans h1, h2, h3, ⟨h4.1, fun h0 => ?_⟩, h5⟩
  obtain ⟨ad, hA, hb, hc⟩ := h4.2 h0
  exact ⟨ad, hA, by omega, fun j u hu => (World.cell?_of_block (hk _ (by rw [block_of_add]; exact hb) (by rw [block_of_add]; exact h5 ad h0 hA))).trans (hc j u hu)⟩
theorem RdAt.below {w w' : World} {g : Nat} {N : Nat → Prop} {s : RdS} (h : RdAt w g N s) (hb : Below w.heap.size w w') : RdAt w' g N s := by
  obtain ⟨A, n, c, h1, _⟩ := h.has
  exact h.keep (hb.block g h1.lt) hb.size fun i hi _ => hb.block i hi
theorem RdAt.lt {w : World} {g : Nat} {N : Nat → Prop} {s : RdS} (h : RdAt w g N s) : g < w.heap.size := by obtain ⟨A, n, c, h1, _⟩ := h.has; exact h1.lt
theorem RdAt.len {w : World} {g : Nat} {N : Nat → Prop} {s : RdS} (h : RdAt w g N s) : s.1.length ≤ 140737488355328 := by
  obtain ⟨A, n, c, _, _, h3, h4, _⟩ := h.has
  have : s.1.length = n := by have := h4.1; simpa using this
  omega
theorem rdN_err (s : RdS) (h : s.2 < 10) : (rdN s).2.2 < 10 := by
  unfold rdN
  split
  · exact tn_err _
  · exact h

theorem RdAt.stored {w w2 : World} {g : Nat} {N : Nat → Prop} {A A2 : Option Addr} {n c e c2 e2 : Nat} {r : List UInt8} (hk : Blk w2 g 78 (rdCells A n c e)) (hb : Below w.heap.size w w2) (hN : ∀ b, N b → b < w.heap.size) (hg : N g)
    (hr : Reads w2 w2.heap.size 1 A2 r.length (r.map vb)) (hA : ∀ ad, A2 = some ad → w.heap.size ≤ ad.block) (h1 : r.length ≤ c2) (h2 : r.length ≤ 140737488355328) (he : e2 < 10) :
    RdAt ((w2.setCell ⟨g, 0, none⟩ (.slice A2 r.length c2)).setCell ⟨g, 1, none⟩ (.int .i64 (e2 : Int))) g N (r, e2) ∧ OnlyAt g w ((w2.setCell ⟨g, 0, none⟩ (.slice A2 r.length c2)).setCell ⟨g, 1, none⟩ (.int .i64 (e2 : Int))) := by
  refine ⟨⟨he, A2, r.length, c2, (hk.set_ 0 _).set_ 1 _, h1, h2, ⟨hr.1, fun h0 => ?_⟩, fun a h0 ha hn => by have := hN _ hn; have := hA a ha; omega⟩, ((OnlyAt.of_below hb).set 0 _).set 1 _⟩
  obtain ⟨ad, hAd, hbl, hc⟩ := hr.2 h0
  have hge := hA ad hAd
  have hgl := hN g hg
  refine ⟨ad, hAd, by simpa [World.setCell] using hbl, fun j u hu => ?_⟩
  have h3 : (ad.add j).block ≠ g := by rw [block_of_add]; omega
  rw [World.cell?_setCell_other _ _ _ _ (fun e => h3 (by rw [← e])), World.cell?_setCell_other _ _ _ _ (fun e => h3 (by rw [← e]))]
  exact hc j u hu

set_option maxRecDepth 100000 in
set_option maxHeartbeats 2000000 in
theorem rdNum_any (g : Nat) (N : Nat → Prop) (s : RdS) (w : World) (h : RdAt w g N s) (hN : ∀ b, N b → b < w.heap.size) (hg : N g) :
    Calls Tryz.prog 60 #[.pointer (some ⟨g, 0, none⟩)] w fun e w' => e = .returned (.int .i64 ((rdN s).1 : Int)) ∧ RdAt w' g N (rdN s).2 ∧ OnlyAt g w w' := by
  have herr := rdN_err s h.err
  obtain ⟨A, n, c, hk, hnc, hnm, hr, ha⟩ := h.has
  have hlt := h.err
  have HH := Lib.hid h
  have HER := Lib.hid herr
  have c0 : w.cell? ⟨g, 0, none⟩ = some (.slice A n c) := (hk.cell 0).trans rfl
  have c1 : w.cell? ⟨g, 1, none⟩ = some (.int .i64 (s.2 : Int)) := (hk.cell 1).trans rfl
  obtain ⟨xs, e⟩ := s
  simp only at hr hlt c1 hk
  have HK := Lib.hid hk
  clear herr h hk
  by_cases he : e = 0
  · subst he
    have hq : rdN (xs, 0) = ((tn xs).1, ((tn xs).2.1, (tn xs).2.2)) := by unfold rdN; rw [if_pos rfl]
    rw [hq] at HER ⊢
    have HT := Lib.hid (takeNum_any A n c xs w w.heap.size hr (Nat.le_refl _) hnc hnm)
    have HL := Lib.hid (show (tn xs).2.1.length ≤ n by have := tn_len xs; have := hr.1; simp at this; omega)
    obtain ⟨p, hp⟩ : ∃ p, p = tn xs := ⟨_, rfl⟩
    rw [← hp] at HER HT HL ⊢
    obtain ⟨k, r, e2⟩ := p
    simp only at HER HT HL ⊢
    clear hp hq hr
    go_enter Tryz.func60, Tryz.ntmps60
    go_wp2_with fail
    refine HT.out.mono ?_
    rintro _ w2 ⟨v, rfl, ho, hb2⟩
    obtain ⟨A2, c2, rfl, h1, h2, h3, h4⟩ := own_slice_b ho
    have hk2 := HK.out.under hb2
    have d0 : w2.cell? ⟨g, 0, none⟩ = some (.slice A n c) := (hk2.cell 0).trans rfl
    have d1 : w2.cell? ⟨g, 1, none⟩ = some (.int .i64 ((0 : Nat) : Int)) := (hk2.cell 1).trans rfl
    have f0 := hk2.frozen 0
    have f1 := hk2.frozen 1
    have HB2 := Lib.hid hb2
    have HK2 := Lib.hid hk2
    have HR2 := Lib.hid h3
    have HA2 := Lib.hid h4
    clear ho hb2 hk2 h3 h4
    go_wp2_with fail
    go_ret
    have := RdAt.stored (e2 := e2) HK2.out HB2.out hN hg HR2.out HA2.out h1 (by have := HL.out; omega) HER.out
    exact ⟨rfl, this.1, this.2⟩
  · have hq : rdN (xs, e) = (0, (xs, e)) := by unfold rdN; rw [if_neg he]
    rw [hq]
    have he' : ¬ (e : Int) = 0 := by omega
    clear hr
    go_enter Tryz.func60, Tryz.ntmps60
    go_wp2_with fail
    go_ret
    exact ⟨rfl, HH.out, OnlyAt.refl _ _⟩

theorem rdT_err (s : RdS) (most : Nat) (h : s.2 < 10) : (rdT s most).2.2 < 10 := by
  unfold rdT
  split
  · rw [ts_eq]
    have := tn_err s.1
    split
    · exact this
    · split
      · simp
      · split <;> simp
  · exact h
theorem ts_len (b : List UInt8) (most : Nat) : (ts b most).2.1.length ≤ b.length := by
  rw [ts_eq]
  have := tn_len b
  split
  · simp
  · split
    · simp
    · split
      · simp
      · simp; omega

set_option maxRecDepth 100000 in
set_option maxHeartbeats 2000000 in
theorem rdStr_any (g most : Nat) (N : Nat → Prop) (s : RdS) (w : World) (h : RdAt w g N s) (hN : ∀ b, N b → b < w.heap.size) (hg : N g) (hm : most ≤ 65536) :
    Calls Tryz.prog 42 #[.pointer (some ⟨g, 0, none⟩), .int .i64 (most : Int)] w fun e w' => ∃ v, e = .returned v ∧ OwnB w' w.heap.size v (rdT s most).1 ∧ RdAt w' g N (rdT s most).2 ∧ OnlyAt g w w' := by
  have herr := rdT_err s most h.err
  obtain ⟨A, n, c, hk, hnc, hnm, hr, ha⟩ := h.has
  have hlt := h.err
  have HH := Lib.hid h
  have HER := Lib.hid herr
  have c0 : w.cell? ⟨g, 0, none⟩ = some (.slice A n c) := (hk.cell 0).trans rfl
  have c1 : w.cell? ⟨g, 1, none⟩ = some (.int .i64 (s.2 : Int)) := (hk.cell 1).trans rfl
  obtain ⟨xs, e⟩ := s
  simp only at hr hlt c1 hk
  have HK := Lib.hid hk
  clear herr h hk
  by_cases he : e = 0
  · subst he
    have hq : rdT (xs, 0) most = ((ts xs most).1, ((ts xs most).2.1, (ts xs most).2.2)) := by unfold rdT; rw [if_pos rfl]
    rw [hq] at HER ⊢
    have HT := Lib.hid (takeStr_any A n c most xs w w.heap.size hr (Nat.le_refl _) hnc hnm hm)
    have HL := Lib.hid (show (ts xs most).2.1.length ≤ n by have := ts_len xs most; have := hr.1; simp at this; omega)
    obtain ⟨p, hp⟩ : ∃ p, p = ts xs most := ⟨_, rfl⟩
    rw [← hp] at HER HT HL ⊢
    obtain ⟨k, r, e2⟩ := p
    simp only at HER HT HL ⊢
    clear hp hq hr
    go_enter Tryz.func42, Tryz.ntmps42
    go_wp2_with fail
    refine HT.out.mono ?_
    rintro _ w2 ⟨u, v, rfl, hou, ho, hb2⟩
    obtain ⟨A2, c2, rfl, h1, h2, h3, h4⟩ := own_slice_b ho
    have hk2 := HK.out.under hb2
    have d0 : w2.cell? ⟨g, 0, none⟩ = some (.slice A n c) := (hk2.cell 0).trans rfl
    have d1 : w2.cell? ⟨g, 1, none⟩ = some (.int .i64 ((0 : Nat) : Int)) := (hk2.cell 1).trans rfl
    have f0 := hk2.frozen 0
    have f1 := hk2.frozen 1
    have HB2 := Lib.hid hb2
    have HK2 := Lib.hid hk2
    have HR2 := Lib.hid h3
    have HA2 := Lib.hid h4
    have HOU := Lib.hid hou
    clear ho hb2 hk2 h3 h4 hou
    go_wp2_with fail
    go_ret
    have := RdAt.stored (e2 := e2) HK2.out HB2.out hN hg HR2.out HA2.out h1 (by have := HL.out; omega) HER.out
    refine ⟨_, rfl, HOU.out.keep fun b hb => ?_, this.1, this.2⟩
    have h5 := HOU.out.ge hb
    have h6 := hN g hg
    exact (Below.heap_setCell _ ⟨g, 1, none⟩ _ b (by show b ≠ g; omega)).trans (Below.heap_setCell _ ⟨g, 0, none⟩ _ b (by show b ≠ g; omega))
  · have hq : rdT (xs, e) most = ([], (xs, e)) := by unfold rdT; rw [if_neg he]
    rw [hq]
    have he' : ¬ (e : Int) = 0 := by omega
    clear hr
    go_enter Tryz.func42, Tryz.ntmps42
    go_wp2_with fail
    go_ret
    exact ⟨_, rfl, OwnB.nil _ _, HH.out, OnlyAt.refl _ _⟩

theorem RdAt.code {w : World} {g : Nat} {N : Nat → Prop} {s : RdS} (h : RdAt w g N s) (e2 : Nat) (he : e2 < 10) (hg : N g) : RdAt (w.setCell ⟨g, 1, none⟩ (.int .i64 (e2 : Int))) g N (s.1, e2) := by
  obtain ⟨A, n, c, hk, h2, h3, h4, h5⟩ := h.has
  refine ⟨he, A, n, c, hk.set_ 1 _, h2, h3, ⟨h4.1, fun h0 => ?_⟩, h5⟩
  obtain ⟨ad, hAd, hbl, hc⟩ := h4.2 h0
  refine ⟨ad, hAd, by simpa [World.setCell] using hbl, fun j u hu => ?_⟩
  have h6 : (ad.add j).block ≠ g := by rw [block_of_add]; exact fun e => h5 ad h0 hAd (e ▸ hg)
  rw [World.cell?_setCell_other _ _ _ _ (fun e => h6 (by rw [← e]))]
  exact hc j u hu

set_option maxRecDepth 100000 in
set_option maxHeartbeats 2000000 in
theorem rdMany_any (g most : Nat) (N : Nat → Prop) (s : RdS) (w : World) (h : RdAt w g N s) (hN : ∀ b, N b → b < w.heap.size) (hg : N g) (hm : most ≤ 65536) :
    Calls Tryz.prog 41 #[.pointer (some ⟨g, 0, none⟩), .int .i64 (most : Int)] w fun e w' => e = .returned (.int .i64 ((rdM s most).1 : Int)) ∧ RdAt w' g N (rdM s most).2 ∧ OnlyAt g w w' := by
  have HN := Lib.hid (rdNum_any g N s w h hN hg)
  have hq : rdM s most = if (rdN s).2.2 = 0 then (if most < (rdN s).1 then (0, ((rdN s).2.1, 5)) else ((rdN s).1, (rdN s).2)) else (0, (rdN s).2) := rfl
  rw [hq]
  clear h hq
  obtain ⟨p, hp⟩ : ∃ p, p = rdN s := ⟨_, rfl⟩
  rw [← hp] at HN ⊢
  obtain ⟨k, r, e⟩ := p
  simp only at HN ⊢
  clear hp
  obtain ⟨R, hR⟩ : ∃ R : Nat × RdS, R = if e = 0 then (if most < k then (0, (r, 5)) else (k, (r, e))) else (0, (r, e)) := ⟨_, rfl⟩
  rw [← hR]
  have HQ := Lib.hid hR
  clear hR
  go_enter Tryz.func41, Tryz.ntmps41
  go_wp2_with fail
  refine HN.out.mono ?_
  rintro _ w2 ⟨rfl, hrd, ho⟩
  have HR := Lib.hid hrd
  have HO := Lib.hid ho
  obtain ⟨A, n, c, hk, _⟩ := hrd.has
  have d1 : w2.cell? ⟨g, 1, none⟩ = some (.int .i64 (e : Int)) := (hk.cell 1).trans rfl
  have f1 := hk.frozen 1
  clear hrd ho hk
  by_cases he : e = 0
  · subst he
    by_cases hmk : most < k
    · go_wp2_with fail
      go_ret
      have hp := HQ.out
      rw [if_pos trivial, if_pos hmk] at hp
      rw [hp]
      exact ⟨rfl, HR.out.code 5 (by omega) hg, HO.out.set 1 _⟩
    · go_wp2_with fail
      go_ret
      have hp := HQ.out
      rw [if_pos trivial, if_neg hmk] at hp
      rw [hp]
      exact ⟨rfl, HR.out, HO.out⟩
  · have he' : ¬ (e : Int) = 0 := by omega
    go_wp2_with fail
    go_ret
    have hp := HQ.out
    rw [if_neg he] at hp
    rw [hp]
    exact ⟨rfl, HR.out, HO.out⟩

set_option maxRecDepth 100000 in
set_option maxHeartbeats 2000000 in
theorem rdEnd_any (g : Nat) (N : Nat → Prop) (s : RdS) (w : World) (h : RdAt w g N s) (hg : N g) :
    Calls Tryz.prog 44 #[.pointer (some ⟨g, 0, none⟩)] w fun e w' => e = .returned (.int .i64 (rdE s : Int)) ∧ RdAt w' g N (s.1, rdE s) ∧ OnlyAt g w w' := by
  obtain ⟨A, n, c, hk, hnc, hnm, hr, ha⟩ := h.has
  have hn : s.1.length = n := by have := hr.1; simpa using this
  have HH := Lib.hid h
  have c0 : w.cell? ⟨g, 0, none⟩ = some (.slice A n c) := (hk.cell 0).trans rfl
  have c1 : w.cell? ⟨g, 1, none⟩ = some (.int .i64 (s.2 : Int)) := (hk.cell 1).trans rfl
  have f1 := hk.frozen 1
  obtain ⟨xs, e⟩ := s
  simp only at hr hn c1 hk
  have hq : rdE (xs, e) = if e = 0 ∧ 0 < n then 4 else e := by unfold rdE; simp only [hn]
  rw [hq]
  clear h hk hr ha hn hq
  by_cases he : e = 0
  · subst he
    by_cases h0 : 0 < n
    · rw [if_pos ⟨rfl, h0⟩]
      go_enter Tryz.func44, Tryz.ntmps44
      go_wp2_with fail
      go_ret
      exact ⟨rfl, HH.out.code 4 (by omega) hg, (OnlyAt.refl _ _).set 1 _⟩
    · rw [if_neg (fun h => h0 h.2)]
      go_enter Tryz.func44, Tryz.ntmps44
      go_wp2_with fail
      go_ret
      exact ⟨rfl, HH.out, OnlyAt.refl _ _⟩
  · rw [if_neg (fun h => he h.1)]
    have he' : ¬ (e : Int) = 0 := by omega
    go_enter Tryz.func44, Tryz.ntmps44
    go_wp2_with fail
    go_ret
    exact ⟨rfl, HH.out, OnlyAt.refl _ _⟩

end Go.Proofs.YtcmbmimmfgfefaaGreat
