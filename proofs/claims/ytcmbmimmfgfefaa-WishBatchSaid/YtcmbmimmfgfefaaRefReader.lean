/-
  Contracts of the reference's reader: num, str, many, end.
-/
import Derived.Test.YtcmbmimmfgfefaaRefTake
import Derived.Test.YtcmbmimmfgfefaaParseF
namespace Go.Proofs.Ytcmbmimmfgfefaa
set_option linter.unusedVariables false
open Go.RowKit

/-- the reference's reader: its bytes count as long as there is no error -/
structure RfAt (w : World) (g : Nat) (N : Nat → Prop) (s : RdS) : Prop where
  err : s.2 < 10
  has : ∃ A n c, Blk w g 71 (rdCells A n c s.2) ∧ (s.2 = 0 → n ≤ c ∧ n ≤ 140737488355328 ∧ Reads w w.heap.size 1 A n (s.1.map vb) ∧ ∀ a, 0 < n → A = some a → ¬ N a.block)
theorem RfAt.keep {w w' : World} {g : Nat} {N : Nat → Prop} {s : RdS} (h : RfAt w g N s) (hg : w'.heap[g]? = w.heap[g]?) (hs : w.heap.size ≤ w'.heap.size) (hk : ∀ i, i < w.heap.size → ¬ N i → w'.heap[i]? = w.heap[i]?) : RfAt w' g N s := by
  obtain ⟨A, n, c, h1, h2⟩ := h.has
  refine ⟨h.err, A, n, c, hg.trans h1, fun h0 => ?_⟩
  obtain ⟨h3, h4, h5, h6⟩ := h2 h0
  refine ⟨h3, h4, ⟨h5.1, fun h0 => ?_⟩, h6⟩
  obtain ⟨ad, hA, hb, hc⟩ := h5.2 h0
  exact ⟨ad, hA, by omega, fun j u hu => (World.cell?_of_block (hk _ (by rw [block_of_add]; exact hb) (by rw [block_of_add]; exact h6 ad h0 hA))).trans (hc j u hu)⟩
theorem RfAt.lt {w : World} {g : Nat} {N : Nat → Prop} {s : RdS} (h : RfAt w g N s) : g < w.heap.size := by obtain ⟨A, n, c, h1, _⟩ := h.has; exact h1.lt
theorem RfAt.below {w w' : World} {g : Nat} {N : Nat → Prop} {s : RdS} (h : RfAt w g N s) (hb : Below w.heap.size w w') : RfAt w' g N s :=
  h.keep (hb.block g h.lt) hb.size fun i hi _ => hb.block i hi
theorem RfAt.mono {w : World} {g : Nat} {N N' : Nat → Prop} {s : RdS} (h : RfAt w g N s) (hN : ∀ b, N' b → N b ∨ w.heap.size ≤ b) : RfAt w g N' s := by
  obtain ⟨A, n, c, h1, h2⟩ := h.has
  refine ⟨h.err, A, n, c, h1, fun h0 => ?_⟩
  obtain ⟨h3, h4, h5, h6⟩ := h2 h0
  refine ⟨h3, h4, h5, fun a h0 ha hn => ?_⟩
  obtain ⟨ad, hA, hb, _⟩ := h5.2 h0
  rw [hA] at ha
  injection ha with ha
  subst ha
  rcases hN _ hn with h | h
  · exact h6 ad h0 hA h
  · omega
theorem RfAt.set {w : World} {g k i : Nat} {N : Nat → Prop} {s : RdS} {u : Value} (h : RfAt w g N s) (hne : g ≠ k) (hk : N k) : RfAt (w.setCell ⟨k, i, none⟩ u) g N s :=
  h.keep (Below.heap_setCell w ⟨k, i, none⟩ u g hne) (by simp [World.setCell]) fun j hj hn => Below.heap_setCell w ⟨k, i, none⟩ u j (fun e => hn (e ▸ hk))

/-- the bytes are laid anew -/
theorem RfAt.rest {w w2 : World} {g : Nat} {N : Nat → Prop} {A A2 : Option Addr} {n c c2 : Nat} {r : List UInt8} (hk : Blk w2 g 71 (rdCells A n c 0)) (hb : Below w.heap.size w w2) (hN : ∀ b, N b → b < w.heap.size) (hg : N g)
    (hr : Reads w2 w2.heap.size 1 A2 r.length (r.map vb)) (hA : ∀ ad, A2 = some ad → w.heap.size ≤ ad.block) (h1 : r.length ≤ c2) (h2 : r.length ≤ 140737488355328) :
    RfAt (w2.setCell ⟨g, 0, none⟩ (.slice A2 r.length c2)) g N (r, 0) ∧ OnlyAt g w (w2.setCell ⟨g, 0, none⟩ (.slice A2 r.length c2)) := by
  refine ⟨⟨by show 0 < 10; omega, A2, r.length, c2, hk.set_ 0 _, fun _ => ⟨h1, h2, ⟨hr.1, fun h0 => ?_⟩, fun a h0 ha hn => by have := hN _ hn; have := hA a ha; omega⟩⟩, (OnlyAt.of_below hb).set 0 _⟩
  obtain ⟨ad, hAd, hbl, hc⟩ := hr.2 h0
  have hge := hA ad hAd
  have hgl := hN g hg
  refine ⟨ad, hAd, by simpa [World.setCell] using hbl, fun j u hu => ?_⟩
  have h3 : (ad.add j).block ≠ g := by rw [block_of_add]; omega
  rw [World.cell?_setCell_other _ _ _ _ (fun e => h3 (by rw [← e]))]
  exact hc j u hu
/-- an error comes -/
theorem RfAt.bad {w w2 : World} {g e2 : Nat} {N : Nat → Prop} {A : Option Addr} {n c e : Nat} (r : List UInt8) (hk : Blk w2 g 71 (rdCells A n c e)) (hb : Below w.heap.size w w2) (he : e2 < 10) (h0 : e2 ≠ 0) :
    RfAt (w2.setCell ⟨g, 1, none⟩ (.int .i64 (e2 : Int))) g N (r, e2) ∧ OnlyAt g w (w2.setCell ⟨g, 1, none⟩ (.int .i64 (e2 : Int))) :=
  ⟨⟨he, A, n, c, hk.set_ 1 _, fun h => absurd h h0⟩, (OnlyAt.of_below hb).set 1 _⟩

set_option maxRecDepth 100000 in
set_option maxHeartbeats 2000000 in
theorem rfNum_any (g : Nat) (N : Nat → Prop) (s : RdS) (w : World) (h : RfAt w g N s) (hN : ∀ b, N b → b < w.heap.size) (hg : N g) :
    Calls Try.prog 30 #[.pointer (some ⟨g, 0, none⟩)] w fun e w' => e = .returned (.int .i64 ((rdN s).1 : Int)) ∧ RfAt w' g N (rdN s).2 ∧ OnlyAt g w w' := by
  have herr := rdN_err s h.err
  obtain ⟨A, n, c, hk, hz⟩ := h.has
  have hlt := h.err
  have HH := Lib.hid h
  have c0 : w.cell? ⟨g, 0, none⟩ = some (.slice A n c) := (hk.cell 0).trans rfl
  have c1 : w.cell? ⟨g, 1, none⟩ = some (.int .i64 (s.2 : Int)) := (hk.cell 1).trans rfl
  obtain ⟨xs, e⟩ := s
  simp only at hz hlt c1 hk
  have HK := Lib.hid hk
  clear h hk
  by_cases he : e = 0
  · subst he
    obtain ⟨hnc, hnm, hr, ha⟩ := hz rfl
    have hq : rdN (xs, 0) = ((tn xs).1, ((tn xs).2.1, (tn xs).2.2)) := by unfold rdN; rw [if_pos rfl]
    rw [hq] at herr ⊢
    have HT := Lib.hid (refTakeNum_any A n c xs w w.heap.size hr (Nat.le_refl _) hnc hnm)
    have HL := Lib.hid (show (tn xs).2.1.length ≤ n by have := tn_len xs; have := hr.1; simp at this; omega)
    have hbad : (tn xs).2.2 ≠ 0 → (tn xs).1 = 0 := fun h => by
      unfold tn at h ⊢
      cases hb : takeN xs with
      | error e => rfl
      | ok p => rw [hb] at h; exact absurd rfl h
    obtain ⟨p, hp⟩ : ∃ p, p = tn xs := ⟨_, rfl⟩
    rw [← hp] at herr HT HL hbad ⊢
    obtain ⟨k, r, e2⟩ := p
    simp only at herr HT HL hbad ⊢
    clear hp hq hr hz ha
    go_enter Try.func30, Try.ntmps30
    go_wp2_with fail
    refine HT.out.mono ?_
    rintro _ w2 ⟨v, rfl, ho, hb2⟩
    obtain ⟨A2, c2, rfl, h1, h2, h3, h4⟩ := own_slice_b ho
    have hk2 := HK.out.under hb2
    have d0 : w2.cell? ⟨g, 0, none⟩ = some (.slice A n c) := (hk2.cell 0).trans rfl
    have d1 : w2.cell? ⟨g, 1, none⟩ = some (.int .i64 ((0 : Nat) : Int)) := (hk2.cell 1).trans rfl
    have f0 := hk2.frozen 0
    have f1 := hk2.frozen 1
    have HB2 := Lib.hid hb2
    have HK2 := Lib.hid hk2
    have HR2 := Lib.hid h3
    have HA2 := Lib.hid h4
    clear ho hb2 hk2 h3 h4
    by_cases h0 : e2 = 0
    · subst h0
      go_wp2_with fail
      go_ret
      have := RfAt.rest HK2.out HB2.out hN hg HR2.out HA2.out h1 (by have := HL.out; omega)
      exact ⟨rfl, this.1, this.2⟩
    · obtain rfl := hbad h0
      have h0' : ¬ (e2 : Int) = 0 := by omega
      go_wp2_with fail
      go_ret
      have := RfAt.bad (N := N) r HK2.out HB2.out herr h0
      exact ⟨rfl, this.1, this.2⟩
  · have hq : rdN (xs, e) = (0, (xs, e)) := by unfold rdN; rw [if_neg he]
    rw [hq]
    have he' : ¬ (e : Int) = 0 := by omega
    clear hz
    go_enter Try.func30, Try.ntmps30
    go_wp2_with fail
    go_ret
    exact ⟨rfl, HH.out, OnlyAt.refl _ _⟩

set_option maxRecDepth 100000 in
set_option maxHeartbeats 2000000 in
theorem rfStr_any (g most : Nat) (N : Nat → Prop) (s : RdS) (w : World) (h : RfAt w g N s) (hN : ∀ b, N b → b < w.heap.size) (hg : N g) (hm : most ≤ 65536) :
    Calls Try.prog 31 #[.pointer (some ⟨g, 0, none⟩), .int .i64 (most : Int)] w fun e w' => ∃ v, e = .returned v ∧ OwnB w' w.heap.size v (rdT s most).1 ∧ RfAt w' g N (rdT s most).2 ∧ OnlyAt g w w' := by
  have herr := rdT_err s most h.err
  obtain ⟨A, n, c, hk, hz⟩ := h.has
  have hlt := h.err
  have HH := Lib.hid h
  have c0 : w.cell? ⟨g, 0, none⟩ = some (.slice A n c) := (hk.cell 0).trans rfl
  have c1 : w.cell? ⟨g, 1, none⟩ = some (.int .i64 (s.2 : Int)) := (hk.cell 1).trans rfl
  obtain ⟨xs, e⟩ := s
  simp only at hz hlt c1 hk
  have HK := Lib.hid hk
  clear h hk
  by_cases he : e = 0
  · subst he
    obtain ⟨hnc, hnm, hr, ha⟩ := hz rfl
    have hq : rdT (xs, 0) most = ((ts xs most).1, ((ts xs most).2.1, (ts xs most).2.2)) := by unfold rdT; rw [if_pos rfl]
    rw [hq] at herr ⊢
    have HT := Lib.hid (refTakeStr_any A n c most xs w w.heap.size hr (Nat.le_refl _) hnc hnm hm)
    have HL := Lib.hid (show (ts xs most).2.1.length ≤ n by have := ts_len xs most; have := hr.1; simp at this; omega)
    have hbad : (ts xs most).2.2 ≠ 0 → (ts xs most).1 = [] := fun h => by
      unfold ts at h ⊢
      cases hb : takeS xs most with
      | error e => rfl
      | ok p => rw [hb] at h; exact absurd rfl h
    obtain ⟨p, hp⟩ : ∃ p, p = ts xs most := ⟨_, rfl⟩
    rw [← hp] at herr HT HL hbad ⊢
    obtain ⟨k, r, e2⟩ := p
    simp only at herr HT HL hbad ⊢
    clear hp hq hr hz ha
    go_enter Try.func31, Try.ntmps31
    go_wp2_with fail
    refine HT.out.mono ?_
    rintro _ w2 ⟨u, v, rfl, hou, ho, hb2⟩
    obtain ⟨A2, c2, rfl, h1, h2, h3, h4⟩ := own_slice_b ho
    have hk2 := HK.out.under hb2
    have d0 : w2.cell? ⟨g, 0, none⟩ = some (.slice A n c) := (hk2.cell 0).trans rfl
    have d1 : w2.cell? ⟨g, 1, none⟩ = some (.int .i64 ((0 : Nat) : Int)) := (hk2.cell 1).trans rfl
    have f0 := hk2.frozen 0
    have f1 := hk2.frozen 1
    have HB2 := Lib.hid hb2
    have HK2 := Lib.hid hk2
    have HR2 := Lib.hid h3
    have HA2 := Lib.hid h4
    have HOU := Lib.hid hou
    clear ho hb2 hk2 h3 h4 hou
    by_cases h0 : e2 = 0
    · subst h0
      go_wp2_with fail
      go_ret
      have := RfAt.rest HK2.out HB2.out hN hg HR2.out HA2.out h1 (by have := HL.out; omega)
      refine ⟨_, rfl, HOU.out.keep fun b hb => ?_, this.1, this.2⟩
      have h5 := HOU.out.ge hb
      have h6 := hN g hg
      exact Below.heap_setCell _ ⟨g, 0, none⟩ _ b (by show b ≠ g; omega)
    · obtain rfl := hbad h0
      have h0' : ¬ (e2 : Int) = 0 := by omega
      go_wp2_with fail
      go_ret
      have := RfAt.bad (N := N) r HK2.out HB2.out herr h0
      exact ⟨_, rfl, OwnB.nil _ _, this.1, this.2⟩
  · have hq : rdT (xs, e) most = ([], (xs, e)) := by unfold rdT; rw [if_neg he]
    rw [hq]
    have he' : ¬ (e : Int) = 0 := by omega
    clear hz
    go_enter Try.func31, Try.ntmps31
    go_wp2_with fail
    go_ret
    exact ⟨_, rfl, OwnB.nil _ _, HH.out, OnlyAt.refl _ _⟩

set_option maxRecDepth 100000 in
set_option maxHeartbeats 2000000 in
theorem rfMany_any (g most : Nat) (N : Nat → Prop) (s : RdS) (w : World) (h : RfAt w g N s) (hN : ∀ b, N b → b < w.heap.size) (hg : N g) (hm : most ≤ 65536) :
    Calls Try.prog 32 #[.pointer (some ⟨g, 0, none⟩), .int .i64 (most : Int)] w fun e w' => e = .returned (.int .i64 ((rdM s most).1 : Int)) ∧ RfAt w' g N (rdM s most).2 ∧ OnlyAt g w w' := by
  have HN := Lib.hid (rfNum_any g N s w h hN hg)
  have hq : rdM s most = if (rdN s).2.2 = 0 then (if most < (rdN s).1 then (0, ((rdN s).2.1, 5)) else ((rdN s).1, (rdN s).2)) else (0, (rdN s).2) := rfl
  rw [hq]
  clear h hq
  obtain ⟨p, hp⟩ : ∃ p, p = rdN s := ⟨_, rfl⟩
  rw [← hp] at HN ⊢
  obtain ⟨k, r, e⟩ := p
  simp only at HN ⊢
  clear hp
  obtain ⟨R, hR⟩ : ∃ R : Nat × RdS, R = if e = 0 then (if most < k then (0, (r, 5)) else (k, (r, e))) else (0, (r, e)) := ⟨_, rfl⟩
  rw [← hR]
  have HQ := Lib.hid hR
  clear hR
  go_enter Try.func32, Try.ntmps32
  go_wp2_with fail
  refine HN.out.mono ?_
  rintro _ w2 ⟨rfl, hrd, ho⟩
  have HR := Lib.hid hrd
  have HO := Lib.hid ho
  obtain ⟨A, n, c, hk, _⟩ := hrd.has
  have HK := Lib.hid hk
  have d1 : w2.cell? ⟨g, 1, none⟩ = some (.int .i64 (e : Int)) := (hk.cell 1).trans rfl
  have f1 := hk.frozen 1
  clear hrd ho hk
  by_cases he : e = 0
  · subst he
    by_cases hmk : most < k
    · go_wp2_with fail
      go_ret
      have hp := HQ.out
      rw [if_pos trivial, if_pos hmk] at hp
      rw [hp]
      exact ⟨rfl, (RfAt.bad (N := N) (w := w2) r HK.out (Below.refl _ _) (by omega : 5 < 10) (by omega)).1, HO.out.set 1 _⟩
    · go_wp2_with fail
      go_ret
      have hp := HQ.out
      rw [if_pos trivial, if_neg hmk] at hp
      rw [hp]
      exact ⟨rfl, HR.out, HO.out⟩
  · have he' : ¬ (e : Int) = 0 := by omega
    go_wp2_with fail
    go_ret
    have hp := HQ.out
    rw [if_neg he] at hp
    rw [hp]
    exact ⟨rfl, HR.out, HO.out⟩

theorem rdE_stays' (s : RdS) (h : s.2 ≠ 0) : rdE s = s.2 := by unfold rdE; rw [if_neg (by simp [h])]
set_option maxRecDepth 100000 in
set_option maxHeartbeats 2000000 in
theorem rfEnd_any (g : Nat) (N : Nat → Prop) (s : RdS) (w : World) (h : RfAt w g N s) :
    Calls Try.prog 33 #[.pointer (some ⟨g, 0, none⟩)] w fun e w' => e = .returned (.int .i64 (rdE s : Int)) ∧ w = w' := by
  obtain ⟨A, n, c, hk, hz⟩ := h.has
  have c0 : w.cell? ⟨g, 0, none⟩ = some (.slice A n c) := (hk.cell 0).trans rfl
  have c1 : w.cell? ⟨g, 1, none⟩ = some (.int .i64 (s.2 : Int)) := (hk.cell 1).trans rfl
  obtain ⟨xs, e⟩ := s
  simp only at hz c1 hk
  clear h hk
  by_cases he : e = 0
  · subst he
    have hn : xs.length = n := by have := (hz rfl).2.2.1.1; simpa using this
    have hq : rdE (xs, 0) = if 0 < n then 4 else 0 := by unfold rdE; simp only [hn, true_and]
    rw [hq]
    clear hz hn hq
    by_cases h0 : 0 < n
    · rw [if_pos h0]
      go_enter Try.func33, Try.ntmps33
      go_wp2_with fail
      go_ret
      exact ⟨rfl, rfl⟩
    · rw [if_neg h0]
      go_enter Try.func33, Try.ntmps33
      go_wp2_with fail
      go_ret
      exact ⟨rfl, rfl⟩
  · have hq : rdE (xs, e) = e := rdE_stays' (xs, e) he
    rw [hq]
    have he' : ¬ (e : Int) = 0 := by omega
    clear hz hq
    go_enter Try.func33, Try.ntmps33
    go_wp2_with fail
    go_ret
    exact ⟨rfl, rfl⟩

end Go.Proofs.Ytcmbmimmfgfefaa
