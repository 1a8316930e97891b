/- Parts of the proof, in one text: AtH, AtI. -/
import Derived.Test.YtdpoedgjehofiaaGreatZ19

/- Contract of (*Atlas).planted. -/
namespace Go.Proofs.YtdpoedgjehofiaaGreat
set_option linter.unusedVariables false
set_option linter.unusedSimpArgs false
open Go.RowKit Go.Maps

attribute [local irreducible] wpList wpCalm
theorem leavesQ_pre (m : AM) (i : Nat) (h : i < 6) : ((leavesQ m).take i ++ List.replicate (6 - i) []).set i (leafQ m i) = (leavesQ m).take (i + 1) ++ List.replicate (6 - (i + 1)) [] := by
  have hl : ((leavesQ m).take i).length = i := by rw [List.length_take, leavesQ_len]; omega
  have hg := leavesQ_get m i h
  have hi : i < (leavesQ m).length := by rw [leavesQ_len]; exact h
  rw [List.getElem?_eq_getElem hi] at hg
  rw [List.set_append_right _ _ (by omega), hl, Nat.sub_self, show 6 - i = (6 - (i + 1)) + 1 by omega, List.replicate_succ, List.set_cons_zero, List.take_succ_eq_append_getElem hi, Option.some.inj hg, List.append_assoc]
  rfl
theorem aCs_plant (t t' : Option Addr) (gc : Nat) (m : AM) (S : ASl) : (aCs t gc m S).setIfInBounds 0 (.pointer t') = aCs t' gc m S := by
  apply Array.ext_getElem?
  intro j
  rw [Array.getElem?_setIfInBounds]
  by_cases h : 0 = j
  · subst h
    rw [if_pos rfl, aCs_size, if_pos (by omega), aCs_at _ _ _ _ _ (by omega)]; rfl
  · rw [if_neg h]
    rcases Nat.lt_or_ge j 22 with h2 | h2
    · rw [aCs_at _ _ _ _ _ h2, aCs_at _ _ _ _ _ h2]
      simp only [aF, if_neg (show ¬ j = 0 from fun e => h e.symm)]
    · rw [Array.getElem?_eq_none (by rw [aCs_size]; exact h2), Array.getElem?_eq_none (by rw [aCs_size]; exact h2)]
/-- the head is turned -/
theorem ADat.head {w w' : World} {g gc : Nat} {t t' : Option Addr} {N : Nat → Prop} {m m' : AM} {S S' : ASl} (h : ADat w g gc t N m S) (ho : Only (fun b => b = g) w w') (hg : g ≠ gc) (hb : Blk w' g 116 (aCs t' gc m' S')) (hc : m'.chunks = m.chunks) (hok : AOk m')
    (hS : S' = { S with lA := S'.lA, lC := S'.lC }) (hn : ∀ i, i < 4 → FarN w' (fun b => N b ∨ IsMv S m.chunks.length b) (S'.lA i) (S'.lC i) (lastQ m' i).2.nodes) : ADat w' g gc t' N m' S' := by
  have hM : ∀ b, b = g → N b := fun b e => e ▸ h.gN.1
  rw [hS] at hb ⊢
  refine ⟨hb, ho.blk h.row (fun e => hg e.symm), ?_, ?_, ?_, ?_, ?_, ?_, ?_, ?_, h.gN, hok⟩
  · rw [hc]; exact h.cap
  · rw [hc]; exact h.srv
  · rw [hc]; exact fun i s hs => (h.first i s hs).only ho (fun b hb => .inl (hM b hb))
  · rw [hc]; exact fun i s hs => (h.now i s hs).only ho (fun b hb => .inl (hM b hb))
  · rw [hc]; exact hn
  · rw [hc]
    intro i s hs
    refine rowD_keep (h.mv i s hs) (fun b hb => ?_)
    have hi : i < m.chunks.length := (List.getElem?_eq_some_iff.1 hs).1
    have hl := (rowD_lt (h.mv i s hs) hb).2
    refine ho.block b hl fun hmb => ?_
    have hmv : IsMv S m.chunks.length b := by
      rcases (h.mv i s hs).2 with ⟨e, _⟩ | ⟨g', cap', cur', e, _⟩
      · rw [e] at hb; cases hb
      · rw [e] at hb
        injection e with e1
        exact ⟨i, ⟨g', 0, none⟩, hi, e1, by simpa [Value.ownBlock] using hb⟩
    exact h.mvN b hmv (hM b hmb)
  · rw [hc]; exact h.mvN
  · rw [hc]; exact h.mvap
theorem ADat.plant {w : World} {g gc : Nat} {t t' : Option Addr} {N : Nat → Prop} {m : AM} {S : ASl} (h : ADat w g gc t N m S) (hg : g ≠ gc) : ADat (w.setCell ⟨g, 0, none⟩ (.pointer t')) g gc t' N m S := by
  have ho : Only (fun b => b = g) w (w.setCell ⟨g, 0, none⟩ (.pointer t')) := Only.of_turned (Turned.setCell w ⟨g, 0, none⟩ (.pointer t')) rfl
  have hb := h.blk.set_ 0 (.pointer t')
  rw [aCs_plant] at hb
  exact h.head ho hg hb rfl h.ok rfl (fun i hi => (h.nodes i hi).only ho (fun b e => .inl (e ▸ h.gN.1)))

/-- how far planted has come -/
structure PlSt (M : Nat → Prop) (w wr : World) (g gc : Nat) (T : TreeLoc) (k : Book) (L : List (List UInt8)) (asked : Nat) (m : AM) (i : Nat) : Prop where
  tree : TreeAt wr T k ((leavesQ m).take i ++ List.replicate (6 - i) [])
  book : ∃ L' a', BookAt wr k L' a' ∧ a' ≤ asked + 9 + 3 * i ∧ (∀ x, x ∈ L → x ∈ L') ∧ InBook L' ((leavesQ m).take i ++ List.replicate (6 - i) [])
  only : Only (fun b => b = g ∨ k.has b) w wr
  blk : ∃ S, ADat wr g gc (some ⟨T.t, 0, none⟩) (fun b => b = g ∨ b = gc ∨ k.has b ∨ T.has b ∨ M b) m S
  new : ∀ b, T.has b → w.heap.size ≤ b

set_option maxRecDepth 100000 in
set_option maxHeartbeats 1000000 in
theorem planted_any (M : Nat → Prop) (k : Book) (L : List (List UInt8)) (asked g gc : Nat) (m : AM) (S : ASl) (w : World) (hbk : BookAt w k L asked) (has : asked ≤ 600000) (h : ADat w g gc none (fun b => b = g ∨ b = gc ∨ k.has b ∨ M b) m S) (hgk : ¬ k.has g) (hgck : ¬ k.has gc) (hgg : g ≠ gc) :
    Calls Tryz.prog 100 #[.pointer (some ⟨g, 0, none⟩), .pointer (some ⟨k.g, 0, none⟩)] w fun e w' => ∃ T : TreeLoc, e = .returned (.tuple #[.pointer (some ⟨g, 0, none⟩), .int .i64 0]) ∧ PlSt M w w' g gc T k L asked m 6 := by
  have lg := h.lt
  have HBK := Lib.hid hbk
  have HD := Lib.hid h
  have hlt := hbk.lt
  have hln := leavesQ_len m
  have HN := Lib.hid (treeNew_any k L asked 6 w hbk (.inr rfl) (by omega))
  clear h hbk
  go_enter Tryz.func100, Tryz.ntmps100
  go_wp2_with fail
  refine HN.out.mono ?_
  rintro _ w2 ⟨T, rfl, hT, hnew, ⟨L2, a2, hbk2, ha2, hL2, hin2⟩, ho2⟩
  have hd1 : ADat w g gc none (fun b => b = g ∨ b = gc ∨ k.has b ∨ T.has b ∨ M b) m S := HD.out.mono (fun b hb hn => by
    rcases hn with e | e | e | e | e
    · exact .inl e
    · exact .inr (.inl e)
    · exact .inr (.inr (.inl e))
    · have := hnew b e; omega
    · exact .inr (.inr (.inr e))) ⟨.inl rfl, .inr (.inl rfl)⟩
  have hd2 := hd1.only (Only.of_book ho2) (fun b h => .inr (.inr (.inl h))) hgk hgck
  have hgl := hd2.blk.lt
  have c0 : w2.cell? ⟨g, 0, none⟩ = some (.pointer none) := (hd2.blk.cell 0).trans (aCs_at _ _ _ _ 0 (by omega))
  have f0 := hd2.blk.frozen 0
  have HT := Lib.hid hT
  have HNEW := Lib.hid hnew
  have HB2 := Lib.hid hbk2
  have HL2 := Lib.hid hL2
  have HI2 := Lib.hid hin2
  have HO2 := Lib.hid ho2
  have HD2 := Lib.hid hd2
  have hs2 := ho2.size
  clear hT hnew hbk2 hL2 hin2 ho2 hd1 hd2 HN
  go_upto_region 5 with fail
  have hgT : ∀ b, T.has b → b ≠ g := fun b hb e => by have := HNEW.out b hb; omega
  have hgcT : ∀ b, T.has b → b ≠ gc := fun b hb e => by have := HNEW.out b hb; omega
  have hst : PlSt M w (w2.setCell ⟨g, 0, none⟩ (.pointer (some ⟨T.t, 0, none⟩))) g gc T k L asked m 0 := by
    have ho3 : Only (fun b => b = g) w2 (w2.setCell ⟨g, 0, none⟩ (.pointer (some ⟨T.t, 0, none⟩))) := Only.of_turned (Turned.setCell w2 ⟨g, 0, none⟩ (.pointer (some ⟨T.t, 0, none⟩))) rfl
    exact ⟨HT.out.only ho3 (fun b hb e => hgT b hb e), ⟨L2, a2, HB2.out.only ho3 (fun e => hgk (.inl e.symm)) (fun e => hgk (.inr (.inl e.symm))) (fun e => hgk (.inr (.inr e.symm))), by omega, HL2.out, HI2.out⟩, ((Only.of_book HO2.out).mono fun b _ h => .inr h).trans (ho3.mono fun b _ h => .inl h), ⟨S, HD2.out.plant hgg⟩, HNEW.out⟩
  have HST := Lib.hid hst
  generalize w2.setCell ⟨g, 0, none⟩ (.pointer (some ⟨T.t, 0, none⟩)) = w3 at HST ⊢
  clear hst c0 f0 HD2 HT HB2 HL2 HI2 HO2
  go_wp2_with fail
  go_loopw [22] (fun iv wr => ∃ i : Nat, i ≤ 6 ∧ iv = .int .i64 i ∧ PlSt M w wr g gc T k L asked m i) (fun iv _ => 6 - (intOf iv).toNat)
  case atStart => exact ⟨0, by omega, rfl, HST.out⟩
  case round =>
    obtain ⟨i, hi, rfl, hst⟩ := hrel
    have HS := Lib.hid hst
    clear hst
    by_cases hin : i < 6
    · have hinI : (i : Int) < 6 := by omega
      obtain ⟨S1, hd1⟩ := HS.out.blk
      obtain ⟨L1, a1, q1, q2, q3, q4⟩ := HS.out.book
      have hll : ((leavesQ m).take i ++ List.replicate (6 - i) ([] : List UInt8)).length = 6 := by rw [List.length_append, List.length_take, hln, List.length_replicate]; omega
      have HV := Lib.hid (aset_any wr g gc i T k _ m S1 _ L1 a1 hd1 hin HS.out.tree hll q1 (by omega))
      rw [leavesQ_pre m i hin] at HV
      have HD1 := Lib.hid hd1
      have HQ3 := Lib.hid q3
      have HQ4 := Lib.hid q4
      clear hd1 q1 q3 q4 hll
      go_wp2_with fail
      refine HV.out.mono ?_
      rintro _ w4 ⟨rfl, hsb⟩
      have hst4 : PlSt M w w4 g gc T k L asked m (i + 1) := by
        obtain ⟨L', a', p1, p2, p3, p4⟩ := hsb.book
        refine ⟨hsb.tree, ⟨L', a', p1, by omega, fun x hx => p3 x (HQ3.out x hx), p4 L1 (fun _ h => h) HQ4.out⟩, ?_, ⟨S1, HD1.out.only hsb.only (fun b hb => ?_) ?_ ?_⟩, HS.out.new⟩
        · have h1 := HS.out.only
          have h2 := hsb.only
          refine ⟨h2.os.trans h1.os, h2.tape.trans h1.tape, h2.output.trans h1.output, Nat.le_trans h1.size h2.size, fun b hb hn => (h2.block b (by have := h1.size; omega) ?_).trans (h1.block b hb hn)⟩
          rintro (e | e)
          · have := HS.out.new b (.inr (.inr e)); omega
          · exact hn (.inr e)
        · rcases hb with e | e
          · exact .inr (.inr (.inr (.inl (.inr (.inr e)))))
          · exact .inr (.inr (.inl e))
        · rintro (e | e)
          · exact hgT g (.inr (.inr e)) rfl
          · exact hgk e
        · rintro (e | e)
          · exact hgcT gc (.inr (.inr e)) rfl
          · exact hgck e
      have HST4 := Lib.hid hst4
      clear hst4 hsb HV
      go_wp2_with fail
      go_roundw
      case rel => exact ⟨i + 1, by omega, by go_num, HST4.out⟩
      case measure => simp [intOf]; omega
    · obtain rfl : i = 6 := by omega
      have hinI : ¬ (6 : Int) < 6 := by omega
      go_wp2_with fail
      go_ret2
      exact ⟨rfl, T, HS.out⟩

end Go.Proofs.YtdpoedgjehofiaaGreat

/- An atlas of first crews, under way. -/
namespace Go.Proofs.YtdpoedgjehofiaaGreat
set_option linter.unusedVariables false
set_option linter.unusedSimpArgs false
open Go.RowKit Go.Maps

attribute [local irreducible] wpList wpCalm
def bgRow (nA : Nat → Option Addr) (nC : Nat → Nat) (i : Nat) (s : Srv) : List Value := [.int .i64 (s.f : Int), .slice (nA i) s.first.length (nC i), .int .i64 (s.f : Int), .slice (nA i) s.first.length (nC i), .slice none 0 0]
def bgCells (nA : Nat → Option Addr) (nC : Nat → Nat) : Nat → List Srv → List Value
  | _, [] => []
  | i, s :: t => bgRow nA nC i s ++ bgCells nA nC (i + 1) t
theorem bgCells_len (nA : Nat → Option Addr) (nC : Nat → Nat) : ∀ (l : List Srv) (i : Nat), (bgCells nA nC i l).length = l.length * 5
  | [], _ => by simp [bgCells]
  | s :: t, i => by
    show (bgRow nA nC i s ++ bgCells nA nC (i + 1) t).length = (t.length + 1) * 5
    rw [List.length_append, bgCells_len nA nC t (i + 1)]
    show 5 + t.length * 5 = _
    omega
theorem bgCells_app (nA : Nat → Option Addr) (nC : Nat → Nat) (s : Srv) : ∀ (l : List Srv) (i : Nat), bgCells nA nC i (l ++ [s]) = bgCells nA nC i l ++ bgRow nA nC (i + l.length) s
  | [], i => by simp [bgCells]
  | q :: t, i => by
    show bgRow nA nC i q ++ bgCells nA nC (i + 1) (t ++ [s]) = (bgRow nA nC i q ++ bgCells nA nC (i + 1) t) ++ _
    rw [bgCells_app nA nC s t (i + 1), List.append_assoc, List.length_cons, show i + 1 + t.length = i + (t.length + 1) by omega]
theorem bgCells_same (nA nA' : Nat → Option Addr) (nC nC' : Nat → Nat) : ∀ (l : List Srv) (i : Nat), (∀ k, i ≤ k → k < i + l.length → nA k = nA' k ∧ nC k = nC' k) → bgCells nA nC i l = bgCells nA' nC' i l
  | [], _, _ => rfl
  | s :: t, i, h => by
    have h1 := h i (Nat.le_refl _) (by simp)
    have h2 := bgCells_same nA nA' nC nC' t (i + 1) fun k hk hk2 => h k (by omega) (by simp; omega)
    show bgRow nA nC i s ++ bgCells nA nC (i + 1) t = bgRow nA' nC' i s ++ bgCells nA' nC' (i + 1) t
    rw [h2]
    unfold bgRow
    rw [h1.1, h1.2]
theorem bgCells_get (nA : Nat → Option Addr) (nC : Nat → Nat) : ∀ (l : List Srv) (i k j : Nat) (s : Srv), l[k]? = some s → j < 5 → (bgCells nA nC i l)[k * 5 + j]? = (bgRow nA nC (i + k) s)[j]?
  | [], _, _, _, _, h, _ => by simp at h
  | q :: t, i, 0, j, s, h, hj => by
    obtain rfl : q = s := by simpa using h
    show (bgRow nA nC i q ++ bgCells nA nC (i + 1) t)[0 * 5 + j]? = _
    rw [List.getElem?_append_left (by show 0 * 5 + j < 5; omega), Nat.zero_mul, Nat.zero_add, Nat.add_zero]
  | q :: t, i, k + 1, j, s, h, hj => by
    have := bgCells_get nA nC t (i + 1) k j s (by simpa using h) hj
    show (bgRow nA nC i q ++ bgCells nA nC (i + 1) t)[(k + 1) * 5 + j]? = _
    rw [List.getElem?_append_right (by show 5 ≤ (k + 1) * 5 + j; omega), show (k + 1) * 5 + j - (bgRow nA nC i q).length = k * 5 + j by show (k + 1) * 5 + j - 5 = _; omega, this, show i + 1 + k = i + (k + 1) by omega]
def bgF (t : Option Addr) (v : Value) (j : Nat) : Value :=
  if j = 0 then .pointer t else if j = 1 then v else (#[Value.int .i64 0, .int .i64 0, .slice none 0 0, .int .i64 0, .slice none 0 0] : Array Value).getD ((j - 2) % 5) undef
def bgC (t : Option Addr) (v : Value) : Array Value := rng 22 (bgF t v)
theorem bgC_size (t : Option Addr) (v : Value) : (bgC t v).size = 22 := rng_size _ _
theorem bgC_at (t : Option Addr) (v : Value) (j : Nat) (h : j < 22) : (bgC t v)[j]? = some (bgF t v j) := rng_get _ _ _ h
theorem bgC_set (t : Option Addr) (v v' : Value) : (bgC t v).setIfInBounds 1 v' = bgC t v' := by
  apply Array.ext_getElem?
  intro j
  rw [Array.getElem?_setIfInBounds]
  by_cases h : 1 = j
  · subst h
    rw [if_pos rfl, bgC_size, if_pos (by omega), bgC_at _ _ _ (by omega)]; rfl
  · rw [if_neg h]
    rcases Nat.lt_or_ge j 22 with h2 | h2
    · rw [bgC_at _ _ _ h2, bgC_at _ _ _ h2]
      unfold bgF
      rw [if_neg (show ¬ j = 1 from fun e => h e.symm), if_neg (show ¬ j = 1 from fun e => h e.symm)]
    · rw [Array.getElem?_eq_none (by rw [bgC_size]; exact h2), Array.getElem?_eq_none (by rw [bgC_size]; exact h2)]
theorem lastQ_fresh (cs : List Srv) (i : Nat) : lastQ (freshQ cs) i = (0, okA) := by
  unfold lastQ freshQ
  simp only [List.getD_eq_getElem?_getD, List.getElem?_replicate]
  split <;> rfl
/-- the crews so far, without a tree -/
structure BgRaw (w : World) (g B : Nat) (acc : List Srv) (v : Value) (nA : Nat → Option Addr) (nC : Nat → Nat) : Prop where
  blk : Blk w g 116 (bgC none v)
  row : w.ownsRow B 161 5 v acc.length (bgCells nA nC 0 acc)
  nodes : ∀ i s, acc[i]? = some s → OwnN w B (.slice (nA i) s.first.length (nC i)) s.first
  bare : ∀ s, s ∈ acc → s.moves = []
  gB : B ≤ g
  nil0 : acc = [] → v = .slice none 0 0
theorem BgRaw.below {w w' : World} {g B : Nat} {acc : List Srv} {v : Value} {nA : Nat → Option Addr} {nC : Nat → Nat} (h : BgRaw w g B acc v nA nC) (hb : Below w.heap.size w w') : BgRaw w' g B acc v nA nC :=
  ⟨h.blk.below' hb, rowD_keep h.row (fun b hb' => hb.block b (rowD_lt h.row hb').2), fun i s hs => (h.nodes i s hs).below_ hb, h.bare, h.gB, h.nil0⟩
def bgS (arr : Array Value) (cap : Nat) (nA : Nat → Option Addr) (nC : Nat → Nat) : ASl := ⟨arr, cap, nA, nC, nA, nC, fun _ => none, fun _ => 0, fun _ => none, fun _ => 0⟩
theorem now_bare {s : Srv} (h : s.moves = []) : s.now = s.first := by unfold Srv.now; rw [h]; rfl
theorem own_far {w : World} {B g : Nat} {A : Option Addr} {n c : Nat} {xs : List Int} {t : TypeId} {cs : Array Value} (h : OwnN w B (.slice A n c) xs) (hb : Blk w g t cs) (ht : 3 ≠ t) : ∀ a, A = some a → a.block ≠ g := by
  intro a ha e
  have := own_blk_ne h hb ht
  rcases h.2 with ⟨h1, _⟩ | ⟨q, cap, cur, h1, _⟩
  · injection h1 with h1; rw [ha] at h1; cases h1
  · injection h1 with h1
    rw [ha] at h1
    injection h1 with h1
    subst h1
    exact this (by rw [ha]; exact congrArg some e)
theorem BgRaw.dat {w : World} {g B : Nat} {acc : List Srv} {v : Value} {nA : Nat → Option Addr} {nC : Nat → Nat} (h : BgRaw w g B acc v nA nC) (hc : COk acc) : ∃ gc arr cap, v = .slice (some ⟨gc, 0, none⟩) acc.length cap ∧ B ≤ gc ∧ g ≠ gc ∧ ADat w g gc none (fun b => b = g ∨ b = gc ∨ b < B) (freshQ acc) (bgS arr cap nA nC) := by
  rcases h.row.2 with ⟨_, h0⟩ | ⟨gc, cap, cur, hv, h2, h3, h4, h5, h6, h7⟩
  · have := hc.one; omega
  · have hB : Blk w gc 161 cur := h3
    have hne : g ≠ gc := Blk.ne_ h.blk hB (by decide)
    have hmv : ∀ b, ¬ IsMv (bgS cur cap nA nC) (freshQ acc).chunks.length b := fun b hb => by
      obtain ⟨i, a, _, ha, _⟩ := hb
      cases ha
    have hfar : ∀ i s, acc[i]? = some s → FarN w (fun b => (b = g ∨ b = gc ∨ b < B) ∨ IsMv (bgS cur cap nA nC) (freshQ acc).chunks.length b) (nA i) (nC i) s.first := fun i s hs => by
      have ho := h.nodes i s hs
      obtain ⟨A', c', e, q1, q2, q3, q4⟩ := own_slice_n ho
      injection e with e1 _ e2
      subst e1 e2
      refine ⟨q3, ⟨q1, q2⟩, fun a h0 ha hn => ?_⟩
      rcases hn with (e | e | e) | e
      · exact own_far ho h.blk (by decide) a ha e
      · exact own_far ho hB (by decide) a ha e
      · have := q4 a ha; omega
      · exact hmv _ e
    refine ⟨gc, cur, cap, hv, h2, hne, ?_, hB, ⟨h6, h4, h5⟩, ?_, hfar, ?_, ?_, ?_, fun b hb => absurd hb (hmv b), fun i j a b _ _ _ ha _ => (by cases ha), ⟨.inl rfl, .inr (.inl rfl)⟩, freshQ_ok hc⟩
    · have : aCs none gc (freshQ acc) (bgS cur cap nA nC) = bgC none v := by
        apply Array.ext_getElem?
        intro j
        rcases Nat.lt_or_ge j 22 with hj | hj
        · rw [aCs_at _ _ _ _ _ hj, bgC_at _ _ _ hj]
          unfold aF bgF
          split
          · rfl
          · split
            · rw [hv]; rfl
            · unfold lastCq
              rw [lastQ_fresh]
              rfl
        · rw [Array.getElem?_eq_none (by rw [aCs_size]; exact hj), Array.getElem?_eq_none (by rw [bgC_size]; exact hj)]
      rw [this]; exact h.blk
    · intro i s hs j hj
      have hs' : acc[i]? = some s := hs
      have hi : i < acc.length := (List.getElem?_eq_some_iff.1 hs').1
      have hg := bgCells_get nA nC acc 0 i j s hs' hj
      rw [← h7, List.getElem?_take, if_pos (by omega), Array.getElem?_toList, Nat.zero_add] at hg
      show cur[i * 5 + j]? = _
      rw [hg, ← Array.getElem?_toList]
      congr 1
      have hb := h.bare s (List.mem_of_getElem? hs')
      unfold bgRow srvC
      rw [now_bare hb, hb]
      rfl
    · intro i s hs
      have hb := h.bare s (List.mem_of_getElem? (show acc[i]? = some s from hs))
      rw [now_bare hb]
      exact hfar i s hs
    · intro i hi
      rw [lastQ_fresh]
      exact ⟨Reads.none_, ⟨by simp [okA], by unfold maxLen bgS; simp⟩, fun a h0 _ => by simp [okA] at h0⟩
    · intro i s hs
      have hb := h.bare s (List.mem_of_getElem? (show acc[i]? = some s from hs))
      rw [hb]
      exact ⟨by simp [mvCells], .inl ⟨rfl, rfl⟩⟩

set_option maxRecDepth 100000 in
set_option maxHeartbeats 400000 in
theorem used0_any (w : World) (g f : Nat) (t : Option Addr) (z : Int) (h : Blk w g 116 (bgC t (.slice none 0 0))) (hf : f ≤ 2) :
    Calls Tryz.prog 150 #[.pointer (some ⟨g, 0, none⟩), .int .i64 (f : Int), .int .i64 z] w fun e w' => e = .returned (.bool (usedA [] f z)) ∧ Below w.heap.size w w' := by
  have hmf : ∀ (fn : Fn) (first cap : Array Value) (w : World), (Instr.makeFunc fn first cap).run Tryz.prog w = .ok (.func fn first cap) w := fun _ _ _ _ => rfl
  have hX := below_lit w (.cells #[.int .i64 z] 3)
  have hk : Blk (w.alloc (.cells #[.int .i64 z] 3)) w.heap.size 3 #[.int .i64 z] := Blk.newAt rfl
  have hc1 : (w.alloc (.cells #[.int .i64 z] 3)).cell? ⟨g, 1, none⟩ = some (.slice none 0 0) := ((h.below' hX).cell 1).trans (bgC_at _ _ 1 (by omega))
  have HX := Lib.hid hX
  have hc0 := (hk.cell 0).trans (show (#[Value.int .i64 z])[0]? = some (.int .i64 z) from rfl)
  have HU := Lib.hid (show usedA [] f z = (decide (z ≤ 3 * (f : Int) + 1) || false) from rfl)
  have hlg := h.lt
  generalize usedA [] f z = res at HU ⊢
  have HC0 := Lib.hid hc0
  have HC1 := Lib.hid hc1
  obtain ⟨q, hq⟩ : ∃ g, g = w.heap.size := ⟨_, rfl⟩
  clear h hX hk hc0 hc1
  go_enter Tryz.func150, Tryz.ntmps150
  go_upto_region 1 with fail
  generalize World.alloc w _ = w1 at HX HC0 HC1 ⊢
  rw [← hq] at HC0 ⊢
  have c0 := HC0.out
  have c1 := HC1.out
  clear hq
  by_cases hle : z ≤ 3 * (f : Int) + 1
  · rw [decide_eq_true hle] at HU
    have hr : res = true := by rw [HU.out]; rfl
    subst hr
    go_wp2_with fail
    go_ret
    exact ⟨rfl, HX.out⟩
  · rw [decide_eq_false hle] at HU
    have hr : res = false := by rw [HU.out]; rfl
    subst hr
    have HIN := Lib.hid (show Calls Tryz.prog 194 #[.slice none 0 0, .func (.func 176) #[] #[.pointer (some ⟨q, 0, none⟩)]] w1 fun e w' => e = .returned (.int .i64 (-1)) ∧ w1 = w' by
      clear c0 c1 hmf
      go_enter Tryz.func194, Tryz.ntmps194
      go_wp2_with fail
      go_loopw [5, 8] (fun _ iv wr => iv = .int .i64 0 ∧ w1 = wr) (fun _ iv _ => 0)
      case atStart => exact ⟨rfl, rfl⟩
      case round =>
        obtain ⟨rfl, rfl⟩ := hrel
        go_wp2_with fail
        go_ret
        exact ⟨rfl, rfl⟩)
    have HCO := Lib.hid (show Calls Tryz.prog 175 #[.slice none 0 0, .func (.func 176) #[] #[.pointer (some ⟨q, 0, none⟩)]] w1 fun e w' => e = .returned (.bool false) ∧ w1 = w' by
      clear c0 c1 hmf
      go_enter Tryz.func175, Tryz.ntmps175
      go_wp2_with fail
      refine HIN.out.mono ?_
      rintro _ _ ⟨rfl, rfl⟩
      go_wp2_with fail
      go_ret
      exact ⟨rfl, rfl⟩)
    go_wp2_with fail
    refine HCO.out.mono ?_
    rintro _ _ ⟨rfl, rfl⟩
    go_wp2_with fail
    go_ret
    exact ⟨rfl, HX.out⟩
theorem BgRaw.used {w : World} {g B : Nat} {acc : List Srv} {v : Value} {nA : Nat → Option Addr} {nC : Nat → Nat} (h : BgRaw w g B acc v nA nC) (hc : acc = [] ∨ COk acc) (f : Nat) (z : Int) (hf : f ≤ 2) :
    Calls Tryz.prog 150 #[.pointer (some ⟨g, 0, none⟩), .int .i64 (f : Int), .int .i64 z] w fun e w' => e = .returned (.bool (usedA acc f z)) ∧ Below w.heap.size w w' := by
  rcases hc with rfl | hc
  · have hv := h.nil0 rfl
    subst hv
    exact used0_any w g f none z h.blk hf
  · obtain ⟨gc, arr, cap, rfl, _, _, hd⟩ := h.dat hc
    exact used_any w g gc f none _ (freshQ acc) _ z hd hf

end Go.Proofs.YtdpoedgjehofiaaGreat
