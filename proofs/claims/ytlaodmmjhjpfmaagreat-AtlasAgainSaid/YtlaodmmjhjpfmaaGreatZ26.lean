/- Parts of the proof, in one text: RowsC, AoD, AoF. -/
import Derived.Test.YtlaodmmjhjpfmaaGreatZ15
import Derived.Test.YtlaodmmjhjpfmaaGreatZ25
import Derived.Test.YtlaodmmjhjpfmaaGreatZ14
import Derived.Test.YtlaodmmjhjpfmaaGreatZ17
import Derived.Test.YtlaodmmjhjpfmaaGreatZ18

/- Lists of byte slices in memory, with their room. -/
namespace Go.Proofs.YtlaodmmjhjpfmaaGreat
set_option linter.unusedVariables false
open Go.RowKit Go.Maps

/-- slices of bytes, with their room -/
def RowsC (w : World) (B : Nat) (A : Option Addr) (n : Nat) (xss : List (List UInt8)) : Prop :=
  xss.length = n ∧ (0 < n → ∃ ad, A = some ad ∧ ad.block < B ∧ ∀ (k : Nat) (x : List UInt8), xss[k]? = some x → ∃ Ak mk ck, w.cell? (ad.add k) = some (.slice Ak mk ck) ∧ Reads w B 1 Ak mk (x.map vb) ∧ mk ≤ ck)
theorem RowsC.below {w w' : World} {B n : Nat} {A : Option Addr} {xss : List (List UInt8)} (h : RowsC w B A n xss) (hb : Below B w w') : RowsC w' B A n xss :=
  ⟨h.1, fun h0 => by
    obtain ⟨ad, hA, hB, hc⟩ := h.2 h0
    exact ⟨ad, hA, hB, fun k x hx => by
      obtain ⟨Ak, mk, ck, h1, h2, h3⟩ := hc k x hx
      exact ⟨Ak, mk, ck, (hb.cell (by rw [block_of_add]; exact hB)).trans h1, h2.below hb, h3⟩⟩⟩
theorem RowsC.more {w : World} {B B' n : Nat} {A : Option Addr} {xss : List (List UInt8)} (h : RowsC w B A n xss) (hB : B ≤ B') : RowsC w B' A n xss :=
  ⟨h.1, fun h0 => by
    obtain ⟨ad, h1, h2, h3⟩ := h.2 h0
    exact ⟨ad, h1, by omega, fun k x hx => by
      obtain ⟨Ak, mk, ck, q1, q2, q3⟩ := h3 k x hx
      exact ⟨Ak, mk, ck, q1, q2.more hB, q3⟩⟩⟩
theorem RowsC.rows {w : World} {B n : Nat} {A : Option Addr} {xss : List (List UInt8)} (h : RowsC w B A n xss) : RowsB w B A n xss :=
  ⟨h.1, fun h0 => by
    obtain ⟨ad, h1, h2, h3⟩ := h.2 h0
    exact ⟨ad, h1, h2, fun k x hx => by
      obtain ⟨Ak, mk, ck, q1, q2, q3⟩ := h3 k x hx
      exact ⟨Ak, mk, ck, q1, q2⟩⟩⟩
theorem OwnL.rowsC {w : World} {B0 : Nat} {v : Value} {xss : List (List UInt8)} {vs : List Value} (h : OwnL w B0 v xss vs) : ∃ A c, v = .slice A xss.length c ∧ xss.length ≤ c ∧ RowsC w w.heap.size A xss.length xss := by
  have hr := fun A c (hv : v = .slice A xss.length c) => Reads.of_own (A := A) (c := c) (by rw [← hv]; exact h.row)
  have hrow : ∀ A, Reads w w.heap.size 1 A xss.length vs → RowsC w w.heap.size A xss.length xss := fun A hrd => ⟨rfl, fun h0 => by
    obtain ⟨ad, rfl, hlt, hc⟩ := hrd.2 h0
    refine ⟨ad, rfl, hlt, fun k x hx => ?_⟩
    obtain ⟨u, h1, h2⟩ := h.at_ k x hx
    obtain ⟨Ak, ck, rfl, h5, _, h3, _⟩ := own_slice_b h2
    exact ⟨Ak, x.length, ck, hc k _ h1, h3, h5⟩⟩
  rcases h.row.2 with ⟨rfl, h0⟩ | ⟨g, cap, cur, rfl, hg, _, h1, h2, _⟩
  · exact ⟨none, 0, by rw [h0], by omega, hrow _ (hr none 0 (by rw [h0]))⟩
  · exact ⟨_, cap, rfl, h1, hrow _ (hr _ _ rfl)⟩

end Go.Proofs.YtlaodmmjhjpfmaaGreat

/- atlas.Open: what its loops keep. -/
namespace Go.Proofs.YtlaodmmjhjpfmaaGreat
set_option linter.unusedVariables false
set_option linter.unusedSimpArgs false
open Go.RowKit Go.Maps

attribute [local irreducible] wpList wpCalm
/-- what a leaf's bytes say -/
def numF (xss : List (List UInt8)) (j : Nat) : List Nat := (numsV (xss.getD j [])).getD []
def sixV (vs : Nat → Value) (i : Nat) : Array Value := rng 6 (fun j => if j < i then vs j else .slice none 0 0)
theorem sixV_zero (vs : Nat → Value) : sixV vs 0 = #[.slice none 0 0, .slice none 0 0, .slice none 0 0, .slice none 0 0, .slice none 0 0, .slice none 0 0] := rfl
theorem sixV_at (vs : Nat → Value) (i j : Nat) (h : j < 6) : (sixV vs i)[j]? = some (if j < i then vs j else .slice none 0 0) := rng_get _ _ _ h
theorem sixV_set (vs : Nat → Value) (i : Nat) (v : Value) : (sixV vs i).setIfInBounds i v = sixV (upd vs i v) (i + 1) := by
  unfold sixV
  rw [rng_set]
  refine rng_ext fun j hj => ?_
  by_cases h : j = i
  · subst h; rw [if_pos rfl, if_pos (by omega), upd_at]
  · rw [if_neg h]
    by_cases h2 : j < i
    · rw [if_pos h2, if_pos (by omega), upd_ne _ _ _ h]
    · rw [if_neg h2, if_neg (by omega)]
/-- the numbers of the first i leaves are read -/
structure NmSt (w : World) (g6 : Nat) (xss : List (List UInt8)) (i : Nat) (wr : World) : Prop where
  blk : ∃ vs : Nat → Value, Blk wr g6 171 (sixV vs i) ∧ ∀ j, j < i → OwnN wr w.heap.size (vs j) (nI (numF xss j))
  max : ∀ j, j < i → ∀ x, x ∈ numF xss j → x ≤ maxN
  is_ : ∀ j, j < i → (numsV (xss.getD j [])).isSome = true
  low : Below w.heap.size w wr
  g6 : w.heap.size ≤ g6
theorem NmSt.below {w wr W : World} {g6 : Nat} {xss : List (List UInt8)} {i : Nat} (h : NmSt w g6 xss i wr) (hb : Below wr.heap.size wr W) : NmSt w g6 xss i W := by
  obtain ⟨vs, h1, h2⟩ := h.blk
  exact ⟨⟨vs, h1.below' hb, fun j hj => (h2 j hj).below_ hb⟩, h.max, h.is_, h.low.trans (hb.mono h.low.size), h.g6⟩
theorem NmSt.push {w wr w2 : World} {g6 : Nat} {xss : List (List UInt8)} {i : Nat} {v : Value} (h : NmSt w g6 xss i wr) (hb : Below wr.heap.size wr w2) (ho : OwnN w2 wr.heap.size v (nI (numF xss i))) (hm : ∀ x, x ∈ numF xss i → x ≤ maxN) (hs : (numsV (xss.getD i [])).isSome = true) : NmSt w g6 xss (i + 1) (w2.setCell ⟨g6, i, none⟩ v) := by
  obtain ⟨vs, h1, h2⟩ := (h.below hb).blk
  have hT := Turned.setCell w2 ⟨g6, i, none⟩ v
  have hl := h.low.size
  refine ⟨⟨upd vs i v, ?_, fun j hj => ?_⟩, fun j hj => ?_, fun j hj => ?_, hT.below (h.below hb).low h.g6, h.g6⟩
  · rw [← sixV_set]; exact h1.set_ i v
  · by_cases e : j = i
    · subst e
      rw [upd_at]
      exact (OwnN.more ho hl).keep_ fun b hb' => hT.block b (fun e => own_blk_ne ho h1 (by decide) (by rw [hb', e]))
    · rw [upd_ne _ _ _ e]
      have := h2 j (by omega)
      exact this.keep_ fun b hb' => hT.block b (fun e => own_blk_ne this h1 (by decide) (by rw [hb', e]))
  · rcases Nat.lt_or_ge j i with e | e
    · exact h.max j e
    · obtain rfl : j = i := by omega
      exact hm
  · rcases Nat.lt_or_ge j i with e | e
    · exact h.is_ j e
    · obtain rfl : j = i := by omega
      exact hs
theorem openQ_bad {xss : List (List UInt8)} (h : ¬ (xss.length = 6 ∧ (∀ i, i < 6 → (numsV (xss.getD i [])).isSome = true))) : openQ xss = none := if_neg h
theorem openQ_says {xss : List (List UInt8)} (h1 : xss.length = 6) (h2 : ∀ i, i < 6 → (numsV (xss.getD i [])).isSome = true) : openQ xss = openS (numF xss) := if_pos ⟨h1, h2⟩

/-- what the numbers of a chunk's leaf say -/
def fstF (xss : List (List UInt8)) (j : Nat) : (Int × List Int) × List Int := (firstQ (numF xss j)).getD ((0, []), [])
structure SaSt (w : World) (g6 : Nat) (xss : List (List UInt8)) (vs : Nat → Value) (wr : World) : Prop where
  blk : Blk wr g6 171 (sixV vs 6)
  own : ∀ j, j < 6 → OwnN wr w.heap.size (vs j) (nI (numF xss j))
  low : Below w.heap.size w wr
theorem SaSt.below {w wr W : World} {g6 : Nat} {xss : List (List UInt8)} {vs : Nat → Value} (h : SaSt w g6 xss vs wr) (hb : Below wr.heap.size wr W) : SaSt w g6 xss vs W :=
  ⟨h.blk.below' hb, fun j hj => (h.own j hj).below_ hb, h.low.trans (hb.mono h.low.size)⟩
theorem NmSt.sa {w wr : World} {g6 : Nat} {xss : List (List UInt8)} (h : NmSt w g6 xss 6 wr) : ∃ vs, SaSt w g6 xss vs wr := by
  obtain ⟨vs, h1, h2⟩ := h.blk
  exact ⟨vs, h1, h2, h.low⟩
def chRow (q : (Int × List Int) × List Int) (A : Option Addr) (c : Nat) : List Value := [.int .i64 q.1.1, .slice A q.1.2.length c]
def chRows (xss : List (List UInt8)) (fA : Nat → Option Addr) (fC : Nat → Nat) : Nat → List Value
  | 0 => []
  | i + 1 => chRows xss fA fC i ++ chRow (fstF xss i) (fA i) (fC i)
theorem chRows_len (xss : List (List UInt8)) (fA : Nat → Option Addr) (fC : Nat → Nat) : ∀ i, (chRows xss fA fC i).length = i * 2
  | 0 => rfl
  | i + 1 => by
    show (chRows xss fA fC i ++ chRow _ _ _).length = _
    rw [List.length_append, chRows_len xss fA fC i]
    show i * 2 + 2 = _
    omega
theorem chRows_upd (xss : List (List UInt8)) (fA : Nat → Option Addr) (fC : Nat → Nat) (k : Nat) (A : Option Addr) (c : Nat) : ∀ i, i ≤ k → chRows xss (upd fA k A) (upd fC k c) i = chRows xss fA fC i
  | 0, _ => rfl
  | i + 1, h => by
    show chRows xss (upd fA k A) (upd fC k c) i ++ chRow _ _ _ = chRows xss fA fC i ++ chRow _ _ _
    rw [chRows_upd xss fA fC k A c i (by omega), upd_ne _ _ _ (by omega), upd_ne _ _ _ (by omega)]
theorem chRows_get (xss : List (List UInt8)) (fA : Nat → Option Addr) (fC : Nat → Nat) : ∀ (i j : Nat), j < i → (chRows xss fA fC i)[j * 2]? = some (.int .i64 (fstF xss j).1.1) ∧ (chRows xss fA fC i)[j * 2 + 1]? = some (.slice (fA j) (fstF xss j).1.2.length (fC j))
  | i + 1, j, h => by
    show (chRows xss fA fC i ++ chRow _ _ _)[j * 2]? = _ ∧ (chRows xss fA fC i ++ chRow _ _ _)[j * 2 + 1]? = _
    have hl := chRows_len xss fA fC i
    by_cases e : j = i
    · subst e
      rw [List.getElem?_append_right (by omega), List.getElem?_append_right (by omega), hl, Nat.sub_self, show j * 2 + 1 - j * 2 = 1 by omega]
      exact ⟨rfl, rfl⟩
    · rw [List.getElem?_append_left (by omega), List.getElem?_append_left (by omega)]
      exact chRows_get xss fA fC i j (by omega)
def twoV (ms : Nat → Value) (i : Nat) : Array Value := rng 2 (fun j => if j < i then ms j else .slice none 0 0)
theorem twoV_zero (ms : Nat → Value) : twoV ms 0 = #[.slice none 0 0, .slice none 0 0] := rfl
theorem twoV_at (ms : Nat → Value) (i j : Nat) (h : j < 2) : (twoV ms i)[j]? = some (if j < i then ms j else .slice none 0 0) := rng_get _ _ _ h
theorem twoV_set (ms : Nat → Value) (i : Nat) (v : Value) : (twoV ms i).setIfInBounds i v = twoV (upd ms i v) (i + 1) := by
  unfold twoV
  rw [rng_set]
  refine rng_ext fun j hj => ?_
  by_cases h : j = i
  · subst h; rw [if_pos rfl, if_pos (by omega), upd_at]
  · rw [if_neg h]
    by_cases h2 : j < i
    · rw [if_pos h2, if_pos (by omega), upd_ne _ _ _ h]
    · rw [if_neg h2, if_neg (by omega)]
/-- a chunk's leaf says a crew, moves -/
structure FsOk (B : Nat) (xss : List (List UInt8)) (u : Value) (j : Nat) (A1 : Option Addr) (c1 : Nat) (m : Value) : Prop where
  is_ : firstQ (numF xss j) = some (fstF xss j)
  fl : ∃ f : Nat, (fstF xss j).1.1 = (f : Int) ∧ f ≤ 2
  rd : ∀ W, OwnN W B u (nI (numF xss j)) → Reads W W.heap.size 1 A1 (fstF xss j).1.2.length ((fstF xss j).1.2.map vn)
  mv : ∃ A c, m = .slice A (fstF xss j).2.length c ∧ (∀ W, OwnN W B u (nI (numF xss j)) → Reads W W.heap.size 1 A (fstF xss j).2.length ((fstF xss j).2.map vn)) ∧ (fstF xss j).2.length ≤ c
/-- crews and moves of the first i chunks -/
structure ChS (w : World) (g6 g12 : Nat) (xss : List (List UInt8)) (vs : Nat → Value) (fA : Nat → Option Addr) (fC : Nat → Nat) (ms : Nat → Value) (i : Nat) (cv : Value) (wr : World) : Prop where
  sa : SaSt w g6 xss vs wr
  row : wr.ownsRow w.heap.size 57 2 cv i (chRows xss fA fC i)
  arr : Blk wr g12 173 (twoV ms i)
  ok : ∀ j, j < i → FsOk w.heap.size xss (vs j) j (fA j) (fC j) (ms j)
  gs : w.heap.size ≤ g12 ∧ g6 ≠ g12
theorem ChS.below {w wr W : World} {g6 g12 i : Nat} {xss : List (List UInt8)} {vs ms : Nat → Value} {fA : Nat → Option Addr} {fC : Nat → Nat} {cv : Value} (h : ChS w g6 g12 xss vs fA fC ms i cv wr) (hb : Below wr.heap.size wr W) : ChS w g6 g12 xss vs fA fC ms i cv W :=
  ⟨h.sa.below hb, rowD_keep h.row fun b hb' => hb.block b (rowD_lt h.row hb').2, h.arr.below' hb, h.ok, h.gs⟩
theorem ChS.push {w wr W W' : World} {g6 g12 i : Nat} {xss : List (List UInt8)} {vs ms : Nat → Value} {fA : Nat → Option Addr} {fC : Nat → Nat} {cv v' : Value} {A1 : Option Addr} {c1 : Nat} {m : Value} (h : ChS w g6 g12 xss vs fA fC ms i cv wr) (hb : Below wr.heap.size wr W)
    (hown : W'.ownsRow w.heap.size 57 2 v' (i + 1) (chRows xss fA fC i ++ chRow (fstF xss i) A1 c1)) (hg : W.grownBy W' cv.ownBlock) (hq : FsOk w.heap.size xss (vs i) i A1 c1 m) :
    ChS w g6 g12 xss vs (upd fA i A1) (upd fC i c1) (upd ms i m) (i + 1) v' (W'.setCell ⟨g12, i, none⟩ m) := by
  have hW := h.below hb
  have hT := Turned.setCell W' ⟨g12, i, none⟩ m
  have hlow := h.sa.low.size
  have hbs := hb.size
  have n6 : cv.ownBlock ≠ some g6 := own_blk_ne hW.row hW.sa.blk (by decide)
  have n12 : cv.ownBlock ≠ some g12 := own_blk_ne hW.row hW.arr (by decide)
  have a1 : Blk W' g6 171 (sixV vs 6) := (hg.block g6 hW.sa.blk.lt (fun e => n6 e.symm)).trans hW.sa.blk
  have a2 : Blk W' g12 173 (twoV ms i) := (hg.block g12 hW.arr.lt (fun e => n12 e.symm)).trans hW.arr
  refine ⟨⟨(hT.block g6 h.gs.2).trans a1, fun j hj => ?_, ?_⟩, ?_, ?_, fun j hj => ?_, h.gs⟩
  · have ho := hW.sa.own j hj
    have ho' : OwnN W' w.heap.size (vs j) (nI (numF xss j)) := ho.keep_ fun b hb' => hg.block b (rowD_lt ho hb').2 fun e => by
      rcases hW.row.2 with ⟨e1, _⟩ | ⟨gc, cap, cur, e1, _, e3, _⟩
      · rw [e1] at e; cases e
      · have hB : Blk W gc 57 cur := e3
        rw [e1] at e
        have e' : b = gc := by simpa [Value.ownBlock] using e
        exact own_blk_ne ho hB (by decide) (e' ▸ hb')
    exact ho'.keep_ fun b hb' => hT.block b fun e => own_blk_ne ho' a2 (by decide) (by rw [hb', e])
  · exact hT.below (grown_below hW.sa.low (by omega) hg fun b e => (rowD_lt hW.row e).1) h.gs.1
  · have hr : W'.ownsRow w.heap.size 57 2 v' (i + 1) (chRows xss (upd fA i A1) (upd fC i c1) (i + 1)) := by
      show W'.ownsRow _ _ _ _ _ (chRows xss (upd fA i A1) (upd fC i c1) i ++ chRow (fstF xss i) (upd fA i A1 i) (upd fC i c1 i))
      rw [chRows_upd _ _ _ _ _ _ i (Nat.le_refl _), upd_at, upd_at]
      exact hown
    exact rowD_keep hr fun b hb' => hT.block b fun e => own_blk_ne hr a2 (by decide) (by rw [hb', e])
  · rw [← twoV_set]; exact a2.set_ i m
  · by_cases e : j = i
    · subst e; rw [upd_at, upd_at, upd_at]; exact hq
    · rw [upd_ne _ _ _ e, upd_ne _ _ _ e, upd_ne _ _ _ e]; exact h.ok j (by omega)
theorem ChS.crews {w wr : World} {g6 g12 i : Nat} {xss : List (List UInt8)} {vs ms : Nat → Value} {fA : Nat → Option Addr} {fC : Nat → Nat} {cv : Value} (h : ChS w g6 g12 xss vs fA fC ms i cv wr) (hi : i ≤ 6) (hl : ∀ j, j < i → (fstF xss j).1.2.length ≤ 100) : ∃ A c, cv = .slice A i c ∧ CrewsAt wr A i ((List.range i).map fun j => (fstF xss j).1) := by
  have hrd : ∀ j, j < i → Reads wr wr.heap.size 1 (fA j) (fstF xss j).1.2.length ((fstF xss j).1.2.map vn) := fun j hj => (h.ok j hj).rd wr (h.sa.own j (by omega))
  rcases h.row.2 with ⟨e, h0⟩ | ⟨gl, cap, cur, e, h2, h3, h4, h5, h6, h7⟩
  · subst h0
    exact ⟨none, 0, e, ⟨rfl, fun h1 => by omega⟩⟩
  · refine ⟨some ⟨gl, 0, none⟩, cap, e, ⟨by simp, fun h1 => ⟨gl, cur, rfl, h3, fun j f l hj => ?_⟩⟩⟩
    rw [List.getElem?_map] at hj
    have hji : j < i := by
      rcases Nat.lt_or_ge j i with q | q
      · exact q
      · rw [List.getElem?_eq_none (by simpa using q)] at hj; cases hj
    rw [List.getElem?_range hji] at hj
    have e1 : (fstF xss j).1 = (f, l) := Option.some.inj hj
    have hg := chRows_get xss fA fC i j hji
    have ht : ∀ q, q < i * 2 → cur[q]? = (chRows xss fA fC i)[q]? := fun q hq' => by
      rw [← h7, List.getElem?_take, if_pos hq', Array.getElem?_toList]
    have hr := hrd j hji
    have hl' := hl j hji
    rw [e1] at hg hr hl'
    exact ⟨fA j, fC j, by rw [ht _ (by omega)]; exact hg.1, by rw [ht _ (by omega)]; exact hg.2, hr, by show l.length ≤ _; have : l.length ≤ 100 := hl'; omega⟩
theorem numsGo_len : ∀ (f : Nat) (b : List UInt8) (l : List Nat), numsGo f b = some l → l.length ≤ f
  | 0, b, l, h => by
    unfold numsGo at h
    split at h
    · rw [← Option.some.inj h]; simp
    · cases h
  | f + 1, b, l, h => by
    unfold numsGo at h
    split at h
    · rw [← Option.some.inj h]; simp
    · split at h
      · cases h
      · cases hq : numsGo f (tn b).2.1 with
        | none => rw [hq] at h; cases h
        | some t =>
          rw [hq] at h
          have := numsGo_len f _ t hq
          have e := Option.some.inj h
          rw [← e, List.length_cons]; omega
theorem numF_len (xss : List (List UInt8)) (j : Nat) : (numF xss j).length ≤ (xss.getD j []).length := by
  unfold numF
  cases hq : numsV (xss.getD j []) with
  | none => exact Nat.zero_le _
  | some l => exact numsGo_len _ _ l hq

theorem openS_bad {f : Nat → List Nat} {nch i : Nat} (hn : nch = if f 1 = [0] then 1 else 2) (hi : i < nch) (h : firstQ (f i) = none) : openS f = none := by
  unfold openS
  by_cases h1 : f 1 = [0]
  · rw [if_pos h1] at hn ⊢
    obtain rfl : i = 0 := by omega
    rw [h]
  · rw [if_neg h1] at hn ⊢
    obtain rfl | rfl : i = 0 ∨ i = 1 := by omega
    · rw [h]
    · cases firstQ (f 0) with
      | none => rfl
      | some p => simp only; rw [h]
theorem openC_ms {cs : List (Int × List Int)} {ms ms' : Nat → List Int} {f : Nat → List Nat} (h0 : ms 0 = ms' 0) (h1 : ms 1 = ms' 1) : openC cs ms f = openC cs ms' f := by
  unfold openC
  rw [h0, h1]
theorem openS_good {f : Nat → List Nat} {nch : Nat} {q : Nat → (Int × List Int) × List Int} (hn : nch = if f 1 = [0] then 1 else 2) (h : ∀ j, j < nch → firstQ (f j) = some (q j)) : openS f = openC ((List.range nch).map fun j => (q j).1) (fun j => if j < nch then (q j).2 else []) f := by
  unfold openS
  by_cases h1 : f 1 = [0]
  · rw [if_pos h1] at hn ⊢
    subst hn
    rw [h 0 (by omega)]
    exact openC_ms rfl rfl
  · rw [if_neg h1] at hn ⊢
    subst hn
    rw [h 0 (by omega), h 1 (by omega)]
    exact openC_ms rfl rfl

end Go.Proofs.YtlaodmmjhjpfmaaGreat

/- atlas.Open: what its last loops keep. -/
namespace Go.Proofs.YtlaodmmjhjpfmaaGreat
set_option linter.unusedVariables false
set_option linter.unusedSimpArgs false
open Go.RowKit Go.Maps

theorem ADat.lastedF {w w' : World} {g gc j st : Nat} {t : Option Addr} {N : Nat → Prop} {m : AM} {S : ASl} {a : Ans} {A : Option Addr} {k : Nat} (h : ADat w g gc t N m S) (hj : j < 4) (hg : g ≠ gc) (hT : Turned g w w')
    (hb : Blk w' g 147 (spl (aCs t gc m S) (2 + j * 5) (lsC st a A k).toList)) (hf : FarN w' (fun b => N b ∨ IsMv S m.chunks.length b) A k a.nodes) (hok : AOk (lsQ m j st a)) : ADat w' g gc t N (lsQ m j st a) (lsS S j A k) := by
  have ho : Only (fun b => b = g) w w' := Only.of_turned hT rfl
  rw [aCs_ls _ _ _ _ _ _ _ _ _ h.ok.last hj] at hb
  refine h.head ho hg hb rfl hok rfl fun i hi => ?_
  by_cases e : i = j
  · subst e
    rw [lsQ_same h.ok.last hi]
    show FarN w' _ (upd S.lA i A i) (upd S.lC i k i) _
    rw [upd_at, upd_at]
    exact hf
  · rw [lsQ_other e]
    show FarN w' _ (upd S.lA j A i) (upd S.lC j k i) _
    rw [upd_ne _ _ _ e, upd_ne _ _ _ e]
    exact (h.nodes i hi).only ho (fun b e => .inl (e ▸ h.gN.1))
theorem firstQ_len {l : List Nat} {q : (Int × List Int) × List Int} (h : firstQ l = some q) : q.1.2.length ≤ 7 ∧ q.2.length ≤ 42 := by
  unfold firstQ at h
  split at h
  · cases h
  · rename_i hb
    obtain rfl := Option.some.inj h
    unfold badF at hb
    refine ⟨?_, ?_⟩
    · show (nI ((l.drop 2).take _)).length ≤ 7
      rw [nI_len, List.length_take, List.length_drop]; omega
    · show (nI (l.drop _)).length ≤ 42
      rw [nI_len, List.length_drop]; omega
theorem toldQ_ok {l : List Nat} {x : Nat × Ans} (hm : ∀ z, z ∈ l → z ≤ maxN) (h : toldQ l = some x) : x.1 ≤ maxN ∧ AnsOk x.2 ∧ (x.1 = 0 → x.2 = okA) := by
  unfold toldQ at h
  split at h
  · cases h
  · rename_i hb
    obtain rfl := Option.some.inj h
    unfold badT at hb
    obtain ⟨l0, hl0⟩ : ∃ k, k = l.getD 0 0 := ⟨_, rfl⟩
    obtain ⟨l1, hl1⟩ : ∃ k, k = l.getD 1 0 := ⟨_, rfl⟩
    obtain ⟨l2, hl2⟩ : ∃ k, k = l.getD 2 0 := ⟨_, rfl⟩
    have hlen : 4 ≤ l.length := by
      rcases Nat.lt_or_ge l.length 4 with q | q
      · exact absurd (.inl q) hb
      · exact q
    have h0 : l.getD 0 0 ≤ maxN := by rw [List.getD_eq_getElem?_getD, List.getElem?_eq_getElem (by omega)]; exact hm _ (List.getElem_mem _)
    rw [← hl0, ← hl1, ← hl2] at hb ⊢
    rw [← hl0] at h0
    have hdr : l.length = 4 → nI (l.drop 4) = [] := fun e => by rw [List.drop_eq_nil_of_le (by omega)]; rfl
    have e1 : l1 = 0 ∨ l1 = 5 ∨ l1 = 180 := Classical.byContradiction fun q => hb (.inr (.inr (.inr (.inl q))))
    have e2 : l2 ≤ 21 := by
      rcases Nat.lt_or_ge l2 22 with q | q
      · omega
      · exact absurd (.inr (.inr (.inl q))) hb
    have e3 : nI (l.drop 4) = [] ∨ crewB (nI (l.drop 4)) = true := by
      rcases Nat.lt_or_ge 4 l.length with q | q
      · right
        cases hc : crewB (nI (l.drop 4)) with
        | true => rfl
        | false => exact absurd (.inr (.inr (.inr (.inr (.inl ⟨q, hc⟩))))) hb
      · exact .inl (hdr (by omega))
    have e4 : 0 < l0 ∨ (l1 = 0 ∧ l2 = 0 ∧ l.length = 4) := Classical.byContradiction fun q => hb (.inr (.inr (.inr (.inr (.inr q)))))
    refine ⟨h0, ⟨e1, rfl, e2, e3⟩, fun hz => ?_⟩
    have hz' : l0 = 0 := hz
    rcases e4 with q | ⟨q1, q2, q3⟩
    · omega
    · show (⟨l1, [], l2, nI (l.drop 4)⟩ : Ans) = okA
      rw [q1, q2, hdr q3]; rfl
/-- what is left of the moves -/
def remQ (mv : Nat → List Int) (i : Nat) (cs : List Srv) (rest : List Int) : Option (List Srv) := (movesGo cs i rest).bind fun c1 => if i = 0 then movesGo c1 1 (mv 1) else some c1
def headQ (mv : Nat → List Int) (i : Nat) (cs : List Srv) : Option (List Srv) := if i < 2 then remQ mv i cs (mv i) else some cs
theorem movesGo_short {cs : List Srv} {i : Nat} {rest : List Int} (h : rest.length ≤ 1) : movesGo cs i rest = some cs := by
  match rest, h with
  | [], _ => rfl
  | [x], _ => rfl
theorem remQ_end {mv : Nat → List Int} {i : Nat} {cs : List Srv} {rest : List Int} (hi : i < 2) (h : rest.length ≤ 1) : remQ mv i cs rest = headQ mv (i + 1) cs := by
  unfold remQ headQ
  rw [movesGo_short h]
  obtain rfl | rfl : i = 0 ∨ i = 1 := by omega
  · show movesGo cs 1 (mv 1) = remQ mv 1 cs (mv 1)
    unfold remQ
    cases movesGo cs 1 (mv 1) <;> rfl
  · rfl
theorem remQ_bad {mv : Nat → List Int} {i : Nat} {cs : List Srv} {s : Srv} {o z : Int} {t : List Int} (hs : cs[i]? = some s) (h : ¬ (usedA cs s.f z = false ∧ goodR s.now o z)) : remQ mv i cs (o :: z :: t) = none := by
  unfold remQ movesGo
  rw [hs]
  simp only
  rw [if_neg h]; rfl
theorem remQ_next {mv : Nat → List Int} {i : Nat} {cs : List Srv} {s : Srv} {o z : Int} {t : List Int} (hs : cs[i]? = some s) (h : usedA cs s.f z = false ∧ goodR s.now o z) : remQ mv i cs (o :: z :: t) = remQ mv i (cs.set i (movedS s o z)) t := by
  unfold remQ
  rw [show movesGo cs i (o :: z :: t) = movesGo (cs.set i (movedS s o z)) i t from by
    rw [movesGo]
    rw [hs]
    simp only
    rw [if_pos h]]
/-- chunks' moves under way: chunk i, what is left of its numbers -/
structure OmSt (w3 : World) (g gc nch : Nat) (T : Option (List Srv)) (mv : Nat → List Int) (i : Nat) (cs : List Srv) (rest : List Int) (wr : World) : Prop where
  dat : ∃ S, ADat wr g gc none (fun b => b = g ∨ b = gc ∨ b < w3.heap.size) (freshQ cs) S
  low : Below w3.heap.size w3 wr
  len : cs.length = nch
  tot : T = remQ mv i cs rest
  bare : ∀ j s, i < j → cs[j]? = some s → s.moves = []
  bnd : ∀ s, cs[i]? = some s → s.moves.length * 2 + rest.length ≤ 42
  has : 0 < rest.length → i < nch
structure OhSt (w3 : World) (g gc nch : Nat) (T : Option (List Srv)) (mv : Nat → List Int) (i : Nat) (cs : List Srv) (wr : World) : Prop where
  dat : ∃ S, ADat wr g gc none (fun b => b = g ∨ b = gc ∨ b < w3.heap.size) (freshQ cs) S
  low : Below w3.heap.size w3 wr
  len : cs.length = nch
  tot : T = headQ mv i cs
  bare : ∀ j s, i ≤ j → cs[j]? = some s → s.moves = []
theorem OhSt.below {w3 wr W : World} {g gc nch i : Nat} {T : Option (List Srv)} {mv : Nat → List Int} {cs : List Srv} (h : OhSt w3 g gc nch T mv i cs wr) (hb : Below wr.heap.size wr W) : OhSt w3 g gc nch T mv i cs W := by
  obtain ⟨S, hd⟩ := h.dat
  exact ⟨⟨S, hd.below hb⟩, h.low.trans (hb.mono h.low.size), h.len, h.tot, h.bare⟩
theorem OhSt.enter {w3 wr : World} {g gc nch i : Nat} {T : Option (List Srv)} {mv : Nat → List Int} {cs : List Srv} (h : OhSt w3 g gc nch T mv i cs wr) (hi : i < 2) (hl : (mv i).length ≤ 42) (hn : 0 < (mv i).length → i < nch) : OmSt w3 g gc nch T mv i cs (mv i) wr :=
  ⟨h.dat, h.low, h.len, by rw [h.tot]; unfold headQ; rw [if_pos hi], fun j s hj hs => h.bare j s (by omega) hs, fun s hs => by rw [h.bare i s (Nat.le_refl _) hs]; simpa using hl, hn⟩
theorem OmSt.leave {w3 wr : World} {g gc nch i : Nat} {T : Option (List Srv)} {mv : Nat → List Int} {cs : List Srv} {rest : List Int} (h : OmSt w3 g gc nch T mv i cs rest wr) (hi : i < 2) (hr : rest.length ≤ 1) : OhSt w3 g gc nch T mv (i + 1) cs wr :=
  ⟨h.dat, h.low, h.len, by rw [h.tot, remQ_end hi hr], fun j s hj hs => h.bare j s (by omega) hs⟩
theorem OmSt.below {w3 wr W : World} {g gc nch i : Nat} {T : Option (List Srv)} {mv : Nat → List Int} {cs : List Srv} {rest : List Int} (h : OmSt w3 g gc nch T mv i cs rest wr) (hb : Below wr.heap.size wr W) : OmSt w3 g gc nch T mv i cs rest W := by
  obtain ⟨S, hd⟩ := h.dat
  exact ⟨⟨S, hd.below hb⟩, h.low.trans (hb.mono h.low.size), h.len, h.tot, h.bare, h.bnd, h.has⟩
/-- a move that may be -/
theorem OmSt.step {w3 wr W : World} {g gc nch i : Nat} {T : Option (List Srv)} {mv : Nat → List Int} {cs : List Srv} {s : Srv} {o z : Int} {t : List Int} (h : OmSt w3 g gc nch T mv i cs (o :: z :: t) wr) (hs : cs[i]? = some s) (hg : usedA cs s.f z = false ∧ goodR s.now o z) (hb : Below w3.heap.size w3 W) (hd : ∃ S, ADat W g gc none (fun b => b = g ∨ b = gc ∨ b < w3.heap.size) (mvQ (freshQ cs) i s o z) S) :
    OmSt w3 g gc nch T mv i (cs.set i (movedS s o z)) t W := by
  have hil := (List.getElem?_eq_some_iff.1 hs).1
  refine ⟨hd, hb, by rw [List.length_set]; exact h.len, by rw [h.tot, remQ_next hs hg], fun j q hj hq => ?_, fun q hq => ?_, fun _ => by have := h.len; omega⟩
  · rw [List.getElem?_set, if_neg (by omega)] at hq
    exact h.bare j q hj hq
  · rw [List.getElem?_set, if_pos rfl, if_pos hil] at hq
    obtain rfl := Option.some.inj hq
    have := h.bnd s hs
    show (s.moves ++ [(o, z)]).length * 2 + t.length ≤ 42
    simp only [List.length_append, List.length_cons, List.length_nil] at this ⊢
    omega
theorem OmSt.fail {w3 wr : World} {g gc nch i : Nat} {T : Option (List Srv)} {mv : Nat → List Int} {cs : List Srv} {s : Srv} {o z : Int} {t : List Int} (h : OmSt w3 g gc nch T mv i cs (o :: z :: t) wr) (hs : cs[i]? = some s) (hg : ¬ (usedA cs s.f z = false ∧ goodR s.now o z)) : T = none := by
  rw [h.tot, remQ_bad hs hg]
def totQ (acc : List Srv) (mv : Nat → List Int) : Option (List Srv) := (movesGo acc 0 (mv 0)).bind fun s1 => movesGo s1 1 (mv 1)
theorem totQ_head (acc : List Srv) (mv : Nat → List Int) : totQ acc mv = headQ mv 0 acc := rfl
def endQ (T : Option (List Srv)) (f : Nat → List Nat) : Option AM := match T with
  | none => none
  | some s2 => if ∀ i, i < 4 → (toldQ (f (2 + i))).isSome = true then some ⟨s2, (List.range 4).map (fun i => (toldQ (f (2 + i))).getD (0, okA))⟩ else none
theorem openC_eq {cs : List (Int × List Int)} {ms : Nat → List Int} {f : Nat → List Nat} {acc : List Srv} (h : begunV cs = some acc) : openC cs ms f = endQ (totQ acc ms) f := by
  unfold openC totQ endQ
  rw [h]
  simp only
  cases movesGo acc 0 (ms 0) with
  | none => rfl
  | some s1 =>
    simp only [Option.bind_some]
    rfl
/-- the clients' answers, the first j of them -/
def midA (cs : List Srv) (f : Nat → List Nat) (j : Nat) : AM := ⟨cs, (List.range j).map (fun q => (toldQ (f (2 + q))).getD (0, okA)) ++ List.replicate (4 - j) (0, okA)⟩
theorem midA_zero (cs : List Srv) (f : Nat → List Nat) : midA cs f 0 = freshQ cs := rfl
theorem midA_step (cs : List Srv) (f : Nat → List Nat) (j : Nat) (x : Nat × Ans) (hj : j < 4) (h : toldQ (f (2 + j)) = some x) : lsQ (midA cs f j) j x.1 x.2 = midA cs f (j + 1) := by
  unfold lsQ midA
  congr 1
  rw [List.range_succ, List.map_append, List.set_append_right _ _ (by simp)]
  simp only [List.length_map, List.length_range, Nat.sub_self, List.map_cons, List.map_nil]
  rw [show 4 - j = (4 - (j + 1)) + 1 by omega, List.replicate_succ, List.set_cons_zero, h, List.append_assoc]
  rfl
theorem midA_end (cs : List Srv) (f : Nat → List Nat) : midA cs f 4 = ⟨cs, (List.range 4).map (fun i => (toldQ (f (2 + i))).getD (0, okA))⟩ := by
  unfold midA; simp
theorem AOk.lsQ {m : AM} (h : AOk m) {j st : Nat} {a : Ans} (hx : st ≤ maxN ∧ AnsOk a ∧ (st = 0 → a = okA)) : AOk (lsQ m j st a) := by
  refine ⟨h.one, h.srv, h.same, h.apart, h.high, by show (m.last.set _ _).length = 4; rw [List.length_set]; exact h.last, fun x hx' => ?_⟩
  rcases List.mem_or_eq_of_mem_set hx' with e | e
  · exact h.ans x e
  · rw [e]; exact hx

/-- a region that reads two numbers and moves -/
structure MvJ (wr : World) (a0 a1 : Addr) (o z : Int) (K : World → Prop) (s : Nat) (W : World) : Prop where
  c0 : W.cell? a0 = some (.int .i64 o)
  c1 : W.cell? a1 = some (.int .i64 z)
  lt : a0.block < W.heap.size ∧ a1.block < W.heap.size
  zero : s = 0 → Below wr.heap.size wr W
  one : s = 1 → K W
theorem MvJ.later_ {wr W W' : World} {a0 a1 : Addr} {o z : Int} {K : World → Prop} {s : Nat} (h : MvJ wr a0 a1 o z K s W) (hK : ∀ W W', K W → Below W.heap.size W W' → K W') (hb : Below W.heap.size W W') : MvJ wr a0 a1 o z K s W' :=
  ⟨(hb.cell h.lt.1).trans h.c0, (hb.cell h.lt.2).trans h.c1, ⟨by have := h.lt.1; have := hb.size; omega, by have := h.lt.2; have := hb.size; omega⟩, fun e => by
    have h0 := h.zero e
    exact h0.trans (hb.mono h0.size), fun e => hK _ _ (h.one e) hb⟩
/-- the clients' answers under way -/
structure OaSt (w w3 : World) (g gc : Nat) (k : Book) (cs : List Srv) (f : Nat → List Nat) (j : Nat) (wr : World) : Prop where
  dat : ∃ S, ADat wr g gc none (fun b => b = g ∨ b = gc ∨ k.has b ∨ b < w.heap.size) (midA cs f j) S
  low : Below w3.heap.size w3 wr
  told : ∀ q, q < j → (toldQ (f (2 + q))).isSome = true
theorem OaSt.below {w w3 wr W : World} {g gc j : Nat} {k : Book} {cs : List Srv} {f : Nat → List Nat} (h : OaSt w w3 g gc k cs f j wr) (hb : Below wr.heap.size wr W) : OaSt w w3 g gc k cs f j W := by
  obtain ⟨S, hd⟩ := h.dat
  exact ⟨⟨S, hd.below hb⟩, h.low.trans (hb.mono h.low.size), h.told⟩
theorem OhSt.answers {w w3 wr : World} {g gc nch : Nat} {T : Option (List Srv)} {mv : Nat → List Int} {cs : List Srv} {k : Book} {f : Nat → List Nat} (h : OhSt w3 g gc nch T mv 2 cs wr) (hw : w.heap.size ≤ w3.heap.size) (hk : ∀ b, k.has b → b < w.heap.size) : T = some cs ∧ OaSt w w3 g gc k cs f 0 wr := by
  obtain ⟨S, hd⟩ := h.dat
  exact ⟨h.tot, ⟨⟨S, hd.mono (fun b _ hn => by
    rcases hn with e | e | e | e
    · exact .inl e
    · exact .inr (.inl e)
    · have := hk b e; exact .inr (.inr (by omega))
    · exact .inr (.inr (by omega))) ⟨.inl rfl, .inr (.inl rfl)⟩⟩, h.low, fun q hq => by omega⟩⟩

theorem OmSt.move_ {w3 wr W : World} {g gc nch i : Nat} {T : Option (List Srv)} {mv : Nat → List Int} {cs : List Srv} {s : Srv} {o z : Int} {t : List Int} (h : OmSt w3 g gc nch T mv i cs (o :: z :: t) wr) (hs : cs[i]? = some s) (hgg : g ≠ gc) (hg : w3.heap.size ≤ g ∧ w3.heap.size ≤ gc) (hb : Below wr.heap.size wr W) (bq : Bool) (hbq : bq = decide (usedA cs s.f z = false ∧ goodR s.now o z)) :
    Calls Tryz.prog 106 #[.pointer (some ⟨g, 0, none⟩), .int .i64 (i : Int), .int .i64 o, .int .i64 z] W fun e w' => e = .returned (.bool bq) ∧ (Below w3.heap.size w3 w' ∧ (bq = true → OmSt w3 g gc nch T mv i (cs.set i (movedS s o z)) t w')) ∧ (∀ b, b < w3.heap.size → w'.heap[b]? = W.heap[b]?) ∧ W.heap.size ≤ w'.heap.size := by
  obtain ⟨S, hd0⟩ := h.dat
  have hd := hd0.below hb
  have hlow := h.low.trans (hb.mono h.low.size)
  have hbnd := h.bnd s hs
  have hl20 : s.moves.length ≤ 20 := by simp only [List.length_cons] at hbnd; omega
  refine (aMove_any W g gc i none _ (freshQ cs) S s o z hd hs (fun b hN => by
    have := hd.lt
    have := hlow.size
    rcases hN with e | e | e <;> omega) hgg hl20).mono ?_
  rintro e w' ⟨h1, h2⟩
  by_cases hc : usedA cs s.f z = false ∧ goodR s.now o z
  · obtain ⟨rfl, S', hd', ho⟩ := h1 hc
    have hno : ∀ b, b < w3.heap.size → ¬ (b = gc ∨ MvC S i b) := fun b hb' e => by
      rcases e with e | ⟨a, ha, rfl⟩
      · omega
      · exact hd.mvN a.block ⟨i, a, (List.getElem?_eq_some_iff.1 hs).1, ha, rfl⟩ (.inr (.inr hb'))
    have hbl := hlow.trans (ho.below hlow.size fun b hb' hv => hno b hb' hv)
    rw [decide_eq_true hc] at hbq
    subst hbq
    exact ⟨rfl, ⟨hbl, fun _ => h.step hs hc hbl ⟨S', hd'⟩⟩, fun b hb' => ho.block b (by have := hlow.size; omega) (hno b hb'), ho.size⟩
  · obtain ⟨rfl, hbw⟩ := h2 hc
    rw [decide_eq_false hc] at hbq
    subst hbq
    exact ⟨rfl, ⟨hlow.trans (hbw.mono hlow.size), fun e => by cases e⟩, fun b hb' => hbw.block b (by have := hlow.size; omega), hbw.size⟩

theorem OaSt.put {w w3 wr W : World} {g gc j : Nat} {k : Book} {cs : List Srv} {f : Nat → List Nat} {x : Nat × Ans} {A : Option Addr} {c : Nat} {u : Value} (h : OaSt w w3 g gc k cs f j wr) (hj : j < 4) (hgg : g ≠ gc) (hg3 : w3.heap.size ≤ g ∧ w3.heap.size ≤ gc) (hk : ∀ b, k.has b → b < w.heap.size) (hb : Below wr.heap.size wr W) (hq : toldQ (f (2 + j)) = some x) (hm : ∀ z, z ∈ f (2 + j) → z ≤ maxN) (ho : OwnN W w.heap.size u (nI (f (2 + j))))
    (hrd : ∀ W, OwnN W w.heap.size u (nI (f (2 + j))) → Reads W W.heap.size 1 A x.2.nodes.length (x.2.nodes.map vn)) (hc : x.2.nodes.length ≤ c ∧ c ≤ maxLen) (hob : ∀ a, 0 < x.2.nodes.length → A = some a → u.ownBlock = some a.block) :
    ∃ c0, Blk W g 147 c0 ∧ c0.size = 22 ∧ ∀ W', Turned g W W' → Blk W' g 147 (spl c0 (2 + j * 5) (lsC x.1 x.2 A c).toList) → OaSt w w3 g gc k cs f (j + 1) W' := by
  obtain ⟨S, hd0⟩ := h.dat
  have hd := hd0.below hb
  refine ⟨_, hd.blk, aCs_size _ _ _ _, fun W' hT hB => ?_⟩
  have ho' : OwnN W' w.heap.size u (nI (f (2 + j))) := ho.keep_ fun b hb' => hT.block b fun e => own_blk_ne ho hd.blk (by decide) (by rw [hb', e])
  have hlow := h.low.trans (hb.mono h.low.size)
  have hok := hd.ok.lsQ (j := j) (toldQ_ok hm hq)
  have hdl := hd.lastedF hj hgg hT hB ⟨hrd W' ho', hc, fun a h0 ha hN => by
    have hub := hob a h0 ha
    have hge := (rowD_lt ho hub).1
    rcases hN with (e | e | e | e) | ⟨i, a', hi, ha', e⟩
    · exact own_blk_ne ho hd.blk (by decide) (by rw [hub, e])
    · exact own_blk_ne ho hd.row (by decide) (by rw [hub, e])
    · have := hk _ e; omega
    · omega
    · rcases (hd.mv i _ (List.getElem?_eq_getElem hi)).2 with ⟨e1, _⟩ | ⟨g', cap', cur', e1, _, e3, _⟩
      · injection e1 with e1; rw [ha'] at e1; cases e1
      · injection e1 with e1
        rw [ha'] at e1
        injection e1 with e1
        subst e1
        have hB' : Blk W g' 153 cur' := e3
        exact own_blk_ne ho hB' (by decide) (by rw [hub, ← e])⟩ hok
  rw [midA_step cs f j x hj hq] at hdl
  refine ⟨⟨_, hdl⟩, hT.below hlow hg3.1, fun q hq' => ?_⟩
  rcases Nat.lt_or_ge q j with e | e
  · exact h.told q e
  · obtain rfl : q = j := by omega
    rw [hq]; rfl
theorem endQ_none {cs : List Srv} {f : Nat → List Nat} {j : Nat} (hj : j < 4) (h : toldQ (f (2 + j)) = none) : endQ (some cs) f = none := by
  unfold endQ
  simp only
  rw [if_neg (fun hh => by have := hh j hj; rw [h] at this; cases this)]
theorem endQ_some {cs : List Srv} {f : Nat → List Nat} (h : ∀ q, q < 4 → (toldQ (f (2 + q))).isSome = true) : endQ (some cs) f = some (midA cs f 4) := by
  unfold endQ
  simp only
  rw [if_pos h, midA_end]

end Go.Proofs.YtlaodmmjhjpfmaaGreat
