/- Parts of the proof, in one text: RvL, VlLd, OpenB. -/
import Derived.Test.YtcpngeiahgoacaaGreatZ27
import Derived.Test.YtcpngeiahgoacaaGreatZ22
import Derived.Test.YtcpngeiahgoacaaGreatZ8
import Derived.Test.YtcpngeiahgoacaaGreatZ26
import Derived.Test.YtcpngeiahgoacaaGreatZ13
import Derived.Test.YtcpngeiahgoacaaGreatZ6
import Derived.Test.YtcpngeiahgoacaaGreatRows

/- Bytes that a law turns under its own hand: one slice, and a row of slices; vaults made behind them stay. -/
namespace Go.Proofs.YtcpngeiahgoacaaGreat
set_option linter.unusedVariables false
set_option linter.unusedSimpArgs false
open Go.RowKit Go.Maps

theorem InB.put {w : World} {v : Value} {t : Nat} (h : InB w v t) (g i : Nat) (x : UInt8) : InB (w.setCell ⟨g, i, none⟩ (vb x)) v t := by
  rcases h with h | ⟨gi, cap, cur, hv, hb, hc⟩
  · exact .inl h
  · by_cases e : gi = g
    · subst e
      exact .inr ⟨gi, cap, _, hv, hb.set_ i (vb x), bump_set hc x⟩
    · exact .inr ⟨gi, cap, cur, hv, (Turned.setCell w ⟨g, i, none⟩ (vb x)).blk hb e, hc⟩
theorem InB.below {w w' : World} {v : Value} {t : Nat} (h : InB w v t) (hb : Below w.heap.size w w') : InB w' v t := by
  rcases h with h | ⟨gi, cap, cur, hv, hk, hc⟩
  · exact .inl h
  · exact .inr ⟨gi, cap, cur, hv, hk.below' hb, hc⟩
theorem InB.drewN {w : World} {v : Value} {t : Nat} (h : InB w v t) (k : Nat) : InB (w.drewN k) v t := h

/-- what lies from B on, below E -/
def Mid (B E : Nat) (b : Nat) : Prop := B ≤ b ∧ b < E
structure MutSt (B E : Nat) (wm wr : World) (iv : Value) (n : Nat) (pv : Value) (vs : List Value) : Prop where
  inb : InB wr iv n
  ib : ∀ b, iv.ownBlock = some b → Mid B E b
  row : wr.ownsRow B 22 1 pv vs.length vs
  rin : ∀ u, u ∈ vs → ∃ A m c, u = .slice A m c ∧ InB wr u m ∧ (∀ b, u.ownBlock = some b → Mid B E b) ∧ m ≤ maxLen
  only : Only (Mid B E) wm wr
theorem MutSt.put {B E : Nat} {wm wr : World} {iv : Value} {n : Nat} {pv : Value} {vs : List Value} (h : MutSt B E wm wr iv n pv vs) {g : Nat} {cur : Array Value} (hg : Mid B E g) (hk : Blk wr g 5 cur) (i : Nat) (x : UInt8) : MutSt B E wm (wr.setCell ⟨g, i, none⟩ (vb x)) iv n pv vs := by
  refine ⟨h.inb.put g i x, h.ib, ?_, fun u hu => ?_, h.only.trans (Only.of_turned (Turned.setCell wr ⟨g, i, none⟩ (vb x)) hg)⟩
  · refine rowD_keep h.row fun b hb => (Turned.setCell wr ⟨g, i, none⟩ (vb x)).block b fun e => ?_
    subst e
    exact own_blk_ne h.row hk (by decide) hb
  · obtain ⟨A, m, c, h1, h2, h3⟩ := h.rin u hu
    exact ⟨A, m, c, h1, h2.put g i x, h3⟩
theorem MutSt.drewN {B E : Nat} {wm wr : World} {iv : Value} {n : Nat} {pv : Value} {vs : List Value} (h : MutSt B E wm wr iv n pv vs) (k : Nat) : MutSt B E wm (wr.drewN k) iv n pv vs :=
  ⟨h.inb, h.ib, h.row, h.rin, h.only.drewN k⟩
theorem MutSt.low {B E : Nat} {w wm wr : World} {iv : Value} {n : Nat} {pv : Value} {vs : List Value} (h : MutSt B E wm wr iv n pv vs) (hb : Below B w wm) (hB : B ≤ wm.heap.size) : Below B w wr :=
  hb.trans (h.only.below hB fun b h1 h2 => by have := h2.1; omega)
theorem MutSt.start {B : Nat} {wl wm : World} {iv pv : Value} {xs : List UInt8} {xss : List (List UInt8)} {vs : List Value} (h1 : OwnB wl B iv xs) (h2 : OwnL wl B pv xss vs) (hb : Below wl.heap.size wl wm) : MutSt B wl.heap.size wm wm iv xs.length pv vs := by
  have hl : vs.length = xss.length := by have := h2.row.1; omega
  refine ⟨(InB.of_own h1).below hb, fun b hb' => ⟨h1.ge hb', h1.lt hb'⟩, ?_, fun u hu => ?_, Only.refl _ _⟩
  · rw [hl]
    exact rowD_keep h2.row fun b hb' => hb.block b (rowD_lt h2.row hb').2
  · obtain ⟨k, hk, rfl⟩ := List.getElem_of_mem hu
    have hk2 : k < xss.length := by omega
    obtain ⟨u, h3, h4⟩ := h2.at_ k xss[k] (List.getElem?_eq_getElem hk2)
    rw [List.getElem?_eq_getElem hk] at h3
    rw [Option.some.inj h3]
    obtain ⟨A, c, h5, q1, q2, _⟩ := own_slice_b h4
    exact ⟨A, _, c, h5, (InB.of_own h4).below hb, fun b hb' => ⟨h4.ge hb', h4.lt hb'⟩, Nat.le_trans q1 q2⟩
/-- one of the row's slices, as the loop reads it -/
theorem MutSt.at_ {B E : Nat} {wm wr : World} {iv : Value} {n g : Nat} {c k : Nat} {vs : List Value} {m : Nat} {u : Value} (h : MutSt B E wm wr iv n (.slice (some ⟨g, 0, none⟩) m c) vs) (hk : vs[k]? = some u) (hm : vs.length = m) : wr.cell? ⟨g, k, none⟩ = some u ∧ ∃ A' m' c', u = .slice A' m' c' ∧ InB wr u m' ∧ (∀ b, u.ownBlock = some b → Mid B E b) ∧ m' ≤ maxLen := by
  have hr := h.row
  rw [hm] at hr
  have hkl : k < vs.length := (List.getElem?_eq_some_iff.1 hk).1
  have hku : vs[k] = u := by rw [List.getElem?_eq_getElem hkl] at hk; exact Option.some.inj hk
  have hmem : u ∈ vs := hku ▸ List.getElem_mem hkl
  refine ⟨?_, h.rin u hmem⟩
  rcases hr.2 with ⟨hv, h0⟩ | ⟨g', cap, cur, hv, hg, hh, q1, q2, q3, q4⟩
  · omega
  · injection hv with e1 e2 e3
    injection e1 with e1
    injection e1 with e1
    subst e1
    have : (cur.toList.take (m * 1))[k]? = some u := by rw [q4, hk]
    rw [Nat.mul_one, List.getElem?_take, if_pos (by omega)] at this
    have hb : Blk wr g 22 cur := hh
    rw [hb.cell k]
    simpa using this
theorem MutSt.first {B E : Nat} {wm wr : World} {iv : Value} {n : Nat} {A : Option Addr} {c : Nat} {vs : List Value} {m : Nat} (h : MutSt B E wm wr iv n (.slice A m c) vs) (hm : vs.length = m) (h0 : 0 < m) : ∃ g, A = some ⟨g, 0, none⟩ := by
  have hr := h.row
  rw [hm] at hr
  rcases hr.2 with ⟨hv, h0'⟩ | ⟨g', cap, cur, hv, hg, hh, q1, q2, q3, q4⟩
  · omega
  · injection hv with e1 e2 e3
    exact ⟨g', e1⟩
theorem rowL_less {w : World} {base base' : Nat} {e : TypeId} {size : Nat} {v : Value} {n : Nat} {xs : List Value} (h : w.ownsRow base e size v n xs) (hb : base' ≤ base) : w.ownsRow base' e size v n xs := by
  refine ⟨h.1, ?_⟩
  rcases h.2 with h1 | ⟨g, cap, cur, h1, h2, h3⟩
  · exact .inl h1
  · exact .inr ⟨g, cap, cur, h1, Nat.le_trans hb h2, h3⟩
theorem OwnL.more {w : World} {B B' : Nat} {v : Value} {xss : List (List UInt8)} {vs : List Value} (h : OwnL w B v xss vs) (hB : B' ≤ B) : OwnL w B' v xss vs :=
  ⟨rowL_less h.row hB, fun k x hx => by
    obtain ⟨u, h1, h2⟩ := h.at_ k x hx
    exact ⟨u, h1, h2.more hB⟩⟩

end Go.Proofs.YtcpngeiahgoacaaGreat

/- VaultLoads: what Load and Open hand out, as it stays while a law turns its own bytes. -/
namespace Go.Proofs.YtcpngeiahgoacaaGreat
set_option linter.unusedVariables false
set_option linter.unusedSimpArgs false
open Go.RowKit Go.Maps

theorem loadV_code (xs : List UInt8) : (((loadV xs).2 : Int) != 0) = (loadV xs).1.isNone := by
  unfold loadV
  simp only
  by_cases h1 : (loadGo 13 xs []).2.2 ≠ 0
  · rw [if_pos h1]
    simp
    omega
  · rw [if_neg h1]
    by_cases h2 : 0 < (loadGo 13 xs []).2.1.length
    · rw [if_pos h2]; rfl
    · rw [if_neg h2]
      cases openV (loadGo 13 xs []).1 <;> rfl
/-- the program's vault, laid from E on (or none) -/
structure VLive (E : Nat) (W : World) (P : Option Addr) (o : Option VM) : Prop where
  none_ : P.isNone = o.isNone
  live : ∀ m, o = some m → ∃ V : VLoc, P = some ⟨V.g, 0, none⟩ ∧ VAt W V (fun b => V.all b ∨ b < V.g) m ∧ E ≤ V.g ∧ ∀ b, V.T.has b → E ≤ b
theorem VLive.below {E : Nat} {W W' : World} {P : Option Addr} {o : Option VM} (h : VLive E W P o) (hb : Below W.heap.size W W') : VLive E W' P o :=
  ⟨h.none_, fun m hm => by
    obtain ⟨V, h1, h2, h3, h4⟩ := h.live m hm
    exact ⟨V, h1, h2.below hb, h3, h4⟩⟩
theorem VLive.mut {B E E' : Nat} {W W' : World} {P : Option Addr} {o : Option VM} (h : VLive E W P o) (ho : Only (Mid B E') W W') (hE : E' ≤ E) : VLive E W' P o :=
  ⟨h.none_, fun m hm => by
    obtain ⟨V, h1, h2, h3, h4⟩ := h.live m hm
    refine ⟨V, h1, h2.only ho (fun b hb => .inr (by have := hb.2; omega)) (fun hb => by have := hb.2; omega) (fun b hb hm => by have := h4 b hb; have := hm.2; omega), h3, h4⟩⟩
/-- the document's -/
structure RLive (E : Nat) (W : World) (P : Option Addr) (o : Option VM) : Prop where
  none_ : P.isNone = o.isNone
  live : ∀ m, o = some m → ∃ g S, P = some ⟨g, 0, none⟩ ∧ RVOwn W E g m S
theorem RVOwn.keep {W W' : World} {E g : Nat} {m : VM} {S : RVs} (h : RVOwn W E g m S) (hk : ∀ b, E ≤ b → b < W.heap.size → W'.heap[b]? = W.heap[b]?) : RVOwn W' E g m S :=
  ⟨h.ok, h.base, (hk g h.base h.cells.lt).trans h.cells, fun i hi => (h.data i hi).keep fun b hb => hk b ((h.data i hi).ge hb) ((h.data i hi).lt hb), h.seal_.keep_ fun b hb => hk b (rowD_lt h.seal_ hb).1 (rowD_lt h.seal_ hb).2⟩
theorem RLive.below {E : Nat} {W W' : World} {P : Option Addr} {o : Option VM} (h : RLive E W P o) (hb : Below W.heap.size W W') : RLive E W' P o :=
  ⟨h.none_, fun m hm => by
    obtain ⟨g, S, h1, h2⟩ := h.live m hm
    exact ⟨g, S, h1, h2.keep fun b _ hl => hb.block b hl⟩⟩
theorem RLive.mut {B E E' : Nat} {W W' : World} {P : Option Addr} {o : Option VM} (h : RLive E W P o) (ho : Only (Mid B E') W W') (hE : E' ≤ E) : RLive E W' P o :=
  ⟨h.none_, fun m hm => by
    obtain ⟨g, S, h1, h2⟩ := h.live m hm
    exact ⟨g, S, h1, h2.keep fun b h0 hl => ho.block b hl fun hb => by have := hb.2; omega⟩⟩
theorem NewAt.live {w W w' : World} {k : Book} {V : VLoc} {L : List (List UInt8)} {asked : Nat} {m : VM} (h : NewAt w w' k V L asked m) {E : Nat} (hE : E ≤ w.heap.size) : VLive E w' (some ⟨V.g, 0, none⟩) (some m) :=
  ⟨rfl, fun m' hm => by
    rw [← Option.some.inj hm]
    exact ⟨V, rfl, h.old, by have := h.new.1; omega, fun b hb => by have := h.new.2 b hb; omega⟩⟩
theorem LoadPost.gist {w w' : World} {k : Book} {L : List (List UInt8)} {asked n E B : Nat} {o : Option VM} {e : Ending} (h : LoadPost w k L asked o n e w') (hn : ((n : Int) != 0) = o.isNone) (hE : E ≤ w.heap.size) (hk : ∀ b, k.has b → B ≤ b) (hB : B ≤ w.heap.size) : ∃ P, e = .returned (.tuple #[.pointer P, .int .i64 (n : Int)]) ∧ VLive E w' P o ∧ Below B w w' := by
  cases o with
  | none =>
    obtain ⟨h1, h2⟩ := h.1 rfl
    exact ⟨none, h1, ⟨rfl, fun m hm => by cases hm⟩, h2.mono hB⟩
  | some m =>
    obtain ⟨V, h1, h2⟩ := h.2 m rfl
    have h0 : (n : Int) = 0 := by simpa using hn
    refine ⟨_, by rw [h0]; exact h1, h2.live (W := w) hE, h2.only.below hB fun b hb hm => by have := hk b hm; omega⟩
def codeV (o : Option VM) : Nat := match o with | none => 2 | some _ => 0
theorem codeV_ne (o : Option VM) : ((codeV o : Int) != 0) = o.isNone := by cases o <;> rfl
theorem OpenPost.gist {w w' : World} {k : Book} {L : List (List UInt8)} {asked E B : Nat} {o : Option VM} {e : Ending} (h : OpenPost w k L asked o e w') (hE : E ≤ w.heap.size) (hk : ∀ b, k.has b → B ≤ b) (hB : B ≤ w.heap.size) : ∃ P, e = .returned (.tuple #[.pointer P, .int .i64 (codeV o : Int)]) ∧ VLive E w' P o ∧ Below B w w' := by
  cases o with
  | none =>
    obtain ⟨h1, h2⟩ := h.1 rfl
    exact ⟨none, h1, ⟨rfl, fun m hm => by cases hm⟩, h2.mono hB⟩
  | some m =>
    obtain ⟨V, h1, h2⟩ := h.2 m rfl
    exact ⟨_, h1, h2.live (W := w) hE, h2.only.below hB fun b hb hm => by have := hk b hm; omega⟩
theorem RLoadPost.gist {w w' : World} {n E : Nat} {o : Option VM} {e : Ending} (h : RLoadPost w o n e w') (hn : ((n : Int) != 0) = o.isNone) (hE : E ≤ w.heap.size) : ∃ P, e = .returned (.tuple #[.pointer P, .int .i64 (n : Int)]) ∧ RLive E w' P o ∧ Below w.heap.size w w' := by
  cases o with
  | none =>
    obtain ⟨h1, h2⟩ := h
    exact ⟨none, h1, ⟨rfl, fun m hm => by cases hm⟩, h2⟩
  | some m =>
    obtain ⟨g, S, h1, h2, h3⟩ := h
    have h0 : (n : Int) = 0 := by simpa using hn
    exact ⟨_, by rw [h0]; exact h1, ⟨rfl, fun m' hm => by rw [← Option.some.inj hm]; exact ⟨g, S, rfl, h2.more hE⟩⟩, h3⟩
theorem ROpenPost.gist {w w' : World} {E : Nat} {o : Option VM} {e : Ending} (h : ROpenPost w o e w') (hE : E ≤ w.heap.size) : ∃ P, e = .returned (.tuple #[.pointer P, .int .i64 (codeV o : Int)]) ∧ RLive E w' P o ∧ Below w.heap.size w w' := by
  cases o with
  | none =>
    obtain ⟨h1, h2⟩ := h
    exact ⟨none, h1, ⟨rfl, fun m hm => by cases hm⟩, h2⟩
  | some m =>
    obtain ⟨g, S, h1, h2, h3⟩ := h
    exact ⟨_, h1, ⟨rfl, fun m' hm => by rw [← Option.some.inj hm]; exact ⟨g, S, rfl, h2.more hE⟩⟩, h3⟩

end Go.Proofs.YtcpngeiahgoacaaGreat

/- Arguments, opened, with their bulk. -/
namespace Go.Proofs.YtcpngeiahgoacaaGreat
set_option linter.unusedVariables false
set_option linter.unusedSimpArgs false
open Go.RowKit Go.WideShapes Go.ChangeShapes

theorem bulk_pos {H : Type} (d : DataW H) : 1 ≤ Rows.uptoBulk d := by
  cases d with
  | lit l => cases l <;> simp [Rows.uptoBulk]
  | _ => simp [Rows.uptoBulk]
theorem bulk_len {H : Type} : ∀ l : List (DataW H), l.length ≤ Rows.uptoBulkAll l
  | [] => by simp [Rows.uptoBulkAll]
  | d :: t => by
    have h1 := bulk_len t
    have h2 := bulk_pos d
    simp only [Rows.uptoBulkAll, List.length_cons]
    omega
theorem bulk_mem {H : Type} {d : DataW H} : ∀ {l : List (DataW H)}, d ∈ l → Rows.uptoBulk d ≤ Rows.uptoBulkAll l
  | [], h => by cases h
  | x :: t, h => by
    simp only [Rows.uptoBulkAll]
    rcases List.mem_cons.1 h with rfl | h
    · omega
    · have := bulk_mem h; omega
theorem bulk_slice {H : Type} (l s : List (DataW H)) : l.length ≤ Rows.uptoBulk (.slice l s) := by
  have := bulk_len l
  simp only [Rows.uptoBulk]
  omega
theorem bulk_part {H : Type} (l s : List (DataW H)) {d : DataW H} (h : d ∈ l) : Rows.uptoBulk d ≤ Rows.uptoBulk (.slice l s) := by
  have := bulk_mem h
  simp only [Rows.uptoBulk]
  omega

section
variable {H : Type} {enc : TypeId × Value → H} {P : Program} {w : World} {held : Bool}
theorem open_bytes_b {t e : TypeId} (ht : P.underlying t = some (.slice e)) (he : P.underlying e = some (.int .u8)) (hc : P.cellsOf e = 1) (hby : P.bytesOf e = 1) {fuel : Nat} {cs : List Value} {x : DataW H × List MemPlace}
    (h : DataW.trod enc P w 0 (fun _ => true) held fuel t cs = some x) (hw : Light P t x.1) :
    ∃ (A : Option Addr) (n c : Nat) (xs : List UInt8), cs = [.slice A n c] ∧ Reads w w.heap.size 1 A n (xs.map vb) ∧ n ≤ c ∧ c ≤ reachBytes ∧ n ≤ Rows.uptoBulk x.1 := by
  rcases open_ints ht he hc h with ⟨rfl, rfl⟩ | ⟨a, len, cap, zs, rfl, _, hl, hm, hz, rfl, hcell, hwf⟩
  · exact ⟨none, 0, 0, [], rfl, Reads.none_, Nat.le_refl _, Nat.zero_le _, Nat.zero_le _⟩
  · have hz' : zs.length = cap := by simpa using hz
    have hlight := (light_slice ht hw).1
    rw [hby] at hlight
    simp only [lits, List.length_map, List.length_take, List.length_drop] at hlight
    refine ⟨some a, len, cap, (zs.take len).map (fun z => UInt8.ofNat z.toNat), rfl, ⟨by simp; omega, fun hn => ⟨a, rfl, ?_, ?_⟩⟩, hl, by omega, Nat.le_trans (by simp [lits]; omega) (bulk_slice (H := H) (lits .u8 (zs.take len)) (lits .u8 (zs.drop len)))⟩
    · have := hcell 0 (by omega)
      have hb := World.block_lt_of_cell? _ _ this
      rwa [block_of_add] at hb
    · intro j u hu
      obtain ⟨hj, rfl⟩ := getElem?_vb hu
      have hjl : j < zs.length := by simp at hj; omega
      rw [hcell j hjl]
      have hz : zs.getD j 0 = zs[j] := by rw [List.getD_eq_getElem?_getD, List.getElem?_eq_getElem hjl]; rfl
      rw [hz, u8_of_wf (hwf zs[j] (List.getElem_mem hjl)), List.getElem_map, List.getElem_take]
      rfl

theorem open_rows_b {t e q : TypeId} (ht : P.underlying t = some (.slice e)) (he : P.underlying e = some (.slice q)) (hq : P.underlying q = some (.int .u8)) (hce : P.cellsOf e = 1) (hcq : P.cellsOf q = 1) (hbe : P.bytesOf e = 24) (hbq : P.bytesOf q = 1) {fuel : Nat} {cs : List Value} {x : DataW H × List MemPlace}
    (h : DataW.trod enc P w 0 (fun _ => true) held fuel t cs = some x) (hw : Light P t x.1) :
    ∃ (A : Option Addr) (n c : Nat) (xss : List (List UInt8)), cs = [.slice A n c] ∧ Rows2 w A n xss ∧ n ≤ c ∧ 24 * c ≤ reachBytes ∧ n ≤ Rows.uptoBulk x.1 ∧ ∀ y, y ∈ xss → y.length ≤ Rows.uptoBulk x.1 := by
  rcases Deep.open_slice1 ht hce h with ⟨rfl, rfl⟩ | ⟨a, len, cap, m, n, V, D, Pl, rfl, _, hl, hm, hmm, rfl, hx⟩
  · exact ⟨none, 0, 0, [], rfl, ⟨rfl, fun h => absurd h (by omega)⟩, Nat.le_refl _, Nat.zero_le _, Nat.zero_le _, fun y hy => by cases hy⟩
  · simp only [if_true] at hmm
    subst hmm
    have hlight := light_slice ht hw
    have hlt := hlight.1
    rw [hbe] at hlt
    simp only [List.length_map, List.length_range] at hlt
    have each : ∀ i, i < len → ∃ y : Option Addr × Nat × Nat × List UInt8, V i = .slice y.1 y.2.1 y.2.2.1 ∧ Reads w w.heap.size 1 y.1 y.2.1 (y.2.2.2.map vb) ∧ y.2.1 ≤ y.2.2.1 ∧ y.2.2.1 ≤ reachBytes ∧ y.2.1 ≤ Rows.uptoBulk (D i) := by
      intro i hi
      obtain ⟨A, k, c, xs, hcs, hr, h1, h2, h3⟩ := open_bytes_b he hq hcq hbq (hx i (by omega)).2 (hlight.2 _ (.inl (List.mem_map.2 ⟨i, List.mem_range.2 hi, rfl⟩)))
      exact ⟨(A, k, c, xs), by simpa using hcs, hr, h1, h2, h3⟩
    obtain ⟨y, hy⟩ := Go.Deep.choose_lt (α := Option Addr × Nat × Nat × List UInt8) (p := fun i y => V i = .slice y.1 y.2.1 y.2.2.1 ∧ Reads w w.heap.size 1 y.1 y.2.1 (y.2.2.2.map vb) ∧ y.2.1 ≤ y.2.2.1 ∧ y.2.2.1 ≤ reachBytes ∧ y.2.1 ≤ Rows.uptoBulk (D i)) each
    refine ⟨some a, len, m, (List.range len).map fun i => (y i).2.2.2, rfl, ⟨by simp, fun hn => ⟨a, rfl, ?_, fun j xs hj => ?_⟩⟩, hl, by omega, ?_, ?_⟩
    · have := (hx 0 (by omega)).1
      have hb := World.block_lt_of_cell? _ _ this
      rwa [block_of_add] at hb
    · rw [List.getElem?_map] at hj
      rcases Nat.lt_or_ge j len with hjl | hjl
      · rw [List.getElem?_range hjl] at hj
        simp only [Option.map_some, Option.some.injEq] at hj
        subst hj
        obtain ⟨h1, h2, h3, h4, _⟩ := hy j hjl
        exact ⟨_, _, _, by rw [(hx j (by omega)).1, h1], h2, h3, h4⟩
      · rw [List.getElem?_eq_none (by simpa using hjl)] at hj
        simp at hj
    · have hb := bulk_slice ((List.range len).map D) ((List.range (m - len)).map fun i => D (len + i))
      simp only [List.length_map, List.length_range] at hb
      exact hb
    · intro y' hy'
      obtain ⟨i, hi, rfl⟩ := List.mem_map.1 hy'
      have hil : i < len := List.mem_range.1 hi
      obtain ⟨h1, h2, h3, h4, h5⟩ := hy i hil
      have hxl : (y i).2.2.2.length = (y i).2.1 := by have := h2.1; simpa using this
      have hp := bulk_part ((List.range len).map D) ((List.range (m - len)).map fun i => D (len + i)) (List.mem_map.2 ⟨i, hi, rfl⟩)
      rw [hxl]
      exact Nat.le_trans h5 hp
end

end Go.Proofs.YtcpngeiahgoacaaGreat
