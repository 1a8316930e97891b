/-
  Two atlases of one book: the second one made again; both do the same wish.
-/
import Derived.Test.YtlaodmmjhjpfmaaGreatZ23
import Derived.Test.YtlaodmmjhjpfmaaGreatZ27
import Derived.Test.YtlaodmmjhjpfmaaGreatZ24
namespace Go.Proofs.YtlaodmmjhjpfmaaGreat
set_option linter.unusedVariables false
set_option linter.unusedSimpArgs false
open Go.RowKit Go.Maps

theorem TreeAt.notbook {w : World} {T : TreeLoc} {k : Book} {ls : List (List UInt8)} (h : TreeAt w T k ls) : ∀ b, T.has b → ¬ k.has b := fun b hb => by
  obtain ⟨b1, b2, b3⟩ := h.book
  rcases hb with e | e | ⟨j, hj, e⟩
  · exact e ▸ b1
  · exact e ▸ b2
  · exact e ▸ b3 j hj
theorem ALSt2.one {w0 W : World} {Va Vb : ALoc} {Na Nb : Nat → Prop} {ma mb : AM} {a : Nat} (h : ALSt2 w0 Va Vb Na Nb ma mb a W) : ALSt w0 Va Na ma a W := by
  obtain ⟨L, a', h1, h2, h3, h4⟩ := h.book
  exact ⟨h.vata, ⟨L, a', h1, h2, h3⟩, h.low, h.nlta, h.olda, h.newa⟩
/-- a new atlas of the same book in the second one's stead -/
theorem ALSt.again {w0 W W1 W' : World} {Va V : ALoc} {Na : Nat → Prop} {ma m : AM} {a asked : Nat} {L : List (List UInt8)} (h : ALSt w0 Va Na ma a W) (hb : Below W.heap.size W W1) (hbk : BookAt W1 Va.k L asked) (hin : InBook L (leavesQ ma)) (hn : ANew W1 W' Va.k V L asked m) : ∃ Na' Nb', ALSt2 w0 Va V Na' Nb' ma m (asked + 30) W' :=
  ALSt2.start h hb hbk hin (h.vat.tree.notbook) hn
/-- an atlas stands beside a new one of its book -/
theorem AAt.stands {w w' : World} {V : ALoc} {N : Nat → Prop} {m : AM} (h : AAt w V N m) (ho : Only V.k.has w w') : AAt w' V N m := by
  obtain ⟨S, hd⟩ := h.dat
  exact ⟨⟨S, hd.only ho (fun b e => h.all b (.inr (.inr (.inl e)))) h.far.2.2.2.1 h.far.2.2.2.2⟩, h.tree.only ho (fun b hb => h.tree.notbook b hb), h.far, h.all⟩
/-- what is new since B lies outside of both -/
def ALF (w0 : World) (Va Vb : ALoc) (ma mb : AM) (a B : Nat) (W : World) : Prop := ∃ Na Nb, ALSt2 w0 Va Vb Na Nb ma mb a W ∧ (∀ b, B ≤ b → b < W.heap.size → Na b ∧ ¬ Va.all b) ∧ ∀ b, B ≤ b → b < W.heap.size → Nb b ∧ ¬ Vb.all b
/-- .. of the second one -/
def ALG (w0 : World) (Va Vb : ALoc) (ma mb : AM) (a B : Nat) (W : World) : Prop := ∃ Na Nb, ALSt2 w0 Va Vb Na Nb ma mb a W ∧ ∀ b, B ≤ b → b < W.heap.size → Nb b ∧ ¬ Vb.all b
theorem ALSt2.alf {w0 W : World} {Va Vb : ALoc} {Na Nb : Nat → Prop} {ma mb : AM} {a : Nat} (h : ALSt2 w0 Va Vb Na Nb ma mb a W) : ALF w0 Va Vb ma mb a W.heap.size W := ⟨Na, Nb, h, fun b h1 h2 => by omega, fun b h1 h2 => by omega⟩
theorem ALF.below {w0 W W' : World} {Va Vb : ALoc} {ma mb : AM} {a B : Nat} (h : ALF w0 Va Vb ma mb a B W) (hb : Below W.heap.size W W') : ALF w0 Va Vb ma mb a B W' := by
  obtain ⟨Na, Nb, hl, h1, h2⟩ := h
  refine ⟨_, _, hl.later hb, fun b p q => ?_, fun b p q => ?_⟩
  · rcases Nat.lt_or_ge b W.heap.size with e | e
    · exact ⟨.inl (h1 b p e).1, (h1 b p e).2⟩
    · exact ⟨.inr ⟨e, q⟩, fun hv => by have := hl.nlta _ (hl.vata.all _ hv); omega⟩
  · rcases Nat.lt_or_ge b W.heap.size with e | e
    · exact ⟨.inl (h2 b p e).1, (h2 b p e).2⟩
    · exact ⟨.inr ⟨e, q⟩, fun hv => by have := hl.nltb _ (hl.vatb.all _ hv); omega⟩
theorem ALG.below {w0 W W' : World} {Va Vb : ALoc} {ma mb : AM} {a B : Nat} (h : ALG w0 Va Vb ma mb a B W) (hb : Below W.heap.size W W') : ALG w0 Va Vb ma mb a B W' := by
  obtain ⟨Na, Nb, hl, h2⟩ := h
  refine ⟨_, _, hl.later hb, fun b p q => ?_⟩
  rcases Nat.lt_or_ge b W.heap.size with e | e
  · exact ⟨.inl (h2 b p e).1, (h2 b p e).2⟩
  · exact ⟨.inr ⟨e, q⟩, fun hv => by have := hl.nltb _ (hl.vatb.all _ hv); omega⟩
def ADidA (w0 : World) (Va Vb : ALoc) (ma mb : AM) (a B : Nat) (W : World) (x : Wish) (r : Ending) (W' : World) : Prop :=
  ∃ A c, r = .returned (.tuple #[.agg (anC (doQ ma x).2.1.err none 0 0 (doQ ma x).2.1.epoch A (doQ ma x).2.1.nodes.length c), .int .i64 ((doQ ma x).2.2 : Int)]) ∧ OwnN W' W.heap.size (.slice A (doQ ma x).2.1.nodes.length c) (doQ ma x).2.1.nodes ∧ ALG w0 Va Vb (doQ ma x).1 mb (a + 6) B W' ∧ (∀ b, B ≤ b → b < W.heap.size → W'.heap[b]? = W.heap[b]?) ∧ W.heap.size ≤ W'.heap.size
/-- the first one does -/
theorem ALF.do_ {w0 W : World} {Va Vb : ALoc} {ma mb : AM} {a B : Nat} (h : ALF w0 Va Vb ma mb a B W) (ha : a ≤ 700000) (x : Wish) (hx : WishIn W W.heap.size x none 0 0 none 0 0) :
    Calls Tryz.prog 24 #[.pointer (some ⟨Va.g, 0, none⟩), .agg (wCells x none 0 0 none 0 0)] W (ADidA w0 Va Vb ma mb a B W x) := by
  obtain ⟨Na, Nb, hl, h1, h2⟩ := h
  refine (hl.do_ ha x hx).mono ?_
  rintro r W' ⟨D, rfl, hs, ⟨A, c, rfl, ho⟩, hl', hon⟩
  refine ⟨A, c, rfl, ho, ⟨_, _, hl', fun b p q => ?_⟩, fun b p q => hon.block b q fun e => ?_, hon.size⟩
  · rcases Nat.lt_or_ge b W.heap.size with e | e
    · exact ⟨.inl (h2 b p e).1, (h2 b p e).2⟩
    · exact ⟨.inr ⟨e, q⟩, fun hv => by have := hl.nltb _ (hl.vatb.all _ hv); omega⟩
  · rcases e with e | e
    · exact (h1 b p q).2 (AAt.has_all (w := W) (m := ma) (N := Na) e)
    · exact e (h1 b p q).1
def ADidB (w0 : World) (Va Vb : ALoc) (ma mb : AM) (a B : Nat) (W : World) (x : Wish) (r : Ending) (W' : World) : Prop :=
  ∃ A c Na Nb, r = .returned (.tuple #[.agg (anC (doQ mb x).2.1.err none 0 0 (doQ mb x).2.1.epoch A (doQ mb x).2.1.nodes.length c), .int .i64 ((doQ mb x).2.2 : Int)]) ∧ OwnN W' W.heap.size (.slice A (doQ mb x).2.1.nodes.length c) (doQ mb x).2.1.nodes ∧ ALSt2 w0 Va Vb Na Nb ma (doQ mb x).1 (a + 6) W' ∧ (∀ b, B ≤ b → b < W.heap.size → W'.heap[b]? = W.heap[b]?) ∧ W.heap.size ≤ W'.heap.size
/-- the second one does -/
theorem ALG.do_ {w0 W : World} {Va Vb : ALoc} {ma mb : AM} {a B : Nat} (h : ALG w0 Va Vb ma mb a B W) (ha : a ≤ 700000) (x : Wish) (hx : WishIn W W.heap.size x none 0 0 none 0 0) :
    Calls Tryz.prog 24 #[.pointer (some ⟨Vb.g, 0, none⟩), .agg (wCells x none 0 0 none 0 0)] W (ADidB w0 Va Vb ma mb a B W x) := by
  obtain ⟨Na, Nb, hl, h2⟩ := h
  refine (hl.swap.do_ ha x hx).mono ?_
  rintro r W' ⟨D, rfl, hs, ⟨A, c, rfl, ho⟩, hl', hon⟩
  refine ⟨A, c, _, _, rfl, ho, hl'.swap, fun b p q => hon.block b q fun e => ?_, hon.size⟩
  rcases e with e | e
  · exact (h2 b p q).2 (AAt.has_all (w := W) (m := mb) (N := Nb) e)
  · exact e (h2 b p q).1
/-- the state at a round's head -/
structure AgS (w0 : World) (Va Vb : ALoc) (i q : Nat) (W : World) : Prop where
  ex : ∃ m Na Nb, ARun m i ∧ ALSt2 w0 Va Vb Na Nb m m (60 + 80 * i + q) W
theorem OwnN.kept {w w' : World} {B : Nat} {v : Value} {xs : List Int} (h : OwnN w B v xs) {C : Nat} (hC : C ≤ B) (hk : ∀ b, C ≤ b → b < w.heap.size → w'.heap[b]? = w.heap[b]?) : OwnN w' B v xs :=
  h.keep_ fun b hb => hk b (by have := (rowD_lt h hb).1; omega) (rowD_lt h hb).2

end Go.Proofs.YtlaodmmjhjpfmaaGreat
