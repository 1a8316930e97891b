/- Parts of the proof, in one text: AtN, Reader, Parse, WishMath, Batch, TreeA, TreeB, TreeC. -/
import Derived.Test.YtlaodmmjhjpfmaaGreatZ8
import Derived.Laws.OwnMore
import Derived.Deep.RegionLaw
import Derived.Deep.DeepCutAuto
import Derived.Test.YtlaodmmjhjpfmaaGreatZ6

/- An atlas in plain words: what wishes leave, what leaves say. -/
namespace Go.Proofs.YtlaodmmjhjpfmaaGreat
set_option linter.unusedVariables false

theorem servedS_moved (s : Srv) (o n : Int) : servedS (movedS s o n) = servedS s ++ [n] := by
  unfold servedS movedS
  simp
theorem servedA_set : ∀ (cs : List Srv) (i : Nat) (s : Srv) (o n : Int), cs[i]? = some s → (servedA (cs.set i (movedS s o n))).Perm (n :: servedA cs)
  | [], _, _, _, _, h => by simp at h
  | c :: t, 0, s, o, n, h => by
    obtain rfl : c = s := by simpa using h
    show (servedS (movedS c o n) ++ servedA t).Perm (n :: (servedS c ++ servedA t))
    rw [servedS_moved, List.append_assoc]
    exact List.perm_middle
  | c :: t, i + 1, s, o, n, h => by
    have h1 := servedA_set t i s o n (by simpa using h)
    show (servedS c ++ servedA (t.set i (movedS s o n))).Perm (n :: (servedS c ++ servedA t))
    exact (h1.append_left (servedS c)).trans List.perm_middle
theorem usedS_false {s : Srv} {z : Int} (h : usedS s z = false) : ¬ z ∈ servedS s := by
  unfold usedS at h
  rw [Bool.or_eq_false_iff] at h
  unfold servedS
  rw [List.mem_append]
  rintro (e | e)
  · exact of_decide_eq_false h.1 e
  · obtain ⟨m, h1, h2⟩ := List.mem_map.1 e
    have := List.any_eq_false.1 h.2 m h1
    simp [h2] at this
theorem usedS_true {s : Srv} {z : Int} (h : z ∈ servedS s) : usedS s z = true := by
  cases hu : usedS s z with
  | true => rfl
  | false => exact absurd h (usedS_false hu)
theorem usedA_false {cs : List Srv} {f : Nat} {z : Int} (h : usedA cs f z = false) : 3 * (f : Int) + 1 < z ∧ ¬ z ∈ servedA cs := by
  unfold usedA at h
  rw [Bool.or_eq_false_iff] at h
  refine ⟨by have := of_decide_eq_false h.1; omega, fun e => ?_⟩
  unfold servedA at e
  obtain ⟨l, h1, h2⟩ := List.mem_flatten.1 e
  obtain ⟨s, h3, rfl⟩ := List.mem_map.1 h1
  have := List.any_eq_false.1 h.2 s h3
  exact this (usedS_true h2)
theorem served_in {cs : List Srv} {s : Srv} {z : Int} (hs : s ∈ cs) (hz : z ∈ servedS s) : z ∈ servedA cs := List.mem_flatten.2 ⟨_, List.mem_map.2 ⟨s, hs, rfl⟩, hz⟩
theorem now_served {s : Srv} {z : Int} (h : z ∈ s.now) : z ∈ servedS s := by
  unfold servedS
  rw [List.mem_append]
  rcases nowL_mem h with h | ⟨m, h1, h2⟩
  · exact .inl h
  · exact .inr (List.mem_map.2 ⟨m, h1, h2⟩)
theorem mem_set_of {α : Type} {l : List α} {i : Nat} {a x : α} (h : x ∈ l.set i a) : x = a ∨ x ∈ l := by
  obtain ⟨k, hk, rfl⟩ := List.mem_iff_getElem.1 h
  rw [List.getElem_set]
  split
  · exact .inl rfl
  · exact .inr (List.getElem_mem _)
theorem may_move {x : Wish} (h : inQ x = true) : 31 ≤ x.client ∧ x.client ≤ 34 ∧ 1 ≤ x.stamp ∧ x.stamp ≤ 9007199254740991 ∧ 1 ≤ x.block ∧ x.block ≤ 2 ∧ (x.kind = 3 ∨ (x.kind = 4 ∧ 1 ≤ x.old ∧ x.old ≤ 28 ∧ 1 ≤ x.new ∧ x.new ≤ 28 ∧ x.old ≠ x.new)) := by
  unfold inQ at h
  rw [Bool.and_eq_true] at h
  have h2 := of_decide_eq_true h.2
  have h1 := of_decide_eq_true h.1
  obtain ⟨_, _, h1⟩ := h1
  rcases h1 with h1 | h1
  · omega
  · obtain ⟨_, c1, c2, s1, s2, _, h1⟩ := h1
    rcases h1 with h1 | h1
    · omega
    · obtain ⟨hk, _, _, b1, b2, _⟩ := h1
      refine ⟨c1, c2, s1, s2, b1, b2, ?_⟩
      rcases hk with hk | hk
      · exact .inl hk.1
      · exact .inr hk
theorem errA_ok {e n : Nat} (he : e = 0 ∨ e = 5 ∨ e = 180) (hn : n ≤ 21) : AnsOk (errA e n) := ⟨he, rfl, hn, .inl rfl⟩
/-- what is left of an atlas but the answers -/
structure COk (cs : List Srv) : Prop where
  one : 1 ≤ cs.length ∧ cs.length ≤ 2
  srv : ∀ s, s ∈ cs → SOk s
  same : ∃ f, ∀ s, s ∈ cs → s.f = f
  apart : (servedA cs).Nodup
  high : ∀ s, s ∈ cs → ∀ x, x ∈ servedS s → 3 * (s.f : Int) + 1 < x
theorem AOk.cok {m : AM} (h : AOk m) : COk m.chunks := ⟨h.one, h.srv, h.same, h.apart, h.high⟩
/-- a replacement that may be -/
theorem COk.moved {cs : List Srv} {i : Nat} {s : Srv} {o n : Int} (h : COk cs) (hs : cs[i]? = some s) (ho : o ∈ s.now) (hn : usedA cs s.f n = false) (h1 : 1 ≤ n) (h2 : n ≤ 28) (hl : s.moves.length ≤ 20) : COk (cs.set i (movedS s o n)) := by
  have hm := List.mem_of_getElem? hs
  have hk := h.srv s hm
  have hu := usedA_false hn
  refine ⟨by rw [List.length_set]; exact h.one, fun q hq => ?_, ?_, ?_, fun q hq => ?_⟩
  · rcases mem_set_of hq with rfl | hq
    · exact ⟨hk.crew, by show (s.moves ++ [(o, n)]).length ≤ 21; simp; omega, MovesOk.app hk.mv ho (fun e => hu.2 (served_in hm (now_served e))) h1 h2⟩
    · exact h.srv q hq
  · obtain ⟨f, hf⟩ := h.same
    refine ⟨f, fun q hq => ?_⟩
    rcases mem_set_of hq with rfl | hq
    · exact hf s hm
    · exact hf q hq
  · exact ((servedA_set cs i s o n hs).nodup_iff).2 (List.nodup_cons.2 ⟨hu.2, h.apart⟩)
  · rcases mem_set_of hq with rfl | hq
    · intro x hx
      rw [servedS_moved, List.mem_append, List.mem_singleton] at hx
      show 3 * (s.f : Int) + 1 < x
      rcases hx with hx | rfl
      · exact h.high s hm x hx
      · exact hu.1
    · exact h.high q hq
theorem COk.answered {m : AM} (h : COk m.chunks) {x : Wish} (hx : inQ x = true) : COk (answerQ m x).1.chunks ∧ (answerQ m x).1.last = m.last ∧ AnsOk (answerQ m x).2 := by
  obtain ⟨c1, c2, s1, s2, b1, b2, hk⟩ := may_move hx
  unfold answerQ
  cases hs : m.chunks[(x.block - 1).toNat]? with
  | none => exact ⟨h, rfl, errA_ok (.inr (.inr rfl)) (by omega)⟩
  | some s =>
    have hsk := h.srv s (List.mem_of_getElem? hs)
    have hl := hsk.len
    simp only
    split
    · exact ⟨h, rfl, ⟨.inl rfl, rfl, hl, .inr hsk.now_ok.crew⟩⟩
    · rename_i hk3
      split
      · exact ⟨h, rfl, errA_ok (.inr (.inr rfl)) (by omega)⟩
      · split
        · exact ⟨h, rfl, errA_ok (.inr (.inr rfl)) hl⟩
        · rename_i hu
          split
          · exact ⟨h, rfl, errA_ok (.inr (.inl rfl)) (by omega)⟩
          · rename_i h22
            have hu' : x.old ∈ s.now ∧ usedA m.chunks s.f x.new = false := by
              refine ⟨Decidable.byContradiction fun e => hu (.inl e), ?_⟩
              cases hq : usedA m.chunks s.f x.new with
              | false => rfl
              | true => exact absurd (.inr hq) hu
            have hk4 : x.kind = 4 ∧ 1 ≤ x.old ∧ x.old ≤ 28 ∧ 1 ≤ x.new ∧ x.new ≤ 28 ∧ x.old ≠ x.new := by
              rcases hk with e | e
              · exact absurd e hk3
              · exact e
            exact ⟨h.moved hs hu'.1 hu'.2 hk4.2.2.2.1 hk4.2.2.2.2.1 (by omega), rfl, errA_ok (.inl rfl) (by omega)⟩
theorem AOk.did {m : AM} (h : AOk m) {x : Wish} (hx : inQ x = true) : AOk (didQ m x) := by
  obtain ⟨c1, c2, s1, s2, b1, b2, hk⟩ := may_move hx
  have ha := h.cok.answered hx
  unfold didQ
  split
  · have hc := ha.1
    refine ⟨hc.one, hc.srv, hc.same, hc.apart, hc.high, ?_, fun y hy => ?_⟩
    · show ((answerQ m x).1.last.set _ _).length = 4
      rw [List.length_set, ha.2.1]; exact h.last
    · rcases mem_set_of hy with rfl | hy
      · exact ⟨by show x.stamp.toNat ≤ maxN; unfold maxN; omega, ha.2.2, fun e => by have : x.stamp.toNat = 0 := e; omega⟩
      · rw [ha.2.1] at hy; exact h.ans y hy
  · exact h
theorem AOk.doQ {m : AM} (h : AOk m) (x : Wish) : AOk (doQ m x).1 := by
  unfold Proofs.YtlaodmmjhjpfmaaGreat.doQ
  split
  · rename_i hx; exact h.did hx
  · exact h
/-- an atlas of first crews -/
def begunGo : List Srv → Int → List (Int × List Int) → Option (List Srv)
  | acc, _, [] => some acc
  | acc, f0, c :: t => if (0 ≤ c.1 ∧ c.1 ≤ 2 ∧ (c.2.length : Int) = 3 * c.1 + 1 ∧ risingB 0 c.2 = true) ∧ c.1 = f0 ∧ c.2.any (usedA acc c.1.toNat) = false then begunGo (acc ++ [⟨c.1.toNat, c.2, []⟩]) f0 t else none
def begunV (cs : List (Int × List Int)) : Option (List Srv) := match cs with
  | [] => none
  | c :: t => if cs.length ≤ 2 then begunGo [] c.1 cs else none
def freshQ (cs : List Srv) : AM := ⟨cs, List.replicate 4 (0, okA)⟩
def newQ (cs : List (Int × List Int)) : Option AM := (begunV cs).map freshQ
structure CPre (f0 : Int) (cs : List Srv) : Prop where
  srv : ∀ s, s ∈ cs → SOk s ∧ (s.f : Int) = f0 ∧ s.moves = []
  apart : (servedA cs).Nodup
  high : ∀ s, s ∈ cs → ∀ x, x ∈ servedS s → 3 * (s.f : Int) + 1 < x
theorem CPre.nil (f0 : Int) : CPre f0 [] := ⟨fun s hs => (by cases hs), List.nodup_nil, fun s hs => (by cases hs)⟩
theorem CPre.push {f0 : Int} {acc : List Srv} {c : Int × List Int} (h : CPre f0 acc) (h1 : 0 ≤ c.1 ∧ c.1 ≤ 2 ∧ (c.2.length : Int) = 3 * c.1 + 1 ∧ risingB 0 c.2 = true) (h2 : c.1 = f0) (h3 : c.2.any (usedA acc c.1.toNat) = false) : CPre f0 (acc ++ [⟨c.1.toNat, c.2, []⟩]) := by
  have hc : OkC c.1.toNat c.2 := ⟨by omega, by omega, h1.2.2.2⟩
  have hse : servedS ⟨c.1.toNat, c.2, []⟩ = c.2 := by unfold servedS; simp
  have hu : ∀ x, x ∈ c.2 → 3 * ((c.1.toNat : Nat) : Int) + 1 < x ∧ ¬ x ∈ servedA acc := fun x hx => by
    have := List.any_eq_false.1 h3 x hx
    exact usedA_false (by simpa using this)
  refine ⟨fun s hs => ?_, ?_, fun s hs => ?_⟩
  · rcases List.mem_append.1 hs with hs | hs
    · exact h.srv s hs
    · rw [List.mem_singleton] at hs
      subst hs
      exact ⟨⟨hc, by show 0 ≤ 21; omega, trivial⟩, by show ((c.1.toNat : Nat) : Int) = f0; omega, rfl⟩
  · unfold servedA
    rw [List.map_append, List.flatten_append]
    simp only [List.map_cons, List.map_nil, List.flatten_cons, List.flatten_nil, List.append_nil]
    rw [hse]
    refine List.nodup_append.2 ⟨h.apart, hc.pair.imp (fun {a b} e => by omega), fun a ha b hb e => ?_⟩
    subst e
    exact (hu a hb).2 ha
  · rcases List.mem_append.1 hs with hs | hs
    · exact h.high s hs
    · rw [List.mem_singleton] at hs
      subst hs
      intro x hx
      rw [hse] at hx
      exact (hu x hx).1
theorem begunGo_ok : ∀ (t : List (Int × List Int)) (acc : List Srv) (f0 : Int) (cs : List Srv), CPre f0 acc → begunGo acc f0 t = some cs → CPre f0 cs ∧ cs.length = acc.length + t.length
  | [], acc, f0, cs, h, e => by
    obtain rfl := Option.some.inj e
    exact ⟨h, by simp⟩
  | c :: t, acc, f0, cs, h, e => by
    unfold begunGo at e
    split at e
    · rename_i hc
      have := begunGo_ok t _ f0 cs (h.push hc.1 hc.2.1 hc.2.2) e
      refine ⟨this.1, ?_⟩
      rw [this.2, List.length_append]
      simp only [List.length_cons, List.length_nil]
      omega
    · cases e
theorem begunV_ok {l : List (Int × List Int)} {cs : List Srv} (h : begunV l = some cs) : COk cs ∧ (∀ s, s ∈ cs → s.moves = []) ∧ cs.length = l.length := by
  unfold begunV at h
  split at h
  · cases h
  · rename_i c t
    split at h
    · rename_i hl
      have := begunGo_ok _ _ _ _ (CPre.nil c.1) h
      have hlen : cs.length = (c :: t).length := by rw [this.2]; simp
      have hsrv := this.1.srv
      refine ⟨⟨⟨by rw [hlen]; simp, by omega⟩, fun s hs => (hsrv s hs).1, ?_, this.1.apart, this.1.high⟩, fun s hs => (hsrv s hs).2.2, hlen⟩
      exact ⟨c.1.toNat, fun s hs => by have := (hsrv s hs).2.1; omega⟩
    · cases h
theorem okA_ok : AnsOk okA := ⟨.inl rfl, rfl, by show (0 : Nat) ≤ 21; omega, .inl rfl⟩
theorem freshQ_ok {cs : List Srv} (h : COk cs) : AOk (freshQ cs) := by
  refine ⟨h.one, h.srv, h.same, h.apart, h.high, by simp [freshQ], fun x hx => ?_⟩
  have := List.eq_of_mem_replicate hx
  rw [this]
  exact ⟨Nat.zero_le _, okA_ok, fun _ => rfl⟩
end Go.Proofs.YtlaodmmjhjpfmaaGreat

/- Contracts of the reader: num, str, many, end. -/
namespace Go.Proofs.YtlaodmmjhjpfmaaGreat
set_option linter.unusedVariables false
open Go.RowKit

/-- bytes that are left, the error's number -/
abbrev RdS := List UInt8 × Nat
def rdN (s : RdS) : Nat × RdS := if s.2 = 0 then ((tn s.1).1, ((tn s.1).2.1, (tn s.1).2.2)) else (0, s)
def rdT (s : RdS) (most : Nat) : List UInt8 × RdS := if s.2 = 0 then ((ts s.1 most).1, ((ts s.1 most).2.1, (ts s.1 most).2.2)) else ([], s)
def rdM (s : RdS) (most : Nat) : Nat × RdS :=
  if (rdN s).2.2 = 0 then (if most < (rdN s).1 then (0, ((rdN s).2.1, 5)) else ((rdN s).1, (rdN s).2)) else (0, (rdN s).2)
def rdE (s : RdS) : Nat := if s.2 = 0 ∧ 0 < s.1.length then 4 else s.2

/-- of what was there, block g alone may have turned -/
structure OnlyAt (g : Nat) (w w' : World) : Prop where
  os : w'.os = w.os
  tape : w'.tape = w.tape
  output : w'.output = w.output
  size : w.heap.size ≤ w'.heap.size
  block : ∀ i, i < w.heap.size → i ≠ g → w'.heap[i]? = w.heap[i]?
theorem OnlyAt.refl (g : Nat) (w : World) : OnlyAt g w w := ⟨rfl, rfl, rfl, Nat.le_refl _, fun _ _ _ => rfl⟩
theorem OnlyAt.of_below {g : Nat} {w w' : World} (h : Below w.heap.size w w') : OnlyAt g w w' := ⟨h.os, h.tape, h.output, h.size, fun i hi _ => h.block i hi⟩
theorem OnlyAt.trans {g : Nat} {a b c : World} (h : OnlyAt g a b) (k : OnlyAt g b c) : OnlyAt g a c :=
  ⟨k.os.trans h.os, k.tape.trans h.tape, k.output.trans h.output, Nat.le_trans h.size k.size, fun i hi hn => (k.block i (Nat.lt_of_lt_of_le hi h.size) hn).trans (h.block i hi hn)⟩
theorem OnlyAt.set {g : Nat} {a b : World} (h : OnlyAt g a b) (i : Nat) (u : Value) : OnlyAt g a (b.setCell ⟨g, i, none⟩ u) :=
  ⟨h.os, h.tape, h.output, by simpa [World.setCell] using h.size, fun j hj h1 => (Below.heap_setCell b ⟨g, i, none⟩ u j h1).trans (h.block j hj h1)⟩
theorem OnlyAt.below {g : Nat} {w0 w w' : World} {B : Nat} (h : OnlyAt g w w') (hb : Below B w0 w) (hB : B ≤ w.heap.size) (hg : B ≤ g) : Below B w0 w' :=
  hb.trans ⟨h.os, h.tape, h.output, h.size, fun i hi => h.block i (by omega) (by omega)⟩

theorem ts_len (b : List UInt8) (most : Nat) : (ts b most).2.1.length ≤ b.length := by
  rw [ts_eq]
  have := tn_len b
  split
  · simp
  · split
    · simp
    · split
      · simp
      · simp; omega

end Go.Proofs.YtlaodmmjhjpfmaaGreat

/- Contract of wish.Parse. -/
namespace Go.Proofs.YtlaodmmjhjpfmaaGreat
set_option linter.unusedVariables false
open Go.RowKit

def stN (s : RdS) : Nat → RdS
  | 0 => s
  | i + 1 => (rdN (stN s i)).2
def vlN (s : RdS) (i : Nat) : Nat := (rdN (stN s i)).1
def zeroW : Wish := ⟨0, 0, 0, 0, 0, 0, [], 0, 0, []⟩
def pD (b : List UInt8) : List UInt8 × RdS := rdT (stN (b, 0) 6) 16
def pM (b : List UInt8) : Nat × RdS := rdM (stN (pD b).2 2) 7
def parseW (b : List UInt8) : Wish where
  kind := (vlN (b, 0) 0 : Int)
  client := (vlN (b, 0) 1 : Int)
  stamp := (vlN (b, 0) 2 : Int)
  group := (vlN (b, 0) 3 : Int)
  epoch := (vlN (b, 0) 4 : Int)
  block := (vlN (b, 0) 5 : Int)
  data := (pD b).1
  old := (vlN (pD b).2 0 : Int)
  new := (vlN (pD b).2 1 : Int)
  next := (List.range (pM b).1).map fun i => (vlN (pM b).2 i : Int)
def parseE (b : List UInt8) : Nat := rdE (stN (pM b).2 (pM b).1)
def parse (b : List UInt8) : Wish × Nat := if parseE b = 0 then (if mayB (parseW b) = true then (parseW b, 0) else (zeroW, 2)) else (zeroW, parseE b)

theorem Blk.only {w w' : World} {g k : Nat} {t : TypeId} {cs : Array Value} (h : Blk w g t cs) (ho : OnlyAt k w w') (hne : g ≠ k) : Blk w' g t cs := (ho.block g h.lt hne).trans h
def OwnN (w : World) (base : Nat) (v : Value) (zs : List Int) : Prop := w.ownsRow base 3 1 v zs.length (zs.map vn)
theorem own_lt {w : World} {base b : Nat} {v : Value} {zs : List Int} (h : OwnN w base v zs) (hb : v.ownBlock = some b) : b < w.heap.size := by
  rcases h.2 with ⟨rfl, _⟩ | ⟨g, cap, cur, rfl, hg, hh, _⟩
  · simp [Value.ownBlock] at hb
  · simp [Value.ownBlock] at hb; subst hb
    rcases Nat.lt_or_ge g w.heap.size with h | h
    · exact h
    · rw [Array.getElem?_eq_none h] at hh; cases hh
theorem own_ge {w : World} {base b : Nat} {v : Value} {zs : List Int} (h : OwnN w base v zs) (hb : v.ownBlock = some b) : base ≤ b := by
  rcases h.2 with ⟨rfl, _⟩ | ⟨g, cap, cur, rfl, hg, hh, _⟩
  · simp [Value.ownBlock] at hb
  · simp [Value.ownBlock] at hb; omega
theorem own_keep {w w' : World} {base : Nat} {v : Value} {zs : List Int} (h : OwnN w base v zs) (hk : ∀ b, v.ownBlock = some b → w'.heap[b]? = w.heap[b]?) : OwnN w' base v zs := by
  refine ⟨h.1, ?_⟩
  rcases h.2 with h0 | ⟨g, cap, cur, rfl, hg, hh, h1⟩
  · exact .inl h0
  · exact .inr ⟨g, cap, cur, rfl, hg, (hk g rfl).trans hh, h1⟩
theorem own_shape' {w : World} {B : Nat} {e : TypeId} {s n : Nat} {v : Value} {vs : List Value} (h : w.ownsRow B e s v n vs) : ∃ A c, v = .slice A n c := by
  rcases h.2 with ⟨rfl, h0⟩ | ⟨g, cap, cur, rfl, _⟩
  · exact ⟨none, 0, by rw [h0]⟩
  · exact ⟨_, cap, rfl⟩
theorem wCells_one (x : Wish) (A : Option Addr) (n c : Nat) (A' : Option Addr) (n' c' : Nat) : (wCells x A n c A' n' c').all (·.oneCell') = true := by simp [wCells, Value.oneCell']
theorem wCells_info (x : Wish) (A : Option Addr) (n c : Nat) (A' : Option Addr) (n' c' : Nat) : (Tryz.prog.info? 48).map (·.size) = some (wCells x A n c A' n' c').size := by kernel_rfl
section
attribute [local irreducible] pD pM vlN stN
end
end Go.Proofs.YtlaodmmjhjpfmaaGreat

/- Wishes as bytes, there and back: the plain law. -/
namespace Go.Proofs.YtlaodmmjhjpfmaaGreat
set_option linter.unusedVariables false

theorem NumI.max {z : Int} (h : NumI z) : z.toNat ≤ maxN := by unfold NumI at h; unfold maxN; omega
end Go.Proofs.YtlaodmmjhjpfmaaGreat

/- Contract of wish.Batch. -/
namespace Go.Proofs.YtlaodmmjhjpfmaaGreat
set_option linter.unusedVariables false
open Go.RowKit

/-- wishes, one behind the other, that lie below B -/
def WishesIn (w : World) (B : Nat) (A : Option Addr) (n : Nat) (l : List Wish) : Prop :=
  l.length = n ∧ (0 < n → ∃ ad, A = some ad ∧ ad.block < B ∧ ∀ (k : Nat) (x : Wish), l[k]? = some x → ∃ A1 n1 c1 A2 n2 c2, (∀ (j : Nat) (v : Value), (wCells x A1 n1 c1 A2 n2 c2)[j]? = some v → w.cell? (ad.add (10 * k + j)) = some v) ∧ WishIn w B x A1 n1 c1 A2 n2 c2)
theorem WishesIn.below {w w' : World} {B n : Nat} {A : Option Addr} {l : List Wish} (h : WishesIn w B A n l) (hb : Below B w w') : WishesIn w' B A n l :=
  ⟨h.1, fun h0 => by
    obtain ⟨ad, hA, hB, hc⟩ := h.2 h0
    exact ⟨ad, hA, hB, fun k x hx => by
      obtain ⟨A1, n1, c1, A2, n2, c2, h1, h2⟩ := hc k x hx
      exact ⟨A1, n1, c1, A2, n2, c2, fun j v hv => (hb.cell (by rw [block_of_add]; exact hB)).trans (h1 j v hv), h2.below hb⟩⟩⟩
theorem WishesIn.more {w : World} {B B' n : Nat} {A : Option Addr} {l : List Wish} (h : WishesIn w B A n l) (hB : B ≤ B') : WishesIn w B' A n l :=
  ⟨h.1, fun h0 => by
    obtain ⟨ad, hA, hb, hc⟩ := h.2 h0
    exact ⟨ad, hA, by omega, fun k x hx => by
      obtain ⟨A1, n1, c1, A2, n2, c2, h1, h2⟩ := hc k x hx
      exact ⟨A1, n1, c1, A2, n2, c2, h1, h2.more hB⟩⟩⟩

/-- a load of a struct, wherever it lies -/
theorem wpList_load_cells {P : Program} {ops : Array Oper} {rest : List Oper} {o : Oper} {a : Act} {w : World} {Q : Exit → Act → World → Prop} (hgd : o.guard = none) (ty : TypeId) (x : Operand) (ho : o.op = .load ty x)
    (ad : Addr) (n : Nat) (hx : a.eval x = .pointer (some ad)) (vs : Array Value) (d : TypeDesc)
    (hu : P.underlying ty = some d) (hd : (match d with | .struct _ | .array _ _ => true | _ => false) = true) (hi : (P.info? ty).map (·.size) = some n)
    (hn : vs.size = n) (hv : ∀ (j : Nat) (v : Value), vs[j]? = some v → w.cell? (ad.add j) = some v)
    (h : wpList P ops Q rest (a.put o.dst (.agg vs)) w) : wpList P ops Q (o :: rest) a w :=
  wpList_plain hgd fun _ hK => by
    have hl : (loadCells ad vs.toList.length).run P w = .ok vs.toList.toArray w :=
      run_loadCells_list (P := P) w ad vs.toList (fun j v hj => hv j v (by simpa using hj))
    have hrun : (loadVar ty ad).run P w = .ok (.agg vs) w := by
      cases hq : P.info? ty with
      | none => simp [hq] at hi
      | some i =>
        have hs : i.size = n := by simpa [hq] using hi
        have hagg : (isAgg ty).run P w = .ok true w := by
          unfold isAgg
          rw [Sem.run_bind, run_underlying hu w]
          cases d <;> simp_all
        simp only [Array.length_toList, Array.toArray_toList, hn] at hl
        simp [loadVar, Sem.run_bind, hagg, sizeOf, typeInfo, hq, hs, hl]
    unfold Oper.wp execOp
    simp only [ho, hx, Instr.loadAt, Instr.sureAddr, Sem.run_bind, Sem.run_pure, Result.andThen_ok, hrun]
    exact hK _ _ h

end Go.Proofs.YtlaodmmjhjpfmaaGreat

/- Contracts of tree.Leaf, Up, group: digests of leaves and of nodes. -/
namespace Go.Proofs.YtlaodmmjhjpfmaaGreat
set_option linter.unusedVariables false
open Go.RowKit Go.Maps

/-- what is unchanged but for some blocks -/
structure Only (N : Nat → Prop) (w w' : World) : Prop where
  os : w'.os = w.os
  tape : w'.tape = w.tape
  output : w'.output = w.output
  size : w.heap.size ≤ w'.heap.size
  block : ∀ i, i < w.heap.size → ¬ N i → w'.heap[i]? = w.heap[i]?
theorem Only.refl (N : Nat → Prop) (w : World) : Only N w w := ⟨rfl, rfl, rfl, Nat.le_refl _, fun _ _ _ => rfl⟩
theorem Only.trans {N : Nat → Prop} {a b c : World} (h : Only N a b) (h' : Only N b c) : Only N a c :=
  ⟨h'.os.trans h.os, h'.tape.trans h.tape, h'.output.trans h.output, Nat.le_trans h.size h'.size, fun i hi hn => (h'.block i (Nat.lt_of_lt_of_le hi h.size) hn).trans (h.block i hi hn)⟩
theorem Only.of_book {k : Book} {w w' : World} (h : OnlyBook k w w') : Only k.has w w' := ⟨h.os, h.tape, h.output, h.size, h.block⟩
theorem Only.of_below {N : Nat → Prop} {w w' : World} (h : Below w.heap.size w w') : Only N w w' := ⟨h.os, h.tape, h.output, h.size, fun i hi _ => h.block i hi⟩
/-- more may turn; what is new may turn too -/
theorem Only.mono {N N' : Nat → Prop} {w w' : World} (h : Only N w w') (hN : ∀ b, b < w.heap.size → N b → N' b) : Only N' w w' := ⟨h.os, h.tape, h.output, h.size, fun i hi hn => h.block i hi (fun e => hn (hN i hi e))⟩
theorem Only.of_grown {N : Nat → Prop} {w w' : World} {b : Nat} (h : w.grownBy w' (some b)) (hb : N b) : Only N w w' := ⟨h.os, h.tape, h.output, h.size, fun i hi hn => h.block i hi (fun e => hn (by injection e with e; exact e ▸ hb))⟩
theorem Only.of_turned {N : Nat → Prop} {w w' : World} {b : Nat} (h : Turned b w w') (hb : N b) : Only N w w' := Only.of_grown h.grown hb
theorem Only.drewN {N : Nat → Prop} {w w' : World} (h : Only N w w') (n : Nat) : Only N w (w'.drewN n) := ⟨h.os, h.tape, h.output, h.size, h.block⟩
theorem Only.below {N : Nat → Prop} {w w' : World} (h : Only N w w') {B : Nat} (hB : B ≤ w.heap.size) (hn : ∀ b, b < B → ¬ N b) : Below B w w' := ⟨h.os, h.tape, h.output, h.size, fun i hi => h.block i (by omega) (hn i hi)⟩
theorem Only.blk {N : Nat → Prop} {w w' : World} {g : Nat} {t : TypeId} {cs : Array Value} (h : Only N w w') (hb : Blk w g t cs) (hg : ¬ N g) : Blk w' g t cs := (h.block g hb.lt hg).trans hb
theorem Only.cell {N : Nat → Prop} {w w' : World} (h : Only N w w') {p : Addr} (hp : p.block < w.heap.size) (hn : ¬ N p.block) : w'.cell? p = w.cell? p := World.cell?_of_block (h.block p.block hp hn)
theorem Only.reads {N : Nat → Prop} {w w' : World} {size n : Nat} {A : Option Addr} {xs : List Value} (h : Only N w w') (hr : Reads w w.heap.size size A n xs) (hn : ∀ a, 0 < n → A = some a → ¬ N a.block) : Reads w' w'.heap.size size A n xs :=
  ⟨hr.1, fun h0 => by
    obtain ⟨ad, e, hb, hc⟩ := hr.2 h0
    exact ⟨ad, e, by have := h.size; omega, fun j u hu => (h.cell (by rw [block_of_add]; exact hb) (by rw [block_of_add]; exact hn ad h0 e)).trans (hc j u hu)⟩⟩
theorem BookAt.only {w w' : World} {k : Book} {l : List (List UInt8)} {n : Nat} {N : Nat → Prop} (h : BookAt w k l n) (ho : Only N w w') (hg : ¬ N k.g) (h1 : ¬ N k.b1) (h2 : ¬ N k.b2) : BookAt w' k l n := by
  obtain ⟨D1, D2, n1, n2, m1, m2, m3⟩ := h.maps
  have hl := h.lt
  refine ⟨(ho.block _ hl.1 hg).trans h.cells, ⟨D1, D2, n1, n2, ?_, ?_, m3⟩, h.len, h.apart⟩
  · obtain ⟨es, c, hb, F, hs, hD⟩ := m1
    exact ⟨es, c, (ho.block _ hl.2.1 h1).trans hb, F, hs, hD⟩
  · obtain ⟨es, c, hb, F, hs, hD⟩ := m2
    exact ⟨es, c, (ho.block _ hl.2.2 h2).trans hb, F, hs, hD⟩

def digRow (ds : List (List UInt8)) : List Value := ds.flatMap fun d => d.map vb
theorem digRow_len : ∀ {ds : List (List UInt8)}, Digs ds → (digRow ds).length = ds.length * 32
  | [], _ => rfl
  | d :: t, h => by
    have h1 := h d (List.mem_cons_self ..)
    have h2 := digRow_len (ds := t) fun e he => h e (List.mem_cons_of_mem _ he)
    unfold digRow at h2 ⊢
    simp only [List.flatMap_cons, List.length_append, List.length_map, List.length_cons]
    omega
theorem digRow_app (a b : List (List UInt8)) : digRow (a ++ b) = digRow a ++ digRow b := by simp [digRow]
theorem digRow_get : ∀ {ds : List (List UInt8)} (hd : Digs ds) (i j : Nat) {d : List UInt8}, ds[i]? = some d → j < 32 → (digRow ds)[i * 32 + j]? = (d.map vb)[j]?
  | [], _, i, j, d, h, _ => by simp at h
  | e :: t, hd, 0, j, d, h, hj => by
    simp only [List.getElem?_cons_zero, Option.some.injEq] at h
    subst h
    have h1 := hd e (List.mem_cons_self ..)
    unfold digRow
    rw [List.flatMap_cons, List.getElem?_append_left (by simp [h1]; omega), show 0 * 32 + j = j by omega]
  | e :: t, hd, i + 1, j, d, h, hj => by
    have h1 := hd e (List.mem_cons_self ..)
    have h2 := digRow_get (ds := t) (fun x hx => hd x (List.mem_cons_of_mem _ hx)) i j (d := d) (by simpa using h) hj
    unfold digRow at h2 ⊢
    rw [List.flatMap_cons, List.getElem?_append_right (by simp [h1]; omega), ← h2]
    congr 1
    simp [h1]
    omega
theorem digRow_drop : ∀ {ds : List (List UInt8)} (hd : Digs ds) (i : Nat), (digRow ds).drop (i * 32) = digRow (ds.drop i)
  | [], _, i => by simp [digRow]
  | e :: t, _, 0 => by simp
  | e :: t, hd, i + 1 => by
    have h1 := hd e (List.mem_cons_self ..)
    have h2 := digRow_drop (ds := t) (fun x hx => hd x (List.mem_cons_of_mem _ hx)) i
    rw [List.drop_succ_cons, ← h2]
    unfold digRow
    rw [List.flatMap_cons, show (i + 1) * 32 = (e.map vb).length + i * 32 by simp [h1]; omega, List.drop_append, Nat.add_sub_cancel_left, List.drop_of_length_le (by omega), List.nil_append]
theorem digRow_take : ∀ {ds : List (List UInt8)} (hd : Digs ds) (i : Nat), (digRow ds).take (i * 32) = digRow (ds.take i)
  | [], _, i => by simp [digRow]
  | e :: t, _, 0 => by simp [digRow]
  | e :: t, hd, i + 1 => by
    have h1 := hd e (List.mem_cons_self ..)
    have h2 := digRow_take (ds := t) (fun x hx => hd x (List.mem_cons_of_mem _ hx)) i
    rw [List.take_succ_cons]
    unfold digRow at h2 ⊢
    rw [List.flatMap_cons, List.flatMap_cons, ← h2, show (i + 1) * 32 = (e.map vb).length + i * 32 by simp [h1]; omega, List.take_length_add_append]

theorem treeZ_eq : inkZ = #[.int .u8 0, .int .u8 0, .int .u8 0, .int .u8 0, .int .u8 0, .int .u8 0, .int .u8 0, .int .u8 0, .int .u8 0, .int .u8 0, .int .u8 0, .int .u8 0, .int .u8 0, .int .u8 0, .int .u8 0, .int .u8 0, .int .u8 0, .int .u8 0, .int .u8 0, .int .u8 0, .int .u8 0, .int .u8 0, .int .u8 0, .int .u8 0, .int .u8 0, .int .u8 0, .int .u8 0, .int .u8 0, .int .u8 0, .int .u8 0, .int .u8 0, .int .u8 0] := by kernel_rfl
theorem tree_apart {w : World} {k : Book} {A : Option Addr} {n : Nat} {B : Nat} (hB : ∀ ad, A = some ad → B ≤ ad.block) (hk : k.g < B ∧ k.b1 < B ∧ k.b2 < B) : ∀ a, 0 < n → A = some a → ¬ k.has a.block := fun a _ ha e => by
  have := hB a ha
  rcases e with e | e | e <;> omega
theorem bRow_size32 {d : List UInt8} (h : d.length = 32) : (bRow d).size = 32 := by rw [bRow_size, h]

set_option maxRecDepth 100000 in
set_option maxHeartbeats 4000000 in
theorem leaf_any (k : Book) (L : List (List UInt8)) (asked : Nat) (A : Option Addr) (n c : Nat) (xs : List UInt8) (w : World) (B : Nat) (hbk : BookAt w k L asked) (h : Reads w B 1 A n (xs.map vb)) (hB : B ≤ w.heap.size) (hn : n < 65536) (has : asked ≤ 1000000) :
    Calls Tryz.prog 149 #[.pointer (some ⟨k.g, 0, none⟩), .slice A n c] w fun e w' => e = .returned (.tuple #[.agg (bRow (leafD xs)), .int .i64 0]) ∧ BookAt w' k (addInk L (leafIn xs)) (asked + 1) ∧ OnlyBook k w w' := by
  have hxn : xs.length = n := by have := h.1; simpa using this
  have HXN := Lib.hid hxn
  have hX : Below w.heap.size w (w.alloc (.cells inkZ 63)) := (Below.refl _ _).alloc (Nat.le_refl _) _
  have hk0 : Blk (w.alloc (.cells inkZ 63)) w.heap.size 63 inkZ := Blk.newAt (by simp)
  have hlt := hbk.lt
  have hlt1 := hlt.1
  have hlt2 := hlt.2.1
  have hlt3 := hlt.2.2
  have HBK := Lib.hid hbk
  have HRD := Lib.hid h
  obtain ⟨i0, hi0, hz0, hz1, hz2⟩ := info_parts u8_info
  have HZ := Lib.hid treeZ_eq
  have HZS := Lib.hid (show inkZ.size = 32 by simp [inkZ, bRow])
  have hs0 : (w.alloc (.cells inkZ 63)).heap.size = w.heap.size + 1 := by simp
  have HX := Lib.hid hX
  have HK0 := Lib.hid hk0
  have HS0 := Lib.hid hs0
  clear h hlt hbk hX hk0 hs0 hxn
  obtain ⟨g, hg⟩ : ∃ g, g = w.heap.size := ⟨_, rfl⟩
  have hnn : ¬ (65536 : Int) ≤ (n : Int) := by omega
  go_enter Tryz.func149, Tryz.ntmps149
  go_upto_region 1 with fail
  rw [← HZ.out]
  generalize World.alloc w _ = w1 at HX HK0 HS0 ⊢
  rw [← hg] at HK0 HS0 ⊢
  have hs1 := HX.out.size
  have hg1 : g < w1.heap.size := by have := HS0.out; omega
  have hgw : w.heap.size ≤ g := by omega
  have HRD1 := Lib.hid (HRD.out.below (HX.out.mono hB))
  have HW0 := Lib.hid (World.ownsRow_lit (base := w1.heap.size) (e := 5) (size := 1) w1 #[.int .u8 0] 1 (Nat.le_refl _) (by unfold maxLen; omega) rfl)
  have HRD2 := Lib.hid (HRD1.out.alloc (by omega) (.cells #[.int .u8 0] 5))
  clear HS0 hg
  go_wp2_with (at_builtin; go_must (refine wpList_append_any _ rfl (.tmp 11) (.tmp 12) 22 rfl w1.heap.size 5 i0 _ 1 1 Tryz.underlying22 hi0 hz0 hz1 hz2 rfl (by omega) _ 1 _ rfl HW0.out B A n c (xs.map vb) rfl HRD2.out ?c1 ?c2 ?c3 (by simp) ?_))
  case c1 => intro u hu; rfl
  case c2 => unfold maxLen; omega
  case c3 => omega
  intro v2 w2 hown2 hg2 hor2
  have hb2 : Below w1.heap.size w1 w2 := grown_below ((Below.refl _ _).alloc (Nat.le_refl _) _) (by simp) hg2 (fun b hb => by
    have : b = w1.heap.size := by simpa [Value.ownBlock] using hb.symm
    omega)
  have hob : OwnB w2 w1.heap.size v2 (leafIn xs) := by
    unfold OwnB leafIn
    rw [List.length_cons, HXN.out, List.map_cons, Nat.add_comm]
    exact hown2
  obtain ⟨Ab, cb, rfl, hbc, hbm, hbr, hbB⟩ := own_slice_b hob
  have hll : (leafIn xs).length = n + 1 := by unfold leafIn; rw [List.length_cons, HXN.out]
  rw [hll] at hbc hbr ⊢
  have HB2 := Lib.hid (HX.out.trans (hb2.mono hs1))
  have HK2 := Lib.hid (HK0.out.under hb2)
  have HBK2 := Lib.hid (HBK.out.below HB2.out)
  have hs2 := hb2.size
  have hap := tree_apart (w := w) (k := k) (n := n + 1) hbB (by omega)
  have hof := inkOf_any k L asked Ab (n + 1) cb (leafIn xs) w2 _ HBK2.out hbr (Nat.le_refl _) (fun a h0 ha e => hap a h0 ha (.inl e)) hbc hbm (by omega) has
  have hsz : (bRow (leafD xs)).size = 32 := bRow_size32 (leafD_len xs)
  have hon := bRow_one (leafD xs)
  have HOF := Lib.hid hof
  have hdd : leafD xs = shaOf (leafIn xs) := rfl
  rw [← hdd] at HOF
  obtain ⟨D, hD⟩ : ∃ D, D = bRow (leafD xs) := ⟨_, rfl⟩
  rw [← hD] at HOF hsz hon
  have HD := Lib.hid hD
  have HSZ := Lib.hid hsz
  have HON := Lib.hid hon
  clear hob hb2 hown2 hg2 hor2 hbr hbB hap hof hsz hon hdd hD HRD1 HRD2 HW0 hll
  go_wp2_with fail
  refine HOF.out.mono ?_
  rintro _ w3 ⟨rfl, hbk3, ho3⟩
  have HO3 := Lib.hid ((OnlyBook.of_below HB2.out).trans ho3)
  have hk3 : Blk w3 g 63 inkZ := (ho3.block g (by omega) (by rintro (e | e | e) <;> omega)).trans HK2.out
  have HK3 := Lib.hid hk3
  have HBK3 := Lib.hid hbk3
  have hs3 := ho3.size
  clear hbk3 ho3 hk3
  go_wp2_with (refine wpList_store_part (o := ⟨none, _, _, _, _, _⟩) rfl 63 (.tmp 4) (.tmp 15) rfl g 0 D rfl rfl 63 inkZ HK3.out (by rw [HSZ.out]; rfl) (by rw [HSZ.out, HZS.out]; omega) HON.out ?_; intro w5 hT5 hD5; rw [spl_self _ _ (by rw [HSZ.out, HZS.out])] at hD5)
  refine bodyPost_ret (results_part2 rfl _ _ g 32 63 _ _ rfl hD5 Tryz.underlying63 rfl rfl HSZ.out) rfl ⟨by rw [HD.out]; rfl, ?_, ?_⟩
  · exact HBK3.out.grown hT5.grown ⟨by omega, by omega, by omega⟩
  · exact HO3.out.grown hT5.grown (by omega)

/-- 's[l:h]' of a slice -/
theorem run_slice_sub {P : Program} {t e : TypeId} {m : Nat} (ht : P.underlying t = some (.slice e)) (hs : (P.info? e).map (·.size) = some m) (A : Option Addr) (len cap l h : Nat) (li hi : Int) (el : li = l) (eh : hi = h) (hlh : l ≤ h) (hh : h ≤ cap) (W : World) :
    (Instr.slice t (.slice A len cap) (some (.int .i64 li)) (some (.int .i64 hi)) none).run P W = .ok (.slice (if cap = l then A else A.map (·.add (l * m))) (h - l) (cap - l)) W := by
  subst el eh
  obtain ⟨i, hi, hsz⟩ : ∃ i, P.info? e = some i ∧ i.size = m := by
    cases hh : P.info? e with
    | none => rw [hh] at hs; cases hs
    | some i => rw [hh] at hs; exact ⟨i, rfl, by simpa using hs⟩
  have he : P.elem t = e := by simp [Program.elem, ht]
  rw [run_slice_lh W t A len cap (by rw [he]; exact ht) .i64 .i64 (l : Int) (h : Int) (by omega) (by omega) (by omega)]
  simp [he, sizeOf, typeInfo, hi, hsz, sliced]
theorem Reads.sub {w : World} {B size n : Nat} {A : Option Addr} {xs : List Value} (h : Reads w B size A n xs) {l k cap : Nat} (hlk : l ≤ k) (hk : k ≤ n) (hc : n ≤ cap) :
    Reads w B size (if cap = l then A else A.map (·.add (l * size))) (k - l) ((xs.drop (l * size)).take ((k - l) * size)) := by
  have hx := h.1
  have hm : l * size ≤ k * size := Nat.mul_le_mul_right _ hlk
  have hm2 : k * size ≤ n * size := Nat.mul_le_mul_right _ hk
  refine ⟨by rw [List.length_take, List.length_drop, hx, Nat.sub_mul]; omega, fun hn => ?_⟩
  obtain ⟨ad, rfl, hb, hcell⟩ := h.2 (by omega)
  rw [if_neg (by omega)]
  refine ⟨ad.add (l * size), rfl, by rw [block_of_add]; exact hb, fun j u hu => ?_⟩
  rw [add_of_add]
  rw [List.getElem?_take] at hu
  split at hu
  · exact hcell _ u (by rw [← hu, List.getElem?_drop])
  · cases hu

/-- 'arr[:]' of an array behind a pointer, one cell an element -/
theorem run_sliceArr_all {P : Program} {t e : TypeId} {n : Nat} (ht : P.underlying t = some (.array n e)) (hs : (P.info? e).map (·.size) = some 1) (hn : 0 < n) (a : Addr) (W : World) :
    (Instr.sliceAt t (.pointer (some a)) none none none).run P W = .ok (.slice (some (a.add 0)) n n) W := by
  obtain ⟨i, hi, hsz⟩ : ∃ i, P.info? e = some i ∧ i.size = 1 := by
    cases hh : P.info? e with
    | none => rw [hh] at hs; cases hs
    | some i => rw [hh] at hs; exact ⟨i, rfl, by simpa using hs⟩
  have he : P.elem t = e := by simp [Program.elem, ht]
  have hln : P.arrayLen t = n := by simp [Program.arrayLen, ht]
  rw [run_sliceAt_array_all W t a (by rw [he, hln]; exact ht)]
  simp [he, hln, sizeOf, typeInfo, hi, hsz, slicedAt, show ¬ n = 0 by omega]
theorem reads_blk {w : World} {g n : Nat} {t : TypeId} {cs : Array Value} (h : Blk w g t cs) (hn : cs.size = n) : Reads w w.heap.size 1 (some ⟨g, 0, none⟩) n cs.toList :=
  ⟨by simp [hn], fun _ => ⟨_, rfl, h.lt, fun j u hu => by
    rw [add_off, Nat.zero_add, h.cell]
    simpa using hu⟩⟩
/-- a literal's cells -/
theorem fill_spl : ∀ (l : List Value) (k : Nat) (cs : Array Value), k + l.length ≤ cs.size → (l.zipIdx k).foldl (fun (cs : Array Value) (x : Value × Nat) => cs.setIfInBounds x.2 x.1) cs = spl cs k l
  | [], k, cs, h => by
    simp only [List.zipIdx_nil, List.foldl_nil]
    unfold spl
    apply Array.toList_inj.1
    simp
  | v :: l, k, cs, h => by
    rw [List.length_cons] at h
    rw [List.zipIdx_cons, List.foldl_cons, fill_spl l (k + 1) _ (by rw [Array.size_setIfInBounds]; omega), spl_cons cs k v l h]
theorem fill_all (cs D : Array Value) (n : Nat) (h0 : cs.size = n) (h1 : D.size = n) : Array.foldl (fun (cs : Array Value) (x : Value × Nat) => cs.setIfInBounds x.2 x.1) cs D.zipIdx 0 n = D := by
  subst h1
  have e : D.size = D.zipIdx.size := by simp
  rw [e, ← Array.foldl_toList, Array.toList_zipIdx, fill_spl _ _ _ (by simp [h0]), spl_self _ _ h0.symm]
theorem dig_info : (Tryz.prog.info? 63).map (·.size) = some 32 := by kernel_rfl
set_option maxRecDepth 100000 in
theorem group_any (A : Option Addr) (n c p : Nat) (w : World) (hp : 4 * p ≤ n) (hn : n ≤ 1000000) (hc : n ≤ c) :
    Calls Tryz.prog 175 #[.slice A n c, .int .i64 (p : Int)] w fun e w' => e = .returned (.slice (if c = 4 * p then A else A.map (·.add (4 * p * 32))) (min (4 * p + 4) n - 4 * p) (c - 4 * p)) ∧ w = w' := by
  by_cases h4 : (n : Int) < 4 * (p : Int) + 4
  · have hsl := fun (W : World) => run_slice_sub (P := Tryz.prog) (t := 220) Tryz.underlying220 dig_info A n c (4 * p) n (4 * (p : Int)) (n : Int) (by omega) rfl (by omega) (by omega) W
    rw [show min (4 * p + 4) n = n by omega]
    generalize (if c = 4 * p then A else A.map (·.add (4 * p * 32))) = A' at hsl ⊢
    go_enter Tryz.func175, Tryz.ntmps175
    go_wp2
    go_ret
    exact ⟨rfl, rfl⟩
  · have hsl := fun (W : World) => run_slice_sub (P := Tryz.prog) (t := 220) Tryz.underlying220 dig_info A n c (4 * p) (4 * p + 4) (4 * (p : Int)) (4 * (p : Int) + 4) (by omega) (by omega) (by omega) (by omega) W
    rw [show min (4 * p + 4) n = 4 * p + 4 by omega]
    generalize (if c = 4 * p then A else A.map (·.add (4 * p * 32))) = A' at hsl ⊢
    go_enter Tryz.func175, Tryz.ntmps175
    go_wp2
    go_ret
    exact ⟨rfl, rfl⟩

end Go.Proofs.YtlaodmmjhjpfmaaGreat

/- Contract of tree.Up: the digest of a node's children. -/
namespace Go.Proofs.YtlaodmmjhjpfmaaGreat
set_option linter.unusedVariables false
open Go.RowKit Go.Maps
attribute [local irreducible] wpList

theorem digRow_at {ds : List (List UInt8)} (hd : Digs ds) {i : Nat} (hi : i < ds.length) {w : World} {ad : Addr} (h : ∀ j u, (digRow ds)[j]? = some u → w.cell? (ad.add j) = some u) :
    ∀ (j : Nat) (v : Value), (bRow ds[i])[j]? = some v → w.cell? ((ad.add (i * 32)).add j) = some v := fun j v hv => by
  have hl : ds[i].length = 32 := hd _ (List.getElem_mem hi)
  have hj : j < 32 := by
    rcases Nat.lt_or_ge j 32 with h1 | h1
    · exact h1
    · rw [Array.getElem?_eq_none (by rw [bRow_size, hl]; exact h1)] at hv; cases hv
  rw [add_of_add]
  refine h _ v ?_
  rw [digRow_get hd i j (List.getElem?_eq_getElem hi) hj]
  simpa [bRow] using hv

set_option maxRecDepth 100000 in
set_option maxHeartbeats 4000000 in
theorem up_any (k : Book) (L : List (List UInt8)) (asked : Nat) (A : Option Addr) (n c : Nat) (ds : List (List UInt8)) (w : World) (B : Nat) (hbk : BookAt w k L asked) (h : Reads w B 32 A n (digRow ds)) (hB : B ≤ w.heap.size) (hd : Digs ds) (h1 : 1 ≤ n) (h4 : n ≤ 4) (has : asked ≤ 1000000) :
    Calls Tryz.prog 174 #[.pointer (some ⟨k.g, 0, none⟩), .slice A n c] w fun e w' => e = .returned (.tuple #[.agg (bRow (upD ds)), .int .i64 0]) ∧ BookAt w' k (addInk L (upIn ds)) (asked + 1) ∧ OnlyBook k w w' := by
  have hxn : ds.length = n := by have h2 := h.1; rw [digRow_len hd] at h2; omega
  obtain ⟨ad, rfl, hadb, hcell⟩ := h.2 (by omega)
  have HXN := Lib.hid hxn
  have HD := Lib.hid hd
  have HC := Lib.hid hcell
  have hX : Below w.heap.size w (w.alloc (.cells inkZ 63)) := (Below.refl _ _).alloc (Nat.le_refl _) _
  have hk0 : Blk (w.alloc (.cells inkZ 63)) w.heap.size 63 inkZ := Blk.newAt (by simp)
  have hlt := hbk.lt
  have hlt1 := hlt.1
  have hlt2 := hlt.2.1
  have hlt3 := hlt.2.2
  have HBK := Lib.hid hbk
  obtain ⟨i0, hi0, hz0, hz1, hz2⟩ := info_parts u8_info
  have HZ := Lib.hid treeZ_eq
  have HZS := Lib.hid (show inkZ.size = 32 by simp [inkZ, bRow])
  have hs0 : (w.alloc (.cells inkZ 63)).heap.size = w.heap.size + 1 := by simp
  have HX := Lib.hid hX
  have HK0 := Lib.hid hk0
  have HS0 := Lib.hid hs0
  clear h hlt hbk hX hk0 hs0 hxn hd hcell
  obtain ⟨g, hg⟩ : ∃ g, g = w.heap.size := ⟨_, rfl⟩
  have hnn : ¬ (n : Int) < 1 := by omega
  have hnn4 : ¬ (4 : Int) < (n : Int) := by omega
  go_enter Tryz.func174, Tryz.ntmps174
  go_upto_region 1 with fail
  rw [← HZ.out]
  generalize World.alloc w _ = w1 at HX HK0 HS0 ⊢
  rw [← hg] at HK0 HS0 ⊢
  have hs1 := HX.out.size
  have hg1 : g < w1.heap.size := by have := HS0.out; omega
  have hgw : w.heap.size ≤ g := by omega
  have hw0 := World.ownsRow_lit (base := w1.heap.size) (e := 5) (size := 1) w1 #[.int .u8 1] 1 (Nat.le_refl _) (by unfold maxLen; omega) rfl
  have hob0 : OwnB (w1.alloc (.cells #[.int .u8 1] 5)) w1.heap.size (.slice (some ⟨w1.heap.size, 0, none⟩) 1 1) (upIn (ds.take 0)) := hw0
  have HW0 := Lib.hid hob0
  have HX1 := Lib.hid (HX.out.trans ((below_lit w1 (.cells #[.int .u8 1] 5)).mono hs1))
  have HK1 := Lib.hid (HK0.out.under (below_lit w1 (.cells #[.int .u8 1] 5)))
  have hsz1 : w1.heap.size ≤ (w1.alloc (.cells #[.int .u8 1] 5)).heap.size := by simp
  have HSZ1 := Lib.hid hsz1
  clear HS0 hg hw0 hob0 hsz1
  go_wp2_with fail
  go_loopw [6, 21] (fun ov iv wr => ∃ i : Nat, i ≤ n ∧ iv = .int .i64 i ∧ OwnB wr w1.heap.size ov (upIn (ds.take i)) ∧ Below w.heap.size w wr ∧ Blk wr g 63 inkZ ∧ w1.heap.size ≤ wr.heap.size) (fun _ iv _ => n - (intOf iv).toNat)
  case atStart => exact ⟨0, by omega, rfl, HW0.out, HX1.out, HK1.out, HSZ1.out⟩
  case round =>
    obtain ⟨i, hi, rfl, hov, hbel, hblk, hsr⟩ := hrel
    have HOV := Lib.hid hov
    have HB := Lib.hid hbel
    have HKR := Lib.hid hblk
    have hsz := hbel.size
    have HUL := Lib.hid (upIn_len (fun d hd => HD.out d (List.mem_of_mem_take hd) : Digs (ds.take i)))
    clear hov hbel hblk
    by_cases hin : i < n
    · have hil : i < ds.length := by have := HXN.out; omega
      have hcs := digRow_at HD.out hil HC.out
      have hcs' : ∀ (j : Nat) (v : Value), (bRow ds[i])[j]? = some v → wr.cell? ((ad.add (i * 32)).add j) = some v := fun j v hv => (HB.out.cell (show ((ad.add (i * 32)).add j).block < w.heap.size by rw [block_of_add, block_of_add]; omega)).trans (hcs j v hv)
      have htk : upIn (ds.take (i + 1)) = upIn (ds.take i) ++ ds[i] := by
        unfold upIn
        rw [List.take_succ_eq_append_getElem hil, List.flatten_append]
        simp
      have hdl : ds[i].length = 32 := HD.out _ (List.getElem_mem hil)
      obtain ⟨d, hdd⟩ : ∃ d, d = ds[i] := ⟨_, rfl⟩
      rw [← hdd] at hcs' htk hdl
      have HCS := Lib.hid hcs'
      have HTK := Lib.hid htk
      have hds := bRow_size32 hdl
      have hdo := bRow_one d
      have HDL := Lib.hid hdl
      have hdv : (bRow d).toList = d.map vb := by simp [bRow]
      have HDV := Lib.hid hdv
      clear hcs hcs' htk hdd hdl hdv
      obtain ⟨D, hD⟩ : ∃ D, D = bRow d := ⟨_, rfl⟩
      rw [← hD] at HCS hds hdo HDV
      have HDS := Lib.hid hds
      have HDO := Lib.hid hdo
      clear hds hdo hD
      have hinI : (i : Int) < (n : Int) := by omega
      go_upto_region 7 with (first
        | (refine wpList_load_cells (o := ⟨some 24, _, _, _, _, _⟩) rfl 63 (.tmp 23) rfl (ad.add (i * 32)) 32 rfl D _ Tryz.underlying63 rfl rfl HDS.out (fun j v hv => HCS.out j v hv) ?_)
        | (refine wpList_store_part (o := ⟨none, _, _, _, _, _⟩) rfl 63 (.tmp 8) (.tmp 24) rfl wr.heap.size 0 D rfl rfl 63 inkZ (by rw [HZ.out]; exact Blk.newAt rfl) (by rw [HDS.out]; rfl) (by rw [HDS.out, HZS.out]; omega) HDO.out ?_; intro w3 hT3 hD3; rw [spl_self _ _ (by rw [HDS.out, HZS.out])] at hD3))
      have hb3 : Below wr.heap.size wr w3 := hT3.below ((Below.refl _ _).alloc (Nat.le_refl _) _) (Nat.le_refl _)
      have HB3 := Lib.hid (HB.out.trans (hb3.mono hsz))
      have HO3 := Lib.hid (HOV.out.below hb3)
      have HK3 := Lib.hid (HKR.out.under hb3)
      have hs3 := hb3.size
      have hr3 := reads_blk hD3 HDS.out
      rw [HDV.out] at hr3
      have HR3 := Lib.hid hr3
      obtain ⟨gq, hgq⟩ : ∃ gq, gq = wr.heap.size := ⟨_, rfl⟩
      rw [← hgq] at HR3 ⊢
      have HSL := Lib.hid (fun (W : World) => run_sliceArr_all (P := Tryz.prog) (t := 63) Tryz.underlying63 (show (Tryz.prog.info? 5).map (·.size) = some 1 by kernel_rfl) (by omega) ⟨gq, 0, none⟩ W)
      have hrow := HO3.out.row
      have hul := HUL.out
      have hlen : (ds.take i).length ≤ 4 := by rw [List.length_take]; omega
      have HWN := Lib.hid hrow
      have hge := fun b (hb : (_ : Value).ownBlock = some b) => HO3.out.ge hb
      have HGE := Lib.hid hge
      obtain ⟨xb, hxb⟩ : ∃ xb, xb = upIn (ds.take i) := ⟨_, rfl⟩
      rw [← hxb] at HWN hul HTK
      have HXB := Lib.hid hxb
      clear hT3 hD3 hb3 hr3 hrow hgq hge hxb HOV HO3
      go_wp2_with (first
        | (refine wpList_exec_w (o := ⟨some 26, _, _, _, _, _⟩) rfl (.slice (some ⟨gq, 0, none⟩) 32 32) w3 (by
            have := HSL.out w3
            go_simp
            exact this) ?_)
        | (at_builtin; go_must (refine wpList_append_any (o := ⟨some 27, _, _, _, _, _⟩) _ rfl (.tmp 25) (.tmp 26) 22 rfl w1.heap.size 5 i0 _ 1 1 Tryz.underlying22 hi0 hz0 hz1 hz2 rfl (by omega) _ _ _ rfl HWN.out w3.heap.size (some ⟨gq, 0, none⟩) 32 32 (d.map vb) rfl HR3.out ?c1 ?c2 ?c3 ?c4 ?_)))
      case c1 => intro u hu; first | rfl | (obtain ⟨y, _, rfl⟩ := List.mem_map.1 hu; rfl)
      case c2 => unfold maxLen; omega
      case c3 => omega
      case c4 => omega
      intro v6 w6 hown6 hg6 hor6
      have HB6 := Lib.hid (grown_below HB3.out (by omega) hg6 (fun b hb => by have := HGE.out b hb; omega))
      have hk6 : Blk w6 g 63 inkZ := HK3.out.grown hg6 (fun e => by have := HGE.out g e.symm; omega)
      have HK6 := Lib.hid hk6
      have hs6 := hg6.size
      have HO6 := Lib.hid (show OwnB w6 w1.heap.size v6 (upIn (ds.take (i + 1))) by
        unfold OwnB
        rw [HTK.out, List.length_append, List.map_append, HDL.out, hul, List.length_take]
        exact hown6)
      clear hown6 hg6 hor6 hk6
      go_wp2_with fail
      go_roundw
      case rel => exact ⟨i + 1, by omega, by go_num, HO6.out, HB6.out, HK6.out, by omega⟩
      case measure => simp [intOf]; omega
    · obtain rfl : i = n := by omega
      have hiI : ¬ (i : Int) < (i : Int) := by omega
      have htk : ds.take i = ds := List.take_of_length_le (by have := HXN.out; omega)
      rw [htk] at HOV HUL
      have hob := HOV.out
      have hul := HUL.out
      obtain ⟨Ab, cb, rfl, hbc, hbm, hbr, hbB⟩ := own_slice_b hob
      have HBK2 := Lib.hid (HBK.out.below HB.out)
      have hap := tree_apart (w := w) (k := k) (n := (upIn ds).length) hbB (by omega)
      have hof := inkOf_any k L asked Ab (upIn ds).length cb (upIn ds) wr _ HBK2.out hbr (Nat.le_refl _) (fun a h0 ha e => hap a h0 ha (.inl e)) hbc hbm (by have := HXN.out; omega) has
      have hsz5 : (bRow (upD ds)).size = 32 := bRow_size32 (upD_len ds)
      have hon := bRow_one (upD ds)
      have HOF := Lib.hid hof
      have hdd : upD ds = shaOf (upIn ds) := rfl
      rw [← hdd] at HOF
      obtain ⟨D, hD⟩ : ∃ D, D = bRow (upD ds) := ⟨_, rfl⟩
      rw [← hD] at HOF hsz5 hon
      have HD5 := Lib.hid hD
      have HSZ := Lib.hid hsz5
      have HON := Lib.hid hon
      generalize (upIn ds).length = ul at *
      clear hob hbr hbB hap hof hsz5 hon hdd hD htk HOV HUL hul
      go_wp2_with fail
      refine HOF.out.mono ?_
      rintro _ w3 ⟨rfl, hbk3, ho3⟩
      have HO3 := Lib.hid ((OnlyBook.of_below HB.out).trans ho3)
      have hk3 : Blk w3 g 63 inkZ := (ho3.block g (by omega) (by rintro (e | e | e) <;> omega)).trans HKR.out
      have HK3 := Lib.hid hk3
      have HBK3 := Lib.hid hbk3
      have hs3 := ho3.size
      clear hbk3 ho3 hk3
      go_wp2_with (refine wpList_store_part (o := ⟨none, _, _, _, _, _⟩) rfl 63 (.tmp 4) (.tmp 32) rfl g 0 D rfl rfl 63 inkZ HK3.out (by rw [HSZ.out]; rfl) (by rw [HSZ.out, HZS.out]; omega) HON.out ?_; intro w5 hT5 hD6; rw [spl_self _ _ (by rw [HSZ.out, HZS.out])] at hD6)
      refine bodyPost_ret (results_part2 rfl _ _ g 32 63 _ _ rfl hD6 Tryz.underlying63 rfl rfl HSZ.out) rfl ⟨by rw [HD5.out]; rfl, ?_, ?_⟩
      · exact HBK3.out.grown hT5.grown ⟨by omega, by omega, by omega⟩
      · exact HO3.out.grown hT5.grown (by omega)

end Go.Proofs.YtlaodmmjhjpfmaaGreat

/- Contract of tree.above: the level above one. -/
namespace Go.Proofs.YtlaodmmjhjpfmaaGreat
set_option linter.unusedVariables false
open Go.RowKit Go.Maps

theorem grps_iff {j n : Nat} : j < grps n ↔ 4 * j < n := by unfold grps; omega
theorem grp_cells {ds : List (List UInt8)} (hd : Digs ds) (p : Nat) (hp : 4 * p ≤ ds.length) : ((digRow ds).drop (4 * p * 32)).take ((min (4 * p + 4) ds.length - 4 * p) * 32) = digRow (grp ds p) := by
  rw [digRow_drop hd, digRow_take (fun d h => hd d (List.mem_of_mem_drop h))]
  unfold grp
  congr 1
  rcases Nat.lt_or_ge (ds.length - 4 * p) 4 with h | h
  · rw [List.take_of_length_le (by rw [List.length_drop]; omega), List.take_of_length_le (by rw [List.length_drop]; omega)]
  · rw [show min (4 * p + 4) ds.length - 4 * p = 4 by omega]
def abovePre (ds : List (List UInt8)) (j : Nat) : List (List UInt8) := (List.range j).map fun p => upD (grp ds p)
theorem abovePre_next (ds : List (List UInt8)) (j : Nat) : abovePre ds (j + 1) = abovePre ds j ++ [upD (grp ds j)] := by simp [abovePre, List.range_succ]
theorem digs_info : (Tryz.prog.info? 63).map (fun i => (i.zero, i.size, i.bytes)) = some (some (.agg inkZ), 32, 32) := by kernel_rfl
theorem tdiv4 (j : Nat) : (4 * (j : Int)).tdiv 4 = (j : Int) := Int.mul_tdiv_cancel_left _ (by decide)
theorem reads_agg (w : World) (cs : Array Value) (t : TypeId) (m : Nat) (h : cs.size = m) : Reads (w.alloc (.cells cs t)) (w.heap.size + 1) m (some ⟨w.heap.size, 0, none⟩) 1 cs.toList := by
  obtain ⟨_, h2⟩ := reads_cells w cs t
  refine ⟨by simp [h], fun _ => ?_⟩
  rcases Nat.eq_zero_or_pos cs.size with h0 | h0
  · exact ⟨_, rfl, by simp, fun j u hu => by
      have : cs.toList.length = 0 := by simpa using h0
      rw [List.getElem?_eq_none (by omega)] at hu; cases hu⟩
  · obtain ⟨ad, h3, h4, h5⟩ := h2 h0
    exact ⟨ad, h3, h4, h5⟩
theorem rowD_keep {w w' : World} {B n s : Nat} {e : TypeId} {v : Value} {vs : List Value} (h : w.ownsRow B e s v n vs) (hk : ∀ b, v.ownBlock = some b → w'.heap[b]? = w.heap[b]?) : w'.ownsRow B e s v n vs := by
  rcases h.2 with hv | ⟨g, cap, cur, hv, h2, h3, h4⟩
  · exact ⟨h.1, .inl hv⟩
  · exact ⟨h.1, .inr ⟨g, cap, cur, hv, h2, (hk g (by rw [hv]; rfl)).trans h3, h4⟩⟩
theorem rowD_lt {w : World} {B b n s : Nat} {e : TypeId} {v : Value} {vs : List Value} (h : w.ownsRow B e s v n vs) (hb : v.ownBlock = some b) : B ≤ b ∧ b < w.heap.size := h.lt b hb

theorem addInk_old {l : List (List UInt8)} {x y : List UInt8} (h : y ∈ l) : y ∈ addInk l x := by
  unfold addInk
  split
  · exact h
  · exact List.mem_append_left _ h
theorem addInk_new (l : List (List UInt8)) (x : List UInt8) : x ∈ addInk l x := by
  unfold addInk
  split
  · rename_i h; simpa using h
  · exact List.mem_append_right _ (List.mem_singleton.2 rfl)

set_option maxRecDepth 100000 in
set_option maxHeartbeats 4000000 in
theorem above_any (k : Book) (L : List (List UInt8)) (asked : Nat) (A : Option Addr) (n c : Nat) (ds : List (List UInt8)) (w : World) (hbk : BookAt w k L asked) (h : Reads w w.heap.size 32 A n (digRow ds)) (hap : ∀ a, 0 < n → A = some a → ¬ k.has a.block) (hd : Digs ds) (hn : n ≤ 1000) (hc : n ≤ c) (has : asked ≤ 900000) :
    Calls Tryz.prog 181 #[.pointer (some ⟨k.g, 0, none⟩), .slice A n c] w fun e w' => ∃ v L', e = .returned v ∧ w'.ownsRow w.heap.size 63 32 v (grps n) (digRow (aboveL ds)) ∧ BookAt w' k L' (asked + grps n) ∧ (∀ x, x ∈ L → x ∈ L') ∧ (∀ p, p < grps n → upIn (grp ds p) ∈ L') ∧ OnlyBook k w w' := by
  have hxn : ds.length = n := by have h2 := h.1; rw [digRow_len hd] at h2; omega
  have HXN := Lib.hid hxn
  have HD := Lib.hid hd
  have HR := Lib.hid h
  have HAP := Lib.hid hap
  have hlt := hbk.lt
  have HLT := Lib.hid hlt
  have HBK := Lib.hid hbk
  have HZS := Lib.hid (show inkZ.size = 32 by simp [inkZ, bRow])
  have HZ := Lib.hid treeZ_eq
  obtain ⟨i0, hi0, hz0, hz1, hz2⟩ := info_parts digs_info
  clear h hlt hbk hxn hd hap
  have hgn : grps n ≤ 251 := by unfold grps; omega
  go_enter Tryz.func181, Tryz.ntmps181
  go_wp2_with fail
  go_loopw [5, 6] (fun ov iv wr => ∃ j : Nat, j ≤ grps n ∧ iv = .int .i64 (4 * (j : Int)) ∧ wr.ownsRow w.heap.size 63 32 ov j (digRow (abovePre ds j)) ∧ (∃ Lr, BookAt wr k Lr (asked + j) ∧ (∀ x, x ∈ L → x ∈ Lr) ∧ (∀ p, p < j → upIn (grp ds p) ∈ Lr)) ∧ OnlyBook k w wr) (fun _ iv _ => n + 8 - (intOf iv).toNat)
  case atStart => exact ⟨0, by omega, by simp, World.ownsRow_nil _ _ _ _, ⟨L, HBK.out, fun _ h => h, fun p hp => by omega⟩, OnlyBook.refl _ _⟩
  case round =>
    obtain ⟨j, hj, rfl, hov, ⟨Lr, hbr, hLr, hLp⟩, hob⟩ := hrel
    have HOV := Lib.hid hov
    have HB := Lib.hid hbr
    have HOB := Lib.hid hob
    have HLR := Lib.hid hLr
    have HLP := Lib.hid hLp
    have hsz := hob.size
    clear hov hbr hob hLr hLp
    by_cases hjn : j < grps n
    · have h4n : 4 * j < n := grps_iff.1 hjn
      have h4i : 4 * (j : Int) < (n : Int) := by omega
      have HQ := Lib.hid (tdiv4 j)
      have hdv := tdiv4 j
      have hgr := fun W => group_any A n c j W (by omega) (by omega) hc
      have hrs : Reads wr wr.heap.size 32 (if c = 4 * j then A else A.map (·.add (4 * j * 32))) (min (4 * j + 4) n - 4 * j) (digRow (grp ds j)) := by
        have h1 := (Only.of_book HOB.out).reads HR.out HAP.out
        have h2 := h1.sub (l := 4 * j) (k := min (4 * j + 4) n) (cap := c) (by omega) (by omega) hc
        rw [← HXN.out, grp_cells HD.out j (by have := HXN.out; omega), HXN.out] at h2
        exact h2
      have hup := up_any k Lr (asked + j) _ _ (c - 4 * j) (grp ds j) wr _ HB.out hrs (Nat.le_refl _) (grp_digs HD.out j) (by omega) (by omega) (by omega)
      generalize (if c = 4 * j then A else A.map (·.add (4 * j * 32))) = A2 at hgr hup
      have HG := Lib.hid hgr
      have HU := Lib.hid hup
      have hsz5 : (bRow (upD (grp ds j))).size = 32 := bRow_size32 (upD_len _)
      have hon := bRow_one (upD (grp ds j))
      have hdv2 : (bRow (upD (grp ds j))).toList = (upD (grp ds j)).map vb := by simp [bRow]
      obtain ⟨D, hD⟩ : ∃ D, D = bRow (upD (grp ds j)) := ⟨_, rfl⟩
      rw [← hD] at HU hsz5 hon hdv2
      have HSZ := Lib.hid hsz5
      have HON := Lib.hid hon
      have HDV := Lib.hid hdv2
      clear hgr hrs hup hsz5 hon hD hdv2
      go_wp2_with fail
      refine (HG.out wr).mono ?_
      rintro _ _ ⟨rfl, rfl⟩
      go_wp2_with fail
      refine HU.out.mono ?_
      rintro _ w3 ⟨rfl, hbk3, ho3⟩
      have HB3 := Lib.hid hbk3
      have HO3 := Lib.hid (HOB.out.trans ho3)
      have hrow3 := rowD_keep HOV.out (w' := w3) (fun b hb => by
        have := rowD_lt HOV.out hb
        have hl := HLT.out
        exact ho3.block b this.2 (by rintro (e | e | e) <;> omega))
      have HW3 := Lib.hid hrow3
      have hs3 := ho3.size
      clear hbk3 ho3 hrow3 HG HU HB HOV HOB
      go_upto_region 6 with (refine wpList_store_part (o := ⟨none, _, _, _, _, _⟩) rfl 63 (.tmp 7) (.tmp 22) rfl w3.heap.size 0 D rfl rfl 63 inkZ (by rw [HZ.out]; exact Blk.newAt rfl) (by rw [HSZ.out]; rfl) (by rw [HSZ.out, HZS.out]; omega) HON.out ?_; intro w4 hT4 hD4; rw [spl_self _ _ (by rw [HSZ.out, HZS.out])] at hD4)
      have hb4 : Below w3.heap.size w3 w4 := hT4.below ((Below.refl _ _).alloc (Nat.le_refl _) _) (Nat.le_refl _)
      have HB4 := Lib.hid (HB3.out.below hb4)
      have HO4 := Lib.hid (HO3.out.trans (OnlyBook.of_below hb4))
      have HW4 := Lib.hid (rowD_keep HW3.out (fun b hb => hb4.block b (rowD_lt HW3.out hb).2))
      have hs4 := hb4.size
      have HD4 := Lib.hid hD4
      obtain ⟨g4, hg4⟩ : ∃ g, g = w3.heap.size := ⟨_, rfl⟩
      rw [← hg4] at HD4 ⊢
      have hSZ := HSZ.out
      clear hT4 hD4 hb4 HW3 hg4 HB3 HO3
      go_wp2_with (first
        | (refine wpList_load_part (o := ⟨some 25, _, _, _, _, _⟩) rfl 63 (.tmp 7) rfl g4 0 32 rfl 63 _ D _ HD4.out Tryz.underlying63 rfl rfl HSZ.out (fun _ _ => by rw [Nat.zero_add]) ?_)
        | (at_builtin; (rw [fill_all _ D 32 rfl HSZ.out]; refine wpList_append_any _ rfl (.tmp 24) (.tmp 26) 220 rfl w.heap.size 63 i0 _ 32 32 Tryz.underlying220 hi0 hz0 hz1 hz2 HZS.out (by omega) _ j (digRow (abovePre ds j)) rfl ?row (w4.heap.size + 1) (some ⟨w4.heap.size, 0, none⟩) 1 1 D.toList rfl ?rd ?c1 ?c2 ?c3 ?c4 ?_)))
      case row => exact rowD_keep HW4.out (fun b hb => Below.heap_alloc _ _ b (rowD_lt HW4.out hb).2)
      case rd => exact reads_agg _ _ _ _ HSZ.out
      case c1 => exact fun u hu => List.all_eq_true.1 (by have := HON.out; rw [← Array.all_toList] at this; exact this) u hu
      case c2 => unfold maxLen; omega
      case c3 => omega
      case c4 => have := HO4.out.size; simp; omega
      intro v6 w6 hown6 hg6 hor6
      have hal : Below w4.heap.size w4 (w4.alloc (.cells D 63)) := (Below.refl _ _).alloc (Nat.le_refl _) _
      have hO6 : OnlyBook k w w6 := by
        have h5 := HO4.out.trans (OnlyBook.of_below hal)
        have hsz4 := HO4.out.size
        refine ⟨hg6.os.trans h5.os, hg6.tape.trans h5.tape, hg6.output.trans h5.output, Nat.le_trans h5.size hg6.size, fun i hi hn => (hg6.block i (by have := h5.size; omega) (fun e => ?_)).trans (h5.block i hi hn)⟩
        have := (rowD_lt HW4.out e.symm).1
        omega
      have hB6 : BookAt w6 k (addInk Lr (upIn (grp ds j))) (asked + j + 1) := by
        have h5 := HB4.out.below hal
        have hl := HLT.out
        refine h5.only (N := fun b => w.heap.size ≤ b) ⟨hg6.os, hg6.tape, hg6.output, hg6.size, fun i hi hn => hg6.block i hi (fun e => hn (rowD_lt HW4.out e.symm).1)⟩ ?_ ?_ ?_ <;> omega
      have HB6 := Lib.hid hB6
      have HO6 := Lib.hid hO6
      have hown7 : w6.ownsRow w.heap.size 63 32 v6 (j + 1) (digRow (abovePre ds (j + 1))) := by
        rw [abovePre_next, digRow_app]
        have e : digRow [upD (grp ds j)] = D.toList := by rw [HDV.out]; simp [digRow]
        rw [e]
        exact hown6
      have HW6 := Lib.hid hown7
      clear hB6 hO6 hal hown6 hown7 hg6 hor6 HW4 HB4 HO4
      go_wp2_with fail
      go_roundw
      case rel => exact ⟨j + 1, by omega, by go_num, HW6.out, ⟨_, HB6.out, fun x hx => addInk_old (HLR.out x hx), fun p hp => by
        rcases Nat.lt_or_ge p j with h | h
        · exact addInk_old (HLP.out p h)
        · obtain rfl : p = j := by omega
          exact addInk_new _ _⟩, HO6.out⟩
      case measure => simp [intOf]; omega
    · have h4i : ¬ 4 * (j : Int) < (n : Int) := by have := mt grps_iff.2 hjn; omega
      obtain rfl : j = grps n := by omega
      go_wp2_with fail
      go_ret
      refine ⟨_, rfl, ?_, Lr, HB.out, HLR.out, HLP.out, HOB.out⟩
      have := HOV.out
      rw [show abovePre ds (grps n) = aboveL ds by unfold abovePre aboveL; rw [HXN.out]] at this
      exact this

end Go.Proofs.YtlaodmmjhjpfmaaGreat
