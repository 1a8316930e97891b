/- Parts of the proof, in one text: Calm, Ink. -/
import Derived.Test.YtcpngeiahgoacaaGreatZ4
import Derived.Laws.IdiomStrings
import Derived.Laws.BytesArg

/- A region that draws its order: operations and calls that turn nothing of what was there, variables that are made (allocations), and behind them a tail in one forced order: one walk in the order of the text serves every order. No program is named. -/
namespace Go.Proofs.YtcpngeiahgoacaaGreat
set_option linter.unusedVariables false
open Go.RowKit

def ptr0 (g : Nat) : Value := .pointer (some ⟨g, 0, none⟩)
def calmUpon (P : Program) (w : World) (v : Value) : Result Next → Prop
  | .ok (.value u) w' => w' = w ∧ u = v
  | .ok .skip w' => w' = w ∧ v = undef
  | .ok (.enter f args) w' => w' = w ∧ Calls P f args w (fun e w'' => e = .returned v ∧ Below w.heap.size w w'')
  | _ => False
def calmAt (P : Program) (o : Oper) (a : Act) (w : World) (v : Value) : Prop := calmUpon P w v ((execOp a.eval o).run P w)
def calmOp (P : Program) (o : Oper) (a : Act) (C : World → Prop) (next : Act → Prop) : Prop := ∃ v, (∀ w, C w → calmAt P o a w v) ∧ next (a.put o.dst v)
def isAlloc (o : Oper) : Option (Tmp × TypeId) :=
  match o.op, o.guard, o.dst with
  | .alloc t, none, some d => some (d, t)
  | _, _, _ => none
theorem isAlloc_spec {o : Oper} {d : Tmp} {t : TypeId} (h : isAlloc o = some (d, t)) : o.op = .alloc t ∧ o.guard = none ∧ o.dst = some d := by
  unfold isAlloc at h
  split at h
  · rename_i h1 h2 h3
    simp only [Option.some.injEq, Prod.mk.injEq] at h
    obtain ⟨rfl, rfl⟩ := h
    exact ⟨h1, h2, h3⟩
  · cases h

section
variable {P : Program} {ops : Array Oper} {md : Region.Mode} {C : World → Prop}

def cOp (P : Program) (ops : Array Oper) (C : World → Prop) (i : Nat) (K : Act → Prop) (a : Act) : Prop :=
  match ops[i]? with
  | none => K a
  | some o =>
    match isAlloc o with
    | some (d, _) => ∀ g : Nat, K (a.put (some d) (ptr0 g))
    | none => if Region.wanted o (yielded ops a.tmps) then calmOp P o a C K else K (a.put o.dst undef)

def wpCalm (P : Program) (ops : Array Oper) (C : World → Prop) (Q : Act → Prop) : List Oper → Act → Prop
  | [], a => Q a
  | o :: rest, a =>
    match isAlloc o with
    | some (d, _) => ∀ g : Nat, wpCalm P ops C Q rest (a.put (some d) (ptr0 g))
    | none => if Region.wanted o (yielded ops a.tmps) then calmOp P o a C (wpCalm P ops C Q rest) else wpCalm P ops C Q rest (a.put o.dst undef)

theorem wpCalm_nil {Q : Act → Prop} {a : Act} (h : Q a) : wpCalm P ops C Q [] a := h
theorem wpCalm_step {Q : Act → Prop} {a : Act} {o : Oper} {rest : List Oper} (ha : isAlloc o = none)
    (h : ∀ K : Act → Prop, (∀ a, wpCalm P ops C Q rest a → K a) → if Region.wanted o (yielded ops a.tmps) then calmOp P o a C K else K (a.put o.dst undef)) : wpCalm P ops C Q (o :: rest) a := by
  unfold wpCalm
  rw [ha]
  exact h _ (fun _ h => h)
theorem wpCalm_alloc {Q : Act → Prop} {a : Act} {o : Oper} {rest : List Oper} {d : Tmp} {t : TypeId} (ha : isAlloc o = some (d, t))
    (h : ∀ g : Nat, wpCalm P ops C Q rest (a.put (some d) (ptr0 g))) : wpCalm P ops C Q (o :: rest) a := by
  unfold wpCalm
  rw [ha]
  exact h

theorem calmOp_mono' {o : Oper} {a : Act} {K K' : Act → Prop} (h : ∀ a, K a → K' a) (hh : calmOp P o a C K) : calmOp P o a C K' :=
  let ⟨v, h1, h2⟩ := hh
  ⟨v, h1, h _ h2⟩
theorem wpCalm_mono {Q Q' : Act → Prop} (h : ∀ a, Q a → Q' a) : ∀ {l : List Oper} {a : Act}, wpCalm P ops C Q l a → wpCalm P ops C Q' l a
  | [], a, hh => h a hh
  | o :: rest, a, hh => by
    unfold wpCalm at hh ⊢
    split
    · rename_i d t hd
      simp only [hd] at hh
      exact fun g => wpCalm_mono h (hh g)
    · rename_i hd
      simp only [hd] at hh
      split
      · rename_i hw
        simp only [hw, if_true] at hh
        exact calmOp_mono' (fun a' h' => wpCalm_mono h h') hh
      · rename_i hw
        simp only [hw] at hh
        exact wpCalm_mono h hh
theorem calmOp_mono {o : Oper} {a : Act} {K K' : Act → Prop} (h : ∀ a, K a → K' a) (hh : calmOp P o a C K) : calmOp P o a C K' :=
  let ⟨v, h1, h2⟩ := hh
  ⟨v, h1, h _ h2⟩
theorem cOp_mono {i : Nat} {a : Act} {K K' : Act → Prop} (h : ∀ a, K a → K' a) (hh : cOp P ops C i K a) : cOp P ops C i K' a := by
  unfold cOp at *
  split
  · exact h _ (by simpa [*] using hh)
  · rename_i o ho
    simp only [ho] at hh
    split
    · rename_i d t hd
      simp only [hd] at hh
      exact fun g => h _ (hh g)
    · rename_i hd
      simp only [hd] at hh
      split
      · rename_i hw; simp only [hw, if_true] at hh; exact calmOp_mono h hh
      · rename_i hw; simp only [hw] at hh; exact h _ hh

def YieldsC (P : Program) (ops : Array Oper) (C : World → Prop) (o : Oper) (v : Value) (a : Act) : Prop :=
  (Region.wanted o (yielded ops a.tmps) = true ∧ ∀ w, C w → calmAt P o a w v) ∨ (Region.wanted o (yielded ops a.tmps) = false ∧ v = undef)
theorem YieldsC.cOp {i : Nat} {o : Oper} {v : Value} {a : Act} (hi : ops[i]? = some o) (hal : isAlloc o = none) (hy : YieldsC P ops C o v a) {K : Act → Prop} (h : K (a.put o.dst v)) : cOp P ops C i K a := by
  unfold Go.Proofs.YtcpngeiahgoacaaGreat.cOp
  simp only [hi, hal]
  rcases hy with ⟨hw, hv⟩ | ⟨hw, rfl⟩
  · simp only [hw, if_true]; exact ⟨v, hv, h⟩
  · simp only [hw, Bool.false_eq_true, if_false]; exact h
theorem YieldsC.of_same {o : Oper} {v : Value} {a a' : Act} (hy : YieldsC P ops C o v a) (he : execOp a'.eval o = execOp a.eval o)
    (hw : Region.wanted o (yielded ops a'.tmps) = Region.wanted o (yielded ops a.tmps)) : YieldsC P ops C o v a' := by
  unfold YieldsC calmAt at *
  rw [he, hw]
  exact hy

theorem cOp_put {j : Nat} {oi oj : Oper} {v : Value} (hj : ops[j]? = some oj) (hap : oi.apart ops oj = true)
    (hsi : ∀ cs b, oi.op ≠ .select cs b) (hsj : ∀ cs b, oj.op ≠ .select cs b) {K : Act → Prop} {a : Act}
    (hy : YieldsC P ops C oi v a) (h : cOp P ops C j K (a.put oi.dst v)) :
    cOp P ops C j (fun a' => YieldsC P ops C oi v a' ∧ K (a'.put oi.dst v)) a := by
  obtain ⟨h1, h2, h3⟩ := Oper.apart_spec hap
  have keep : ∀ (a : Act), YieldsC P ops C oi v a → ∀ u, YieldsC P ops C oi v (a.put oj.dst u) := fun a hy u =>
    hy.of_same (execOp_put oi hsi a oj.dst u h3) (wanted_put oi a oj.dst u h3)
  unfold cOp at *
  simp only [hj] at *
  cases hal : isAlloc oj with
  | some p =>
    obtain ⟨d, t⟩ := p
    obtain ⟨_, _, hd⟩ := isAlloc_spec hal
    simp only [hal] at h ⊢
    intro g
    have hk := keep a hy (ptr0 g)
    rw [hd] at hk
    refine ⟨hk, ?_⟩
    have := h g
    rw [← hd] at this ⊢
    rw [← Act.put_comm a v (ptr0 g) h2]; exact this
  | none =>
    simp only [hal] at h ⊢
    rw [wanted_put oj a oi.dst v h1] at h
    split
    · rename_i hw
      simp only [hw, if_true] at h
      obtain ⟨u, hu, hn⟩ := h
      refine ⟨u, fun w hw' => ?_, keep a hy u, by rw [← Act.put_comm a v u h2]; exact hn⟩
      have := hu w hw'
      unfold calmAt at *
      rwa [execOp_put oj hsj a oi.dst v h1] at this
    · rename_i hw
      simp only [hw] at h
      exact ⟨keep a hy _, by rw [← Act.put_comm a v undef h2]; exact h⟩

def wpAnyC (P : Program) (md : Region.Mode) (ops : Array Oper) (C : World → Prop) (n : Nat) (L : Array Bool → Act → Prop) : Nat → Array Bool → Act → Prop
  | 0, listed, a => L listed a
  | f + 1, listed, a =>
    Region.ready md ops listed ≠ [] ∧ ∀ i ∈ Region.ready md ops listed, i < n ∧ cOp P ops C i (wpAnyC P md ops C n L f (listed.setIfInBounds i true)) a

theorem wpAnyC_first {n i : Nat} {oi : Oper} {v : Value} {L : Array Bool → Act → Prop} (hi : ops[i]? = some oi) (hal : isAlloc oi = none) (hsel : ∀ (j : Nat) (o : Oper) cs b, ops[j]? = some o → o.op ≠ .select cs b)
    (hs : Region.sinkB md ops n = true) (hc : Region.chainB md ops n = true) (hn : n < ops.size) (hin : i < n)
    (hdone : ∀ listed a, L listed a → ∀ j ∈ Region.ready md ops listed, n ≤ j) :
    ∀ (f : Nat) (listed : Array Bool) (a : Act), HeadInv md ops n listed →
      (∀ j oj, ops[j]? = some oj → j ≠ i → listed.getD j true = false → (∀ e ∈ oj.after, Region.binds md e = true → e.on ≠ i) → oi.apart ops oj = true) →
      i ∈ Region.ready md ops listed → YieldsC P ops C oi v a →
      wpAnyC P md ops C n L f (listed.setIfInBounds i true) (a.put oi.dst v) → wpAnyC P md ops C n L (f + 1) listed a := by
  intro f
  induction f with
  | zero =>
    intro listed a inv _ hr hy H
    have hun := (mem_ready.1 hr).1
    refine ⟨fun h => (by rw [h] at hr; cases hr), fun j hj => ?_⟩
    have hjn : j < n := by
      rcases Nat.lt_or_ge j n with h | h
      · exact h
      · exact absurd hj (tail_waits hs hc hn inv _ i rfl hin hun j h)
    refine ⟨hjn, ?_⟩
    by_cases hji : j = i
    · subst hji; exact hy.cOp hi hal H
    · have := hdone _ _ H j (ready_mono hj hji)
      omega
  | succ f ih =>
    intro listed a inv hfree hr hy H
    have hun := (mem_ready.1 hr).1
    refine ⟨fun h => (by rw [h] at hr; cases hr), fun j hj => ?_⟩
    have hjn : j < n := by
      rcases Nat.lt_or_ge j n with h | h
      · exact h
      · exact absurd hj (tail_waits hs hc hn inv _ i rfl hin hun j h)
    refine ⟨hjn, ?_⟩
    by_cases hji : j = i
    · subst hji; exact hy.cOp hi hal H
    · have h1 := (H.2 j (ready_mono hj hji)).2
      obtain ⟨hjun, oj, hoj, hall⟩ := mem_ready.1 hj
      have hnot : ∀ e ∈ oj.after, Region.binds md e = true → e.on ≠ i := fun e he hb heq => by
        have h1 := hall e he hb
        rw [heq, getD_both hun] at h1
        cases h1
      have h2 := cOp_put hoj (hfree j oj hoj hji hjun hnot) (fun cs b => hsel i oi cs b hi) (fun cs b => hsel j oj cs b hoj) hy h1
      have hfree' : ∀ k ok, ops[k]? = some ok → k ≠ i → (listed.setIfInBounds j true).getD k true = false →
          (∀ e ∈ ok.after, Region.binds md e = true → e.on ≠ i) → oi.apart ops ok = true := fun k ok hk hki hun hno => by
        refine hfree k ok hk hki ?_ hno
        by_cases hjk : j = k
        · subst hjk; exact hjun
        · rw [getD_set_ne true hjk] at hun; exact hun
      refine cOp_mono (fun a' h3 => ih (listed.setIfInBounds j true) a' (inv.set hj hjn) hfree' (ready_mono hr (Ne.symm hji)) h3.1 ?_) h2
      rw [Array.setIfInBounds_comm _ _ hji]
      exact h3.2

/-- an allocation may be taken first once allocations alone are left of the head -/
theorem wpAnyC_first_alloc {n i : Nat} {oi : Oper} {d : Tmp} {t : TypeId} {L : Array Bool → Act → Prop} (hi : ops[i]? = some oi) (hal : isAlloc oi = some (d, t))
    (hs : Region.sinkB md ops n = true) (hc : Region.chainB md ops n = true) (hn : n < ops.size) (hin : i < n)
    (hdone : ∀ listed a, L listed a → ∀ j ∈ Region.ready md ops listed, n ≤ j) :
    ∀ (f : Nat) (listed : Array Bool) (a : Act), HeadInv md ops n listed →
      (∀ j oj, ops[j]? = some oj → j < n → j ≠ i → listed.getD j true = false → ∃ d' t', isAlloc oj = some (d', t') ∧ d' ≠ d) →
      i ∈ Region.ready md ops listed →
      (∀ g, wpAnyC P md ops C n L f (listed.setIfInBounds i true) (a.put (some d) (ptr0 g))) → wpAnyC P md ops C n L (f + 1) listed a := by
  intro f
  induction f with
  | zero =>
    intro listed a inv _ hr H
    have hun := (mem_ready.1 hr).1
    refine ⟨fun h => (by rw [h] at hr; cases hr), fun j hj => ?_⟩
    have hjn : j < n := by
      rcases Nat.lt_or_ge j n with h | h
      · exact h
      · exact absurd hj (tail_waits hs hc hn inv _ i rfl hin hun j h)
    refine ⟨hjn, ?_⟩
    by_cases hji : j = i
    · subst hji; unfold cOp; simp only [hi, hal]; exact H
    · have := hdone _ _ (H 0) j (ready_mono hj hji)
      omega
  | succ f ih =>
    intro listed a inv hrest hr H
    have hun := (mem_ready.1 hr).1
    refine ⟨fun h => (by rw [h] at hr; cases hr), fun j hj => ?_⟩
    have hjn : j < n := by
      rcases Nat.lt_or_ge j n with h | h
      · exact h
      · exact absurd hj (tail_waits hs hc hn inv _ i rfl hin hun j h)
    refine ⟨hjn, ?_⟩
    by_cases hji : j = i
    · subst hji; unfold cOp; simp only [hi, hal]; exact H
    · obtain ⟨hjun, oj, hoj, hall⟩ := mem_ready.1 hj
      obtain ⟨d', t', hal', hne⟩ := hrest j oj hoj hjn hji hjun
      unfold cOp
      simp only [hoj, hal']
      intro g'
      refine ih (listed.setIfInBounds j true) _ (inv.set hj hjn) (fun k ok hk hkn hki hu => hrest k ok hk hkn hki ?_) (ready_mono hr (Ne.symm hji)) (fun g => ?_)
      · by_cases hjk : j = k
        · subst hjk; exact hjun
        · rw [getD_set_ne true hjk] at hu; exact hu
      · have h1 := ((H g).2 j (ready_mono hj hji)).2
        unfold cOp at h1
        simp only [hoj, hal'] at h1
        have h2 := h1 g'
        rw [Array.setIfInBounds_comm _ _ (Ne.symm hji), Act.put_comm a (ptr0 g) (ptr0 g') (fun e he => by injection he with he; subst he; intro h; injection h with h; exact hne h)] at h2
        exact h2

def endB (md : Region.Mode) (ops : Array Oper) (g k : Nat) (listed : Array Bool) : Bool := Region.seqB md ops g k listed && (List.range k).all fun i => listed.getD i false
theorem endB_seq {g k : Nat} {listed : Array Bool} (h : endB md ops g k listed = true) : Region.seqB md ops g k listed = true := by
  unfold endB at h
  rw [Bool.and_eq_true] at h
  exact h.1
theorem endB_all {g k : Nat} {listed : Array Bool} (h : endB md ops g k listed = true) (i : Nat) (hi : i < k) : listed.getD i false = true := by
  unfold endB at h
  rw [Bool.and_eq_true] at h
  exact List.all_eq_true.1 h.2 i (List.mem_range.2 hi)

/-- the order of the text: quiet operations, allocations behind them, the tail -/
def lexCalm (md : Region.Mode) (ops : Array Oper) (g n : Nat) : Nat → Nat → Array Bool → Bool
  | 0, k, listed => endB md ops g k listed
  | f + 1, k, listed => (Region.ready md ops listed).contains k && (match ops[k]? with
    | none => false
    | some o => match isAlloc o with
      | none => Region.free md ops listed k
      | some (d, _) => (List.range n).all fun j => j == k || listed.getD j true || (match ops[j]? with
          | none => true
          | some oj => match isAlloc oj with
            | none => false
            | some (d', _) => d' != d)) && lexCalm md ops g n f (k + 1) (listed.setIfInBounds k true)

theorem wpAnyC_lex {n g : Nat} {Lq : Act → Prop} (hsel : Region.noSelect ops = true) (hs : Region.sinkB md ops n = true) (hc : Region.chainB md ops n = true) (hn : n < ops.size) :
    ∀ (l : List Oper) (k : Nat) (listed : Array Bool) (a : Act), (∀ j, j < l.length → l[j]? = ops[k + j]?) → k + l.length = n → HeadInv md ops n listed →
    lexCalm md ops g n l.length k listed = true → wpCalm P ops C Lq l a →
    wpAnyC P md ops C n (fun listed' a' => endB md ops g n listed' = true ∧ Lq a') l.length listed a
  | [], k, listed, a, _, hk, _, hB, h => by
    have : k = n := by simpa using hk
    subst this
    exact ⟨by simpa [lexCalm] using hB, h⟩
  | o :: l, k, listed, a, hl, hk, inv, hB, h => by
    have h0 : ops[k]? = some o := by simpa using (hl 0 (by simp)).symm
    simp only [List.length_cons, lexCalm, h0, Bool.and_eq_true] at hB
    obtain ⟨⟨hr, hf⟩, hB'⟩ := hB
    have hkn : k < n := by simp only [List.length_cons] at hk; omega
    have hr' : k ∈ Region.ready md ops listed := by simpa using hr
    have hnext : ∀ a', wpCalm P ops C Lq l a' → wpAnyC P md ops C n (fun listed' a' => endB md ops g n listed' = true ∧ Lq a') l.length (listed.setIfInBounds k true) a' := fun a' h' =>
      wpAnyC_lex hsel hs hc hn l (k + 1) _ a' (fun j hj => by have := hl (j + 1) (by simp; omega); simpa [Nat.add_assoc, Nat.add_comm 1 j] using this) (by simp only [List.length_cons] at hk; omega) (inv.set hr' hkn) hB' h'
    unfold wpCalm at h
    cases hal : isAlloc o with
    | none =>
      simp only [hal] at h hf
      have hy : ∃ v, YieldsC P ops C o v a ∧ wpCalm P ops C Lq l (a.put o.dst v) := by
        by_cases hw : Region.wanted o (yielded ops a.tmps) = true
        · simp only [hw, if_true] at h
          obtain ⟨v, h1, h2⟩ := h
          exact ⟨v, .inl ⟨hw, h1⟩, h2⟩
        · simp only [hw] at h
          exact ⟨undef, .inr ⟨by simpa using hw, rfl⟩, h⟩
      obtain ⟨v, hy, hK⟩ := hy
      exact wpAnyC_first h0 hal (Region.noSelect_spec hsel) hs hc hn hkn (fun listed' a' hL => seqB_ready (endB_seq hL.1)) l.length listed a inv (Region.free_spec h0 hf) hr' hy (hnext _ hK)
    | some p =>
      obtain ⟨d, t⟩ := p
      simp only [hal] at h hf
      refine wpAnyC_first_alloc h0 hal hs hc hn hkn (fun listed' a' hL => seqB_ready (endB_seq hL.1)) l.length listed a inv (fun j oj hj hjn hjk hu => ?_) hr' (fun g' => hnext _ (h g'))
      have h1 := List.all_eq_true.1 hf j (List.mem_range.2 hjn)
      simp only [hj, hu, Bool.or_eq_true, beq_iff_eq, hjk, false_or, Bool.false_eq_true] at h1
      cases hal' : isAlloc oj with
      | none => simp only [hal'] at h1; cases h1
      | some q =>
        obtain ⟨d', t'⟩ := q
        simp only [hal', bne_iff_ne] at h1
        exact ⟨d', t', rfl, h1⟩

/-- what stands of the variables that were made -/
structure Made (ops : Array Oper) (n : Nat) (zf : TypeId → Array Value) (base w : World) (on : Nat → Prop) (a : Act) : Prop where
  fact : ∀ i o d t, i < n → on i → ops[i]? = some o → isAlloc o = some (d, t) → ∃ g, a.tmps[d]? = some (ptr0 g) ∧ base.heap.size ≤ g ∧ Blk w g t (zf t)
  apart : ∀ i j oi oj di ti dj tj gi gj, i < n → j < n → on i → on j → i ≠ j → ops[i]? = some oi → ops[j]? = some oj → isAlloc oi = some (di, ti) → isAlloc oj = some (dj, tj) →
    a.tmps[di]? = some (ptr0 gi) → a.tmps[dj]? = some (ptr0 gj) → gi ≠ gj

theorem put_at_ne {a : Act} {dst : Option Tmp} {v : Value} {d : Tmp} (h : dst ≠ some d) : (a.put dst v).tmps[d]? = a.tmps[d]? := by
  cases dst with
  | none => rfl
  | some e =>
    show (a.tmps.setIfInBounds e v)[d]? = _
    rw [Array.getElem?_setIfInBounds, if_neg (fun he => h (by rw [he]))]
theorem put_size {a : Act} {dst : Option Tmp} {v : Value} : (a.put dst v).tmps.size = a.tmps.size := by
  cases dst with
  | none => rfl
  | some e => show (a.tmps.setIfInBounds e v).size = _; simp

/-- destinations of the head are apart -/
def dstsB (ops : Array Oper) (n : Nat) : Bool :=
  (List.range n).all fun i => (List.range n).all fun j => i == j || (match ops[i]?, ops[j]? with
    | some oi, some oj => oi.dst.isNone || oi.dst != oj.dst
    | _, _ => true)
theorem dstsB_spec {n : Nat} (h : dstsB ops n = true) {i j : Nat} {oi oj : Oper} {d : Tmp} (hi : i < n) (hj : j < n) (hij : i ≠ j) (ei : ops[i]? = some oi) (ej : ops[j]? = some oj) (hd : oi.dst = some d) : oj.dst ≠ some d := by
  have h1 := List.all_eq_true.1 (List.all_eq_true.1 h i (List.mem_range.2 hi)) j (List.mem_range.2 hj)
  simp only [ei, ej, hd, Bool.or_eq_true, beq_iff_eq, hij, Option.isNone_some, Bool.false_eq_true, false_or, bne_iff_ne] at h1
  exact fun e => h1 e.symm
def allocsB (ops : Array Oper) (n m : Nat) : Bool :=
  (List.range n).all fun i => match ops[i]? with
    | none => true
    | some o => match isAlloc o with
      | none => true
      | some (d, _) => decide (d < m)
theorem allocsB_spec {n m : Nat} (h : allocsB ops n m = true) {i : Nat} {o : Oper} {d : Tmp} {t : TypeId} (hi : i < n) (ei : ops[i]? = some o) (ha : isAlloc o = some (d, t)) : d < m := by
  have h1 := List.all_eq_true.1 h i (List.mem_range.2 hi)
  simpa only [ei, ha, decide_eq_true_eq] using h1

/-- each type that is made has its noughts -/
def MakesB (P : Program) (ops : Array Oper) (n : Nat) (zf : TypeId → Array Value) : Prop :=
  ∀ i o d t, i < n → ops[i]? = some o → isAlloc o = some (d, t) → ∀ (a : Act) (w : World), (execOp a.eval o).run P w = .ok (.value (ptr0 w.heap.size)) (w.alloc (.cells (zf t) t))

theorem calm_wp {o : Oper} {a : Act} {K : Act → Prop} {K' : Act → World → Prop} {Q' : Exit → Act → World → Prop} {w : World} (hw : C w) (h : ∀ v w', Below w.heap.size w w' → K (a.put o.dst v) → K' (a.put o.dst v) w') (hh : calmOp P o a C K) : o.wp P a w K' Q' := by
  obtain ⟨v, h1, h2⟩ := hh
  have h3 := h1 w hw
  unfold calmAt at h3
  unfold Oper.wp
  generalize (execOp a.eval o).run P w = r at *
  cases r with
  | ok n w' =>
    cases n <;> simp only [calmUpon] at h3 <;> simp only [Oper.upon]
    case value u =>
      obtain ⟨e1, e2⟩ := h3
      rw [e1, e2]
      exact h _ _ (Below.refl _ _) h2
    case skip =>
      obtain ⟨e1, e2⟩ := h3
      rw [e1, ← e2]
      exact h _ _ (Below.refl _ _) h2
    case enter f args =>
      obtain ⟨e1, hc⟩ := h3
      rw [e1]
      exact hc.mono fun e w'' ⟨he, hw''⟩ => by subst he; exact h _ _ hw'' h2
  | halt x w' => simp only [calmUpon] at h3

theorem wpAny_of_headC {n g m : Nat} {zf : TypeId → Array Value} {base : World} {L : Array Bool → Act → Prop} {Q' : Exit → Act → World → Prop} (hC : ∀ w w', C w → Below w.heap.size w w' → C w') (hbase : ∀ w, C w → base.heap.size ≤ w.heap.size)
    (hd : dstsB ops n = true) (hb : allocsB ops n m = true) (hz : MakesB P ops n zf)
    (hL : ∀ listed a w, C w → a.tmps.size = m → Made ops n zf base w (fun i => listed.getD i false = true) a → L listed a → wpAny P md ops Q' g listed a w) :
    ∀ (f : Nat) (listed : Array Bool) (a : Act) (w : World), C w → a.tmps.size = m → listed.size = ops.size → Made ops n zf base w (fun i => listed.getD i false = true) a → wpAnyC P md ops C n L f listed a → wpAny P md ops Q' (f + g) listed a w
  | 0, listed, a, w, hw, hm, hls, hM, h => by rw [Nat.zero_add]; exact hL _ _ _ hw hm hM h
  | f + 1, listed, a, w, hw, hm, hls, hM, h => by
    rw [show f + 1 + g = (f + g) + 1 by omega]
    refine ⟨fun h0 => absurd h0 h.1, fun i hi => ?_⟩
    obtain ⟨hin, hop⟩ := h.2 i hi
    obtain ⟨hun, o, ho, _⟩ := mem_ready.1 hi
    have hilt : i < listed.size := by rw [hls]; exact (Array.getElem?_eq_some_iff.1 ho).1
    have hset : ∀ k, (listed.setIfInBounds i true).getD k false = true → k = i ∨ listed.getD k false = true := fun k hk => by
      by_cases e : i = k
      · exact .inl e.symm
      · rw [getD_set_ne false e] at hk; exact .inr hk
    have hunf := getD_both hun
    have hkeep : ∀ w', Below w.heap.size w w' → isAlloc o = none → ∀ v, Made ops n zf base w' (fun k => (listed.setIfInBounds i true).getD k false = true) (a.put o.dst v) := fun w' hbw hal v => by
      refine ⟨fun k ok d t hk hon ek ak => ?_, fun k j ok oj dk tk dj tj gk gj hk hj onk onj hkj ek ej ak aj e1 e2 => ?_⟩
      · have hki : k ≠ i := by rintro rfl; rw [ho] at ek; injection ek with ek; subst ek; rw [hal] at ak; cases ak
        rcases hset k hon with e | h2
        · exact absurd e hki
        · obtain ⟨g', h3, h4, h5⟩ := hM.fact k ok d t hk h2 ek ak
          exact ⟨g', by rw [put_at_ne (dstsB_spec hd hk hin hki ek ho (isAlloc_spec ak).2.2)]; exact h3, h4, h5.below hbw h5.lt⟩
      · have hki : k ≠ i := by rintro rfl; rw [ho] at ek; injection ek with ek; subst ek; rw [hal] at ak; cases ak
        have hji : j ≠ i := by rintro rfl; rw [ho] at ej; injection ej with ej; subst ej; rw [hal] at aj; cases aj
        rw [put_at_ne (dstsB_spec hd hk hin hki ek ho (isAlloc_spec ak).2.2)] at e1
        rw [put_at_ne (dstsB_spec hd hj hin hji ej ho (isAlloc_spec aj).2.2)] at e2
        rcases hset k onk with e | hk2
        · exact absurd e hki
        · rcases hset j onj with e | hj2
          · exact absurd e hji
          · exact hM.apart k j ok oj dk tk dj tj gk gj hk hj hk2 hj2 hkj ek ej ak aj e1 e2
    unfold wpOp
    unfold cOp at hop
    simp only [ho] at hop ⊢
    cases hal : isAlloc o with
    | none =>
      simp only [hal] at hop
      split
      · rename_i hwt
        simp only [hwt, if_true] at hop
        refine .inl (calm_wp hw (fun v w' hbw hK => ?_) hop)
        exact wpAny_of_headC hC hbase hd hb hz hL f _ _ w' (hC _ _ hw hbw) (by rw [put_size]; exact hm) (by simp [hls]) (hkeep w' hbw hal v) hK
      · rename_i hwt
        simp only [hwt] at hop
        exact wpAny_of_headC hC hbase hd hb hz hL f _ _ w hw (by rw [put_size]; exact hm) (by simp [hls]) (hkeep w (Below.refl _ _) hal _) hop
    | some p =>
      obtain ⟨d, t⟩ := p
      simp only [hal] at hop
      obtain ⟨eop, eg, ed⟩ := isAlloc_spec hal
      have hwt : Region.wanted o (yielded ops a.tmps) = true := by simp [Region.wanted, eg]
      rw [if_pos hwt]
      refine .inl ?_
      unfold Oper.wp
      rw [hz i o d t hin ho hal a w]
      simp only [Oper.upon, ed]
      have hbw : Below w.heap.size w (w.alloc (.cells (zf t) t)) := (Below.refl _ _).alloc (Nat.le_refl _) _
      have hdm : d < a.tmps.size := by rw [hm]; exact allocsB_spec hb hin ho hal
      have hat : (a.put (some d) (ptr0 w.heap.size)).tmps[d]? = some (ptr0 w.heap.size) := by
        show (a.tmps.setIfInBounds d _)[d]? = _
        rw [Array.getElem?_setIfInBounds, if_pos rfl, if_pos hdm]
      have hold : ∀ k ok dk tk, k < n → k ≠ i → ops[k]? = some ok → isAlloc ok = some (dk, tk) → (a.put (some d) (ptr0 w.heap.size)).tmps[dk]? = a.tmps[dk]? := fun k ok dk tk hk hki ek ak => by
        have := dstsB_spec hd hk hin hki ek ho (isAlloc_spec ak).2.2
        rw [ed] at this
        exact put_at_ne this
      refine wpAny_of_headC hC hbase hd hb hz hL f _ _ _ (hC _ _ hw hbw) (by rw [put_size]; exact hm) (by simp [hls]) ⟨fun k ok dk tk hk hon ek ak => ?_, fun k j ok oj dk tk dj tj gk gj hk hj onk onj hkj ek ej ak aj e1 e2 => ?_⟩ (hop _)
      · by_cases hki : k = i
        · subst hki
          rw [ho] at ek
          injection ek with ek
          subst ek
          rw [hal] at ak
          injection ak with ak
          obtain ⟨rfl, rfl⟩ := Prod.mk.inj ak
          exact ⟨_, hat, hbase w hw, Blk.new w _ _⟩
        · rcases hset k hon with e | h2
          · exact absurd e hki
          · obtain ⟨g', h3, h4, h5⟩ := hM.fact k ok dk tk hk h2 ek ak
            exact ⟨g', by rw [hold k ok dk tk hk hki ek ak]; exact h3, h4, h5.alloc _⟩
      · have case1 : ∀ j oj dj tj gj, j < n → j ≠ i → listed.getD j false = true → ops[j]? = some oj → isAlloc oj = some (dj, tj) → (a.put (some d) (ptr0 w.heap.size)).tmps[dj]? = some (ptr0 gj) → gj < w.heap.size := fun j oj dj tj gj hj hji onj ej aj e2 => by
          rw [hold j oj dj tj hj hji ej aj] at e2
          obtain ⟨g', h3, h4, h5⟩ := hM.fact j oj dj tj hj onj ej aj
          rw [h3] at e2
          injection e2 with e2
          injection e2 with e2
          injection e2 with e2
          injection e2 with e2
          subst e2
          exact h5.lt
        have same : ∀ k ok dk tk gk, k = i → ops[k]? = some ok → isAlloc ok = some (dk, tk) → (a.put (some d) (ptr0 w.heap.size)).tmps[dk]? = some (ptr0 gk) → gk = w.heap.size := fun k ok dk tk gk hki ek ak e1 => by
          subst hki
          rw [ho] at ek
          injection ek with ek
          subst ek
          rw [hal] at ak
          injection ak with ak
          obtain ⟨rfl, rfl⟩ := Prod.mk.inj ak
          rw [hat] at e1
          injection e1 with e1
          injection e1 with e1
          injection e1 with e1
          injection e1 with e1
          exact e1.symm
        rcases hset k onk with hki | hk2
        · have hji : j ≠ i := fun e => hkj (by rw [hki, e])
          rcases hset j onj with e | hj2
          · exact absurd e hji
          · have a1 := same k ok dk tk gk hki ek ak e1
            have a2 := case1 j oj dj tj gj hj hji hj2 ej aj e2
            omega
        · have hki : k ≠ i := by rintro rfl; rw [hunf] at hk2; cases hk2
          rcases hset j onj with hji | hj2
          · have a1 := same j oj dj tj gj hji ej aj e2
            have a2 := case1 k ok dk tk gk hk hki hk2 ek ak e1
            omega
          · have hji : j ≠ i := by rintro rfl; rw [hunf] at hj2; cases hj2
            rw [hold k ok dk tk hk hki ek ak] at e1
            rw [hold j oj dj tj hj hji ej aj] at e2
            exact hM.apart k j ok oj dk tk dj tj gk gj hk hj hk2 hj2 hkj ek ej ak aj e1 e2

def lexCalmB (md : Region.Mode) (ops : Array Oper) (n m : Nat) : Bool :=
  Region.noSelect ops && decide (n < ops.size) && Region.sinkB md ops n && Region.chainB md ops n && lexCalm md ops (ops.size - n) n n 0 (Array.replicate ops.size false) && dstsB ops n && allocsB ops n m

def ClassB (w w' : World) : Prop := ∃ p : Regrown, w' = Sort.grow (redrawn w p.d) p.os
theorem classB_iff {w w' : World} : ClassB w w' ↔ Below w.heap.size w w' :=
  ⟨fun ⟨p, h⟩ => h ▸ below_regrown w p.d p.os, regrown_of_below⟩

theorem wp_region_calm {id : Nat} {Q : Exit → Act → World → Prop} {a : Act} {w : World} {l : List Oper} (n m : Nat) (zf : TypeId → Array Value) (hm : P.follows .mixedOrders = true) (hB : lexCalmB .any l.toArray n m = true) (ha : a.tmps.size = m) (hz : MakesB P l.toArray n zf)
    (h : wpCalm P l.toArray (fun w' => ∃ p : Regrown, w' = Sort.grow (redrawn w p.d) p.os) (fun a' => ∀ w', Below w.heap.size w w' → Made l.toArray n zf w w' (fun _ => True) a' → wpList P l.toArray Q (l.drop n) a' w') (l.take n) a) : (Code.region id l.toArray true).wp P Q a w := by
  simp only [lexCalmB, Bool.and_eq_true, decide_eq_true_eq] at hB
  obtain ⟨⟨⟨⟨⟨⟨hsel, hn⟩, hs⟩, hc⟩, hlex⟩, hd⟩, hb⟩ := hB
  have hn' : n < l.length := by simpa using hn
  have htl : (l.take n).length = n := by simp; omega
  have hdl : (l.drop n).length = l.toArray.size - n := by simp
  have inv0 : HeadInv .any l.toArray n (Array.replicate l.toArray.size false) :=
    ⟨by simp, fun j oj _ hl => (by rw [getD_replicate_false] at hl; cases hl), fun t _ ht => getD_in (by simpa using ht) (getD_replicate_false _ _)⟩
  have H := wpAnyC_lex (md := .any) (C := fun w' => ∃ p : Regrown, w' = Sort.grow (redrawn w p.d) p.os) (g := l.toArray.size - n) hsel hs hc hn (l.take n) 0 _ a (fun j hj => by
    have hj' : j < n := by rw [htl] at hj; exact hj
    simp [hj']) (by simpa using htl) inv0 (by rw [htl]; exact hlex) h
  refine wp_region_any hm ?_
  have hCc : ∀ w1 w2 : World, (∃ p : Regrown, w1 = Sort.grow (redrawn w p.d) p.os) → Below w1.heap.size w1 w2 → ∃ p : Regrown, w2 = Sort.grow (redrawn w p.d) p.os := fun w1 w2 h1 h2 => by
    have h3 := classB_iff.1 h1
    exact classB_iff.2 (h3.trans (h2.mono h3.size))
  have := wpAny_of_headC (Q' := Q) (md := .any) (n := n) (g := l.toArray.size - n) (m := m) (zf := zf) (base := w) hCc (fun w1 h1 => (classB_iff.1 h1).size) hd hb hz (fun listed a' w' hw' hm' hM hL => by
    have hall : ∀ i, i < n → listed.getD i false = true := fun i hi => endB_all hL.1 i hi
    have := wpAny_of_seq (md := .any) (Q' := Q) (l.drop n) n listed a' w' (fun j => by simp [List.getElem?_drop]) (by rw [hdl]; exact endB_seq hL.1) (hL.2 w' (classB_iff.1 hw') ⟨fun i o d t hi _ => hM.fact i o d t hi (hall i hi), fun i j oi oj di ti dj tj gi gj hi hj _ _ => hM.apart i j oi oj di ti dj tj gi gj hi hj (hall i hi) (hall j hj)⟩)
    rw [hdl] at this
    exact this) _ _ _ w.drew (classB_iff.2 (Below.refl _ w).drew) ha (by simp) ⟨fun i o d t _ hon => (by rw [getD_replicate_false] at hon; cases hon), fun i j oi oj di ti dj tj gi gj _ _ hon => (by rw [getD_replicate_false] at hon; cases hon)⟩ H
  rw [htl, show n + (l.toArray.size - n) = l.toArray.size by omega] at this
  exact this
end

def noAllocB (ops : Array Oper) (n : Nat) : Bool :=
  (List.range n).all fun i => match ops[i]? with
    | none => true
    | some o => (isAlloc o).isNone
theorem makes_none {P : Program} {ops : Array Oper} {n : Nat} {zf : TypeId → Array Value} (h : noAllocB ops n = true) : MakesB P ops n zf := fun i o d t hi ho ha => by
  have h1 := List.all_eq_true.1 h i (List.mem_range.2 hi)
  simp only [ho, ha, Option.isNone_some, Bool.false_eq_true] at h1
/-- the same law where nothing is made -/
theorem wp_region_calm0 {P : Program} {id : Nat} {Q : Exit → Act → World → Prop} {a : Act} {w : World} {l : List Oper} (n m : Nat) (hm : P.follows .mixedOrders = true) (hB : lexCalmB .any l.toArray n m = true) (hno : noAllocB l.toArray n = true) (ha : a.tmps.size = m)
    (h : wpCalm P l.toArray (fun w' => ∃ p : Regrown, w' = Sort.grow (redrawn w p.d) p.os) (fun a' => ∀ w', Below w.heap.size w w' → wpList P l.toArray Q (l.drop n) a' w') (l.take n) a) : (Code.region id l.toArray true).wp P Q a w := by
  refine wp_region_calm n m (fun _ => #[]) hm hB ha (makes_none hno) ?_
  exact wpCalm_mono (fun a' h' w' hb _ => h' w' hb) h

/-- a load of a piece, in a region that is calm -/
theorem wpCalm_load_part {P : Program} {ops : Array Oper} {rest : List Oper} {o : Oper} {a : Act} {w : World} {Q : Act → Prop} (hw : Region.wanted o (yielded ops a.tmps) = true) (ty : TypeId) (x : Operand) (ho : o.op = .load ty x)
    (g off n : Nat) (hx : a.eval x = .pointer (some ⟨g, off, none⟩)) (t : TypeId) (cs vs : Array Value) (d : TypeDesc) (hB : Blk w g t cs)
    (hu : P.underlying ty = some d) (hd : (match d with | .struct _ | .array _ _ => true | _ => false) = true) (hi : (P.info? ty).map (·.size) = some n)
    (hn : vs.size = n) (hv : ∀ j, j < n → cs[off + j]? = vs[j]?)
    (h : wpCalm P ops (fun w' => ∃ p : Regrown, w' = Sort.grow (redrawn w p.d) p.os) Q rest (a.put o.dst (.agg vs))) : wpCalm P ops (fun w' => ∃ p : Regrown, w' = Sort.grow (redrawn w p.d) p.os) Q (o :: rest) a := by
  refine wpCalm_step (by unfold isAlloc; rw [ho]) fun K hK => ?_
  rw [if_pos hw]
  refine ⟨.agg vs, fun w' hw' => ?_, hK _ h⟩
  obtain ⟨p, rfl⟩ := hw'
  have hB' := hB.below (below_regrown w p.d p.os) hB.lt
  unfold calmAt
  rw [exec_load_part ty x ho g off n hx t cs vs d hB' hu hd hi hn hv]
  exact ⟨rfl, rfl⟩
/-- a call -/
theorem wpCalm_call {P : Program} {ops : Array Oper} {rest : List Oper} {o : Oper} {a : Act} {w : World} {Q : Act → Prop} (hw : Region.wanted o (yielded ops a.tmps) = true) (hna : isAlloc o = none) (f : FuncId) (args : Array Value)
    (hrun : ∀ W, (execOp a.eval o).run P W = .ok (.enter f args) W) (v : Value)
    (hc : ∀ W, Below w.heap.size w W → Calls P f args W fun e w' => e = .returned v ∧ Below W.heap.size W w')
    (h : wpCalm P ops (fun w' => ∃ p : Regrown, w' = Sort.grow (redrawn w p.d) p.os) Q rest (a.put o.dst v)) : wpCalm P ops (fun w' => ∃ p : Regrown, w' = Sort.grow (redrawn w p.d) p.os) Q (o :: rest) a := by
  refine wpCalm_step hna fun K hK => ?_
  rw [if_pos hw]
  refine ⟨v, fun w' hw' => ?_, hK _ h⟩
  obtain ⟨p, rfl⟩ := hw'
  unfold calmAt
  rw [hrun]
  exact ⟨rfl, hc _ (below_regrown w p.d p.os)⟩

/-- an operation that yields a value in every world -/
theorem wpCalm_value {P : Program} {ops : Array Oper} {rest : List Oper} {o : Oper} {a : Act} {C : World → Prop} {Q : Act → Prop} (hw : Region.wanted o (yielded ops a.tmps) = true) (hna : isAlloc o = none) (v : Value)
    (hrun : ∀ W, C W → (execOp a.eval o).run P W = .ok (.value v) W) (h : wpCalm P ops C Q rest (a.put o.dst v)) : wpCalm P ops C Q (o :: rest) a := by
  refine wpCalm_step hna fun K hK => ?_
  rw [if_pos hw]
  refine ⟨v, fun w' hw' => ?_, hK _ h⟩
  unfold calmAt
  rw [hrun _ hw']
  exact ⟨rfl, rfl⟩
theorem wpCalm_skip {P : Program} {ops : Array Oper} {rest : List Oper} {o : Oper} {a : Act} {C : World → Prop} {Q : Act → Prop} (hw : Region.wanted o (yielded ops a.tmps) = false) (hna : isAlloc o = none)
    (h : wpCalm P ops C Q rest (a.put o.dst undef)) : wpCalm P ops C Q (o :: rest) a := by
  refine wpCalm_step hna fun K hK => ?_
  rw [if_neg (by rw [hw]; exact Bool.false_ne_true)]
  exact hK _ h
/-- '==' of two aggregates that hold no interface -/
theorem exec_eql_agg {P : Program} {o : Oper} {a : Act} {W : World} (t : TypeId) (x y : Operand) (u : TypeId) (ho : o.op = .binOp .eql t x y u) (xs ys : Array Value) (hx : a.eval x = .agg xs) (hy : a.eval y = .agg ys) (hg : P.eqGuardType P.depth t = false)
    (v : Value) (h : (binOp .eql t (.agg xs) (.agg ys)).run P W = .ok v W) : (execOp a.eval o).run P W = .ok (.value v) W := by
  unfold execOp
  simp only [ho, hx, hy, eqGuard]
  simp [Sem.run_bind, hg, h]

theorem wpQuiet_mono {P : Program} {ops : Array Oper} {C : World → Prop} {Q Q' : Act → Prop} (h : ∀ a, Q a → Q' a) : ∀ {l : List Oper} {a : Act}, wpQuiet P ops C Q l a → wpQuiet P ops C Q' l a
  | [], a, hh => h a hh
  | o :: rest, a, hh => by
    unfold wpQuiet at hh ⊢
    split
    · rename_i hw
      simp only [hw, if_true] at hh
      exact Oper.quiet_mono (fun a' h' => wpQuiet_mono h h') hh
    · rename_i hw
      simp only [hw] at hh
      exact wpQuiet_mono h hh
/-- a whole region of operations and calls that turn nothing of what was there -/
theorem wp_region_quiet_b {P : Program} {id : Nat} {Q : Exit → Act → World → Prop} {a : Act} {w : World} {l : List Oper} (hm : P.follows .mixedOrders = true) (hB : Region.lexB .any l.toArray = true)
    (h : wpQuiet P l.toArray (fun w' => ∃ p : Regrown, w' = Sort.grow (redrawn w p.d) p.os) (fun a' => ∀ w', Below w.heap.size w w' → Q .normal a' w') l a) : (Code.region id l.toArray true).wp P Q a w := by
  refine wp_region_quiet_below hm hB ?_
  refine wpQuiet_mono (fun a' h' w' hw' => h' w' ?_) h
  obtain ⟨p, rfl⟩ := hw'
  exact below_regrown w p.d p.os
theorem wpQuiet_value {P : Program} {ops : Array Oper} {rest : List Oper} {o : Oper} {a : Act} {C : World → Prop} {Q : Act → Prop} (hw : Region.wanted o (yielded ops a.tmps) = true) (v : Value)
    (hrun : ∀ W, C W → (execOp a.eval o).run P W = .ok (.value v) W) (h : wpQuiet P ops C Q rest (a.put o.dst v)) : wpQuiet P ops C Q (o :: rest) a := by
  refine wpQuiet_step fun K hK => ?_
  rw [if_pos hw]
  refine ⟨v, fun w' hw' => ?_, hK _ h⟩
  unfold Oper.quietAt
  rw [hrun _ hw']
  exact ⟨rfl, rfl⟩
theorem wpQuiet_load_part {P : Program} {ops : Array Oper} {rest : List Oper} {o : Oper} {a : Act} {w : World} {Q : Act → Prop} (hw : Region.wanted o (yielded ops a.tmps) = true) (ty : TypeId) (x : Operand) (ho : o.op = .load ty x)
    (g off n : Nat) (hx : a.eval x = .pointer (some ⟨g, off, none⟩)) (t : TypeId) (cs vs : Array Value) (d : TypeDesc) (hB : Blk w g t cs)
    (hu : P.underlying ty = some d) (hd : (match d with | .struct _ | .array _ _ => true | _ => false) = true) (hi : (P.info? ty).map (·.size) = some n)
    (hn : vs.size = n) (hv : ∀ j, j < n → cs[off + j]? = vs[j]?)
    (h : wpQuiet P ops (fun w' => ∃ p : Regrown, w' = Sort.grow (redrawn w p.d) p.os) Q rest (a.put o.dst (.agg vs))) : wpQuiet P ops (fun w' => ∃ p : Regrown, w' = Sort.grow (redrawn w p.d) p.os) Q (o :: rest) a := by
  refine wpQuiet_value hw _ (fun W hW => ?_) h
  obtain ⟨p, rfl⟩ := hW
  exact exec_load_part ty x ho g off n hx t cs vs d (hB.below (below_regrown w p.d p.os) hB.lt) hu hd hi hn hv
theorem wpQuiet_load_cell {P : Program} {ops : Array Oper} {rest : List Oper} {o : Oper} {a : Act} {w : World} {Q : Act → Prop} (hw : Region.wanted o (yielded ops a.tmps) = true) (v : Value)
    (hrun : ∀ W, Below w.heap.size w W → (execOp a.eval o).run P W = .ok (.value v) W)
    (h : wpQuiet P ops (fun w' => ∃ p : Regrown, w' = Sort.grow (redrawn w p.d) p.os) Q rest (a.put o.dst v)) : wpQuiet P ops (fun w' => ∃ p : Regrown, w' = Sort.grow (redrawn w p.d) p.os) Q (o :: rest) a :=
  wpQuiet_value hw v (fun W hW => hrun W (by obtain ⟨p, rfl⟩ := hW; exact below_regrown w p.d p.os)) h
theorem wpCalm_below {P : Program} {ops : Array Oper} {rest : List Oper} {o : Oper} {a : Act} {w : World} {Q : Act → Prop} (hw : Region.wanted o (yielded ops a.tmps) = true) (hna : isAlloc o = none) (v : Value)
    (hrun : ∀ W, Below w.heap.size w W → (execOp a.eval o).run P W = .ok (.value v) W)
    (h : wpCalm P ops (fun w' => ∃ p : Regrown, w' = Sort.grow (redrawn w p.d) p.os) Q rest (a.put o.dst v)) : wpCalm P ops (fun w' => ∃ p : Regrown, w' = Sort.grow (redrawn w p.d) p.os) Q (o :: rest) a :=
  wpCalm_value hw hna v (fun W hW => hrun W (by obtain ⟨p, rfl⟩ := hW; exact below_regrown w p.d p.os)) h
theorem exec_load_one {P : Program} {o : Oper} {a : Act} {W : World} (ty : TypeId) (x : Operand) (ho : o.op = .load ty x) (ad : Addr) (hx : a.eval x = .pointer (some ad)) (hagg : (isAgg ty).run P W = .ok false W) (v : Value) (hc : W.cell? ad = some v) : (execOp a.eval o).run P W = .ok (.value v) W := by
  unfold execOp
  simp only [ho, hx, Instr.loadAt, Instr.sureAddr, Sem.run_bind, Sem.run_pure, Result.andThen_ok, loadVar, hagg]
  simp [go_sem, hc]

end Go.Proofs.YtcpngeiahgoacaaGreat

/- Contracts of ink.New, (*Book).none, Of, Len, Asked, Clash. -/
namespace Go.Proofs.YtcpngeiahgoacaaGreat
set_option linter.unusedVariables false
open Go.RowKit Go.Maps

/-- a book: block g holds it, b1 and b2 its maps -/
structure Book where
  g : Nat
  b1 : Nat
  b2 : Nat
def Book.has (k : Book) (b : Nat) : Prop := b = k.g ∨ b = k.b1 ∨ b = k.b2
def bookCells (k : Book) (asked : Int) : Array Value := #[.map (some k.b1), .map (some k.b2), .int .i64 asked]
structure BookAt (w : World) (k : Book) (l : List (List UInt8)) (asked : Nat) : Prop where
  cells : Blk w k.g 117 (bookCells k asked)
  maps : ∃ (D1 D2 : DataW Unit) (n1 n2 : Nat), w.ownsMap Tryz.prog 60 (plainElem Tryz.prog 9) k.b1 n1 D1 ∧ w.ownsMap Tryz.prog 9 (plainElem Tryz.prog 4) k.b2 n2 D2 ∧ InkInv l D1 D2
  len : l.length ≤ asked
  apart : k.g ≠ k.b1 ∧ k.g ≠ k.b2 ∧ k.b1 ≠ k.b2

theorem ownsMap_tight {P : Program} {T : TypeId} {R : Value → Option (DataW Unit × List MemPlace)} {w : World} {b n : Nat} {D : DataW Unit} (h : w.ownsMap P T R b n D) : w.ownsMap P T R b (Maps.size D) D := by
  obtain ⟨es, c, hb, F, hs, rfl⟩ := h
  exact ⟨es, c, hb, F, by simp [Maps.size, length_sorted], rfl⟩

/-- of what was there, a book's blocks alone may have turned -/
structure OnlyBook (k : Book) (w w' : World) : Prop where
  os : w'.os = w.os
  tape : w'.tape = w.tape
  output : w'.output = w.output
  size : w.heap.size ≤ w'.heap.size
  block : ∀ i, i < w.heap.size → ¬ k.has i → w'.heap[i]? = w.heap[i]?
theorem OnlyBook.refl (k : Book) (w : World) : OnlyBook k w w := ⟨rfl, rfl, rfl, Nat.le_refl _, fun _ _ _ => rfl⟩
theorem OnlyBook.trans {k : Book} {a b c : World} (h : OnlyBook k a b) (h' : OnlyBook k b c) : OnlyBook k a c :=
  ⟨h'.os.trans h.os, h'.tape.trans h.tape, h'.output.trans h.output, Nat.le_trans h.size h'.size, fun i hi hn => (h'.block i (Nat.lt_of_lt_of_le hi h.size) hn).trans (h.block i hi hn)⟩
theorem OnlyBook.of_below {k : Book} {w w' : World} (h : Below w.heap.size w w') : OnlyBook k w w' := ⟨h.os, h.tape, h.output, h.size, fun i hi _ => h.block i hi⟩
theorem OnlyBook.of_grown {k : Book} {w w' : World} {b : Nat} (h : w.grownBy w' (some b)) (hb : k.has b) : OnlyBook k w w' :=
  ⟨h.os, h.tape, h.output, h.size, fun i hi hn => h.block i hi (fun e => hn (by injection e with e; exact e ▸ hb))⟩
theorem OnlyBook.below {k : Book} {w0 w w' : World} {B : Nat} (h : OnlyBook k w w') (hb : Below B w0 w) (hB : B ≤ w.heap.size) (hk : B ≤ k.g ∧ B ≤ k.b1 ∧ B ≤ k.b2) : Below B w0 w' :=
  hb.trans ⟨h.os, h.tape, h.output, h.size, fun i hi => h.block i (by omega) (by rintro (e | e | e) <;> omega)⟩
theorem BookAt.below {w w' : World} {k : Book} {l : List (List UInt8)} {n : Nat} (h : BookAt w k l n) (hb : Below w.heap.size w w') : BookAt w' k l n := by
  obtain ⟨D1, D2, n1, n2, h1, h2, h3⟩ := h.maps
  have hg := only_of_below hb none
  exact ⟨h.cells.below' hb, ⟨D1, D2, n1, n2, h1.kept hg (by simp), h2.kept hg (by simp), h3⟩, h.len, h.apart⟩
theorem BookAt.lt {w : World} {k : Book} {l : List (List UInt8)} {n : Nat} (h : BookAt w k l n) : k.g < w.heap.size ∧ k.b1 < w.heap.size ∧ k.b2 < w.heap.size := by
  obtain ⟨D1, D2, n1, n2, h1, h2, h3⟩ := h.maps
  exact ⟨h.cells.lt, h1.lt, h2.lt⟩
/-- a book beside another one that turns -/
theorem BookAt.beside {w w' : World} {k q : Book} {l : List (List UInt8)} {n : Nat} (h : BookAt w k l n) (ho : OnlyBook q w w') (ha : ¬ q.has k.g ∧ ¬ q.has k.b1 ∧ ¬ q.has k.b2) : BookAt w' k l n := by
  obtain ⟨D1, D2, n1, n2, h1, h2, h3⟩ := h.maps
  have hl := h.lt
  refine ⟨(ho.block _ hl.1 ha.1).trans h.cells, ⟨D1, D2, n1, n2, ?_, ?_, h3⟩, h.len, h.apart⟩
  · obtain ⟨es, c, hb, F, hs, hD⟩ := h1
    exact ⟨es, c, (ho.block _ hl.2.1 ha.2.1).trans hb, F, hs, hD⟩
  · obtain ⟨es, c, hb, F, hs, hD⟩ := h2
    exact ⟨es, c, (ho.block _ hl.2.2 ha.2.2).trans hb, F, hs, hD⟩

theorem BookAt.drewN {w : World} {k : Book} {l : List (List UInt8)} {n : Nat} (h : BookAt w k l n) (q : Nat) : BookAt (w.drewN q) k l n := h.below (below_drewN (Below.refl _ _) q)

set_option maxRecDepth 100000 in
theorem inkNew_any (w : World) : Calls Tryz.prog 10 #[] w fun e w' => ∃ k : Book, e = .returned (.pointer (some ⟨k.g, 0, none⟩)) ∧ BookAt w' k [] 0 ∧ (w.heap.size ≤ k.g ∧ w.heap.size ≤ k.b1 ∧ w.heap.size ≤ k.b2) ∧ Below w.heap.size w w' := by
  have hmm := @run_makeMap Tryz.prog
  go_enter Tryz.func10, Tryz.ntmps10
  go_wp2
  go_ret
  refine ⟨⟨w.heap.size + 1 + 1, w.heap.size, w.heap.size + 1⟩, rfl, ⟨Blk.newAt (by simp), ⟨.map [], .map [], 0, 0, ?_, ?_, InkInv.start⟩, Nat.le_refl _, by simp; omega⟩, by simp; omega, ?_⟩
  · exact ((World.ownsMap_made w _ _ _).alloc _).alloc _
  · have := (World.ownsMap_made (H := Unit) (w.alloc (.map #[] 0)) Tryz.prog 9 (plainElem Tryz.prog 4)).alloc (.cells (bookCells ⟨w.heap.size + 1 + 1, w.heap.size, w.heap.size + 1⟩ 0) 117)
    rw [show (w.alloc (.map #[] 0)).heap.size = w.heap.size + 1 by simp] at this
    exact this
  · exact (((Below.refl _ _).alloc (Nat.le_refl _) _).alloc (by simp) _).alloc (by simp; omega) _

theorem bookNone_false (k : Book) (l : List (List UInt8)) (n : Nat) (w : World) (h : BookAt w k l n) :
    Calls Tryz.prog 185 #[.pointer (some ⟨k.g, 0, none⟩)] w fun e w' => e = .returned (.bool false) ∧ w = w' := by
  have c0 : w.cell? ⟨k.g, 0, none⟩ = some (.map (some k.b1)) := (h.cells.cell 0).trans rfl
  have hmn := run_eql_map_nil (P := Tryz.prog) w 109 60 9 (some k.b1) Tryz.underlying109
  clear h
  go_enter Tryz.func185, Tryz.ntmps185
  go_wp2
  go_ret
  exact ⟨rfl, rfl⟩
theorem addI64_any (a : Addr) (s : Nat) (w : World) (hc : w.cell? a = some (.int .i64 (s : Int))) (hz : w.frozen? a = false) (hs : s + 1 < 9223372036854775808) :
    Calls Tryz.prog 186 #[.pointer (some a), .int .i64 1] w fun e w' => e = .returned (.int .i64 ((s + 1 : Nat) : Int)) ∧ w' = w.setCell a (.int .i64 ((s + 1 : Nat) : Int)) := by
  have hadd := run_call_add (P := Tryz.prog) Tryz.func204 (by kernel_rfl) (by kernel_rfl) (by kernel_rfl) .i64 (by kernel_rfl) (y := 1) (s := ((s + 1 : Nat) : Int)) hc hz (by simp [go_sem]; exact IntWalk.i64_in _ (by omega))
  go_enter Tryz.func186, Tryz.ntmps186
  go_wp2
  go_ret
  exact ⟨rfl, rfl⟩
theorem look_dig {w : World} {b n : Nat} {l : List (List UInt8)} {D1 D2 : DataW Unit} (h : w.ownsMap Tryz.prog 60 (plainElem Tryz.prog 9) b n D1) (hi : InkInv l D1 D2) (d : List UInt8) (hd : d.length = 32) :
    (Instr.lookup 109 (.map (some b)) (.agg (bRow d)) true).run Tryz.prog w = .ok (.tuple #[.string ⟨((firstOf l d).getD []).toArray⟩, .bool (firstOf l d).isSome]) w := by
  obtain ⟨v, ps, hrun, hv⟩ := h.look_ok digKeyed Tryz.underlying109 (Tryz.zeroValue9 w) (plainElem_string Tryz.underlying9 (s := ⟨#[]⟩) (by unfold maxLen; show (0 : Nat) ≤ _; omega)) (keyOf_dig d hd)
  rw [hi.has1 d hd] at hrun
  obtain ⟨s, rfl, hs, _⟩ := plainElem_string_inv Tryz.underlying9 hv
  have he : D1.atKey (klit d) (.lit (.string [])) = .lit (.string ((firstOf l d).getD [])) := by
    cases hf : firstOf l d with
    | some y => exact hi.at1 d y _ hd hf
    | none => exact atKey_of_not_has (by rw [hi.has1 d hd, hf]; rfl) _
  have hs1 : D1.atKey (klit d) (.lit (.string [])) = .lit (.string s.data.toList) := congrArg Prod.fst hs
  rw [he] at hs1
  have hs2 : (firstOf l d).getD [] = s.data.toList := Lit.string.inj (DataW.lit.inj hs1)
  rw [hrun, hs2]
end Go.Proofs.YtcpngeiahgoacaaGreat
