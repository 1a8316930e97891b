/-
  A region that draws its order: of each operation of its head something is known of the value that it yields, which lasts whatever is made behind it.
-/
import Derived.Test.YtcmbmimmfgfefaaGreatCalm
namespace Go.Proofs.YtcmbmimmfgfefaaGreat
set_option linter.unusedVariables false
open Go.RowKit

theorem Blk.under {w w' : World} {g : Nat} {t : TypeId} {cs : Array Value} (h : Blk w g t cs) (hb : Below w.heap.size w w') : Blk w' g t cs := h.below hb h.lt
def Lasts (p : World → Value → Prop) : Prop := ∀ w w' v, p w v → Below w.heap.size w w' → p w' v
theorem Lasts.pure (q : Value → Prop) : Lasts fun _ v => q v := fun _ _ _ h _ => h
/-- the value of operation j -/
def slotP (ops : Array Oper) (ps : Nat → World → Value → Prop) (j : Nat) (w : World) (a : Act) : Prop := ∀ o d, ops[j]? = some o → o.dst = some d → ps j w (a.eval (.tmp d))
/-- what no operation of the head writes -/
structure Kept (ops : Array Oper) (n : Nat) (a0 a : Act) : Prop where
  defers : a.defers = a0.defers
  size : a.tmps.size = a0.tmps.size
  tmps : ∀ d : Nat, (∀ (i : Nat) (o : Oper), i < n → ops[i]? = some o → o.dst ≠ some d) → a.tmps[d]? = a0.tmps[d]?
def freeB (ops : Array Oper) (n d : Nat) : Bool := (List.range n).all fun i => match ops[i]? with
  | none => true
  | some o => o.dst != some d
theorem freeB_spec {ops : Array Oper} {n d : Nat} (h : freeB ops n d = true) : ∀ (i : Nat) (o : Oper), i < n → ops[i]? = some o → o.dst ≠ some d := fun i o hi ho => by
  have := List.all_eq_true.1 h i (List.mem_range.2 hi)
  simp only [ho, bne_iff_ne] at this
  exact this
theorem Kept.at_ {ops : Array Oper} {n : Nat} {a0 a : Act} (h : Kept ops n a0 a) {d : Nat} (hd : freeB ops n d = true) : a.eval (.tmp d) = a0.eval (.tmp d) := by
  have := h.tmps d (freeB_spec hd)
  simp [Act.eval, this]
theorem Kept.get {ops : Array Oper} {n : Nat} {a0 a : Act} (h : Kept ops n a0 a) {d : Nat} (hd : freeB ops n d = true) {v : Value} (hv : a0.eval (.tmp d) = v) : a.tmps[d]?.getD undef = v := by
  have := h.at_ hd
  rw [hv] at this
  simpa [Act.eval] using this
theorem slotP.get {ops : Array Oper} {ps : Nat → World → Value → Prop} {j : Nat} {w : World} {a : Act} (h : slotP ops ps j w a) {o : Oper} (d : Nat) (ho : ops[j]? = some o) (hd : o.dst = some d) : ps j w (a.tmps[d]?.getD undef) := by
  have := h o d ho hd
  simpa [Act.eval] using this
def RelOp (P : Program) (ops : Array Oper) (o : Oper) (a : Act) (w : World) (p : World → Value → Prop) : Prop :=
  ∀ (K : Act → World → Prop) (Q' : Exit → Act → World → Prop), (∀ v w', Below w.heap.size w w' → p w' v → K (a.put o.dst v) w') → if Region.wanted o (yielded ops a.tmps) = true then o.wp P a w K Q' else K (a.put o.dst undef) w

section
variable {P : Program} {ops : Array Oper}
theorem rel_exec {o : Oper} {a : Act} {w : World} {p : World → Value → Prop} (hw : Region.wanted o (yielded ops a.tmps) = true) (v : Value) (w' : World) (he : (execOp a.eval o).run P w = .ok (.value v) w') (hb : Below w.heap.size w w') (hp : p w' v) : RelOp P ops o a w p := fun K Q' hK => by
  rw [if_pos hw]
  unfold Oper.wp
  rw [he]
  exact hK v w' hb hp
theorem rel_value {o : Oper} {a : Act} {w : World} {p : World → Value → Prop} (hw : Region.wanted o (yielded ops a.tmps) = true) (v : Value) (he : (execOp a.eval o).run P w = .ok (.value v) w) (hp : p w v) : RelOp P ops o a w p :=
  rel_exec hw v w he (Below.refl _ _) hp
theorem rel_call {o : Oper} {a : Act} {w : World} {p : World → Value → Prop} (hw : Region.wanted o (yielded ops a.tmps) = true) (f : FuncId) (args : Array Value) (he : (execOp a.eval o).run P w = .ok (.enter f args) w)
    (hc : Calls P f args w fun e w' => ∃ v, e = .returned v ∧ Below w.heap.size w w' ∧ p w' v) : RelOp P ops o a w p := fun K Q' hK => by
  rw [if_pos hw]
  unfold Oper.wp
  rw [he]
  refine hc.mono ?_
  rintro e w' ⟨v, rfl, hb, hp⟩
  exact hK v w' hb hp
theorem rel_skip {o : Oper} {a : Act} {w : World} {p : World → Value → Prop} (hw : Region.wanted o (yielded ops a.tmps) = false) (hp : p w undef) : RelOp P ops o a w p := fun K Q' hK => by
  rw [if_neg (by rw [hw]; exact Bool.false_ne_true)]
  exact hK undef w (Below.refl _ _) hp
end

/-- edges go back -/
def backB (md : Region.Mode) (ops : Array Oper) (n : Nat) : Bool := (List.range n).all fun i => match ops[i]? with
  | none => true
  | some o => o.after.all fun e => !Region.binds md e || decide (e.on < i)
def headArr (m n : Nat) : Array Bool := (List.range m).map (fun i => decide (i < n)) |>.toArray
theorem headArr_get (m n k : Nat) (d : Bool) (h : k < m) : (headArr m n).getD k d = decide (k < n) := by
  unfold headArr
  simp [h]
def relB (md : Region.Mode) (ops : Array Oper) (n : Nat) : Bool :=
  decide (n < ops.size) && Region.sinkB md ops n && Region.chainB md ops n && dstsB ops n && backB md ops n && Region.seqB md ops (ops.size - n) n (headArr ops.size n)

section
variable {P : Program} {md : Region.Mode} {ops : Array Oper}

theorem least_false (f : Nat → Bool) : ∀ n, (∃ i, i < n ∧ f i = false) → ∃ i, i < n ∧ f i = false ∧ ∀ j, j < i → f j = true := by
  intro n
  induction n with
  | zero => rintro ⟨i, hi, _⟩; omega
  | succ n ih =>
    rintro ⟨i, hi, h⟩
    by_cases hx : ∃ i, i < n ∧ f i = false
    · obtain ⟨j, h1, h2, h3⟩ := ih hx
      exact ⟨j, by omega, h2, h3⟩
    · have hin : i = n := by
        rcases Nat.lt_or_ge i n with h4 | h4
        · exact absurd ⟨i, h4, h⟩ hx
        · omega
      subst hin
      refine ⟨i, by omega, h, fun j hj => ?_⟩
      cases hf : f j with
      | true => rfl
      | false => exact absurd ⟨j, hj, hf⟩ hx

theorem wpAny_rel {n : Nat} {ps : Nat → World → Value → Prop} {a0 : Act} {w0 : World} {Q' : Exit → Act → World → Prop} (hn : n < ops.size) (hs : Region.sinkB md ops n = true) (hc : Region.chainB md ops n = true) (hd : dstsB ops n = true) (hbk : backB md ops n = true)
    (hl : ∀ j, Lasts (ps j))
    (hop : ∀ i o, i < n → ops[i]? = some o → ∀ a w, Below w0.heap.size w0 w → Kept ops n a0 a → (∀ j, Region.waitsFor md ops i j = true → slotP ops ps j w a) → RelOp P ops o a w (ps i))
    (hL : ∀ a w, Below w0.heap.size w0 w → Kept ops n a0 a → (∀ j, j < n → slotP ops ps j w a) → wpAny P md ops Q' (ops.size - n) (headArr ops.size n) a w)
    (hsz : ∀ (i : Nat) (o : Oper) (d : Tmp), i < n → ops[i]? = some o → o.dst = some d → d < a0.tmps.size) :
    ∀ (f : Nat) (listed : Array Bool) (a : Act) (w : World), ((List.range n).filter fun i => !listed.getD i false).length = f → HeadInv md ops n listed → Below w0.heap.size w0 w → Kept ops n a0 a → (∀ j, j < n → listed.getD j false = true → slotP ops ps j w a) → wpAny P md ops Q' (f + (ops.size - n)) listed a w
  | 0, listed, a, w, hf, inv, hb, hk, hp => by
    have hall : ∀ j, j < n → listed.getD j false = true := fun j hj => by
      cases hx : listed.getD j false with
      | true => rfl
      | false =>
        have : j ∈ (List.range n).filter fun i => !listed.getD i false := List.mem_filter.2 ⟨List.mem_range.2 hj, by rw [hx]; rfl⟩
        rw [List.eq_nil_of_length_eq_zero hf] at this
        cases this
    have hls : listed = headArr ops.size n := by
      apply Array.ext
      · rw [inv.size]; simp [headArr]
      · intro i h1 h2
        have hi : i < ops.size := by rw [← inv.size]; exact h1
        have e1 : listed[i] = listed.getD i false := by simp [h1]
        have e2 : (headArr ops.size n)[i] = (headArr ops.size n).getD i false := by simp [h2]
        rw [e1, e2, headArr_get _ _ _ _ hi]
        by_cases hin : i < n
        · rw [hall i hin, decide_eq_true hin]
        · rw [decide_eq_false hin]
          exact getD_both (inv.tail i (by omega) hi)
    rw [Nat.zero_add, hls]
    exact hL a w hb hk fun j hj => hp j hj (hall j hj)
  | f + 1, listed, a, w, hf, inv, hb, hk, hp => by
    have hex : ∃ i, i < n ∧ listed.getD i false = false := by
      cases hx : (List.range n).filter fun i => !listed.getD i false with
      | nil => rw [hx] at hf; cases hf
      | cons i t =>
        have : i ∈ (List.range n).filter fun i => !listed.getD i false := by rw [hx]; exact List.mem_cons_self
        obtain ⟨h1, h2⟩ := List.mem_filter.1 this
        exact ⟨i, List.mem_range.1 h1, by simpa using h2⟩
    obtain ⟨m, hm, hmf, hmb⟩ := least_false (fun i => listed.getD i false) n hex
    have hin : ∀ k, k < n → listed.getD k false = false → listed.getD k true = false := fun k hk h => getD_in (by rw [inv.size]; omega) h
    rw [show f + 1 + (ops.size - n) = (f + (ops.size - n)) + 1 by omega]
    refine ⟨fun h0 => ?_, fun i hi => ?_⟩
    · exfalso
      have : m ∈ Region.ready md ops listed := by
        refine mem_ready.2 ⟨hin m hm hmf, ops[m], Array.getElem?_eq_getElem (by omega), fun e he hbd => ?_⟩
        have h1 := List.all_eq_true.1 hbk m (List.mem_range.2 hm)
        rw [Array.getElem?_eq_getElem (show m < ops.size by omega)] at h1
        have h2 := Array.all_eq_true_iff_forall_mem.1 h1 e he
        rw [hbd] at h2
        simp at h2
        exact hmb e.on h2
      rw [h0] at this
      cases this
    · have hin' : i < n := by
        rcases Nat.lt_or_ge i n with h | h
        · exact h
        · exact absurd hi (tail_waits hs hc hn inv _ m rfl hm (hin m hm hmf) i h)
      obtain ⟨hun, o, ho, hall⟩ := mem_ready.1 hi
      have hrel := hop i o hin' ho a w hb hk (fun j hj => by
        obtain ⟨oj, hoj, e, he, hbd, hon⟩ := Region.waitsFor_spec hj
        have : oj = o := Option.some.inj (hoj.symm.trans ho)
        subst this
        have h1 := hall e he hbd
        rw [hon] at h1
        have h2 := List.all_eq_true.1 hbk i (List.mem_range.2 hin')
        rw [ho] at h2
        have h3 := Array.all_eq_true_iff_forall_mem.1 h2 e he
        rw [hbd] at h3
        simp at h3
        exact hp j (by omega) h1)
      unfold wpOp
      simp only [ho]
      have hcnt : ((List.range n).filter fun k => !(listed.setIfInBounds i true).getD k false).length = f := by
        have hmem : i ∈ (List.range n).filter fun i => !listed.getD i false := List.mem_filter.2 ⟨List.mem_range.2 hin', by rw [getD_both hun]; rfl⟩
        have hnd : ((List.range n).filter fun i => !listed.getD i false).Nodup := List.Pairwise.filter _ List.nodup_range
        have he : ((List.range n).filter fun k => !(listed.setIfInBounds i true).getD k false) = ((List.range n).filter fun i => !listed.getD i false).erase i := by
          rw [hnd.erase_eq_filter, List.filter_filter]
          apply List.filter_congr
          intro k hk
          by_cases hki : i = k
          · subst hki
            have hlt : i < listed.size := by rw [inv.size]; omega
            simp [hlt]
          · rw [getD_set_ne false hki]
            simp [Ne.symm hki]
        rw [he, List.length_erase_of_mem hmem, hf]
        rfl
      have hfin : ∀ v w', Below w.heap.size w w' → ps i w' v → wpAny P md ops Q' (f + (ops.size - n)) (listed.setIfInBounds i true) (a.put o.dst v) w' := fun v w' hbw hpv => by
        refine wpAny_rel hn hs hc hd hbk hl hop hL hsz f _ _ w' hcnt (inv.set hi hin') (hb.trans (hbw.mono hb.size)) ⟨?_, by rw [put_size]; exact hk.size, fun d hfree => ?_⟩ fun j hj hlj oj d hoj hdj => ?_
        · rw [← hk.defers]; unfold Act.put; split <;> rfl
        · rw [put_at_ne (hfree i o hin' ho)]; exact hk.tmps d hfree
        · by_cases hji : j = i
          · subst hji
            have : oj = o := Option.some.inj (hoj.symm.trans ho)
            subst this
            have hds : d < a.tmps.size := by rw [hk.size]; exact hsz j oj d hin' hoj hdj
            have he : (a.put oj.dst v).eval (.tmp d) = v := by
              rw [hdj]
              simp [Act.put, Act.eval, hds]
            rw [he]
            exact hpv
          · have hl2 : listed.getD j false = true := by rw [getD_set_ne false (Ne.symm hji)] at hlj; exact hlj
            have he : (a.put o.dst v).eval (.tmp d) = a.eval (.tmp d) := by
              have := put_at_ne (a := a) (v := v) (dstsB_spec hd hj hin' hji hoj ho hdj)
              simp [Act.eval, this]
            rw [he]
            exact hl j _ _ _ (hp j hj hl2 oj d hoj hdj) hbw
      have := hrel (wpAny P md ops Q' (f + (ops.size - n)) (listed.setIfInBounds i true)) Q' hfin
      split
      · rename_i hwt
        rw [if_pos hwt] at this
        exact .inl this
      · rename_i hwt
        rw [if_neg hwt] at this
        exact this
end

def AllRel (P : Program) (ops : Array Oper) (n : Nat) (ps : Nat → World → Value → Prop) (a0 : Act) (w0 : World) : Nat → List Oper → Prop
  | _, [] => True
  | k, o :: l => (∀ a w, Below w0.heap.size w0 w → Kept ops n a0 a → (∀ j, Region.waitsFor .any ops k j = true → slotP ops ps j w a) → RelOp P ops o a w (ps k)) ∧ AllRel P ops n ps a0 w0 (k + 1) l
theorem AllRel.spec {P : Program} {ops : Array Oper} {n : Nat} {ps : Nat → World → Value → Prop} {a0 : Act} {w0 : World} : ∀ (l : List Oper) (k : Nat), AllRel P ops n ps a0 w0 k l → ∀ i o, l[i]? = some o →
    ∀ a w, Below w0.heap.size w0 w → Kept ops n a0 a → (∀ j, Region.waitsFor .any ops (k + i) j = true → slotP ops ps j w a) → RelOp P ops o a w (ps (k + i))
  | [], k, _, i, o, ho => by simp at ho
  | o' :: l, k, h, 0, o, ho => by simp at ho; subst ho; exact h.1
  | o' :: l, k, h, i + 1, o, ho => by
    have := AllRel.spec l (k + 1) h.2 i o (by simpa using ho)
    rw [show k + 1 + i = k + (i + 1) by omega] at this
    exact this
def sizeB (ops : Array Oper) (n m : Nat) : Bool := (List.range n).all fun i => match ops[i]? with
  | none => true
  | some o => match o.dst with
    | none => true
    | some d => decide (d < m)

theorem wp_region_rel {P : Program} {id : Nat} {Q : Exit → Act → World → Prop} {a : Act} {w : World} {l : List Oper} (n m : Nat) (ps : Nat → World → Value → Prop) (hm : P.follows .mixedOrders = true) (hB : relB .any l.toArray n = true) (hsz : sizeB l.toArray n m = true) (ha : a.tmps.size = m)
    (hl : ∀ j, Lasts (ps j)) (hop : AllRel P l.toArray n ps a w 0 (l.take n))
    (h : ∀ a' w', Below w.heap.size w w' → Kept l.toArray n a a' → (∀ j, j < n → slotP l.toArray ps j w' a') → wpList P l.toArray Q (l.drop n) a' w') : (Code.region id l.toArray true).wp P Q a w := by
  simp only [relB, Bool.and_eq_true, decide_eq_true_eq] at hB
  obtain ⟨⟨⟨⟨⟨hn, hs⟩, hc⟩, hd⟩, hbk⟩, hsq⟩ := hB
  have inv0 : HeadInv .any l.toArray n (Array.replicate l.toArray.size false) :=
    ⟨by simp, fun j oj _ hl => (by rw [getD_replicate_false] at hl; cases hl), fun t _ ht => getD_in (by simpa using ht) (getD_replicate_false _ _)⟩
  have hdl : (l.drop n).length = l.toArray.size - n := by simp
  refine wp_region_any hm ?_
  have := wpAny_rel (Q' := Q) (md := .any) (P := P) (ops := l.toArray) (n := n) (ps := ps) (a0 := a) (w0 := w) hn hs hc hd hbk hl (fun i o hi ho a' w' h1 h2 h3 => by
      have := AllRel.spec (l.take n) 0 hop i o (by rw [List.getElem?_take, if_pos hi]; simpa using ho) a' w' h1 h2
      simp only [Nat.zero_add] at this
      exact this h3)
    (fun a' w' h1 h2 h3 => by
      have := wpAny_of_seq (md := .any) (ops := l.toArray) (Q' := Q) (l.drop n) n (headArr l.toArray.size n) a' w' (fun j => by simp [List.getElem?_drop]) (by rw [hdl]; exact hsq) (h a' w' h1 h2 h3)
      rw [hdl] at this
      exact this)
    (fun i o d hi ho hdst => by
      have := List.all_eq_true.1 hsz i (List.mem_range.2 hi)
      simp only [ho, hdst, decide_eq_true_eq] at this
      rw [ha]; exact this)
    n (Array.replicate l.toArray.size false) a w.drew (by
      rw [List.filter_eq_self.2 (fun i _ => by rw [getD_replicate_false]; rfl)]
      simp) inv0 (Below.refl _ w).drew ⟨rfl, rfl, fun _ _ => rfl⟩ (fun j _ hj => by rw [getD_replicate_false] at hj; cases hj)
  rw [show n + (l.toArray.size - n) = l.toArray.size by omega] at this
  exact this

def putAll : Act → List Nat → (Nat → Value) → Act
  | a, [], _ => a
  | a, d :: ds, f => putAll (a.put (some d) (f d)) ds f
theorem putAll_get : ∀ (ds : List Nat) (a : Act) (f : Nat → Value) (k : Nat), (putAll a ds f).tmps[k]? = if k ∈ ds ∧ k < a.tmps.size then some (f k) else a.tmps[k]?
  | [], a, f, k => by simp [putAll]
  | d :: ds, a, f, k => by
    rw [putAll, putAll_get ds, put_size]
    by_cases hk : k ∈ ds ∧ k < a.tmps.size
    · rw [if_pos hk, if_pos ⟨List.mem_cons_of_mem _ hk.1, hk.2⟩]
    · rw [if_neg hk]
      by_cases hd : k = d
      · subst hd
        by_cases hs : k < a.tmps.size
        · rw [if_pos ⟨List.mem_cons_self, hs⟩]
          simp [Act.put, hs]
        · rw [if_neg (fun h => hs h.2), Array.getElem?_eq_none (by rw [put_size]; omega), Array.getElem?_eq_none (by omega)]
      · rw [if_neg (fun h => by
          rcases List.mem_cons.1 h.1 with h1 | h1
          · exact hd h1
          · exact hk ⟨h1, h.2⟩)]
        exact put_at_ne (fun e => hd (by injection e with e; exact e.symm))
theorem putAll_defers : ∀ (ds : List Nat) (a : Act) (f : Nat → Value), (putAll a ds f).defers = a.defers
  | [], a, f => rfl
  | d :: ds, a, f => by rw [putAll, putAll_defers ds]; rfl
/-- the destinations of the head -/
def dstsOf (ops : Array Oper) (n : Nat) : List Nat := (List.range n).filterMap fun i => (ops[i]?).bind (·.dst)
theorem Kept.puts {ops : Array Oper} {n : Nat} {a0 a : Act} (h : Kept ops n a0 a) (hs : sizeB ops n a0.tmps.size = true) : a = putAll a0 (dstsOf ops n) (fun d => a.tmps[d]?.getD undef) := by
  have h1 : a.tmps = (putAll a0 (dstsOf ops n) (fun d => a.tmps[d]?.getD undef)).tmps := by
    apply Array.ext_getElem?
    intro k
    rw [putAll_get]
    by_cases hk : k ∈ dstsOf ops n ∧ k < a0.tmps.size
    · rw [if_pos hk]
      have : k < a.tmps.size := by rw [h.size]; exact hk.2
      simp [this]
    · rw [if_neg hk]
      refine h.tmps k fun i o hi ho hd => hk ⟨List.mem_filterMap.2 ⟨i, List.mem_range.2 hi, by rw [ho]; exact hd⟩, ?_⟩
      have := List.all_eq_true.1 hs i (List.mem_range.2 hi)
      simp only [ho, hd, decide_eq_true_eq] at this
      exact this
  have h2 : a.defers = (putAll a0 (dstsOf ops n) (fun d => a.tmps[d]?.getD undef)).defers := by rw [putAll_defers, h.defers]
  calc a = ⟨a.tmps, a.defers⟩ := rfl
    _ = _ := by rw [h2]; conv => lhs; arg 1; rw [h1]
/-- the same law; behind the head the slots hold values of which that is known -/
theorem wp_region_rel' {P : Program} {id : Nat} {Q : Exit → Act → World → Prop} {a : Act} {w : World} {l : List Oper} (n m : Nat) (ps : Nat → World → Value → Prop) (ds : List Nat) (hm : P.follows .mixedOrders = true) (hB : relB .any l.toArray n = true) (hsz : sizeB l.toArray n m = true) (ha : a.tmps.size = m) (hds : dstsOf l.toArray n = ds)
    (hl : ∀ j, Lasts (ps j)) (hop : AllRel P l.toArray n ps a w 0 (l.take n))
    (h : ∀ (f : Nat → Value) w', Below w.heap.size w w' → (∀ j, j < n → ∀ o d, l.toArray[j]? = some o → o.dst = some d → ps j w' (f d)) → wpList P l.toArray Q (l.drop n) (putAll a ds f) w') : (Code.region id l.toArray true).wp P Q a w := by
  refine wp_region_rel n m ps hm hB hsz ha hl hop fun a' w' hb hk hp => ?_
  rw [hk.puts (by rw [ha]; exact hsz), hds]
  exact h _ w' hb fun j hj o d ho hd => (hp j hj).get d ho hd

end Go.Proofs.YtcmbmimmfgfefaaGreat
