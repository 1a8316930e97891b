/- Parts of the proof, in one text: Rel, BinTake, BinFix, WishVal, WishBytes. -/
import Derived.Test.YtcpngeiahgoacaaGreatZ5
import Derived.Test.YtcpngeiahgoacaaGreatZ6
import Derived.Deep.DeepCutAuto

/- A region that draws its order: of each operation of its head something is known of the value that it yields, which lasts whatever is made behind it. -/
namespace Go.Proofs.YtcpngeiahgoacaaGreat
set_option linter.unusedVariables false
open Go.RowKit

theorem Blk.under {w w' : World} {g : Nat} {t : TypeId} {cs : Array Value} (h : Blk w g t cs) (hb : Below w.heap.size w w') : Blk w' g t cs := h.below hb h.lt
def Lasts (p : World → Value → Prop) : Prop := ∀ w w' v, p w v → Below w.heap.size w w' → p w' v
theorem Lasts.pure (q : Value → Prop) : Lasts fun _ v => q v := fun _ _ _ h _ => h
/-- the value of operation j -/
def slotP (ops : Array Oper) (ps : Nat → World → Value → Prop) (j : Nat) (w : World) (a : Act) : Prop := ∀ o d, ops[j]? = some o → o.dst = some d → ps j w (a.eval (.tmp d))
/-- what no operation of the head writes -/
structure Kept (ops : Array Oper) (n : Nat) (a0 a : Act) : Prop where
  defers : a.defers = a0.defers
  size : a.tmps.size = a0.tmps.size
  tmps : ∀ d : Nat, (∀ (i : Nat) (o : Oper), i < n → ops[i]? = some o → o.dst ≠ some d) → a.tmps[d]? = a0.tmps[d]?
def freeB (ops : Array Oper) (n d : Nat) : Bool := (List.range n).all fun i => match ops[i]? with
  | none => true
  | some o => o.dst != some d
theorem freeB_spec {ops : Array Oper} {n d : Nat} (h : freeB ops n d = true) : ∀ (i : Nat) (o : Oper), i < n → ops[i]? = some o → o.dst ≠ some d := fun i o hi ho => by
  have := List.all_eq_true.1 h i (List.mem_range.2 hi)
  simp only [ho, bne_iff_ne] at this
  exact this
theorem Kept.at_ {ops : Array Oper} {n : Nat} {a0 a : Act} (h : Kept ops n a0 a) {d : Nat} (hd : freeB ops n d = true) : a.eval (.tmp d) = a0.eval (.tmp d) := by
  have := h.tmps d (freeB_spec hd)
  simp [Act.eval, this]
theorem Kept.get {ops : Array Oper} {n : Nat} {a0 a : Act} (h : Kept ops n a0 a) {d : Nat} (hd : freeB ops n d = true) {v : Value} (hv : a0.eval (.tmp d) = v) : a.tmps[d]?.getD undef = v := by
  have := h.at_ hd
  rw [hv] at this
  simpa [Act.eval] using this
theorem slotP.get {ops : Array Oper} {ps : Nat → World → Value → Prop} {j : Nat} {w : World} {a : Act} (h : slotP ops ps j w a) {o : Oper} (d : Nat) (ho : ops[j]? = some o) (hd : o.dst = some d) : ps j w (a.tmps[d]?.getD undef) := by
  have := h o d ho hd
  simpa [Act.eval] using this
def RelOp (P : Program) (ops : Array Oper) (o : Oper) (a : Act) (w : World) (p : World → Value → Prop) : Prop :=
  ∀ (K : Act → World → Prop) (Q' : Exit → Act → World → Prop), (∀ v w', Below w.heap.size w w' → p w' v → K (a.put o.dst v) w') → if Region.wanted o (yielded ops a.tmps) = true then o.wp P a w K Q' else K (a.put o.dst undef) w

section
variable {P : Program} {ops : Array Oper}
theorem rel_exec {o : Oper} {a : Act} {w : World} {p : World → Value → Prop} (hw : Region.wanted o (yielded ops a.tmps) = true) (v : Value) (w' : World) (he : (execOp a.eval o).run P w = .ok (.value v) w') (hb : Below w.heap.size w w') (hp : p w' v) : RelOp P ops o a w p := fun K Q' hK => by
  rw [if_pos hw]
  unfold Oper.wp
  rw [he]
  exact hK v w' hb hp
theorem rel_value {o : Oper} {a : Act} {w : World} {p : World → Value → Prop} (hw : Region.wanted o (yielded ops a.tmps) = true) (v : Value) (he : (execOp a.eval o).run P w = .ok (.value v) w) (hp : p w v) : RelOp P ops o a w p :=
  rel_exec hw v w he (Below.refl _ _) hp
theorem rel_call {o : Oper} {a : Act} {w : World} {p : World → Value → Prop} (hw : Region.wanted o (yielded ops a.tmps) = true) (f : FuncId) (args : Array Value) (he : (execOp a.eval o).run P w = .ok (.enter f args) w)
    (hc : Calls P f args w fun e w' => ∃ v, e = .returned v ∧ Below w.heap.size w w' ∧ p w' v) : RelOp P ops o a w p := fun K Q' hK => by
  rw [if_pos hw]
  unfold Oper.wp
  rw [he]
  refine hc.mono ?_
  rintro e w' ⟨v, rfl, hb, hp⟩
  exact hK v w' hb hp
end

/-- edges go back -/
def backB (md : Region.Mode) (ops : Array Oper) (n : Nat) : Bool := (List.range n).all fun i => match ops[i]? with
  | none => true
  | some o => o.after.all fun e => !Region.binds md e || decide (e.on < i)
def headArr (m n : Nat) : Array Bool := (List.range m).map (fun i => decide (i < n)) |>.toArray
theorem headArr_get (m n k : Nat) (d : Bool) (h : k < m) : (headArr m n).getD k d = decide (k < n) := by
  unfold headArr
  simp [h]
def relB (md : Region.Mode) (ops : Array Oper) (n : Nat) : Bool :=
  decide (n < ops.size) && Region.sinkB md ops n && Region.chainB md ops n && dstsB ops n && backB md ops n && Region.seqB md ops (ops.size - n) n (headArr ops.size n)

section
variable {P : Program} {md : Region.Mode} {ops : Array Oper}

theorem least_false (f : Nat → Bool) : ∀ n, (∃ i, i < n ∧ f i = false) → ∃ i, i < n ∧ f i = false ∧ ∀ j, j < i → f j = true := by
  intro n
  induction n with
  | zero => rintro ⟨i, hi, _⟩; omega
  | succ n ih =>
    rintro ⟨i, hi, h⟩
    by_cases hx : ∃ i, i < n ∧ f i = false
    · obtain ⟨j, h1, h2, h3⟩ := ih hx
      exact ⟨j, by omega, h2, h3⟩
    · have hin : i = n := by
        rcases Nat.lt_or_ge i n with h4 | h4
        · exact absurd ⟨i, h4, h⟩ hx
        · omega
      subst hin
      refine ⟨i, by omega, h, fun j hj => ?_⟩
      cases hf : f j with
      | true => rfl
      | false => exact absurd ⟨j, hj, hf⟩ hx

theorem wpAny_rel {n : Nat} {ps : Nat → World → Value → Prop} {a0 : Act} {w0 : World} {Q' : Exit → Act → World → Prop} (hn : n < ops.size) (hs : Region.sinkB md ops n = true) (hc : Region.chainB md ops n = true) (hd : dstsB ops n = true) (hbk : backB md ops n = true)
    (hl : ∀ j, Lasts (ps j))
    (hop : ∀ i o, i < n → ops[i]? = some o → ∀ a w, Below w0.heap.size w0 w → Kept ops n a0 a → (∀ j, Region.waitsFor md ops i j = true → slotP ops ps j w a) → RelOp P ops o a w (ps i))
    (hL : ∀ a w, Below w0.heap.size w0 w → Kept ops n a0 a → (∀ j, j < n → slotP ops ps j w a) → wpAny P md ops Q' (ops.size - n) (headArr ops.size n) a w)
    (hsz : ∀ (i : Nat) (o : Oper) (d : Tmp), i < n → ops[i]? = some o → o.dst = some d → d < a0.tmps.size) :
    ∀ (f : Nat) (listed : Array Bool) (a : Act) (w : World), ((List.range n).filter fun i => !listed.getD i false).length = f → HeadInv md ops n listed → Below w0.heap.size w0 w → Kept ops n a0 a → (∀ j, j < n → listed.getD j false = true → slotP ops ps j w a) → wpAny P md ops Q' (f + (ops.size - n)) listed a w
  | 0, listed, a, w, hf, inv, hb, hk, hp => by
    have hall : ∀ j, j < n → listed.getD j false = true := fun j hj => by
      cases hx : listed.getD j false with
      | true => rfl
      | false =>
        have : j ∈ (List.range n).filter fun i => !listed.getD i false := List.mem_filter.2 ⟨List.mem_range.2 hj, by rw [hx]; rfl⟩
        rw [List.eq_nil_of_length_eq_zero hf] at this
        cases this
    have hls : listed = headArr ops.size n := by
      apply Array.ext
      · rw [inv.size]; simp [headArr]
      · intro i h1 h2
        have hi : i < ops.size := by rw [← inv.size]; exact h1
        have e1 : listed[i] = listed.getD i false := by simp [h1]
        have e2 : (headArr ops.size n)[i] = (headArr ops.size n).getD i false := by simp [h2]
        rw [e1, e2, headArr_get _ _ _ _ hi]
        by_cases hin : i < n
        · rw [hall i hin, decide_eq_true hin]
        · rw [decide_eq_false hin]
          exact getD_both (inv.tail i (by omega) hi)
    rw [Nat.zero_add, hls]
    exact hL a w hb hk fun j hj => hp j hj (hall j hj)
  | f + 1, listed, a, w, hf, inv, hb, hk, hp => by
    have hex : ∃ i, i < n ∧ listed.getD i false = false := by
      cases hx : (List.range n).filter fun i => !listed.getD i false with
      | nil => rw [hx] at hf; cases hf
      | cons i t =>
        have : i ∈ (List.range n).filter fun i => !listed.getD i false := by rw [hx]; exact List.mem_cons_self
        obtain ⟨h1, h2⟩ := List.mem_filter.1 this
        exact ⟨i, List.mem_range.1 h1, by simpa using h2⟩
    obtain ⟨m, hm, hmf, hmb⟩ := least_false (fun i => listed.getD i false) n hex
    have hin : ∀ k, k < n → listed.getD k false = false → listed.getD k true = false := fun k hk h => getD_in (by rw [inv.size]; omega) h
    rw [show f + 1 + (ops.size - n) = (f + (ops.size - n)) + 1 by omega]
    refine ⟨fun h0 => ?_, fun i hi => ?_⟩
    · exfalso
      have : m ∈ Region.ready md ops listed := by
        refine mem_ready.2 ⟨hin m hm hmf, ops[m], Array.getElem?_eq_getElem (by omega), fun e he hbd => ?_⟩
        have h1 := List.all_eq_true.1 hbk m (List.mem_range.2 hm)
        rw [Array.getElem?_eq_getElem (show m < ops.size by omega)] at h1
        have h2 := Array.all_eq_true_iff_forall_mem.1 h1 e he
        rw [hbd] at h2
        simp at h2
        exact hmb e.on h2
      rw [h0] at this
      cases this
    · have hin' : i < n := by
        rcases Nat.lt_or_ge i n with h | h
        · exact h
        · exact absurd hi (tail_waits hs hc hn inv _ m rfl hm (hin m hm hmf) i h)
      obtain ⟨hun, o, ho, hall⟩ := mem_ready.1 hi
      have hrel := hop i o hin' ho a w hb hk (fun j hj => by
        obtain ⟨oj, hoj, e, he, hbd, hon⟩ := Region.waitsFor_spec hj
        have : oj = o := Option.some.inj (hoj.symm.trans ho)
        subst this
        have h1 := hall e he hbd
        rw [hon] at h1
        have h2 := List.all_eq_true.1 hbk i (List.mem_range.2 hin')
        rw [ho] at h2
        have h3 := Array.all_eq_true_iff_forall_mem.1 h2 e he
        rw [hbd] at h3
        simp at h3
        exact hp j (by omega) h1)
      unfold wpOp
      simp only [ho]
      have hcnt : ((List.range n).filter fun k => !(listed.setIfInBounds i true).getD k false).length = f := by
        have hmem : i ∈ (List.range n).filter fun i => !listed.getD i false := List.mem_filter.2 ⟨List.mem_range.2 hin', by rw [getD_both hun]; rfl⟩
        have hnd : ((List.range n).filter fun i => !listed.getD i false).Nodup := List.Pairwise.filter _ List.nodup_range
        have he : ((List.range n).filter fun k => !(listed.setIfInBounds i true).getD k false) = ((List.range n).filter fun i => !listed.getD i false).erase i := by
          rw [hnd.erase_eq_filter, List.filter_filter]
          apply List.filter_congr
          intro k hk
          by_cases hki : i = k
          · subst hki
            have hlt : i < listed.size := by rw [inv.size]; omega
            simp [hlt]
          · rw [getD_set_ne false hki]
            simp [Ne.symm hki]
        rw [he, List.length_erase_of_mem hmem, hf]
        rfl
      have hfin : ∀ v w', Below w.heap.size w w' → ps i w' v → wpAny P md ops Q' (f + (ops.size - n)) (listed.setIfInBounds i true) (a.put o.dst v) w' := fun v w' hbw hpv => by
        refine wpAny_rel hn hs hc hd hbk hl hop hL hsz f _ _ w' hcnt (inv.set hi hin') (hb.trans (hbw.mono hb.size)) ⟨?_, by rw [put_size]; exact hk.size, fun d hfree => ?_⟩ fun j hj hlj oj d hoj hdj => ?_
        · rw [← hk.defers]; unfold Act.put; split <;> rfl
        · rw [put_at_ne (hfree i o hin' ho)]; exact hk.tmps d hfree
        · by_cases hji : j = i
          · subst hji
            have : oj = o := Option.some.inj (hoj.symm.trans ho)
            subst this
            have hds : d < a.tmps.size := by rw [hk.size]; exact hsz j oj d hin' hoj hdj
            have he : (a.put oj.dst v).eval (.tmp d) = v := by
              rw [hdj]
              simp [Act.put, Act.eval, hds]
            rw [he]
            exact hpv
          · have hl2 : listed.getD j false = true := by rw [getD_set_ne false (Ne.symm hji)] at hlj; exact hlj
            have he : (a.put o.dst v).eval (.tmp d) = a.eval (.tmp d) := by
              have := put_at_ne (a := a) (v := v) (dstsB_spec hd hj hin' hji hoj ho hdj)
              simp [Act.eval, this]
            rw [he]
            exact hl j _ _ _ (hp j hj hl2 oj d hoj hdj) hbw
      have := hrel (wpAny P md ops Q' (f + (ops.size - n)) (listed.setIfInBounds i true)) Q' hfin
      split
      · rename_i hwt
        rw [if_pos hwt] at this
        exact .inl this
      · rename_i hwt
        rw [if_neg hwt] at this
        exact this
end

def AllRel (P : Program) (ops : Array Oper) (n : Nat) (ps : Nat → World → Value → Prop) (a0 : Act) (w0 : World) : Nat → List Oper → Prop
  | _, [] => True
  | k, o :: l => (∀ a w, Below w0.heap.size w0 w → Kept ops n a0 a → (∀ j, Region.waitsFor .any ops k j = true → slotP ops ps j w a) → RelOp P ops o a w (ps k)) ∧ AllRel P ops n ps a0 w0 (k + 1) l
theorem AllRel.spec {P : Program} {ops : Array Oper} {n : Nat} {ps : Nat → World → Value → Prop} {a0 : Act} {w0 : World} : ∀ (l : List Oper) (k : Nat), AllRel P ops n ps a0 w0 k l → ∀ i o, l[i]? = some o →
    ∀ a w, Below w0.heap.size w0 w → Kept ops n a0 a → (∀ j, Region.waitsFor .any ops (k + i) j = true → slotP ops ps j w a) → RelOp P ops o a w (ps (k + i))
  | [], k, _, i, o, ho => by simp at ho
  | o' :: l, k, h, 0, o, ho => by simp at ho; subst ho; exact h.1
  | o' :: l, k, h, i + 1, o, ho => by
    have := AllRel.spec l (k + 1) h.2 i o (by simpa using ho)
    rw [show k + 1 + i = k + (i + 1) by omega] at this
    exact this
def sizeB (ops : Array Oper) (n m : Nat) : Bool := (List.range n).all fun i => match ops[i]? with
  | none => true
  | some o => match o.dst with
    | none => true
    | some d => decide (d < m)

theorem wp_region_rel {P : Program} {id : Nat} {Q : Exit → Act → World → Prop} {a : Act} {w : World} {l : List Oper} (n m : Nat) (ps : Nat → World → Value → Prop) (hm : P.follows .mixedOrders = true) (hB : relB .any l.toArray n = true) (hsz : sizeB l.toArray n m = true) (ha : a.tmps.size = m)
    (hl : ∀ j, Lasts (ps j)) (hop : AllRel P l.toArray n ps a w 0 (l.take n))
    (h : ∀ a' w', Below w.heap.size w w' → Kept l.toArray n a a' → (∀ j, j < n → slotP l.toArray ps j w' a') → wpList P l.toArray Q (l.drop n) a' w') : (Code.region id l.toArray true).wp P Q a w := by
  simp only [relB, Bool.and_eq_true, decide_eq_true_eq] at hB
  obtain ⟨⟨⟨⟨⟨hn, hs⟩, hc⟩, hd⟩, hbk⟩, hsq⟩ := hB
  have inv0 : HeadInv .any l.toArray n (Array.replicate l.toArray.size false) :=
    ⟨by simp, fun j oj _ hl => (by rw [getD_replicate_false] at hl; cases hl), fun t _ ht => getD_in (by simpa using ht) (getD_replicate_false _ _)⟩
  have hdl : (l.drop n).length = l.toArray.size - n := by simp
  refine wp_region_any hm ?_
  have := wpAny_rel (Q' := Q) (md := .any) (P := P) (ops := l.toArray) (n := n) (ps := ps) (a0 := a) (w0 := w) hn hs hc hd hbk hl (fun i o hi ho a' w' h1 h2 h3 => by
      have := AllRel.spec (l.take n) 0 hop i o (by rw [List.getElem?_take, if_pos hi]; simpa using ho) a' w' h1 h2
      simp only [Nat.zero_add] at this
      exact this h3)
    (fun a' w' h1 h2 h3 => by
      have := wpAny_of_seq (md := .any) (ops := l.toArray) (Q' := Q) (l.drop n) n (headArr l.toArray.size n) a' w' (fun j => by simp [List.getElem?_drop]) (by rw [hdl]; exact hsq) (h a' w' h1 h2 h3)
      rw [hdl] at this
      exact this)
    (fun i o d hi ho hdst => by
      have := List.all_eq_true.1 hsz i (List.mem_range.2 hi)
      simp only [ho, hdst, decide_eq_true_eq] at this
      rw [ha]; exact this)
    n (Array.replicate l.toArray.size false) a w.drew (by
      rw [List.filter_eq_self.2 (fun i _ => by rw [getD_replicate_false]; rfl)]
      simp) inv0 (Below.refl _ w).drew ⟨rfl, rfl, fun _ _ => rfl⟩ (fun j _ hj => by rw [getD_replicate_false] at hj; cases hj)
  rw [show n + (l.toArray.size - n) = l.toArray.size by omega] at this
  exact this

def putAll : Act → List Nat → (Nat → Value) → Act
  | a, [], _ => a
  | a, d :: ds, f => putAll (a.put (some d) (f d)) ds f
theorem putAll_get : ∀ (ds : List Nat) (a : Act) (f : Nat → Value) (k : Nat), (putAll a ds f).tmps[k]? = if k ∈ ds ∧ k < a.tmps.size then some (f k) else a.tmps[k]?
  | [], a, f, k => by simp [putAll]
  | d :: ds, a, f, k => by
    rw [putAll, putAll_get ds, put_size]
    by_cases hk : k ∈ ds ∧ k < a.tmps.size
    · rw [if_pos hk, if_pos ⟨List.mem_cons_of_mem _ hk.1, hk.2⟩]
    · rw [if_neg hk]
      by_cases hd : k = d
      · subst hd
        by_cases hs : k < a.tmps.size
        · rw [if_pos ⟨List.mem_cons_self, hs⟩]
          simp [Act.put, hs]
        · rw [if_neg (fun h => hs h.2), Array.getElem?_eq_none (by rw [put_size]; omega), Array.getElem?_eq_none (by omega)]
      · rw [if_neg (fun h => by
          rcases List.mem_cons.1 h.1 with h1 | h1
          · exact hd h1
          · exact hk ⟨h1, h.2⟩)]
        exact put_at_ne (fun e => hd (by injection e with e; exact e.symm))
theorem putAll_defers : ∀ (ds : List Nat) (a : Act) (f : Nat → Value), (putAll a ds f).defers = a.defers
  | [], a, f => rfl
  | d :: ds, a, f => by rw [putAll, putAll_defers ds]; rfl
/-- the destinations of the head -/
def dstsOf (ops : Array Oper) (n : Nat) : List Nat := (List.range n).filterMap fun i => (ops[i]?).bind (·.dst)
theorem Kept.puts {ops : Array Oper} {n : Nat} {a0 a : Act} (h : Kept ops n a0 a) (hs : sizeB ops n a0.tmps.size = true) : a = putAll a0 (dstsOf ops n) (fun d => a.tmps[d]?.getD undef) := by
  have h1 : a.tmps = (putAll a0 (dstsOf ops n) (fun d => a.tmps[d]?.getD undef)).tmps := by
    apply Array.ext_getElem?
    intro k
    rw [putAll_get]
    by_cases hk : k ∈ dstsOf ops n ∧ k < a0.tmps.size
    · rw [if_pos hk]
      have : k < a.tmps.size := by rw [h.size]; exact hk.2
      simp [this]
    · rw [if_neg hk]
      refine h.tmps k fun i o hi ho hd => hk ⟨List.mem_filterMap.2 ⟨i, List.mem_range.2 hi, by rw [ho]; exact hd⟩, ?_⟩
      have := List.all_eq_true.1 hs i (List.mem_range.2 hi)
      simp only [ho, hd, decide_eq_true_eq] at this
      exact this
  have h2 : a.defers = (putAll a0 (dstsOf ops n) (fun d => a.tmps[d]?.getD undef)).defers := by rw [putAll_defers, h.defers]
  calc a = ⟨a.tmps, a.defers⟩ := rfl
    _ = _ := by rw [h2]; conv => lhs; arg 1; rw [h1]
/-- the same law; behind the head the slots hold values of which that is known -/
theorem wp_region_rel' {P : Program} {id : Nat} {Q : Exit → Act → World → Prop} {a : Act} {w : World} {l : List Oper} (n m : Nat) (ps : Nat → World → Value → Prop) (ds : List Nat) (hm : P.follows .mixedOrders = true) (hB : relB .any l.toArray n = true) (hsz : sizeB l.toArray n m = true) (ha : a.tmps.size = m) (hds : dstsOf l.toArray n = ds)
    (hl : ∀ j, Lasts (ps j)) (hop : AllRel P l.toArray n ps a w 0 (l.take n))
    (h : ∀ (f : Nat → Value) w', Below w.heap.size w w' → (∀ j, j < n → ∀ o d, l.toArray[j]? = some o → o.dst = some d → ps j w' (f d)) → wpList P l.toArray Q (l.drop n) (putAll a ds f) w') : (Code.region id l.toArray true).wp P Q a w := by
  refine wp_region_rel n m ps hm hB hsz ha hl hop fun a' w' hb hk hp => ?_
  rw [hk.puts (by rw [ha]; exact hsz), hds]
  exact h _ w' hb fun j hj o d ho hd => (hp j hj).get d ho hd

end Go.Proofs.YtcpngeiahgoacaaGreat

/- Contracts of bin.TakeNum, TakeFix, TakeStr. -/
namespace Go.Proofs.YtcpngeiahgoacaaGreat
set_option linter.unusedVariables false
open Go.RowKit

/-- a number taken off, with the error's number -/
def tn (b : List UInt8) : Nat × List UInt8 × Nat := match takeN b with
  | .error e => (0, [], e)
  | .ok (n, r) => (n, r, 0)

theorem ofInt_nat (n : Nat) (h : n < 18446744073709551616) : (BitVec.ofInt 64 (n : Int)).toNat = n := by
  rw [BitVec.toNat_ofInt]
  simp
  omega
theorem or_byte (x y : Nat) (hx : x < 281474976710656) (hy : y < 256) : bits .or .i64 ((x : Int) * 256) (y : Int) = ((x * 256 + y : Nat) : Int) := by
  show IntKind.i64.wrap ((BitVec.ofInt 64 ((x : Int) * 256) ||| BitVec.ofInt 64 (y : Int)).toNat : Int) = _
  rw [show ((x : Int) * 256) = ((x * 256 : Nat) : Int) by omega, BitVec.toNat_or, ofInt_nat _ (by omega), ofInt_nat _ (by omega)]
  have h := Nat.two_pow_add_eq_or_of_lt (i := 8) (b := y) (by omega) x
  rw [show x * 256 = 2 ^ 8 * x by omega, ← h]
  rw [IntKind.wrap_i64]
  omega

set_option maxRecDepth 100000 in
set_option maxHeartbeats 2000000 in
theorem takeNum_any (A : Option Addr) (n c : Nat) (xs : List UInt8) (w : World) (B : Nat) (h : Reads w B 1 A n (xs.map vb)) (hB : B ≤ w.heap.size) (hc : n ≤ c) (hcm : n ≤ 140737488355328) :
    Calls Tryz.prog 113 #[.slice A n c] w fun e w' => ∃ v, e = .returned (.tuple #[.int .i64 ((tn xs).1 : Int), v, .int .i64 ((tn xs).2.2 : Int)]) ∧ OwnB w' w.heap.size v (tn xs).2.1 ∧ Below w.heap.size w w' := by
  have hxn : xs.length = n := by have := h.1; simpa using this
  cases xs with
  | nil =>
    simp at hxn
    subst hxn
    go_enter Tryz.func113, Tryz.ntmps113
    go_wp2_with fail
    go_ret3
    exact ⟨_, rfl, OwnB.nil _ _, Below.refl _ _⟩
  | cons m r =>
    obtain ⟨ad, hA, hadb, hcell⟩ := h.2 (by simp at hxn; omega)
    subst hA
    obtain ⟨k, hk⟩ : ∃ k, k = m.toNat := ⟨_, rfl⟩
    have hk8 : k < 256 := by rw [hk]; exact m.toNat_lt
    have hwk : wrap64 (k : Int) = (k : Int) := by unfold wrap64; omega
    have c0 : ∀ q, (w.drewN q).cell? ad = some (.int .u8 (k : Int)) := fun q => by
      have h0 : w.cell? ad = some (vb m) := by have := hcell 0 (vb m) rfl; simpa [Addr.add] using this
      rw [hk]
      exact h0
    have hrn : r.length = n - 1 := by simp at hxn; omega
    have hn1 : 1 ≤ n := by simp at hxn; omega
    have hsl := fun W => run_slice_from (P := Tryz.prog) (t := 22) (e := 5) rfl rfl (some ad) n c 1 1 rfl (by omega) W
    have hrest := h.cut (cap := c) hn1 hc
    rw [Nat.one_mul, List.map_cons, List.drop_one, List.tail_cons] at hrest
    obtain ⟨A1, hA1⟩ : ∃ A1, A1 = (if c = 1 then some ad else (some ad).map (·.add 1)) := ⟨_, rfl⟩
    rw [← hA1] at hsl hrest
    obtain ⟨n1, hn1e⟩ : ∃ n1, n1 = n - 1 := ⟨_, rfl⟩
    obtain ⟨c1, hc1e⟩ : ∃ c1, c1 = c - 1 := ⟨_, rfl⟩
    rw [← hn1e] at hsl hrest hrn
    rw [← hc1e] at hsl
    have hc1 : n1 ≤ c1 := by omega
    have hc1m : n1 ≤ 140737488355328 := by omega
    have HK := Lib.hid hk
    have HR := Lib.hid hrest
    have HRN := Lib.hid hrn
    have hn0 : ¬ (n : Int) = 0 := by omega
    clear hA1 hn1e hc1e hcell hxn h hk hrest hrn
    go_enter Tryz.func113, Tryz.ntmps113
    go_upto_region 3 with fail
    go_quiet (fail)
    have hb1 : Below w.heap.size w (w.drewN nq) := below_drewN (Below.refl _ _) nq
    have HR1 := Lib.hid (HR.out.drewN nq)
    have hs1 : (w.drewN nq).heap.size = w.heap.size := rfl
    generalize w.drewN nq = w1 at hb1 HR1 hs1 ⊢
    have HB1 := Lib.hid hb1
    clear hb1 c0 hsl
    by_cases h1 : 7 < k
    · have htn : tn (m :: r) = (0, [], 4) := by unfold tn takeN; simp only [← HK.out]; rw [if_pos h1]
      have HT := Lib.hid htn
      clear htn
      go_wp2_with fail
      go_ret3
      exact ⟨_, by rw [HT.out]; rfl, by rw [HT.out]; exact OwnB.nil _ _, HB1.out⟩
    · by_cases h2 : n1 < k
      · have htn : tn (m :: r) = (0, [], 3) := by unfold tn takeN; simp only [← HK.out]; rw [if_neg h1, if_pos (by have := HRN.out; omega)]
        have HT := Lib.hid htn
        clear htn
        go_wp2_with fail
        go_ret3
        exact ⟨_, by rw [HT.out]; rfl, by rw [HT.out]; exact OwnB.nil _ _, HB1.out⟩
      · by_cases h3 : 0 < k ∧ r.head? = some 0
        · have htn : tn (m :: r) = (0, [], 4) := by unfold tn takeN; simp only [← HK.out]; rw [if_neg h1, if_neg (by have := HRN.out; omega), if_pos h3]
          have HT := Lib.hid htn
          clear htn
          obtain ⟨h3a, h3b⟩ := h3
          obtain ⟨ad1, hA1, _, hcell1⟩ := HR1.out.2 (by omega)
          subst hA1
          have c1 : w1.cell? ad1 = some (.int .u8 0) := by
            have := hcell1 0 (vb 0) (by cases r with | nil => simp at h3b | cons a t => simp at h3b; subst h3b; rfl)
            simpa [Addr.add, vb, bi] using this
          clear hcell1
          go_wp2_with fail
          go_ret3
          exact ⟨_, by rw [HT.out]; rfl, by rw [HT.out]; exact OwnB.nil _ _, HB1.out⟩
        · have hnx : (0 < k) → ∃ ad1 z, A1 = some ad1 ∧ w1.cell? ad1 = some (.int .u8 z) ∧ z ≠ 0 := fun h0 => by
            obtain ⟨ad1, hA1, _, hcell1⟩ := HR1.out.2 (by omega)
            cases r with
            | nil => have := HRN.out; simp at this; omega
            | cons a t =>
              refine ⟨ad1, bi a, hA1, by have h9 : w1.cell? ad1 = some (vb a) := (by have := hcell1 0 (vb a) rfl; simpa [Addr.add] using this); exact h9, fun e => h3 ⟨h0, ?_⟩⟩
              simp
              exact bi_inj e
          go_upto_region 8 with fail
          go_cut [25] (fun s25 wx => s25 = .bool false ∧ wx = w1)
          case first =>
            by_cases h0 : 0 < k
            · obtain ⟨ad1, z, hA1, hc1', hz⟩ := hnx h0
              subst hA1
              have hzz : (z == 0) = false := by simp [hz]
              go_wp2_with fail
              go_meet
              exact ⟨rfl, rfl⟩
            · have h0' : k = 0 := by omega
              subst h0'
              go_wp2_with fail
              go_meet
              exact ⟨rfl, rfl⟩
          case rest =>
            obtain ⟨rfl, rfl⟩ := hcut
            have hsl2 := fun W => run_slice_to (P := Tryz.prog) (t := 22) (e := 5) rfl rfl A1 n1 c1 k (k : Int) rfl (by omega) W
            have hsl3 := fun W => run_slice_from (P := Tryz.prog) (t := 22) (e := 5) rfl rfl A1 n1 c1 k (k : Int) rfl (by omega) W
            have hr2 := HR1.out.to (cap := c1) (show k ≤ n1 by omega) hc1
            have hr3 := HR1.out.cut (cap := c1) (show k ≤ n1 by omega) hc1
            obtain ⟨A2, hA2⟩ : ∃ A2, A2 = (if c1 = 0 then A1 else A1.map (·.add 0)) := ⟨_, rfl⟩
            obtain ⟨A3, hA3⟩ : ∃ A3, A3 = (if c1 = k then A1 else A1.map (·.add k)) := ⟨_, rfl⟩
            rw [Nat.mul_one, ← hA3] at hr3
            rw [← hA2] at hsl2 hr2
            rw [← hA3] at hsl3
            rw [← List.map_take] at hr2
            rw [← List.map_drop] at hr3
            have HR2 := Lib.hid hr2
            have HR3 := Lib.hid hr3
            clear hA2 hA3 hr2 hr3
            go_wp2_with fail
            go_loopw [2, 38] (fun av iv wr => ∃ i : Nat, i ≤ k ∧ iv = .int .i64 i ∧ av = .int .i64 ((valB (r.take i) : Nat) : Int) ∧ wc = wr) (fun _ iv _ => k - (intOf iv).toNat)
            case atStart => exact ⟨0, by omega, rfl, rfl, rfl⟩
            case round =>
              obtain ⟨i, hi, rfl, rfl, rfl⟩ := hrel
              have hil : i < k → i < r.length := fun h => by have := HRN.out; omega
              by_cases hik : i < k
              · obtain ⟨ad2, u, hA2, _, hu, hc2⟩ := HR2.out.at_ hik
                subst hA2
                have hu' : u = vb (r[i]'(hil hik)) := by
                  rw [List.getElem?_map, List.getElem?_take, if_pos hik, List.getElem?_eq_getElem (hil hik)] at hu
                  injection hu with hu
                  exact hu.symm
                subst hu'
                have hv : valB (r.take (i + 1)) = valB (r.take i) * 256 + (r[i]'(hil hik)).toNat := by rw [List.take_succ_eq_append_getElem (hil hik), valB_snoc]
                have hvl := valB_lt i (r.take i) (by rw [List.length_take]; have := HRN.out; omega)
                have hvl6 : valB (r.take i) < 256 ^ 6 := Nat.lt_of_lt_of_le hvl (Nat.pow_le_pow_right (by omega) (by omega))
                have h256 := (r[i]'(hil hik)).toNat_lt
                have hc2' : wc.cell? (ad2.add i) = some (.int .u8 (((r[i]'(hil hik)).toNat : Nat) : Int)) := hc2
                generalize (r[i]'(hil hik)).toNat = y at hv h256 hc2'
                obtain ⟨x, hx⟩ : ∃ x, x = valB (r.take i) := ⟨_, rfl⟩
                rw [← hx] at hv hvl6 ⊢
                have HV := Lib.hid hv
                have HX := Lib.hid hx
                have hx6 : x < 281474976710656 := hvl6
                clear hvl hvl6 hv hx hc2 hu
                have hor := or_byte x y hx6 h256
                rw [← HV.out] at hor
                have hor' := hor
                go_wp2_with fail
                go_roundw
                case rel => exact ⟨i + 1, by omega, by go_num, hor' ▸ rfl, trivial⟩
                case measure => simp [intOf]; omega
              · obtain rfl : i = k := by omega
                clear hsl2
                have htk : tn (m :: r) = if maxN < valB (r.take i) then (0, [], 9) else (valB (r.take i), r.drop i, 0) := by
                  unfold tn takeN
                  simp only [← HK.out]
                  rw [if_neg h1, if_neg (by have := HRN.out; omega), if_neg h3]
                  by_cases hq : maxN < valB (r.take i)
                  · rw [if_pos hq, if_pos hq]
                  · rw [if_neg hq, if_neg hq]
                have hvl := valB_lt i (r.take i) (by rw [List.length_take]; have := HRN.out; omega)
                have hx6 : valB (r.take i) < 72057594037927936 := Nat.lt_of_lt_of_le hvl (Nat.pow_le_pow_right (show 256 > 0 by omega) (show i ≤ 7 by omega))
                clear hvl
                generalize valB (r.take i) = x at htk hx6
                by_cases hx9 : maxN < x
                · rw [if_pos hx9] at htk
                  have HT := Lib.hid htk
                  clear htk
                  unfold maxN at hx9
                  go_wp2_with fail
                  go_ret3
                  exact ⟨_, by rw [HT.out]; rfl, by rw [HT.out]; exact OwnB.nil _ _, HB1.out⟩
                · rw [if_neg hx9] at htk
                  have HT := Lib.hid htk
                  clear htk
                  unfold maxN at hx9
                  go_wp2_with fail
                  refine (clone_any A3 (n1 - i) (c1 - i) (r.drop i) wc B HR3.out (by omega) (by omega)).mono ?_
                  rintro _ w5 ⟨v, rfl, hov, hb5⟩
                  have HO5 := Lib.hid hov
                  have HB5 := Lib.hid (HB1.out.trans (hb5.mono (by omega)))
                  clear hov hb5
                  go_wp2_with fail
                  go_ret3
                  refine ⟨v, by rw [HT.out]; rfl, ?_, HB5.out⟩
                  rw [HT.out]
                  exact HO5.out.more (by omega)

end Go.Proofs.YtcpngeiahgoacaaGreat

/- Contracts of bin.TakeFix, TakeStr. -/
namespace Go.Proofs.YtcpngeiahgoacaaGreat
set_option linter.unusedVariables false
open Go.RowKit

theorem lasts_own (B : Nat) (xs : List UInt8) : Lasts fun w v => OwnB w B v xs := fun _ _ _ h hb => h.below hb

set_option maxRecDepth 100000 in
set_option maxHeartbeats 2000000 in
theorem takeFix_any (A : Option Addr) (n c k : Nat) (xs : List UInt8) (w : World) (B : Nat) (h : Reads w B 1 A n (xs.map vb)) (hB : B ≤ w.heap.size) (hc : n ≤ c) (hcm : n ≤ 140737488355328) (hk : k ≤ 140737488355328) :
    Calls Tryz.prog 114 #[.slice A n c, .int .i64 (k : Int)] w fun e w' => ∃ v v', e = .returned (.tuple #[v, v', .int .i64 (if n < k then 3 else 0)]) ∧ OwnB w' w.heap.size v (if n < k then [] else xs.take k) ∧ OwnB w' w.heap.size v' (if n < k then [] else xs.drop k) ∧ Below w.heap.size w w' := by
  have hxn : xs.length = n := by have := h.1; simpa using this
  have HXN := Lib.hid hxn
  have H := Lib.hid h
  clear hxn h
  by_cases hkn : n < k
  · rw [if_pos hkn, if_pos hkn, if_pos hkn]
    go_enter Tryz.func114, Tryz.ntmps114
    go_wp2_with fail
    go_ret3
    exact ⟨_, _, rfl, OwnB.nil _ _, OwnB.nil _ _, Below.refl _ _⟩
  · rw [if_neg hkn, if_neg hkn, if_neg hkn]
    have hsl2 := fun W => run_slice_to (P := Tryz.prog) (t := 22) (e := 5) rfl rfl A n c k (k : Int) rfl (by omega) W
    have hsl3 := fun W => run_slice_from (P := Tryz.prog) (t := 22) (e := 5) rfl rfl A n c k (k : Int) rfl (by omega) W
    have hr2 := H.out.to (cap := c) (show k ≤ n by omega) hc
    have hr3 := H.out.cut (cap := c) (show k ≤ n by omega) hc
    obtain ⟨A2, hA2⟩ : ∃ A2, A2 = (if c = 0 then A else A.map (·.add 0)) := ⟨_, rfl⟩
    obtain ⟨A3, hA3⟩ : ∃ A3, A3 = (if c = k then A else A.map (·.add k)) := ⟨_, rfl⟩
    rw [Nat.mul_one, ← hA3] at hr3
    rw [← hA2] at hsl2 hr2
    rw [← hA3] at hsl3
    rw [← List.map_take] at hr2
    rw [← List.map_drop] at hr3
    have HC2 := Lib.hid (fun W (hb : Below w.heap.size w W) => clone_any A2 k c (xs.take k) W B (hr2.below (hb.mono hB)) (by have := hb.size; omega) (by omega))
    have HC3 := Lib.hid (fun W (hb : Below w.heap.size w W) => clone_any A3 (n - k) (c - k) (xs.drop k) W B (hr3.below (hb.mono hB)) (by have := hb.size; omega) (by omega))
    clear hA2 hA3 hr2 hr3
    go_enter Tryz.func114, Tryz.ntmps114
    go_upto_region 5 with fail
    refine wp_region_rel' 8 23 (fun j W v => match j with
      | 0 | 4 => v = .slice A n c
      | 1 | 5 => v = .int .i64 (k : Int)
      | 2 => v = .slice A2 k c
      | 3 => OwnB W w.heap.size v (xs.take k)
      | 6 => v = .slice A3 (n - k) (c - k)
      | _ => OwnB W w.heap.size v (xs.drop k)) [15, 16, 17, 18, 19, 20, 21, 22] (by kernel_rfl) (by kernel_rfl) (by kernel_rfl) (by simp) (by kernel_rfl) (fun j => ?last) ?heads ?_
    case last =>
      match j with
      | 0 | 1 | 2 | 4 | 5 | 6 => exact Lasts.pure _
      | 3 => exact lasts_own _ _
      | j + 7 => exact lasts_own _ _
    case heads =>
      simp only [List.take_succ_cons, List.take_zero]
      refine ⟨fun a W hb hkp hd => ?_, fun a W hb hkp hd => ?_, fun a W hb hkp hd => ?_, fun a W hb hkp hd => ?_, fun a W hb hkp hd => ?_, fun a W hb hkp hd => ?_, fun a W hb hkp hd => ?_, fun a W hb hkp hd => ?_, trivial⟩
      · have e0 : a.tmps[0]?.getD undef = .slice A n c := hkp.get (by kernel_rfl) rfl
        exact rel_value rfl (.slice A n c) (by go_simp) rfl
      · have e0 : a.tmps[1]?.getD undef = .int .i64 (k : Int) := hkp.get (by kernel_rfl) rfl
        exact rel_value rfl (.int .i64 (k : Int)) (by go_simp) rfl
      · have e0 : a.tmps[15]?.getD undef = .slice A n c := (hd 0 (by kernel_rfl)).get 15 rfl rfl
        have e1 : a.tmps[16]?.getD undef = .int .i64 (k : Int) := (hd 1 (by kernel_rfl)).get 16 rfl rfl
        exact rel_value rfl (.slice A2 k c) (by go_simp) rfl
      · have e0 : a.tmps[17]?.getD undef = .slice A2 k c := (hd 2 (by kernel_rfl)).get 17 rfl rfl
        refine rel_call rfl 63 #[.slice A2 k c] (by go_simp) ((HC2.out W hb).mono ?_)
        rintro e w' ⟨v, rfl, ho, hb'⟩
        exact ⟨v, rfl, hb', ho.more hb.size⟩
      · have e0 : a.tmps[0]?.getD undef = .slice A n c := hkp.get (by kernel_rfl) rfl
        exact rel_value rfl (.slice A n c) (by go_simp) rfl
      · have e0 : a.tmps[1]?.getD undef = .int .i64 (k : Int) := hkp.get (by kernel_rfl) rfl
        exact rel_value rfl (.int .i64 (k : Int)) (by go_simp) rfl
      · have e0 : a.tmps[19]?.getD undef = .slice A n c := (hd 4 (by kernel_rfl)).get 19 rfl rfl
        have e1 : a.tmps[20]?.getD undef = .int .i64 (k : Int) := (hd 5 (by kernel_rfl)).get 20 rfl rfl
        exact rel_value rfl (.slice A3 (n - k) (c - k)) (by go_simp) rfl
      · have e0 : a.tmps[21]?.getD undef = .slice A3 (n - k) (c - k) := (hd 6 (by kernel_rfl)).get 21 rfl rfl
        refine rel_call rfl 63 #[.slice A3 (n - k) (c - k)] (by go_simp) ((HC3.out W hb).mono ?_)
        rintro e w' ⟨v, rfl, ho, hb'⟩
        exact ⟨v, rfl, hb', ho.more hb.size⟩
    intro f W hb hd
    have h3 : OwnB W w.heap.size (f 18) (xs.take k) := hd 3 (by omega) _ 18 rfl rfl
    have h7 : OwnB W w.heap.size (f 22) (xs.drop k) := hd 7 (by omega) _ 22 rfl rfl
    have H3 := Lib.hid h3
    have H7 := Lib.hid h7
    have HB := Lib.hid hb
    clear h3 h7 hd hb
    simp only [putAll, List.drop_succ_cons, List.drop_zero]
    try simp only [Act.put, List.setIfInBounds_toArray, List.set_cons_zero, List.set_cons_succ]
    go_wp2_with fail
    go_ret3
    exact ⟨_, _, rfl, H3.out, H7.out, HB.out⟩

/-- a text taken off, with the error's number -/
def ts (b : List UInt8) (most : Nat) : List UInt8 × List UInt8 × Nat := match takeS b most with
  | .error e => ([], [], e)
  | .ok (s, r) => (s, r, 0)
theorem ts_eq (b : List UInt8) (most : Nat) : ts b most = if (tn b).2.2 ≠ 0 then ([], [], (tn b).2.2) else if min most 65536 < (tn b).1 then ([], [], 5) else if (tn b).2.1.length < (tn b).1 then ([], [], 3) else ((tn b).2.1.take (tn b).1, (tn b).2.1.drop (tn b).1, 0) := by
  unfold ts takeS tn
  cases hb : takeN b with
  | error e =>
    have he : e ≠ 0 := by
      unfold takeN at hb
      match b, hb with
      | [], hb => injection hb with hb; omega
      | m :: r, hb =>
        simp only at hb
        split at hb
        · injection hb with hb; omega
        · split at hb
          · injection hb with hb; omega
          · split at hb
            · injection hb with hb; omega
            · split at hb
              · injection hb with hb; omega
              · cases hb
    simp [he]
  | ok p =>
    obtain ⟨n, r⟩ := p
    simp only [ne_eq, not_true_eq_false, if_false]
    unfold takeF
    by_cases h1 : min most 65536 < n
    · rw [if_pos h1, if_pos h1]
    · rw [if_neg h1, if_neg h1]
      by_cases h2 : r.length < n
      · rw [if_pos h2, if_pos h2]
      · rw [if_neg h2, if_neg h2]
theorem tn_len (b : List UInt8) : (tn b).2.1.length ≤ b.length := by
  unfold tn
  cases hb : takeN b with
  | error e => simp
  | ok p =>
    have := (takeN_back hb).1
    have h := congrArg List.length this
    rw [List.length_append] at h
    show p.2.length ≤ _
    omega
theorem tn_num (b : List UInt8) : (tn b).1 ≤ maxN := by
  unfold tn
  cases hb : takeN b with
  | error e => simp
  | ok p => exact (takeN_back (r := p.2) (n := p.1) hb).2
theorem tn_err (b : List UInt8) : (tn b).2.2 < 10 := by
  unfold tn takeN
  match b with
  | [] => simp
  | m :: r =>
    simp only
    by_cases h1 : 7 < m.toNat
    · rw [if_pos h1]; simp
    · rw [if_neg h1]
      by_cases h2 : r.length < m.toNat
      · rw [if_pos h2]; simp
      · rw [if_neg h2]
        by_cases h3 : 0 < m.toNat ∧ r.head? = some 0
        · rw [if_pos h3]; simp
        · rw [if_neg h3]
          by_cases h4 : maxN < valB (r.take m.toNat)
          · rw [if_pos h4]; simp
          · rw [if_neg h4]; simp

set_option maxRecDepth 100000 in
set_option maxHeartbeats 2000000 in
theorem takeStr_any (A : Option Addr) (n c most : Nat) (xs : List UInt8) (w : World) (B : Nat) (h : Reads w B 1 A n (xs.map vb)) (hB : B ≤ w.heap.size) (hc : n ≤ c) (hcm : n ≤ 140737488355328) (hm : most ≤ 65536) :
    Calls Tryz.prog 61 #[.slice A n c, .int .i64 (most : Int)] w fun e w' => ∃ v v', e = .returned (.tuple #[v, v', .int .i64 ((ts xs most).2.2 : Int)]) ∧ OwnB w' w.heap.size v (ts xs most).1 ∧ OwnB w' w.heap.size v' (ts xs most).2.1 ∧ Below w.heap.size w w' := by
  have hxn : xs.length = n := by have := h.1; simpa using this
  have HTN := Lib.hid (takeNum_any A n c xs w B h hB hc hcm)
  have hts := ts_eq xs most
  have htl := tn_len xs
  have htm := tn_num xs
  have hte := tn_err xs
  obtain ⟨p, hp⟩ : ∃ p, p = tn xs := ⟨_, rfl⟩
  rw [← hp] at HTN hts htl htm hte
  obtain ⟨k, r, e⟩ := p
  simp only at HTN hts htl htm hte
  have HTS := Lib.hid hts
  have HTL := Lib.hid htl
  unfold maxN at htm
  rw [hxn] at htl
  have HXN := Lib.hid hxn
  clear h hts hp hxn
  go_enter Tryz.func61, Tryz.ntmps61
  go_wp2_with fail
  refine HTN.out.mono ?_
  rintro _ w2 ⟨v, rfl, hov, hb2⟩
  have HO2 := Lib.hid hov
  have HB2 := Lib.hid hb2
  have hs2 := hb2.size
  clear hov hb2
  by_cases he : e = 0
  · subst he
    obtain ⟨Av, cv, rfl, hvc, hvm, hvr, hvB⟩ := own_slice_b HO2.out
    by_cases h5 : min most 65536 < k
    · have hq : ts xs most = ([], [], 5) := by rw [HTS.out, if_neg (by omega), if_pos h5]
      have HQ := Lib.hid hq
      clear hq hvr
      have hmk : most < k := by omega
      have hmin : min (most : Int) 65536 = (most : Int) := by omega
      go_wp2_with fail
      go_ret3
      exact ⟨_, _, by rw [HQ.out]; rfl, by rw [HQ.out]; exact OwnB.nil _ _, by rw [HQ.out]; exact OwnB.nil _ _, HB2.out⟩
    · have hmk : ¬ most < k := by omega
      have hmin : min (most : Int) 65536 = (most : Int) := by omega
      have hq : ts xs most = if r.length < k then ([], [], 3) else (r.take k, r.drop k, 0) := by rw [HTS.out, if_neg (by omega), if_neg h5]
      have HQ := Lib.hid hq
      have HVR := Lib.hid hvr
      clear hq hvr
      obtain ⟨rl, hrl⟩ : ∃ rl, rl = r.length := ⟨_, rfl⟩
      rw [← hrl] at HVR hvc htl HQ ⊢
      have HRL := Lib.hid hrl
      clear hrl
      go_wp2_with fail
      refine (takeFix_any Av rl cv k r w2 _ HVR.out (Nat.le_refl _) hvc (by omega) (by omega)).mono ?_
      rintro _ w3 ⟨v, v', rfl, ho, ho', hb3⟩
      have HO3 := Lib.hid (ho.more (B' := w.heap.size) hs2)
      have HO4 := Lib.hid (ho'.more (B' := w.heap.size) hs2)
      have HB3 := Lib.hid (HB2.out.trans (hb3.mono hs2))
      clear ho ho' hb3
      by_cases h6 : rl < k
      · rw [if_pos h6] at HQ
        rw [if_pos h6] at HO3 HO4 ⊢
        go_wp2_with fail
        go_ret3
        exact ⟨_, _, by rw [HQ.out]; rfl, by rw [HQ.out]; exact HO3.out, by rw [HQ.out]; exact HO4.out, HB3.out⟩
      · rw [if_neg h6] at HQ
        rw [if_neg h6] at HO3 HO4 ⊢
        go_wp2_with fail
        go_ret3
        exact ⟨_, _, by rw [HQ.out]; rfl, by rw [HQ.out]; exact HO3.out, by rw [HQ.out]; exact HO4.out, HB3.out⟩
  · have hq : ts xs most = ([], [], e) := by rw [HTS.out, if_pos he]
    have HQ := Lib.hid hq
    clear hq
    have he' : ¬ (e : Int) = 0 := by omega
    go_wp2_with fail
    go_ret3
    exact ⟨_, _, by rw [HQ.out]; rfl, by rw [HQ.out]; exact OwnB.nil _ _, by rw [HQ.out]; exact OwnB.nil _ _, HB2.out⟩

end Go.Proofs.YtcpngeiahgoacaaGreat

/- A wish as a plain value; which wishes may be; contracts of within, crew, may, Check. -/
namespace Go.Proofs.YtcpngeiahgoacaaGreat
set_option linter.unusedVariables false
open Go.RowKit
attribute [local irreducible] wpList

structure Wish where
  client : Int
  stamp : Int
  group : Int
  epoch : Int
  kind : Int
  block : Int
  data : List UInt8
  old : Int
  new : Int
  next : List Int
def wCells (x : Wish) (A : Option Addr) (n c : Nat) (A' : Option Addr) (n' c' : Nat) : Array Value :=
  #[.int .i64 x.client, .int .i64 x.stamp, .int .i64 x.group, .int .i64 x.epoch, .int .i64 x.kind, .int .i64 x.block, .slice A n c, .int .i64 x.old, .int .i64 x.new, .slice A' n' c']
def I64 (z : Int) : Prop := -9223372036854775808 ≤ z ∧ z ≤ 9223372036854775807
structure WishIn (w : World) (B : Nat) (x : Wish) (A : Option Addr) (n c : Nat) (A' : Option Addr) (n' c' : Nat) : Prop where
  data : Reads w B 1 A n (x.data.map vb)
  dc : n ≤ c
  dm : n ≤ 140737488355328
  next : Reads w B 1 A' n' (x.next.map vn)
  nc : n' ≤ c'
  nm : n' ≤ 17592186044416
  rng : I64 x.client ∧ I64 x.stamp ∧ I64 x.group ∧ I64 x.epoch ∧ I64 x.kind ∧ I64 x.block ∧ I64 x.old ∧ I64 x.new ∧ ∀ z, z ∈ x.next → I64 z
theorem WishIn.below {w w' : World} {B : Nat} {x : Wish} {A : Option Addr} {n c : Nat} {A' : Option Addr} {n' c' : Nat} (h : WishIn w B x A n c A' n' c') (hb : Below B w w') : WishIn w' B x A n c A' n' c' :=
  ⟨h.data.below hb, h.dc, h.dm, h.next.below hb, h.nc, h.nm, h.rng⟩
theorem WishIn.more {w : World} {B B' : Nat} {x : Wish} {A : Option Addr} {n c : Nat} {A' : Option Addr} {n' c' : Nat} (h : WishIn w B x A n c A' n' c') (hB : B ≤ B') : WishIn w B' x A n c A' n' c' :=
  ⟨h.data.more hB, h.dc, h.dm, h.next.more hB, h.nc, h.nm, h.rng⟩
theorem WishIn.dlen {w : World} {B : Nat} {x : Wish} {A : Option Addr} {n c : Nat} {A' : Option Addr} {n' c' : Nat} (h : WishIn w B x A n c A' n' c') : x.data.length = n := by have := h.data.1; simpa using this
theorem WishIn.nlen {w : World} {B : Nat} {x : Wish} {A : Option Addr} {n c : Nat} {A' : Option Addr} {n' c' : Nat} (h : WishIn w B x A n c A' n' c') : x.next.length = n' := by have := h.next.1; simpa using this

/-- rising, above the last -/
def risingB : Int → List Int → Bool
  | _, [] => true
  | last, n :: t => decide (last < n ∧ n ≤ 28) && risingB n t
def crewB (l : List Int) : Bool := decide (l.length % 3 = 1 ∧ l.length ≤ 7) && risingB 0 l
def MayP (x : Wish) : Prop := 0 ≤ x.epoch ∧ x.epoch ≤ 1048576 ∧ (
  (x.kind = 5 ∧ x.client = 0 ∧ x.stamp = 0 ∧ x.block = 0 ∧ x.data.length = 0 ∧ x.old = 0 ∧ x.new = 0 ∧ 1 ≤ x.group ∧ x.group ≤ 2 ∧ crewB x.next = true) ∨
  (x.kind ≠ 5 ∧ 31 ≤ x.client ∧ x.client ≤ 34 ∧ 1 ≤ x.stamp ∧ x.stamp ≤ 9007199254740991 ∧ x.next.length = 0 ∧ (
    ((x.kind = 1 ∧ x.data.length = 0 ∨ x.kind = 2 ∧ x.data.length = 16) ∧ 1 ≤ x.group ∧ x.group ≤ 2 ∧ 0 ≤ x.block ∧ x.block ≤ 7 ∧ x.old = 0 ∧ x.new = 0) ∨
    ((x.kind = 3 ∧ x.old = 0 ∧ x.new = 0 ∨ x.kind = 4 ∧ 1 ≤ x.old ∧ x.old ≤ 28 ∧ 1 ≤ x.new ∧ x.new ≤ 28 ∧ x.old ≠ x.new) ∧ x.group = 0 ∧ x.epoch = 0 ∧ 1 ≤ x.block ∧ x.block ≤ 2 ∧ x.data.length = 0))))
instance (x : Wish) : Decidable (MayP x) := by unfold MayP; infer_instance
def mayB (x : Wish) : Bool := decide (MayP x)

theorem within_any (n l m : Int) (w : World) : Calls Tryz.prog 155 #[.int .i64 n, .int .i64 l, .int .i64 m] w fun e w' => e = .returned (.bool (decide (l ≤ n ∧ n ≤ m))) ∧ w = w' := by
  by_cases h : l ≤ n
  · go_enter Tryz.func155, Tryz.ntmps155
    go_wp2
    go_ret
    exact ⟨ret_bool (by simp [h]), rfl⟩
  · have h' : ¬ (l ≤ n ∧ n ≤ m) := fun hh => h hh.1
    rw [decide_eq_false h']
    clear h'
    go_enter Tryz.func155, Tryz.ntmps155
    go_wp2
    go_ret
    exact ⟨rfl, rfl⟩

set_option maxHeartbeats 1000000 in
theorem crew_any (A : Option Addr) (n c : Nat) (zs : List Int) (w : World) (B : Nat) (h : Reads w B 1 A n (zs.map vn)) (hn : n ≤ 17592186044416) :
    Calls Tryz.prog 156 #[.slice A n c] w fun e w' => e = .returned (.bool (crewB zs)) ∧ w = w' := by
  have hzn : zs.length = n := by have := h.1; simpa using this
  have H := Lib.hid h
  have HZN := Lib.hid hzn
  clear h hzn
  by_cases h1 : n % 3 = 1
  · by_cases h2 : n ≤ 7
    · have HR := Lib.hid (show crewB zs = risingB 0 zs by unfold crewB; rw [decide_eq_true (by rw [HZN.out]; exact ⟨h1, h2⟩), Bool.true_and])
      go_enter Tryz.func156, Tryz.ntmps156
      go_wp2_with fail
      go_loopw [3, 17] (fun lv iv wr => ∃ (i : Nat) (last : Int), i ≤ n ∧ lv = .int .i64 last ∧ iv = .int .i64 i ∧ w = wr ∧ crewB zs = risingB last (zs.drop i)) (fun _ iv _ => n - (intOf iv).toNat)
      case atStart => exact ⟨0, 0, by omega, rfl, rfl, rfl, HR.out⟩
      case round =>
        obtain ⟨i, last, hi, rfl, rfl, rfl, hr⟩ := hrel
        by_cases hin : i < n
        · obtain ⟨ad, u, hA, hadb, hxi, hcell⟩ := H.out.at_ hin
          subst hA
          have hil : i < zs.length := by have := HZN.out; omega
          have hu : u = .int .i64 zs[i] := by
            rw [List.getElem?_map, List.getElem?_eq_getElem hil] at hxi
            injection hxi with hxi
            exact hxi.symm
          subst hu
          rw [List.drop_eq_getElem_cons hil] at hr
          generalize zs[i] = z at hr hcell
          simp only [risingB] at hr
          clear hxi
          by_cases hz : last < z ∧ z ≤ 28
          · rw [decide_eq_true hz, Bool.true_and] at hr
            have HRR := Lib.hid hr
            clear hr
            obtain ⟨hz1, hz2⟩ := hz
            have hz3 : ¬ z ≤ last := by omega
            go_wp2_with fail
            go_roundw
            case rel => exact ⟨i + 1, z, by omega, rfl, by go_num, trivial, HRR.out⟩
            case measure => simp [intOf]; omega
          · rw [decide_eq_false hz, Bool.false_and] at hr
            have HRR := Lib.hid hr
            clear hr
            by_cases hz1 : z ≤ last
            · go_wp2_with fail
              go_ret
              exact ⟨by rw [HRR.out]; rfl, rfl⟩
            · have hz2 : 28 < z := by omega
              go_wp2_with fail
              go_ret
              exact ⟨by rw [HRR.out]; rfl, rfl⟩
        · obtain rfl : i = n := by omega
          rw [List.drop_of_length_le (by have := HZN.out; omega)] at hr
          have HRR := Lib.hid hr
          clear hr
          go_wp2_with fail
          go_ret
          exact ⟨by rw [HRR.out]; rfl, rfl⟩
    · have HR := Lib.hid (show crewB zs = false by unfold crewB; rw [decide_eq_false (by rw [HZN.out]; exact fun h => h2 h.2), Bool.false_and])
      go_enter Tryz.func156, Tryz.ntmps156
      go_wp2_with fail
      go_ret
      exact ⟨by rw [HR.out]; rfl, rfl⟩
  · have HR := Lib.hid (show crewB zs = false by unfold crewB; rw [decide_eq_false (by rw [HZN.out]; exact fun h => h1 h.1), Bool.false_and])
    go_enter Tryz.func156, Tryz.ntmps156
    go_wp2_with fail
    go_ret
    exact ⟨by rw [HR.out]; rfl, rfl⟩

set_option maxRecDepth 100000 in
set_option maxHeartbeats 4000000 in
theorem may_any (x : Wish) (A : Option Addr) (n c : Nat) (A' : Option Addr) (n' c' : Nat) (w : World) (B : Nat) (h : WishIn w B x A n c A' n' c') (hB : B ≤ w.heap.size) :
    Calls Tryz.prog 125 #[.agg (wCells x A n c A' n' c')] w fun e w' => e = .returned (.bool (mayB x)) ∧ Below w.heap.size w w' := by
  have hdl := h.dlen
  have hnl := h.nlen
  have HCR := Lib.hid (fun W (hb : Below w.heap.size w W) => crew_any A' n' c' x.next W B (h.next.below (hb.mono hB)) h.nm)
  obtain ⟨client, stamp, group, epoch, kind, block, data, old, new, next⟩ := x
  simp only at hdl hnl HCR
  obtain ⟨cr, hcr⟩ : ∃ cr, cr = crewB next := ⟨_, rfl⟩
  have HMB := Lib.hid (show mayB ⟨client, stamp, group, epoch, kind, block, data, old, new, next⟩ = decide (0 ≤ epoch ∧ epoch ≤ 1048576 ∧ (
  (kind = 5 ∧ client = 0 ∧ stamp = 0 ∧ block = 0 ∧ n = 0 ∧ old = 0 ∧ new = 0 ∧ 1 ≤ group ∧ group ≤ 2 ∧ cr = true) ∨
  (kind ≠ 5 ∧ 31 ≤ client ∧ client ≤ 34 ∧ 1 ≤ stamp ∧ stamp ≤ 9007199254740991 ∧ n' = 0 ∧ (
    ((kind = 1 ∧ n = 0 ∨ kind = 2 ∧ n = 16) ∧ 1 ≤ group ∧ group ≤ 2 ∧ 0 ≤ block ∧ block ≤ 7 ∧ old = 0 ∧ new = 0) ∨
    ((kind = 3 ∧ old = 0 ∧ new = 0 ∨ kind = 4 ∧ 1 ≤ old ∧ old ≤ 28 ∧ 1 ≤ new ∧ new ≤ 28 ∧ old ≠ new) ∧ group = 0 ∧ epoch = 0 ∧ 1 ≤ block ∧ block ≤ 2 ∧ n = 0))))) by
    unfold mayB MayP; simp only [hdl, hnl, ← hcr])
  rw [← hcr] at HCR
  clear hdl hnl hcr h
  unfold wCells
  simp only
  go_enter Tryz.func125, Tryz.ntmps125
  go_wp2_with fail
  have hk := Blk.new w 44 #[.int .i64 client, .int .i64 stamp, .int .i64 group, .int .i64 epoch, .int .i64 kind, .int .i64 block, .slice A n c, .int .i64 old, .int .i64 new, .slice A' n' c']
  have hb : Below w.heap.size w (w.alloc (.cells #[.int .i64 client, .int .i64 stamp, .int .i64 group, .int .i64 epoch, .int .i64 kind, .int .i64 block, .slice A n c, .int .i64 old, .int .i64 new, .slice A' n' c'] 44)) := (Below.refl _ _).alloc (Nat.le_refl _) _
  generalize w.alloc _ = w1 at hk hb ⊢
  have c0 := hk.cell 0
  have c1 := hk.cell 1
  have c2 := hk.cell 2
  have c3 := hk.cell 3
  have c4 := hk.cell 4
  have c5 := hk.cell 5
  have c6 := hk.cell 6
  have c7 := hk.cell 7
  have c8 := hk.cell 8
  have c9 := hk.cell 9
  simp only [List.getElem?_toArray, List.getElem?_cons_zero, List.getElem?_cons_succ] at c0 c1 c2 c3 c4 c5 c6 c7 c8 c9
  have HB := Lib.hid hb
  have hcr := HCR.out w1 hb
  have HCW := Lib.hid hcr
  clear hk hb hcr
  obtain ⟨g, hg⟩ : ∃ g, g = w.heap.size := ⟨_, rfl⟩
  rw [← hg] at c0 c1 c2 c3 c4 c5 c6 c7 c8 c9 ⊢
  clear hg
  go_wp2_with (first
    | (go_at_call 155; refine (within_any _ _ _ _).mono ?_; rintro _ _ ⟨rfl, rfl⟩)
    | (go_at_call 156; refine HCW.out.mono ?_; rintro _ _ ⟨rfl, rfl⟩))
  all_goals go_ret
  all_goals refine ⟨?_, HB.out⟩
  all_goals rw [HMB.out]
  all_goals refine ret_bool ?_
  all_goals rw [Bool.eq_iff_iff]
  all_goals clear HCR HCW HMB HB c0 c1 c2 c3 c4 c5 c6 c7 c8 c9
  all_goals cases cr
  all_goals simp at *
  all_goals (try omega)

end Go.Proofs.YtcpngeiahgoacaaGreat

/- Contracts of wish.Check, wish.Bytes. -/
namespace Go.Proofs.YtcpngeiahgoacaaGreat
set_option linter.unusedVariables false
open Go.RowKit

def numsI (l : List Int) : List UInt8 := l.flatMap fun z => numB z.toNat
def NumI (z : Int) : Prop := 0 ≤ z ∧ z ≤ 9007199254740991

theorem rising_num : ∀ (l : List Int) (a : Int), 0 ≤ a → risingB a l = true → ∀ z, z ∈ l → 1 ≤ z ∧ z ≤ 28
  | [], _, _, _, z, hz => by cases hz
  | n :: t, a, ha, h, z, hz => by
    simp only [risingB, Bool.and_eq_true, decide_eq_true_eq] at h
    rcases List.mem_cons.1 hz with rfl | hz
    · exact ⟨by omega, h.1.2⟩
    · exact rising_num t n (by omega) h.2 z hz
theorem numsI_len {l : List Int} (h : ∀ z, z ∈ l → NumI z) : (numsI l).length ≤ 8 * l.length := by
  unfold numsI
  induction l with
  | nil => simp
  | cons a t ih =>
    have h1 := h a (by simp)
    unfold NumI at h1
    have h2 := (numB_len (n := a.toNat) (by unfold maxN; omega)).2
    have h3 := ih (fun z hz => h z (by simp [hz]))
    rw [List.flatMap_cons, List.length_append, List.length_cons]
    omega
theorem reads_cells (w : World) (vs : Array Value) (t : TypeId) : Reads (w.alloc (.cells vs t)) (w.heap.size + 1) 1 (some ⟨w.heap.size, 0, none⟩) vs.size vs.toList := by
  refine ⟨by simp, fun _ => ⟨_, rfl, Nat.lt_succ_self _, fun j u hu => ?_⟩⟩
  have hk : Blk (w.alloc (.cells vs t)) w.heap.size t vs := Blk.newAt rfl
  have := hk.cell j
  rw [Array.getElem?_toList] at hu
  rw [hu] at this
  unfold Addr.add
  split
  · rename_i h0; subst h0; exact this
  · simpa using this
/-- slices laid out in a new block -/
theorem rowsB_lit (w : World) (t : TypeId) (l : List (Option Addr × Nat × Nat × List UInt8)) (h : ∀ p, p ∈ l → Reads w w.heap.size 1 p.1 p.2.1 (p.2.2.2.map vb)) :
    RowsB (w.alloc (.cells (l.map fun p => Value.slice p.1 p.2.1 p.2.2.1).toArray t)) (w.heap.size + 1) (some ⟨w.heap.size, 0, none⟩) l.length (l.map (·.2.2.2)) := by
  have hb : Below w.heap.size w (w.alloc (.cells (l.map fun p => Value.slice p.1 p.2.1 p.2.2.1).toArray t)) := (Below.refl _ _).alloc (Nat.le_refl _) _
  have hr := reads_cells w (l.map fun p => Value.slice p.1 p.2.1 p.2.2.1).toArray t
  refine ⟨by simp, fun h0 => ⟨_, rfl, Nat.lt_succ_self _, fun k x hx => ?_⟩⟩
  obtain ⟨ad, hA, _, hc⟩ := hr.2 (by simpa using h0)
  injection hA with hA
  subst hA
  rw [List.getElem?_map] at hx
  cases hp : l[k]? with
  | none => rw [hp] at hx; cases hx
  | some p =>
    rw [hp] at hx
    injection hx with hx
    refine ⟨p.1, p.2.1, p.2.2.1, hc k _ (by simp [hp]), ?_⟩
    rw [← hx]
    exact ((h p (List.mem_of_getElem? hp)).below hb).more (by omega)

set_option maxRecDepth 100000 in
set_option maxHeartbeats 1000000 in
theorem check_any (x : Wish) (A : Option Addr) (n c : Nat) (A' : Option Addr) (n' c' : Nat) (w : World) (B : Nat) (h : WishIn w B x A n c A' n' c') (hB : B ≤ w.heap.size) :
    Calls Tryz.prog 77 #[.agg (wCells x A n c A' n' c')] w fun e w' => e = .returned (.int .i64 (if mayB x = true then 0 else 2)) ∧ Below w.heap.size w w' := by
  have HM := Lib.hid (fun W (hb : Below w.heap.size w W) => may_any x A n c A' n' c' W B (h.below (hb.mono hB)) (by have := hb.size; omega))
  clear h
  obtain ⟨mb, hmb⟩ : ∃ b, b = mayB x := ⟨_, rfl⟩
  rw [← hmb] at HM ⊢
  clear hmb
  unfold wCells at HM ⊢
  go_enter Tryz.func77, Tryz.ntmps77
  go_wp2_with fail
  have hb : Below w.heap.size w (w.alloc (.cells #[.int .i64 x.client, .int .i64 x.stamp, .int .i64 x.group, .int .i64 x.epoch, .int .i64 x.kind, .int .i64 x.block, .slice A n c, .int .i64 x.old, .int .i64 x.new, .slice A' n' c'] 44)) := (Below.refl _ _).alloc (Nat.le_refl _) _
  refine (HM.out _ hb).mono ?_
  rintro _ w2 ⟨rfl, hb2⟩
  have HB2 := Lib.hid (hb.trans (hb2.mono (by simp)))
  clear hb hb2
  cases mb with
  | true =>
    go_wp2_with fail
    go_ret
    exact ⟨rfl, HB2.out⟩
  | false =>
    go_wp2_with fail
    go_ret
    exact ⟨rfl, HB2.out⟩

end Go.Proofs.YtcpngeiahgoacaaGreat
