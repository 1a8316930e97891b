/- Parts of the proof, in one text: LoudB, RvK, Bump. -/
import Derived.Test.YtcpngeiahgoacaaGreatZ10
import Derived.Test.YtcpngeiahgoacaaGreatZ24
import Derived.Test.YtcpngeiahgoacaaGreatZ23
import Derived.Test.YtcpngeiahgoacaaGreatZ21
import Derived.Test.YtcpngeiahgoacaaGreatZ13
import Derived.Test.YtcpngeiahgoacaaGreatZ4
import Derived.Test.YtcpngeiahgoacaaGreatZ2

/- As wp_region_loud; what is no more asked for behind a loud operation need not last (dead), nor what is asked for the first time behind it (late). -/
namespace Go.Proofs.YtcpngeiahgoacaaGreat
set_option linter.unusedVariables false
open Go.RowKit

/-- of each loud one: those that only it and those ahead of it ask for -/
def deadB (md : Region.Mode) (ops : Array Oper) (n : Nat) (lo : List Nat) (dead : Nat → List Nat) : Bool :=
  (List.range lo.length).all fun k => (dead k).all fun j => (List.range n).all fun i => !Region.waitsFor md ops i j || i == lo.getD k 0 || reachB md ops ops.size (lo.getD k 0) i
theorem deadB_spec {md : Region.Mode} {ops : Array Oper} {n : Nat} {lo : List Nat} {dead : Nat → List Nat} (h : deadB md ops n lo dead = true) {k x j i : Nat} (hk : lo[k]? = some x) (hj : j ∈ dead k) (hi : i < n) (hw : Region.waitsFor md ops i j = true) : i = x ∨ reachB md ops ops.size x i = true := by
  have hkl := (List.getElem?_eq_some_iff.1 hk).1
  have h1 := List.all_eq_true.1 (List.all_eq_true.1 (List.all_eq_true.1 h k (List.mem_range.2 hkl)) j hj) i (List.mem_range.2 hi)
  rw [hw, List.getD_eq_getElem?_getD, hk] at h1
  simpa using h1
/-- of each loud one: those that wait for it -/
def lateB (md : Region.Mode) (ops : Array Oper) (n : Nat) (lo : List Nat) (late : Nat → List Nat) : Bool :=
  (List.range lo.length).all fun k => (late k).all fun j => decide (j < n) && reachB md ops ops.size j (lo.getD k 0)
theorem lateB_spec {md : Region.Mode} {ops : Array Oper} {n : Nat} {lo : List Nat} {late : Nat → List Nat} (h : lateB md ops n lo late = true) {k x j : Nat} (hk : lo[k]? = some x) (hj : j ∈ late k) : j < n ∧ reachB md ops ops.size j x = true := by
  have hkl := (List.getElem?_eq_some_iff.1 hk).1
  have h1 := List.all_eq_true.1 (List.all_eq_true.1 h k (List.mem_range.2 hkl)) j hj
  rw [List.getD_eq_getElem?_getD, hk] at h1
  simpa using h1

section
variable {P : Program} {md : Region.Mode} {ops : Array Oper}

theorem wpAny_loud2 {n : Nat} {ps : Nat → World → Value → Prop} {J : Nat → World → Prop} {R : World → World → Prop} {lo : List Nat} {dead late : Nat → List Nat} {a0 : Act} {Q' : Exit → Act → World → Prop} (hn : n ≤ ops.size) (hsc : n = ops.size ∨ (Region.sinkB md ops n = true ∧ Region.chainB md ops n = true)) (hd : dstsB ops n = true) (hbk : backB md ops n = true)
    (hlo : loudB md ops n lo = true) (hdd : deadB md ops n lo dead = true) (hlt : lateB md ops n lo late = true)
    (hl : ∀ j, Lasts (ps j)) (hR : ∀ s j w w' v, s < lo.length → j ∉ dead s → j ∉ late s → (∀ s', s ≤ s' → lo[s']? ≠ some j) → J s w → ps j w v → R w w' → ps j w' v) (hJ : ∀ s w w', J s w → Below w.heap.size w w' → J s w')
    (hop : ∀ i o, i < n → ops[i]? = some o → i ∉ lo → ∀ s a w, J s w → Kept ops n a0 a → (∀ j, Region.waitsFor md ops i j = true → slotP ops ps j w a) → RelOp P ops o a w (ps i))
    (hop2 : ∀ i o, i < n → ops[i]? = some o → ∀ s a w, lo[s]? = some i → J s w → Kept ops n a0 a → (∀ j, Region.waitsFor md ops i j = true → slotP ops ps j w a) → LoudOp P ops o a w R (J (s + 1)) (ps i))
    (hL : ∀ a w, J lo.length w → Kept ops n a0 a → (∀ j, j < n → (∀ k, k < lo.length → j ∉ dead k) → slotP ops ps j w a) → wpAny P md ops Q' (ops.size - n) (headArr ops.size n) a w)
    (hsz : ∀ (i : Nat) (o : Oper) (d : Tmp), i < n → ops[i]? = some o → o.dst = some d → d < a0.tmps.size) :
    ∀ (f : Nat) (listed : Array Bool) (s : Nat) (a : Act) (w : World), ((List.range n).filter fun i => !listed.getD i false).length = f → HeadInv md ops n listed → s ≤ lo.length → (∀ k x, lo[k]? = some x → (listed.getD x false = true ↔ k < s)) → J s w → Kept ops n a0 a → (∀ j, j < n → listed.getD j false = true → (∀ k, k < s → j ∉ dead k) → slotP ops ps j w a) → wpAny P md ops Q' (f + (ops.size - n)) listed a w
  | 0, listed, s, a, w, hf, inv, hsl, hph, hb, hk, hp => by
    have hall : ∀ j, j < n → listed.getD j false = true := fun j hj => by
      cases hx : listed.getD j false with
      | true => rfl
      | false =>
        have : j ∈ (List.range n).filter fun i => !listed.getD i false := List.mem_filter.2 ⟨List.mem_range.2 hj, by rw [hx]; rfl⟩
        rw [List.eq_nil_of_length_eq_zero hf] at this
        cases this
    have hls : listed = headArr ops.size n := by
      apply Array.ext
      · rw [inv.size]; simp [headArr]
      · intro i h1 h2
        have hi : i < ops.size := by rw [← inv.size]; exact h1
        have e1 : listed[i] = listed.getD i false := by simp [h1]
        have e2 : (headArr ops.size n)[i] = (headArr ops.size n).getD i false := by simp [h2]
        rw [e1, e2, headArr_get _ _ _ _ hi]
        by_cases hin : i < n
        · rw [hall i hin, decide_eq_true hin]
        · rw [decide_eq_false hin]
          exact getD_both (inv.tail i (by omega) hi)
    have hsE : s = lo.length := by
      rcases Nat.lt_or_ge s lo.length with h1 | h1
      · have h2 := hph s lo[s] (List.getElem?_eq_getElem h1)
        have h3 := h2.1 (hall _ (loudB_lt hlo _ (List.getElem_mem h1)))
        omega
      · omega
    subst hsE
    rw [Nat.zero_add, hls]
    exact hL a w hb hk fun j hj hjd => hp j hj (hall j hj) hjd
  | f + 1, listed, s, a, w, hf, inv, hsl, hph, hb, hk, hp => by
    have hex : ∃ i, i < n ∧ listed.getD i false = false := by
      cases hx : (List.range n).filter fun i => !listed.getD i false with
      | nil => rw [hx] at hf; cases hf
      | cons i t =>
        have : i ∈ (List.range n).filter fun i => !listed.getD i false := by rw [hx]; exact List.mem_cons_self
        obtain ⟨h1, h2⟩ := List.mem_filter.1 this
        exact ⟨i, List.mem_range.1 h1, by simpa using h2⟩
    obtain ⟨m, hm, hmf, hmb⟩ := least_false (fun i => listed.getD i false) n hex
    have hin : ∀ k, k < n → listed.getD k false = false → listed.getD k true = false := fun k hk h => getD_in (by rw [inv.size]; omega) h
    rw [show f + 1 + (ops.size - n) = (f + (ops.size - n)) + 1 by omega]
    refine ⟨fun h0 => ?_, fun i hi => ?_⟩
    · exfalso
      have : m ∈ Region.ready md ops listed := by
        refine mem_ready.2 ⟨hin m hm hmf, ops[m], Array.getElem?_eq_getElem (by omega), fun e he hbd => ?_⟩
        have h1 := List.all_eq_true.1 hbk m (List.mem_range.2 hm)
        rw [Array.getElem?_eq_getElem (show m < ops.size by omega)] at h1
        have h2 := Array.all_eq_true_iff_forall_mem.1 h1 e he
        rw [hbd] at h2
        simp at h2
        exact hmb e.on h2
      rw [h0] at this
      cases this
    · have hin' : i < n := by
        rcases Nat.lt_or_ge i n with h | h
        · exact h
        · rcases Nat.lt_or_ge n ops.size with hn' | hn'
          · have hsc' := hsc.resolve_left (by omega)
            exact absurd hi (tail_waits hsc'.1 hsc'.2 hn' inv _ m rfl hm (hin m hm hmf) i h)
          · obtain ⟨_, o, ho, _⟩ := mem_ready.1 hi
            have := (Array.getElem?_eq_some_iff.1 ho).1
            omega
      obtain ⟨hun, o, ho, hall⟩ := mem_ready.1 hi
      have hdep : ∀ j, Region.waitsFor md ops i j = true → slotP ops ps j w a := fun j hj => by
        obtain ⟨oj, hoj, e, he, hbd, hon⟩ := Region.waitsFor_spec hj
        have : oj = o := Option.some.inj (hoj.symm.trans ho)
        subst this
        have h1 := hall e he hbd
        rw [hon] at h1
        have h2 := List.all_eq_true.1 hbk i (List.mem_range.2 hin')
        rw [ho] at h2
        have h3 := Array.all_eq_true_iff_forall_mem.1 h2 e he
        rw [hbd] at h3
        simp at h3
        exact hp j (by omega) h1 fun k hks hjd => by
          have hkl : k < lo.length := by omega
          have hk := List.getElem?_eq_getElem hkl
          have hlx := (hph k _ hk).2 hks
          have hil : listed.getD i false = true := by
            rcases deadB_spec hdd hk hjd hin' hj with e | e
            · rw [e]; exact hlx
            · have hxn := loudB_lt hlo _ (List.getElem_mem hkl)
              have hxo : ops[lo[k]]? = some ops[lo[k]] := Array.getElem?_eq_getElem (by omega)
              exact reach_listed inv i _ _ _ e hxo (inv.closed _ _ hxo hlx)
          rw [getD_both hun] at hil
          cases hil
      have hcnt : ((List.range n).filter fun k => !(listed.setIfInBounds i true).getD k false).length = f := by
        have hmem : i ∈ (List.range n).filter fun i => !listed.getD i false := List.mem_filter.2 ⟨List.mem_range.2 hin', by rw [getD_both hun]; rfl⟩
        have hnd : ((List.range n).filter fun i => !listed.getD i false).Nodup := List.Pairwise.filter _ List.nodup_range
        have he : ((List.range n).filter fun k => !(listed.setIfInBounds i true).getD k false) = ((List.range n).filter fun i => !listed.getD i false).erase i := by
          rw [hnd.erase_eq_filter, List.filter_filter]
          apply List.filter_congr
          intro k hk
          by_cases hki : i = k
          · subst hki
            have hlt : i < listed.size := by rw [inv.size]; omega
            simp [hlt]
          · rw [getD_set_ne false hki]
            simp [Ne.symm hki]
        rw [he, List.length_erase_of_mem hmem, hf]
        rfl
      have hon : (listed.setIfInBounds i true).getD i false = true := by
        have hlt : i < listed.size := by rw [inv.size]; omega
        simp [hlt]
      have hfin : ∀ s' v w', s' ≤ lo.length → (∀ k x, lo[k]? = some x → ((listed.setIfInBounds i true).getD x false = true ↔ k < s')) → J s' w' → (s ≤ s') → (∀ j, listed.getD j false = true → (∀ k, k < s' → j ∉ dead k) → ∀ u, ps j w u → ps j w' u) → ps i w' v → wpAny P md ops Q' (f + (ops.size - n)) (listed.setIfInBounds i true) (a.put o.dst v) w' := fun s' v w' hs' hph' hj' hss hlast hpv => by
        refine wpAny_loud2 hn hsc hd hbk hlo hdd hlt hl hR hJ hop hop2 hL hsz f _ s' _ w' hcnt (inv.set hi hin') hs' hph' hj' ⟨?_, by rw [put_size]; exact hk.size, fun d hfree => ?_⟩ fun j hj hlj hjd oj d hoj hdj => ?_
        · rw [← hk.defers]; unfold Act.put; split <;> rfl
        · rw [put_at_ne (hfree i o hin' ho)]; exact hk.tmps d hfree
        · by_cases hji : j = i
          · subst hji
            have : oj = o := Option.some.inj (hoj.symm.trans ho)
            subst this
            have hds : d < a.tmps.size := by rw [hk.size]; exact hsz j oj d hin' hoj hdj
            have he : (a.put oj.dst v).eval (.tmp d) = v := by
              rw [hdj]
              simp [Act.put, Act.eval, hds]
            rw [he]
            exact hpv
          · have hl2 : listed.getD j false = true := by rw [getD_set_ne false (Ne.symm hji)] at hlj; exact hlj
            have he : (a.put o.dst v).eval (.tmp d) = a.eval (.tmp d) := by
              have := put_at_ne (a := a) (v := v) (dstsB_spec hd hj hin' hji hoj ho hdj)
              simp [Act.eval, this]
            rw [he]
            exact hlast j hl2 hjd _ (hp j hj hl2 (fun k hk => hjd k (by omega)) oj d hoj hdj)
      unfold wpOp
      simp only [ho]
      by_cases hil : i ∈ lo
      · obtain ⟨k, hki⟩ := List.mem_iff_getElem?.1 hil
        have hnl : listed.getD i false = false := getD_both hun
        have h1 := hph k i hki
        have hks : ¬ k < s := fun h2 => by rw [h1.2 h2] at hnl; cases hnl
        have hsk : s = k := by
          rcases Nat.eq_zero_or_pos k with e | e
          · omega
          · have hpl : k - 1 < lo.length := by have := (List.getElem?_eq_some_iff.1 hki).1; omega
            have h2 := loudB_next hlo (k - 1) lo[k - 1] i (List.getElem?_eq_getElem hpl) (by rw [show k - 1 + 1 = k by omega]; exact hki)
            have h3 := reach_listed inv _ _ i o h2.2 ho hall
            have h4 := (hph (k - 1) _ (List.getElem?_eq_getElem hpl)).1 h3
            omega
        subst hsk
        have hrel := hop2 i o hin' ho s a w hki hb hk hdep (wpAny P md ops Q' (f + (ops.size - n)) (listed.setIfInBounds i true)) Q' (fun v w' hr hj hpv => hfin (s + 1) v w' (by have := (List.getElem?_eq_some_iff.1 hki).1; omega) (fun k' x hx => by
          by_cases hxi : x = i
          · subst hxi
            have := loudB_inj hlo hx hki
            rw [hon]
            simp; omega
          · rw [getD_set_ne false (Ne.symm hxi), hph k' x hx]
            have : k' ≠ s := fun e => hxi (by subst e; rw [hx] at hki; exact Option.some.inj hki)
            omega) hj (by omega) (fun j hlj hjd u hu => hR s j _ _ _ (by have := (List.getElem?_eq_some_iff.1 hki).1; omega) (hjd s (by omega)) (fun hjl => by
            have h5 := lateB_spec hlt hki hjl
            have hjo : ops[j]? = some ops[j] := Array.getElem?_eq_getElem (by omega)
            have h6 := reach_listed inv i _ _ _ h5.2 hjo (inv.closed _ _ hjo hlj)
            rw [hnl] at h6
            cases h6) (fun s' hs' e => by have := (hph s' j e).1 hlj; omega) hb hu hr) hpv)
        split
        · rename_i hwt
          rw [if_pos hwt] at hrel
          exact .inl hrel
        · rename_i hwt
          rw [if_neg hwt] at hrel
          exact hrel
      · have hrel := hop i o hin' ho hil s a w hb hk hdep (wpAny P md ops Q' (f + (ops.size - n)) (listed.setIfInBounds i true)) Q' (fun v w' hbw hpv => hfin s v w' hsl (fun k' x hx => by
          have hxi : x ≠ i := fun e => hil (e ▸ List.mem_of_getElem? hx)
          rw [getD_set_ne false (Ne.symm hxi)]
          exact hph k' x hx) (hJ s w w' hb hbw) (Nat.le_refl _) (fun j _ _ u hu => hl j _ _ _ hu hbw) hpv)
        split
        · rename_i hwt
          rw [if_pos hwt] at hrel
          exact .inl hrel
        · rename_i hwt
          rw [if_neg hwt] at hrel
          exact hrel
end

theorem wp_region_loud2 {P : Program} {id : Nat} {Q : Exit → Act → World → Prop} {a : Act} {w : World} {l : List Oper} (n m : Nat) (ps : Nat → World → Value → Prop) (J : Nat → World → Prop) (R : World → World → Prop) (lo : List Nat) (dead late : Nat → List Nat) (ds : List Nat) (hm : P.follows .mixedOrders = true) (hB : relLB .any l.toArray n = true) (hlo : loudB .any l.toArray n lo = true) (hdd : deadB .any l.toArray n lo dead = true) (hlt : lateB .any l.toArray n lo late = true) (hsz : sizeB l.toArray n m = true) (ha : a.tmps.size = m) (hds : dstsOf l.toArray n = ds)
    (hl : ∀ j, Lasts (ps j)) (hR : ∀ s j w w' v, s < lo.length → j ∉ dead s → j ∉ late s → (∀ s', s ≤ s' → lo[s']? ≠ some j) → J s w → ps j w v → R w w' → ps j w' v) (hJ : ∀ s w w', J s w → Below w.heap.size w w' → J s w') (hJ0 : J 0 w) (hop : AllLoud P l.toArray n ps J R lo a 0 (l.take n))
    (h : ∀ (f : Nat → Value) w', J lo.length w' → (∀ j, j < n → (∀ k, k < lo.length → j ∉ dead k) → ∀ o d, l.toArray[j]? = some o → o.dst = some d → ps j w' (f d)) → wpList P l.toArray Q (l.drop n) (putAll a ds f) w') : (Code.region id l.toArray true).wp P Q a w := by
  simp only [relLB, Bool.and_eq_true, Bool.or_eq_true, decide_eq_true_eq] at hB
  obtain ⟨⟨⟨⟨hn, hsc⟩, hd⟩, hbk⟩, hsq⟩ := hB
  have inv0 : HeadInv .any l.toArray n (Array.replicate l.toArray.size false) :=
    ⟨by simp, fun j oj _ hl => (by rw [getD_replicate_false] at hl; cases hl), fun t _ ht => getD_in (by simpa using ht) (getD_replicate_false _ _)⟩
  have hdl : (l.drop n).length = l.toArray.size - n := by simp
  refine wp_region_any hm ?_
  have := wpAny_loud2 (Q' := Q) (md := .any) (P := P) (ops := l.toArray) (n := n) (ps := ps) (J := J) (R := R) (lo := lo) (a0 := a) hn hsc hd hbk hlo hdd hlt hl hR hJ (fun i o hi ho hni s a' w' h1 h2 h3 => by
      have := AllLoud.spec (l.take n) 0 hop i o (by rw [List.getElem?_take, if_pos hi]; simpa using ho)
      simp only [Nat.zero_add] at this
      rw [if_neg hni] at this
      exact this s a' w' h1 h2 h3)
    (fun i o hi ho s a' w' hlos h1 h2 h3 => by
      have := AllLoud.spec (l.take n) 0 hop i o (by rw [List.getElem?_take, if_pos hi]; simpa using ho)
      simp only [Nat.zero_add] at this
      rw [if_pos (List.mem_of_getElem? hlos)] at this
      exact this s a' w' hlos h1 h2 h3)
    (fun a' w' h1 h2 h3 => by
      have := wpAny_of_seq (md := .any) (ops := l.toArray) (Q' := Q) (l.drop n) n (headArr l.toArray.size n) a' w' (fun j => by simp [List.getElem?_drop]) (by rw [hdl]; exact hsq) (by
        rw [h2.puts (by rw [ha]; exact hsz), hds]
        exact h _ w' h1 fun j hj hjd o d ho hd => (h3 j hj hjd).get d ho hd)
      rw [hdl] at this
      exact this)
    (fun i o d hi ho hdst => by
      have := List.all_eq_true.1 hsz i (List.mem_range.2 hi)
      simp only [ho, hdst, decide_eq_true_eq] at this
      rw [ha]; exact this)
    n (Array.replicate l.toArray.size false) 0 a w.drew (by
      rw [List.filter_eq_self.2 (fun i _ => by rw [getD_replicate_false]; rfl)]
      simp) inv0 (Nat.zero_le _) (fun k x _ => by rw [getD_replicate_false]; simp) (hJ 0 _ _ hJ0 (Below.refl _ w).drew) ⟨rfl, rfl, fun _ _ => rfl⟩ (fun j _ hj => by rw [getD_replicate_false] at hj; cases hj)
  rw [show n + (l.toArray.size - n) = l.toArray.size by omega] at this
  exact this

end Go.Proofs.YtcpngeiahgoacaaGreat

/- bastidelaw16.same: the program's vault and the document's, all that can be asked (genrvk.py). -/
namespace Go.Proofs.YtcpngeiahgoacaaGreat
set_option linter.unusedVariables false
set_option linter.unusedSimpArgs false
open Go.RowKit Go.Maps

attribute [local irreducible] wpList wpCalm
set_option maxRecDepth 100000 in
set_option maxHeartbeats 4000000 in
theorem sameLeaves_all (A A' : Option Addr) (n c n' c' : Nat) (xss yss : List (List UInt8)) (w : World) (B : Nat) (hx : RowsB w B A n xss) (hy : RowsB w B A' n' yss) (hB : B ≤ w.heap.size) (hn : n ≤ 1000000000000) (hn' : n' ≤ 1000000000000) (hlx : ∀ x, x ∈ xss → x.length ≤ maxLen) (hly : ∀ x, x ∈ yss → x.length ≤ maxLen) :
    Calls Tryz.prog 15 #[.slice A n c, .slice A' n' c'] w fun e w' => e = .returned (.bool (decide (xss = yss))) ∧ Below w.heap.size w w' := by
  have hxl := hx.1
  have hyl := hy.1
  by_cases hnn : n = n'
  · subst hnn
    have hne : ((n : Int) != (n : Int)) = false := by simp
    have HX := Lib.hid hx
    have HY := Lib.hid hy
    have HLX := Lib.hid hlx
    have HLY := Lib.hid hly
    have HXL := Lib.hid hxl
    have HYL := Lib.hid hyl
    clear hx hy hlx hly hxl hyl
    go_enter Tryz.func15, Tryz.ntmps15
    go_wp2_with fail
    go_loopw [5] (fun iv wr => ∃ i : Nat, i ≤ n ∧ iv = .int .i64 i ∧ xss.take i = yss.take i ∧ Below w.heap.size w wr) (fun iv _ => n - (intOf iv).toNat)
    case atStart => exact ⟨0, by omega, rfl, by simp, Below.refl _ _⟩
    case round =>
      obtain ⟨i, hi, rfl, heq, hbel⟩ := hrel
      have HE := Lib.hid heq
      have HB := Lib.hid hbel
      have hsz := hbel.size
      clear heq
      by_cases hin : i < n
      · have hinI : (i : Int) < (n : Int) := by omega
        have h0I : (0 : Int) ≤ (i : Int) := by omega
        have hix : i < xss.length := by have := HXL.out; omega
        have hiy : i < yss.length := by have := HYL.out; omega
        obtain ⟨ad, rfl, hb1, hc1⟩ := HX.out.2 (by omega)
        obtain ⟨bd, rfl, hb2, hc2⟩ := HY.out.2 (by omega)
        obtain ⟨Ak, mk, ck, q1, q2⟩ := hc1 i _ (List.getElem?_eq_getElem hix)
        obtain ⟨Bk, lk, dk, r1, r2⟩ := hc2 i _ (List.getElem?_eq_getElem hiy)
        have hmk : mk ≤ maxLen := by have := HLX.out _ (List.getElem_mem hix); have := q2.1; simp at this; omega
        have hlk : lk ≤ maxLen := by have := HLY.out _ (List.getElem_mem hiy); have := r2.1; simp at this; omega
        have C1 := Lib.hid (fun (W : World) (hb : Below wr.heap.size wr W) => ((hbel.trans (hb.mono hsz)).cell (show (ad.add i).block < w.heap.size by rw [block_of_add]; omega)).trans q1)
        have C2 := Lib.hid (fun (W : World) (hb : Below wr.heap.size wr W) => ((hbel.trans (hb.mono hsz)).cell (show (bd.add i).block < w.heap.size by rw [block_of_add]; omega)).trans r1)
        have hEq := fun (W : World) (hb : Below wr.heap.size wr W) => eqBytes_any Ak Bk mk lk ck dk xss[i] yss[i] W B B (q2.below ((hbel.trans (hb.mono hsz)).mono hB)) (r2.below ((hbel.trans (hb.mono hsz)).mono hB)) hmk hlk
        have hnx : ∀ (b : Bool), decide (xss[i] = yss[i]) = b → ∀ (W : World) (hb : Below wr.heap.size wr W), Calls Tryz.prog 14 #[.slice Ak mk ck, .slice Bk lk dk] W fun e w' => e = .returned (.bool b) ∧ Below W.heap.size W w' := fun b he W hb => (hEq W hb).mono fun e w' ⟨h1, k, h2⟩ => ⟨by rw [h1, he], by rw [h2]; exact below_drewN (Below.refl _ _) k⟩
        have HNX := Lib.hid hnx
        clear hbel hc1 hc2 q1 q2 r1 r2 hEq hnx
        go_upto_region 6 with fail
        by_cases hq : xss[i] = yss[i]
        · have HQ := Lib.hid hq
          have HCE := Lib.hid (HNX.out true (by rw [decide_eq_true hq]))
          clear hq
          refine wp_region_calm0 9 27 (by kernel_rfl) (by kernel_rfl) (by kernel_rfl) (by simp) ?_
          simp only [List.take_succ_cons, List.take_zero, List.drop_succ_cons, List.drop_zero]
          refine wpCalm_value rfl rfl (.slice (some ad) n c) (fun W _ => rfl) ?_
          try simp only [Act.put, List.setIfInBounds_toArray, List.set_cons_zero, List.set_cons_succ]
          refine wpCalm_value rfl rfl (.int .i64 (i : Int)) (fun W _ => rfl) ?_
          try simp only [Act.put, List.setIfInBounds_toArray, List.set_cons_zero, List.set_cons_succ]
          refine wpCalm_value rfl rfl (.pointer (some (ad.add i))) (fun W _ => by go_simp) ?_
          try simp only [Act.put, List.setIfInBounds_toArray, List.set_cons_zero, List.set_cons_succ]
          refine wpCalm_below rfl rfl (.slice Ak mk ck) (fun W hb => by have := C1.out W hb; go_simp) ?_
          try simp only [Act.put, List.setIfInBounds_toArray, List.set_cons_zero, List.set_cons_succ]
          refine wpCalm_value rfl rfl (.slice (some bd) n c') (fun W _ => rfl) ?_
          try simp only [Act.put, List.setIfInBounds_toArray, List.set_cons_zero, List.set_cons_succ]
          refine wpCalm_value rfl rfl (.int .i64 (i : Int)) (fun W _ => rfl) ?_
          try simp only [Act.put, List.setIfInBounds_toArray, List.set_cons_zero, List.set_cons_succ]
          refine wpCalm_value rfl rfl (.pointer (some (bd.add i))) (fun W _ => by go_simp) ?_
          try simp only [Act.put, List.setIfInBounds_toArray, List.set_cons_zero, List.set_cons_succ]
          refine wpCalm_below rfl rfl (.slice Bk lk dk) (fun W hb => by have := C2.out W hb; go_simp) ?_
          try simp only [Act.put, List.setIfInBounds_toArray, List.set_cons_zero, List.set_cons_succ]
          refine wpCalm_call rfl rfl 14 #[.slice Ak mk ck, .slice Bk lk dk] (fun W => by go_simp) (.bool true) (fun W hb => HCE.out W hb) ?_
          try simp only [Act.put, List.setIfInBounds_toArray, List.set_cons_zero, List.set_cons_succ]
          refine wpCalm_nil ?_
          intro w2 hb2
          have HB2 := Lib.hid (HB.out.trans (hb2.mono hsz))
          clear hb2
          go_wp2_with fail
          go_roundw
          case rel => exact ⟨i + 1, by omega, by go_num, by rw [List.take_succ_eq_append_getElem hix, List.take_succ_eq_append_getElem hiy, HE.out, HQ.out], HB2.out⟩
          case measure => simp [intOf]; omega
        · have HQ := Lib.hid hq
          have HCE := Lib.hid (HNX.out false (by rw [decide_eq_false hq]))
          clear hq
          refine wp_region_calm0 9 27 (by kernel_rfl) (by kernel_rfl) (by kernel_rfl) (by simp) ?_
          simp only [List.take_succ_cons, List.take_zero, List.drop_succ_cons, List.drop_zero]
          refine wpCalm_value rfl rfl (.slice (some ad) n c) (fun W _ => rfl) ?_
          try simp only [Act.put, List.setIfInBounds_toArray, List.set_cons_zero, List.set_cons_succ]
          refine wpCalm_value rfl rfl (.int .i64 (i : Int)) (fun W _ => rfl) ?_
          try simp only [Act.put, List.setIfInBounds_toArray, List.set_cons_zero, List.set_cons_succ]
          refine wpCalm_value rfl rfl (.pointer (some (ad.add i))) (fun W _ => by go_simp) ?_
          try simp only [Act.put, List.setIfInBounds_toArray, List.set_cons_zero, List.set_cons_succ]
          refine wpCalm_below rfl rfl (.slice Ak mk ck) (fun W hb => by have := C1.out W hb; go_simp) ?_
          try simp only [Act.put, List.setIfInBounds_toArray, List.set_cons_zero, List.set_cons_succ]
          refine wpCalm_value rfl rfl (.slice (some bd) n c') (fun W _ => rfl) ?_
          try simp only [Act.put, List.setIfInBounds_toArray, List.set_cons_zero, List.set_cons_succ]
          refine wpCalm_value rfl rfl (.int .i64 (i : Int)) (fun W _ => rfl) ?_
          try simp only [Act.put, List.setIfInBounds_toArray, List.set_cons_zero, List.set_cons_succ]
          refine wpCalm_value rfl rfl (.pointer (some (bd.add i))) (fun W _ => by go_simp) ?_
          try simp only [Act.put, List.setIfInBounds_toArray, List.set_cons_zero, List.set_cons_succ]
          refine wpCalm_below rfl rfl (.slice Bk lk dk) (fun W hb => by have := C2.out W hb; go_simp) ?_
          try simp only [Act.put, List.setIfInBounds_toArray, List.set_cons_zero, List.set_cons_succ]
          refine wpCalm_call rfl rfl 14 #[.slice Ak mk ck, .slice Bk lk dk] (fun W => by go_simp) (.bool false) (fun W hb => HCE.out W hb) ?_
          try simp only [Act.put, List.setIfInBounds_toArray, List.set_cons_zero, List.set_cons_succ]
          refine wpCalm_nil ?_
          intro w2 hb2
          have HB2 := Lib.hid (HB.out.trans (hb2.mono hsz))
          clear hb2
          go_wp2_with fail
          go_ret
          refine ⟨ret_bool ?_, HB2.out⟩
          symm
          rw [decide_eq_false_iff_not]
          rintro rfl
          exact HQ.out rfl
      · obtain rfl : i = n := by omega
        have hinI : ¬ (i : Int) < (i : Int) := by omega
        clear hbel
        go_wp2_with fail
        go_ret
        refine ⟨ret_bool ?_, HB.out⟩
        symm
        rw [decide_eq_true_iff]
        have h1 := HE.out
        rwa [List.take_of_length_le (by have := HXL.out; omega), List.take_of_length_le (by have := HYL.out; omega)] at h1
  · have hne : ((n : Int) != (n' : Int)) = true := by rw [bne_iff_ne]; omega
    have HN := Lib.hid (show xss ≠ yss by rintro rfl; omega)
    clear hnn hx hy hxl hyl hlx hly
    go_enter Tryz.func15, Tryz.ntmps15
    go_wp2_with fail
    go_ret
    exact ⟨ret_bool (by symm; rw [decide_eq_false_iff_not]; exact HN.out), Below.refl _ _⟩

theorem lasts_lv (xss : List (List UInt8)) : Lasts fun W v => ∃ A c, v = .slice A 13 c ∧ RowsB W W.heap.size A 13 xss := fun W W' v ⟨A, c, h1, h2⟩ hb => ⟨A, c, h1, (h2.below hb).more hb.size⟩
theorem lasts_bs (n : Nat) (bs : List UInt8) : Lasts fun W v => ∃ A c, v = .slice A n c ∧ n ≤ c ∧ Reads W W.heap.size 1 A n (bs.map vb) := fun W W' v ⟨A, c, h1, h2, h3⟩ hb => ⟨A, c, h1, h2, (h3.below hb).more hb.size⟩
theorem lasts_ns (n : Nat) (bs : List Int) : Lasts fun W v => ∃ A c, v = .slice A n c ∧ n ≤ c ∧ Reads W W.heap.size 1 A n (bs.map vn) := fun W W' v ⟨A, c, h1, h2, h3⟩ hb => ⟨A, c, h1, h2, (h3.below hb).more hb.size⟩
theorem lasts_bk (B : Nat) : Lasts fun W v => ∃ r, v = .pointer (some ⟨r, 0, none⟩) ∧ B ≤ r ∧ RBk W r (fun b => b < B) 0 := fun W W' v ⟨r, h1, h2, h3⟩ hb => ⟨r, h1, h2, h3.below hb⟩
theorem eqg16 : Tryz.prog.eqGuardType Tryz.prog.depth 60 = false := by kernel_rfl

set_option maxRecDepth 100000 in
set_option maxHeartbeats 8000000 in
theorem vsame_any (w : World) (V : VLoc) (N : Nat → Prop) (m : VM) (g : Nat) (S : RVs) (h : VAt w V N m) (hr : RVAt w g m S) :
    Calls Tryz.prog 16 #[.pointer (some ⟨V.g, 0, none⟩), .pointer (some ⟨g, 0, none⟩)] w fun e w' => e = .returned (.bool true) ∧ Below w.heap.size w w' := by
  have HLV := Lib.hid (vLeaves_any w V N m h)
  have HV := Lib.hid (fun (W : World) (hb : Below w.heap.size w W) => h.below hb)
  have HRV := Lib.hid (fun (W : World) (hb : Below w.heap.size w W) => hr.below hb)
  have hok := hr.ok
  have hlvn := leavesV_len m
  have hml : ∀ x, x ∈ leavesV m → x.length ≤ 120 := fun x hx => by
    obtain ⟨i, _, rfl⟩ := List.mem_map.1 hx
    have := leafV_len hok i; omega
  have hbm : (bytesV m).length ≤ maxLen := by
    have := flatB_le (leavesV m) hml
    unfold bytesV maxLen
    omega
  have hds : (bRow (rootL (leavesV m))).size = 32 := bRow_size32 (lv_one (leavesV m) (by omega) (by omega)).2
  have hdo := bRow_one (rootL (leavesV m))
  have heq := fun (W : World) => eql_digest (rootL (leavesV m)) (rootL (leavesV m)) (lv_one (leavesV m) (by omega) (by omega)).2 (lv_one (leavesV m) (by omega) (by omega)).2 W
  obtain ⟨D, hD⟩ : ∃ D, D = bRow (rootL (leavesV m)) := ⟨_, rfl⟩
  have HDE := Lib.hid hD
  rw [← hD] at hds hdo heq
  simp only [beq_self_eq_true] at heq
  have HEQ := Lib.hid heq
  have HDS := Lib.hid hds
  have HDO := Lib.hid hdo
  have HZ := Lib.hid treeZ_eq
  have HZS := Lib.hid (show inkZ.size = 32 by simp [inkZ, bRow])
  have hsn := hok.sealNum
  have HSM := Lib.hid (show m.shut.length ≤ maxLen by have := hsn.2; unfold maxLen; omega)
  have HML := Lib.hid (fun (x : List UInt8) (hx : x ∈ leavesV m) => (show x.length ≤ maxLen by have := hml x hx; unfold maxLen; omega))
  have HBM := Lib.hid hbm
  have HLVN := Lib.hid hlvn
  unfold LvPost at HLV
  clear h hr hD hds hdo heq hml hbm hsn hlvn
  go_enter Tryz.func16, Tryz.ntmps16
  go_wp2_with fail
  refine HLV.out.mono ?_
  rintro _ w1 ⟨v, vs, rfl, how, hb1⟩
  obtain ⟨A1, c1, rfl, _, _, hr1, _⟩ := how.slice
  rw [HLVN.out] at hr1 ⊢
  have HR1' := Lib.hid hr1
  have HB1 := Lib.hid hb1
  have HBY := Lib.hid (vBytes_any w1 V N m (HV.out w1 hb1))
  unfold BytesPost at HBY
  clear how hb1 hr1 HLV
  go_wp2_with fail
  refine HBY.out.mono ?_
  rintro _ w2 ⟨v, rfl, ho2, hb2⟩
  obtain ⟨A2, c2, rfl, _, _, hr2, _⟩ := own_slice_b ho2
  obtain ⟨bs, hbs⟩ : ∃ b, b = bytesV m := ⟨_, rfl⟩
  rw [← hbs] at hr2 ⊢
  rw [← hbs] at HBM
  have HBS := Lib.hid hbs
  obtain ⟨bn, hbn⟩ : ∃ b, b = bs.length := ⟨_, rfl⟩
  rw [← hbn] at hr2 ⊢
  rw [← hbn] at HBM
  have HBN := Lib.hid hbn
  have HR2' := Lib.hid hr2
  have hs1 := HB1.out.size
  have HB2 := Lib.hid (HB1.out.trans (hb2.mono hs1))
  have HB12 := Lib.hid hb2
  have HRT := Lib.hid (vRoot_any w2 V N m (HV.out w2 HB2.out))
  rw [← HDE.out] at HRT
  have hs2 := HB2.out.size
  have hs12 := hb2.size
  clear ho2 hb2 hr2 HBY hbs hbn
  go_wp2_with fail
  refine HRT.out.mono ?_
  rintro _ w3 ⟨rfl, hb3⟩
  have hs23 := hb3.size
  have HB23 := Lib.hid hb3
  clear hb3 HRT
  go_upto_region 4 with (refine wpList_store_part (o := ⟨none, _, _, _, _, _⟩) rfl 60 (.tmp 8) (.tmp 20) rfl w3.heap.size 0 D rfl rfl 60 inkZ (by rw [HZ.out]; exact Blk.newAt rfl) (by rw [HDS.out]; rfl) (by rw [HDS.out, HZS.out]; omega) HDO.out ?_; intro w4 hT4 hD4; rw [spl_self _ _ (by rw [HDS.out, HZS.out])] at hD4)
  have hb34 : Below w3.heap.size w3 w4 := hT4.below ((Below.refl _ _).alloc (Nat.le_refl _) _) (Nat.le_refl _)
  have hs34 := hb34.size
  have HB4 := Lib.hid (HB2.out.trans ((HB23.out.mono hs2).trans (hb34.mono (by omega))))
  have HR1 := Lib.hid ((HR1'.out.below (HB12.out.trans ((HB23.out.mono hs12).trans (hb34.mono (by omega))))).more (B' := w4.heap.size) (by omega))
  have HR2 := Lib.hid ((HR2'.out.below (HB23.out.trans (hb34.mono (by omega)))).more (B' := w4.heap.size) (by omega))
  have K8 := Lib.hid hD4
  obtain ⟨g8, hg8⟩ : ∃ x, x = w3.heap.size := ⟨_, rfl⟩
  rw [← hg8] at K8 ⊢
  have hs4 := HB4.out.size
  have hV4 : ∀ W, Below w4.heap.size w4 W → VAt W V N m := fun W hb => HV.out W (HB4.out.trans (hb.mono hs4))
  have hR4 : ∀ W, Below w4.heap.size w4 W → RVAt W g m S := fun W hb => HRV.out W (HB4.out.trans (hb.mono hs4))
  obtain ⟨lv, hlv⟩ : ∃ l, l = leavesV m := ⟨_, rfl⟩
  obtain ⟨sn, hsn⟩ : ∃ l, l = m.shut.length := ⟨_, rfl⟩
  obtain ⟨sh, hsh⟩ : ∃ l, l = m.shut := ⟨_, rfl⟩
  obtain ⟨gr, hgr⟩ : ∃ l, l = m.group := ⟨_, rfl⟩
  obtain ⟨ep, hep⟩ : ∃ l, l = m.epoch := ⟨_, rfl⟩
  have hrl := fun (W : World) (hb : Below w4.heap.size w4 W) => rLeaves_any W g m S (hR4 W hb)
  have hrb := fun (W : World) (hb : Below w4.heap.size w4 W) => rBytes_any W g m S (hR4 W hb)
  have hrr := fun (W : World) (r : Nat) (hb : Below w4.heap.size w4 W) (hk : RBk W r (fun b => b < w4.heap.size) 0) => rRoot_any W g r 0 m S (fun b => b < w4.heap.size) (hR4 W hb) hk (by omega) (fun b h => by have := hb.size; omega)
  have hse := fun (W : World) (hb : Below w4.heap.size w4 W) => vSealed_any W V N m (hV4 W hb)
  have hgg := fun (W : World) (hb : Below w4.heap.size w4 W) => vGroup_any W V N m (hV4 W hb)
  have hee := fun (W : World) (hb : Below w4.heap.size w4 W) => vEpoch_any W V N m (hV4 W hb)
  have hc0 := fun (W : World) (hb : Below w4.heap.size w4 W) => (hR4 W hb).group
  have hc1 := fun (W : World) (hb : Below w4.heap.size w4 W) => (hR4 W hb).epoch
  have hc138 := fun (W : World) (hb : Below w4.heap.size w4 W) => (hR4 W hb).shut
  have hsr := (hR4 w4 (Below.refl _ _)).seal_.1
  unfold LvPost at hrl
  unfold RBytesPost at hrb
  rw [← hlv] at HR1 HML HLVN HDE
  simp only [← hlv] at hrl
  simp only [← HBS.out] at hrb
  simp only [← hlv, ← HDE.out] at hrr
  simp only [← hsn, ← hsh] at hse
  simp only [← hgr] at hgg hc0
  simp only [← hep] at hee hc1
  simp only [← hsn] at hc138
  rw [← hsn, ← hsh] at hsr
  rw [← hsn] at HSM
  have HSN := Lib.hid (show sn = sh.length by rw [hsn, hsh])
  have HRL := Lib.hid hrl
  have HRB := Lib.hid hrb
  have HRR := Lib.hid hrr
  have HSE := Lib.hid hse
  have HGR := Lib.hid hgg
  have HEP := Lib.hid hee
  have HC0 := Lib.hid hc0
  have HC1 := Lib.hid hc1
  have HC138 := Lib.hid hc138
  have HSR := Lib.hid hsr
  clear hT4 hD4 hb34 hg8 hV4 hR4 hlv hsn hsh hgr hep hrl hrb hrr hse hgg hee hc0 hc1 hc138 hsr
  refine wp_region_loud2 52 74 (fun jx W v => match jx with
    | 0 => v = .slice A1 13 c1
    | 1 => v = .pointer (some ⟨g, 0, none⟩)
    | 2 => ∃ A c, v = .slice A 13 c ∧ RowsB W W.heap.size A 13 lv
    | 3 => v = .bool true
    | 4 => v = .bool true
    | 5 => v = .int .i64 0
    | 6 => v = .bool true
    | 7 => v = .bool true
    | 8 => v = .bool true
    | 9 => v = .slice A2 bn c2
    | 10 => v = .pointer (some ⟨g, 0, none⟩)
    | 11 => ∃ A c, v = .slice A bn c ∧ bn ≤ c ∧ Reads W W.heap.size 1 A bn (bs.map vb)
    | 12 => v = .bool true
    | 13 => v = .bool true
    | 14 => v = .bool true
    | 15 => v = .int .i64 0
    | 16 => v = .bool true
    | 17 => v = .bool true
    | 18 => v = .bool true
    | 19 => v = .agg D
    | 20 => v = .pointer (some ⟨g, 0, none⟩)
    | 21 => ∃ r, v = .pointer (some ⟨r, 0, none⟩) ∧ w4.heap.size ≤ r ∧ RBk W r (fun b => b < w4.heap.size) 0
    | 22 => v = .agg D
    | 23 => v = .bool true
    | 24 => v = .bool true
    | 25 => v = .bool true
    | 26 => v = .pointer (some ⟨V.g, 0, none⟩)
    | 27 => ∃ A c, v = .slice A sn c ∧ sn ≤ c ∧ Reads W W.heap.size 1 A sn (sh.map vn)
    | 28 => v = .pointer (some ⟨g, 0, none⟩)
    | 29 => v = .pointer (some ⟨g, 0, none⟩)
    | 30 => v = .pointer (some ⟨g, 138, none⟩)
    | 31 => v = .slice S.sA sn S.sC
    | 32 => v = .bool true
    | 33 => v = .bool true
    | 34 => v = .bool true
    | 35 => v = .pointer (some ⟨V.g, 0, none⟩)
    | 36 => v = .int .i64 (gr : Int)
    | 37 => v = .pointer (some ⟨g, 0, none⟩)
    | 38 => v = .pointer (some ⟨g, 0, none⟩)
    | 39 => v = .pointer (some ⟨g, 0, none⟩)
    | 40 => v = .int .i64 (gr : Int)
    | 41 => v = .bool true
    | 42 => v = .bool true
    | 43 => v = .bool true
    | 44 => v = .pointer (some ⟨V.g, 0, none⟩)
    | 45 => v = .int .i64 (ep : Int)
    | 46 => v = .pointer (some ⟨g, 0, none⟩)
    | 47 => v = .pointer (some ⟨g, 0, none⟩)
    | 48 => v = .pointer (some ⟨g, 1, none⟩)
    | 49 => v = .int .i64 (ep : Int)
    | 50 => v = .bool true
    | _ => v = .bool true) (fun _ W => Below w4.heap.size w4 W) (fun _ _ => True) [22] (fun _ => [2, 11, 21]) (fun _ => [27]) [22, 23, 24, 25, 26, 27, 28, 29, 30, 31, 32, 33, 34, 35, 36, 37, 38, 39, 40, 41, 42, 43, 44, 45, 46, 47, 48, 49, 50, 51, 52, 53, 54, 55, 56, 57, 58, 59, 60, 61, 62, 63, 64, 65, 66, 67, 68, 69, 70, 71, 72, 73] (by kernel_rfl) (by kernel_rfl) (by kernel_rfl) (by kernel_rfl) (by kernel_rfl) (by kernel_rfl) (by simp) (by kernel_rfl) (fun jx => ?last) ?lastR ?jay (Below.refl _ _) ?heads ?_
  case last =>
    match jx with
    | 0 | 1 | 3 | 4 | 5 | 6 | 7 | 8 | 9 | 10 | 12 | 13 | 14 | 15 | 16 | 17 | 18 | 19 | 20 | 22 | 23 | 24 | 25 | 26 | 28 | 29 | 30 | 31 | 32 | 33 | 34 | 35 | 36 | 37 | 38 | 39 | 40 | 41 | 42 | 43 | 44 | 45 | 46 | 47 | 48 | 49 | 50 | jx + 51 => exact Lasts.pure _
    | 2 => exact lasts_lv _
    | 11 => exact lasts_bs _ _
    | 21 => exact lasts_bk _
    | 27 => exact lasts_ns _ _
  case lastR =>
    intro s jx W W' v hsl hdd hlt hs hj hp hr
    match jx with
    | 0 | 1 | 3 | 4 | 5 | 6 | 7 | 8 | 9 | 10 | 12 | 13 | 14 | 15 | 16 | 17 | 18 | 19 | 20 | 22 | 23 | 24 | 25 | 26 | 28 | 29 | 30 | 31 | 32 | 33 | 34 | 35 | 36 | 37 | 38 | 39 | 40 | 41 | 42 | 43 | 44 | 45 | 46 | 47 | 48 | 49 | 50 | jx + 51 => exact hp
    | 2 => exact absurd (by decide) hdd
    | 11 => exact absurd (by decide) hdd
    | 21 => exact absurd (by decide) hdd
    | 27 => exact absurd (by decide) hlt
  case jay =>
    intro s W W' hj hb
    exact hj.trans (hb.mono hj.size)
  case heads =>
    simp only [List.take_succ_cons, List.take_zero]
    refine ⟨?_, ?_, ?_, ?_, ?_, ?_, ?_, ?_, ?_, ?_, ?_, ?_, ?_, ?_, ?_, ?_, ?_, ?_, ?_, ?_, ?_, ?_, ?_, ?_, ?_, ?_, ?_, ?_, ?_, ?_, ?_, ?_, ?_, ?_, ?_, ?_, ?_, ?_, ?_, ?_, ?_, ?_, ?_, ?_, ?_, ?_, ?_, ?_, ?_, ?_, ?_, ?_, trivial⟩
    · rw [if_neg (by decide)]
      intro s a W hb hkp hd
      have e0 : a.tmps[5]?.getD undef = .slice A1 13 c1 := hkp.get (by kernel_rfl) rfl
      exact rel_value rfl (.slice A1 13 c1) (by go_simp) rfl
    · rw [if_neg (by decide)]
      intro s a W hb hkp hd
      have e0 : a.tmps[1]?.getD undef = .pointer (some ⟨g, 0, none⟩) := hkp.get (by kernel_rfl) rfl
      exact rel_value rfl (.pointer (some ⟨g, 0, none⟩)) (by go_simp) rfl
    · rw [if_neg (by decide)]
      intro s a W hb hkp hd
      have e0 : a.tmps[23]?.getD undef = .pointer (some ⟨g, 0, none⟩) := (hd 1 (by kernel_rfl)).get 23 rfl rfl
      refine rel_call rfl 71 #[.pointer (some ⟨g, 0, none⟩)] (by go_simp) ((HRL.out W hb).mono ?_)
      rintro e w ⟨v, vs, rfl, ho, hb'⟩
      obtain ⟨A, c, h1, _, _, h4, _⟩ := ho.slice
      rw [HLVN.out] at h1 h4
      exact ⟨v, rfl, hb', A, c, h1, h4⟩
    · rw [if_neg (by decide)]
      intro s a W hb hkp hd
      have e0 : a.tmps[22]?.getD undef = .slice A1 13 c1 := (hd 0 (by kernel_rfl)).get 22 rfl rfl
      obtain ⟨Ab, cb, e2, r2⟩ := (hd 2 (by kernel_rfl)).get 24 rfl rfl
      exact rel_call rfl 15 #[.slice A1 13 c1, .slice Ab 13 cb] (by go_simp) ((sameLeaves_any A1 Ab 13 c1 13 cb lv lv W W.heap.size ((HR1.out.below hb).more hb.size) r2 (Nat.le_refl _) (by omega) (by omega) HML.out HML.out).mono fun e w h => ⟨.bool true, by rw [h.1]; simp, h.2, rfl⟩)
    · rw [if_neg (by decide)]
      intro s a W hb hkp hd
      have e0 : a.tmps[25]?.getD undef = .bool true := (hd 3 (by kernel_rfl)).get 25 rfl rfl
      exact rel_value rfl (.bool true) (by go_simp) rfl
    · rw [if_neg (by decide)]
      intro s a W hb hkp hd
      have eg : a.tmps[26]?.getD undef = .bool true := (hd 4 (by kernel_rfl)).get 26 rfl rfl
      have e0 : a.tmps[7]?.getD undef = .int .i64 0 := hkp.get (by kernel_rfl) rfl
      exact rel_value (wanted_at rfl rfl eg) (.int .i64 0) (by go_simp) rfl
    · rw [if_neg (by decide)]
      intro s a W hb hkp hd
      have eg : a.tmps[26]?.getD undef = .bool true := (hd 4 (by kernel_rfl)).get 26 rfl rfl
      have e0 : a.tmps[27]?.getD undef = .int .i64 0 := (hd 5 (by kernel_rfl)).get 27 rfl rfl
      exact rel_value (wanted_at rfl rfl eg) (.bool true) (by go_simp) rfl
    · rw [if_neg (by decide)]
      intro s a W hb hkp hd
      have e0 : a.tmps[26]?.getD undef = .bool true := (hd 4 (by kernel_rfl)).get 26 rfl rfl
      have e1 : a.tmps[28]?.getD undef = .bool true := (hd 6 (by kernel_rfl)).get 28 rfl rfl
      exact rel_value rfl (.bool true) (by go_simp) rfl
    · rw [if_neg (by decide)]
      intro s a W hb hkp hd
      have e0 : a.tmps[29]?.getD undef = .bool true := (hd 7 (by kernel_rfl)).get 29 rfl rfl
      exact rel_value rfl (.bool true) (by go_simp) rfl
    · rw [if_neg (by decide)]
      intro s a W hb hkp hd
      have eg : a.tmps[30]?.getD undef = .bool true := (hd 8 (by kernel_rfl)).get 30 rfl rfl
      have e0 : a.tmps[6]?.getD undef = .slice A2 bn c2 := hkp.get (by kernel_rfl) rfl
      exact rel_value (wanted_at rfl rfl eg) (.slice A2 bn c2) (by go_simp) rfl
    · rw [if_neg (by decide)]
      intro s a W hb hkp hd
      have eg : a.tmps[30]?.getD undef = .bool true := (hd 8 (by kernel_rfl)).get 30 rfl rfl
      have e0 : a.tmps[1]?.getD undef = .pointer (some ⟨g, 0, none⟩) := hkp.get (by kernel_rfl) rfl
      exact rel_value (wanted_at rfl rfl eg) (.pointer (some ⟨g, 0, none⟩)) (by go_simp) rfl
    · rw [if_neg (by decide)]
      intro s a W hb hkp hd
      have eg : a.tmps[30]?.getD undef = .bool true := (hd 8 (by kernel_rfl)).get 30 rfl rfl
      have e0 : a.tmps[32]?.getD undef = .pointer (some ⟨g, 0, none⟩) := (hd 10 (by kernel_rfl)).get 32 rfl rfl
      refine rel_call (wanted_at rfl rfl eg) 72 #[.pointer (some ⟨g, 0, none⟩)] (by go_simp) ((HRB.out W hb).mono ?_)
      rintro e w ⟨v, rfl, ho, hb'⟩
      obtain ⟨A, c, h1, h2, _, h4, _⟩ := own_slice_b ho
      rw [← HBN.out] at h1 h2 h4
      exact ⟨v, rfl, hb', A, c, h1, h2, h4⟩
    · rw [if_neg (by decide)]
      intro s a W hb hkp hd
      have eg : a.tmps[30]?.getD undef = .bool true := (hd 8 (by kernel_rfl)).get 30 rfl rfl
      have e0 : a.tmps[31]?.getD undef = .slice A2 bn c2 := (hd 9 (by kernel_rfl)).get 31 rfl rfl
      obtain ⟨Ab, cb, e2, q2, r2⟩ := (hd 11 (by kernel_rfl)).get 33 rfl rfl
      exact rel_call (wanted_at rfl rfl eg) 14 #[.slice A2 bn c2, .slice Ab bn cb] (by go_simp) ((eqBytes_any A2 Ab bn bn c2 cb bs bs W W.heap.size W.heap.size ((HR2.out.below hb).more hb.size) r2 HBM.out HBM.out).mono fun e w h => ⟨.bool true, by rw [h.1]; simp, (by obtain ⟨k, hk⟩ := h.2; rw [hk]; exact below_drewN (Below.refl _ _) _), rfl⟩)
    · rw [if_neg (by decide)]
      intro s a W hb hkp hd
      have e0 : a.tmps[30]?.getD undef = .bool true := (hd 8 (by kernel_rfl)).get 30 rfl rfl
      have e1 : a.tmps[34]?.getD undef = .bool true := (hd 12 (by kernel_rfl)).get 34 rfl rfl
      exact rel_value rfl (.bool true) (by go_simp) rfl
    · rw [if_neg (by decide)]
      intro s a W hb hkp hd
      have e0 : a.tmps[35]?.getD undef = .bool true := (hd 13 (by kernel_rfl)).get 35 rfl rfl
      exact rel_value rfl (.bool true) (by go_simp) rfl
    · rw [if_neg (by decide)]
      intro s a W hb hkp hd
      have eg : a.tmps[36]?.getD undef = .bool true := (hd 14 (by kernel_rfl)).get 36 rfl rfl
      have e0 : a.tmps[9]?.getD undef = .int .i64 0 := hkp.get (by kernel_rfl) rfl
      exact rel_value (wanted_at rfl rfl eg) (.int .i64 0) (by go_simp) rfl
    · rw [if_neg (by decide)]
      intro s a W hb hkp hd
      have eg : a.tmps[36]?.getD undef = .bool true := (hd 14 (by kernel_rfl)).get 36 rfl rfl
      have e0 : a.tmps[37]?.getD undef = .int .i64 0 := (hd 15 (by kernel_rfl)).get 37 rfl rfl
      exact rel_value (wanted_at rfl rfl eg) (.bool true) (by go_simp) rfl
    · rw [if_neg (by decide)]
      intro s a W hb hkp hd
      have e0 : a.tmps[36]?.getD undef = .bool true := (hd 14 (by kernel_rfl)).get 36 rfl rfl
      have e1 : a.tmps[38]?.getD undef = .bool true := (hd 16 (by kernel_rfl)).get 38 rfl rfl
      exact rel_value rfl (.bool true) (by go_simp) rfl
    · rw [if_neg (by decide)]
      intro s a W hb hkp hd
      have e0 : a.tmps[39]?.getD undef = .bool true := (hd 17 (by kernel_rfl)).get 39 rfl rfl
      exact rel_value rfl (.bool true) (by go_simp) rfl
    · rw [if_neg (by decide)]
      intro s a W hb hkp hd
      have eg : a.tmps[40]?.getD undef = .bool true := (hd 18 (by kernel_rfl)).get 40 rfl rfl
      have e0 : a.eval (.tmp 8) = .pointer (some ⟨g8, 0, none⟩) := hkp.at_ (by kernel_rfl)
      exact rel_value (wanted_at rfl rfl eg) (.agg D) (exec_load_part 60 (.tmp 8) rfl g8 0 32 e0 60 _ D _ (K8.out.below' hb) Tryz.underlying60 rfl rfl HDS.out (fun _ _ => by rw [Nat.zero_add])) rfl
    · rw [if_neg (by decide)]
      intro s a W hb hkp hd
      have eg : a.tmps[40]?.getD undef = .bool true := (hd 18 (by kernel_rfl)).get 40 rfl rfl
      have e0 : a.tmps[1]?.getD undef = .pointer (some ⟨g, 0, none⟩) := hkp.get (by kernel_rfl) rfl
      exact rel_value (wanted_at rfl rfl eg) (.pointer (some ⟨g, 0, none⟩)) (by go_simp) rfl
    · rw [if_neg (by decide)]
      intro s a W hb hkp hd
      have eg : a.tmps[40]?.getD undef = .bool true := (hd 18 (by kernel_rfl)).get 40 rfl rfl
      refine rel_call (wanted_at rfl rfl eg) 74 #[] (by go_simp) ((noteNew_any W).mono ?_)
      rintro e w ⟨r, rfl, h1, h2, h3, h4⟩
      exact ⟨_, rfl, h4, r, rfl, Nat.le_trans hb.size h1, RBk.start h3 _⟩
    · rw [if_pos (by decide)]
      intro s a W hs hb hkp hd
      have eg : a.tmps[40]?.getD undef = .bool true := (hd 18 (by kernel_rfl)).get 40 rfl rfl
      have e0 : a.tmps[42]?.getD undef = .pointer (some ⟨g, 0, none⟩) := (hd 20 (by kernel_rfl)).get 42 rfl rfl
      obtain ⟨r, e2, q2, r2⟩ := (hd 21 (by kernel_rfl)).get 43 rfl rfl
      refine loud_call (wanted_at rfl rfl eg) 73 #[.pointer (some ⟨g, 0, none⟩), .pointer (some ⟨r, 0, none⟩)] (by go_simp) ((HRR.out W r hb r2).mono ?_)
      rintro e w ⟨rfl, h1, h2⟩
      have hbw : Below w4.heap.size W w := h2.below hb.size fun b hb1 hb2 => by
        rcases hb2 with e | e
        · omega
        · exact e hb1
      exact ⟨_, rfl, trivial, hb.trans hbw, rfl⟩
    · rw [if_neg (by decide)]
      intro s a W hb hkp hd
      have eg : a.tmps[40]?.getD undef = .bool true := (hd 18 (by kernel_rfl)).get 40 rfl rfl
      have e0 : a.eval (.tmp 41) = .agg D := (hd 19 (by kernel_rfl)) _ 41 rfl rfl
      have e1 : a.eval (.tmp 44) = .agg D := (hd 22 (by kernel_rfl)) _ 44 rfl rfl
      exact rel_value (wanted_at rfl rfl eg) (.bool true) (exec_eql_agg 60 (.tmp 41) (.tmp 44) _ rfl D D e0 e1 eqg16 _ (HEQ.out W)) rfl
    · rw [if_neg (by decide)]
      intro s a W hb hkp hd
      have e0 : a.tmps[40]?.getD undef = .bool true := (hd 18 (by kernel_rfl)).get 40 rfl rfl
      have e1 : a.tmps[45]?.getD undef = .bool true := (hd 23 (by kernel_rfl)).get 45 rfl rfl
      exact rel_value rfl (.bool true) (by go_simp) rfl
    · rw [if_neg (by decide)]
      intro s a W hb hkp hd
      have e0 : a.tmps[46]?.getD undef = .bool true := (hd 24 (by kernel_rfl)).get 46 rfl rfl
      exact rel_value rfl (.bool true) (by go_simp) rfl
    · rw [if_neg (by decide)]
      intro s a W hb hkp hd
      have eg : a.tmps[47]?.getD undef = .bool true := (hd 25 (by kernel_rfl)).get 47 rfl rfl
      have e0 : a.tmps[0]?.getD undef = .pointer (some ⟨V.g, 0, none⟩) := hkp.get (by kernel_rfl) rfl
      exact rel_value (wanted_at rfl rfl eg) (.pointer (some ⟨V.g, 0, none⟩)) (by go_simp) rfl
    · rw [if_neg (by decide)]
      intro s a W hb hkp hd
      have eg : a.tmps[47]?.getD undef = .bool true := (hd 25 (by kernel_rfl)).get 47 rfl rfl
      have e0 : a.tmps[48]?.getD undef = .pointer (some ⟨V.g, 0, none⟩) := (hd 26 (by kernel_rfl)).get 48 rfl rfl
      refine rel_call (wanted_at rfl rfl eg) 32 #[.pointer (some ⟨V.g, 0, none⟩)] (by go_simp) ((HSE.out W hb).mono ?_)
      rintro e w ⟨v, rfl, ho, hb'⟩
      obtain ⟨A, c, h1, h2, _, h4, _⟩ := own_slice_n ho
      rw [← HSN.out] at h1 h2 h4
      exact ⟨v, rfl, hb', A, c, h1, h2, h4⟩
    · rw [if_neg (by decide)]
      intro s a W hb hkp hd
      have eg : a.tmps[47]?.getD undef = .bool true := (hd 25 (by kernel_rfl)).get 47 rfl rfl
      have e0 : a.tmps[1]?.getD undef = .pointer (some ⟨g, 0, none⟩) := hkp.get (by kernel_rfl) rfl
      exact rel_value (wanted_at rfl rfl eg) (.pointer (some ⟨g, 0, none⟩)) (by go_simp) rfl
    · rw [if_neg (by decide)]
      intro s a W hb hkp hd
      have eg : a.tmps[47]?.getD undef = .bool true := (hd 25 (by kernel_rfl)).get 47 rfl rfl
      have e0 : a.tmps[50]?.getD undef = .pointer (some ⟨g, 0, none⟩) := (hd 28 (by kernel_rfl)).get 50 rfl rfl
      exact rel_value (wanted_at rfl rfl eg) (.pointer (some ⟨g, 0, none⟩)) (by go_simp) rfl
    · rw [if_neg (by decide)]
      intro s a W hb hkp hd
      have eg : a.tmps[47]?.getD undef = .bool true := (hd 25 (by kernel_rfl)).get 47 rfl rfl
      have e0 : a.tmps[51]?.getD undef = .pointer (some ⟨g, 0, none⟩) := (hd 29 (by kernel_rfl)).get 51 rfl rfl
      exact rel_value (wanted_at rfl rfl eg) (.pointer (some ⟨g, 138, none⟩)) (by go_simp) rfl
    · rw [if_neg (by decide)]
      intro s a W hb hkp hd
      have eg : a.tmps[47]?.getD undef = .bool true := (hd 25 (by kernel_rfl)).get 47 rfl rfl
      have e0 : a.tmps[52]?.getD undef = .pointer (some ⟨g, 138, none⟩) := (hd 30 (by kernel_rfl)).get 52 rfl rfl
      have cc := HC138.out W hb
      exact rel_value (wanted_at rfl rfl eg) (.slice S.sA sn S.sC) (by go_simp) rfl
    · rw [if_neg (by decide)]
      intro s a W hb hkp hd
      have eg : a.tmps[47]?.getD undef = .bool true := (hd 25 (by kernel_rfl)).get 47 rfl rfl
      have e0 : a.tmps[53]?.getD undef = .slice S.sA sn S.sC := (hd 31 (by kernel_rfl)).get 53 rfl rfl
      obtain ⟨Ab, cb, e2, q2, r2⟩ := (hd 27 (by kernel_rfl)).get 49 rfl rfl
      exact rel_call (wanted_at rfl rfl eg) 75 #[.slice Ab sn cb, .slice S.sA sn S.sC] (by go_simp) ((eqInts_any Ab S.sA sn sn cb S.sC sh sh W W.heap.size W.heap.size r2 ((HSR.out.below hb).more hb.size) HSM.out HSM.out).mono fun e w h => ⟨.bool true, by rw [h.1]; simp, (by obtain ⟨k, hk⟩ := h.2; rw [hk]; exact below_drewN (Below.refl _ _) _), rfl⟩)
    · rw [if_neg (by decide)]
      intro s a W hb hkp hd
      have e0 : a.tmps[47]?.getD undef = .bool true := (hd 25 (by kernel_rfl)).get 47 rfl rfl
      have e1 : a.tmps[54]?.getD undef = .bool true := (hd 32 (by kernel_rfl)).get 54 rfl rfl
      exact rel_value rfl (.bool true) (by go_simp) rfl
    · rw [if_neg (by decide)]
      intro s a W hb hkp hd
      have e0 : a.tmps[55]?.getD undef = .bool true := (hd 33 (by kernel_rfl)).get 55 rfl rfl
      exact rel_value rfl (.bool true) (by go_simp) rfl
    · rw [if_neg (by decide)]
      intro s a W hb hkp hd
      have eg : a.tmps[56]?.getD undef = .bool true := (hd 34 (by kernel_rfl)).get 56 rfl rfl
      have e0 : a.tmps[0]?.getD undef = .pointer (some ⟨V.g, 0, none⟩) := hkp.get (by kernel_rfl) rfl
      exact rel_value (wanted_at rfl rfl eg) (.pointer (some ⟨V.g, 0, none⟩)) (by go_simp) rfl
    · rw [if_neg (by decide)]
      intro s a W hb hkp hd
      have eg : a.tmps[56]?.getD undef = .bool true := (hd 34 (by kernel_rfl)).get 56 rfl rfl
      have e0 : a.tmps[57]?.getD undef = .pointer (some ⟨V.g, 0, none⟩) := (hd 35 (by kernel_rfl)).get 57 rfl rfl
      exact rel_call (wanted_at rfl rfl eg) 33 #[.pointer (some ⟨V.g, 0, none⟩)] (by go_simp) ((HGR.out W hb).mono fun e w h => ⟨_, h.1, by rw [← h.2]; exact Below.refl _ _, rfl⟩)
    · rw [if_neg (by decide)]
      intro s a W hb hkp hd
      have eg : a.tmps[56]?.getD undef = .bool true := (hd 34 (by kernel_rfl)).get 56 rfl rfl
      have e0 : a.tmps[1]?.getD undef = .pointer (some ⟨g, 0, none⟩) := hkp.get (by kernel_rfl) rfl
      exact rel_value (wanted_at rfl rfl eg) (.pointer (some ⟨g, 0, none⟩)) (by go_simp) rfl
    · rw [if_neg (by decide)]
      intro s a W hb hkp hd
      have eg : a.tmps[56]?.getD undef = .bool true := (hd 34 (by kernel_rfl)).get 56 rfl rfl
      have e0 : a.tmps[59]?.getD undef = .pointer (some ⟨g, 0, none⟩) := (hd 37 (by kernel_rfl)).get 59 rfl rfl
      exact rel_value (wanted_at rfl rfl eg) (.pointer (some ⟨g, 0, none⟩)) (by go_simp) rfl
    · rw [if_neg (by decide)]
      intro s a W hb hkp hd
      have eg : a.tmps[56]?.getD undef = .bool true := (hd 34 (by kernel_rfl)).get 56 rfl rfl
      have e0 : a.tmps[60]?.getD undef = .pointer (some ⟨g, 0, none⟩) := (hd 38 (by kernel_rfl)).get 60 rfl rfl
      exact rel_value (wanted_at rfl rfl eg) (.pointer (some ⟨g, 0, none⟩)) (by go_simp) rfl
    · rw [if_neg (by decide)]
      intro s a W hb hkp hd
      have eg : a.tmps[56]?.getD undef = .bool true := (hd 34 (by kernel_rfl)).get 56 rfl rfl
      have e0 : a.tmps[61]?.getD undef = .pointer (some ⟨g, 0, none⟩) := (hd 39 (by kernel_rfl)).get 61 rfl rfl
      have cc := HC0.out W hb
      exact rel_value (wanted_at rfl rfl eg) (.int .i64 (gr : Int)) (by go_simp) rfl
    · rw [if_neg (by decide)]
      intro s a W hb hkp hd
      have eg : a.tmps[56]?.getD undef = .bool true := (hd 34 (by kernel_rfl)).get 56 rfl rfl
      have e0 : a.tmps[58]?.getD undef = .int .i64 (gr : Int) := (hd 36 (by kernel_rfl)).get 58 rfl rfl
      have e1 : a.tmps[62]?.getD undef = .int .i64 (gr : Int) := (hd 40 (by kernel_rfl)).get 62 rfl rfl
      exact rel_value (wanted_at rfl rfl eg) (.bool true) (by go_simp) rfl
    · rw [if_neg (by decide)]
      intro s a W hb hkp hd
      have e0 : a.tmps[56]?.getD undef = .bool true := (hd 34 (by kernel_rfl)).get 56 rfl rfl
      have e1 : a.tmps[63]?.getD undef = .bool true := (hd 41 (by kernel_rfl)).get 63 rfl rfl
      exact rel_value rfl (.bool true) (by go_simp) rfl
    · rw [if_neg (by decide)]
      intro s a W hb hkp hd
      have e0 : a.tmps[64]?.getD undef = .bool true := (hd 42 (by kernel_rfl)).get 64 rfl rfl
      exact rel_value rfl (.bool true) (by go_simp) rfl
    · rw [if_neg (by decide)]
      intro s a W hb hkp hd
      have eg : a.tmps[65]?.getD undef = .bool true := (hd 43 (by kernel_rfl)).get 65 rfl rfl
      have e0 : a.tmps[0]?.getD undef = .pointer (some ⟨V.g, 0, none⟩) := hkp.get (by kernel_rfl) rfl
      exact rel_value (wanted_at rfl rfl eg) (.pointer (some ⟨V.g, 0, none⟩)) (by go_simp) rfl
    · rw [if_neg (by decide)]
      intro s a W hb hkp hd
      have eg : a.tmps[65]?.getD undef = .bool true := (hd 43 (by kernel_rfl)).get 65 rfl rfl
      have e0 : a.tmps[66]?.getD undef = .pointer (some ⟨V.g, 0, none⟩) := (hd 44 (by kernel_rfl)).get 66 rfl rfl
      exact rel_call (wanted_at rfl rfl eg) 27 #[.pointer (some ⟨V.g, 0, none⟩)] (by go_simp) ((HEP.out W hb).mono fun e w h => ⟨_, h.1, by rw [← h.2]; exact Below.refl _ _, rfl⟩)
    · rw [if_neg (by decide)]
      intro s a W hb hkp hd
      have eg : a.tmps[65]?.getD undef = .bool true := (hd 43 (by kernel_rfl)).get 65 rfl rfl
      have e0 : a.tmps[1]?.getD undef = .pointer (some ⟨g, 0, none⟩) := hkp.get (by kernel_rfl) rfl
      exact rel_value (wanted_at rfl rfl eg) (.pointer (some ⟨g, 0, none⟩)) (by go_simp) rfl
    · rw [if_neg (by decide)]
      intro s a W hb hkp hd
      have eg : a.tmps[65]?.getD undef = .bool true := (hd 43 (by kernel_rfl)).get 65 rfl rfl
      have e0 : a.tmps[68]?.getD undef = .pointer (some ⟨g, 0, none⟩) := (hd 46 (by kernel_rfl)).get 68 rfl rfl
      exact rel_value (wanted_at rfl rfl eg) (.pointer (some ⟨g, 0, none⟩)) (by go_simp) rfl
    · rw [if_neg (by decide)]
      intro s a W hb hkp hd
      have eg : a.tmps[65]?.getD undef = .bool true := (hd 43 (by kernel_rfl)).get 65 rfl rfl
      have e0 : a.tmps[69]?.getD undef = .pointer (some ⟨g, 0, none⟩) := (hd 47 (by kernel_rfl)).get 69 rfl rfl
      exact rel_value (wanted_at rfl rfl eg) (.pointer (some ⟨g, 1, none⟩)) (by go_simp) rfl
    · rw [if_neg (by decide)]
      intro s a W hb hkp hd
      have eg : a.tmps[65]?.getD undef = .bool true := (hd 43 (by kernel_rfl)).get 65 rfl rfl
      have e0 : a.tmps[70]?.getD undef = .pointer (some ⟨g, 1, none⟩) := (hd 48 (by kernel_rfl)).get 70 rfl rfl
      have cc := HC1.out W hb
      exact rel_value (wanted_at rfl rfl eg) (.int .i64 (ep : Int)) (by go_simp) rfl
    · rw [if_neg (by decide)]
      intro s a W hb hkp hd
      have eg : a.tmps[65]?.getD undef = .bool true := (hd 43 (by kernel_rfl)).get 65 rfl rfl
      have e0 : a.tmps[67]?.getD undef = .int .i64 (ep : Int) := (hd 45 (by kernel_rfl)).get 67 rfl rfl
      have e1 : a.tmps[71]?.getD undef = .int .i64 (ep : Int) := (hd 49 (by kernel_rfl)).get 71 rfl rfl
      exact rel_value (wanted_at rfl rfl eg) (.bool true) (by go_simp) rfl
    · rw [if_neg (by decide)]
      intro s a W hb hkp hd
      have e0 : a.tmps[65]?.getD undef = .bool true := (hd 43 (by kernel_rfl)).get 65 rfl rfl
      have e1 : a.tmps[72]?.getD undef = .bool true := (hd 50 (by kernel_rfl)).get 72 rfl rfl
      exact rel_value rfl (.bool true) (by go_simp) rfl
  intro f W hbW hd
  have f73 : f 73 = .bool true := hd 51 (by omega) (by decide) _ 73 rfl rfl
  have HLW := Lib.hid (HB4.out.trans (hbW.mono hs4))
  clear hd hbW
  simp only [putAll, List.drop_succ_cons, List.drop_zero, f73]
  try simp only [Act.put, List.setIfInBounds_toArray, List.set_cons_zero, List.set_cons_succ]
  go_wp2_with fail
  go_ret
  exact ⟨rfl, HLW.out⟩

end Go.Proofs.YtcpngeiahgoacaaGreat

/- Bytes that a loop adds one to. -/
namespace Go.Proofs.YtcpngeiahgoacaaGreat
set_option linter.unusedVariables false
open Go.RowKit

def InB (w : World) (v : Value) (t : Nat) : Prop := t = 0 ∨ ∃ gi cap cur, v = .slice (some ⟨gi, 0, none⟩) t cap ∧ Blk w gi 5 cur ∧ ∀ p, p < t → ∃ x : UInt8, cur[p]? = some (vb x)
theorem InB.of_own {w : World} {B : Nat} {v : Value} {xs : List UInt8} (h : OwnB w B v xs) : InB w v xs.length := by
  rcases h.2 with ⟨_, h0⟩ | ⟨g, cap, cur, rfl, hg, hh, h1, h2, h3, h4⟩
  · exact .inl h0
  · refine .inr ⟨g, cap, cur, rfl, hh, fun p hp => ⟨xs[p], ?_⟩⟩
    have : (cur.toList.take (xs.length * 1))[p]? = some (vb xs[p]) := by rw [h4, List.getElem?_map, List.getElem?_eq_getElem hp]; rfl
    rw [Nat.mul_one, List.getElem?_take, if_pos hp] at this
    simpa using this
theorem bump_byte (x : UInt8) : (bi x + 1) % 256 = bi (x + 1) := by
  unfold bi; rw [UInt8.toNat_add]; simp
theorem bump_set {cur : Array Value} {t j : Nat} (h : ∀ p, p < t → ∃ x : UInt8, cur[p]? = some (vb x)) (u : UInt8) : ∀ p, p < t → ∃ x : UInt8, (cur.setIfInBounds j (vb u))[p]? = some (vb x) := fun p hp => by
  obtain ⟨y, hy⟩ := h p hp
  by_cases e : j = p
  · subst e
    exact ⟨u, by rw [Array.getElem?_setIfInBounds, if_pos rfl, if_pos (by rcases Nat.lt_or_ge j cur.size with h | h; exact h; rw [Array.getElem?_eq_none h] at hy; cases hy)]⟩
  · exact ⟨y, by rw [Array.getElem?_setIfInBounds, if_neg e]; exact hy⟩

end Go.Proofs.YtcpngeiahgoacaaGreat
