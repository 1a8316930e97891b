/- Parts of the proof, in one text: TreeM, NumMath, BinNum, BinJoin, Slice, Rel. -/
import Derived.Test.YtdpoedgjehofiaaGreatZ6
import Derived.Test.YtdpoedgjehofiaaGreatZ1
import Derived.Test.YtdpoedgjehofiaaGreatZ4
import Derived.Lib.SliceRun
import Derived.Test.YtdpoedgjehofiaaGreatZ2
import Derived.Test.YtdpoedgjehofiaaGreatZ5

/- Trees of digests in plain words: leaves, groups of four, the level above, what a root says of its leaves. -/
namespace Go.Proofs.YtdpoedgjehofiaaGreat
set_option linter.unusedVariables false

def leafIn (x : List UInt8) : List UInt8 := 0 :: x
def leafD (x : List UInt8) : List UInt8 := shaOf (leafIn x)
def upIn (ds : List (List UInt8)) : List UInt8 := 1 :: ds.flatten
def upD (ds : List (List UInt8)) : List UInt8 := shaOf (upIn ds)
def grp (ds : List (List UInt8)) (p : Nat) : List (List UInt8) := (ds.drop (4 * p)).take 4
def grps (n : Nat) : Nat := (n + 3) / 4
def aboveL (ds : List (List UInt8)) : List (List UInt8) := (List.range (grps ds.length)).map fun p => upD (grp ds p)
def Digs (ds : List (List UInt8)) : Prop := ∀ d, d ∈ ds → d.length = 32

theorem leafD_len (x : List UInt8) : (leafD x).length = 32 := shaOf_len _
theorem upD_len (ds : List (List UInt8)) : (upD ds).length = 32 := shaOf_len _
theorem aboveL_len (ds : List (List UInt8)) : (aboveL ds).length = grps ds.length := by simp [aboveL]
theorem aboveL_digs (ds : List (List UInt8)) : Digs (aboveL ds) := fun d hd => by
  obtain ⟨p, _, rfl⟩ := List.mem_map.1 hd
  exact upD_len _
theorem leaves_digs (ls : List (List UInt8)) : Digs (ls.map leafD) := fun d hd => by
  obtain ⟨p, _, rfl⟩ := List.mem_map.1 hd
  exact leafD_len _
theorem grp_digs {ds : List (List UInt8)} (h : Digs ds) (p : Nat) : Digs (grp ds p) := fun d hd => h d (List.mem_of_mem_drop (List.mem_of_mem_take hd))
theorem grp_len (ds : List (List UInt8)) (p : Nat) : (grp ds p).length = min 4 (ds.length - 4 * p) := by simp [grp]
theorem grp_le (ds : List (List UInt8)) (p : Nat) : (grp ds p).length ≤ 4 := by rw [grp_len]; omega
theorem digs_flat_len : ∀ {ds : List (List UInt8)}, Digs ds → ds.flatten.length = 32 * ds.length
  | [], _ => rfl
  | d :: t, h => by
    have h1 := h d (List.mem_cons_self ..)
    have h2 := digs_flat_len (ds := t) fun e he => h e (List.mem_cons_of_mem _ he)
    simp only [List.flatten_cons, List.length_append, List.length_cons]
    omega
theorem upIn_len {ds : List (List UInt8)} (h : Digs ds) : (upIn ds).length = 1 + 32 * ds.length := by
  unfold upIn
  rw [List.length_cons, digs_flat_len h]
  omega
theorem Digs.set {ds : List (List UInt8)} (h : Digs ds) (i : Nat) {d : List UInt8} (hd : d.length = 32) : Digs (ds.set i d) := fun e he => by
  rcases List.mem_or_eq_of_mem_set he with h1 | rfl
  · exact h e h1
  · exact hd
theorem grp_get (ds : List (List UInt8)) (p j : Nat) : (grp ds p)[j]? = if j < 4 then ds[4 * p + j]? else none := by
  unfold grp
  rw [List.getElem?_take]
  split <;> simp
theorem grp_set_far (ds : List (List UInt8)) (i p : Nat) (d : List UInt8) (h : p ≠ i / 4) : grp (ds.set i d) p = grp ds p := by
  apply List.ext_getElem?
  intro j
  rw [grp_get, grp_get]
  split
  · rename_i hj
    rw [List.getElem?_set]
    rw [if_neg (by omega)]
  · rfl
theorem aboveL_get (ds : List (List UInt8)) (p : Nat) : (aboveL ds)[p]? = if p < grps ds.length then some (upD (grp ds p)) else none := by
  unfold aboveL
  rw [List.getElem?_map]
  split
  · rename_i h; rw [List.getElem?_range h]; rfl
  · rename_i h; rw [List.getElem?_eq_none (by simpa using h)]; rfl
/-- one digest is turned: so is the one above it -/
theorem aboveL_set (ds : List (List UInt8)) (i : Nat) (d : List UInt8) (h : i < ds.length) : aboveL (ds.set i d) = (aboveL ds).set (i / 4) (upD (grp (ds.set i d) (i / 4))) := by
  apply List.ext_getElem?
  intro p
  rw [List.getElem?_set, aboveL_get, aboveL_get, List.length_set]
  by_cases hp : i / 4 = p
  · subst hp
    rw [if_pos rfl, if_pos (by unfold grps; omega), aboveL_len, if_pos (by unfold grps; omega)]
  · rw [if_neg hp, grp_set_far _ _ _ _ (fun e => hp e.symm)]

/-- the three levels over 5 to 16 leaves -/
def lv (ls : List (List UInt8)) : Nat → List (List UInt8)
  | 0 => ls.map leafD
  | n + 1 => aboveL (lv ls n)
def rootL (ls : List (List UInt8)) : List UInt8 := (lv ls 2).getD 0 []
theorem lv_digs (ls : List (List UInt8)) : ∀ n, Digs (lv ls n)
  | 0 => leaves_digs ls
  | n + 1 => aboveL_digs _
theorem lv_len0 (ls : List (List UInt8)) : (lv ls 0).length = ls.length := by simp [lv]
theorem lv_len1 (ls : List (List UInt8)) : (lv ls 1).length = grps ls.length := by
  show (aboveL (lv ls 0)).length = _
  rw [aboveL_len, lv_len0]
theorem lv_len2 (ls : List (List UInt8)) : (lv ls 2).length = grps (grps ls.length) := by
  show (aboveL (lv ls 1)).length = _
  rw [aboveL_len, lv_len1]
theorem lv_one (ls : List (List UInt8)) (h1 : 5 ≤ ls.length) (h2 : ls.length ≤ 16) : lv ls 2 = [rootL ls] ∧ (rootL ls).length = 32 := by
  have h := lv_len2 ls
  have hl : (lv ls 2).length = 1 := by rw [h]; unfold grps; omega
  obtain ⟨d, hd⟩ := List.length_eq_one_iff.1 hl
  have hr : rootL ls = d := by unfold rootL; rw [hd]; rfl
  rw [hr]
  exact ⟨hd, lv_digs ls 2 d (by rw [hd]; exact List.mem_singleton.2 rfl)⟩
theorem rootL_up (ls : List (List UInt8)) (h1 : 5 ≤ ls.length) (h2 : ls.length ≤ 16) : rootL ls = upD (lv ls 1) := by
  unfold rootL
  show (aboveL (lv ls 1)).getD 0 [] = _
  have hl := lv_len1 ls
  have e : (aboveL (lv ls 1))[0]? = some (upD (grp (lv ls 1) 0)) := by rw [aboveL_get, if_pos (by rw [hl]; unfold grps; omega)]
  rw [List.getD_eq_getElem?_getD, e]
  show upD (grp (lv ls 1) 0) = _
  congr 1
  unfold grp
  rw [Nat.mul_zero, List.drop_zero, List.take_of_length_le]
  rw [hl]; unfold grps; omega
/-- one leaf is turned -/
theorem lv_set0 (ls : List (List UInt8)) (i : Nat) (x : List UInt8) : lv (ls.set i x) 0 = (lv ls 0).set i (leafD x) := by
  simp [lv, List.map_set]
theorem lv_set1 (ls : List (List UInt8)) (i : Nat) (x : List UInt8) (h : i < ls.length) : lv (ls.set i x) 1 = (lv ls 1).set (i / 4) (upD (grp (lv (ls.set i x) 0) (i / 4))) := by
  show aboveL (lv (ls.set i x) 0) = _
  rw [lv_set0]
  exact aboveL_set _ _ _ (by rw [lv_len0]; exact h)
theorem lv_set2 (ls : List (List UInt8)) (i : Nat) (x : List UInt8) (h : i < ls.length) : lv (ls.set i x) 2 = (lv ls 2).set (i / 4 / 4) (upD (grp (lv (ls.set i x) 1) (i / 4 / 4))) := by
  show aboveL (lv (ls.set i x) 1) = _
  rw [lv_set1 ls i x h]
  exact aboveL_set _ _ _ (by rw [lv_len1]; unfold grps; omega)

/-- all that a tree digests is in the book -/
structure InBook (L : List (List UInt8)) (ls : List (List UInt8)) : Prop where
  leaf : ∀ x, x ∈ ls → leafIn x ∈ L
  one : ∀ p, p < grps ls.length → upIn (grp (lv ls 0) p) ∈ L
  two : upIn (lv ls 1) ∈ L
theorem InBook.more {L L' ls : List (List UInt8)} (h : InBook L ls) (hs : ∀ x, x ∈ L → x ∈ L') : InBook L' ls := ⟨fun x hx => hs _ (h.leaf x hx), fun p hp => hs _ (h.one p hp), hs _ h.two⟩
theorem InBook.set {L L' ls : List (List UInt8)} {i : Nat} {x : List UInt8} (h : InBook L ls) (hi : i < ls.length) (hs : ∀ y, y ∈ L → y ∈ L') (h0 : leafIn x ∈ L') (h1 : upIn (grp (lv (ls.set i x) 0) (i / 4)) ∈ L') (h2 : upIn (lv (ls.set i x) 1) ∈ L') : InBook L' (ls.set i x) := by
  refine ⟨fun y hy => ?_, fun p hp => ?_, h2⟩
  · rcases List.mem_or_eq_of_mem_set hy with hm | rfl
    · exact hs _ (h.leaf y hm)
    · exact h0
  · by_cases he : p = i / 4
    · subst he; exact h1
    · rw [lv_set0, grp_set_far _ _ _ _ he]
      rw [List.length_set] at hp
      exact hs _ (h.one p hp)
theorem flatten_inj : ∀ {cs bs : List (List UInt8)}, Digs cs → Digs bs → cs.flatten = bs.flatten → cs = bs
  | [], [], _, _, _ => rfl
  | [], b :: t, _, hb, h => by
    have := congrArg List.length h
    rw [digs_flat_len hb] at this
    simp at this
  | a :: t, [], ha, _, h => by
    have := congrArg List.length h
    rw [digs_flat_len ha] at this
    simp at this
  | a :: s, b :: t, ha, hb, h => by
    have h1 := ha a (List.mem_cons_self ..)
    have h2 := hb b (List.mem_cons_self ..)
    rw [List.flatten_cons, List.flatten_cons] at h
    obtain ⟨e1, e2⟩ := List.append_inj h (by rw [h1, h2])
    rw [e1, flatten_inj (fun e he => ha e (List.mem_cons_of_mem _ he)) (fun e he => hb e (List.mem_cons_of_mem _ he)) e2]
theorem list_of_grps {cs bs : List (List UInt8)} (hl : cs.length = bs.length) (h : ∀ p, p < grps cs.length → grp cs p = grp bs p) : cs = bs := by
  apply List.ext_getElem?
  intro j
  rcases Nat.lt_or_ge j cs.length with hj | hj
  · have h1 := congrArg (·[j % 4]?) (h (j / 4) (by unfold grps; omega))
    simp only [grp_get] at h1
    rw [if_pos (by omega), if_pos (by omega), show 4 * (j / 4) + j % 4 = j by omega] at h1
    exact h1
  · rw [List.getElem?_eq_none (by omega), List.getElem?_eq_none (by omega)]
/-- as long as there is no clash, the root says all leaves -/
theorem root_inj {L cs bs : List (List UInt8)} (hc : clashB L = false) (ha : InBook L cs) (hb : InBook L bs) (hl : cs.length = bs.length) (h1 : 5 ≤ cs.length) (h2 : cs.length ≤ 16) (h : rootL cs = rootL bs) : cs = bs := by
  have inj : ∀ x y, x ∈ L → y ∈ L → shaOf x = shaOf y → x = y := fun x y hx hy e => by
    by_cases hxy : x = y
    · exact hxy
    · have : clashB L = true := (clashB_iff L).2 (.inr ⟨x, y, hx, hy, hxy, e⟩)
      rw [hc] at this; cases this
  rw [rootL_up cs h1 h2, rootL_up bs (by omega) (by omega)] at h
  have e1 := inj _ _ ha.two hb.two h
  have e2 : lv cs 1 = lv bs 1 := flatten_inj (lv_digs _ _) (lv_digs _ _) (List.cons.inj e1).2
  have e3 : lv cs 0 = lv bs 0 := by
    refine list_of_grps (by rw [lv_len0, lv_len0, hl]) fun p hp => ?_
    rw [lv_len0] at hp
    have e4 := congrArg (·[p]?) e2
    have g1 : (lv cs 1)[p]? = some (upD (grp (lv cs 0) p)) := by
      show (aboveL (lv cs 0))[p]? = _
      rw [aboveL_get, if_pos (by rw [lv_len0]; exact hp)]
    have g2 : (lv bs 1)[p]? = some (upD (grp (lv bs 0) p)) := by
      show (aboveL (lv bs 0))[p]? = _
      rw [aboveL_get, if_pos (by rw [lv_len0, ← hl]; exact hp)]
    simp only [g1, g2, Option.some.injEq] at e4
    have e5 := inj _ _ (ha.one p hp) (hb.one p (by rw [← hl]; exact hp)) e4
    exact flatten_inj (grp_digs (lv_digs _ _) _) (grp_digs (lv_digs _ _) _) (List.cons.inj e5).2
  apply List.ext_getElem?
  intro j
  rcases Nat.lt_or_ge j cs.length with hj | hj
  · have hj' : j < bs.length := by omega
    have e6 := congrArg (·[j]?) e3
    have q1 : (lv cs 0)[j]? = some (leafD cs[j]) := by show (cs.map leafD)[j]? = _; simp [hj]
    have q2 : (lv bs 0)[j]? = some (leafD bs[j]) := by show (bs.map leafD)[j]? = _; simp [hj']
    simp only [q1, q2, Option.some.injEq] at e6
    have e7 := inj _ _ (ha.leaf _ (List.getElem_mem hj)) (hb.leaf _ (List.getElem_mem hj')) e6
    rw [List.getElem?_eq_getElem hj, List.getElem?_eq_getElem hj', (List.cons.inj e7).2]
  · rw [List.getElem?_eq_none (by omega), List.getElem?_eq_none (by omega)]

end Go.Proofs.YtdpoedgjehofiaaGreat

/- Numbers as bytes: how many digits, which. -/
namespace Go.Proofs.YtdpoedgjehofiaaGreat
set_option linter.unusedVariables false

/-- how many digits of 256 a number has -/
def nd (n : Nat) : Nat := if h : n = 0 then 0 else nd (n / 256) + 1
theorem nd_zero : nd 0 = 0 := by unfold nd; simp
theorem nd_pos {n : Nat} (h : n ≠ 0) : nd n = nd (n / 256) + 1 := by rw [nd]; simp [h]
theorem nd_gt (n : Nat) : ∀ j, (0 < n / 256 ^ j ↔ j < nd n) := by
  induction n using Nat.strongRecOn with
  | _ n ih =>
    intro j
    by_cases h : n = 0
    · subst h; simp [nd_zero]
    · rw [nd_pos h]
      cases j with
      | zero => simp; omega
      | succ j =>
        rw [Nat.pow_succ, Nat.mul_comm, ← Nat.div_div_eq_div_mul, ih (n / 256) (by omega) j]
        omega
theorem nd_le {n k : Nat} (h : n < 256 ^ k) : nd n ≤ k := by
  rcases Nat.lt_or_ge k (nd n) with h1 | h1
  · have := (nd_gt n k).2 h1
    rw [Nat.div_eq_of_lt h] at this
    omega
  · exact h1
/-- digit i of k, the highest first -/
def dig (n k i : Nat) : UInt8 := UInt8.ofNat (n / 256 ^ (k - 1 - i) % 256)
def digs (n k : Nat) : List UInt8 := (List.range k).map (dig n k)
theorem digs_len (n k : Nat) : (digs n k).length = k := by simp [digs]
theorem digs_succ (n k : Nat) : digs n (k + 1) = digs (n / 256) k ++ [UInt8.ofNat (n % 256)] := by
  unfold digs
  rw [List.range_succ, List.map_append]
  congr 1
  · apply List.map_congr_left
    intro i hi
    have hi := List.mem_range.1 hi
    unfold dig
    rw [show k + 1 - 1 - i = (k - 1 - i) + 1 by omega, Nat.pow_succ, Nat.mul_comm, ← Nat.div_div_eq_div_mul]
  · simp [dig]
/-- the bytes of a number -/
def numB (n : Nat) : List UInt8 := UInt8.ofNat (nd n) :: digs n (nd n)
def valB (l : List UInt8) : Nat := l.foldl (fun a b => a * 256 + b.toNat) 0
theorem valB_snoc (l : List UInt8) (b : UInt8) : valB (l ++ [b]) = valB l * 256 + b.toNat := by simp [valB, List.foldl_append]
theorem split_last (l : List UInt8) (k : Nat) (h : l.length = k + 1) : l = l.take k ++ [l[k]'(by omega)] := by
  rw [List.take_append_getElem (by omega), ← h, List.take_length]
theorem valB_lt (k : Nat) : ∀ l : List UInt8, l.length = k → valB l < 256 ^ k := by
  induction k with
  | zero => intro l h; rw [List.eq_nil_of_length_eq_zero h]; decide
  | succ k ih =>
    intro l h
    rw [split_last l k h, valB_snoc, Nat.pow_succ]
    have h1 := ih (l.take k) (by simp; omega)
    have h2 := (l[k]'(by omega)).toNat_lt
    omega
theorem valB_digs (k : Nat) : ∀ n, valB (digs n k) = n % 256 ^ k := by
  induction k with
  | zero => intro n; simp [digs, valB, Nat.mod_one]
  | succ k ih =>
    intro n
    have e : 256 ^ (k + 1) = 256 * 256 ^ k := by rw [Nat.pow_succ, Nat.mul_comm]
    rw [digs_succ, valB_snoc, ih, UInt8.toNat_ofNat', e, Nat.mod_mul]
    generalize n / 256 % 256 ^ k = y
    omega
theorem lt_nd (n : Nat) : n < 256 ^ nd n := by
  have h := nd_gt n (nd n)
  rcases Nat.lt_or_ge n (256 ^ nd n) with h1 | h1
  · exact h1
  · have : 0 < n / 256 ^ nd n := Nat.div_pos h1 (Nat.pow_pos (by omega))
    exact absurd (h.1 this) (by omega)
theorem valB_numB (n : Nat) : valB (digs n (nd n)) = n := by rw [valB_digs, Nat.mod_eq_of_lt (lt_nd n)]
theorem digs_zero (n k : Nat) (h : 0 < k) : (digs n k).head? = some (UInt8.ofNat (n / 256 ^ (k - 1) % 256)) := by
  unfold digs
  cases k with
  | zero => omega
  | succ k => simp [List.range_succ_eq_map, dig]
theorem digs_head (n : Nat) (h : 0 < nd n) : (digs n (nd n)).head? ≠ some 0 := by
  rw [digs_zero n _ h]
  intro he
  injection he with he
  have h1 := (nd_gt n (nd n - 1)).2 (by omega)
  have h2 := lt_nd n
  have h3 : n / 256 ^ (nd n - 1) < 256 := by
    have e : 256 ^ nd n = 256 ^ (nd n - 1) * 256 := by rw [← Nat.pow_succ]; congr 1; omega
    rw [Nat.div_lt_iff_lt_mul (Nat.pow_pos (by omega)), Nat.mul_comm, ← e]
    exact h2
  have h4 := congrArg UInt8.toNat he
  rw [UInt8.toNat_ofNat', Nat.mod_eq_of_lt h3, Nat.mod_eq_of_lt (by omega)] at h4
  have h5 : (0 : UInt8).toNat = 0 := rfl
  omega
theorem digs_back (k : Nat) : ∀ l : List UInt8, l.length = k → digs (valB l) k = l := by
  induction k with
  | zero => intro l h; rw [List.eq_nil_of_length_eq_zero h]; rfl
  | succ k ih =>
    intro l h
    have hl := split_last l k h
    have hb := (l[k]'(by omega)).toNat_lt
    have hv : valB l = valB (l.take k) * 256 + (l[k]'(by omega)).toNat := by rw [← valB_snoc, ← hl]
    rw [digs_succ, hv, show (valB (l.take k) * 256 + (l[k]'(by omega)).toNat) / 256 = valB (l.take k) by omega, show (valB (l.take k) * 256 + (l[k]'(by omega)).toNat) % 256 = (l[k]'(by omega)).toNat by omega, ih _ (by simp; omega)]
    rw [UInt8.ofNat_toNat]
    exact hl.symm
theorem valB_ge (l : List UInt8) (k : Nat) (h : l.length = k + 1) (h0 : l.head? ≠ some 0) : 256 ^ k ≤ valB l := by
  induction k generalizing l with
  | zero =>
    match l, h with
    | [b], _ =>
      have : b.toNat ≠ 0 := fun e => h0 (by simp; exact UInt8.toNat_inj.1 e)
      simp [valB]; omega
  | succ k ih =>
    have hl := split_last l (k + 1) h
    have hv : valB l = valB (l.take (k + 1)) * 256 + (l[k + 1]'(by omega)).toNat := by rw [← valB_snoc, ← hl]
    have h1 := ih (l.take (k + 1)) (by simp; omega) (by rw [List.head?_take]; simpa using h0)
    rw [hv, Nat.pow_succ]
    omega
theorem nd_back (l : List UInt8) (h0 : 0 < l.length → l.head? ≠ some 0) : nd (valB l) = l.length := by
  have h1 : nd (valB l) ≤ l.length := nd_le (valB_lt _ l rfl)
  cases hk : l.length with
  | zero => omega
  | succ k =>
    have h2 := valB_ge l k hk (h0 (by omega))
    have h3 : 0 < valB l / 256 ^ k := Nat.div_pos h2 (Nat.pow_pos (by omega))
    have := (nd_gt (valB l) k).1 h3
    omega
theorem numB_back (m : UInt8) (l : List UInt8) (hm : m.toNat = l.length) (h0 : 0 < l.length → l.head? ≠ some 0) : numB (valB l) = m :: l := by
  unfold numB
  rw [nd_back l h0, digs_back _ l rfl, ← hm, UInt8.ofNat_toNat]
def maxN : Nat := 9007199254740991
theorem nd_max {n : Nat} (h : n ≤ maxN) : nd n ≤ 7 := nd_le (by unfold maxN at h; omega)

/-- a number is taken off -/
def takeN (b : List UInt8) : Except Nat (Nat × List UInt8) :=
  match b with
  | [] => .error 3
  | m :: r =>
    if 7 < m.toNat then .error 4
    else if r.length < m.toNat then .error 3
    else if 0 < m.toNat ∧ r.head? = some 0 then .error 4
    else if maxN < valB (r.take m.toNat) then .error 9
    else .ok (valB (r.take m.toNat), r.drop m.toNat)
theorem nd_byte {n : Nat} (h : n ≤ maxN) : (UInt8.ofNat (nd n)).toNat = nd n := by
  have := nd_max h
  rw [UInt8.toNat_ofNat', Nat.mod_eq_of_lt (by omega)]
theorem takeN_num {n : Nat} (h : n ≤ maxN) (r : List UInt8) : takeN (numB n ++ r) = .ok (n, r) := by
  have h7 := nd_max h
  unfold takeN numB
  simp only [List.cons_append, nd_byte h]
  rw [if_neg (by omega), if_neg (by simp [digs_len]), if_neg, List.take_left' (digs_len _ _), List.drop_left' (digs_len _ _), valB_numB, if_neg (by omega)]
  rintro ⟨h1, h2⟩
  refine digs_head n h1 ?_
  cases hd : digs n (nd n) with
  | nil => have := digs_len n (nd n); rw [hd] at this; simp at this; omega
  | cons a t => rw [hd] at h2; simpa using h2
theorem takeN_back {b r : List UInt8} {n : Nat} (h : takeN b = .ok (n, r)) : b = numB n ++ r ∧ n ≤ maxN := by
  unfold takeN at h
  match b, h with
  | m :: t, h =>
    simp only at h
    split at h
    · cases h
    · split at h
      · cases h
      · split at h
        · cases h
        · rename_i h1 h2 h3
          split at h
          · cases h
          · rename_i h4
            injection h with h
            injection h with h5 h6
            subst h5 h6
            refine ⟨?_, by omega⟩
            have hl : (t.take m.toNat).length = m.toNat := by simp; omega
            rw [numB_back m (t.take m.toNat) hl.symm (fun hp => by
              rw [List.head?_take, if_neg (by omega)]
              exact fun e => h3 ⟨by omega, e⟩), List.cons_append, List.take_append_drop]
theorem numB_len {n : Nat} (h : n ≤ maxN) : 1 ≤ (numB n).length ∧ (numB n).length ≤ 8 := by
  have := nd_max h
  unfold numB
  simp [digs_len]
  omega
theorem takeN_cut {n : Nat} (h : n ≤ maxN) {k : Nat} (hk : k < (numB n).length) : takeN ((numB n).take k) = .error 3 := by
  have h7 := nd_max h
  cases k with
  | zero => rfl
  | succ k =>
    unfold numB at hk ⊢
    simp only [List.length_cons, digs_len] at hk
    unfold takeN
    simp only [List.take_succ_cons, nd_byte h]
    rw [if_neg (by omega), if_pos (by simp [digs_len]; omega)]

/-- so many bytes are taken off -/
def takeF (b : List UInt8) (n : Nat) : Except Nat (List UInt8 × List UInt8) := if b.length < n then .error 3 else .ok (b.take n, b.drop n)
/-- a text is taken off -/
def takeS (b : List UInt8) (most : Nat) : Except Nat (List UInt8 × List UInt8) :=
  match takeN b with
  | .error e => .error e
  | .ok (n, r) => if min most 65536 < n then .error 5 else takeF r n
def strB (s : List UInt8) : List UInt8 := numB s.length ++ s
theorem takeS_str {s : List UInt8} {most : Nat} (h : s.length ≤ min most 65536) (r : List UInt8) : takeS (strB s ++ r) most = .ok (s, r) := by
  unfold takeS strB
  rw [List.append_assoc, takeN_num (by unfold maxN; omega)]
  simp only
  rw [if_neg (by omega)]
  unfold takeF
  rw [if_neg (by simp), List.take_left, List.drop_left]
theorem takeS_back {b s r : List UInt8} {most : Nat} (h : takeS b most = .ok (s, r)) : b = strB s ++ r ∧ s.length ≤ min most 65536 := by
  unfold takeS at h
  cases hn : takeN b with
  | error e => rw [hn] at h; cases h
  | ok p =>
    obtain ⟨n, t⟩ := p
    rw [hn] at h
    simp only at h
    split at h
    · cases h
    · rename_i h1
      unfold takeF at h
      split at h
      · cases h
      · rename_i h2
        injection h with h
        injection h with h3 h4
        subst h3 h4
        have hl : (t.take n).length = n := by simp; omega
        refine ⟨?_, by rw [hl]; omega⟩
        unfold strB
        rw [hl, List.append_assoc, List.take_append_drop]
        exact (takeN_back hn).1
theorem takeS_cut {s : List UInt8} {most : Nat} (h : s.length ≤ min most 65536) {k : Nat} (hk : k < (strB s).length) : takeS ((strB s).take k) most = .error 3 := by
  have hm : s.length ≤ maxN := by unfold maxN; omega
  unfold takeS strB
  unfold strB at hk
  rcases Nat.lt_or_ge k (numB s.length).length with h1 | h1
  · rw [List.take_append_of_le_length (by omega), takeN_cut hm h1]
  · rw [List.take_append, List.take_of_length_le h1, takeN_num hm]
    simp only
    rw [if_neg (by omega)]
    unfold takeF
    rw [if_pos (by simp at hk ⊢; omega)]

end Go.Proofs.YtdpoedgjehofiaaGreat

/- Contract of bin.Num. -/
namespace Go.Proofs.YtdpoedgjehofiaaGreat
set_option linter.unusedVariables false
open Go.RowKit

theorem reads_first (w : World) (x : Value) (t : TypeId) : Reads (w.alloc (.cells #[x] t)) (w.heap.size + 1) 1 (some ⟨w.heap.size, 0, none⟩) 1 [x] :=
  ⟨rfl, fun _ => ⟨_, rfl, Nat.lt_succ_self _, cell_one_new w x t⟩⟩

theorem shr_nat (n j : Nat) : (n : Int) / 2 ^ (8 * j) = ((n / 256 ^ j : Nat) : Int) := by
  rw [Nat.pow_mul 2 8 j |> fun h => (show (2 : Int) ^ (8 * j) = ((2 ^ (8 * j) : Nat) : Int) by simp)]
  rw [Nat.pow_mul]
  simp
set_option maxRecDepth 100000 in
set_option maxHeartbeats 1000000 in
theorem binNum_any (n : Nat) (hn : n ≤ maxN) (w : World) :
    Calls Tryz.prog 148 #[.int .i64 (n : Int)] w fun e w' => ∃ v, e = .returned (.tuple #[v, .int .i64 0]) ∧ OwnB w' w.heap.size v (numB n) ∧ Below w.heap.size w w' := by
  have h7 := nd_max hn
  unfold maxN at hn
  obtain ⟨i0, hi0, hz0, hz1, hz2⟩ := info_parts u8_info
  go_enter Tryz.func148, Tryz.ntmps148
  go_wp2_with fail
  go_loopw [4] (fun mv wr => ∃ j : Nat, j ≤ nd n ∧ mv = .int .i64 j ∧ w = wr) (fun mv _ => 8 - (intOf mv).toNat)
  case atStart => exact ⟨0, by omega, rfl, rfl⟩
  case round =>
    obtain ⟨j, hj, rfl, rfl⟩ := hrel
    by_cases hjn : j < nd n
    · have hsh : (0 : Int) < (n : Int) / 2 ^ (8 * j) := by rw [shr_nat]; have := (nd_gt n j).2 hjn; omega
      go_wp2_with fail
      go_roundw
      case rel => exact ⟨j + 1, by omega, by go_num, trivial⟩
      case measure => simp [intOf]; omega
    · obtain rfl : j = nd n := by omega
      have hsh : ¬ (0 : Int) < (n : Int) / 2 ^ (8 * nd n) := by rw [shr_nat]; have := (nd_gt n (nd n)); omega
      go_wp2_with fail
      clear hsh
      have hX : Below w.heap.size w (w.alloc (.cells #[.int .u8 (nd n : Int)] 5)) := (Below.refl _ _).alloc (Nat.le_refl _) _
      have hb0 : vb (UInt8.ofNat (nd n)) = .int .u8 (nd n : Int) := by unfold vb bi; rw [nd_byte hn]
      have ho : OwnB (w.alloc (.cells #[.int .u8 (nd n : Int)] 5)) w.heap.size (.slice (some ⟨w.heap.size, 0, none⟩) 1 1) ((numB n).take 1) := by
        rw [← hb0]
        exact ⟨rfl, .inr ⟨w.heap.size, 1, _, rfl, Nat.le_refl _, heap_alloc_new w _, Nat.le_refl _, by unfold maxLen; omega, rfl, rfl⟩⟩
      have HO := Lib.hid ho
      have HX := Lib.hid hX
      clear ho hX hb0
      go_loopw [5, 24] (fun ov iv w2 => ∃ (i : Nat), i ≤ nd n ∧ iv = .int .i64 i ∧ OwnB w2 w.heap.size ov ((numB n).take (i + 1)) ∧ Below w.heap.size w w2) (fun _ iv _ => nd n - (intOf iv).toNat)
      case atStart => exact ⟨0, by omega, rfl, HO.out, HX.out⟩
      case round =>
        obtain ⟨i, hi, rfl, hov, hbel⟩ := hrel
        have hown := hov
        unfold OwnB at hown
        have HOV := Lib.hid hov
        have HWN := Lib.hid hown
        have HB := Lib.hid hbel
        have hsz := hbel.size
        clear hov hown hbel
        have hlen : (numB n).length = nd n + 1 := by simp [numB, digs_len]
        by_cases hin : i < nd n
        · have hd : vb (dig n (nd n) i) = .int .u8 ((n : Int) / 2 ^ (8 * (nd n - 1 - i)) % 256) := by
            rw [shr_nat]; unfold vb bi dig; rw [UInt8.toNat_ofNat']; congr 1; omega
          have hnext : (numB n).take (i + 1 + 1) = (numB n).take (i + 1) ++ [dig n (nd n) i] := by
            rw [List.take_succ_eq_append_getElem (by omega)]
            simp [numB, digs]
          have HD := Lib.hid hd
          have HNX := Lib.hid hnext
          have hti : ((numB n).take (i + 1)).length = i + 1 := by rw [List.length_take]; omega
          have HTI := Lib.hid hti
          clear hd hnext hlen hti
          go_wp2_with (at_builtin; go_must (refine wpList_append_any _ rfl (.tmp 27) (.tmp 36) 22 rfl w.heap.size 5 i0 _ 1 1 Tryz.underlying22 hi0 hz0 hz1 hz2 rfl (by omega) _ _ _ rfl (HWN.out.alloc _) (wr.heap.size + 1) (some ⟨wr.heap.size, 0, none⟩) 1 1 [.int .u8 ((n : Int) / 2 ^ (8 * (nd n - 1 - i)) % 256)] rfl (reads_first _ _ _) (by simp [Value.oneCell']) ?c1 ?c2 ?c3 ?_))
          case c1 => have := HTI.out; unfold maxLen; omega
          case c2 => have := HTI.out; omega
          case c3 => simp; omega
          intro v3 w3 hown3 hg3 hor3
          have hb3 := grown_below (HB.out.trans ((Below.refl _ _).alloc (Nat.le_refl _) (.cells #[.int .u8 ((n : Int) / 2 ^ (8 * (nd n - 1 - i)) % 256)] 5) |>.mono hsz)) (by simp; omega) hg3 (fun b hb => HOV.out.ge hb)
          have HB3 := Lib.hid hb3
          have HO3 := Lib.hid (show OwnB w3 w.heap.size v3 ((numB n).take (i + 1 + 1)) by
            unfold OwnB
            rw [HNX.out, List.length_append, List.map_append, List.length_singleton, List.map_singleton, HD.out]
            simpa [List.map_take] using hown3)
          clear hb3 hown3 hg3 hor3
          go_wp2_with fail
          go_roundw
          case rel => exact ⟨i + 1, by omega, by go_num, HO3.out, HB3.out⟩
          case measure => simp [intOf]; omega
        · obtain rfl : i = nd n := by omega
          go_wp2_with fail
          go_ret2
          refine ⟨_, rfl, ?_, HB.out⟩
          have := HOV.out
          rw [List.take_of_length_le (by omega)] at this
          exact this

end Go.Proofs.YtdpoedgjehofiaaGreat

/- Contracts of slices.Clone, bin.Join, bin.Str, wish.nums. -/
namespace Go.Proofs.YtdpoedgjehofiaaGreat
set_option linter.unusedVariables false
open Go.RowKit

set_option maxRecDepth 100000 in
set_option maxHeartbeats 1000000 in
theorem clone_any (A : Option Addr) (n c : Nat) (xs : List UInt8) (w : World) (B : Nat) (h : Reads w B 1 A n (xs.map vb)) (hB : B ≤ w.heap.size) (hn : n ≤ 140737488355328) :
    Calls Tryz.prog 75 #[.slice A n c] w fun e w' => ∃ v, e = .returned v ∧ OwnB w' w.heap.size v xs ∧ Below w.heap.size w w' := by
  have hxn : xs.length = n := by have := h.1; simpa using this
  have HXN := Lib.hid hxn
  clear hxn
  obtain ⟨i0, hi0, hz0, hz1, hz2⟩ := info_parts u8_info
  have hnil : ∀ (w : World) (a : Option Addr) (n c n' c' : Nat), (binOp .eql 22 (.slice a n c) (.slice none n' c')).run Tryz.prog w = .ok (.bool a.isNone) w := fun w a n c n' c' => Lib.run_eql_slice_nil w _ _ a n c n' c' Tryz.underlying22
  cases A with
  | none =>
    have h0 : n = 0 := by
      rcases Nat.eq_zero_or_pos n with h0 | h0
      · exact h0
      · obtain ⟨ad, e, _⟩ := h.2 h0; cases e
    subst h0
    have hx0 : xs = [] := List.eq_nil_of_length_eq_zero HXN.out
    subst hx0
    go_enter Tryz.func75, Tryz.ntmps75
    go_wp2_with fail
    go_ret
    exact ⟨_, rfl, OwnB.nil _ _, Below.refl _ _⟩
  | some ad =>
    go_enter Tryz.func75, Tryz.ntmps75
    go_wp2_with (at_builtin; go_must (refine wpList_append_any _ rfl (.tmp 5) (.tmp 6) 22 rfl w.heap.size 5 i0 _ 1 1 Tryz.underlying22 hi0 hz0 hz1 hz2 rfl (by omega) (.slice (some ⟨w.heap.size, 0, none⟩) 0 0) 0 [] rfl ⟨rfl, .inr ⟨w.heap.size, 0, #[], rfl, Nat.le_refl _, heap_alloc_new w _, Nat.le_refl _, Nat.zero_le _, rfl, rfl⟩⟩ B (some ad) n c (xs.map vb) rfl (h.alloc hB _) ?c1 ?c2 ?c3 ?c4 ?_))
    case c1 => intro u hu; obtain ⟨x, _, rfl⟩ := List.mem_map.1 hu; rfl
    case c2 => unfold maxLen; omega
    case c3 => omega
    case c4 => simp
    intro v1 w1 hown1 hg1 hor
    go_wp2
    go_ret
    refine ⟨v1, rfl, ?_, grown_below ((Below.refl _ _).alloc (Nat.le_refl _) _) (by simp) hg1 (fun b hb => by simp [Value.ownBlock] at hb; omega)⟩
    unfold OwnB
    rw [HXN.out]
    simpa using hown1

theorem OwnB.row {w : World} {B : Nat} {v : Value} {xs : List UInt8} (h : OwnB w B v xs) : w.ownsRow B 5 1 v xs.length (xs.map vb) := h
/-- slices of bytes, that lie below B -/
def RowsB (w : World) (B : Nat) (A : Option Addr) (n : Nat) (xss : List (List UInt8)) : Prop :=
  xss.length = n ∧ (0 < n → ∃ ad, A = some ad ∧ ad.block < B ∧ ∀ (k : Nat) (x : List UInt8), xss[k]? = some x → ∃ Ak mk ck, w.cell? (ad.add k) = some (.slice Ak mk ck) ∧ Reads w B 1 Ak mk (x.map vb))
theorem RowsB.below {w w' : World} {B n : Nat} {A : Option Addr} {xss : List (List UInt8)} (h : RowsB w B A n xss) (hb : Below B w w') : RowsB w' B A n xss :=
  ⟨h.1, fun h0 => by
    obtain ⟨ad, hA, hB, hc⟩ := h.2 h0
    exact ⟨ad, hA, hB, fun k x hx => by
      obtain ⟨Ak, mk, ck, h1, h2⟩ := hc k x hx
      exact ⟨Ak, mk, ck, (hb.cell (by rw [block_of_add]; exact hB)).trans h1, h2.below hb⟩⟩⟩

set_option maxRecDepth 100000 in
set_option maxHeartbeats 1000000 in
theorem join_any (A : Option Addr) (n c : Nat) (xss : List (List UInt8)) (w : World) (B : Nat) (h : RowsB w B A n xss) (hB : B ≤ w.heap.size) (hn : n ≤ 1000000) (hl : xss.flatten.length ≤ 100000000) :
    Calls Tryz.prog 144 #[.slice A n c] w fun e w' => ∃ v, e = .returned v ∧ OwnB w' w.heap.size v xss.flatten ∧ Below w.heap.size w w' := by
  have H := Lib.hid h
  have hxn := h.1
  have HXN := Lib.hid hxn
  clear h hxn
  obtain ⟨i0, hi0, hz0, hz1, hz2⟩ := info_parts u8_info
  go_enter Tryz.func144, Tryz.ntmps144
  go_wp2_with fail
  go_loopw [3, 8] (fun ov iv wr => ∃ i : Nat, i ≤ n ∧ iv = .int .i64 i ∧ OwnB wr w.heap.size ov (xss.take i).flatten ∧ Below w.heap.size w wr) (fun _ iv _ => n - (intOf iv).toNat)
  case atStart => exact ⟨0, by omega, rfl, OwnB.nil _ _, Below.refl _ _⟩
  case round =>
    obtain ⟨i, hi, rfl, hov, hbel⟩ := hrel
    have HOV := Lib.hid hov
    have HB := Lib.hid hbel
    have hsz := hbel.size
    clear hov hbel
    by_cases hin : i < n
    · obtain ⟨ad, hA, hadb, hcell⟩ := H.out.2 (by omega)
      subst hA
      have hxi : i < xss.length := by have := HXN.out; omega
      obtain ⟨Ak, mk, ck, hck, hrk⟩ := hcell i xss[i] (List.getElem?_eq_getElem hxi)
      have hck' := (HB.out.cell (show (ad.add i).block < w.heap.size by rw [block_of_add]; omega)).trans hck
      have hrk' := hrk.below (HB.out.mono hB)
      have hmk : xss[i].length = mk := by have := hrk.1; simpa using this
      obtain ⟨ys, hys⟩ : ∃ ys, ys = (xss.take i).flatten := ⟨_, rfl⟩
      have htk : (xss.take (i + 1)).flatten = (xss.take i).flatten ++ xss[i] := by rw [List.take_succ_eq_append_getElem hxi, List.flatten_append]; simp only [List.flatten_cons, List.flatten_nil, List.append_nil]
      have htl : (xss.take (i + 1)).flatten.length ≤ xss.flatten.length := by
        conv => rhs; rw [← List.take_append_drop (i + 1) xss, List.flatten_append, List.length_append]
        omega
      rw [htk, List.length_append] at htl
      rw [← hys] at HOV htk htl
      have HTK := Lib.hid htk
      have HYS := Lib.hid hys
      clear hys
      have HWN := Lib.hid HOV.out.row
      have HRK := Lib.hid hrk'
      generalize xss[i] = x at HTK HRK hmk htl
      have HMK := Lib.hid hmk
      clear hcell hck hrk hrk' hmk htk
      go_wp2_with (at_builtin; go_must (refine wpList_append_any _ rfl (.tmp 12) (.tmp 13) 22 rfl w.heap.size 5 i0 _ 1 1 Tryz.underlying22 hi0 hz0 hz1 hz2 rfl (by omega) _ _ _ rfl HWN.out B Ak mk ck (x.map vb) rfl HRK.out ?c1 ?c2 ?c3 ?c4 ?_))
      case c1 => intro u hu; obtain ⟨y, _, rfl⟩ := List.mem_map.1 hu; rfl
      case c2 => have := HMK.out; unfold maxLen; omega
      case c3 => have := HMK.out; omega
      case c4 => omega
      intro v3 w3 hown3 hg3 hor3
      have HB3 := Lib.hid (grown_below HB.out hsz hg3 (fun b hb => HOV.out.ge hb))
      have HO3 := Lib.hid (show OwnB w3 w.heap.size v3 (xss.take (i + 1)).flatten by
        unfold OwnB
        rw [HTK.out, List.length_append, List.map_append, HMK.out]
        exact hown3)
      clear hown3 hg3 hor3
      go_wp2_with fail
      go_roundw
      case rel => exact ⟨i + 1, by omega, by go_num, HO3.out, HB3.out⟩
      case measure => simp [intOf]; omega
    · obtain rfl : i = n := by omega
      go_wp2_with fail
      go_ret
      refine ⟨_, rfl, ?_, HB.out⟩
      have := HOV.out
      rw [List.take_of_length_le (by have := HXN.out; omega)] at this
      exact this

theorem flat_le (ns : List Nat) (h : ∀ x, x ∈ ns → x ≤ maxN) : (ns.flatMap numB).length ≤ 8 * ns.length := by
  induction ns with
  | nil => simp
  | cons a t ih =>
    have h1 := (numB_len (h a (by simp))).2
    have h2 := ih (fun x hx => h x (by simp [hx]))
    rw [List.flatMap_cons, List.length_append, List.length_cons]
    omega

theorem rowsB_two {w : World} {t : TypeId} {A A' : Option Addr} {n n' c c' : Nat} {xs ys : List UInt8} (h : Reads w w.heap.size 1 A n (xs.map vb)) (h' : Reads w w.heap.size 1 A' n' (ys.map vb)) :
    RowsB (w.alloc (.cells #[.slice A n c, .slice A' n' c'] t)) (w.heap.size + 1) (some ⟨w.heap.size, 0, none⟩) 2 [xs, ys] := by
  have hb : Below w.heap.size w (w.alloc (.cells #[.slice A n c, .slice A' n' c'] t)) := (Below.refl _ _).alloc (Nat.le_refl _) _
  have hk : Blk (w.alloc (.cells #[.slice A n c, .slice A' n' c'] t)) w.heap.size t #[.slice A n c, .slice A' n' c'] := Blk.newAt rfl
  refine ⟨rfl, fun _ => ⟨_, rfl, Nat.lt_succ_self _, fun k x hx => ?_⟩⟩
  match k, hx with
  | 0, hx => simp at hx; subst hx; exact ⟨_, _, _, (hk.cell 0).trans rfl, (h.below hb).more (by omega)⟩
  | 1, hx => simp at hx; subst hx; exact ⟨A', n', c', (by rw [show ((⟨w.heap.size, 0, none⟩ : Addr).add 1) = ⟨w.heap.size, 1, none⟩ from rfl]; exact (hk.cell 1).trans rfl), (h'.below hb).more (by omega)⟩

set_option maxRecDepth 100000 in
set_option maxHeartbeats 1000000 in
theorem str_any (A : Option Addr) (n c : Nat) (xs : List UInt8) (w : World) (B : Nat) (h : Reads w B 1 A n (xs.map vb)) (hB : B ≤ w.heap.size) (hn : n ≤ 65536) :
    Calls Tryz.prog 96 #[.slice A n c] w fun e w' => ∃ v, e = .returned (.tuple #[v, .int .i64 0]) ∧ OwnB w' w.heap.size v (strB xs) ∧ Below w.heap.size w w' := by
  have hxn : xs.length = n := by have := h.1; simpa using this
  have H := Lib.hid h
  have HXN := Lib.hid hxn
  clear h hxn
  go_enter Tryz.func96, Tryz.ntmps96
  go_wp2_with fail
  refine (binNum_any n (by unfold maxN; omega) w).mono ?_
  rintro _ w2 ⟨v, rfl, hov2, hb2⟩
  obtain ⟨Av, cv, rfl, hvc, hvm, hvr, hvB⟩ := own_slice_b hov2
  have hx8 := numB_len (show n ≤ maxN by unfold maxN; omega)
  have hs2 := hb2.size
  have hrow := rowsB_two (t := 22) (c := cv) (c' := c) hvr ((H.out.below (hb2.mono hB)).more (by omega))
  have HROW := Lib.hid hrow
  have HB2 := Lib.hid hb2
  obtain ⟨xb, hxb⟩ : ∃ xb, xb = numB n := ⟨_, rfl⟩
  rw [← hxb] at hx8 HROW ⊢
  have HXB := Lib.hid hxb
  clear hov2 hb2 hvr hxb hrow hvc
  go_wp2_with fail
  refine (join_any _ 2 2 _ _ _ HROW.out (by simp) (by omega) (by simp; have := HXN.out; omega)).mono ?_
  rintro _ w3 ⟨v3, rfl, ho3, hb3⟩
  have HB3 := Lib.hid ((HB2.out.trans (((Below.refl _ w2).alloc (Nat.le_refl _) _).mono hs2)).trans (hb3.mono (by simp; omega)))
  have HO3 := Lib.hid ho3
  clear ho3 hb3
  go_wp2_with fail
  go_ret2
  refine ⟨_, rfl, ?_, HB3.out⟩
  have := HO3.out.more (B' := w.heap.size) (by simp; omega)
  unfold strB
  rw [HXN.out, ← HXB.out]
  simpa using this

end Go.Proofs.YtdpoedgjehofiaaGreat

/- Slice expressions, as lists that memory reads as. No program is named. -/
namespace Go.Proofs.YtdpoedgjehofiaaGreat
set_option linter.unusedVariables false
open Go.RowKit

/-- 'x[:h]' of a slice, one cell an element -/
theorem run_slice_to {P : Program} {t e : TypeId} (ht : P.underlying t = some (.slice e)) (hs : (P.info? e).map (·.size) = some 1) (A : Option Addr) (len cap h : Nat) (hi : Int) (eh : hi = h) (hl : h ≤ cap) (W : World) :
    (Instr.slice t (.slice A len cap) none (some (.int .i64 hi)) none).run P W = .ok (.slice (if cap = 0 then A else A.map (·.add 0)) h cap) W := by
  subst eh
  obtain ⟨i, hi, hsz⟩ : ∃ i, P.info? e = some i ∧ i.size = 1 := by
    cases hh : P.info? e with
    | none => rw [hh] at hs; cases hs
    | some i => rw [hh] at hs; exact ⟨i, rfl, by simpa using hs⟩
  have he : P.elem t = e := by simp [Program.elem, ht]
  rw [run_slice_h W t A len cap (by rw [he]; exact ht) .i64 (h : Int) (by omega) (by omega)]
  simp [he, sizeOf, typeInfo, hi, hsz, sliced]
theorem Reads.to {w : World} {B n : Nat} {A : Option Addr} {xs : List Value} (h : Reads w B 1 A n xs) {k cap : Nat} (hk : k ≤ n) (hc : n ≤ cap) :
    Reads w B 1 (if cap = 0 then A else A.map (·.add 0)) k (xs.take k) := by
  refine ⟨by have := h.1; simp; omega, fun hn => ?_⟩
  obtain ⟨ad, rfl, hb, hcell⟩ := h.2 (by omega)
  rw [if_neg (by omega)]
  refine ⟨ad.add 0, rfl, by rw [block_of_add]; exact hb, fun j u hu => ?_⟩
  rw [add_of_add, Nat.zero_add]
  refine hcell j u ?_
  rw [List.getElem?_take] at hu
  split at hu
  · exact hu
  · cases hu

theorem grown_below' {B : Nat} {w0 w w' : World} {g : Nat} (hb : Below B w0 w) (hB : B ≤ w.heap.size) (hg : w.grownBy w' (some g)) (hr : B ≤ g) : Below B w0 w' :=
  hb.trans ((Below.refl B w).grown hg hB (fun b h => by injection h with h; omega))

/-- 'x[l:h]' of a slice, one cell an element -/
theorem run_slice_mid {P : Program} {t e : TypeId} (ht : P.underlying t = some (.slice e)) (hs : (P.info? e).map (·.size) = some 1) (A : Option Addr) (len cap l h : Nat) (li hi : Int) (el : li = l) (eh : hi = h) (hl : l ≤ h) (hh : h ≤ cap) (W : World) :
    (Instr.slice t (.slice A len cap) (some (.int .i64 li)) (some (.int .i64 hi)) none).run P W = .ok (.slice (if cap = l then A else A.map (·.add l)) (h - l) (cap - l)) W := by
  subst el eh
  obtain ⟨i, hi, hsz⟩ : ∃ i, P.info? e = some i ∧ i.size = 1 := by
    cases hh : P.info? e with
    | none => rw [hh] at hs; cases hs
    | some i => rw [hh] at hs; exact ⟨i, rfl, by simpa using hs⟩
  have he : P.elem t = e := by simp [Program.elem, ht]
  rw [run_slice_lh W t A len cap (by rw [he]; exact ht) .i64 .i64 (l : Int) (h : Int) (by omega) (by omega) (by omega)]
  simp [he, sizeOf, typeInfo, hi, hsz, sliced]

end Go.Proofs.YtdpoedgjehofiaaGreat

/- A region that draws its order: of each operation of its head something is known of the value that it yields, which lasts whatever is made behind it. -/
namespace Go.Proofs.YtdpoedgjehofiaaGreat
set_option linter.unusedVariables false
open Go.RowKit

theorem Blk.under {w w' : World} {g : Nat} {t : TypeId} {cs : Array Value} (h : Blk w g t cs) (hb : Below w.heap.size w w') : Blk w' g t cs := h.below hb h.lt
def Lasts (p : World → Value → Prop) : Prop := ∀ w w' v, p w v → Below w.heap.size w w' → p w' v
theorem Lasts.pure (q : Value → Prop) : Lasts fun _ v => q v := fun _ _ _ h _ => h
/-- the value of operation j -/
def slotP (ops : Array Oper) (ps : Nat → World → Value → Prop) (j : Nat) (w : World) (a : Act) : Prop := ∀ o d, ops[j]? = some o → o.dst = some d → ps j w (a.eval (.tmp d))
/-- what no operation of the head writes -/
structure Kept (ops : Array Oper) (n : Nat) (a0 a : Act) : Prop where
  defers : a.defers = a0.defers
  size : a.tmps.size = a0.tmps.size
  tmps : ∀ d : Nat, (∀ (i : Nat) (o : Oper), i < n → ops[i]? = some o → o.dst ≠ some d) → a.tmps[d]? = a0.tmps[d]?
def freeB (ops : Array Oper) (n d : Nat) : Bool := (List.range n).all fun i => match ops[i]? with
  | none => true
  | some o => o.dst != some d
theorem freeB_spec {ops : Array Oper} {n d : Nat} (h : freeB ops n d = true) : ∀ (i : Nat) (o : Oper), i < n → ops[i]? = some o → o.dst ≠ some d := fun i o hi ho => by
  have := List.all_eq_true.1 h i (List.mem_range.2 hi)
  simp only [ho, bne_iff_ne] at this
  exact this
theorem Kept.at_ {ops : Array Oper} {n : Nat} {a0 a : Act} (h : Kept ops n a0 a) {d : Nat} (hd : freeB ops n d = true) : a.eval (.tmp d) = a0.eval (.tmp d) := by
  have := h.tmps d (freeB_spec hd)
  simp [Act.eval, this]
theorem Kept.get {ops : Array Oper} {n : Nat} {a0 a : Act} (h : Kept ops n a0 a) {d : Nat} (hd : freeB ops n d = true) {v : Value} (hv : a0.eval (.tmp d) = v) : a.tmps[d]?.getD undef = v := by
  have := h.at_ hd
  rw [hv] at this
  simpa [Act.eval] using this
theorem slotP.get {ops : Array Oper} {ps : Nat → World → Value → Prop} {j : Nat} {w : World} {a : Act} (h : slotP ops ps j w a) {o : Oper} (d : Nat) (ho : ops[j]? = some o) (hd : o.dst = some d) : ps j w (a.tmps[d]?.getD undef) := by
  have := h o d ho hd
  simpa [Act.eval] using this
def RelOp (P : Program) (ops : Array Oper) (o : Oper) (a : Act) (w : World) (p : World → Value → Prop) : Prop :=
  ∀ (K : Act → World → Prop) (Q' : Exit → Act → World → Prop), (∀ v w', Below w.heap.size w w' → p w' v → K (a.put o.dst v) w') → if Region.wanted o (yielded ops a.tmps) = true then o.wp P a w K Q' else K (a.put o.dst undef) w

section
variable {P : Program} {ops : Array Oper}
theorem rel_exec {o : Oper} {a : Act} {w : World} {p : World → Value → Prop} (hw : Region.wanted o (yielded ops a.tmps) = true) (v : Value) (w' : World) (he : (execOp a.eval o).run P w = .ok (.value v) w') (hb : Below w.heap.size w w') (hp : p w' v) : RelOp P ops o a w p := fun K Q' hK => by
  rw [if_pos hw]
  unfold Oper.wp
  rw [he]
  exact hK v w' hb hp
theorem rel_value {o : Oper} {a : Act} {w : World} {p : World → Value → Prop} (hw : Region.wanted o (yielded ops a.tmps) = true) (v : Value) (he : (execOp a.eval o).run P w = .ok (.value v) w) (hp : p w v) : RelOp P ops o a w p :=
  rel_exec hw v w he (Below.refl _ _) hp
theorem rel_call {o : Oper} {a : Act} {w : World} {p : World → Value → Prop} (hw : Region.wanted o (yielded ops a.tmps) = true) (f : FuncId) (args : Array Value) (he : (execOp a.eval o).run P w = .ok (.enter f args) w)
    (hc : Calls P f args w fun e w' => ∃ v, e = .returned v ∧ Below w.heap.size w w' ∧ p w' v) : RelOp P ops o a w p := fun K Q' hK => by
  rw [if_pos hw]
  unfold Oper.wp
  rw [he]
  refine hc.mono ?_
  rintro e w' ⟨v, rfl, hb, hp⟩
  exact hK v w' hb hp
theorem rel_skip {o : Oper} {a : Act} {w : World} {p : World → Value → Prop} (hw : Region.wanted o (yielded ops a.tmps) = false) (hp : p w undef) : RelOp P ops o a w p := fun K Q' hK => by
  rw [if_neg (by rw [hw]; exact Bool.false_ne_true)]
  exact hK undef w (Below.refl _ _) hp
end

/-- edges go back -/
def backB (md : Region.Mode) (ops : Array Oper) (n : Nat) : Bool := (List.range n).all fun i => match ops[i]? with
  | none => true
  | some o => o.after.all fun e => !Region.binds md e || decide (e.on < i)
def headArr (m n : Nat) : Array Bool := (List.range m).map (fun i => decide (i < n)) |>.toArray
theorem headArr_get (m n k : Nat) (d : Bool) (h : k < m) : (headArr m n).getD k d = decide (k < n) := by
  unfold headArr
  simp [h]
def relB (md : Region.Mode) (ops : Array Oper) (n : Nat) : Bool :=
  decide (n < ops.size) && Region.sinkB md ops n && Region.chainB md ops n && dstsB ops n && backB md ops n && Region.seqB md ops (ops.size - n) n (headArr ops.size n)

section
variable {P : Program} {md : Region.Mode} {ops : Array Oper}

theorem least_false (f : Nat → Bool) : ∀ n, (∃ i, i < n ∧ f i = false) → ∃ i, i < n ∧ f i = false ∧ ∀ j, j < i → f j = true := by
  intro n
  induction n with
  | zero => rintro ⟨i, hi, _⟩; omega
  | succ n ih =>
    rintro ⟨i, hi, h⟩
    by_cases hx : ∃ i, i < n ∧ f i = false
    · obtain ⟨j, h1, h2, h3⟩ := ih hx
      exact ⟨j, by omega, h2, h3⟩
    · have hin : i = n := by
        rcases Nat.lt_or_ge i n with h4 | h4
        · exact absurd ⟨i, h4, h⟩ hx
        · omega
      subst hin
      refine ⟨i, by omega, h, fun j hj => ?_⟩
      cases hf : f j with
      | true => rfl
      | false => exact absurd ⟨j, hj, hf⟩ hx

theorem wpAny_rel {n : Nat} {ps : Nat → World → Value → Prop} {a0 : Act} {w0 : World} {Q' : Exit → Act → World → Prop} (hn : n < ops.size) (hs : Region.sinkB md ops n = true) (hc : Region.chainB md ops n = true) (hd : dstsB ops n = true) (hbk : backB md ops n = true)
    (hl : ∀ j, Lasts (ps j))
    (hop : ∀ i o, i < n → ops[i]? = some o → ∀ a w, Below w0.heap.size w0 w → Kept ops n a0 a → (∀ j, Region.waitsFor md ops i j = true → slotP ops ps j w a) → RelOp P ops o a w (ps i))
    (hL : ∀ a w, Below w0.heap.size w0 w → Kept ops n a0 a → (∀ j, j < n → slotP ops ps j w a) → wpAny P md ops Q' (ops.size - n) (headArr ops.size n) a w)
    (hsz : ∀ (i : Nat) (o : Oper) (d : Tmp), i < n → ops[i]? = some o → o.dst = some d → d < a0.tmps.size) :
    ∀ (f : Nat) (listed : Array Bool) (a : Act) (w : World), ((List.range n).filter fun i => !listed.getD i false).length = f → HeadInv md ops n listed → Below w0.heap.size w0 w → Kept ops n a0 a → (∀ j, j < n → listed.getD j false = true → slotP ops ps j w a) → wpAny P md ops Q' (f + (ops.size - n)) listed a w
  | 0, listed, a, w, hf, inv, hb, hk, hp => by
    have hall : ∀ j, j < n → listed.getD j false = true := fun j hj => by
      cases hx : listed.getD j false with
      | true => rfl
      | false =>
        have : j ∈ (List.range n).filter fun i => !listed.getD i false := List.mem_filter.2 ⟨List.mem_range.2 hj, by rw [hx]; rfl⟩
        rw [List.eq_nil_of_length_eq_zero hf] at this
        cases this
    have hls : listed = headArr ops.size n := by
      apply Array.ext
      · rw [inv.size]; simp [headArr]
      · intro i h1 h2
        have hi : i < ops.size := by rw [← inv.size]; exact h1
        have e1 : listed[i] = listed.getD i false := by simp [h1]
        have e2 : (headArr ops.size n)[i] = (headArr ops.size n).getD i false := by simp [h2]
        rw [e1, e2, headArr_get _ _ _ _ hi]
        by_cases hin : i < n
        · rw [hall i hin, decide_eq_true hin]
        · rw [decide_eq_false hin]
          exact getD_both (inv.tail i (by omega) hi)
    rw [Nat.zero_add, hls]
    exact hL a w hb hk fun j hj => hp j hj (hall j hj)
  | f + 1, listed, a, w, hf, inv, hb, hk, hp => by
    have hex : ∃ i, i < n ∧ listed.getD i false = false := by
      cases hx : (List.range n).filter fun i => !listed.getD i false with
      | nil => rw [hx] at hf; cases hf
      | cons i t =>
        have : i ∈ (List.range n).filter fun i => !listed.getD i false := by rw [hx]; exact List.mem_cons_self
        obtain ⟨h1, h2⟩ := List.mem_filter.1 this
        exact ⟨i, List.mem_range.1 h1, by simpa using h2⟩
    obtain ⟨m, hm, hmf, hmb⟩ := least_false (fun i => listed.getD i false) n hex
    have hin : ∀ k, k < n → listed.getD k false = false → listed.getD k true = false := fun k hk h => getD_in (by rw [inv.size]; omega) h
    rw [show f + 1 + (ops.size - n) = (f + (ops.size - n)) + 1 by omega]
    refine ⟨fun h0 => ?_, fun i hi => ?_⟩
    · exfalso
      have : m ∈ Region.ready md ops listed := by
        refine mem_ready.2 ⟨hin m hm hmf, ops[m], Array.getElem?_eq_getElem (by omega), fun e he hbd => ?_⟩
        have h1 := List.all_eq_true.1 hbk m (List.mem_range.2 hm)
        rw [Array.getElem?_eq_getElem (show m < ops.size by omega)] at h1
        have h2 := Array.all_eq_true_iff_forall_mem.1 h1 e he
        rw [hbd] at h2
        simp at h2
        exact hmb e.on h2
      rw [h0] at this
      cases this
    · have hin' : i < n := by
        rcases Nat.lt_or_ge i n with h | h
        · exact h
        · exact absurd hi (tail_waits hs hc hn inv _ m rfl hm (hin m hm hmf) i h)
      obtain ⟨hun, o, ho, hall⟩ := mem_ready.1 hi
      have hrel := hop i o hin' ho a w hb hk (fun j hj => by
        obtain ⟨oj, hoj, e, he, hbd, hon⟩ := Region.waitsFor_spec hj
        have : oj = o := Option.some.inj (hoj.symm.trans ho)
        subst this
        have h1 := hall e he hbd
        rw [hon] at h1
        have h2 := List.all_eq_true.1 hbk i (List.mem_range.2 hin')
        rw [ho] at h2
        have h3 := Array.all_eq_true_iff_forall_mem.1 h2 e he
        rw [hbd] at h3
        simp at h3
        exact hp j (by omega) h1)
      unfold wpOp
      simp only [ho]
      have hcnt : ((List.range n).filter fun k => !(listed.setIfInBounds i true).getD k false).length = f := by
        have hmem : i ∈ (List.range n).filter fun i => !listed.getD i false := List.mem_filter.2 ⟨List.mem_range.2 hin', by rw [getD_both hun]; rfl⟩
        have hnd : ((List.range n).filter fun i => !listed.getD i false).Nodup := List.Pairwise.filter _ List.nodup_range
        have he : ((List.range n).filter fun k => !(listed.setIfInBounds i true).getD k false) = ((List.range n).filter fun i => !listed.getD i false).erase i := by
          rw [hnd.erase_eq_filter, List.filter_filter]
          apply List.filter_congr
          intro k hk
          by_cases hki : i = k
          · subst hki
            have hlt : i < listed.size := by rw [inv.size]; omega
            simp [hlt]
          · rw [getD_set_ne false hki]
            simp [Ne.symm hki]
        rw [he, List.length_erase_of_mem hmem, hf]
        rfl
      have hfin : ∀ v w', Below w.heap.size w w' → ps i w' v → wpAny P md ops Q' (f + (ops.size - n)) (listed.setIfInBounds i true) (a.put o.dst v) w' := fun v w' hbw hpv => by
        refine wpAny_rel hn hs hc hd hbk hl hop hL hsz f _ _ w' hcnt (inv.set hi hin') (hb.trans (hbw.mono hb.size)) ⟨?_, by rw [put_size]; exact hk.size, fun d hfree => ?_⟩ fun j hj hlj oj d hoj hdj => ?_
        · rw [← hk.defers]; unfold Act.put; split <;> rfl
        · rw [put_at_ne (hfree i o hin' ho)]; exact hk.tmps d hfree
        · by_cases hji : j = i
          · subst hji
            have : oj = o := Option.some.inj (hoj.symm.trans ho)
            subst this
            have hds : d < a.tmps.size := by rw [hk.size]; exact hsz j oj d hin' hoj hdj
            have he : (a.put oj.dst v).eval (.tmp d) = v := by
              rw [hdj]
              simp [Act.put, Act.eval, hds]
            rw [he]
            exact hpv
          · have hl2 : listed.getD j false = true := by rw [getD_set_ne false (Ne.symm hji)] at hlj; exact hlj
            have he : (a.put o.dst v).eval (.tmp d) = a.eval (.tmp d) := by
              have := put_at_ne (a := a) (v := v) (dstsB_spec hd hj hin' hji hoj ho hdj)
              simp [Act.eval, this]
            rw [he]
            exact hl j _ _ _ (hp j hj hl2 oj d hoj hdj) hbw
      have := hrel (wpAny P md ops Q' (f + (ops.size - n)) (listed.setIfInBounds i true)) Q' hfin
      split
      · rename_i hwt
        rw [if_pos hwt] at this
        exact .inl this
      · rename_i hwt
        rw [if_neg hwt] at this
        exact this
end

def AllRel (P : Program) (ops : Array Oper) (n : Nat) (ps : Nat → World → Value → Prop) (a0 : Act) (w0 : World) : Nat → List Oper → Prop
  | _, [] => True
  | k, o :: l => (∀ a w, Below w0.heap.size w0 w → Kept ops n a0 a → (∀ j, Region.waitsFor .any ops k j = true → slotP ops ps j w a) → RelOp P ops o a w (ps k)) ∧ AllRel P ops n ps a0 w0 (k + 1) l
theorem AllRel.spec {P : Program} {ops : Array Oper} {n : Nat} {ps : Nat → World → Value → Prop} {a0 : Act} {w0 : World} : ∀ (l : List Oper) (k : Nat), AllRel P ops n ps a0 w0 k l → ∀ i o, l[i]? = some o →
    ∀ a w, Below w0.heap.size w0 w → Kept ops n a0 a → (∀ j, Region.waitsFor .any ops (k + i) j = true → slotP ops ps j w a) → RelOp P ops o a w (ps (k + i))
  | [], k, _, i, o, ho => by simp at ho
  | o' :: l, k, h, 0, o, ho => by simp at ho; subst ho; exact h.1
  | o' :: l, k, h, i + 1, o, ho => by
    have := AllRel.spec l (k + 1) h.2 i o (by simpa using ho)
    rw [show k + 1 + i = k + (i + 1) by omega] at this
    exact this
def sizeB (ops : Array Oper) (n m : Nat) : Bool := (List.range n).all fun i => match ops[i]? with
  | none => true
  | some o => match o.dst with
    | none => true
    | some d => decide (d < m)

theorem wp_region_rel {P : Program} {id : Nat} {Q : Exit → Act → World → Prop} {a : Act} {w : World} {l : List Oper} (n m : Nat) (ps : Nat → World → Value → Prop) (hm : P.follows .mixedOrders = true) (hB : relB .any l.toArray n = true) (hsz : sizeB l.toArray n m = true) (ha : a.tmps.size = m)
    (hl : ∀ j, Lasts (ps j)) (hop : AllRel P l.toArray n ps a w 0 (l.take n))
    (h : ∀ a' w', Below w.heap.size w w' → Kept l.toArray n a a' → (∀ j, j < n → slotP l.toArray ps j w' a') → wpList P l.toArray Q (l.drop n) a' w') : (Code.region id l.toArray true).wp P Q a w := by
  simp only [relB, Bool.and_eq_true, decide_eq_true_eq] at hB
  obtain ⟨⟨⟨⟨⟨hn, hs⟩, hc⟩, hd⟩, hbk⟩, hsq⟩ := hB
  have inv0 : HeadInv .any l.toArray n (Array.replicate l.toArray.size false) :=
    ⟨by simp, fun j oj _ hl => (by rw [getD_replicate_false] at hl; cases hl), fun t _ ht => getD_in (by simpa using ht) (getD_replicate_false _ _)⟩
  have hdl : (l.drop n).length = l.toArray.size - n := by simp
  refine wp_region_any hm ?_
  have := wpAny_rel (Q' := Q) (md := .any) (P := P) (ops := l.toArray) (n := n) (ps := ps) (a0 := a) (w0 := w) hn hs hc hd hbk hl (fun i o hi ho a' w' h1 h2 h3 => by
      have := AllRel.spec (l.take n) 0 hop i o (by rw [List.getElem?_take, if_pos hi]; simpa using ho) a' w' h1 h2
      simp only [Nat.zero_add] at this
      exact this h3)
    (fun a' w' h1 h2 h3 => by
      have := wpAny_of_seq (md := .any) (ops := l.toArray) (Q' := Q) (l.drop n) n (headArr l.toArray.size n) a' w' (fun j => by simp [List.getElem?_drop]) (by rw [hdl]; exact hsq) (h a' w' h1 h2 h3)
      rw [hdl] at this
      exact this)
    (fun i o d hi ho hdst => by
      have := List.all_eq_true.1 hsz i (List.mem_range.2 hi)
      simp only [ho, hdst, decide_eq_true_eq] at this
      rw [ha]; exact this)
    n (Array.replicate l.toArray.size false) a w.drew (by
      rw [List.filter_eq_self.2 (fun i _ => by rw [getD_replicate_false]; rfl)]
      simp) inv0 (Below.refl _ w).drew ⟨rfl, rfl, fun _ _ => rfl⟩ (fun j _ hj => by rw [getD_replicate_false] at hj; cases hj)
  rw [show n + (l.toArray.size - n) = l.toArray.size by omega] at this
  exact this

def putAll : Act → List Nat → (Nat → Value) → Act
  | a, [], _ => a
  | a, d :: ds, f => putAll (a.put (some d) (f d)) ds f
theorem putAll_get : ∀ (ds : List Nat) (a : Act) (f : Nat → Value) (k : Nat), (putAll a ds f).tmps[k]? = if k ∈ ds ∧ k < a.tmps.size then some (f k) else a.tmps[k]?
  | [], a, f, k => by simp [putAll]
  | d :: ds, a, f, k => by
    rw [putAll, putAll_get ds, put_size]
    by_cases hk : k ∈ ds ∧ k < a.tmps.size
    · rw [if_pos hk, if_pos ⟨List.mem_cons_of_mem _ hk.1, hk.2⟩]
    · rw [if_neg hk]
      by_cases hd : k = d
      · subst hd
        by_cases hs : k < a.tmps.size
        · rw [if_pos ⟨List.mem_cons_self, hs⟩]
          simp [Act.put, hs]
        · rw [if_neg (fun h => hs h.2), Array.getElem?_eq_none (by rw [put_size]; omega), Array.getElem?_eq_none (by omega)]
      · rw [if_neg (fun h => by
          rcases List.mem_cons.1 h.1 with h1 | h1
          · exact hd h1
          · exact hk ⟨h1, h.2⟩)]
        exact put_at_ne (fun e => hd (by injection e with e; exact e.symm))
theorem putAll_defers : ∀ (ds : List Nat) (a : Act) (f : Nat → Value), (putAll a ds f).defers = a.defers
  | [], a, f => rfl
  | d :: ds, a, f => by rw [putAll, putAll_defers ds]; rfl
/-- the destinations of the head -/
def dstsOf (ops : Array Oper) (n : Nat) : List Nat := (List.range n).filterMap fun i => (ops[i]?).bind (·.dst)
theorem Kept.puts {ops : Array Oper} {n : Nat} {a0 a : Act} (h : Kept ops n a0 a) (hs : sizeB ops n a0.tmps.size = true) : a = putAll a0 (dstsOf ops n) (fun d => a.tmps[d]?.getD undef) := by
  have h1 : a.tmps = (putAll a0 (dstsOf ops n) (fun d => a.tmps[d]?.getD undef)).tmps := by
    apply Array.ext_getElem?
    intro k
    rw [putAll_get]
    by_cases hk : k ∈ dstsOf ops n ∧ k < a0.tmps.size
    · rw [if_pos hk]
      have : k < a.tmps.size := by rw [h.size]; exact hk.2
      simp [this]
    · rw [if_neg hk]
      refine h.tmps k fun i o hi ho hd => hk ⟨List.mem_filterMap.2 ⟨i, List.mem_range.2 hi, by rw [ho]; exact hd⟩, ?_⟩
      have := List.all_eq_true.1 hs i (List.mem_range.2 hi)
      simp only [ho, hd, decide_eq_true_eq] at this
      exact this
  have h2 : a.defers = (putAll a0 (dstsOf ops n) (fun d => a.tmps[d]?.getD undef)).defers := by rw [putAll_defers, h.defers]
  calc a = ⟨a.tmps, a.defers⟩ := rfl
    _ = _ := by rw [h2]; conv => lhs; arg 1; rw [h1]
/-- the same law; behind the head the slots hold values of which that is known -/
theorem wp_region_rel' {P : Program} {id : Nat} {Q : Exit → Act → World → Prop} {a : Act} {w : World} {l : List Oper} (n m : Nat) (ps : Nat → World → Value → Prop) (ds : List Nat) (hm : P.follows .mixedOrders = true) (hB : relB .any l.toArray n = true) (hsz : sizeB l.toArray n m = true) (ha : a.tmps.size = m) (hds : dstsOf l.toArray n = ds)
    (hl : ∀ j, Lasts (ps j)) (hop : AllRel P l.toArray n ps a w 0 (l.take n))
    (h : ∀ (f : Nat → Value) w', Below w.heap.size w w' → (∀ j, j < n → ∀ o d, l.toArray[j]? = some o → o.dst = some d → ps j w' (f d)) → wpList P l.toArray Q (l.drop n) (putAll a ds f) w') : (Code.region id l.toArray true).wp P Q a w := by
  refine wp_region_rel n m ps hm hB hsz ha hl hop fun a' w' hb hk hp => ?_
  rw [hk.puts (by rw [ha]; exact hsz), hds]
  exact h _ w' hb fun j hj o d ho hd => (hp j hj).get d ho hd

end Go.Proofs.YtdpoedgjehofiaaGreat
