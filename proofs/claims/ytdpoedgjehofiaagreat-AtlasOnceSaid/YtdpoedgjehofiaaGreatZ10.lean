/- Parts of the proof, in one text: WishMath, Batch, TreeA, TreeB, TreeC. -/
import Derived.Test.YtdpoedgjehofiaaGreatZ9
import Derived.Deep.DeepCutAuto
import Derived.Test.YtdpoedgjehofiaaGreatZ7

/- Wishes as bytes, there and back: the plain law. -/
namespace Go.Proofs.YtdpoedgjehofiaaGreat
set_option linter.unusedVariables false

theorem stN_shift (s : RdS) : ∀ i, stN s (i + 1) = stN (rdN s).2 i
  | 0 => rfl
  | i + 1 => by
    show (rdN (stN s (i + 1))).2 = (rdN (stN (rdN s).2 i)).2
    rw [stN_shift s i]
theorem vlN_shift (s : RdS) (i : Nat) : vlN s (i + 1) = vlN (rdN s).2 i := by
  unfold vlN
  rw [stN_shift]
theorem rdN_num {n : Nat} (h : n ≤ maxN) (r : List UInt8) : rdN (numB n ++ r, 0) = (n, (r, 0)) := by
  unfold rdN
  rw [if_pos rfl]
  unfold tn
  simp only
  rw [takeN_num h]
theorem numsI_cons (z : Int) (t : List Int) : numsI (z :: t) = numB z.toNat ++ numsI t := rfl
theorem NumI.max {z : Int} (h : NumI z) : z.toNat ≤ maxN := by unfold NumI at h; unfold maxN; omega
theorem stN_nums (r : List UInt8) : ∀ (l : List Int), (∀ z, z ∈ l → NumI z) → stN (numsI l ++ r, 0) l.length = (r, 0)
  | [], _ => rfl
  | z :: t, h => by
    rw [List.length_cons, stN_shift, numsI_cons, List.append_assoc, rdN_num (h z (by simp)).max]
    exact stN_nums r t fun y hy => h y (by simp [hy])
theorem vlN_nums (r : List UInt8) : ∀ (l : List Int), (∀ z, z ∈ l → NumI z) → ∀ i, i < l.length → (vlN (numsI l ++ r, 0) i : Int) = l.getD i 0
  | [], _, i, hi => by simp at hi
  | z :: t, h, 0, hi => by
    unfold vlN
    show ((rdN (numsI (z :: t) ++ r, 0)).1 : Int) = _
    rw [numsI_cons, List.append_assoc, rdN_num (h z (by simp)).max]
    have := h z (by simp)
    unfold NumI at this
    simp
    omega
  | z :: t, h, i + 1, hi => by
    rw [vlN_shift, numsI_cons, List.append_assoc, rdN_num (h z (by simp)).max]
    have := vlN_nums r t (fun y hy => h y (by simp [hy])) i (by simpa using hi)
    simpa using this
theorem parse_back {x : Wish} (h : mayB x = true) : parseW (wishB x) = x ∧ parseE (wishB x) = 0 := by
  obtain ⟨h6, h3, hn, hd, hl⟩ := may_nums h
  obtain ⟨client, stamp, group, epoch, kind, block, data, old, new, next⟩ := x
  simp only at h6 h3 hn hd hl
  obtain ⟨r3, hr3⟩ : ∃ r, r = numsI next := ⟨_, rfl⟩
  obtain ⟨r2, hr2⟩ : ∃ r, r = numsI [old, new, (next.length : Int)] ++ r3 := ⟨_, rfl⟩
  have hw : wishB ⟨client, stamp, group, epoch, kind, block, data, old, new, next⟩ = numsI [kind, client, stamp, group, epoch, block] ++ (strB data ++ r2) := by
    unfold wishB
    simp only [List.append_assoc, hr2, hr3]
  have s6 : stN (wishB ⟨client, stamp, group, epoch, kind, block, data, old, new, next⟩, 0) 6 = (strB data ++ r2, 0) := by
    rw [hw]
    exact stN_nums _ [kind, client, stamp, group, epoch, block] h6
  have hD : pD (wishB ⟨client, stamp, group, epoch, kind, block, data, old, new, next⟩) = (data, (r2, 0)) := by
    unfold pD
    rw [s6]
    unfold rdT
    rw [if_pos rfl]
    unfold ts
    simp only
    rw [takeS_str (by omega)]
  have h2 : ∀ z, z ∈ [old, new] → NumI z := fun z hz => h3 z (by simp at hz ⊢; omega)
  have e2 : r2 = numsI [old, new] ++ (numB next.length ++ r3) := by rw [hr2]; simp only [numsI, List.flatMap_cons, List.flatMap_nil, List.append_nil, Int.toNat_natCast, List.append_assoc]
  have s9 : stN (r2, 0) 2 = (numB next.length ++ r3, 0) := by
    rw [e2]
    exact stN_nums _ [old, new] h2
  have hM : pM (wishB ⟨client, stamp, group, epoch, kind, block, data, old, new, next⟩) = (next.length, (r3, 0)) := by
    unfold pM
    rw [hD]
    simp only
    rw [s9]
    unfold rdM
    rw [rdN_num (by unfold maxN; omega)]
    simp only
    rw [if_pos trivial, if_neg (by omega)]
  have e3 : r3 = numsI next ++ [] := by rw [hr3, List.append_nil]
  have s11 : stN (r3, 0) next.length = ([], 0) := by
    rw [e3]
    exact stN_nums _ next hn
  refine ⟨?_, ?_⟩
  · unfold parseW
    rw [hM, hD]
    simp only
    have v := fun i hi => vlN_nums (strB data ++ r2) [kind, client, stamp, group, epoch, block] h6 i hi
    rw [← hw] at v
    have v2 := fun i hi => vlN_nums (numB next.length ++ r3) [old, new] h2 i hi
    rw [← e2] at v2
    have v3 := fun i hi => vlN_nums [] next hn i hi
    rw [← e3] at v3
    have hx : ((List.range next.length).map fun i => (vlN (r3, 0) i : Int)) = next := by
      apply List.ext_getElem
      · simp
      · intro i h1 h2
        simp only [List.getElem_map, List.getElem_range]
        rw [v3 i h2, List.getD_eq_getElem?_getD, List.getElem?_eq_getElem h2]
        rfl
    rw [hx, v 0 (by simp), v 1 (by simp), v 2 (by simp), v 3 (by simp), v 4 (by simp), v 5 (by simp), v2 0 (by simp), v2 1 (by simp)]
    rfl
  · unfold parseE
    rw [hM]
    simp only
    rw [s11]
    rfl
theorem parse_of {x : Wish} (h : mayB x = true) : parse (wishB x) = (x, 0) := by
  obtain ⟨h1, h2⟩ := parse_back h
  have := (parse_ways (wishB x) ()).2.1 h2 (by rw [h1]; exact h)
  rw [this, h1]

theorem numB_zero : numB 0 = [0] := by unfold numB; rw [nd_zero]; rfl
theorem numB_small {n : Nat} (h0 : 0 < n) (h : n < 256) : numB n = [1, UInt8.ofNat n] := by
  have h1 : nd n = 1 := by rw [nd_pos (by omega), Nat.div_eq_of_lt h, nd_zero]
  unfold numB
  rw [h1]
  show [UInt8.ofNat 1, UInt8.ofNat (n / 256 ^ 0 % 256)] = _
  rw [Nat.pow_zero, Nat.div_one, Nat.mod_eq_of_lt h]
  rfl
def readW : Wish := ⟨31, 5, 1, 0, 1, 3, [], 0, 0, []⟩
def sealW : Wish := ⟨0, 0, 2, 1, 5, 0, [], 0, 0, [1, 2, 3, 4]⟩
theorem read_may : mayB readW = true := by decide
theorem seal_may : mayB sealW = true := by decide
theorem read_bytes : wishB readW = [1, 1, 1, 31, 1, 5, 1, 1, 0, 1, 3, 0, 0, 0, 0] := by
  simp [wishB, numsI, strB, readW, numB_zero, numB_small]
theorem seal_bytes : wishB sealW = [1, 5, 0, 0, 1, 2, 1, 1, 0, 0, 0, 0, 1, 4, 1, 1, 1, 2, 1, 3, 1, 4] := by
  simp [wishB, numsI, strB, sealW, numB_zero, numB_small]

end Go.Proofs.YtdpoedgjehofiaaGreat

/- Contract of wish.Batch. -/
namespace Go.Proofs.YtdpoedgjehofiaaGreat
set_option linter.unusedVariables false
open Go.RowKit

/-- wishes, one behind the other, that lie below B -/
def WishesIn (w : World) (B : Nat) (A : Option Addr) (n : Nat) (l : List Wish) : Prop :=
  l.length = n ∧ (0 < n → ∃ ad, A = some ad ∧ ad.block < B ∧ ∀ (k : Nat) (x : Wish), l[k]? = some x → ∃ A1 n1 c1 A2 n2 c2, (∀ (j : Nat) (v : Value), (wCells x A1 n1 c1 A2 n2 c2)[j]? = some v → w.cell? (ad.add (10 * k + j)) = some v) ∧ WishIn w B x A1 n1 c1 A2 n2 c2)
theorem WishesIn.below {w w' : World} {B n : Nat} {A : Option Addr} {l : List Wish} (h : WishesIn w B A n l) (hb : Below B w w') : WishesIn w' B A n l :=
  ⟨h.1, fun h0 => by
    obtain ⟨ad, hA, hB, hc⟩ := h.2 h0
    exact ⟨ad, hA, hB, fun k x hx => by
      obtain ⟨A1, n1, c1, A2, n2, c2, h1, h2⟩ := hc k x hx
      exact ⟨A1, n1, c1, A2, n2, c2, fun j v hv => (hb.cell (by rw [block_of_add]; exact hB)).trans (h1 j v hv), h2.below hb⟩⟩⟩
theorem WishesIn.more {w : World} {B B' n : Nat} {A : Option Addr} {l : List Wish} (h : WishesIn w B A n l) (hB : B ≤ B') : WishesIn w B' A n l :=
  ⟨h.1, fun h0 => by
    obtain ⟨ad, hA, hb, hc⟩ := h.2 h0
    exact ⟨ad, hA, by omega, fun k x hx => by
      obtain ⟨A1, n1, c1, A2, n2, c2, h1, h2⟩ := hc k x hx
      exact ⟨A1, n1, c1, A2, n2, c2, h1, h2.more hB⟩⟩⟩

/-- a load of a struct, wherever it lies -/
theorem wpList_load_cells {P : Program} {ops : Array Oper} {rest : List Oper} {o : Oper} {a : Act} {w : World} {Q : Exit → Act → World → Prop} (hgd : o.guard = none) (ty : TypeId) (x : Operand) (ho : o.op = .load ty x)
    (ad : Addr) (n : Nat) (hx : a.eval x = .pointer (some ad)) (vs : Array Value) (d : TypeDesc)
    (hu : P.underlying ty = some d) (hd : (match d with | .struct _ | .array _ _ => true | _ => false) = true) (hi : (P.info? ty).map (·.size) = some n)
    (hn : vs.size = n) (hv : ∀ (j : Nat) (v : Value), vs[j]? = some v → w.cell? (ad.add j) = some v)
    (h : wpList P ops Q rest (a.put o.dst (.agg vs)) w) : wpList P ops Q (o :: rest) a w :=
  wpList_plain hgd fun _ hK => by
    have hl : (loadCells ad vs.toList.length).run P w = .ok vs.toList.toArray w :=
      run_loadCells_list (P := P) w ad vs.toList (fun j v hj => hv j v (by simpa using hj))
    have hrun : (loadVar ty ad).run P w = .ok (.agg vs) w := by
      cases hq : P.info? ty with
      | none => simp [hq] at hi
      | some i =>
        have hs : i.size = n := by simpa [hq] using hi
        have hagg : (isAgg ty).run P w = .ok true w := by
          unfold isAgg
          rw [Sem.run_bind, run_underlying hu w]
          cases d <;> simp_all
        simp only [Array.length_toList, Array.toArray_toList, hn] at hl
        simp [loadVar, Sem.run_bind, hagg, sizeOf, typeInfo, hq, hs, hl]
    unfold Oper.wp execOp
    simp only [ho, hx, Instr.loadAt, Instr.sureAddr, Sem.run_bind, Sem.run_pure, Result.andThen_ok, hrun]
    exact hK _ _ h

def batchOf (l : List Wish) : List UInt8 := numB l.length ++ l.flatMap fun x => strB (wishB x)
def batch (l : List Wish) : List UInt8 × Nat := if 4 < l.length then ([], 5) else if l.all mayB = true then (batchOf l, 0) else ([], 2)

theorem wishB_len {x : Wish} (h : mayB x = true) : (wishB x).length ≤ 200 := by
  obtain ⟨h6, h3, hn, hd, hl⟩ := may_nums h
  have e1 := numsI_len h6
  have e2 := numsI_len h3
  have e3 := numsI_len hn
  have e4 := (numB_len (n := x.data.length) (by unfold maxN; omega)).2
  unfold wishB strB
  simp only [List.length_append, List.length_cons, List.length_nil] at *
  omega

theorem outs_len {l : List Wish} {n k : Nat} (h : ∀ x, x ∈ l → mayB x = true) (hn : n ≤ 4) (hk : l.length ≤ k) : (numB n ++ l.flatMap fun x => strB (wishB x)).length ≤ 8 + k * 300 := by
  have h1 := (numB_len (n := n) (by unfold maxN; omega)).2
  rw [List.length_append]
  have h2 : (l.flatMap fun x => strB (wishB x)).length ≤ l.length * 300 := by
    clear hk
    induction l with
    | nil => simp
    | cons a t ih =>
      have h3 := wishB_len (h a (by simp))
      have h4 := (numB_len (n := (wishB a).length) (by unfold maxN; omega)).2
      have h5 := ih (fun x hx => h x (by simp [hx]))
      rw [List.flatMap_cons, List.length_append, List.length_cons]
      unfold strB at h5 ⊢
      rw [List.length_append]
      omega
  have : l.length * 300 ≤ k * 300 := Nat.mul_le_mul_right _ hk
  omega

end Go.Proofs.YtdpoedgjehofiaaGreat

/- Contracts of tree.Leaf, Up, group: digests of leaves and of nodes. -/
namespace Go.Proofs.YtdpoedgjehofiaaGreat
set_option linter.unusedVariables false
open Go.RowKit Go.Maps

/-- what is unchanged but for some blocks -/
structure Only (N : Nat → Prop) (w w' : World) : Prop where
  os : w'.os = w.os
  tape : w'.tape = w.tape
  output : w'.output = w.output
  size : w.heap.size ≤ w'.heap.size
  block : ∀ i, i < w.heap.size → ¬ N i → w'.heap[i]? = w.heap[i]?
theorem Only.refl (N : Nat → Prop) (w : World) : Only N w w := ⟨rfl, rfl, rfl, Nat.le_refl _, fun _ _ _ => rfl⟩
theorem Only.trans {N : Nat → Prop} {a b c : World} (h : Only N a b) (h' : Only N b c) : Only N a c :=
  ⟨h'.os.trans h.os, h'.tape.trans h.tape, h'.output.trans h.output, Nat.le_trans h.size h'.size, fun i hi hn => (h'.block i (Nat.lt_of_lt_of_le hi h.size) hn).trans (h.block i hi hn)⟩
theorem Only.of_book {k : Book} {w w' : World} (h : OnlyBook k w w') : Only k.has w w' := ⟨h.os, h.tape, h.output, h.size, h.block⟩
theorem Only.of_below {N : Nat → Prop} {w w' : World} (h : Below w.heap.size w w') : Only N w w' := ⟨h.os, h.tape, h.output, h.size, fun i hi _ => h.block i hi⟩
/-- more may turn; what is new may turn too -/
theorem Only.mono {N N' : Nat → Prop} {w w' : World} (h : Only N w w') (hN : ∀ b, b < w.heap.size → N b → N' b) : Only N' w w' := ⟨h.os, h.tape, h.output, h.size, fun i hi hn => h.block i hi (fun e => hn (hN i hi e))⟩
theorem Only.of_grown {N : Nat → Prop} {w w' : World} {b : Nat} (h : w.grownBy w' (some b)) (hb : N b) : Only N w w' := ⟨h.os, h.tape, h.output, h.size, fun i hi hn => h.block i hi (fun e => hn (by injection e with e; exact e ▸ hb))⟩
theorem Only.of_turned {N : Nat → Prop} {w w' : World} {b : Nat} (h : Turned b w w') (hb : N b) : Only N w w' := Only.of_grown h.grown hb
theorem Only.drewN {N : Nat → Prop} {w w' : World} (h : Only N w w') (n : Nat) : Only N w (w'.drewN n) := ⟨h.os, h.tape, h.output, h.size, h.block⟩
theorem Only.below {N : Nat → Prop} {w w' : World} (h : Only N w w') {B : Nat} (hB : B ≤ w.heap.size) (hn : ∀ b, b < B → ¬ N b) : Below B w w' := ⟨h.os, h.tape, h.output, h.size, fun i hi => h.block i (by omega) (hn i hi)⟩
theorem Only.blk {N : Nat → Prop} {w w' : World} {g : Nat} {t : TypeId} {cs : Array Value} (h : Only N w w') (hb : Blk w g t cs) (hg : ¬ N g) : Blk w' g t cs := (h.block g hb.lt hg).trans hb
theorem Only.cell {N : Nat → Prop} {w w' : World} (h : Only N w w') {p : Addr} (hp : p.block < w.heap.size) (hn : ¬ N p.block) : w'.cell? p = w.cell? p := World.cell?_of_block (h.block p.block hp hn)
theorem Only.reads {N : Nat → Prop} {w w' : World} {size n : Nat} {A : Option Addr} {xs : List Value} (h : Only N w w') (hr : Reads w w.heap.size size A n xs) (hn : ∀ a, 0 < n → A = some a → ¬ N a.block) : Reads w' w'.heap.size size A n xs :=
  ⟨hr.1, fun h0 => by
    obtain ⟨ad, e, hb, hc⟩ := hr.2 h0
    exact ⟨ad, e, by have := h.size; omega, fun j u hu => (h.cell (by rw [block_of_add]; exact hb) (by rw [block_of_add]; exact hn ad h0 e)).trans (hc j u hu)⟩⟩
theorem BookAt.only {w w' : World} {k : Book} {l : List (List UInt8)} {n : Nat} {N : Nat → Prop} (h : BookAt w k l n) (ho : Only N w w') (hg : ¬ N k.g) (h1 : ¬ N k.b1) (h2 : ¬ N k.b2) : BookAt w' k l n := by
  obtain ⟨D1, D2, n1, n2, m1, m2, m3⟩ := h.maps
  have hl := h.lt
  refine ⟨(ho.block _ hl.1 hg).trans h.cells, ⟨D1, D2, n1, n2, ?_, ?_, m3⟩, h.len, h.apart⟩
  · obtain ⟨es, c, hb, F, hs, hD⟩ := m1
    exact ⟨es, c, (ho.block _ hl.2.1 h1).trans hb, F, hs, hD⟩
  · obtain ⟨es, c, hb, F, hs, hD⟩ := m2
    exact ⟨es, c, (ho.block _ hl.2.2 h2).trans hb, F, hs, hD⟩

def digRow (ds : List (List UInt8)) : List Value := ds.flatMap fun d => d.map vb
theorem digRow_len : ∀ {ds : List (List UInt8)}, Digs ds → (digRow ds).length = ds.length * 32
  | [], _ => rfl
  | d :: t, h => by
    have h1 := h d (List.mem_cons_self ..)
    have h2 := digRow_len (ds := t) fun e he => h e (List.mem_cons_of_mem _ he)
    unfold digRow at h2 ⊢
    simp only [List.flatMap_cons, List.length_append, List.length_map, List.length_cons]
    omega
theorem digRow_app (a b : List (List UInt8)) : digRow (a ++ b) = digRow a ++ digRow b := by simp [digRow]
theorem digRow_get : ∀ {ds : List (List UInt8)} (hd : Digs ds) (i j : Nat) {d : List UInt8}, ds[i]? = some d → j < 32 → (digRow ds)[i * 32 + j]? = (d.map vb)[j]?
  | [], _, i, j, d, h, _ => by simp at h
  | e :: t, hd, 0, j, d, h, hj => by
    simp only [List.getElem?_cons_zero, Option.some.injEq] at h
    subst h
    have h1 := hd e (List.mem_cons_self ..)
    unfold digRow
    rw [List.flatMap_cons, List.getElem?_append_left (by simp [h1]; omega), show 0 * 32 + j = j by omega]
  | e :: t, hd, i + 1, j, d, h, hj => by
    have h1 := hd e (List.mem_cons_self ..)
    have h2 := digRow_get (ds := t) (fun x hx => hd x (List.mem_cons_of_mem _ hx)) i j (d := d) (by simpa using h) hj
    unfold digRow at h2 ⊢
    rw [List.flatMap_cons, List.getElem?_append_right (by simp [h1]; omega), ← h2]
    congr 1
    simp [h1]
    omega
theorem digRow_flat (ds : List (List UInt8)) : digRow ds = ds.flatten.map vb := by
  induction ds with
  | nil => rfl
  | cons d t ih => unfold digRow at ih ⊢; rw [List.flatMap_cons, List.flatten_cons, List.map_append, ih]
theorem digRow_drop : ∀ {ds : List (List UInt8)} (hd : Digs ds) (i : Nat), (digRow ds).drop (i * 32) = digRow (ds.drop i)
  | [], _, i => by simp [digRow]
  | e :: t, _, 0 => by simp
  | e :: t, hd, i + 1 => by
    have h1 := hd e (List.mem_cons_self ..)
    have h2 := digRow_drop (ds := t) (fun x hx => hd x (List.mem_cons_of_mem _ hx)) i
    rw [List.drop_succ_cons, ← h2]
    unfold digRow
    rw [List.flatMap_cons, show (i + 1) * 32 = (e.map vb).length + i * 32 by simp [h1]; omega, List.drop_append, Nat.add_sub_cancel_left, List.drop_of_length_le (by omega), List.nil_append]
theorem digRow_take : ∀ {ds : List (List UInt8)} (hd : Digs ds) (i : Nat), (digRow ds).take (i * 32) = digRow (ds.take i)
  | [], _, i => by simp [digRow]
  | e :: t, _, 0 => by simp [digRow]
  | e :: t, hd, i + 1 => by
    have h1 := hd e (List.mem_cons_self ..)
    have h2 := digRow_take (ds := t) (fun x hx => hd x (List.mem_cons_of_mem _ hx)) i
    rw [List.take_succ_cons]
    unfold digRow at h2 ⊢
    rw [List.flatMap_cons, List.flatMap_cons, ← h2, show (i + 1) * 32 = (e.map vb).length + i * 32 by simp [h1]; omega, List.take_length_add_append]

theorem treeZ_eq : inkZ = #[.int .u8 0, .int .u8 0, .int .u8 0, .int .u8 0, .int .u8 0, .int .u8 0, .int .u8 0, .int .u8 0, .int .u8 0, .int .u8 0, .int .u8 0, .int .u8 0, .int .u8 0, .int .u8 0, .int .u8 0, .int .u8 0, .int .u8 0, .int .u8 0, .int .u8 0, .int .u8 0, .int .u8 0, .int .u8 0, .int .u8 0, .int .u8 0, .int .u8 0, .int .u8 0, .int .u8 0, .int .u8 0, .int .u8 0, .int .u8 0, .int .u8 0, .int .u8 0] := by kernel_rfl
theorem tree_apart {w : World} {k : Book} {A : Option Addr} {n : Nat} {B : Nat} (hB : ∀ ad, A = some ad → B ≤ ad.block) (hk : k.g < B ∧ k.b1 < B ∧ k.b2 < B) : ∀ a, 0 < n → A = some a → ¬ k.has a.block := fun a _ ha e => by
  have := hB a ha
  rcases e with e | e | e <;> omega
theorem bRow_size32 {d : List UInt8} (h : d.length = 32) : (bRow d).size = 32 := by rw [bRow_size, h]

set_option maxRecDepth 100000 in
set_option maxHeartbeats 4000000 in
theorem leaf_any (k : Book) (L : List (List UInt8)) (asked : Nat) (A : Option Addr) (n c : Nat) (xs : List UInt8) (w : World) (B : Nat) (hbk : BookAt w k L asked) (h : Reads w B 1 A n (xs.map vb)) (hB : B ≤ w.heap.size) (hn : n < 65536) (has : asked ≤ 1000000) :
    Calls Tryz.prog 164 #[.pointer (some ⟨k.g, 0, none⟩), .slice A n c] w fun e w' => e = .returned (.tuple #[.agg (bRow (leafD xs)), .int .i64 0]) ∧ BookAt w' k (addInk L (leafIn xs)) (asked + 1) ∧ OnlyBook k w w' := by
  have hxn : xs.length = n := by have := h.1; simpa using this
  have HXN := Lib.hid hxn
  have hX : Below w.heap.size w (w.alloc (.cells inkZ 60)) := (Below.refl _ _).alloc (Nat.le_refl _) _
  have hk0 : Blk (w.alloc (.cells inkZ 60)) w.heap.size 60 inkZ := Blk.newAt (by simp)
  have hlt := hbk.lt
  have hlt1 := hlt.1
  have hlt2 := hlt.2.1
  have hlt3 := hlt.2.2
  have HBK := Lib.hid hbk
  have HRD := Lib.hid h
  obtain ⟨i0, hi0, hz0, hz1, hz2⟩ := info_parts u8_info
  have HZ := Lib.hid treeZ_eq
  have HZS := Lib.hid (show inkZ.size = 32 by simp [inkZ, bRow])
  have hs0 : (w.alloc (.cells inkZ 60)).heap.size = w.heap.size + 1 := by simp
  have HX := Lib.hid hX
  have HK0 := Lib.hid hk0
  have HS0 := Lib.hid hs0
  clear h hlt hbk hX hk0 hs0 hxn
  obtain ⟨g, hg⟩ : ∃ g, g = w.heap.size := ⟨_, rfl⟩
  have hnn : ¬ (65536 : Int) ≤ (n : Int) := by omega
  go_enter Tryz.func164, Tryz.ntmps164
  go_upto_region 1 with fail
  rw [← HZ.out]
  generalize World.alloc w _ = w1 at HX HK0 HS0 ⊢
  rw [← hg] at HK0 HS0 ⊢
  have hs1 := HX.out.size
  have hg1 : g < w1.heap.size := by have := HS0.out; omega
  have hgw : w.heap.size ≤ g := by omega
  have HRD1 := Lib.hid (HRD.out.below (HX.out.mono hB))
  have HW0 := Lib.hid (World.ownsRow_lit (base := w1.heap.size) (e := 5) (size := 1) w1 #[.int .u8 0] 1 (Nat.le_refl _) (by unfold maxLen; omega) rfl)
  have HRD2 := Lib.hid (HRD1.out.alloc (by omega) (.cells #[.int .u8 0] 5))
  clear HS0 hg
  go_wp2_with (at_builtin; go_must (refine wpList_append_any _ rfl (.tmp 11) (.tmp 12) 22 rfl w1.heap.size 5 i0 _ 1 1 Tryz.underlying22 hi0 hz0 hz1 hz2 rfl (by omega) _ 1 _ rfl HW0.out B A n c (xs.map vb) rfl HRD2.out ?c1 ?c2 ?c3 (by simp) ?_))
  case c1 => intro u hu; rfl
  case c2 => unfold maxLen; omega
  case c3 => omega
  intro v2 w2 hown2 hg2 hor2
  have hb2 : Below w1.heap.size w1 w2 := grown_below ((Below.refl _ _).alloc (Nat.le_refl _) _) (by simp) hg2 (fun b hb => by
    have : b = w1.heap.size := by simpa [Value.ownBlock] using hb.symm
    omega)
  have hob : OwnB w2 w1.heap.size v2 (leafIn xs) := by
    unfold OwnB leafIn
    rw [List.length_cons, HXN.out, List.map_cons, Nat.add_comm]
    exact hown2
  obtain ⟨Ab, cb, rfl, hbc, hbm, hbr, hbB⟩ := own_slice_b hob
  have hll : (leafIn xs).length = n + 1 := by unfold leafIn; rw [List.length_cons, HXN.out]
  rw [hll] at hbc hbr ⊢
  have HB2 := Lib.hid (HX.out.trans (hb2.mono hs1))
  have HK2 := Lib.hid (HK0.out.under hb2)
  have HBK2 := Lib.hid (HBK.out.below HB2.out)
  have hs2 := hb2.size
  have hap := tree_apart (w := w) (k := k) (n := n + 1) hbB (by omega)
  have hof := inkOf_any k L asked Ab (n + 1) cb (leafIn xs) w2 _ HBK2.out hbr (Nat.le_refl _) (fun a h0 ha e => hap a h0 ha (.inl e)) hbc hbm (by omega) has
  have hsz : (bRow (leafD xs)).size = 32 := bRow_size32 (leafD_len xs)
  have hon := bRow_one (leafD xs)
  have HOF := Lib.hid hof
  have hdd : leafD xs = shaOf (leafIn xs) := rfl
  rw [← hdd] at HOF
  obtain ⟨D, hD⟩ : ∃ D, D = bRow (leafD xs) := ⟨_, rfl⟩
  rw [← hD] at HOF hsz hon
  have HD := Lib.hid hD
  have HSZ := Lib.hid hsz
  have HON := Lib.hid hon
  clear hob hb2 hown2 hg2 hor2 hbr hbB hap hof hsz hon hdd hD HRD1 HRD2 HW0 hll
  go_wp2_with fail
  refine HOF.out.mono ?_
  rintro _ w3 ⟨rfl, hbk3, ho3⟩
  have HO3 := Lib.hid ((OnlyBook.of_below HB2.out).trans ho3)
  have hk3 : Blk w3 g 60 inkZ := (ho3.block g (by omega) (by rintro (e | e | e) <;> omega)).trans HK2.out
  have HK3 := Lib.hid hk3
  have HBK3 := Lib.hid hbk3
  have hs3 := ho3.size
  clear hbk3 ho3 hk3
  go_wp2_with (refine wpList_store_part (o := ⟨none, _, _, _, _, _⟩) rfl 60 (.tmp 4) (.tmp 15) rfl g 0 D rfl rfl 60 inkZ HK3.out (by rw [HSZ.out]; rfl) (by rw [HSZ.out, HZS.out]; omega) HON.out ?_; intro w5 hT5 hD5; rw [spl_self _ _ (by rw [HSZ.out, HZS.out])] at hD5)
  refine bodyPost_ret (results_part2 rfl _ _ g 32 60 _ _ rfl hD5 Tryz.underlying60 rfl rfl HSZ.out) rfl ⟨by rw [HD.out]; rfl, ?_, ?_⟩
  · exact HBK3.out.grown hT5.grown ⟨by omega, by omega, by omega⟩
  · exact HO3.out.grown hT5.grown (by omega)

/-- 's[l:h]' of a slice -/
theorem run_slice_sub {P : Program} {t e : TypeId} {m : Nat} (ht : P.underlying t = some (.slice e)) (hs : (P.info? e).map (·.size) = some m) (A : Option Addr) (len cap l h : Nat) (li hi : Int) (el : li = l) (eh : hi = h) (hlh : l ≤ h) (hh : h ≤ cap) (W : World) :
    (Instr.slice t (.slice A len cap) (some (.int .i64 li)) (some (.int .i64 hi)) none).run P W = .ok (.slice (if cap = l then A else A.map (·.add (l * m))) (h - l) (cap - l)) W := by
  subst el eh
  obtain ⟨i, hi, hsz⟩ : ∃ i, P.info? e = some i ∧ i.size = m := by
    cases hh : P.info? e with
    | none => rw [hh] at hs; cases hs
    | some i => rw [hh] at hs; exact ⟨i, rfl, by simpa using hs⟩
  have he : P.elem t = e := by simp [Program.elem, ht]
  rw [run_slice_lh W t A len cap (by rw [he]; exact ht) .i64 .i64 (l : Int) (h : Int) (by omega) (by omega) (by omega)]
  simp [he, sizeOf, typeInfo, hi, hsz, sliced]
theorem Reads.sub {w : World} {B size n : Nat} {A : Option Addr} {xs : List Value} (h : Reads w B size A n xs) {l k cap : Nat} (hlk : l ≤ k) (hk : k ≤ n) (hc : n ≤ cap) :
    Reads w B size (if cap = l then A else A.map (·.add (l * size))) (k - l) ((xs.drop (l * size)).take ((k - l) * size)) := by
  have hx := h.1
  have hm : l * size ≤ k * size := Nat.mul_le_mul_right _ hlk
  have hm2 : k * size ≤ n * size := Nat.mul_le_mul_right _ hk
  refine ⟨by rw [List.length_take, List.length_drop, hx, Nat.sub_mul]; omega, fun hn => ?_⟩
  obtain ⟨ad, rfl, hb, hcell⟩ := h.2 (by omega)
  rw [if_neg (by omega)]
  refine ⟨ad.add (l * size), rfl, by rw [block_of_add]; exact hb, fun j u hu => ?_⟩
  rw [add_of_add]
  rw [List.getElem?_take] at hu
  split at hu
  · exact hcell _ u (by rw [← hu, List.getElem?_drop])
  · cases hu

/-- 'arr[:]' of an array behind a pointer, one cell an element -/
theorem run_sliceArr_all {P : Program} {t e : TypeId} {n : Nat} (ht : P.underlying t = some (.array n e)) (hs : (P.info? e).map (·.size) = some 1) (hn : 0 < n) (a : Addr) (W : World) :
    (Instr.sliceAt t (.pointer (some a)) none none none).run P W = .ok (.slice (some (a.add 0)) n n) W := by
  obtain ⟨i, hi, hsz⟩ : ∃ i, P.info? e = some i ∧ i.size = 1 := by
    cases hh : P.info? e with
    | none => rw [hh] at hs; cases hs
    | some i => rw [hh] at hs; exact ⟨i, rfl, by simpa using hs⟩
  have he : P.elem t = e := by simp [Program.elem, ht]
  have hln : P.arrayLen t = n := by simp [Program.arrayLen, ht]
  rw [run_sliceAt_array_all W t a (by rw [he, hln]; exact ht)]
  simp [he, hln, sizeOf, typeInfo, hi, hsz, slicedAt, show ¬ n = 0 by omega]
theorem reads_blk {w : World} {g n : Nat} {t : TypeId} {cs : Array Value} (h : Blk w g t cs) (hn : cs.size = n) : Reads w w.heap.size 1 (some ⟨g, 0, none⟩) n cs.toList :=
  ⟨by simp [hn], fun _ => ⟨_, rfl, h.lt, fun j u hu => by
    rw [add_off, Nat.zero_add, h.cell]
    simpa using hu⟩⟩
/-- a literal's cells -/
theorem fill_spl : ∀ (l : List Value) (k : Nat) (cs : Array Value), k + l.length ≤ cs.size → (l.zipIdx k).foldl (fun (cs : Array Value) (x : Value × Nat) => cs.setIfInBounds x.2 x.1) cs = spl cs k l
  | [], k, cs, h => by
    simp only [List.zipIdx_nil, List.foldl_nil]
    unfold spl
    apply Array.toList_inj.1
    simp
  | v :: l, k, cs, h => by
    rw [List.length_cons] at h
    rw [List.zipIdx_cons, List.foldl_cons, fill_spl l (k + 1) _ (by rw [Array.size_setIfInBounds]; omega), spl_cons cs k v l h]
theorem fill_all (cs D : Array Value) (n : Nat) (h0 : cs.size = n) (h1 : D.size = n) : Array.foldl (fun (cs : Array Value) (x : Value × Nat) => cs.setIfInBounds x.2 x.1) cs D.zipIdx 0 n = D := by
  subst h1
  have e : D.size = D.zipIdx.size := by simp
  rw [e, ← Array.foldl_toList, Array.toList_zipIdx, fill_spl _ _ _ (by simp [h0]), spl_self _ _ h0.symm]
theorem dig_info : (Tryz.prog.info? 60).map (·.size) = some 32 := by kernel_rfl
set_option maxRecDepth 100000 in
theorem group_any (A : Option Addr) (n c p : Nat) (w : World) (hp : 4 * p ≤ n) (hn : n ≤ 1000000) (hc : n ≤ c) :
    Calls Tryz.prog 174 #[.slice A n c, .int .i64 (p : Int)] w fun e w' => e = .returned (.slice (if c = 4 * p then A else A.map (·.add (4 * p * 32))) (min (4 * p + 4) n - 4 * p) (c - 4 * p)) ∧ w = w' := by
  by_cases h4 : (n : Int) < 4 * (p : Int) + 4
  · have hsl := fun (W : World) => run_slice_sub (P := Tryz.prog) (t := 201) Tryz.underlying201 dig_info A n c (4 * p) n (4 * (p : Int)) (n : Int) (by omega) rfl (by omega) (by omega) W
    rw [show min (4 * p + 4) n = n by omega]
    generalize (if c = 4 * p then A else A.map (·.add (4 * p * 32))) = A' at hsl ⊢
    go_enter Tryz.func174, Tryz.ntmps174
    go_wp2
    go_ret
    exact ⟨rfl, rfl⟩
  · have hsl := fun (W : World) => run_slice_sub (P := Tryz.prog) (t := 201) Tryz.underlying201 dig_info A n c (4 * p) (4 * p + 4) (4 * (p : Int)) (4 * (p : Int) + 4) (by omega) (by omega) (by omega) (by omega) W
    rw [show min (4 * p + 4) n = 4 * p + 4 by omega]
    generalize (if c = 4 * p then A else A.map (·.add (4 * p * 32))) = A' at hsl ⊢
    go_enter Tryz.func174, Tryz.ntmps174
    go_wp2
    go_ret
    exact ⟨rfl, rfl⟩

end Go.Proofs.YtdpoedgjehofiaaGreat

/- Contract of tree.Up: the digest of a node's children. -/
namespace Go.Proofs.YtdpoedgjehofiaaGreat
set_option linter.unusedVariables false
open Go.RowKit Go.Maps
attribute [local irreducible] wpList

theorem digRow_at {ds : List (List UInt8)} (hd : Digs ds) {i : Nat} (hi : i < ds.length) {w : World} {ad : Addr} (h : ∀ j u, (digRow ds)[j]? = some u → w.cell? (ad.add j) = some u) :
    ∀ (j : Nat) (v : Value), (bRow ds[i])[j]? = some v → w.cell? ((ad.add (i * 32)).add j) = some v := fun j v hv => by
  have hl : ds[i].length = 32 := hd _ (List.getElem_mem hi)
  have hj : j < 32 := by
    rcases Nat.lt_or_ge j 32 with h1 | h1
    · exact h1
    · rw [Array.getElem?_eq_none (by rw [bRow_size, hl]; exact h1)] at hv; cases hv
  rw [add_of_add]
  refine h _ v ?_
  rw [digRow_get hd i j (List.getElem?_eq_getElem hi) hj]
  simpa [bRow] using hv

set_option maxRecDepth 100000 in
set_option maxHeartbeats 4000000 in
theorem up_any (k : Book) (L : List (List UInt8)) (asked : Nat) (A : Option Addr) (n c : Nat) (ds : List (List UInt8)) (w : World) (B : Nat) (hbk : BookAt w k L asked) (h : Reads w B 32 A n (digRow ds)) (hB : B ≤ w.heap.size) (hd : Digs ds) (h1 : 1 ≤ n) (h4 : n ≤ 4) (has : asked ≤ 1000000) :
    Calls Tryz.prog 173 #[.pointer (some ⟨k.g, 0, none⟩), .slice A n c] w fun e w' => e = .returned (.tuple #[.agg (bRow (upD ds)), .int .i64 0]) ∧ BookAt w' k (addInk L (upIn ds)) (asked + 1) ∧ OnlyBook k w w' := by
  have hxn : ds.length = n := by have h2 := h.1; rw [digRow_len hd] at h2; omega
  obtain ⟨ad, rfl, hadb, hcell⟩ := h.2 (by omega)
  have HXN := Lib.hid hxn
  have HD := Lib.hid hd
  have HC := Lib.hid hcell
  have hX : Below w.heap.size w (w.alloc (.cells inkZ 60)) := (Below.refl _ _).alloc (Nat.le_refl _) _
  have hk0 : Blk (w.alloc (.cells inkZ 60)) w.heap.size 60 inkZ := Blk.newAt (by simp)
  have hlt := hbk.lt
  have hlt1 := hlt.1
  have hlt2 := hlt.2.1
  have hlt3 := hlt.2.2
  have HBK := Lib.hid hbk
  obtain ⟨i0, hi0, hz0, hz1, hz2⟩ := info_parts u8_info
  have HZ := Lib.hid treeZ_eq
  have HZS := Lib.hid (show inkZ.size = 32 by simp [inkZ, bRow])
  have hs0 : (w.alloc (.cells inkZ 60)).heap.size = w.heap.size + 1 := by simp
  have HX := Lib.hid hX
  have HK0 := Lib.hid hk0
  have HS0 := Lib.hid hs0
  clear h hlt hbk hX hk0 hs0 hxn hd hcell
  obtain ⟨g, hg⟩ : ∃ g, g = w.heap.size := ⟨_, rfl⟩
  have hnn : ¬ (n : Int) < 1 := by omega
  have hnn4 : ¬ (4 : Int) < (n : Int) := by omega
  go_enter Tryz.func173, Tryz.ntmps173
  go_upto_region 1 with fail
  rw [← HZ.out]
  generalize World.alloc w _ = w1 at HX HK0 HS0 ⊢
  rw [← hg] at HK0 HS0 ⊢
  have hs1 := HX.out.size
  have hg1 : g < w1.heap.size := by have := HS0.out; omega
  have hgw : w.heap.size ≤ g := by omega
  have hw0 := World.ownsRow_lit (base := w1.heap.size) (e := 5) (size := 1) w1 #[.int .u8 1] 1 (Nat.le_refl _) (by unfold maxLen; omega) rfl
  have hob0 : OwnB (w1.alloc (.cells #[.int .u8 1] 5)) w1.heap.size (.slice (some ⟨w1.heap.size, 0, none⟩) 1 1) (upIn (ds.take 0)) := hw0
  have HW0 := Lib.hid hob0
  have HX1 := Lib.hid (HX.out.trans ((below_lit w1 (.cells #[.int .u8 1] 5)).mono hs1))
  have HK1 := Lib.hid (HK0.out.under (below_lit w1 (.cells #[.int .u8 1] 5)))
  have hsz1 : w1.heap.size ≤ (w1.alloc (.cells #[.int .u8 1] 5)).heap.size := by simp
  have HSZ1 := Lib.hid hsz1
  clear HS0 hg hw0 hob0 hsz1
  go_wp2_with fail
  go_loopw [6, 21] (fun ov iv wr => ∃ i : Nat, i ≤ n ∧ iv = .int .i64 i ∧ OwnB wr w1.heap.size ov (upIn (ds.take i)) ∧ Below w.heap.size w wr ∧ Blk wr g 60 inkZ ∧ w1.heap.size ≤ wr.heap.size) (fun _ iv _ => n - (intOf iv).toNat)
  case atStart => exact ⟨0, by omega, rfl, HW0.out, HX1.out, HK1.out, HSZ1.out⟩
  case round =>
    obtain ⟨i, hi, rfl, hov, hbel, hblk, hsr⟩ := hrel
    have HOV := Lib.hid hov
    have HB := Lib.hid hbel
    have HKR := Lib.hid hblk
    have hsz := hbel.size
    have HUL := Lib.hid (upIn_len (fun d hd => HD.out d (List.mem_of_mem_take hd) : Digs (ds.take i)))
    clear hov hbel hblk
    by_cases hin : i < n
    · have hil : i < ds.length := by have := HXN.out; omega
      have hcs := digRow_at HD.out hil HC.out
      have hcs' : ∀ (j : Nat) (v : Value), (bRow ds[i])[j]? = some v → wr.cell? ((ad.add (i * 32)).add j) = some v := fun j v hv => (HB.out.cell (show ((ad.add (i * 32)).add j).block < w.heap.size by rw [block_of_add, block_of_add]; omega)).trans (hcs j v hv)
      have htk : upIn (ds.take (i + 1)) = upIn (ds.take i) ++ ds[i] := by
        unfold upIn
        rw [List.take_succ_eq_append_getElem hil, List.flatten_append]
        simp
      have hdl : ds[i].length = 32 := HD.out _ (List.getElem_mem hil)
      obtain ⟨d, hdd⟩ : ∃ d, d = ds[i] := ⟨_, rfl⟩
      rw [← hdd] at hcs' htk hdl
      have HCS := Lib.hid hcs'
      have HTK := Lib.hid htk
      have hds := bRow_size32 hdl
      have hdo := bRow_one d
      have HDL := Lib.hid hdl
      have hdv : (bRow d).toList = d.map vb := by simp [bRow]
      have HDV := Lib.hid hdv
      clear hcs hcs' htk hdd hdl hdv
      obtain ⟨D, hD⟩ : ∃ D, D = bRow d := ⟨_, rfl⟩
      rw [← hD] at HCS hds hdo HDV
      have HDS := Lib.hid hds
      have HDO := Lib.hid hdo
      clear hds hdo hD
      have hinI : (i : Int) < (n : Int) := by omega
      go_upto_region 7 with (first
        | (refine wpList_load_cells (o := ⟨some 24, _, _, _, _, _⟩) rfl 60 (.tmp 23) rfl (ad.add (i * 32)) 32 rfl D _ Tryz.underlying60 rfl rfl HDS.out (fun j v hv => HCS.out j v hv) ?_)
        | (refine wpList_store_part (o := ⟨none, _, _, _, _, _⟩) rfl 60 (.tmp 8) (.tmp 24) rfl wr.heap.size 0 D rfl rfl 60 inkZ (by rw [HZ.out]; exact Blk.newAt rfl) (by rw [HDS.out]; rfl) (by rw [HDS.out, HZS.out]; omega) HDO.out ?_; intro w3 hT3 hD3; rw [spl_self _ _ (by rw [HDS.out, HZS.out])] at hD3))
      have hb3 : Below wr.heap.size wr w3 := hT3.below ((Below.refl _ _).alloc (Nat.le_refl _) _) (Nat.le_refl _)
      have HB3 := Lib.hid (HB.out.trans (hb3.mono hsz))
      have HO3 := Lib.hid (HOV.out.below hb3)
      have HK3 := Lib.hid (HKR.out.under hb3)
      have hs3 := hb3.size
      have hr3 := reads_blk hD3 HDS.out
      rw [HDV.out] at hr3
      have HR3 := Lib.hid hr3
      obtain ⟨gq, hgq⟩ : ∃ gq, gq = wr.heap.size := ⟨_, rfl⟩
      rw [← hgq] at HR3 ⊢
      have HSL := Lib.hid (fun (W : World) => run_sliceArr_all (P := Tryz.prog) (t := 60) Tryz.underlying60 (show (Tryz.prog.info? 5).map (·.size) = some 1 by kernel_rfl) (by omega) ⟨gq, 0, none⟩ W)
      have hrow := HO3.out.row
      have hul := HUL.out
      have hlen : (ds.take i).length ≤ 4 := by rw [List.length_take]; omega
      have HWN := Lib.hid hrow
      have hge := fun b (hb : (_ : Value).ownBlock = some b) => HO3.out.ge hb
      have HGE := Lib.hid hge
      obtain ⟨xb, hxb⟩ : ∃ xb, xb = upIn (ds.take i) := ⟨_, rfl⟩
      rw [← hxb] at HWN hul HTK
      have HXB := Lib.hid hxb
      clear hT3 hD3 hb3 hr3 hrow hgq hge hxb HOV HO3
      go_wp2_with (first
        | (refine wpList_exec_w (o := ⟨some 26, _, _, _, _, _⟩) rfl (.slice (some ⟨gq, 0, none⟩) 32 32) w3 (by
            have := HSL.out w3
            go_simp
            exact this) ?_)
        | (at_builtin; go_must (refine wpList_append_any (o := ⟨some 27, _, _, _, _, _⟩) _ rfl (.tmp 25) (.tmp 26) 22 rfl w1.heap.size 5 i0 _ 1 1 Tryz.underlying22 hi0 hz0 hz1 hz2 rfl (by omega) _ _ _ rfl HWN.out w3.heap.size (some ⟨gq, 0, none⟩) 32 32 (d.map vb) rfl HR3.out ?c1 ?c2 ?c3 ?c4 ?_)))
      case c1 => intro u hu; first | rfl | (obtain ⟨y, _, rfl⟩ := List.mem_map.1 hu; rfl)
      case c2 => unfold maxLen; omega
      case c3 => omega
      case c4 => omega
      intro v6 w6 hown6 hg6 hor6
      have HB6 := Lib.hid (grown_below HB3.out (by omega) hg6 (fun b hb => by have := HGE.out b hb; omega))
      have hk6 : Blk w6 g 60 inkZ := HK3.out.grown hg6 (fun e => by have := HGE.out g e.symm; omega)
      have HK6 := Lib.hid hk6
      have hs6 := hg6.size
      have HO6 := Lib.hid (show OwnB w6 w1.heap.size v6 (upIn (ds.take (i + 1))) by
        unfold OwnB
        rw [HTK.out, List.length_append, List.map_append, HDL.out, hul, List.length_take]
        exact hown6)
      clear hown6 hg6 hor6 hk6
      go_wp2_with fail
      go_roundw
      case rel => exact ⟨i + 1, by omega, by go_num, HO6.out, HB6.out, HK6.out, by omega⟩
      case measure => simp [intOf]; omega
    · obtain rfl : i = n := by omega
      have hiI : ¬ (i : Int) < (i : Int) := by omega
      have htk : ds.take i = ds := List.take_of_length_le (by have := HXN.out; omega)
      rw [htk] at HOV HUL
      have hob := HOV.out
      have hul := HUL.out
      obtain ⟨Ab, cb, rfl, hbc, hbm, hbr, hbB⟩ := own_slice_b hob
      have HBK2 := Lib.hid (HBK.out.below HB.out)
      have hap := tree_apart (w := w) (k := k) (n := (upIn ds).length) hbB (by omega)
      have hof := inkOf_any k L asked Ab (upIn ds).length cb (upIn ds) wr _ HBK2.out hbr (Nat.le_refl _) (fun a h0 ha e => hap a h0 ha (.inl e)) hbc hbm (by have := HXN.out; omega) has
      have hsz5 : (bRow (upD ds)).size = 32 := bRow_size32 (upD_len ds)
      have hon := bRow_one (upD ds)
      have HOF := Lib.hid hof
      have hdd : upD ds = shaOf (upIn ds) := rfl
      rw [← hdd] at HOF
      obtain ⟨D, hD⟩ : ∃ D, D = bRow (upD ds) := ⟨_, rfl⟩
      rw [← hD] at HOF hsz5 hon
      have HD5 := Lib.hid hD
      have HSZ := Lib.hid hsz5
      have HON := Lib.hid hon
      generalize (upIn ds).length = ul at *
      clear hob hbr hbB hap hof hsz5 hon hdd hD htk HOV HUL hul
      go_wp2_with fail
      refine HOF.out.mono ?_
      rintro _ w3 ⟨rfl, hbk3, ho3⟩
      have HO3 := Lib.hid ((OnlyBook.of_below HB.out).trans ho3)
      have hk3 : Blk w3 g 60 inkZ := (ho3.block g (by omega) (by rintro (e | e | e) <;> omega)).trans HKR.out
      have HK3 := Lib.hid hk3
      have HBK3 := Lib.hid hbk3
      have hs3 := ho3.size
      clear hbk3 ho3 hk3
      go_wp2_with (refine wpList_store_part (o := ⟨none, _, _, _, _, _⟩) rfl 60 (.tmp 4) (.tmp 32) rfl g 0 D rfl rfl 60 inkZ HK3.out (by rw [HSZ.out]; rfl) (by rw [HSZ.out, HZS.out]; omega) HON.out ?_; intro w5 hT5 hD6; rw [spl_self _ _ (by rw [HSZ.out, HZS.out])] at hD6)
      refine bodyPost_ret (results_part2 rfl _ _ g 32 60 _ _ rfl hD6 Tryz.underlying60 rfl rfl HSZ.out) rfl ⟨by rw [HD5.out]; rfl, ?_, ?_⟩
      · exact HBK3.out.grown hT5.grown ⟨by omega, by omega, by omega⟩
      · exact HO3.out.grown hT5.grown (by omega)

end Go.Proofs.YtdpoedgjehofiaaGreat

/- Contract of tree.above: the level above one. -/
namespace Go.Proofs.YtdpoedgjehofiaaGreat
set_option linter.unusedVariables false
open Go.RowKit Go.Maps

theorem grps_iff {j n : Nat} : j < grps n ↔ 4 * j < n := by unfold grps; omega
theorem grp_cells {ds : List (List UInt8)} (hd : Digs ds) (p : Nat) (hp : 4 * p ≤ ds.length) : ((digRow ds).drop (4 * p * 32)).take ((min (4 * p + 4) ds.length - 4 * p) * 32) = digRow (grp ds p) := by
  rw [digRow_drop hd, digRow_take (fun d h => hd d (List.mem_of_mem_drop h))]
  unfold grp
  congr 1
  rcases Nat.lt_or_ge (ds.length - 4 * p) 4 with h | h
  · rw [List.take_of_length_le (by rw [List.length_drop]; omega), List.take_of_length_le (by rw [List.length_drop]; omega)]
  · rw [show min (4 * p + 4) ds.length - 4 * p = 4 by omega]
def abovePre (ds : List (List UInt8)) (j : Nat) : List (List UInt8) := (List.range j).map fun p => upD (grp ds p)
theorem abovePre_next (ds : List (List UInt8)) (j : Nat) : abovePre ds (j + 1) = abovePre ds j ++ [upD (grp ds j)] := by simp [abovePre, List.range_succ]
theorem digs_info : (Tryz.prog.info? 60).map (fun i => (i.zero, i.size, i.bytes)) = some (some (.agg inkZ), 32, 32) := by kernel_rfl
theorem tdiv4 (j : Nat) : (4 * (j : Int)).tdiv 4 = (j : Int) := Int.mul_tdiv_cancel_left _ (by decide)
theorem reads_agg (w : World) (cs : Array Value) (t : TypeId) (m : Nat) (h : cs.size = m) : Reads (w.alloc (.cells cs t)) (w.heap.size + 1) m (some ⟨w.heap.size, 0, none⟩) 1 cs.toList := by
  obtain ⟨_, h2⟩ := reads_cells w cs t
  refine ⟨by simp [h], fun _ => ?_⟩
  rcases Nat.eq_zero_or_pos cs.size with h0 | h0
  · exact ⟨_, rfl, by simp, fun j u hu => by
      have : cs.toList.length = 0 := by simpa using h0
      rw [List.getElem?_eq_none (by omega)] at hu; cases hu⟩
  · obtain ⟨ad, h3, h4, h5⟩ := h2 h0
    exact ⟨ad, h3, h4, h5⟩
theorem rowD_keep {w w' : World} {B n s : Nat} {e : TypeId} {v : Value} {vs : List Value} (h : w.ownsRow B e s v n vs) (hk : ∀ b, v.ownBlock = some b → w'.heap[b]? = w.heap[b]?) : w'.ownsRow B e s v n vs := by
  rcases h.2 with hv | ⟨g, cap, cur, hv, h2, h3, h4⟩
  · exact ⟨h.1, .inl hv⟩
  · exact ⟨h.1, .inr ⟨g, cap, cur, hv, h2, (hk g (by rw [hv]; rfl)).trans h3, h4⟩⟩
theorem rowD_lt {w : World} {B b n s : Nat} {e : TypeId} {v : Value} {vs : List Value} (h : w.ownsRow B e s v n vs) (hb : v.ownBlock = some b) : B ≤ b ∧ b < w.heap.size := h.lt b hb

theorem addInk_old {l : List (List UInt8)} {x y : List UInt8} (h : y ∈ l) : y ∈ addInk l x := by
  unfold addInk
  split
  · exact h
  · exact List.mem_append_left _ h
theorem addInk_new (l : List (List UInt8)) (x : List UInt8) : x ∈ addInk l x := by
  unfold addInk
  split
  · rename_i h; simpa using h
  · exact List.mem_append_right _ (List.mem_singleton.2 rfl)

set_option maxRecDepth 100000 in
set_option maxHeartbeats 4000000 in
theorem above_any (k : Book) (L : List (List UInt8)) (asked : Nat) (A : Option Addr) (n c : Nat) (ds : List (List UInt8)) (w : World) (hbk : BookAt w k L asked) (h : Reads w w.heap.size 32 A n (digRow ds)) (hap : ∀ a, 0 < n → A = some a → ¬ k.has a.block) (hd : Digs ds) (hn : n ≤ 1000) (hc : n ≤ c) (has : asked ≤ 900000) :
    Calls Tryz.prog 187 #[.pointer (some ⟨k.g, 0, none⟩), .slice A n c] w fun e w' => ∃ v L', e = .returned v ∧ w'.ownsRow w.heap.size 60 32 v (grps n) (digRow (aboveL ds)) ∧ BookAt w' k L' (asked + grps n) ∧ (∀ x, x ∈ L → x ∈ L') ∧ (∀ p, p < grps n → upIn (grp ds p) ∈ L') ∧ OnlyBook k w w' := by
  have hxn : ds.length = n := by have h2 := h.1; rw [digRow_len hd] at h2; omega
  have HXN := Lib.hid hxn
  have HD := Lib.hid hd
  have HR := Lib.hid h
  have HAP := Lib.hid hap
  have hlt := hbk.lt
  have HLT := Lib.hid hlt
  have HBK := Lib.hid hbk
  have HZS := Lib.hid (show inkZ.size = 32 by simp [inkZ, bRow])
  have HZ := Lib.hid treeZ_eq
  obtain ⟨i0, hi0, hz0, hz1, hz2⟩ := info_parts digs_info
  clear h hlt hbk hxn hd hap
  have hgn : grps n ≤ 251 := by unfold grps; omega
  go_enter Tryz.func187, Tryz.ntmps187
  go_wp2_with fail
  go_loopw [5, 6] (fun ov iv wr => ∃ j : Nat, j ≤ grps n ∧ iv = .int .i64 (4 * (j : Int)) ∧ wr.ownsRow w.heap.size 60 32 ov j (digRow (abovePre ds j)) ∧ (∃ Lr, BookAt wr k Lr (asked + j) ∧ (∀ x, x ∈ L → x ∈ Lr) ∧ (∀ p, p < j → upIn (grp ds p) ∈ Lr)) ∧ OnlyBook k w wr) (fun _ iv _ => n + 8 - (intOf iv).toNat)
  case atStart => exact ⟨0, by omega, by simp, World.ownsRow_nil _ _ _ _, ⟨L, HBK.out, fun _ h => h, fun p hp => by omega⟩, OnlyBook.refl _ _⟩
  case round =>
    obtain ⟨j, hj, rfl, hov, ⟨Lr, hbr, hLr, hLp⟩, hob⟩ := hrel
    have HOV := Lib.hid hov
    have HB := Lib.hid hbr
    have HOB := Lib.hid hob
    have HLR := Lib.hid hLr
    have HLP := Lib.hid hLp
    have hsz := hob.size
    clear hov hbr hob hLr hLp
    by_cases hjn : j < grps n
    · have h4n : 4 * j < n := grps_iff.1 hjn
      have h4i : 4 * (j : Int) < (n : Int) := by omega
      have HQ := Lib.hid (tdiv4 j)
      have hdv := tdiv4 j
      have hgr := fun W => group_any A n c j W (by omega) (by omega) hc
      have hrs : Reads wr wr.heap.size 32 (if c = 4 * j then A else A.map (·.add (4 * j * 32))) (min (4 * j + 4) n - 4 * j) (digRow (grp ds j)) := by
        have h1 := (Only.of_book HOB.out).reads HR.out HAP.out
        have h2 := h1.sub (l := 4 * j) (k := min (4 * j + 4) n) (cap := c) (by omega) (by omega) hc
        rw [← HXN.out, grp_cells HD.out j (by have := HXN.out; omega), HXN.out] at h2
        exact h2
      have hup := up_any k Lr (asked + j) _ _ (c - 4 * j) (grp ds j) wr _ HB.out hrs (Nat.le_refl _) (grp_digs HD.out j) (by omega) (by omega) (by omega)
      generalize (if c = 4 * j then A else A.map (·.add (4 * j * 32))) = A2 at hgr hup
      have HG := Lib.hid hgr
      have HU := Lib.hid hup
      have hsz5 : (bRow (upD (grp ds j))).size = 32 := bRow_size32 (upD_len _)
      have hon := bRow_one (upD (grp ds j))
      have hdv2 : (bRow (upD (grp ds j))).toList = (upD (grp ds j)).map vb := by simp [bRow]
      obtain ⟨D, hD⟩ : ∃ D, D = bRow (upD (grp ds j)) := ⟨_, rfl⟩
      rw [← hD] at HU hsz5 hon hdv2
      have HSZ := Lib.hid hsz5
      have HON := Lib.hid hon
      have HDV := Lib.hid hdv2
      clear hgr hrs hup hsz5 hon hD hdv2
      go_wp2_with fail
      refine (HG.out wr).mono ?_
      rintro _ _ ⟨rfl, rfl⟩
      go_wp2_with fail
      refine HU.out.mono ?_
      rintro _ w3 ⟨rfl, hbk3, ho3⟩
      have HB3 := Lib.hid hbk3
      have HO3 := Lib.hid (HOB.out.trans ho3)
      have hrow3 := rowD_keep HOV.out (w' := w3) (fun b hb => by
        have := rowD_lt HOV.out hb
        have hl := HLT.out
        exact ho3.block b this.2 (by rintro (e | e | e) <;> omega))
      have HW3 := Lib.hid hrow3
      have hs3 := ho3.size
      clear hbk3 ho3 hrow3 HG HU HB HOV HOB
      go_upto_region 6 with (refine wpList_store_part (o := ⟨none, _, _, _, _, _⟩) rfl 60 (.tmp 7) (.tmp 22) rfl w3.heap.size 0 D rfl rfl 60 inkZ (by rw [HZ.out]; exact Blk.newAt rfl) (by rw [HSZ.out]; rfl) (by rw [HSZ.out, HZS.out]; omega) HON.out ?_; intro w4 hT4 hD4; rw [spl_self _ _ (by rw [HSZ.out, HZS.out])] at hD4)
      have hb4 : Below w3.heap.size w3 w4 := hT4.below ((Below.refl _ _).alloc (Nat.le_refl _) _) (Nat.le_refl _)
      have HB4 := Lib.hid (HB3.out.below hb4)
      have HO4 := Lib.hid (HO3.out.trans (OnlyBook.of_below hb4))
      have HW4 := Lib.hid (rowD_keep HW3.out (fun b hb => hb4.block b (rowD_lt HW3.out hb).2))
      have hs4 := hb4.size
      have HD4 := Lib.hid hD4
      obtain ⟨g4, hg4⟩ : ∃ g, g = w3.heap.size := ⟨_, rfl⟩
      rw [← hg4] at HD4 ⊢
      have hSZ := HSZ.out
      clear hT4 hD4 hb4 HW3 hg4 HB3 HO3
      go_wp2_with (first
        | (refine wpList_load_part (o := ⟨some 25, _, _, _, _, _⟩) rfl 60 (.tmp 7) rfl g4 0 32 rfl 60 _ D _ HD4.out Tryz.underlying60 rfl rfl HSZ.out (fun _ _ => by rw [Nat.zero_add]) ?_)
        | (at_builtin; (rw [fill_all _ D 32 rfl HSZ.out]; refine wpList_append_any _ rfl (.tmp 24) (.tmp 26) 201 rfl w.heap.size 60 i0 _ 32 32 Tryz.underlying201 hi0 hz0 hz1 hz2 HZS.out (by omega) _ j (digRow (abovePre ds j)) rfl ?row (w4.heap.size + 1) (some ⟨w4.heap.size, 0, none⟩) 1 1 D.toList rfl ?rd ?c1 ?c2 ?c3 ?c4 ?_)))
      case row => exact rowD_keep HW4.out (fun b hb => Below.heap_alloc _ _ b (rowD_lt HW4.out hb).2)
      case rd => exact reads_agg _ _ _ _ HSZ.out
      case c1 => exact fun u hu => List.all_eq_true.1 (by have := HON.out; rw [← Array.all_toList] at this; exact this) u hu
      case c2 => unfold maxLen; omega
      case c3 => omega
      case c4 => have := HO4.out.size; simp; omega
      intro v6 w6 hown6 hg6 hor6
      have hal : Below w4.heap.size w4 (w4.alloc (.cells D 60)) := (Below.refl _ _).alloc (Nat.le_refl _) _
      have hO6 : OnlyBook k w w6 := by
        have h5 := HO4.out.trans (OnlyBook.of_below hal)
        have hsz4 := HO4.out.size
        refine ⟨hg6.os.trans h5.os, hg6.tape.trans h5.tape, hg6.output.trans h5.output, Nat.le_trans h5.size hg6.size, fun i hi hn => (hg6.block i (by have := h5.size; omega) (fun e => ?_)).trans (h5.block i hi hn)⟩
        have := (rowD_lt HW4.out e.symm).1
        omega
      have hB6 : BookAt w6 k (addInk Lr (upIn (grp ds j))) (asked + j + 1) := by
        have h5 := HB4.out.below hal
        have hl := HLT.out
        refine h5.only (N := fun b => w.heap.size ≤ b) ⟨hg6.os, hg6.tape, hg6.output, hg6.size, fun i hi hn => hg6.block i hi (fun e => hn (rowD_lt HW4.out e.symm).1)⟩ ?_ ?_ ?_ <;> omega
      have HB6 := Lib.hid hB6
      have HO6 := Lib.hid hO6
      have hown7 : w6.ownsRow w.heap.size 60 32 v6 (j + 1) (digRow (abovePre ds (j + 1))) := by
        rw [abovePre_next, digRow_app]
        have e : digRow [upD (grp ds j)] = D.toList := by rw [HDV.out]; simp [digRow]
        rw [e]
        exact hown6
      have HW6 := Lib.hid hown7
      clear hB6 hO6 hal hown6 hown7 hg6 hor6 HW4 HB4 HO4
      go_wp2_with fail
      go_roundw
      case rel => exact ⟨j + 1, by omega, by go_num, HW6.out, ⟨_, HB6.out, fun x hx => addInk_old (HLR.out x hx), fun p hp => by
        rcases Nat.lt_or_ge p j with h | h
        · exact addInk_old (HLP.out p h)
        · obtain rfl : p = j := by omega
          exact addInk_new _ _⟩, HO6.out⟩
      case measure => simp [intOf]; omega
    · have h4i : ¬ 4 * (j : Int) < (n : Int) := by have := mt grps_iff.2 hjn; omega
      obtain rfl : j = grps n := by omega
      go_wp2_with fail
      go_ret
      refine ⟨_, rfl, ?_, Lr, HB.out, HLR.out, HLP.out, HOB.out⟩
      have := HOV.out
      rw [show abovePre ds (grps n) = aboveL ds by unfold abovePre aboveL; rw [HXN.out]] at this
      exact this

end Go.Proofs.YtdpoedgjehofiaaGreat
