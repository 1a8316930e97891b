/-
  A piece of a block that is loaded or stored whole (an array among a struct's fields); a row that one block alone has turned. No program is named.
-/
import Derived.Test.YtcmbmimmfgfefaaGreatWord
import Derived.Laws.CopyRow
import Derived.Laws.Tables
import Derived.Deep.MidRow
import Derived.Laws.ResultCell
import Derived.Deep.RegionHeld3
namespace Go.Proofs.YtcmbmimmfgfefaaGreat
set_option linter.unusedVariables false
open Go.RowKit

/-- of two worlds block g alone may differ -/
structure Turned (g : Nat) (w w' : World) : Prop where
  os : w'.os = w.os
  tape : w'.tape = w.tape
  output : w'.output = w.output
  size : w'.heap.size = w.heap.size
  block : ∀ k, k ≠ g → w'.heap[k]? = w.heap[k]?

theorem Turned.refl (g : Nat) (w : World) : Turned g w w := ⟨rfl, rfl, rfl, rfl, fun _ _ => rfl⟩
theorem Turned.trans {g : Nat} {a b c : World} (h : Turned g a b) (k : Turned g b c) : Turned g a c :=
  ⟨k.os.trans h.os, k.tape.trans h.tape, k.output.trans h.output, k.size.trans h.size, fun i hi => (k.block i hi).trans (h.block i hi)⟩
theorem Turned.setRow (w : World) (g : Nat) (cs : Array Value) : Turned g w (w.setRow g cs) :=
  ⟨rfl, rfl, rfl, by simp [World.setRow], fun k hk => by
    simp only [World.setRow, Array.getElem?_modify]; rw [if_neg (fun h => hk h.symm)]⟩
theorem Turned.setCell (w : World) (p : Addr) (u : Value) : Turned p.block w (w.setCell p u) :=
  ⟨rfl, rfl, rfl, by simp [World.setCell], fun k hk => Below.heap_setCell w p u k hk⟩
theorem Turned.drewN {g : Nat} {w w' : World} (h : Turned g w w') (n : Nat) : Turned g w (w'.drewN n) := ⟨h.os, h.tape, h.output, h.size, h.block⟩
theorem Turned.blk {g k : Nat} {w w' : World} {t : TypeId} {cs : Array Value} (h : Turned g w w') (hb : Blk w k t cs) (hk : k ≠ g) : Blk w' k t cs := (h.block k hk).trans hb
theorem Turned.below {B g : Nat} {a w w' : World} (h : Turned g w w') (hb : Below B a w) (hg : B ≤ g) : Below B a w' :=
  hb.trans ⟨h.os, h.tape, h.output, by rw [h.size]; exact Nat.le_refl _, fun k hk => h.block k (by omega)⟩
theorem Turned.cell {g : Nat} {w w' : World} (h : Turned g w w') {p : Addr} (hp : p.block ≠ g) : w'.cell? p = w.cell? p := World.cell?_of_block (h.block p.block hp)
theorem Turned.grown {g : Nat} {w w' : World} (h : Turned g w w') : w.grownBy w' (some g) :=
  ⟨h.os, h.tape, h.output, by rw [h.size]; exact Nat.le_refl _, fun k _ hk => h.block k (fun e => hk (by rw [e]))⟩

theorem grown_turned {a w w' : World} {row : Option Nat} {r : Nat} (h : a.grownBy w row) (ht : Turned r w w') (hr : a.heap.size ≤ r) : a.grownBy w' row :=
  ⟨ht.os.trans h.os, ht.tape.trans h.tape, ht.output.trans h.output, by rw [ht.size]; exact h.size, fun k hk hn => (ht.block k (by omega)).trans (h.block k hk hn)⟩

/-- a row with a piece put in -/
def spl (cur : Array Value) (o : Nat) (vs : List Value) : Array Value := (cur.toList.take o ++ vs ++ cur.toList.drop (o + vs.length)).toArray
theorem spl_size {cur : Array Value} {o : Nat} {vs : List Value} (h : o + vs.length ≤ cur.size) : (spl cur o vs).size = cur.size := by
  simp [spl]; omega
theorem spl_get {cur : Array Value} {o : Nat} {vs : List Value} (h : o + vs.length ≤ cur.size) (j : Nat) : (spl cur o vs)[j]? = if o ≤ j ∧ j < o + vs.length then vs[j - o]? else cur[j]? := by
  unfold spl
  rw [List.getElem?_toArray]
  by_cases h1 : j < o
  · rw [if_neg (by omega), List.append_assoc, List.getElem?_append_left (by simp; omega), List.getElem?_take, if_pos h1]; simp
  · by_cases h2 : j < o + vs.length
    · rw [if_pos (by omega), List.append_assoc, List.getElem?_append_right (by simp; omega), List.getElem?_append_left (by simp; omega)]
      congr 1; simp; omega
    · rw [if_neg (by omega), List.append_assoc, List.getElem?_append_right (by simp; omega), List.getElem?_append_right (by simp; omega), List.getElem?_drop]
      simp
      congr 1; omega
theorem spl_rng {n o m : Nat} {f g : Nat → Value} {vs : List Value} (hm : vs.length = m) (hv : ∀ j, j < m → vs[j]? = some (g j)) (h : o + m ≤ n) : spl (rng n f) o vs = rng n (fun j => if o ≤ j ∧ j < o + m then g (j - o) else f j) := by
  refine rng_of (by rw [spl_size (by rw [rng_size, hm]; exact h), rng_size]) fun j hj => ?_
  rw [spl_get (by rw [rng_size, hm]; exact h), hm]
  split
  · exact hv _ (by omega)
  · exact rng_get _ _ _ hj

theorem spl_self (cs vs : Array Value) (h : vs.size = cs.size) : spl cs 0 vs.toList = vs := by
  unfold spl
  rw [List.take_zero, List.nil_append, Nat.zero_add, List.drop_eq_nil_of_le (by simp; omega), List.append_nil]
theorem rng_one (n : Nat) (l : List W32) : (rng n (fun j => vw (l.getD j 0))).all (·.oneCell') = true := by
  simp [rng, vw, Value.oneCell']

section
variable {P : Program}

theorem add_off (g o j : Nat) : (⟨g, o, none⟩ : Addr).add j = ⟨g, o + j, none⟩ := by unfold Addr.add; split <;> simp_all

/-- 'arr[l:]' of an array behind a pointer, not at its end -/
theorem run_sliceArr_l {t e : TypeId} {n : Nat} (ht : P.underlying t = some (.array n e)) (hs : (P.info? e).map (·.size) = some 1) (a : Addr) (l : Nat) (li : Int) (el : li = l) (hl : l < n) (W : World) :
    (Instr.sliceAt t (.pointer (some a)) (some (.int .i64 li)) none none).run P W = .ok (.slice (some (a.add l)) (n - l) (n - l)) W := by
  subst el
  obtain ⟨i, hi, hsz⟩ : ∃ i, P.info? e = some i ∧ i.size = 1 := by
    cases hh : P.info? e with
    | none => rw [hh] at hs; cases hs
    | some i => rw [hh] at hs; exact ⟨i, rfl, by simpa using hs⟩
  have he : P.elem t = e := by simp [Program.elem, ht]
  have hln : P.arrayLen t = n := by simp [Program.arrayLen, ht]
  rw [run_sliceAt_array_l W t a (by rw [he, hln]; exact ht) .i64 (l : Int) (by omega) (by rw [hln]; omega)]
  simp [he, hln, sizeOf, typeInfo, hi, hsz, slicedAt, show ¬ n = l by omega]
/-- 'x[l:]' of a slice, one cell an element -/
theorem run_slice_from {t e : TypeId} (ht : P.underlying t = some (.slice e)) (hs : (P.info? e).map (·.size) = some 1) (A : Option Addr) (len cap l : Nat) (li : Int) (el : li = l) (hl : l ≤ len) (W : World) :
    (Instr.slice t (.slice A len cap) (some (.int .i64 li)) none none).run P W = .ok (.slice (if cap = l then A else A.map (·.add l)) (len - l) (cap - l)) W := by
  subst el
  obtain ⟨i, hi, hsz⟩ : ∃ i, P.info? e = some i ∧ i.size = 1 := by
    cases hh : P.info? e with
    | none => rw [hh] at hs; cases hs
    | some i => rw [hh] at hs; exact ⟨i, rfl, by simpa using hs⟩
  have he : P.elem t = e := by simp [Program.elem, ht]
  rw [run_slice_l W t A len cap (by rw [he]; exact ht) .i64 (l : Int) (by omega) (by omega)]
  simp [he, sizeOf, typeInfo, hi, hsz, sliced]

theorem run_loadVar_part (w : World) (g o n : Nat) (t ty : TypeId) (cs vs : Array Value) (d : TypeDesc) (hB : Blk w g t cs)
    (hu : P.underlying ty = some d) (hd : (match d with | .struct _ | .array _ _ => true | _ => false) = true) (hi : (P.info? ty).map (·.size) = some n)
    (hn : vs.size = n) (hv : ∀ j, j < n → cs[o + j]? = vs[j]?) :
    (loadVar ty ⟨g, o, none⟩).run P w = .ok (.agg vs) w := by
  have hl : (loadCells ⟨g, o, none⟩ vs.toList.length).run P w = .ok vs.toList.toArray w :=
    run_loadCells_list (P := P) w ⟨g, o, none⟩ vs.toList (fun j v hj => by
      have hjn : j < n := by
        rcases Nat.lt_or_ge j vs.toList.length with h | h
        · simpa [hn] using h
        · rw [List.getElem?_eq_none h] at hj; cases hj
      rw [add_off, hB.cell, hv j hjn]
      simpa using hj)
  cases hq : P.info? ty with
  | none => simp [hq] at hi
  | some i =>
    have hs : i.size = n := by simpa [hq] using hi
    have hagg : (isAgg ty).run P w = .ok true w := by
      unfold isAgg
      rw [Sem.run_bind, run_underlying hu w]
      cases d <;> simp_all
    simp only [Array.length_toList, Array.toArray_toList, hn] at hl
    simp [loadVar, Sem.run_bind, hagg, sizeOf, typeInfo, hq, hs, hl]

theorem wp_load_part {o : Oper} {a : Act} {w : World} {K : Act → World → Prop} {Q : Exit → Act → World → Prop} (ty : TypeId) (x : Operand) (ho : o.op = .load ty x)
    (g off n : Nat) (hx : a.eval x = .pointer (some ⟨g, off, none⟩)) (t : TypeId) (cs vs : Array Value) (d : TypeDesc) (hB : Blk w g t cs)
    (hu : P.underlying ty = some d) (hd : (match d with | .struct _ | .array _ _ => true | _ => false) = true) (hi : (P.info? ty).map (·.size) = some n)
    (hn : vs.size = n) (hv : ∀ j, j < n → cs[off + j]? = vs[j]?)
    (h : K (a.put o.dst (.agg vs)) w) : o.wp P a w K Q := by
  unfold Oper.wp execOp
  simp only [ho, hx, Instr.loadAt, Instr.sureAddr, Sem.run_bind, Sem.run_pure, Result.andThen_ok, run_loadVar_part w g off n t ty cs vs d hB hu hd hi hn hv]
  exact h

theorem wpList_load_part {ops : Array Oper} {rest : List Oper} {o : Oper} {a : Act} {w : World} {Q : Exit → Act → World → Prop} (hgd : o.guard = none) (ty : TypeId) (x : Operand) (ho : o.op = .load ty x)
    (g off n : Nat) (hx : a.eval x = .pointer (some ⟨g, off, none⟩)) (t : TypeId) (cs vs : Array Value) (d : TypeDesc) (hB : Blk w g t cs)
    (hu : P.underlying ty = some d) (hd : (match d with | .struct _ | .array _ _ => true | _ => false) = true) (hi : (P.info? ty).map (·.size) = some n)
    (hn : vs.size = n) (hv : ∀ j, j < n → cs[off + j]? = vs[j]?)
    (h : wpList P ops Q rest (a.put o.dst (.agg vs)) w) : wpList P ops Q (o :: rest) a w :=
  wpList_plain hgd fun _ hK => wp_load_part ty x ho g off n hx t cs vs d hB hu hd hi hn hv (hK _ _ h)

theorem run_storeVar_part (w : World) (g o : Nat) (t ty : TypeId) (cs vs : Array Value) (hB : Blk w g t cs) (hi : (P.info? ty).map (·.size) = some vs.size)
    (ho : o + vs.size ≤ cs.size) (h1 : vs.all (·.oneCell') = true) :
    (storeVar ty ⟨g, o, none⟩ (.agg vs)).run P w = .ok () (w.setRow g (spl cs o vs.toList)) := by
  have := run_storeCells_at P g o t vs.toList 0 cs w hB (by simpa using ho) (fun v hv => (Array.all_eq_true_iff_forall_mem.1 h1) v (by simpa using hv))
  cases hq : P.info? ty with
  | none => simp [hq] at hi
  | some i =>
    have hs : vs.size = i.size := by simp [hq] at hi; omega
    simp only [Nat.add_zero] at this
    simp [storeVar, sizeOf, typeInfo, hq, Value.cells, hs, this, spl]

theorem wp_store_part {o : Oper} {a : Act} {w : World} {K : Act → World → Prop} {Q : Exit → Act → World → Prop} (ty : TypeId) (x y : Operand) (ho : o.op = .store ty x y)
    (g off : Nat) (vs : Array Value) (hx : a.eval x = .pointer (some ⟨g, off, none⟩)) (hy : a.eval y = .agg vs)
    (t : TypeId) (cs : Array Value) (hB : Blk w g t cs) (hi : (P.info? ty).map (·.size) = some vs.size)
    (hold : off + vs.size ≤ cs.size) (h1 : vs.all (·.oneCell') = true)
    (h : ∀ W', Turned g w W' → Blk W' g t (spl cs off vs.toList) → K (a.put o.dst undef) W') : o.wp P a w K Q := by
  unfold Oper.wp execOp
  simp only [ho, hx, hy, Instr.storeAt, Instr.sureAddr, Sem.run_bind, Sem.run_pure, Result.andThen_ok, run_storeVar_part w g off t ty cs vs hB hi hold h1]
  exact h _ (Turned.setRow w g _) (setRow_heap w g cs _ t _ hB)

theorem wpList_store_part {ops : Array Oper} {rest : List Oper} {o : Oper} {a : Act} {w : World} {Q : Exit → Act → World → Prop} (hgd : o.guard = none) (ty : TypeId) (x y : Operand) (ho : o.op = .store ty x y)
    (g off : Nat) (vs : Array Value) (hx : a.eval x = .pointer (some ⟨g, off, none⟩)) (hy : a.eval y = .agg vs)
    (t : TypeId) (cs : Array Value) (hB : Blk w g t cs) (hi : (P.info? ty).map (·.size) = some vs.size)
    (hold : off + vs.size ≤ cs.size) (h1 : vs.all (·.oneCell') = true)
    (h : ∀ W', Turned g w W' → Blk W' g t (spl cs off vs.toList) → wpList P ops Q rest (a.put o.dst undef) W') : wpList P ops Q (o :: rest) a w :=
  wpList_plain hgd fun _ hK => wp_store_part ty x y ho g off vs hx hy t cs hB hi hold h1 fun W' h2 h3 => hK _ _ (h W' h2 h3)

theorem wpList_copy_part {ops : Array Oper} {rest : List Oper} {o : Oper} {a : Act} {w : World} {Q : Exit → Act → World → Prop} (hgd : o.guard = none) (d s : Operand) (dT sT elem : TypeId)
    (ho : o.op = .call { callee := .builtin .copy, args := #[d, s], argTypes := #[dT, sT] })
    (g off dLen dCap sLen sCap : Nat) (ad : Addr) (t : TypeId) (cs : Array Value) (vs : List Value)
    (hd : a.eval d = .slice (some ⟨g, off, none⟩) dLen dCap) (hs : a.eval s = .slice (some ad) sLen sCap)
    (hu : P.underlying dT = some (.slice elem)) (hsz : (P.info? elem).map (·.size) = some 1)
    (hB : Blk w g t cs) (hn : vs.length = Nat.min sLen dLen) (hsrc : ∀ j v, vs[j]? = some v → w.cell? (ad.add j) = some v) (hfit : off + vs.length ≤ cs.size) (h1 : ∀ v ∈ vs, v.oneCell' = true)
    (h : ∀ W', Turned g w W' → Blk W' g t (spl cs off vs) → wpList P ops Q rest (a.put o.dst (.int .i64 (vs.length : Int))) W') : wpList P ops Q (o :: rest) a w :=
  wpList_plain hgd fun _ hK => by
    unfold Oper.wp execOp
    simp only [ho, resolve, invoke, builtin, Sem.run_bind, Sem.run_pure, Result.andThen_ok, List.map_toArray, List.map_cons, List.map_nil, hd, hs, run_copy_row (P := P) w dT sT o.type elem g off dLen dCap ad sLen sCap cs t vs hu hsz hB hn hsrc hfit h1]
    exact hK _ _ (h _ (Turned.setRow w g _) (setRow_heap w g cs _ t _ hB))
theorem zeroCells_one (z : Value) (n : Nat) : (Builtin.zeroCells #[z] n).toList = List.replicate n z := by
  unfold Builtin.zeroCells
  apply List.ext_getElem
  · simp
  · intro i h1 h2
    simp [Nat.mod_one]
theorem wpList_clear_part {ops : Array Oper} {rest : List Oper} {o : Oper} {a : Act} {w : World} {Q : Exit → Act → World → Prop} (hgd : o.guard = none) (d : Operand) (dT elem : TypeId)
    (ho : o.op = .call { callee := .builtin .clear, args := #[d], argTypes := #[dT] })
    (g off n cap : Nat) (t : TypeId) (cs : Array Value) (z : Value) (hd : a.eval d = .slice (some ⟨g, off, none⟩) (n + 1) cap)
    (hu : P.underlying dT = some (.slice elem)) (hz : (zeroValue elem).run P w = .ok z w) (hzc : z.cells = #[z]) (hz1 : z.oneCell' = true)
    (hB : Blk w g t cs) (hfit : off + (n + 1) ≤ cs.size)
    (h : ∀ W', Turned g w W' → Blk W' g t (spl cs off (List.replicate (n + 1) z)) → wpList P ops Q rest (a.put o.dst (.tuple #[])) W') : wpList P ops Q (o :: rest) a w :=
  wpList_plain hgd fun _ hK => by
    have hst := run_storeCells_at P g off t (List.replicate (n + 1) z) 0 cs w hB (by simpa using hfit) (fun v hv => by rw [List.eq_of_mem_replicate hv]; exact hz1)
    have hrun : (Builtin.clear_ #[dT] o.type #[.slice (some ⟨g, off, none⟩) (n + 1) cap]).run P w = .ok (.tuple #[]) (w.setRow g (spl cs off (List.replicate (n + 1) z))) := by
      simp only [Nat.add_zero] at hst
      simp only [spl]
      rw [← zeroCells_one z (n + 1)] at hst ⊢
      simp [Builtin.clear_, run_underlying hu, hz, hzc, hst]
    unfold Oper.wp execOp
    simp only [ho, resolve, invoke, builtin, Sem.run_bind, Sem.run_pure, Result.andThen_ok, List.map_toArray, List.map_cons, List.map_nil, hd, hrun]
    exact hK _ _ (h _ (Turned.setRow w g _) (setRow_heap w g cs _ t _ hB))
/-- a load of a piece, in a region that reads and calls still -/
theorem wpStill_load_part {ops : Array Oper} {rest : List Oper} {o : Oper} {a : Act} {w : World} {Q : Act → Prop} (hgd : o.guard = none) (ty : TypeId) (x : Operand) (ho : o.op = .load ty x)
    (g off n : Nat) (hx : a.eval x = .pointer (some ⟨g, off, none⟩)) (t : TypeId) (cs vs : Array Value) (d : TypeDesc) (hB : Blk w g t cs)
    (hu : P.underlying ty = some d) (hd : (match d with | .struct _ | .array _ _ => true | _ => false) = true) (hi : (P.info? ty).map (·.size) = some n)
    (hn : vs.size = n) (hv : ∀ j, j < n → cs[off + j]? = vs[j]?)
    (h : wpStill P ops w Q rest (a.put o.dst (.agg vs))) : wpStill P ops w Q (o :: rest) a := by
  unfold wpStill
  have hw : Region.wanted o (yielded ops a.tmps) = true := by simp [Region.wanted, hgd]
  rw [if_pos hw]
  unfold Oper.still execOp
  simp only [ho, hx, Instr.loadAt, Instr.sureAddr, Sem.run_bind, Sem.run_pure, Result.andThen_ok, run_loadVar_part w g off n t ty cs vs d hB hu hd hi hn hv]
  exact ⟨rfl, h⟩
theorem exec_load_part {o : Oper} {a : Act} {w : World} (ty : TypeId) (x : Operand) (ho : o.op = .load ty x)
    (g off n : Nat) (hx : a.eval x = .pointer (some ⟨g, off, none⟩)) (t : TypeId) (cs vs : Array Value) (d : TypeDesc) (hB : Blk w g t cs)
    (hu : P.underlying ty = some d) (hd : (match d with | .struct _ | .array _ _ => true | _ => false) = true) (hi : (P.info? ty).map (·.size) = some n)
    (hn : vs.size = n) (hv : ∀ j, j < n → cs[off + j]? = vs[j]?) : (execOp a.eval o).run P w = .ok (.value (.agg vs)) w := by
  unfold execOp
  simp only [ho, hx, Instr.loadAt, Instr.sureAddr, Sem.run_bind, Sem.run_pure, Result.andThen_ok, run_loadVar_part w g off n t ty cs vs d hB hu hd hi hn hv]
theorem results_part2 {fn : Func} {p u : Tmp} {ty : TypeId} (h : fn.results = #[.cell p ty, .tmp u]) (tmps : Array Value) (w : World) (g n : Nat) (t : TypeId) (cs : Array Value) (d : TypeDesc)
    (hp : tmps.getD p undef = .pointer (some ⟨g, 0, none⟩)) (hB : Blk w g t cs)
    (hu : P.underlying ty = some d) (hd : (match d with | .struct _ | .array _ _ => true | _ => false) = true) (hi : (P.info? ty).map (·.size) = some n) (hn : cs.size = n) :
    (results fn tmps).run P w = .ok (.tuple #[.agg cs, tmps.getD u undef]) w := by
  rw [results_cell_tmp h, hp]
  simp [asAddr, run_loadVar_part w g 0 n t ty cs cs d hB hu hd hi hn (fun j _ => by rw [Nat.zero_add])]
theorem spl_cons (cs : Array Value) (o : Nat) (v : Value) (vs : List Value) (h : o + (vs.length + 1) ≤ cs.size) : spl cs o (v :: vs) = spl (cs.setIfInBounds o v) (o + 1) vs := by
  apply Array.ext_getElem?
  intro j
  rw [spl_get (by simpa using h), spl_get (by simp; omega), Array.getElem?_setIfInBounds]
  by_cases h1 : j = o
  · subst h1
    rw [if_pos (by simp), if_neg (by omega), if_pos rfl, if_pos (by omega)]
    simp
  · by_cases h2 : o ≤ j ∧ j < o + (v :: vs).length
    · simp only [List.length_cons] at h2
      rw [if_pos (by simp; omega), if_pos (by omega), show j - o = (j - (o + 1)) + 1 by omega, List.getElem?_cons_succ]
    · rw [if_neg h2, if_neg (by simp at h2; omega), if_neg (fun e => h1 e.symm)]
theorem Blk.setCells {w : World} {g : Nat} {t : TypeId} {cs : Array Value} (o : Nat) (vs : List Value) (hB : Blk w g t cs) (h : o + vs.length ≤ cs.size) : Blk (w.setCells g o vs) g t (spl cs o vs) ∧ Turned g w (w.setCells g o vs) := by
  induction vs generalizing o w cs with
  | nil =>
    refine ⟨?_, Turned.refl _ _⟩
    have : spl cs o [] = cs := by unfold spl; simp
    rw [this]; exact hB
  | cons v vs ih =>
    simp only [World.setCells]
    have h1 := ih (w := w.setCell ⟨g, o, none⟩ v) (cs := cs.setIfInBounds o v) (o + 1) (hB.set_ o v) (by simp at h ⊢; omega)
    rw [spl_cons cs o v vs (by simpa using h)]
    exact ⟨h1.1, (Turned.setCell w ⟨g, o, none⟩ v).trans h1.2⟩
theorem Blk.there {w : World} {g : Nat} {t : TypeId} {cs : Array Value} (hB : Blk w g t cs) (o n : Nat) (h : o + n ≤ cs.size) : w.there g o n := fun j hj =>
  ⟨by rw [hB.cell, Array.getElem?_eq_getElem (by omega)]; rfl, hB.frozen _⟩
theorem step_store_part {ops : Array Oper} {o : Oper} {a : Act} {w : World} {K : Act → World → Prop} {Q : Exit → Act → World → Prop} {E : Prop} (hgd : o.guard = none) (ty : TypeId) (x y : Operand) (ho : o.op = .store ty x y)
    (g off : Nat) (vs : Array Value) (hx : a.eval x = .pointer (some ⟨g, off, none⟩)) (hy : a.eval y = .agg vs)
    (t : TypeId) (cs : Array Value) (hB : Blk w g t cs) (hi : (P.info? ty).map (·.size) = some vs.size)
    (hold : off + vs.size ≤ cs.size) (h1 : vs.all (·.oneCell') = true)
    (h : ∀ W', Turned g w W' → Blk W' g t (spl cs off vs.toList) → K (a.put o.dst undef) W') : if Region.wanted o (yielded ops a.tmps) = true then Oper.wp P o a w K Q else E := by
  have hw : Region.wanted o (yielded ops a.tmps) = true := by simp [Region.wanted, hgd]
  rw [if_pos hw]
  exact wp_store_part ty x y ho g off vs hx hy t cs hB hi hold h1 h

theorem results_part {fn : Func} {p : Tmp} {ty : TypeId} (h : fn.results = #[.cell p ty]) (tmps : Array Value) (w : World) (g n : Nat) (t : TypeId) (cs : Array Value) (d : TypeDesc)
    (hp : tmps.getD p undef = .pointer (some ⟨g, 0, none⟩)) (hB : Blk w g t cs)
    (hu : P.underlying ty = some d) (hd : (match d with | .struct _ | .array _ _ => true | _ => false) = true) (hi : (P.info? ty).map (·.size) = some n) (hn : cs.size = n) :
    (results fn tmps).run P w = .ok (.agg cs) w := by
  have hp' : tmps[p]?.getD undef = .pointer (some ⟨g, 0, none⟩) := by simpa using hp
  simp [results, h, hp', asAddr, run_loadVar_part w g 0 n t ty cs cs d hB hu hd hi hn (fun j _ => by rw [Nat.zero_add])]
end

end Go.Proofs.YtcmbmimmfgfefaaGreat
