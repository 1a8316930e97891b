/- Parts of the proof, in one text: Row, RootsB, Hash, ShaPlain, Ready. -/
import Derived.Test.YtcpngeiahgoacaaGreatZ1
import Derived.Laws.CopyRow
import Derived.Laws.Tables
import Derived.Deep.MidRow
import Derived.Laws.ResultCell
import Derived.Deep.RegionHeld3
import Derived.Defers
import Derived.Laws.Pointers
import Derived.Laws.LoneSync
import Derived.Laws.NewBlocks
import Derived.RegionCalls

/- A piece of a block that is loaded or stored whole (an array among a struct's fields); a row that one block alone has turned. No program is named. -/
namespace Go.Proofs.YtcpngeiahgoacaaGreat
set_option linter.unusedVariables false
open Go.RowKit

/-- of two worlds block g alone may differ -/
structure Turned (g : Nat) (w w' : World) : Prop where
  os : w'.os = w.os
  tape : w'.tape = w.tape
  output : w'.output = w.output
  size : w'.heap.size = w.heap.size
  block : ∀ k, k ≠ g → w'.heap[k]? = w.heap[k]?

theorem Turned.refl (g : Nat) (w : World) : Turned g w w := ⟨rfl, rfl, rfl, rfl, fun _ _ => rfl⟩
theorem Turned.trans {g : Nat} {a b c : World} (h : Turned g a b) (k : Turned g b c) : Turned g a c :=
  ⟨k.os.trans h.os, k.tape.trans h.tape, k.output.trans h.output, k.size.trans h.size, fun i hi => (k.block i hi).trans (h.block i hi)⟩
theorem Turned.setRow (w : World) (g : Nat) (cs : Array Value) : Turned g w (w.setRow g cs) :=
  ⟨rfl, rfl, rfl, by simp [World.setRow], fun k hk => by
    simp only [World.setRow, Array.getElem?_modify]; rw [if_neg (fun h => hk h.symm)]⟩
theorem Turned.setCell (w : World) (p : Addr) (u : Value) : Turned p.block w (w.setCell p u) :=
  ⟨rfl, rfl, rfl, by simp [World.setCell], fun k hk => Below.heap_setCell w p u k hk⟩
theorem Turned.drewN {g : Nat} {w w' : World} (h : Turned g w w') (n : Nat) : Turned g w (w'.drewN n) := ⟨h.os, h.tape, h.output, h.size, h.block⟩
theorem Turned.blk {g k : Nat} {w w' : World} {t : TypeId} {cs : Array Value} (h : Turned g w w') (hb : Blk w k t cs) (hk : k ≠ g) : Blk w' k t cs := (h.block k hk).trans hb
theorem Turned.below {B g : Nat} {a w w' : World} (h : Turned g w w') (hb : Below B a w) (hg : B ≤ g) : Below B a w' :=
  hb.trans ⟨h.os, h.tape, h.output, by rw [h.size]; exact Nat.le_refl _, fun k hk => h.block k (by omega)⟩
theorem Turned.cell {g : Nat} {w w' : World} (h : Turned g w w') {p : Addr} (hp : p.block ≠ g) : w'.cell? p = w.cell? p := World.cell?_of_block (h.block p.block hp)
theorem Turned.grown {g : Nat} {w w' : World} (h : Turned g w w') : w.grownBy w' (some g) :=
  ⟨h.os, h.tape, h.output, by rw [h.size]; exact Nat.le_refl _, fun k _ hk => h.block k (fun e => hk (by rw [e]))⟩

theorem grown_turned {a w w' : World} {row : Option Nat} {r : Nat} (h : a.grownBy w row) (ht : Turned r w w') (hr : a.heap.size ≤ r) : a.grownBy w' row :=
  ⟨ht.os.trans h.os, ht.tape.trans h.tape, ht.output.trans h.output, by rw [ht.size]; exact h.size, fun k hk hn => (ht.block k (by omega)).trans (h.block k hk hn)⟩

/-- a row with a piece put in -/
def spl (cur : Array Value) (o : Nat) (vs : List Value) : Array Value := (cur.toList.take o ++ vs ++ cur.toList.drop (o + vs.length)).toArray
theorem spl_size {cur : Array Value} {o : Nat} {vs : List Value} (h : o + vs.length ≤ cur.size) : (spl cur o vs).size = cur.size := by
  simp [spl]; omega
theorem spl_get {cur : Array Value} {o : Nat} {vs : List Value} (h : o + vs.length ≤ cur.size) (j : Nat) : (spl cur o vs)[j]? = if o ≤ j ∧ j < o + vs.length then vs[j - o]? else cur[j]? := by
  unfold spl
  rw [List.getElem?_toArray]
  by_cases h1 : j < o
  · rw [if_neg (by omega), List.append_assoc, List.getElem?_append_left (by simp; omega), List.getElem?_take, if_pos h1]; simp
  · by_cases h2 : j < o + vs.length
    · rw [if_pos (by omega), List.append_assoc, List.getElem?_append_right (by simp; omega), List.getElem?_append_left (by simp; omega)]
      congr 1; simp; omega
    · rw [if_neg (by omega), List.append_assoc, List.getElem?_append_right (by simp; omega), List.getElem?_append_right (by simp; omega), List.getElem?_drop]
      simp
      congr 1; omega
theorem spl_rng {n o m : Nat} {f g : Nat → Value} {vs : List Value} (hm : vs.length = m) (hv : ∀ j, j < m → vs[j]? = some (g j)) (h : o + m ≤ n) : spl (rng n f) o vs = rng n (fun j => if o ≤ j ∧ j < o + m then g (j - o) else f j) := by
  refine rng_of (by rw [spl_size (by rw [rng_size, hm]; exact h), rng_size]) fun j hj => ?_
  rw [spl_get (by rw [rng_size, hm]; exact h), hm]
  split
  · exact hv _ (by omega)
  · exact rng_get _ _ _ hj

theorem spl_self (cs vs : Array Value) (h : vs.size = cs.size) : spl cs 0 vs.toList = vs := by
  unfold spl
  rw [List.take_zero, List.nil_append, Nat.zero_add, List.drop_eq_nil_of_le (by simp; omega), List.append_nil]
theorem rng_one (n : Nat) (l : List W32) : (rng n (fun j => vw (l.getD j 0))).all (·.oneCell') = true := by
  simp [rng, vw, Value.oneCell']

section
variable {P : Program}

theorem add_off (g o j : Nat) : (⟨g, o, none⟩ : Addr).add j = ⟨g, o + j, none⟩ := by unfold Addr.add; split <;> simp_all

/-- 'arr[l:]' of an array behind a pointer, not at its end -/
theorem run_sliceArr_l {t e : TypeId} {n : Nat} (ht : P.underlying t = some (.array n e)) (hs : (P.info? e).map (·.size) = some 1) (a : Addr) (l : Nat) (li : Int) (el : li = l) (hl : l < n) (W : World) :
    (Instr.sliceAt t (.pointer (some a)) (some (.int .i64 li)) none none).run P W = .ok (.slice (some (a.add l)) (n - l) (n - l)) W := by
  subst el
  obtain ⟨i, hi, hsz⟩ : ∃ i, P.info? e = some i ∧ i.size = 1 := by
    cases hh : P.info? e with
    | none => rw [hh] at hs; cases hs
    | some i => rw [hh] at hs; exact ⟨i, rfl, by simpa using hs⟩
  have he : P.elem t = e := by simp [Program.elem, ht]
  have hln : P.arrayLen t = n := by simp [Program.arrayLen, ht]
  rw [run_sliceAt_array_l W t a (by rw [he, hln]; exact ht) .i64 (l : Int) (by omega) (by rw [hln]; omega)]
  simp [he, hln, sizeOf, typeInfo, hi, hsz, slicedAt, show ¬ n = l by omega]
/-- 'x[l:]' of a slice, one cell an element -/
theorem run_slice_from {t e : TypeId} (ht : P.underlying t = some (.slice e)) (hs : (P.info? e).map (·.size) = some 1) (A : Option Addr) (len cap l : Nat) (li : Int) (el : li = l) (hl : l ≤ len) (W : World) :
    (Instr.slice t (.slice A len cap) (some (.int .i64 li)) none none).run P W = .ok (.slice (if cap = l then A else A.map (·.add l)) (len - l) (cap - l)) W := by
  subst el
  obtain ⟨i, hi, hsz⟩ : ∃ i, P.info? e = some i ∧ i.size = 1 := by
    cases hh : P.info? e with
    | none => rw [hh] at hs; cases hs
    | some i => rw [hh] at hs; exact ⟨i, rfl, by simpa using hs⟩
  have he : P.elem t = e := by simp [Program.elem, ht]
  rw [run_slice_l W t A len cap (by rw [he]; exact ht) .i64 (l : Int) (by omega) (by omega)]
  simp [he, sizeOf, typeInfo, hi, hsz, sliced]

theorem run_loadVar_part (w : World) (g o n : Nat) (t ty : TypeId) (cs vs : Array Value) (d : TypeDesc) (hB : Blk w g t cs)
    (hu : P.underlying ty = some d) (hd : (match d with | .struct _ | .array _ _ => true | _ => false) = true) (hi : (P.info? ty).map (·.size) = some n)
    (hn : vs.size = n) (hv : ∀ j, j < n → cs[o + j]? = vs[j]?) :
    (loadVar ty ⟨g, o, none⟩).run P w = .ok (.agg vs) w := by
  have hl : (loadCells ⟨g, o, none⟩ vs.toList.length).run P w = .ok vs.toList.toArray w :=
    run_loadCells_list (P := P) w ⟨g, o, none⟩ vs.toList (fun j v hj => by
      have hjn : j < n := by
        rcases Nat.lt_or_ge j vs.toList.length with h | h
        · simpa [hn] using h
        · rw [List.getElem?_eq_none h] at hj; cases hj
      rw [add_off, hB.cell, hv j hjn]
      simpa using hj)
  cases hq : P.info? ty with
  | none => simp [hq] at hi
  | some i =>
    have hs : i.size = n := by simpa [hq] using hi
    have hagg : (isAgg ty).run P w = .ok true w := by
      unfold isAgg
      rw [Sem.run_bind, run_underlying hu w]
      cases d <;> simp_all
    simp only [Array.length_toList, Array.toArray_toList, hn] at hl
    simp [loadVar, Sem.run_bind, hagg, sizeOf, typeInfo, hq, hs, hl]

theorem wp_load_part {o : Oper} {a : Act} {w : World} {K : Act → World → Prop} {Q : Exit → Act → World → Prop} (ty : TypeId) (x : Operand) (ho : o.op = .load ty x)
    (g off n : Nat) (hx : a.eval x = .pointer (some ⟨g, off, none⟩)) (t : TypeId) (cs vs : Array Value) (d : TypeDesc) (hB : Blk w g t cs)
    (hu : P.underlying ty = some d) (hd : (match d with | .struct _ | .array _ _ => true | _ => false) = true) (hi : (P.info? ty).map (·.size) = some n)
    (hn : vs.size = n) (hv : ∀ j, j < n → cs[off + j]? = vs[j]?)
    (h : K (a.put o.dst (.agg vs)) w) : o.wp P a w K Q := by
  unfold Oper.wp execOp
  simp only [ho, hx, Instr.loadAt, Instr.sureAddr, Sem.run_bind, Sem.run_pure, Result.andThen_ok, run_loadVar_part w g off n t ty cs vs d hB hu hd hi hn hv]
  exact h

theorem wpList_load_part {ops : Array Oper} {rest : List Oper} {o : Oper} {a : Act} {w : World} {Q : Exit → Act → World → Prop} (hgd : o.guard = none) (ty : TypeId) (x : Operand) (ho : o.op = .load ty x)
    (g off n : Nat) (hx : a.eval x = .pointer (some ⟨g, off, none⟩)) (t : TypeId) (cs vs : Array Value) (d : TypeDesc) (hB : Blk w g t cs)
    (hu : P.underlying ty = some d) (hd : (match d with | .struct _ | .array _ _ => true | _ => false) = true) (hi : (P.info? ty).map (·.size) = some n)
    (hn : vs.size = n) (hv : ∀ j, j < n → cs[off + j]? = vs[j]?)
    (h : wpList P ops Q rest (a.put o.dst (.agg vs)) w) : wpList P ops Q (o :: rest) a w :=
  wpList_plain hgd fun _ hK => wp_load_part ty x ho g off n hx t cs vs d hB hu hd hi hn hv (hK _ _ h)

theorem run_storeVar_part (w : World) (g o : Nat) (t ty : TypeId) (cs vs : Array Value) (hB : Blk w g t cs) (hi : (P.info? ty).map (·.size) = some vs.size)
    (ho : o + vs.size ≤ cs.size) (h1 : vs.all (·.oneCell') = true) :
    (storeVar ty ⟨g, o, none⟩ (.agg vs)).run P w = .ok () (w.setRow g (spl cs o vs.toList)) := by
  have := run_storeCells_at P g o t vs.toList 0 cs w hB (by simpa using ho) (fun v hv => (Array.all_eq_true_iff_forall_mem.1 h1) v (by simpa using hv))
  cases hq : P.info? ty with
  | none => simp [hq] at hi
  | some i =>
    have hs : vs.size = i.size := by simp [hq] at hi; omega
    simp only [Nat.add_zero] at this
    simp [storeVar, sizeOf, typeInfo, hq, Value.cells, hs, this, spl]

theorem wp_store_part {o : Oper} {a : Act} {w : World} {K : Act → World → Prop} {Q : Exit → Act → World → Prop} (ty : TypeId) (x y : Operand) (ho : o.op = .store ty x y)
    (g off : Nat) (vs : Array Value) (hx : a.eval x = .pointer (some ⟨g, off, none⟩)) (hy : a.eval y = .agg vs)
    (t : TypeId) (cs : Array Value) (hB : Blk w g t cs) (hi : (P.info? ty).map (·.size) = some vs.size)
    (hold : off + vs.size ≤ cs.size) (h1 : vs.all (·.oneCell') = true)
    (h : ∀ W', Turned g w W' → Blk W' g t (spl cs off vs.toList) → K (a.put o.dst undef) W') : o.wp P a w K Q := by
  unfold Oper.wp execOp
  simp only [ho, hx, hy, Instr.storeAt, Instr.sureAddr, Sem.run_bind, Sem.run_pure, Result.andThen_ok, run_storeVar_part w g off t ty cs vs hB hi hold h1]
  exact h _ (Turned.setRow w g _) (setRow_heap w g cs _ t _ hB)

theorem wpList_store_part {ops : Array Oper} {rest : List Oper} {o : Oper} {a : Act} {w : World} {Q : Exit → Act → World → Prop} (hgd : o.guard = none) (ty : TypeId) (x y : Operand) (ho : o.op = .store ty x y)
    (g off : Nat) (vs : Array Value) (hx : a.eval x = .pointer (some ⟨g, off, none⟩)) (hy : a.eval y = .agg vs)
    (t : TypeId) (cs : Array Value) (hB : Blk w g t cs) (hi : (P.info? ty).map (·.size) = some vs.size)
    (hold : off + vs.size ≤ cs.size) (h1 : vs.all (·.oneCell') = true)
    (h : ∀ W', Turned g w W' → Blk W' g t (spl cs off vs.toList) → wpList P ops Q rest (a.put o.dst undef) W') : wpList P ops Q (o :: rest) a w :=
  wpList_plain hgd fun _ hK => wp_store_part ty x y ho g off vs hx hy t cs hB hi hold h1 fun W' h2 h3 => hK _ _ (h W' h2 h3)

theorem wpList_copy_part {ops : Array Oper} {rest : List Oper} {o : Oper} {a : Act} {w : World} {Q : Exit → Act → World → Prop} (hgd : o.guard = none) (d s : Operand) (dT sT elem : TypeId)
    (ho : o.op = .call { callee := .builtin .copy, args := #[d, s], argTypes := #[dT, sT] })
    (g off dLen dCap sLen sCap : Nat) (ad : Addr) (t : TypeId) (cs : Array Value) (vs : List Value)
    (hd : a.eval d = .slice (some ⟨g, off, none⟩) dLen dCap) (hs : a.eval s = .slice (some ad) sLen sCap)
    (hu : P.underlying dT = some (.slice elem)) (hsz : (P.info? elem).map (·.size) = some 1)
    (hB : Blk w g t cs) (hn : vs.length = Nat.min sLen dLen) (hsrc : ∀ j v, vs[j]? = some v → w.cell? (ad.add j) = some v) (hfit : off + vs.length ≤ cs.size) (h1 : ∀ v ∈ vs, v.oneCell' = true)
    (h : ∀ W', Turned g w W' → Blk W' g t (spl cs off vs) → wpList P ops Q rest (a.put o.dst (.int .i64 (vs.length : Int))) W') : wpList P ops Q (o :: rest) a w :=
  wpList_plain hgd fun _ hK => by
    unfold Oper.wp execOp
    simp only [ho, resolve, invoke, builtin, Sem.run_bind, Sem.run_pure, Result.andThen_ok, List.map_toArray, List.map_cons, List.map_nil, hd, hs, run_copy_row (P := P) w dT sT o.type elem g off dLen dCap ad sLen sCap cs t vs hu hsz hB hn hsrc hfit h1]
    exact hK _ _ (h _ (Turned.setRow w g _) (setRow_heap w g cs _ t _ hB))
theorem zeroCells_one (z : Value) (n : Nat) : (Builtin.zeroCells #[z] n).toList = List.replicate n z := by
  unfold Builtin.zeroCells
  apply List.ext_getElem
  · simp
  · intro i h1 h2
    simp [Nat.mod_one]
theorem wpList_clear_part {ops : Array Oper} {rest : List Oper} {o : Oper} {a : Act} {w : World} {Q : Exit → Act → World → Prop} (hgd : o.guard = none) (d : Operand) (dT elem : TypeId)
    (ho : o.op = .call { callee := .builtin .clear, args := #[d], argTypes := #[dT] })
    (g off n cap : Nat) (t : TypeId) (cs : Array Value) (z : Value) (hd : a.eval d = .slice (some ⟨g, off, none⟩) (n + 1) cap)
    (hu : P.underlying dT = some (.slice elem)) (hz : (zeroValue elem).run P w = .ok z w) (hzc : z.cells = #[z]) (hz1 : z.oneCell' = true)
    (hB : Blk w g t cs) (hfit : off + (n + 1) ≤ cs.size)
    (h : ∀ W', Turned g w W' → Blk W' g t (spl cs off (List.replicate (n + 1) z)) → wpList P ops Q rest (a.put o.dst (.tuple #[])) W') : wpList P ops Q (o :: rest) a w :=
  wpList_plain hgd fun _ hK => by
    have hst := run_storeCells_at P g off t (List.replicate (n + 1) z) 0 cs w hB (by simpa using hfit) (fun v hv => by rw [List.eq_of_mem_replicate hv]; exact hz1)
    have hrun : (Builtin.clear_ #[dT] o.type #[.slice (some ⟨g, off, none⟩) (n + 1) cap]).run P w = .ok (.tuple #[]) (w.setRow g (spl cs off (List.replicate (n + 1) z))) := by
      simp only [Nat.add_zero] at hst
      simp only [spl]
      rw [← zeroCells_one z (n + 1)] at hst ⊢
      simp [Builtin.clear_, run_underlying hu, hz, hzc, hst]
    unfold Oper.wp execOp
    simp only [ho, resolve, invoke, builtin, Sem.run_bind, Sem.run_pure, Result.andThen_ok, List.map_toArray, List.map_cons, List.map_nil, hd, hrun]
    exact hK _ _ (h _ (Turned.setRow w g _) (setRow_heap w g cs _ t _ hB))
theorem exec_load_part {o : Oper} {a : Act} {w : World} (ty : TypeId) (x : Operand) (ho : o.op = .load ty x)
    (g off n : Nat) (hx : a.eval x = .pointer (some ⟨g, off, none⟩)) (t : TypeId) (cs vs : Array Value) (d : TypeDesc) (hB : Blk w g t cs)
    (hu : P.underlying ty = some d) (hd : (match d with | .struct _ | .array _ _ => true | _ => false) = true) (hi : (P.info? ty).map (·.size) = some n)
    (hn : vs.size = n) (hv : ∀ j, j < n → cs[off + j]? = vs[j]?) : (execOp a.eval o).run P w = .ok (.value (.agg vs)) w := by
  unfold execOp
  simp only [ho, hx, Instr.loadAt, Instr.sureAddr, Sem.run_bind, Sem.run_pure, Result.andThen_ok, run_loadVar_part w g off n t ty cs vs d hB hu hd hi hn hv]
theorem results_part2 {fn : Func} {p u : Tmp} {ty : TypeId} (h : fn.results = #[.cell p ty, .tmp u]) (tmps : Array Value) (w : World) (g n : Nat) (t : TypeId) (cs : Array Value) (d : TypeDesc)
    (hp : tmps.getD p undef = .pointer (some ⟨g, 0, none⟩)) (hB : Blk w g t cs)
    (hu : P.underlying ty = some d) (hd : (match d with | .struct _ | .array _ _ => true | _ => false) = true) (hi : (P.info? ty).map (·.size) = some n) (hn : cs.size = n) :
    (results fn tmps).run P w = .ok (.tuple #[.agg cs, tmps.getD u undef]) w := by
  rw [results_cell_tmp h, hp]
  simp [asAddr, run_loadVar_part w g 0 n t ty cs cs d hB hu hd hi hn (fun j _ => by rw [Nat.zero_add])]
theorem spl_cons (cs : Array Value) (o : Nat) (v : Value) (vs : List Value) (h : o + (vs.length + 1) ≤ cs.size) : spl cs o (v :: vs) = spl (cs.setIfInBounds o v) (o + 1) vs := by
  apply Array.ext_getElem?
  intro j
  rw [spl_get (by simpa using h), spl_get (by simp; omega), Array.getElem?_setIfInBounds]
  by_cases h1 : j = o
  · subst h1
    rw [if_pos (by simp), if_neg (by omega), if_pos rfl, if_pos (by omega)]
    simp
  · by_cases h2 : o ≤ j ∧ j < o + (v :: vs).length
    · simp only [List.length_cons] at h2
      rw [if_pos (by simp; omega), if_pos (by omega), show j - o = (j - (o + 1)) + 1 by omega, List.getElem?_cons_succ]
    · rw [if_neg h2, if_neg (by simp at h2; omega), if_neg (fun e => h1 e.symm)]
theorem Blk.setCells {w : World} {g : Nat} {t : TypeId} {cs : Array Value} (o : Nat) (vs : List Value) (hB : Blk w g t cs) (h : o + vs.length ≤ cs.size) : Blk (w.setCells g o vs) g t (spl cs o vs) ∧ Turned g w (w.setCells g o vs) := by
  induction vs generalizing o w cs with
  | nil =>
    refine ⟨?_, Turned.refl _ _⟩
    have : spl cs o [] = cs := by unfold spl; simp
    rw [this]; exact hB
  | cons v vs ih =>
    simp only [World.setCells]
    have h1 := ih (w := w.setCell ⟨g, o, none⟩ v) (cs := cs.setIfInBounds o v) (o + 1) (hB.set_ o v) (by simp at h ⊢; omega)
    rw [spl_cons cs o v vs (by simpa using h)]
    exact ⟨h1.1, (Turned.setCell w ⟨g, o, none⟩ v).trans h1.2⟩
theorem Blk.there {w : World} {g : Nat} {t : TypeId} {cs : Array Value} (hB : Blk w g t cs) (o n : Nat) (h : o + n ≤ cs.size) : w.there g o n := fun j hj =>
  ⟨by rw [hB.cell, Array.getElem?_eq_getElem (by omega)]; rfl, hB.frozen _⟩
theorem step_store_part {ops : Array Oper} {o : Oper} {a : Act} {w : World} {K : Act → World → Prop} {Q : Exit → Act → World → Prop} {E : Prop} (hgd : o.guard = none) (ty : TypeId) (x y : Operand) (ho : o.op = .store ty x y)
    (g off : Nat) (vs : Array Value) (hx : a.eval x = .pointer (some ⟨g, off, none⟩)) (hy : a.eval y = .agg vs)
    (t : TypeId) (cs : Array Value) (hB : Blk w g t cs) (hi : (P.info? ty).map (·.size) = some vs.size)
    (hold : off + vs.size ≤ cs.size) (h1 : vs.all (·.oneCell') = true)
    (h : ∀ W', Turned g w W' → Blk W' g t (spl cs off vs.toList) → K (a.put o.dst undef) W') : if Region.wanted o (yielded ops a.tmps) = true then Oper.wp P o a w K Q else E := by
  have hw : Region.wanted o (yielded ops a.tmps) = true := by simp [Region.wanted, hgd]
  rw [if_pos hw]
  exact wp_store_part ty x y ho g off vs hx hy t cs hB hi hold h1 h

theorem results_part {fn : Func} {p : Tmp} {ty : TypeId} (h : fn.results = #[.cell p ty]) (tmps : Array Value) (w : World) (g n : Nat) (t : TypeId) (cs : Array Value) (d : TypeDesc)
    (hp : tmps.getD p undef = .pointer (some ⟨g, 0, none⟩)) (hB : Blk w g t cs)
    (hu : P.underlying ty = some d) (hd : (match d with | .struct _ | .array _ _ => true | _ => false) = true) (hi : (P.info? ty).map (·.size) = some n) (hn : cs.size = n) :
    (results fn tmps).run P w = .ok (.agg cs) w := by
  have hp' : tmps[p]?.getD undef = .pointer (some ⟨g, 0, none⟩) := by simpa using hp
  simp [results, h, hp', asAddr, run_loadVar_part w g 0 n t ty cs cs d hB hu hd hi hn (fun j _ => by rw [Nat.zero_add])]
end

end Go.Proofs.YtcpngeiahgoacaaGreat

/- Contracts of sha.roots, sha.start: the numbers of the standard. -/
namespace Go.Proofs.YtcpngeiahgoacaaGreat
set_option linter.unusedVariables false
open Go.RowKit Go.Lib

theorem pl_310 : (pl 310).length = 64 := by decide +kernel
theorem pl_309 : (pl 309).length = 63 := by decide +kernel
theorem pl_18 : (pl 18).length = 8 := by decide +kernel
theorem pl_17 : (pl 17).length = 7 := by decide +kernel
theorem roots_eq : (pl 310).map (fun p => rootF (fun x => within3 x p)) = kc.map (·.toNat) := by decide +kernel
theorem start_eq : (pl 18).map (fun p => rootF (fun x => within2 x p)) = h0.list.map (·.toNat) := by decide +kernel
theorem pl_310_lt (k : Nat) (h : k < 310) : (pl k).length < 64 := by
  have := pl_mono (a := k) (b := 309) (by omega)
  rw [pl_309] at this; omega
theorem pl_18_lt (k : Nat) (h : k < 18) : (pl k).length < 8 := by
  have := pl_mono (a := k) (b := 17) (by omega)
  rw [pl_17] at this; omega

theorem getD_map_toNat (l : List W32) (j : Nat) : (l.map (·.toNat)).getD j 0 = (l.getD j 0).toNat := by
  simp only [List.getD_eq_getElem?_getD, List.getElem?_map]
  cases l[j]? <;> rfl
theorem getD_map_root (l : List Nat) (f : Nat → Nat) (j : Nat) (h : j < l.length) : (l.map f).getD j 0 = f (l.getD j 0) := by
  simp only [List.getD_eq_getElem?_getD, List.getElem?_map, List.getElem?_eq_getElem h]; rfl
theorem pl_small (k j : Nat) (hk : k < 1000) : (pl k).getD j 0 < 18446744073709551616 := by
  rcases Nat.lt_or_ge j (pl k).length with h | h
  · have := pl_bd k ((pl k).getD j 0) (by rw [List.getD_eq_getElem?_getD, List.getElem?_eq_getElem h]; exact List.getElem_mem h)
    omega
  · rw [List.getD_eq_getElem?_getD, List.getElem?_eq_none h]; simp

theorem root3_any (j : Nat) (hj : j < 64) (w : World) : Calls Tryz.prog 244 #[.int .u64 (((pl 310).getD j 0 : Nat) : Int), .int .i64 3] w fun e w' => e = .returned (.int .u32 (wi (kc.getD j 0))) ∧ w = w' := by
  have h := root_any (fun x => within3 x ((pl 310).getD j 0)) ((pl 310).getD j 0) 3 (fun x W hx => within3_any x _ (by omega) (pl_small 310 j (by omega)) W) w
  refine h.mono fun e w' ⟨h1, h2⟩ => ⟨?_, h2⟩
  rw [h1]
  have e1 := getD_map_toNat kc j
  rw [← roots_eq, getD_map_root _ _ j (by rw [pl_310]; exact hj)] at e1
  unfold wi
  rw [← e1]
theorem root2_any (j : Nat) (hj : j < 8) (w : World) : Calls Tryz.prog 244 #[.int .u64 (((pl 18).getD j 0 : Nat) : Int), .int .i64 2] w fun e w' => e = .returned (.int .u32 (wi (h0.list.getD j 0))) ∧ w = w' := by
  have h := root_any (fun x => within2 x ((pl 18).getD j 0)) ((pl 18).getD j 0) 2 (fun x W hx => within2_any x _ (by omega) W) w
  refine h.mono fun e w' ⟨h1, h2⟩ => ⟨?_, h2⟩
  rw [h1]
  have e1 := getD_map_toNat h0.list j
  rw [← start_eq, getD_map_root _ _ j (by rw [pl_18]; exact hj)] at e1
  unfold wi
  rw [← e1]

theorem own_cells {w : World} {B n : Nat} {e : TypeId} {v : Value} {l : List Nat} (h : w.ownsRow B e 1 v n (l.map vu64)) (hn : 0 < n) :
    ∃ g c, v = .slice (some ⟨g, 0, none⟩) n c ∧ B ≤ g ∧ g < w.heap.size ∧ n ≤ c ∧ c ≤ maxLen ∧ ∀ j, j < n → w.cell? ⟨g, j, none⟩ = some (.int .u64 ((l.getD j 0 : Nat) : Int)) := by
  have hlen := h.1
  have hc := fun g hv => h.cells (g := g) hv
  rcases h.2 with ⟨_, h0⟩ | ⟨g, cap, cur, rfl, hb, hh, h1, h2, _⟩
  · omega
  · refine ⟨g, cap, rfl, hb, Blk.lt (cs := cur) hh, h1, h2, fun j hj => ?_⟩
    have hj' : j < l.length := by simp at hlen; omega
    have := hc g rfl j (vu64 (l.getD j 0)) (by rw [List.getElem?_map, List.getD_eq_getElem?_getD, List.getElem?_eq_getElem hj']; rfl)
    rw [add_off, Nat.zero_add] at this
    exact this

/-- what roots and start answer, closed to the walk -/
def kList : List Value := (List.range 64).map (fun j => vw (kc.getD j 0))
def hList : List Value := (List.range 8).map (fun j => vw (h0.list.getD j 0))
def kRow : Array Value := rng 64 (fun j => vw (kc.getD j 0))
def hRow : Array Value := rng 8 (fun j => vw (h0.list.getD j 0))
theorem kList_len : kList.length = 64 := by simp [kList]
theorem hList_len : hList.length = 8 := by simp [hList]
theorem kList_one : ∀ v ∈ kList, v.oneCell' = true := by intro v hv; obtain ⟨j, _, rfl⟩ := List.mem_map.1 hv; rfl
theorem hList_one : ∀ v ∈ hList, v.oneCell' = true := by intro v hv; obtain ⟨j, _, rfl⟩ := List.mem_map.1 hv; rfl
theorem kRow_size : kRow.size = 64 := rng_size _ _
theorem kRow_one : kRow.all (·.oneCell') = true := rng_one 64 kc
/-- n cells, the first j of them made -/
def madeRow (n : Nat) (l : List W32) (j : Nat) : Array Value := rng n (fun q => if q < j then vw (l.getD q 0) else .int .u32 0)
theorem madeRow_zero (n : Nat) (l : List W32) : madeRow n l 0 = Array.replicate n (.int .u32 0) := by
  refine (rng_of (by simp) fun j hj => ?_).symm
  simp [hj]
theorem madeRow_next (n : Nat) (l : List W32) (j : Nat) : (madeRow n l j).setIfInBounds j (vw (l.getD j 0)) = madeRow n l (j + 1) := by
  unfold madeRow
  rw [rng_set]
  refine rng_ext fun q hq => ?_
  by_cases h1 : q = j
  · subst h1; rw [if_pos rfl, if_pos (by omega)]
  · rw [if_neg h1]
    by_cases h2 : q < j
    · rw [if_pos h2, if_pos (by omega)]
    · rw [if_neg h2, if_neg (by omega)]
theorem madeRow_at (n : Nat) (l : List W32) (j : Nat) (h : j < n) : (madeRow n l j)[j]? = some (.int .u32 0) := by
  unfold madeRow; rw [rng_get _ _ _ h, if_neg (by omega)]
theorem madeRow_full (n : Nat) (l : List W32) : madeRow n l n = rng n (fun j => vw (l.getD j 0)) := rng_ext fun j hj => by rw [if_pos hj]

set_option maxRecDepth 100000 in
set_option maxHeartbeats 1000000 in
theorem roots_any (w : World) : Calls Tryz.prog 229 #[] w fun e w' => e = .returned (.agg kRow) ∧ Below w.heap.size w w' := by
  go_enter Tryz.func229, Tryz.ntmps229
  go_wp2_with fail
  generalize hW : w.alloc _ = W
  have hB : Blk W w.heap.size 273 (madeRow 64 kc 0) := by rw [madeRow_zero, ← hW]; exact Blk.newAt rfl
  have hbel : Below w.heap.size w W := by rw [← hW]; exact (Below.refl _ _).alloc (Nat.le_refl _) _
  have hsz : W.heap.size = w.heap.size + 1 := by rw [← hW]; simp
  clear hW
  refine (primes_any 64 310 pl_310 pl_310_lt (by omega) W).mono ?_
  rintro _ w1 ⟨v, rfl, hown, hbel1⟩
  obtain ⟨g, c, rfl, hg, hg2, _, hcm, hcl⟩ := own_cells hown (by omega)
  have hB1 := hB.below hbel1 (by omega)
  have hbel2 := hbel.trans (hbel1.mono (by omega : w.heap.size ≤ W.heap.size))
  clear hB hbel hbel1 hown
  unfold maxLen at hcm
  have HC := Lib.hid hcl
  have HS := Lib.hid hsz
  clear hsz hcl
  go_wp2
  go_loopw [5] (fun i wr => ∃ j : Nat, j ≤ 64 ∧ i = .int .i64 j ∧ Blk wr w.heap.size 273 (madeRow 64 kc j) ∧ Turned w.heap.size w1 wr) (fun i _ => 64 - (intOf i).toNat)
  case atStart => exact ⟨0, by omega, rfl, hB1, Turned.refl _ _⟩
  case round =>
    obtain ⟨j, hj, rfl, hBr, ht⟩ := hrel
    clear hB1
    by_cases hjl : j < 64
    · have hsrc : wr.cell? ⟨g, j, none⟩ = some (.int .u64 (((pl 310).getD j 0 : Nat) : Int)) := (ht.cell (p := ⟨g, j, none⟩) (by have := HS.out; simp; omega)).trans (HC.out j hjl)
      have hdst := (hBr.cell j).trans (madeRow_at 64 kc j hjl)
      have hfz := hBr.frozen j
      have HR := Lib.hid (root3_any j hjl)
      generalize hp : (pl 310).getD j 0 = pv at hsrc HR
      clear hp
      go_wp2_with (go_at_call 244; refine (HR.out _).mono ?_; rintro _ _ ⟨rfl, rfl⟩)
      go_roundw
      case rel =>
        have h2 := hBr.set_ j (vw (kc.getD j 0))
        rw [madeRow_next] at h2
        exact ⟨j + 1, by omega, by go_num, h2, ht.trans (Turned.setCell wr ⟨w.heap.size, j, none⟩ _)⟩
      case measure => simp [intOf]; omega
    · obtain rfl : j = 64 := by omega
      rw [madeRow_full] at hBr
      clear HC
      have hu := Tryz.underlying273
      have hall := rng_one 64 kc
      go_wp2_with (first | (refine wpList_load_part rfl 273 _ rfl w.heap.size 0 64 rfl 273 _ (rng 64 (fun j => vw (kc.getD j 0))) _ hBr hu rfl rfl (rng_size _ _) (fun _ _ => by rw [Nat.zero_add]) ?_) | (refine wpList_store_part rfl 273 _ _ rfl w.heap.size 0 (rng 64 (fun j => vw (kc.getD j 0))) rfl rfl 273 _ hBr (by rw [rng_size]; rfl) (by omega) hall ?_; intro W2 hT2 hB2; rw [spl_self _ _ rfl] at hB2))
      refine bodyPost_ret (results_part rfl _ _ w.heap.size 64 273 _ _ rfl hB2 hu rfl rfl (rng_size _ _)) rfl ⟨rfl, hT2.below (ht.below hbel2 (Nat.le_refl _)) (Nat.le_refl _)⟩

set_option maxRecDepth 100000 in
set_option maxHeartbeats 1000000 in
theorem start_any (w : World) : Calls Tryz.prog 230 #[] w fun e w' => e = .returned (.agg hRow) ∧ Below w.heap.size w w' := by
  go_enter Tryz.func230, Tryz.ntmps230
  go_wp2_with fail
  generalize hW : w.alloc _ = W
  have hB : Blk W w.heap.size 274 (madeRow 8 h0.list 0) := by rw [madeRow_zero, ← hW]; exact Blk.newAt rfl
  have hbel : Below w.heap.size w W := by rw [← hW]; exact (Below.refl _ _).alloc (Nat.le_refl _) _
  have hsz : W.heap.size = w.heap.size + 1 := by rw [← hW]; simp
  clear hW
  refine (primes_any 8 18 pl_18 pl_18_lt (by omega) W).mono ?_
  rintro _ w1 ⟨v, rfl, hown, hbel1⟩
  obtain ⟨g, c, rfl, hg, hg2, _, hcm, hcl⟩ := own_cells hown (by omega)
  have hB1 := hB.below hbel1 (by omega)
  have hbel2 := hbel.trans (hbel1.mono (by omega : w.heap.size ≤ W.heap.size))
  clear hB hbel hbel1 hown
  unfold maxLen at hcm
  have HC := Lib.hid hcl
  have HS := Lib.hid hsz
  clear hsz hcl
  go_wp2
  go_loopw [5] (fun i wr => ∃ j : Nat, j ≤ 8 ∧ i = .int .i64 j ∧ Blk wr w.heap.size 274 (madeRow 8 h0.list j) ∧ Turned w.heap.size w1 wr) (fun i _ => 8 - (intOf i).toNat)
  case atStart => exact ⟨0, by omega, rfl, hB1, Turned.refl _ _⟩
  case round =>
    obtain ⟨j, hj, rfl, hBr, ht⟩ := hrel
    clear hB1
    by_cases hjl : j < 8
    · have hsrc : wr.cell? ⟨g, j, none⟩ = some (.int .u64 (((pl 18).getD j 0 : Nat) : Int)) := (ht.cell (p := ⟨g, j, none⟩) (by have := HS.out; simp; omega)).trans (HC.out j hjl)
      have hdst := (hBr.cell j).trans (madeRow_at 8 h0.list j hjl)
      have hfz := hBr.frozen j
      have HR := Lib.hid (root2_any j hjl)
      generalize hp : (pl 18).getD j 0 = pv at hsrc HR
      clear hp
      go_wp2_with (go_at_call 244; refine (HR.out _).mono ?_; rintro _ _ ⟨rfl, rfl⟩)
      go_roundw
      case rel =>
        have h2 := hBr.set_ j (vw (h0.list.getD j 0))
        rw [madeRow_next] at h2
        exact ⟨j + 1, by omega, by go_num, h2, ht.trans (Turned.setCell wr ⟨w.heap.size, j, none⟩ _)⟩
      case measure => simp [intOf]; omega
    · obtain rfl : j = 8 := by omega
      rw [madeRow_full] at hBr
      clear HC
      have hu := Tryz.underlying274
      have hall := rng_one 8 h0.list
      go_wp2_with (first | (refine wpList_load_part rfl 274 _ rfl w.heap.size 0 8 rfl 274 _ (rng 8 (fun j => vw (h0.list.getD j 0))) _ hBr hu rfl rfl (rng_size _ _) (fun _ _ => by rw [Nat.zero_add]) ?_) | (refine wpList_store_part rfl 274 _ _ rfl w.heap.size 0 (rng 8 (fun j => vw (h0.list.getD j 0))) rfl rfl 274 _ hBr (by rw [rng_size]; rfl) (by omega) hall ?_; intro W2 hT2 hB2; rw [spl_self _ _ rfl] at hB2))
      refine bodyPost_ret (results_part rfl _ _ w.heap.size 8 274 _ _ rfl hB2 hu rfl rfl (rng_size _ _)) rfl ⟨rfl, hT2.below (ht.below hbel2 (Nat.le_refl _)) (Nat.le_refl _)⟩

end Go.Proofs.YtcpngeiahgoacaaGreat

/- Contracts of sha.New and of what is made once: sync.Once's parts, (*Hash).ready. -/
namespace Go.Proofs.YtcpngeiahgoacaaGreat
set_option linter.unusedVariables false
open Go.RowKit
attribute [local irreducible] wpList

/-- the cells of a hash: made once or not yet; k, the state, the block, how many bytes are held, how many there were -/
def hashF (done mu : Int) (k s b : Nat → Value) (held all : Int) (j : Nat) : Value :=
  if j = 0 then .bool true else if j = 1 then .int .u32 done else if j = 2 then .int .i32 mu else if j = 3 then .int .u32 0 else if j < 68 then k (j - 4) else if j < 76 then s (j - 68) else if j < 140 then b (j - 76) else if j = 140 then .int .i64 held else .int .i64 all
def hashCells (done mu : Int) (k s b : Nat → Value) (held all : Int) : Array Value := rng 142 (hashF done mu k s b held all)
def z32 : Nat → Value := fun _ => .int .u32 0
def z8 : Nat → Value := fun _ => .int .u8 0
def kF : Nat → Value := fun j => vw (kc.getD j 0)
def sF (s : St) : Nat → Value := fun j => vw (s.list.getD j 0)

theorem hash_size (d m : Int) (k s b : Nat → Value) (x y : Int) : (hashCells d m k s b x y).size = 142 := rng_size _ _
theorem hash_at (d m : Int) (k s b : Nat → Value) (x y : Int) (j : Nat) (h : j < 142) : (hashCells d m k s b x y)[j]? = some (hashF d m k s b x y j) := rng_get _ _ _ h
theorem hash_c140 (d m : Int) (k s b : Nat → Value) (x y : Int) : (hashCells d m k s b x y)[140]? = some (.int .i64 x) := hash_at _ _ _ _ _ _ _ 140 (by omega)
theorem hash_c141 (d m : Int) (k s b : Nat → Value) (x y : Int) : (hashCells d m k s b x y)[141]? = some (.int .i64 y) := hash_at _ _ _ _ _ _ _ 141 (by omega)
theorem hash_k (d m : Int) (k s b : Nat → Value) (x y : Int) (j : Nat) (h : j < 64) : (hashCells d m k s b x y)[4 + j]? = some (k j) := by
  rw [hash_at _ _ _ _ _ _ _ _ (by omega)]; unfold hashF
  rw [if_neg (by omega), if_neg (by omega), if_neg (by omega), if_neg (by omega), if_pos (by omega), show 4 + j - 4 = j by omega]
theorem hash_s (d m : Int) (k s b : Nat → Value) (x y : Int) (j : Nat) (h : j < 8) : (hashCells d m k s b x y)[68 + j]? = some (s j) := by
  rw [hash_at _ _ _ _ _ _ _ _ (by omega)]; unfold hashF
  rw [if_neg (by omega), if_neg (by omega), if_neg (by omega), if_neg (by omega), if_neg (by omega), if_pos (by omega), show 68 + j - 68 = j by omega]
theorem hash_b (d m : Int) (k s b : Nat → Value) (x y : Int) (j : Nat) (h : j < 64) : (hashCells d m k s b x y)[76 + j]? = some (b j) := by
  rw [hash_at _ _ _ _ _ _ _ _ (by omega)]; unfold hashF
  rw [if_neg (by omega), if_neg (by omega), if_neg (by omega), if_neg (by omega), if_neg (by omega), if_neg (by omega), if_pos (by omega), show 76 + j - 76 = j by omega]
/-- a block, bytes put into it -/
def putB (b : Nat → UInt8) (o : Nat) (vs : List UInt8) (j : Nat) : UInt8 := if o ≤ j ∧ j < o + vs.length then vs.getD (j - o) 0 else b j
/-- bytes put into the block -/
theorem hash_splB (d m : Int) (k s : Nat → Value) (b : Nat → UInt8) (x y : Int) (o : Nat) (vs : List UInt8) (h : o + vs.length ≤ 64) :
    spl (hashCells d m k s (fun j => vb (b j)) x y) (76 + o) (vs.map vb) = hashCells d m k s (fun j => vb (putB b o vs j)) x y := by
  unfold putB
  unfold hashCells
  rw [spl_rng (m := vs.length) (g := fun j => vb (vs.getD j 0)) (by simp) (fun j hj => by rw [List.getElem?_map, List.getD_eq_getElem?_getD, List.getElem?_eq_getElem hj]; rfl) (by omega)]
  refine rng_ext fun j hj => ?_
  by_cases h1 : 76 + o ≤ j ∧ j < 76 + o + vs.length
  · rw [if_pos h1]; unfold hashF
    rw [if_neg (by omega), if_neg (by omega), if_neg (by omega), if_neg (by omega), if_neg (by omega), if_neg (by omega), if_pos (by omega)]
    show vb _ = vb (if o ≤ j - 76 ∧ j - 76 < o + vs.length then _ else _)
    rw [if_pos (by omega), show j - 76 - o = j - (76 + o) by omega]
  · rw [if_neg h1]; unfold hashF
    by_cases h2 : j < 76
    · repeat (first | rfl | (split <;> try omega))
    · by_cases h3 : j < 140
      · simp only [show ¬ j = 0 by omega, show ¬ j = 1 by omega, show ¬ j = 2 by omega, show ¬ j = 3 by omega, show ¬ j < 68 by omega, h2, h3, if_true, if_false]
        show vb _ = vb (if o ≤ j - 76 ∧ j - 76 < o + vs.length then _ else _)
        rw [if_neg (by omega)]
      · repeat (first | rfl | (split <;> try omega))
/-- another state put in -/
theorem hash_splS (d m : Int) (k s s' b : Nat → Value) (x y : Int) (vs : List Value) (hl : vs.length = 8) (hv : ∀ j, j < 8 → vs[j]? = some (s' j)) :
    spl (hashCells d m k s b x y) 68 vs = hashCells d m k s' b x y := by
  unfold hashCells
  rw [spl_rng (m := 8) (g := s') hl hv (by omega)]
  refine rng_ext fun j hj => ?_
  by_cases h1 : 68 ≤ j ∧ j < 68 + 8
  · rw [if_pos h1]; unfold hashF
    rw [if_neg (by omega), if_neg (by omega), if_neg (by omega), if_neg (by omega), if_neg (by omega), if_pos (by omega)]
  · rw [if_neg h1]; unfold hashF
    by_cases h2 : j < 68
    · repeat (first | rfl | (split <;> try omega))
    · simp only [show ¬ j = 0 by omega, show ¬ j = 1 by omega, show ¬ j = 2 by omega, show ¬ j = 3 by omega, show ¬ j < 68 by omega, show ¬ j < 76 by omega, if_false]
theorem hash_set1 (d d' m : Int) (k s b : Nat → Value) (x y : Int) : (hashCells d m k s b x y).setIfInBounds 1 (.int .u32 d') = hashCells d' m k s b x y := by
  unfold hashCells; rw [rng_set]; refine rng_ext fun j _ => ?_
  by_cases h : j = 1
  · subst h; rfl
  · rw [if_neg h]; simp [hashF, h]
theorem hash_set2 (d m m' : Int) (k s b : Nat → Value) (x y : Int) : (hashCells d m k s b x y).setIfInBounds 2 (.int .i32 m') = hashCells d m' k s b x y := by
  unfold hashCells; rw [rng_set]; refine rng_ext fun j _ => ?_
  by_cases h : j = 2
  · subst h; rfl
  · rw [if_neg h]; simp [hashF, h]
theorem hash_set140 (d m : Int) (k s b : Nat → Value) (x x' y : Int) : (hashCells d m k s b x y).setIfInBounds 140 (.int .i64 x') = hashCells d m k s b x' y := by
  unfold hashCells; rw [rng_set]; refine rng_ext fun j _ => ?_
  by_cases h : j = 140
  · subst h; rfl
  · rw [if_neg h]; simp [hashF, h]
theorem hash_set141 (d m : Int) (k s b : Nat → Value) (x y y' : Int) : (hashCells d m k s b x y).setIfInBounds 141 (.int .i64 y') = hashCells d m k s b x y' := by
  unfold hashCells; rw [rng_set]; refine rng_ext fun j hj => ?_
  by_cases h : j = 141
  · subst h; rfl
  · rw [if_neg h]; unfold hashF
    repeat (first | rfl | (split <;> try omega))

set_option maxRecDepth 100000 in
theorem new_any (w : World) : Calls Tryz.prog 205 #[] w fun e w' => e = .returned (.pointer (some ⟨w.heap.size, 0, none⟩)) ∧ Blk w' w.heap.size 277 (hashCells 0 0 z32 z32 z8 0 0) ∧ Below w.heap.size w w' ∧ w'.heap.size = w.heap.size + 1 := by
  go_enter Tryz.func205, Tryz.ntmps205
  go_wp2
  go_ret
  exact ⟨rfl, Blk.newAt (by simp), (Below.refl _ _).alloc (Nat.le_refl _) _, by simp⟩

theorem disable_run (w : World) : (callFunc 232 #[]).run Tryz.prog w = .ok (.value (.tuple #[])) w := run_call_mark0 Tryz.func232 (by kernel_rfl) (by kernel_rfl) (by kernel_rfl) .disable (by kernel_rfl) w
theorem enable_run (w : World) : (callFunc 234 #[]).run Tryz.prog w = .ok (.value (.tuple #[])) w := run_call_mark0 Tryz.func234 (by kernel_rfl) (by kernel_rfl) (by kernel_rfl) .enable (by kernel_rfl) w
theorem acquire_run (a : Addr) (w : World) : (callFunc 235 #[.pointer (some a)]).run Tryz.prog w = .ok (.value (.tuple #[])) w := run_call_marked Tryz.func235 (by kernel_rfl) (by kernel_rfl) (by kernel_rfl) .acquire (by kernel_rfl) a w
theorem releaseMerge_run (a : Addr) (w : World) : (callFunc 237 #[.pointer (some a)]).run Tryz.prog w = .ok (.value (.tuple #[])) w := run_call_marked Tryz.func237 (by kernel_rfl) (by kernel_rfl) (by kernel_rfl) .releaseMerge (by kernel_rfl) a w

set_option maxRecDepth 100000 in
/-- '(*sync/atomic.Bool).Store(true)', entered as a deferred call: the cell holds 1. -/
theorem store_deferred (a : Addr) (x : Value) (u : FrameMode) (w : World) (hc : w.cell? a = some x) (hz : w.frozen? a = false) :
    CallsD Tryz.prog 211 #[.pointer (some a), .bool true] u w fun e u' w' => u' = u ∧ (e = .returned (.tuple #[]) ∧ w' = w.drew.setCell a (.int .u32 1)) := by
  have hc' : w.drew.cell? a = some x := by go_simp
  have hz' : w.drew.frozen? a = false := by go_simp
  have hst := run_call_store (P := Tryz.prog) Tryz.func222 (by kernel_rfl) (by kernel_rfl) (by kernel_rfl) (by kernel_rfl) (k := .u32) (y := 1) hc' hz'
  go_enter_d Tryz.func211, Tryz.ntmps211
  go_wp2
  go_region_calls
  all_goals (go_end0; exact ⟨rfl, rfl⟩)

set_option maxRecDepth 100000 in
/-- '(*sync.Mutex).Unlock', entered as a deferred call, the lock held and nobody waiting. -/
theorem unlock_deferred (a : Addr) (u : FrameMode) (w : World) (hc : w.cell? a = some (.int .i32 1)) (hz : w.frozen? a = false) :
    CallsD Tryz.prog 210 #[.pointer (some a)] u w fun e u' w' => u' = u ∧ (e = .returned (.tuple #[]) ∧ w' = w.setCell a (.int .i32 0)) := by
  have hd := disable_run
  have he := enable_run
  have hr := releaseMerge_run
  have hadd := run_call_add (P := Tryz.prog) Tryz.func238 (by kernel_rfl) (by kernel_rfl) (by kernel_rfl) .i32 (by kernel_rfl) (y := -1) (s := 0) hc hz (by simp [go_sem]; rfl)
  have hcv := run_convert_to_unsafe (P := Tryz.prog) (src := 291) (dst := 295) Tryz.underlying291 Tryz.underlying295 (by kernel_rfl) hc
  go_enter_d Tryz.func210, Tryz.ntmps210
  go_wp2
  go_end0
  go_wp2
  go_end0
  exact ⟨rfl, rfl⟩

set_option maxRecDepth 100000 in
/-- '(*sync.Mutex).Lock', the lock free. -/
theorem lock_free (a : Addr) (w : World) (hc : w.cell? a = some (.int .i32 0)) (hz : w.frozen? a = false) :
    Calls Tryz.prog 209 #[.pointer (some a)] w fun e w' => e = .returned (.tuple #[]) ∧ w' = w.setCell a (.int .i32 1) := by
  have hd := disable_run
  have he := enable_run
  have ha := acquire_run
  have hcas := run_call_cas_hit (P := Tryz.prog) Tryz.func233 (by kernel_rfl) (by kernel_rfl) (by kernel_rfl) .i32 (by kernel_rfl) (y := 1) hc hz
  have hc' : (w.setCell a (.int .i32 1)).cell? a = some (.int .i32 1) := World.cell?_setCell_same w a _ hc
  have hcv := run_convert_to_unsafe (P := Tryz.prog) (src := 291) (dst := 295) Tryz.underlying291 Tryz.underlying295 (by kernel_rfl) hc'
  go_enter Tryz.func209, Tryz.ntmps209
  go_wp2
  first | go_end0 | (simp only [Exit.inBlock, Exit.then]; refine bodyPost_ret (results_none rfl _ _ _) rfl ?_) | refine bodyPost_ret (results_none rfl _ _ _) rfl ?_
  go_wp2
  go_end0
  exact ⟨rfl, rfl⟩

end Go.Proofs.YtcpngeiahgoacaaGreat

/- What a hash takes, byte by byte; the digest; the padded bytes. No program is named. -/
namespace Go.Proofs.YtcpngeiahgoacaaGreat
set_option linter.unusedVariables false

/-- one byte is taken: a state, and the bytes of a block that is not full -/
def take1 (a : St × List UInt8) (c : UInt8) : St × List UInt8 :=
  if a.2.length + 1 = 64 then (compress a.1 (a.2 ++ [c]), []) else (a.1, a.2 ++ [c])
def feed (a : St × List UInt8) (l : List UInt8) : St × List UInt8 := l.foldl take1 a
/-- what bytes come to -/
def acc (l : List UInt8) : St × List UInt8 := feed (h0, []) l

theorem feed_append (a : St × List UInt8) (x y : List UInt8) : feed a (x ++ y) = feed (feed a x) y := by simp [feed]
theorem acc_append (x y : List UInt8) : acc (x ++ y) = feed (acc x) y := feed_append _ _ _
theorem take1_lt (a : St × List UInt8) (c : UInt8) (h : a.2.length < 64) : (take1 a c).2.length < 64 := by
  unfold take1; split <;> simp <;> omega
theorem feed_lt (a : St × List UInt8) (l : List UInt8) (h : a.2.length < 64) : (feed a l).2.length < 64 := by
  induction l generalizing a with
  | nil => exact h
  | cons c l ih => exact ih (take1 a c) (take1_lt a c h)
theorem acc_lt (l : List UInt8) : (acc l).2.length < 64 := feed_lt _ _ (by simp)
theorem feed_short (s : St) (p l : List UInt8) (h : p.length + l.length < 64) : feed (s, p) l = (s, p ++ l) := by
  induction l generalizing p with
  | nil => simp [feed]
  | cons c l ih =>
    simp only [feed, List.foldl_cons]
    have h1 : take1 (s, p) c = (s, p ++ [c]) := by unfold take1; rw [if_neg (by simp at h ⊢; omega)]
    rw [h1]
    have := ih (p ++ [c]) (by simp at h ⊢; omega)
    rw [feed] at this
    rw [this]; simp
theorem feed_full (s : St) (p l : List UInt8) (h : p.length + l.length = 64) (h0 : p.length < 64) : feed (s, p) l = (compress s (p ++ l), []) := by
  have hl : l ≠ [] := by rintro rfl; simp at h; omega
  obtain ⟨m, c, rfl⟩ : ∃ m c, l = m ++ [c] := ⟨l.dropLast, l.getLast hl, (List.dropLast_concat_getLast hl).symm⟩
  rw [feed_append, feed_short s p m (by simp at h; omega)]
  simp only [feed, List.foldl_cons, List.foldl_nil, take1]
  rw [if_pos (by simp at h ⊢; omega)]
  simp

/-- a length's 8 bytes, the highest first -/
def be8 (n : Nat) : List UInt8 := (List.range 8).map fun i => UInt8.ofNat (8 * n / 2 ^ (8 * (7 - i)))
theorem be8_len (n : Nat) : (be8 n).length = 8 := by simp [be8]
/-- the 32 bytes of a state -/
def outB (s : St) : List UInt8 := (List.range 32).map fun i => w8 (s.list.getD (i / 4) 0 >>> (24 - 8 * (i % 4)))
theorem outB_len (s : St) : (outB s).length = 32 := by simp [outB]

/-- the last blocks -/
def lastSt (s : St) (p : List UInt8) (n : Nat) : St :=
  if 56 ≤ p.length then compress (compress s (p ++ [128] ++ List.replicate (63 - p.length) 0)) (List.replicate 56 0 ++ be8 n)
  else compress s (p ++ [128] ++ List.replicate (55 - p.length) 0 ++ be8 n)
/-- the digest of bytes -/
def shaOf (l : List UInt8) : List UInt8 := outB (lastSt (acc l).1 (acc l).2 l.length)
theorem shaOf_len (l : List UInt8) : (shaOf l).length = 32 := outB_len _

/-- bytes, as they are taken in -/
def padN (n : Nat) : Nat := (119 - n % 64) % 64
def padded (l : List UInt8) : List UInt8 := l ++ [128] ++ List.replicate (padN l.length) 0 ++ be8 l.length

theorem acc_len (l : List UInt8) : (acc l).2.length = l.length % 64 := by
  have key : ∀ (l : List UInt8) (a : St × List UInt8), a.2.length < 64 → (feed a l).2.length = (a.2.length + l.length) % 64 := by
    intro l
    induction l with
    | nil => intro a h; simp [feed]; omega
    | cons c l ih =>
      intro a h
      have h1 := ih (take1 a c) (take1_lt a c h)
      simp only [feed, List.foldl_cons] at h1 ⊢
      rw [h1]
      unfold take1
      split
      · simp; omega
      · simp; congr 1; omega
  have := key l (h0, []) (by simp)
  simpa [acc] using this

/-- to take the padded bytes leaves the digest's state -/
theorem acc_padded (l : List UInt8) : acc (padded l) = (lastSt (acc l).1 (acc l).2 l.length, []) := by
  have hlen := acc_len l
  have hlt := acc_lt l
  have hm : l.length % 64 < 64 := Nat.mod_lt _ (by omega)
  unfold padded
  rw [List.append_assoc, List.append_assoc, acc_append]
  generalize hA : acc l = A at *
  obtain ⟨s, p⟩ := A
  simp only at hlen hlt ⊢
  unfold lastSt padN
  by_cases h : 56 ≤ p.length
  · rw [if_pos h]
    have e1 : List.replicate ((119 - l.length % 64) % 64) (0 : UInt8) = List.replicate (63 - p.length) 0 ++ List.replicate 56 0 := by
      rw [List.replicate_append_replicate]; congr 1; omega
    rw [e1, show [128] ++ (List.replicate (63 - p.length) (0 : UInt8) ++ List.replicate 56 0 ++ be8 l.length) = ([128] ++ List.replicate (63 - p.length) 0) ++ (List.replicate 56 0 ++ be8 l.length) by simp, feed_append,
      feed_full s p _ (by simp; omega) hlt, feed_full _ [] _ (by simp [be8_len]) (by simp)]
    simp
  · rw [if_neg h]
    have e1 : (119 - l.length % 64) % 64 = 55 - p.length := by omega
    rw [e1, feed_full s p _ (by simp [be8_len]; omega) hlt]
    simp
theorem padded_len (l : List UInt8) : (padded l).length % 64 = 0 := by
  have : (padded l).length = l.length + 1 + (119 - l.length % 64) % 64 + 8 := by simp [padded, padN, be8_len]; omega
  omega

end Go.Proofs.YtcpngeiahgoacaaGreat

/- Contracts of (*Hash).ready: k and the state are made once. -/
namespace Go.Proofs.YtcpngeiahgoacaaGreat
set_option linter.unusedVariables false
open Go.RowKit

theorem hash_ready (mu : Int) (b : Nat → Value) (held all : Int) (k s : Nat → Value) :
    spl (spl (hashCells 0 mu k s b held all) 4 kList) 68 hList = hashCells 0 mu kF (sF h0) b held all := by
  unfold hashCells
  rw [spl_rng (m := 64) (g := kF) kList_len (fun j hj => by rw [kList, List.getElem?_map, List.getElem?_range hj]; rfl) (by omega),
    spl_rng (m := 8) (g := sF h0) hList_len (fun j hj => by rw [hList, List.getElem?_map, List.getElem?_range hj]; rfl) (by omega)]
  refine rng_ext fun j hj => ?_
  unfold hashF
  by_cases h1 : j < 4
  · rw [if_neg (by omega), if_neg (by omega)]
    repeat (first | rfl | (split <;> try omega))
  · by_cases h2 : j < 68
    · rw [if_neg (by omega), if_pos (by omega)]
      simp only [show ¬ j = 0 by omega, show ¬ j = 1 by omega, show ¬ j = 2 by omega, show ¬ j = 3 by omega, h2, if_true, if_false]
    · by_cases h3 : j < 76
      · rw [if_pos (by omega)]
        simp only [show ¬ j = 0 by omega, show ¬ j = 1 by omega, show ¬ j = 2 by omega, show ¬ j = 3 by omega, h2, h3, if_true, if_false]
      · rw [if_neg (by omega), if_neg (by omega)]
        simp only [show ¬ j = 0 by omega, show ¬ j = 1 by omega, show ¬ j = 2 by omega, show ¬ j = 3 by omega, h2, h3, if_false]

set_option maxRecDepth 100000 in
set_option maxHeartbeats 1000000 in
theorem ready1_any (g : Nat) (pl : Addr) (hpg : pl.block ≠ g) (cs : Array Value) (hcs : cs.size = 142) (w : World) (hB : Blk w g 277 cs) (hp : w.cell? pl = some (.pointer (some ⟨g, 0, none⟩))) :
    Calls Tryz.prog 228 #[.pointer (some pl)] w fun e w' => e = .returned (.tuple #[]) ∧ Blk w' g 277 (spl (spl cs 4 kList) 68 hList) ∧ w.grownBy w' (some g) := by
  have hpl := World.block_lt_of_cell? _ _ hp
  have hgl := hB.lt
  obtain ⟨kl, ekl⟩ : ∃ kl, kl = kList := ⟨_, rfl⟩
  obtain ⟨hl, ehl⟩ : ∃ hl, hl = hList := ⟨_, rfl⟩
  have hr : ∀ W, Calls Tryz.prog 229 #[] W fun e w' => e = .returned (.agg kl.toArray) ∧ Below W.heap.size W w' := by subst ekl; exact fun W => roots_any W
  have hs : ∀ W, Calls Tryz.prog 230 #[] W fun e w' => e = .returned (.agg hl.toArray) ∧ Below W.heap.size W w' := by subst ehl; exact fun W => start_any W
  have HR := Lib.hid hr
  have HS := Lib.hid hs
  clear hr hs
  have hkl : kl.length = 64 := by rw [ekl]; exact kList_len
  have hhl : hl.length = 8 := by rw [ehl]; exact hList_len
  have hk1 : ∀ v ∈ kl, v.oneCell' = true := by rw [ekl]; exact kList_one
  have hh1 : ∀ v ∈ hl, v.oneCell' = true := by rw [ehl]; exact hList_one
  have hi64 : (Tryz.prog.info? 273).map (·.size) = some 64 := rfl
  have hst2 : ∀ W : World, W.there g 68 8 → (storeCells ⟨g, 68, none⟩ hl 0).run Tryz.prog W = .ok () (W.setCells g 68 hl) := fun W hW =>
    run_storeCells_cells (P := Tryz.prog) g 68 hl 0 W (fun j hj => (hW j (by omega)).1) (fun j hj => (hW j (by omega)).2) hh1
  have HST := Lib.hid hst2
  clear hst2
  rw [← ekl, ← ehl]
  have HKL := Lib.hid (And.intro hkl hhl)
  clear ekl ehl hh1
  have hS : ∀ W : World, Below w.heap.size w W → W.cell? pl = some (.pointer (some ⟨g, 0, none⟩)) ∧ W.there g 4 64 ∧ W.there g 68 8 := fun W hb =>
    ⟨(hb.cell hpl).trans hp, (hB.below hb hgl).there 4 64 (by omega), (hB.below hb hgl).there 68 8 (by omega)⟩
  have hS2 : ∀ W1 W2 : World, Below w.drew.heap.size w.drew W1 → Below W1.heap.size W1 W2 → W2.cell? pl = some (.pointer (some ⟨g, 0, none⟩)) ∧ W2.there g 4 64 ∧ W2.there g 68 8 := fun W1 W2 h1 h2 =>
    hS W2 (((Below.refl _ w).drew.trans h1).trans (h2.mono h1.size))
  have hS3 : ∀ (W : World) (o : Nat) (vs : List Value), (W.cell? pl = some (.pointer (some ⟨g, 0, none⟩)) ∧ W.there g 4 64 ∧ W.there g 68 8) → (W.setCells g o vs).cell? pl = some (.pointer (some ⟨g, 0, none⟩)) ∧ (W.setCells g o vs).there g 4 64 ∧ (W.setCells g o vs).there g 68 8 := fun W o vs h =>
    ⟨(World.cell?_setCells_out g _ _ _ _ (fun e => absurd e hpg)).trans h.1, World.there_setCells h.2.1 g _ _, World.there_setCells h.2.2 g _ _⟩
  have hS0 := hS w.drew (Below.refl _ w).drew
  have H1 := Lib.hid hS
  have H2 := Lib.hid hS2
  have H3 := Lib.hid hS3
  have H0 := Lib.hid hS0
  have HC := Lib.hid hcs
  clear hcs hS hS2 hS3 hS0
  go_enter Tryz.func228, Tryz.ntmps228
  go_wp2
  go_region_held3 (fun w' => w'.cell? pl = some (.pointer (some ⟨g, 0, none⟩)) ∧ w'.there g 4 64 ∧ w'.there g 68 8)
    (first
      | exact H0.out
      | (exact H1.out _ ((Below.refl _ w).drew.trans hb1))
      | (exact H2.out _ _ hb1 hb2)
      | (exact H3.out _ _ _ (H2.out _ _ hb1 hb2))
      | (exact H3.out _ _ _ (H3.out _ _ _ (H2.out _ _ hb1 hb2))))
    (first
      | (go_at_call 229; refine (HR.out _).mono ?_; rintro _ w1 ⟨rfl, hb1⟩)
      | (go_at_call 230; refine (HS.out _).mono ?_; rintro _ w2 ⟨rfl, hb2⟩; have hst3 := HST.out (World.setCells w2 g 4 kl) (World.there_setCells (H2.out _ _ hb1 hb2).2.2 g _ _)))
  go_end0
  obtain ⟨h1, h2⟩ := HKL.out
  have hB2 := (hB.drew.below hb1 hgl).below hb2 (Nat.lt_of_lt_of_le hgl hb1.size)
  have hb3 := ((Below.refl w.heap.size w).drew.trans hb1).trans (hb2.mono hb1.size)
  have hB3 := hB2.setCells 4 kl (by rw [h1, HC.out]; omega)
  have hB4 := hB3.1.setCells 68 hl (by rw [h2, spl_size (by rw [h1, HC.out]; omega), HC.out]; omega)
  exact ⟨rfl, hB4.1, (only_of_below hb3 (some g)).trans (hB3.2.trans hB4.2).grown⟩

set_option maxRecDepth 100000 in
set_option maxHeartbeats 1600000 in
/-- doSlow, not yet done, the lock free -/
theorem slow_any (g : Nat) (pl : Addr) (hpg : pl.block ≠ g) (k s b : Nat → Value) (x y : Int) (w : World) (hB : Blk w g 277 (hashCells 0 0 k s b x y)) (hp : w.cell? pl = some (.pointer (some ⟨g, 0, none⟩))) :
    Calls Tryz.prog 191 #[.pointer (some ⟨g, 1, none⟩), .func (.func 228) #[] #[.pointer (some pl)]] w fun e w' => e = .returned (.tuple #[]) ∧ Blk w' g 277 (hashCells 1 0 kF (sF h0) b x y) ∧ w.grownBy w' (some g) := by
  have c1 : w.cell? ⟨g, 1, none⟩ = some (.int .u32 0) := (hB.cell 1).trans (hash_at _ _ _ _ _ _ _ 1 (by omega))
  have c2 : w.cell? ⟨g, 2, none⟩ = some (.int .i32 0) := (hB.cell 2).trans (hash_at _ _ _ _ _ _ _ 2 (by omega))
  have f2 := hB.frozen 2
  have hB1 := hB.set_ 2 (.int .i32 1)
  rw [hash_set2] at hB1
  have hT1 := Turned.setCell w ⟨g, 2, none⟩ (.int .i32 1)
  have hp1 : (w.setCell ⟨g, 2, none⟩ (.int .i32 1)).cell? pl = some (.pointer (some ⟨g, 0, none⟩)) := (hT1.cell hpg).trans hp
  have c11 : (w.setCell ⟨g, 2, none⟩ (.int .i32 1)).cell? ⟨g, 1, none⟩ = some (.int .u32 0) := (hB1.cell 1).trans (hash_at _ _ _ _ _ _ _ 1 (by omega))
  have hl := run_call_load (P := Tryz.prog) Tryz.func208 (by kernel_rfl) (by kernel_rfl) (by kernel_rfl) .u32 (by kernel_rfl) c11
  have hnot : ∀ (x : Bool) (w : World), (Op.unary .not (.bool x)).run Tryz.prog w = .ok (.bool (!x)) w := fun _ _ => rfl
  have HB1 := Lib.hid hB1
  have HT1 := Lib.hid hT1
  have HP1 := Lib.hid hp1
  clear hB1 hT1 hp1 hB
  go_enter_defers Tryz.func191, Tryz.ntmps191
  go_wp2_with (first | (go_at_call 209; refine (lock_free ⟨g, 2, none⟩ _ c2 f2).mono ?_; rintro e w' ⟨rfl, rfl⟩) | (go_at_call 190; go_in))
  refine (ready1_any g pl hpg _ (hash_size _ _ _ _ _ _ _) _ HB1.out HP1.out).mono ?_
  rintro e w1 ⟨rfl, hB2, hg2⟩
  rw [hash_ready] at hB2
  go_wp2
  have hB3 := hB2.drew.set_ 1 (.int .u32 1)
  rw [hash_set1] at hB3
  have hB4 := hB3.set_ 2 (.int .i32 0)
  rw [hash_set2] at hB4
  have hG : w.grownBy ((w1.drew.setCell ⟨g, 1, none⟩ (.int .u32 1)).setCell ⟨g, 2, none⟩ (.int .i32 0)) (some g) :=
    ((HT1.out.grown.trans (only_drew hg2)).trans (Turned.setCell _ ⟨g, 1, none⟩ _).grown).trans (Turned.setCell _ ⟨g, 2, none⟩ _).grown
  refine leaves_cons (f := 211) (args := #[.pointer (some ⟨g, 1, none⟩), .bool true]) (by simp) (by simp [go_sem]) ?_
  refine (store_deferred ⟨g, 1, none⟩ (.int .u32 0) .returning _ ((hB2.cell 1).trans (hash_at _ _ _ _ _ _ _ 1 (by omega))) (hB2.frozen 1)).mono ?_
  rintro e u' w'' ⟨rfl, rfl, rfl⟩
  refine leaves_cons (f := 210) (args := #[.pointer (some ⟨g, 2, none⟩)]) (by simp [settle]) (by simp [go_sem]) ?_
  refine (unlock_deferred ⟨g, 2, none⟩ _ _ ((hB3.cell 2).trans (hash_at _ _ _ _ _ _ _ 2 (by omega))) (hB3.frozen 2)).mono ?_
  rintro e u' w'' ⟨rfl, rfl, rfl⟩
  simp only [Leaves, settle]
  exact ⟨_, by simp [results, Tryz.results191], rfl, hB4, hG⟩

set_option maxRecDepth 100000 in
set_option maxHeartbeats 1600000 in
theorem do_first (g : Nat) (pl : Addr) (hpg : pl.block ≠ g) (k s b : Nat → Value) (x y : Int) (w : World) (hB : Blk w g 277 (hashCells 0 0 k s b x y)) (hp : w.cell? pl = some (.pointer (some ⟨g, 0, none⟩))) :
    Calls Tryz.prog 173 #[.pointer (some ⟨g, 1, none⟩), .func (.func 228) #[] #[.pointer (some pl)]] w fun e w' => e = .returned (.tuple #[]) ∧ Blk w' g 277 (hashCells 1 0 kF (sF h0) b x y) ∧ w.grownBy w' (some g) := by
  have c1 : w.cell? ⟨g, 1, none⟩ = some (.int .u32 0) := (hB.cell 1).trans (hash_at _ _ _ _ _ _ _ 1 (by omega))
  have hl := run_call_load (P := Tryz.prog) Tryz.func208 (by kernel_rfl) (by kernel_rfl) (by kernel_rfl) .u32 (by kernel_rfl) c1
  have hnot : ∀ (x : Bool) (w : World), (Op.unary .not (.bool x)).run Tryz.prog w = .ok (.bool (!x)) w := fun _ _ => rfl
  have HB := Lib.hid hB
  have HP := Lib.hid hp
  clear hB hp
  go_enter Tryz.func173, Tryz.ntmps173
  go_wp2_with (first | (go_at_call 191; refine (slow_any g pl hpg k s b x y _ HB.out HP.out).mono ?_; rintro e w1 ⟨rfl, hB2, hg2⟩) | (go_at_call 190; go_in))
  go_end0
  exact ⟨rfl, hB2, hg2⟩

theorem do_done (a : Addr) (fv : Value) (w : World) (h0 : w.cell? a = some (.int .u32 1)) :
    Calls Tryz.prog 173 #[.pointer (some a), fv] w fun e w' => e = .returned (.tuple #[]) ∧ w' = w := by
  have hl := run_call_load (P := Tryz.prog) Tryz.func208 (by kernel_rfl) (by kernel_rfl) (by kernel_rfl) .u32 (by kernel_rfl) h0
  have hnot : ∀ (x : Bool) (w : World), (Op.unary .not (.bool x)).run Tryz.prog w = .ok (.bool (!x)) w := fun _ _ => rfl
  go_enter Tryz.func173, Tryz.ntmps173
  go_wp2
  go_end0
  exact ⟨rfl, rfl⟩

/-- a hash that took bytes, whose k is made -/
def HashDone (w : World) (g : Nat) (l : List UInt8) : Prop :=
  ∃ b : Nat → UInt8, Blk w g 277 (hashCells 1 0 kF (sF (acc l).1) (fun j => vb (b j)) ((acc l).2.length : Nat) (l.length : Nat)) ∧ ∀ j, j < (acc l).2.length → b j = (acc l).2.getD j 0
/-- a hash that took bytes -/
def HashAt (w : World) (g : Nat) (l : List UInt8) : Prop :=
  HashDone w g l ∨ (l = [] ∧ Blk w g 277 (hashCells 0 0 z32 z32 z8 0 0))

theorem HashDone.keep {w w' : World} {g : Nat} {l : List UInt8} (h : HashDone w g l) (hb : w'.heap[g]? = w.heap[g]?) : HashDone w' g l := by
  obtain ⟨b, h1, h2⟩ := h
  exact ⟨b, hb.trans h1, h2⟩
theorem HashAt.keep {w w' : World} {g : Nat} {l : List UInt8} (h : HashAt w g l) (hb : w'.heap[g]? = w.heap[g]?) : HashAt w' g l := by
  rcases h with h | ⟨h1, h2⟩
  · exact .inl (h.keep hb)
  · exact .inr ⟨h1, hb.trans h2⟩
theorem HashAt.lt {w : World} {g : Nat} {l : List UInt8} (h : HashAt w g l) : g < w.heap.size := by
  rcases h with ⟨b, h1, _⟩ | ⟨_, h1⟩ <;> exact h1.lt

set_option maxRecDepth 100000 in
set_option maxHeartbeats 1600000 in
theorem ready_any (g : Nat) (l : List UInt8) (w : World) (h : HashAt w g l) :
    Calls Tryz.prog 218 #[.pointer (some ⟨g, 0, none⟩)] w fun e w' => e = .returned (.tuple #[]) ∧ HashDone w' g l ∧ w.grownBy w' (some g) := by
  have hgl := h.lt
  have hmf : ∀ (fn : Fn) (first cap : Array Value) (w : World), (Instr.makeFunc fn first cap).run Tryz.prog w = .ok (.func fn first cap) w := fun _ _ _ _ => rfl
  have hp : (w.alloc (.cells #[.pointer (some ⟨g, 0, none⟩)] 260)).cell? ⟨w.heap.size, 0, none⟩ = some (.pointer (some ⟨g, 0, none⟩)) := by simp
  rcases h with ⟨b, h1, h2⟩ | ⟨rfl, h1⟩
  · have hB := h1.alloc (.cells #[.pointer (some ⟨g, 0, none⟩)] 260)
    have c1 := (hB.cell 1).trans (hash_at _ _ _ _ _ _ _ 1 (by omega))
    have HD := Lib.hid (do_done ⟨g, 1, none⟩ (.func (.func 228) #[] #[.pointer (some ⟨w.heap.size, 0, none⟩)]) _ c1)
    have HB := Lib.hid hB
    clear hB h1 c1
    go_enter Tryz.func218, Tryz.ntmps218
    go_wp2_with (go_at_call 173; refine HD.out.mono ?_; rintro e w1 ⟨rfl, rfl⟩)
    go_end0
    exact ⟨rfl, ⟨b, HB.out, h2⟩, only_alloc (World.grownBy.refl w _) _⟩
  · have hB := h1.alloc (.cells #[.pointer (some ⟨g, 0, none⟩)] 260)
    have HD := Lib.hid (do_first g ⟨w.heap.size, 0, none⟩ (by simp; omega) z32 z32 z8 0 0 _ hB hp)
    clear hB h1
    go_enter Tryz.func218, Tryz.ntmps218
    go_wp2_with (go_at_call 173; refine HD.out.mono ?_; rintro e w1 ⟨rfl, hB2, hg2⟩)
    go_end0
    exact ⟨rfl, ⟨fun _ => 0, hB2, fun j hj => by simp [acc, feed] at hj⟩, (only_alloc (World.grownBy.refl w _) _).trans hg2⟩

end Go.Proofs.YtcpngeiahgoacaaGreat
