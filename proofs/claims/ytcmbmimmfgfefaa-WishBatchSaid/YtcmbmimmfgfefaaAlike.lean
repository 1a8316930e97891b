/-
  Contract of bastideref11.Alike.
-/
import Derived.Test.YtcmbmimmfgfefaaPSame
import Derived.Test.YtcmbmimmfgfefaaBatch
namespace Go.Proofs.Ytcmbmimmfgfefaa
set_option linter.unusedVariables false
open Go.RowKit
attribute [local irreducible] wpCalm

/-- a load of a struct, wherever it lies, in a region that is calm -/
theorem exec_load_cells {P : Program} {o : Oper} {a : Act} {w : World} (ty : TypeId) (x : Operand) (ho : o.op = .load ty x)
    (ad : Addr) (n : Nat) (hx : a.eval x = .pointer (some ad)) (vs : Array Value) (d : TypeDesc)
    (hu : P.underlying ty = some d) (hd : (match d with | .struct _ | .array _ _ => true | _ => false) = true) (hi : (P.info? ty).map (·.size) = some n)
    (hn : vs.size = n) (hv : ∀ (j : Nat) (v : Value), vs[j]? = some v → w.cell? (ad.add j) = some v) : (execOp a.eval o).run P w = .ok (.value (.agg vs)) w := by
  have hl : (loadCells ad vs.toList.length).run P w = .ok vs.toList.toArray w :=
    run_loadCells_list (P := P) w ad vs.toList (fun j v hj => hv j v (by simpa using hj))
  have hrun : (loadVar ty ad).run P w = .ok (.agg vs) w := by
    cases hq : P.info? ty with
    | none => simp [hq] at hi
    | some i =>
      have hs : i.size = n := by simpa [hq] using hi
      have hagg : (isAgg ty).run P w = .ok true w := by
        unfold isAgg
        rw [Sem.run_bind, run_underlying hu w]
        cases d <;> simp_all
      simp only [Array.length_toList, Array.toArray_toList, hn] at hl
      simp [loadVar, Sem.run_bind, hagg, sizeOf, typeInfo, hq, hs, hl]
  unfold execOp
  simp only [ho, hx, Instr.loadAt, Instr.sureAddr, Sem.run_bind, Sem.run_pure, Result.andThen_ok, hrun]

instance wishEq : DecidableEq Wish := fun x y => decidable_of_iff (sameW x y = true) (sameW_iff x y)
theorem take_next {α : Type} {l k : List α} {i : Nat} (h : l.take i = k.take i) (h1 : i < l.length) (h2 : i < k.length) (he : l[i] = k[i]) : l.take (i + 1) = k.take (i + 1) := by
  rw [List.take_succ_eq_append_getElem h1, List.take_succ_eq_append_getElem h2, h, he]

set_option maxRecDepth 100000 in
set_option maxHeartbeats 4000000 in
theorem alike_any (A D : Option Addr) (n c m d : Nat) (l k : List Wish) (w : World) (B : Nat) (hx : WishesIn w B A n l) (hy : WishesIn w B D m k) (hB : B ≤ w.heap.size) (hn : n ≤ 2000000000000) (hm : m ≤ 2000000000000) :
    Calls Try.prog 18 #[.slice A n c, .slice D m d] w fun e w' => e = .returned (.bool (decide (l = k))) ∧ Below w.heap.size w w' := by
  have hln := hx.1
  have hkm := hy.1
  have HX := Lib.hid hx
  have HY := Lib.hid hy
  clear hx hy
  by_cases hnm : n = m
  · subst hnm
    obtain ⟨q, hq⟩ : ∃ q, q = decide (l = k) := ⟨_, rfl⟩
    rw [← hq]
    have HQ := Lib.hid (fun (_ : Unit) => hq)
    have HLN := Lib.hid hln
    have HKM := Lib.hid hkm
    clear hq hln hkm
    go_enter Try.func18, Try.ntmps18
    go_wp2_with fail
    go_loopw [5] (fun iv wr => ∃ i : Nat, i ≤ n ∧ iv = .int .i64 i ∧ l.take i = k.take i ∧ Below w.heap.size w wr) (fun iv _ => n - (intOf iv).toNat)
    case atStart => exact ⟨0, by omega, rfl, rfl, Below.refl _ _⟩
    case round =>
      obtain ⟨i, hi, rfl, ht, hbel⟩ := hrel
      have HB := Lib.hid hbel
      have HT := Lib.hid ht
      have hsz := hbel.size
      clear ht hbel
      by_cases hin : i < n
      · obtain ⟨ad, hA, hadb, hcell⟩ := HX.out.2 (by omega)
        subst hA
        obtain ⟨ae, hE, haeb, hcell2⟩ := HY.out.2 (by omega)
        subst hE
        have hil : i < l.length := by have := HLN.out; omega
        have hik : i < k.length := by have := HKM.out; omega
        obtain ⟨A1, n1, c1, A2, n2, c2, hcs, hwi⟩ := hcell i l[i] (List.getElem?_eq_getElem hil)
        obtain ⟨D1, m1, d1, D2, m2, d2, hds, hwj⟩ := hcell2 i k[i] (List.getElem?_eq_getElem hik)
        have HN := Lib.hid (fun he => take_next HT.out hil hik he)
        have HNO := Lib.hid (show ¬ l[i] = k[i] → ¬ l = k from fun hne he => hne (by subst he; rfl))
        have HCS := Lib.hid (fun W (hb : Below wr.heap.size wr W) (j : Nat) (v : Value) hv => ((HB.out.trans (hb.mono hsz)).cell (show (ad.add (10 * i + j)).block < w.heap.size by rw [block_of_add]; omega)).trans (hcs j v hv))
        have HDS := Lib.hid (fun W (hb : Below wr.heap.size wr W) (j : Nat) (v : Value) hv => ((HB.out.trans (hb.mono hsz)).cell (show (ae.add (10 * i + j)).block < w.heap.size by rw [block_of_add]; omega)).trans (hds j v hv))
        have HSM := Lib.hid (fun W (hb : Below wr.heap.size wr W) => refSame_any l[i] k[i] A1 n1 c1 A2 n2 c2 D1 m1 d1 D2 m2 d2 W B (hwi.below ((HB.out.trans (hb.mono hsz)).mono hB)) (hwj.below ((HB.out.trans (hb.mono hsz)).mono hB)) (by have := hb.size; omega))
        clear hcell hcell2 hcs hds hwi hwj
        generalize l[i] = x at HCS HSM HN HNO
        generalize k[i] = y at HDS HSM HN HNO
        go_upto_region 6 with fail
        refine wp_region_calm0 9 27 (by kernel_rfl) (by kernel_rfl) (by kernel_rfl) (by simp) ?_
        simp only [List.take_succ_cons, List.take_zero, List.drop_succ_cons, List.drop_zero]
        refine wpCalm_value rfl rfl _ (fun W _ => rfl) ?_
        try simp only [Act.put, List.setIfInBounds_toArray, List.set_cons_zero, List.set_cons_succ]
        refine wpCalm_value rfl rfl _ (fun W _ => rfl) ?_
        try simp only [Act.put, List.setIfInBounds_toArray, List.set_cons_zero, List.set_cons_succ]
        refine wpCalm_value rfl rfl (.pointer (some (ad.add (i * 10)))) (fun W _ => by go_simp) ?_
        try simp only [Act.put, List.setIfInBounds_toArray, List.set_cons_zero, List.set_cons_succ]
        refine wpCalm_below rfl rfl (.agg (wCells x A1 n1 c1 A2 n2 c2)) (fun W hb => exec_load_cells 26 (.tmp 19) rfl (ad.add (i * 10)) 10 rfl _ _ Try.underlying26 rfl rfl rfl (fun j v hv => by rw [add_of_add, Nat.mul_comm]; exact HCS.out W hb j v hv)) ?_
        try simp only [Act.put, List.setIfInBounds_toArray, List.set_cons_zero, List.set_cons_succ]
        refine wpCalm_value rfl rfl _ (fun W _ => rfl) ?_
        try simp only [Act.put, List.setIfInBounds_toArray, List.set_cons_zero, List.set_cons_succ]
        refine wpCalm_value rfl rfl _ (fun W _ => rfl) ?_
        try simp only [Act.put, List.setIfInBounds_toArray, List.set_cons_zero, List.set_cons_succ]
        refine wpCalm_value rfl rfl (.pointer (some (ae.add (i * 10)))) (fun W _ => by go_simp) ?_
        try simp only [Act.put, List.setIfInBounds_toArray, List.set_cons_zero, List.set_cons_succ]
        refine wpCalm_below rfl rfl (.agg (wCells y D1 m1 d1 D2 m2 d2)) (fun W hb => exec_load_cells 26 (.tmp 23) rfl (ae.add (i * 10)) 10 rfl _ _ Try.underlying26 rfl rfl rfl (fun j v hv => by rw [add_of_add, Nat.mul_comm]; exact HDS.out W hb j v hv)) ?_
        try simp only [Act.put, List.setIfInBounds_toArray, List.set_cons_zero, List.set_cons_succ]
        refine wpCalm_call rfl rfl 10 #[.agg (wCells x A1 n1 c1 A2 n2 c2), .agg (wCells y D1 m1 d1 D2 m2 d2)] (fun W => by go_simp) (.bool (sameW x y)) (fun W hb => HSM.out W hb) ?_
        try simp only [Act.put, List.setIfInBounds_toArray, List.set_cons_zero, List.set_cons_succ]
        refine wpCalm_nil ?_
        intro w2 hb2
        have HB2 := Lib.hid (HB.out.trans (hb2.mono hsz))
        clear hb2 HCS HDS HSM
        cases hs : sameW x y with
        | true =>
          have hxy := (sameW_iff x y).1 hs
          have HT2 := Lib.hid (HN.out hxy)
          clear hs hxy HN HNO
          go_wp2_with fail
          go_roundw
          case rel => exact ⟨i + 1, by omega, by go_num, HT2.out, HB2.out⟩
          case measure => simp [intOf]; omega
        | false =>
          have hxy : ¬ x = y := fun he => by rw [(sameW_iff x y).2 he] at hs; cases hs
          have hno := HNO.out hxy
          have hqf : q = false := by rw [HQ.out ()]; exact decide_eq_false hno
          subst hqf
          clear hs hxy HN HNO hno
          go_wp2_with fail
          go_ret
          exact ⟨rfl, HB2.out⟩
      · obtain rfl : i = n := by omega
        have hqt : q = true := by
          rw [HQ.out ()]
          refine decide_eq_true ?_
          have := HT.out
          rwa [List.take_of_length_le (by have := HLN.out; omega), List.take_of_length_le (by have := HKM.out; omega)] at this
        subst hqt
        go_wp2_with fail
        go_ret
        exact ⟨rfl, HB.out⟩
  · have hne : ¬ l = k := fun he => hnm (by rw [← hln, ← hkm, he])
    rw [decide_eq_false hne]
    clear hne hln hkm
    go_enter Try.func18, Try.ntmps18
    go_wp2_with fail
    go_ret
    exact ⟨rfl, Below.refl _ _⟩

end Go.Proofs.Ytcmbmimmfgfefaa
