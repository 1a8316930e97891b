/-
  Contract of wish.Batch.
-/
import Derived.Test.YtcmbmimmfgfefaaGreatWishMath
import Derived.Deep.DeepCutAuto
namespace Go.Proofs.YtcmbmimmfgfefaaGreat
set_option linter.unusedVariables false
open Go.RowKit

/-- wishes, one behind the other, that lie below B -/
def WishesIn (w : World) (B : Nat) (A : Option Addr) (n : Nat) (l : List Wish) : Prop :=
  l.length = n ∧ (0 < n → ∃ ad, A = some ad ∧ ad.block < B ∧ ∀ (k : Nat) (x : Wish), l[k]? = some x → ∃ A1 n1 c1 A2 n2 c2, (∀ (j : Nat) (v : Value), (wCells x A1 n1 c1 A2 n2 c2)[j]? = some v → w.cell? (ad.add (10 * k + j)) = some v) ∧ WishIn w B x A1 n1 c1 A2 n2 c2)
theorem WishesIn.below {w w' : World} {B n : Nat} {A : Option Addr} {l : List Wish} (h : WishesIn w B A n l) (hb : Below B w w') : WishesIn w' B A n l :=
  ⟨h.1, fun h0 => by
    obtain ⟨ad, hA, hB, hc⟩ := h.2 h0
    exact ⟨ad, hA, hB, fun k x hx => by
      obtain ⟨A1, n1, c1, A2, n2, c2, h1, h2⟩ := hc k x hx
      exact ⟨A1, n1, c1, A2, n2, c2, fun j v hv => (hb.cell (by rw [block_of_add]; exact hB)).trans (h1 j v hv), h2.below hb⟩⟩⟩
theorem WishesIn.more {w : World} {B B' n : Nat} {A : Option Addr} {l : List Wish} (h : WishesIn w B A n l) (hB : B ≤ B') : WishesIn w B' A n l :=
  ⟨h.1, fun h0 => by
    obtain ⟨ad, hA, hb, hc⟩ := h.2 h0
    exact ⟨ad, hA, by omega, fun k x hx => by
      obtain ⟨A1, n1, c1, A2, n2, c2, h1, h2⟩ := hc k x hx
      exact ⟨A1, n1, c1, A2, n2, c2, h1, h2.more hB⟩⟩⟩

/-- a load of a struct, wherever it lies -/
theorem wpList_load_cells {P : Program} {ops : Array Oper} {rest : List Oper} {o : Oper} {a : Act} {w : World} {Q : Exit → Act → World → Prop} (hgd : o.guard = none) (ty : TypeId) (x : Operand) (ho : o.op = .load ty x)
    (ad : Addr) (n : Nat) (hx : a.eval x = .pointer (some ad)) (vs : Array Value) (d : TypeDesc)
    (hu : P.underlying ty = some d) (hd : (match d with | .struct _ | .array _ _ => true | _ => false) = true) (hi : (P.info? ty).map (·.size) = some n)
    (hn : vs.size = n) (hv : ∀ (j : Nat) (v : Value), vs[j]? = some v → w.cell? (ad.add j) = some v)
    (h : wpList P ops Q rest (a.put o.dst (.agg vs)) w) : wpList P ops Q (o :: rest) a w :=
  wpList_plain hgd fun _ hK => by
    have hl : (loadCells ad vs.toList.length).run P w = .ok vs.toList.toArray w :=
      run_loadCells_list (P := P) w ad vs.toList (fun j v hj => hv j v (by simpa using hj))
    have hrun : (loadVar ty ad).run P w = .ok (.agg vs) w := by
      cases hq : P.info? ty with
      | none => simp [hq] at hi
      | some i =>
        have hs : i.size = n := by simpa [hq] using hi
        have hagg : (isAgg ty).run P w = .ok true w := by
          unfold isAgg
          rw [Sem.run_bind, run_underlying hu w]
          cases d <;> simp_all
        simp only [Array.length_toList, Array.toArray_toList, hn] at hl
        simp [loadVar, Sem.run_bind, hagg, sizeOf, typeInfo, hq, hs, hl]
    unfold Oper.wp execOp
    simp only [ho, hx, Instr.loadAt, Instr.sureAddr, Sem.run_bind, Sem.run_pure, Result.andThen_ok, hrun]
    exact hK _ _ h

def batchOf (l : List Wish) : List UInt8 := numB l.length ++ l.flatMap fun x => strB (wishB x)
def batch (l : List Wish) : List UInt8 × Nat := if 4 < l.length then ([], 5) else if l.all mayB = true then (batchOf l, 0) else ([], 2)

theorem wishB_len {x : Wish} (h : mayB x = true) : (wishB x).length ≤ 200 := by
  obtain ⟨h6, h3, hn, hd, hl⟩ := may_nums h
  have e1 := numsI_len h6
  have e2 := numsI_len h3
  have e3 := numsI_len hn
  have e4 := (numB_len (n := x.data.length) (by unfold maxN; omega)).2
  unfold wishB strB
  simp only [List.length_append, List.length_cons, List.length_nil] at *
  omega

theorem outs_len {l : List Wish} {n k : Nat} (h : ∀ x, x ∈ l → mayB x = true) (hn : n ≤ 4) (hk : l.length ≤ k) : (numB n ++ l.flatMap fun x => strB (wishB x)).length ≤ 8 + k * 300 := by
  have h1 := (numB_len (n := n) (by unfold maxN; omega)).2
  rw [List.length_append]
  have h2 : (l.flatMap fun x => strB (wishB x)).length ≤ l.length * 300 := by
    clear hk
    induction l with
    | nil => simp
    | cons a t ih =>
      have h3 := wishB_len (h a (by simp))
      have h4 := (numB_len (n := (wishB a).length) (by unfold maxN; omega)).2
      have h5 := ih (fun x hx => h x (by simp [hx]))
      rw [List.flatMap_cons, List.length_append, List.length_cons]
      unfold strB at h5 ⊢
      rw [List.length_append]
      omega
  have : l.length * 300 ≤ k * 300 := Nat.mul_le_mul_right _ hk
  omega

set_option maxRecDepth 100000 in
set_option maxHeartbeats 2000000 in
theorem batch_any (A : Option Addr) (n c : Nat) (l : List Wish) (w : World) (B : Nat) (h : WishesIn w B A n l) (hB : B ≤ w.heap.size) (hn : n ≤ 2000000000000) :
    Calls Tryz.prog 19 #[.slice A n c] w fun e w' => ∃ v, e = .returned (.tuple #[v, .int .i64 ((batch l).2 : Int)]) ∧ OwnB w' w.heap.size v (batch l).1 ∧ Below w.heap.size w w' := by
  have hln := h.1
  have H := Lib.hid h
  have HLN := Lib.hid hln
  obtain ⟨bt, hbt⟩ : ∃ bt, bt = batch l := ⟨_, rfl⟩
  rw [← hbt]
  have HBT := Lib.hid hbt
  clear h hln hbt
  obtain ⟨i0, hi0, hz0, hz1, hz2⟩ := info_parts u8_info
  by_cases h4 : 4 < n
  · have hb : bt = ([], 5) := by rw [HBT.out]; unfold batch; rw [if_pos (by rw [HLN.out]; exact h4)]
    subst hb
    go_enter Tryz.func19, Tryz.ntmps19
    go_wp2_with fail
    go_ret2
    exact ⟨_, rfl, OwnB.nil _ _, Below.refl _ _⟩
  · have hX : Below w.heap.size w (w.alloc (.cells #[.int .i64 (n : Int)] 3)) := (Below.refl _ _).alloc (Nat.le_refl _) _
    have HNM := Lib.hid (numsI_any _ 1 1 [(n : Int)] _ _ (reads_cells w #[.int .i64 (n : Int)] 3) (by simp) (by omega) (fun z hz => by simp at hz; subst hz; unfold NumI; omega))
    have e0 : numsI [(n : Int)] = numB n := by simp [numsI]
    rw [e0] at HNM
    have HX := Lib.hid hX
    have hbt2 : bt = if l.all mayB = true then (batchOf l, 0) else ([], 2) := by rw [HBT.out]; unfold batch; rw [if_neg (by rw [HLN.out]; exact h4)]
    have HB2 := Lib.hid hbt2
    clear hX e0 hbt2
    go_enter Tryz.func19, Tryz.ntmps19
    go_wp2_with fail
    refine HNM.out.mono ?_
    rintro _ w2 ⟨v, rfl, ho, hb⟩
    have HBW := Lib.hid (HX.out.trans (hb.mono (by simp)))
    have HO := Lib.hid (ho.more (B' := w.heap.size) (by simp))
    clear ho hb
    go_wp2_with fail
    go_loopw [4, 19] (fun ov iv wr => ∃ i : Nat, i ≤ n ∧ iv = .int .i64 i ∧ OwnB wr w.heap.size ov (numB n ++ (l.take i).flatMap fun x => strB (wishB x)) ∧ Below w.heap.size w wr ∧ (∀ x, x ∈ l.take i → mayB x = true)) (fun _ iv _ => n - (intOf iv).toNat)
    case atStart => exact ⟨0, by omega, rfl, by simpa using HO.out, HBW.out, fun x hx => by simp at hx⟩
    case round =>
      obtain ⟨i, hi, rfl, hov, hbel, hall⟩ := hrel
      have HOV := Lib.hid hov
      have HB := Lib.hid hbel
      have HALL := Lib.hid hall
      have hsz := hbel.size
      clear hov hbel hall
      by_cases hin : i < n
      · obtain ⟨ad, hA, hadb, hcell⟩ := H.out.2 (by omega)
        subst hA
        have hil : i < l.length := by have := HLN.out; omega
        obtain ⟨A1, n1, c1, A2, n2, c2, hcs, hwi⟩ := hcell i l[i] (List.getElem?_eq_getElem hil)
        have HCS := Lib.hid (fun (j : Nat) (v : Value) hv => (HB.out.cell (show (ad.add (10 * i + j)).block < w.heap.size by rw [block_of_add]; omega)).trans (hcs j v hv))
        have HWI := Lib.hid (fun W (hb : Below wr.heap.size wr W) => bytes_any l[i] A1 n1 c1 A2 n2 c2 W B (hwi.below ((HB.out.trans (hb.mono hsz)).mono hB)) (by have := hb.size; omega))
        have htk : l.take (i + 1) = l.take i ++ [l[i]] := List.take_succ_eq_append_getElem hil
        have hmem : l[i] ∈ l := List.getElem_mem hil
        generalize l[i] = x at HCS HWI htk hmem
        have HTK := Lib.hid htk
        have HMEM := Lib.hid hmem
        clear hcell hcs hwi htk hmem
        go_upto_region 7 with (first
          | (refine wpList_load_cells rfl 25 (.tmp 21) rfl (ad.add (i * 10)) 10 rfl (wCells x A1 n1 c1 A2 n2 c2) _ Tryz.underlying25 rfl rfl rfl (fun j v hv => by rw [add_of_add, Nat.mul_comm]; exact HCS.out j v hv) ?_)
          | (refine wpList_store_part rfl 25 (.tmp 6) (.tmp 22) rfl wr.heap.size 0 (wCells x A1 n1 c1 A2 n2 c2) rfl rfl 25 (wCells zeroW none 0 0 none 0 0) (Blk.newAt rfl) (wCells_info _ _ _ _ _ _ _) (by simp [wCells]) (wCells_one _ _ _ _ _ _ _) ?_; intro w3 hT3 hD3; rw [spl_self _ _ (by simp [wCells])] at hD3))
        have hb3 : Below wr.heap.size wr w3 := hT3.below ((Below.refl _ _).alloc (Nat.le_refl _) _) (Nat.le_refl _)
        have HC3 := Lib.hid (HWI.out w3 hb3)
        have HO3 := Lib.hid (HOV.out.below hb3)
        have HB3 := Lib.hid (HB.out.trans (hb3.mono hsz))
        have HD3 := Lib.hid hD3
        have hs3 := hb3.size
        clear hT3 hD3 hb3
        go_wp2_with (refine wpList_load_part rfl 25 (.tmp 6) rfl wr.heap.size 0 10 rfl 25 _ (wCells x A1 n1 c1 A2 n2 c2) _ HD3.out Tryz.underlying25 rfl rfl rfl (fun _ _ => by rw [Nat.zero_add]) ?_)
        refine HC3.out.mono ?_
        rintro _ w4 ⟨bv, rfl, hob, hb4⟩
        have HB4 := Lib.hid (HB3.out.trans (hb4.mono (by omega)))
        have HO4 := Lib.hid (HO3.out.below hb4)
        have hs4 := hb4.size
        obtain ⟨mb, hmb⟩ : ∃ mb, mb = mayB x := ⟨_, rfl⟩
        rw [← hmb] at hob ⊢
        have HMB := Lib.hid (fun (_ : Unit) => hmb)
        clear hb4 hmb
        cases mb with
        | false =>
          have hbad : bt = ([], 2) := by
            rw [HB2.out, if_neg]
            intro h
            have := List.all_eq_true.1 h x HMEM.out
            rw [← HMB.out ()] at this
            cases this
          have HBAD := Lib.hid hbad
          clear hbad hob
          go_wp2_with fail
          go_ret2
          exact ⟨_, by rw [HBAD.out]; rfl, by rw [HBAD.out]; exact OwnB.nil _ _, HB4.out⟩
        | true =>
          have hwl := wishB_len (HMB.out ()).symm
          have hob' : OwnB w4 w3.heap.size bv (wishB x) := hob
          obtain ⟨Ab, cb, rfl, hbc, hbm, hbr, hbB⟩ := own_slice_b hob'
          obtain ⟨xb, hxb⟩ : ∃ xb, xb = wishB x := ⟨_, rfl⟩
          rw [← hxb] at hwl hbr hbc ⊢
          have HXB := Lib.hid hxb
          have HBR := Lib.hid hbr
          clear hob hob' hxb hbr
          go_wp2_with fail
          refine (str_any Ab xb.length cb xb w4 _ HBR.out (Nat.le_refl _) (by omega)).mono ?_
          rintro _ w5 ⟨sv, rfl, hos, hb5⟩
          have HB5 := Lib.hid (HB4.out.trans (hb5.mono (by omega)))
          have HO5 := Lib.hid (HO4.out.below hb5)
          have hs5 := hb5.size
          obtain ⟨As, cs, rfl, hsc, hsm, hsr, hsB⟩ := own_slice_b hos
          have HWN := Lib.hid HO5.out.row
          have HSR := Lib.hid hsr
          have hsl : (strB xb).length ≤ 300 := by
            have := (numB_len (n := xb.length) (by unfold maxN; omega)).2
            unfold strB
            rw [List.length_append]
            omega
          have hol : (numB n ++ (l.take i).flatMap fun x => strB (wishB x)).length ≤ 8 + i * 300 := outs_len HALL.out (by omega) (by rw [List.length_take]; omega)
          obtain ⟨ob, hobe⟩ : ∃ ob, ob = (numB n ++ (l.take i).flatMap fun x => strB (wishB x)) := ⟨_, rfl⟩
          obtain ⟨sb, hsbe⟩ : ∃ sb, sb = strB xb := ⟨_, rfl⟩
          rw [← hobe] at hol HWN
          rw [← hsbe] at hsl HSR hsc ⊢
          have hnext : (numB n ++ (l.take (i + 1)).flatMap fun x => strB (wishB x)) = ob ++ sb := by
            rw [HTK.out, List.flatMap_append, hobe, hsbe, HXB.out, List.append_assoc]
            simp only [List.flatMap_cons, List.flatMap_nil, List.append_nil]
          have HNX := Lib.hid hnext
          have hge := fun b (hb : (_ : Value).ownBlock = some b) => HO5.out.ge hb
          have HGE := Lib.hid hge
          clear hos hb5 hsr hobe hsbe hnext hge
          go_wp2_with (at_builtin; go_must (refine wpList_append_any _ rfl (.tmp 39) (.tmp 40) 22 rfl w.heap.size 5 i0 _ 1 1 Tryz.underlying22 hi0 hz0 hz1 hz2 rfl (by omega) _ _ _ rfl HWN.out w5.heap.size As sb.length cs (sb.map vb) rfl HSR.out ?c1 ?c2 ?c3 ?c4 ?_))
          case c1 => intro u hu; obtain ⟨y, _, rfl⟩ := List.mem_map.1 hu; rfl
          case c2 => unfold maxLen; omega
          case c3 => omega
          case c4 => omega
          intro v6 w6 hown6 hg6 hor6
          have HB6 := Lib.hid (grown_below HB5.out (by omega) hg6 (fun b hb => HGE.out b hb))
          have HO6 := Lib.hid (show OwnB w6 w.heap.size v6 (numB n ++ (l.take (i + 1)).flatMap fun x => strB (wishB x)) by
            unfold OwnB
            rw [HNX.out, List.length_append, List.map_append]
            exact hown6)
          have hall' : ∀ y, y ∈ l.take (i + 1) → mayB y = true := fun y hy => by
            rw [HTK.out] at hy
            rcases List.mem_append.1 hy with h | h
            · exact HALL.out y h
            · rw [List.mem_singleton] at h; subst h; exact (HMB.out ()).symm
          have HALL' := Lib.hid hall'
          clear hown6 hg6 hor6 hall'
          go_wp2_with fail
          go_roundw
          case rel => exact ⟨i + 1, by omega, by go_num, HO6.out, HB6.out, HALL'.out⟩
          case measure => simp [intOf]; omega
      · obtain rfl : i = n := by omega
        have hgood : bt = (batchOf l, 0) := by
          rw [HB2.out, if_pos]
          refine List.all_eq_true.2 fun x hx => HALL.out x ?_
          rw [List.take_of_length_le (by have := HLN.out; omega)]
          exact hx
        have HG := Lib.hid hgood
        clear hgood
        go_wp2_with fail
        go_ret2
        refine ⟨_, by rw [HG.out]; rfl, ?_, HB.out⟩
        rw [HG.out]
        have := HOV.out
        rw [List.take_of_length_le (by have := HLN.out; omega)] at this
        unfold batchOf
        rw [HLN.out]
        exact this

end Go.Proofs.YtcmbmimmfgfefaaGreat
