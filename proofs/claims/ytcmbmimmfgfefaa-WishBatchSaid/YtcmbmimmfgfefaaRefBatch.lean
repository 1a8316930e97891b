/-
  Contract of bastideref11.Batch.
-/
import Derived.Test.YtcmbmimmfgfefaaBatch
import Derived.Test.YtcmbmimmfgfefaaRefBytes
namespace Go.Proofs.Ytcmbmimmfgfefaa
set_option linter.unusedVariables false
open Go.RowKit

set_option maxRecDepth 100000 in
set_option maxHeartbeats 2000000 in
theorem refBatch_any (A : Option Addr) (n c : Nat) (l : List Wish) (w : World) (B : Nat) (h : WishesIn w B A n l) (hB : B ≤ w.heap.size) (hn : n ≤ 2000000000000) :
    Calls Try.prog 15 #[.slice A n c] w fun e w' => ∃ v, e = .returned (.tuple #[v, .int .i64 ((batch l).2 : Int)]) ∧ OwnB w' w.heap.size v (batch l).1 ∧ Below w.heap.size w w' := by
  have hln := h.1
  have H := Lib.hid h
  have HLN := Lib.hid hln
  obtain ⟨bt, hbt⟩ : ∃ bt, bt = batch l := ⟨_, rfl⟩
  rw [← hbt]
  have HBT := Lib.hid hbt
  clear h hln hbt
  obtain ⟨i0, hi0, hz0, hz1, hz2⟩ := info_parts u8_info
  by_cases h4 : 4 < n
  · have hb : bt = ([], 5) := by rw [HBT.out]; unfold batch; rw [if_pos (by rw [HLN.out]; exact h4)]
    subst hb
    go_enter Try.func15, Try.ntmps15
    go_wp2_with fail
    go_ret2
    exact ⟨_, rfl, OwnB.nil _ _, Below.refl _ _⟩
  · have HNM := Lib.hid (refWNum_any n (by unfold maxN; omega) w)
    have hbt2 : bt = if l.all mayB = true then (batchOf l, 0) else ([], 2) := by rw [HBT.out]; unfold batch; rw [if_neg (by rw [HLN.out]; exact h4)]
    have HB2 := Lib.hid hbt2
    clear hbt2
    go_enter Try.func15, Try.ntmps15
    go_wp2_with fail
    refine HNM.out.mono ?_
    rintro _ w2 ⟨v, rfl, ho, hb⟩
    have HBW := Lib.hid hb
    have HO := Lib.hid ho
    clear ho hb
    go_wp2_with fail
    go_loopw [4, 5] (fun ov iv wr => ∃ i : Nat, i ≤ n ∧ iv = .int .i64 i ∧ OwnB wr w.heap.size ov (numB n ++ (l.take i).flatMap fun x => strB (wishB x)) ∧ Below w.heap.size w wr ∧ (∀ x, x ∈ l.take i → mayB x = true)) (fun _ iv _ => n - (intOf iv).toNat)
    case atStart => exact ⟨0, by omega, rfl, by simpa using HO.out, HBW.out, fun x hx => by simp at hx⟩
    case round =>
      obtain ⟨i, hi, rfl, hov, hbel, hall⟩ := hrel
      have HOV := Lib.hid hov
      have HB := Lib.hid hbel
      have HALL := Lib.hid hall
      have hsz := hbel.size
      clear hov hbel hall
      by_cases hin : i < n
      · obtain ⟨ad, hA, hadb, hcell⟩ := H.out.2 (by omega)
        subst hA
        have hil : i < l.length := by have := HLN.out; omega
        obtain ⟨A1, n1, c1, A2, n2, c2, hcs, hwi⟩ := hcell i l[i] (List.getElem?_eq_getElem hil)
        have HCS := Lib.hid (fun (j : Nat) (v : Value) hv => (HB.out.cell (show (ad.add (10 * i + j)).block < w.heap.size by rw [block_of_add]; omega)).trans (hcs j v hv))
        have HWI := Lib.hid (refBytes_any l[i] A1 n1 c1 A2 n2 c2 wr B (hwi.below (HB.out.mono hB)) (by omega))
        have htk : l.take (i + 1) = l.take i ++ [l[i]] := List.take_succ_eq_append_getElem hil
        have hmem : l[i] ∈ l := List.getElem_mem hil
        generalize l[i] = x at HCS HWI htk hmem
        have HTK := Lib.hid htk
        have HMEM := Lib.hid hmem
        clear hcell hcs hwi htk hmem
        go_wp2_with (refine wpList_load_cells (o := ⟨some 24, _, _, _, _, _⟩) rfl 26 (.tmp 23) rfl (ad.add (i * 10)) 10 rfl (wCells x A1 n1 c1 A2 n2 c2) _ Try.underlying26 rfl rfl rfl (fun j v hv => by rw [add_of_add, Nat.mul_comm]; exact HCS.out j v hv) ?_)
        refine HWI.out.mono ?_
        rintro _ w4 ⟨bv, rfl, hob, hb4⟩
        have HB4 := Lib.hid (HB.out.trans (hb4.mono (by omega)))
        have HO4 := Lib.hid (HOV.out.below hb4)
        have hs4 := hb4.size
        obtain ⟨mb, hmb⟩ : ∃ mb, mb = mayB x := ⟨_, rfl⟩
        rw [← hmb] at hob ⊢
        have HMB := Lib.hid (fun (_ : Unit) => hmb)
        clear hb4 hmb
        cases mb with
        | false =>
          have hbad : bt = ([], 2) := by
            rw [HB2.out, if_neg]
            intro h
            have := List.all_eq_true.1 h x HMEM.out
            rw [← HMB.out ()] at this
            cases this
          have HBAD := Lib.hid hbad
          clear hbad hob
          go_wp2_with fail
          go_ret2
          exact ⟨_, by rw [HBAD.out]; rfl, by rw [HBAD.out]; exact OwnB.nil _ _, HB4.out⟩
        | true =>
          have hwl := wishB_len (HMB.out ()).symm
          have hob' : OwnB w4 wr.heap.size bv (wishB x) := hob
          obtain ⟨Ab, cb, rfl, hbc, hbm, hbr, hbB⟩ := own_slice_b hob'
          obtain ⟨xb, hxb⟩ : ∃ xb, xb = wishB x := ⟨_, rfl⟩
          rw [← hxb] at hwl hbr hbc ⊢
          have HXB := Lib.hid hxb
          have HBR := Lib.hid hbr
          clear hob hob' hxb hbr
          go_wp2_with fail
          refine (refWStr_any Ab xb.length cb xb w4 _ HBR.out (Nat.le_refl _) (by omega)).mono ?_
          rintro _ w5 ⟨sv, rfl, hos, hb5⟩
          have HB5 := Lib.hid (HB4.out.trans (hb5.mono (by omega)))
          have HO5 := Lib.hid (HO4.out.below hb5)
          have hs5 := hb5.size
          obtain ⟨As, cs, rfl, hsc, hsm, hsr, hsB⟩ := own_slice_b hos
          have HWN := Lib.hid HO5.out.row
          have HSR := Lib.hid hsr
          have hsl : (strB xb).length ≤ 300 := by
            have := (numB_len (n := xb.length) (by unfold maxN; omega)).2
            unfold strB
            rw [List.length_append]
            omega
          have hol : (numB n ++ (l.take i).flatMap fun x => strB (wishB x)).length ≤ 8 + i * 300 := outs_len HALL.out (by omega) (by rw [List.length_take]; omega)
          obtain ⟨ob, hobe⟩ : ∃ ob, ob = (numB n ++ (l.take i).flatMap fun x => strB (wishB x)) := ⟨_, rfl⟩
          obtain ⟨sb, hsbe⟩ : ∃ sb, sb = strB xb := ⟨_, rfl⟩
          rw [← hobe] at hol HWN
          rw [← hsbe] at hsl HSR hsc ⊢
          have hnext : (numB n ++ (l.take (i + 1)).flatMap fun x => strB (wishB x)) = ob ++ sb := by
            rw [HTK.out, List.flatMap_append, hobe, hsbe, HXB.out, List.append_assoc]
            simp only [List.flatMap_cons, List.flatMap_nil, List.append_nil]
          have HNX := Lib.hid hnext
          have hge := fun b (hb : (_ : Value).ownBlock = some b) => HO5.out.ge hb
          have HGE := Lib.hid hge
          clear hos hb5 hsr hobe hsbe hnext hge
          go_wp2_with (at_builtin; go_must (refine wpList_append_any _ rfl (.tmp 31) (.tmp 33) 22 rfl w.heap.size 5 i0 _ 1 1 Try.underlying22 hi0 hz0 hz1 hz2 rfl (by omega) _ _ _ rfl HWN.out w5.heap.size As sb.length cs (sb.map vb) rfl HSR.out ?c1 ?c2 ?c3 ?c4 ?_))
          case c1 => intro u hu; obtain ⟨y, _, rfl⟩ := List.mem_map.1 hu; rfl
          case c2 => unfold maxLen; omega
          case c3 => omega
          case c4 => omega
          intro v6 w6 hown6 hg6 hor6
          have HB6 := Lib.hid (grown_below HB5.out (by omega) hg6 (fun b hb => HGE.out b hb))
          have HO6 := Lib.hid (show OwnB w6 w.heap.size v6 (numB n ++ (l.take (i + 1)).flatMap fun x => strB (wishB x)) by
            unfold OwnB
            rw [HNX.out, List.length_append, List.map_append]
            exact hown6)
          have hall' : ∀ y, y ∈ l.take (i + 1) → mayB y = true := fun y hy => by
            rw [HTK.out] at hy
            rcases List.mem_append.1 hy with h | h
            · exact HALL.out y h
            · rw [List.mem_singleton] at h; subst h; exact (HMB.out ()).symm
          have HALL' := Lib.hid hall'
          clear hown6 hg6 hor6 hall'
          go_wp2_with fail
          go_roundw
          case rel => exact ⟨i + 1, by omega, by go_num, HO6.out, HB6.out, HALL'.out⟩
          case measure => simp [intOf]; omega
      · obtain rfl : i = n := by omega
        have hgood : bt = (batchOf l, 0) := by
          rw [HB2.out, if_pos]
          refine List.all_eq_true.2 fun x hx => HALL.out x ?_
          rw [List.take_of_length_le (by have := HLN.out; omega)]
          exact hx
        have HG := Lib.hid hgood
        clear hgood
        go_wp2_with fail
        go_ret2
        refine ⟨_, by rw [HG.out]; rfl, ?_, HB.out⟩
        rw [HG.out]
        have := HOV.out
        rw [List.take_of_length_le (by have := HLN.out; omega)] at this
        unfold batchOf
        rw [HLN.out]
        exact this

end Go.Proofs.Ytcmbmimmfgfefaa
