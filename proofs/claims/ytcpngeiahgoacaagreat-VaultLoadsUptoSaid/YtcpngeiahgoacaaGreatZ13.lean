/- Parts of the proof, in one text: VaultE, VaultG, VaultH, VaultJ, VaultK, EqInts, Same. -/
import Derived.Test.YtcpngeiahgoacaaGreatZ12
import Derived.Test.YtcpngeiahgoacaaGreatZ8
import Derived.Test.YtcpngeiahgoacaaGreatZ11
import Derived.Laws.StructEq
import Derived.Laws.IdiomStrings
import Derived.Laws.BytesArg

/- Contracts of a vault's elsewhere and old. -/
namespace Go.Proofs.YtcpngeiahgoacaaGreat
set_option linter.unusedVariables false
open Go.RowKit Go.Maps
attribute [local irreducible] wpList

/-- an answer's cells -/
def aC (err : Int) (A : Option Addr) (n c : Nat) (ep : Int) : Array Value := #[.int .i64 err, .slice A n c, .int .i64 ep, .slice none 0 0]
theorem aC_info (err : Int) (A : Option Addr) (n c : Nat) (ep : Int) : (Tryz.prog.info? 47).map (·.size) = some (aC err A n c ep).size := by kernel_rfl
theorem aC_one (err : Int) (A : Option Addr) (n c : Nat) (ep : Int) : (aC err A n c ep).all (·.oneCell') = true := by simp [aC, Value.oneCell']
theorem aC_spl (e e' : Int) (A A' : Option Addr) (n c n' c' : Nat) (p p' : Int) : spl (aC e A n c p) 0 (aC e' A' n' c' p').toList = aC e' A' n' c' p' := spl_self (aC e A n c p) (aC e' A' n' c' p') rfl
def ansC : Option Ans → Array Value
  | none => aC 0 none 0 0 0
  | some a => aC a.err none 0 0 a.epoch

set_option maxRecDepth 100000 in
set_option maxHeartbeats 2000000 in
theorem velse_any (w : World) (g : Nat) (t : Option Addr) (N : Nat → Prop) (m : VM) (S : VSl) (h : VDat w g t N m S) (e : Int) :
    Calls Tryz.prog 80 #[.pointer (some ⟨g, 0, none⟩), .int .i64 e] w fun r w' => r = .returned (.agg (ansC (elseV m e))) ∧ Below w.heap.size w w' := by
  have hep := h.ok.epoch
  have lg := h.blk.lt
  have hX := below_lit w (.cells (aC 0 none 0 0 0) 47)
  have hk : Blk (w.alloc (.cells (aC 0 none 0 0 0) 47)) w.heap.size 47 (aC 0 none 0 0 0) := Blk.newAt rfl
  have c2 := (h.below hX).cEpoch
  have c19 := (h.below hX).cShut
  have HX := Lib.hid hX
  have HK := Lib.hid hk
  have C2 := Lib.hid c2
  have C19 := Lib.hid c19
  have hZ : aC 0 none 0 0 0 = #[.int .i64 0, .slice none 0 0, .int .i64 0, .slice none 0 0] := rfl
  obtain ⟨gr, hgr⟩ : ∃ x, x = w.heap.size := ⟨_, rfl⟩
  obtain ⟨sl, hsl⟩ : ∃ x, x = m.shut.length := ⟨_, rfl⟩
  rw [← hsl] at C19
  have hE : ∀ D, D = ansC (elseV m e) → D = ansC (elseV m e) := fun _ h => h
  have HE := Lib.hid (show elseV m e = if e ≠ (m.epoch : Int) then some (errA 171 m.epoch) else if 0 < sl then some (errA 171 (m.epoch + 1)) else none from by rw [hsl]; rfl)
  clear h hX hk c2 c19 hsl
  go_enter Tryz.func80, Tryz.ntmps80
  go_upto_region 1 with fail
  rw [← hZ]
  generalize World.alloc w _ = w1 at HX HK C2 C19 ⊢
  rw [← hgr] at HK ⊢
  have hgw : w.heap.size ≤ gr := by omega
  have c2 := C2.out
  have c19 := C19.out
  clear hgr hZ
  by_cases h1 : e = (m.epoch : Int)
  --E1
  · by_cases h2 : 0 < sl
    · have h2I : (0 : Int) < (sl : Int) := by omega
      have hee : elseV m e = some (errA 171 (m.epoch + 1)) := by rw [HE.out, if_neg (fun h => h h1), if_pos h2]
      have HEE := Lib.hid hee
      clear hee
      go_wp2_with (refine wpList_store_part (o := ⟨none, _, _, _, _, _⟩) rfl 47 (.tmp 4) (.tmp 29) rfl gr 0 (aC 171 none 0 0 ((m.epoch : Int) + 1)) rfl rfl 47 _ HK.out (aC_info _ _ _ _ _) (by simp [aC]) (aC_one _ _ _ _ _) ?_; intro w5 hT5 hD5; rw [aC_spl] at hD5)
      refine bodyPost_ret (results_part rfl _ _ gr 4 47 _ _ rfl hD5 Tryz.underlying47 rfl rfl rfl) rfl ?_
      refine ⟨by rw [HEE.out]; rfl, ?_⟩
      exact hT5.below HX.out hgw
    · have h2I : ¬ (0 : Int) < (sl : Int) := by omega
      have hee : elseV m e = none := by rw [HE.out, if_neg (fun h => h h1), if_neg h2]
      have HEE := Lib.hid hee
      clear hee
      go_wp2_with (refine wpList_store_part (o := ⟨none, _, _, _, _, _⟩) rfl 47 (.tmp 4) (.tmp 30) rfl gr 0 (aC 0 none 0 0 0) rfl rfl 47 _ HK.out (aC_info _ _ _ _ _) (by simp [aC]) (aC_one _ _ _ _ _) ?_; intro w5 hT5 hD5; rw [aC_spl] at hD5)
      refine bodyPost_ret (results_part rfl _ _ gr 4 47 _ _ rfl hD5 Tryz.underlying47 rfl rfl rfl) rfl ?_
      refine ⟨by rw [HEE.out]; rfl, ?_⟩
      exact hT5.below HX.out hgw
  · have hee : elseV m e = some (errA 171 m.epoch) := by rw [HE.out, if_pos h1]
    have h1b : (e != (m.epoch : Int)) = true := by simpa using h1
    have HEE := Lib.hid hee
    clear hee
    go_wp2_with (refine wpList_store_part (o := ⟨none, _, _, _, _, _⟩) rfl 47 (.tmp 4) (.tmp 16) rfl gr 0 (aC 171 none 0 0 (m.epoch : Int)) rfl rfl 47 _ HK.out (aC_info _ _ _ _ _) (by simp [aC]) (aC_one _ _ _ _ _) ?_; intro w5 hT5 hD5; rw [aC_spl] at hD5)
    refine bodyPost_ret (results_part rfl _ _ gr 4 47 _ _ rfl hD5 Tryz.underlying47 rfl rfl rfl) rfl ?_
    refine ⟨by rw [HEE.out]; rfl, ?_⟩
    exact hT5.below HX.out hgw

/-- an answer of a vault: its data is memory of its own -/
def AnsVal (w : World) (B : Nat) (D : Array Value) (x : Ans) : Prop := ∃ A c, D = aC x.err A x.data.length c x.epoch ∧ OwnB w B (.slice A x.data.length c) x.data

set_option maxRecDepth 100000 in
set_option maxHeartbeats 4000000 in
theorem vold_any (w : World) (g : Nat) (t : Option Addr) (N : Nat → Prop) (m : VM) (S : VSl) (h : VDat w g t N m S) (x : Wish) (A : Option Addr) (n c : Nat) (A' : Option Addr) (n' c' : Nat) (hc : 31 ≤ x.client ∧ x.client ≤ 34) :
    Calls Tryz.prog 79 #[.pointer (some ⟨g, 0, none⟩), .agg (wCells x A n c A' n' c')] w fun r w' => ∃ D, r = .returned (.tuple #[.agg D, .bool (oldV m x).isSome]) ∧ AnsVal w' w.heap.size D ((oldV m x).getD okA) ∧ Below w.heap.size w w' := by
  obtain ⟨j, hj⟩ : ∃ j, j = (x.client - 31).toNat := ⟨_, rfl⟩
  have hj4 : j < 4 := by omega
  have hjc : x.client - 31 = (j : Int) := by omega
  have hjI : (j : Int) < 4 := by omega
  have lg := h.blk.lt
  have hlc := h.cLast j hj4
  have hls := h.ok.lst hj4
  have hll : (lastV m j).2.length ≤ 16 := by
    rcases hls.2 with e | e
    · rw [e]; simp
    · rw [e.1]; omega
  have hf := h.last j hj4
  have hX : Below w.heap.size w ((w.alloc (.cells (wCells x A n c A' n' c') 44)).alloc (.cells (aC 0 none 0 0 0) 47)) := ((Below.refl _ _).alloc (Nat.le_refl _) _).alloc (by simp) _
  have k3 : Blk ((w.alloc (.cells (wCells x A n c A' n' c') 44)).alloc (.cells (aC 0 none 0 0 0) 47)) w.heap.size 44 (wCells x A n c A' n' c') := (Blk.newAt rfl).alloc _
  have k4 : Blk ((w.alloc (.cells (wCells x A n c A' n' c') 44)).alloc (.cells (aC 0 none 0 0 0) 47)) (w.heap.size + 1) 47 (aC 0 none 0 0 0) := Blk.newAt (by simp)
  have hz1 : ((w.alloc (.cells (wCells x A n c A' n' c') 44)).alloc (.cells (aC 0 none 0 0 0) 47)).heap.size = w.heap.size + 2 := by simp
  have hO : oldV m x = if x.stamp = ((lastV m j).1 : Int) then some (dataA (lastV m j).2) else if x.stamp < ((lastV m j).1 : Int) then some (errA 172 0) else none := by
    unfold oldV; rw [← hj]
  have hsz : (lastC S m j).size = 2 := rfl
  have hon : (lastC S m j).all (·.oneCell') = true := by simp [lastC, Value.oneCell']
  have e0 : lastC S m j = #[.int .i64 ((lastV m j).1 : Int), .slice (S.lA j) (lastV m j).2.length (S.lC j)] := rfl
  generalize lastV m j = y at hO hll hf e0
  obtain ⟨st, dt⟩ := y
  simp only at hO hll hf e0
  generalize lastC S m j = D at hlc hsz hon e0
  have HB := Lib.hid (fun (W : World) (hb : Below w.heap.size w W) => h.blk.below' hb)
  have HF := Lib.hid (fun (W : World) (hb : Below w.heap.size w W) => hf.below hb)
  have HLC := Lib.hid hlc
  have HSZ := Lib.hid hsz
  have HON := Lib.hid hon
  have HE := Lib.hid e0
  have HO := Lib.hid hO
  have HX := Lib.hid hX
  have K3 := Lib.hid k3
  have K4 := Lib.hid k4
  have HZ1 := Lib.hid hz1
  have hZ : aC 0 none 0 0 0 = #[.int .i64 0, .slice none 0 0, .int .i64 0, .slice none 0 0] := rfl
  obtain ⟨g3, hg3⟩ : ∃ b, b = w.heap.size := ⟨_, rfl⟩
  obtain ⟨g4, hg4⟩ : ∃ b, b = w.heap.size + 1 := ⟨_, rfl⟩
  generalize oldV m x = ov at HO ⊢
  clear h hlc hls hf hX k3 k4 hz1 hO hsz hon e0 hj
  go_enter Tryz.func79, Tryz.ntmps79
  go_upto_region 1 with fail
  rw [← hZ]
  generalize World.alloc (World.alloc w _) _ = w1 at HX K3 K4 HZ1 ⊢
  rw [← hg4] at K4 ⊢
  rw [← hg3] at K3 ⊢
  have hz1 := HZ1.out
  have hgw3 : w.heap.size ≤ g3 := by omega
  have hgw4 : w.heap.size ≤ g4 := by omega
  have hg34 : g3 ≠ g4 := by omega
  have hw1 : w.heap.size ≤ w1.heap.size := by omega
  have hl3 := K3.out.lt
  have hl4 := K4.out.lt
  clear hg3 hg4 HZ1 hz1 hZ
  refine wp_region_rel' 9 33 (fun jx W v => match jx with
    | 0 => v = .pointer (some ⟨g, 0, none⟩)
    | 1 => v = .pointer (some ⟨g3, 0, none⟩)
    | 2 => v = .int .i64 x.client
    | 3 => v = .int .i64 (j : Int)
    | 4 => v = .pointer (some ⟨g, 0, none⟩)
    | 5 => v = .pointer (some ⟨g, 11, none⟩)
    | 6 => v = .pointer (some ⟨g, 11 + j * 2, none⟩)
    | 7 => v = .agg D
    | _ => ∃ g6, v = .pointer (some ⟨g6, 0, none⟩) ∧ w1.heap.size ≤ g6 ∧ Blk W g6 70 #[.int .i64 0, .slice none 0 0]) [7, 8, 9, 10, 11, 12, 13, 14, 6] (by kernel_rfl) (by kernel_rfl) (by kernel_rfl) (by simp) (by kernel_rfl) (fun jx => ?last) ?heads ?_
  case last =>
    match jx with
    | 0 | 1 | 2 | 3 | 4 | 5 | 6 | 7 => exact Lasts.pure _
    | jx + 8 => exact fun W W' v ⟨g3, h1, h2, h3⟩ hb => ⟨g3, h1, h2, h3.below' hb⟩
  case heads =>
    simp only [List.take_succ_cons, List.take_zero]
    refine ⟨fun a W hb hkp hd => ?_, fun a W hb hkp hd => ?_, fun a W hb hkp hd => ?_, fun a W hb hkp hd => ?_, fun a W hb hkp hd => ?_, fun a W hb hkp hd => ?_, fun a W hb hkp hd => ?_, fun a W hb hkp hd => ?_, fun a W hb hkp hd => ?_, trivial⟩
    · have e0 : a.tmps[0]?.getD undef = .pointer (some ⟨g, 0, none⟩) := hkp.get (by kernel_rfl) rfl
      exact rel_value rfl (.pointer (some ⟨g, 0, none⟩)) (by go_simp) rfl
    · have e0 : a.tmps[3]?.getD undef = .pointer (some ⟨g3, 0, none⟩) := hkp.get (by kernel_rfl) rfl
      exact rel_value rfl (.pointer (some ⟨g3, 0, none⟩)) (by go_simp) rfl
    · have e0 : a.tmps[8]?.getD undef = .pointer (some ⟨g3, 0, none⟩) := (hd 1 (by kernel_rfl)).get 8 rfl rfl
      have cc : W.cell? ⟨g3, 0, none⟩ = some (.int .i64 x.client) := ((K3.out.below' hb).cell 0).trans rfl
      exact rel_value rfl (.int .i64 x.client) (by go_simp) rfl
    · have e0 : a.tmps[9]?.getD undef = .int .i64 x.client := (hd 2 (by kernel_rfl)).get 9 rfl rfl
      exact rel_value rfl (.int .i64 (j : Int)) (by go_simp; rw [IntKind.wrap_i64]; omega) rfl
    · have e0 : a.tmps[7]?.getD undef = .pointer (some ⟨g, 0, none⟩) := (hd 0 (by kernel_rfl)).get 7 rfl rfl
      exact rel_value rfl (.pointer (some ⟨g, 0, none⟩)) (by go_simp) rfl
    · have e0 : a.tmps[11]?.getD undef = .pointer (some ⟨g, 0, none⟩) := (hd 4 (by kernel_rfl)).get 11 rfl rfl
      exact rel_value rfl (.pointer (some ⟨g, 11, none⟩)) (by go_simp) rfl
    · have e0 : a.tmps[12]?.getD undef = .pointer (some ⟨g, 11, none⟩) := (hd 5 (by kernel_rfl)).get 12 rfl rfl
      have e1 : a.tmps[10]?.getD undef = .int .i64 (j : Int) := (hd 3 (by kernel_rfl)).get 10 rfl rfl
      exact rel_value rfl (.pointer (some ⟨g, 11 + j * 2, none⟩)) (by go_simp) rfl
    · have e0 : a.eval (.tmp 13) = .pointer (some ⟨g, 11 + j * 2, none⟩) := (hd 6 (by kernel_rfl)) _ 13 rfl rfl
      exact rel_value rfl (.agg D) (exec_load_part 70 (.tmp 13) rfl g (11 + j * 2) 2 e0 73 _ D _ (HB.out W (HX.out.trans (hb.mono hw1))) Tryz.underlying70 rfl rfl HSZ.out HLC.out) rfl
    · refine rel_exec rfl (.pointer (some ⟨W.heap.size, 0, none⟩)) (W.alloc (.cells #[.int .i64 0, .slice none 0 0] 70)) (by go_simp) ((Below.refl _ _).alloc (Nat.le_refl _) _) ⟨W.heap.size, rfl, hb.size, Blk.new W _ _⟩
  intro f W hb hd
  have h14 : f 14 = .agg D := hd 7 (by omega) _ 14 rfl rfl
  obtain ⟨g6, h6, hg6, hB6⟩ : ∃ g6, f 6 = .pointer (some ⟨g6, 0, none⟩) ∧ w1.heap.size ≤ g6 ∧ Blk W g6 70 #[.int .i64 0, .slice none 0 0] := hd 8 (by omega) _ 6 rfl rfl
  have HB6 := Lib.hid hB6
  have HBW := Lib.hid hb
  simp only [putAll, List.drop_succ_cons, List.drop_zero, h14, h6]
  clear hd hB6 hb
  try simp only [Act.put, List.setIfInBounds_toArray, List.set_cons_zero, List.set_cons_succ]
  go_upto_region 2 with (refine wpList_store_part (o := ⟨none, _, _, _, _, _⟩) rfl 70 (.tmp 6) (.tmp 14) rfl g6 0 D rfl rfl 70 _ HB6.out (by rw [HSZ.out]; rfl) (by rw [HSZ.out]; simp) HON.out ?_; intro w5 hT5 hD5; rw [spl_self _ _ (by rw [HSZ.out]; rfl)] at hD5)
  have hb5 : Below w1.heap.size w1 w5 := hT5.below HBW.out hg6
  rw [HE.out] at hD5
  have c60 : w5.cell? ⟨g6, 0, none⟩ = some (.int .i64 (st : Int)) := (hD5.cell 0).trans rfl
  have c61 : w5.cell? ⟨g6, 1, none⟩ = some (.slice (S.lA j) dt.length (S.lC j)) := (hD5.cell 1).trans rfl
  have K35 := Lib.hid (K3.out.below' hb5)
  have K45 := Lib.hid (K4.out.below' hb5)
  have c31 : w5.cell? ⟨g3, 1, none⟩ = some (.int .i64 x.stamp) := (K35.out.cell 1).trans rfl
  have HB5 := Lib.hid (HX.out.trans (hb5.mono hw1))
  have hs5 := HB5.out.size
  have hs15 := hb5.size
  have hF5 := HF.out w5 HB5.out
  have HCL := Lib.hid (cloneB_any (S.lA j) dt.length (S.lC j) dt w5 w5.heap.size hF5.rd (Nat.le_refl _) (by omega))
  clear hT5 hD5 hb5 hF5 HB6 HBW HF HB K3 K4 HX
  by_cases h1 : x.stamp = (st : Int)
  · have hov : ov = some (dataA dt) := by rw [HO.out, if_pos h1]
    subst hov
    have h1b : (x.stamp == (st : Int)) = true := by simpa using h1
    go_wp2_with fail
    refine HCL.out.mono ?_
    rintro _ w6 ⟨v, rfl, ho6, hb6⟩
    obtain ⟨A6, k6, rfl, q1, q2, r6, q3⟩ := own_slice_b ho6
    have K46 := Lib.hid (K45.out.below' hb6)
    have HB6 := Lib.hid (HB5.out.trans (hb6.mono hs5))
    have HO6 := Lib.hid ho6
    have hs6 := hb6.size
    clear ho6 hb6 r6
    go_wp2_with (refine wpList_store_part (o := ⟨none, _, _, _, _, _⟩) rfl 47 (.tmp 4) (.tmp 24) rfl g4 0 (aC 0 A6 dt.length k6 0) rfl rfl 47 _ K46.out (aC_info _ _ _ _ _) (by simp [aC]) (aC_one _ _ _ _ _) ?_; intro w7 hT7 hD7; rw [aC_spl] at hD7)
    refine bodyPost_ret (results_part2 rfl _ _ g4 4 47 _ _ rfl hD7 Tryz.underlying47 rfl rfl rfl) rfl ⟨aC 0 A6 dt.length k6 0, rfl, ⟨A6, k6, rfl, ?_⟩, ?_⟩
    · exact (HO6.out.more (by omega)).keep fun b hb => hT7.block b (fun e => by have := HO6.out.ge hb; omega)
    · exact hT7.below HB6.out hgw4
  · have h1b : (x.stamp == (st : Int)) = false := by simpa using h1
    by_cases h2 : x.stamp < (st : Int)
    · have hov : ov = some (errA 172 0) := by rw [HO.out, if_neg h1, if_pos h2]
      subst hov
      go_wp2_with (refine wpList_store_part (o := ⟨none, _, _, _, _, _⟩) rfl 47 (.tmp 4) (.tmp 31) rfl g4 0 (aC 172 none 0 0 0) rfl rfl 47 _ K45.out (aC_info _ _ _ _ _) (by simp [aC]) (aC_one _ _ _ _ _) ?_; intro w7 hT7 hD7; rw [aC_spl] at hD7)
      refine bodyPost_ret (results_part2 rfl _ _ g4 4 47 _ _ rfl hD7 Tryz.underlying47 rfl rfl rfl) rfl ⟨aC 172 none 0 0 0, rfl, ⟨none, 0, rfl, OwnB.nil _ _⟩, ?_⟩
      exact hT7.below HB5.out hgw4
    · have hov : ov = none := by rw [HO.out, if_neg h1, if_neg h2]
      subst hov
      go_wp2_with (refine wpList_store_part (o := ⟨none, _, _, _, _, _⟩) rfl 47 (.tmp 4) (.tmp 32) rfl g4 0 (aC 0 none 0 0 0) rfl rfl 47 _ K45.out (aC_info _ _ _ _ _) (by simp [aC]) (aC_one _ _ _ _ _) ?_; intro w7 hT7 hD7; rw [aC_spl] at hD7)
      refine bodyPost_ret (results_part2 rfl _ _ g4 4 47 _ _ rfl hD7 Tryz.underlying47 rfl rfl rfl) rfl ⟨aC 0 none 0 0 0, rfl, ⟨none, 0, rfl, OwnB.nil _ _⟩, ?_⟩
      exact hT7.below HB5.out hgw4

end Go.Proofs.YtcpngeiahgoacaaGreat

/- Contracts of a vault's Group, Epoch, Root, Look, Sealed. -/
namespace Go.Proofs.YtcpngeiahgoacaaGreat
set_option linter.unusedVariables false
open Go.RowKit Go.Maps

theorem VAt.none_ {w : World} {V : VLoc} {N : Nat → Prop} {m : VM} (h : VAt w V N m) : w.cell? ⟨V.g, 0, none⟩ = some (.pointer (some ⟨V.T.t, 0, none⟩)) := by
  obtain ⟨S, hd⟩ := h.dat
  exact hd.cTree

set_option maxRecDepth 100000 in
theorem vGroup_any (w : World) (V : VLoc) (N : Nat → Prop) (m : VM) (h : VAt w V N m) :
    Calls Tryz.prog 33 #[.pointer (some ⟨V.g, 0, none⟩)] w fun e w' => e = .returned (.int .i64 (m.group : Int)) ∧ w = w' := by
  obtain ⟨S, hd⟩ := h.dat
  have c1 := hd.cGroup
  have HN := Lib.hid (vNone_any w V.g V.T.t h.none_)
  clear h hd
  go_enter Tryz.func33, Tryz.ntmps33
  go_wp2_with fail
  refine HN.out.mono ?_
  rintro _ _ ⟨rfl, rfl⟩
  go_wp2_with fail
  go_ret
  exact ⟨rfl, rfl⟩

set_option maxRecDepth 100000 in
theorem vEpoch_any (w : World) (V : VLoc) (N : Nat → Prop) (m : VM) (h : VAt w V N m) :
    Calls Tryz.prog 27 #[.pointer (some ⟨V.g, 0, none⟩)] w fun e w' => e = .returned (.int .i64 (m.epoch : Int)) ∧ w = w' := by
  obtain ⟨S, hd⟩ := h.dat
  have c1 := hd.cEpoch
  have HN := Lib.hid (vNone_any w V.g V.T.t h.none_)
  clear h hd
  go_enter Tryz.func27, Tryz.ntmps27
  go_wp2_with fail
  refine HN.out.mono ?_
  rintro _ _ ⟨rfl, rfl⟩
  go_wp2_with fail
  go_ret
  exact ⟨rfl, rfl⟩

set_option maxRecDepth 100000 in
set_option maxHeartbeats 1000000 in
theorem vSealed_any (w : World) (V : VLoc) (N : Nat → Prop) (m : VM) (h : VAt w V N m) :
    Calls Tryz.prog 32 #[.pointer (some ⟨V.g, 0, none⟩)] w fun e w' => ∃ v, e = .returned v ∧ OwnN w' w.heap.size v m.shut ∧ Below w.heap.size w w' := by
  obtain ⟨S, hd⟩ := h.dat
  have c19 := hd.cShut
  have hl := hd.ok.sealNum.2
  have HN := Lib.hid (vNone_any w V.g V.T.t h.none_)
  have HC := Lib.hid (cloneN_any S.sA m.shut.length S.sC m.shut w w.heap.size hd.shut.rd (Nat.le_refl _) (by omega))
  clear h hd
  go_enter Tryz.func32, Tryz.ntmps32
  go_wp2_with fail
  refine HN.out.mono ?_
  rintro _ _ ⟨rfl, rfl⟩
  go_wp2_with fail
  refine HC.out.mono ?_
  rintro _ w2 ⟨v, rfl, ho, hb⟩
  have HO := Lib.hid ho
  have HB := Lib.hid hb
  clear ho hb
  go_wp2_with fail
  go_ret
  exact ⟨_, rfl, HO.out, HB.out⟩

set_option maxRecDepth 100000 in
set_option maxHeartbeats 1000000 in
theorem vRoot_any (w : World) (V : VLoc) (N : Nat → Prop) (m : VM) (h : VAt w V N m) :
    Calls Tryz.prog 29 #[.pointer (some ⟨V.g, 0, none⟩)] w fun e w' => e = .returned (.tuple #[.agg (bRow (rootL (leavesV m))), .int .i64 0]) ∧ Below w.heap.size w w' := by
  obtain ⟨S, hd⟩ := h.dat
  have hX := below_lit w (.cells inkZ 60)
  have hk0 : Blk (w.alloc (.cells inkZ 60)) w.heap.size 60 inkZ := Blk.newAt rfl
  have c0 := (hd.below hX).cTree
  have HN := Lib.hid (vNone_any (w.alloc (.cells inkZ 60)) V.g V.T.t c0)
  have HR := Lib.hid (treeRoot_any (w.alloc (.cells inkZ 60)) V.T V.k (leavesV m) (h.tree.below hX))
  have hln := leavesV_len m
  have hds : (bRow (rootL (leavesV m))).size = 32 := bRow_size32 (lv_one (leavesV m) (by omega) (by omega)).2
  have hdo := bRow_one (rootL (leavesV m))
  obtain ⟨D, hD⟩ : ∃ D, D = bRow (rootL (leavesV m)) := ⟨_, rfl⟩
  rw [← hD] at HR hds hdo ⊢
  have HDS := Lib.hid hds
  have HDO := Lib.hid hdo
  have HZ := Lib.hid treeZ_eq
  have HZS := Lib.hid (show inkZ.size = 32 by simp [inkZ, bRow])
  have HX := Lib.hid hX
  have HK := Lib.hid hk0
  have C0 := Lib.hid c0
  obtain ⟨g, hg⟩ : ∃ g, g = w.heap.size := ⟨_, rfl⟩
  clear h hd hX hk0 c0 hD hds hdo hln
  go_enter Tryz.func29, Tryz.ntmps29
  go_upto_region 1 with fail
  rw [← HZ.out]
  generalize World.alloc w _ = w1 at HN HR HX HK C0 ⊢
  rw [← hg] at HK ⊢
  have hgw : w.heap.size ≤ g := by omega
  have c0 := C0.out
  clear hg
  go_wp2_with fail
  refine HN.out.mono ?_
  rintro _ _ ⟨rfl, rfl⟩
  go_wp2_with fail
  refine HR.out.mono ?_
  rintro _ w2 ⟨rfl, hb2⟩
  have HB2 := Lib.hid (HX.out.trans (hb2.mono HX.out.size))
  have HK2 := Lib.hid (HK.out.below' hb2)
  clear hb2
  go_wp2_with (refine wpList_store_part (o := ⟨none, _, _, _, _, _⟩) rfl 60 (.tmp 2) (.tmp 12) rfl g 0 D rfl rfl 60 inkZ HK2.out (by rw [HDS.out]; rfl) (by rw [HDS.out, HZS.out]; omega) HDO.out ?_; intro w5 hT5 hD5; rw [spl_self _ _ (by rw [HDS.out, HZS.out])] at hD5)
  refine bodyPost_ret (results_part2 rfl _ _ g 32 60 _ _ rfl hD5 Tryz.underlying60 rfl rfl HDS.out) rfl ⟨rfl, ?_⟩
  exact hT5.below HB2.out hgw

end Go.Proofs.YtcpngeiahgoacaaGreat

/- Contracts of a vault's made and New. -/
namespace Go.Proofs.YtcpngeiahgoacaaGreat
set_option linter.unusedVariables false
open Go.RowKit Go.Maps

theorem leaves_pre (m : VM) (i : Nat) (h : i < 13) : ((leavesV m).take i ++ List.replicate (13 - i) []).set i (leafV m i) = (leavesV m).take (i + 1) ++ List.replicate (13 - (i + 1)) [] := by
  have hl : ((leavesV m).take i).length = i := by rw [List.length_take, leavesV_len]; omega
  have hg := leavesV_get m i h
  have hi : i < (leavesV m).length := by rw [leavesV_len]; exact h
  rw [List.getElem?_eq_getElem hi] at hg
  rw [List.set_append_right _ _ (by omega), hl, Nat.sub_self, show 13 - i = (13 - (i + 1)) + 1 by omega, List.replicate_succ, List.set_cons_zero, List.take_succ_eq_append_getElem hi, Option.some.inj hg, List.append_assoc]
  rfl

theorem vC_plant (t t' : Option Addr) (m : VM) (S : VSl) : (vC t m S).setIfInBounds 0 (.pointer t') = vC t' m S := by
  apply Array.ext_getElem?
  intro j
  rw [Array.getElem?_setIfInBounds]
  by_cases h : 0 = j
  · subst h
    rw [if_pos rfl, vC_size, if_pos (by omega), vC_tree]
  · rw [if_neg h]
    rcases Nat.lt_or_ge j 20 with h2 | h2
    · rw [vC_at _ _ _ _ h2, vC_at _ _ _ _ h2]
      simp only [vF, if_neg (show ¬ j = 0 from fun e => h e.symm)]
    · rw [Array.getElem?_eq_none (by rw [vC_size]; exact h2), Array.getElem?_eq_none (by rw [vC_size]; exact h2)]

/-- how far made has come -/
structure MadeSt (M : Nat → Prop) (w wr : World) (g : Nat) (T : TreeLoc) (k : Book) (L : List (List UInt8)) (asked : Nat) (m : VM) (i : Nat) : Prop where
  tree : TreeAt wr T k ((leavesV m).take i ++ List.replicate (13 - i) [])
  book : ∃ L' a', BookAt wr k L' a' ∧ a' ≤ asked + 9 + 3 * i ∧ (∀ x, x ∈ L → x ∈ L') ∧ InBook L' ((leavesV m).take i ++ List.replicate (13 - i) [])
  only : Only (fun b => b = g ∨ k.has b) w wr
  blk : ∃ S, VDat wr g (some ⟨T.t, 0, none⟩) (fun b => b = g ∨ k.has b ∨ T.has b ∨ M b) m S
  new : ∀ b, T.has b → w.heap.size ≤ b

set_option maxRecDepth 100000 in
set_option maxHeartbeats 4000000 in
theorem made_any (M : Nat → Prop) (k : Book) (L : List (List UInt8)) (asked g : Nat) (m : VM) (S : VSl) (w : World) (hbk : BookAt w k L asked) (has : asked ≤ 600000) (h : VDat w g none (fun b => b = g ∨ k.has b ∨ M b) m S) (hgk : ¬ k.has g) :
    Calls Tryz.prog 66 #[.pointer (some ⟨k.g, 0, none⟩), .pointer (some ⟨g, 0, none⟩)] w fun e w' => ∃ T : TreeLoc, e = .returned (.tuple #[.pointer (some ⟨g, 0, none⟩), .int .i64 0]) ∧ MadeSt M w w' g T k L asked m 13 := by
  have lg := h.blk.lt
  have HBK := Lib.hid hbk
  have HD := Lib.hid h
  have hlt := hbk.lt
  have hln := leavesV_len m
  have HN := Lib.hid (treeNew_any k L asked 13 w hbk (.inl rfl) (by omega))
  clear h hbk
  go_enter Tryz.func66, Tryz.ntmps66
  go_wp2_with fail
  refine HN.out.mono ?_
  rintro _ w2 ⟨T, rfl, hT, hnew, ⟨L2, a2, hbk2, ha2, hL2, hin2⟩, ho2⟩
  have hd2 := HD.out.only (Only.of_book ho2) (fun b h => .inr (.inl h)) hgk
  have hgl := hd2.blk.lt
  have c0 := hd2.cTree
  have f0 := hd2.blk.frozen 0
  have HT := Lib.hid hT
  have HNEW := Lib.hid hnew
  have HB2 := Lib.hid hbk2
  have HL2 := Lib.hid hL2
  have HI2 := Lib.hid hin2
  have HO2 := Lib.hid ho2
  have HD2 := Lib.hid hd2
  have hs2 := ho2.size
  clear hT hnew hbk2 hL2 hin2 ho2 hd2 HN
  go_upto_region 5 with fail
  have hT3 := Turned.setCell w2 ⟨g, 0, none⟩ (.pointer (some ⟨T.t, 0, none⟩))
  have hB3 := HD2.out.blk.set_ 0 (.pointer (some ⟨T.t, 0, none⟩))
  rw [vC_plant] at hB3
  have hgT : ∀ b, T.has b → b ≠ g := fun b hb e => by have := HNEW.out b hb; omega
  have hst : MadeSt M w (w2.setCell ⟨g, 0, none⟩ (.pointer (some ⟨T.t, 0, none⟩))) g T k L asked m 0 := by
    have ho3 : Only (fun b => b = g) w2 (w2.setCell ⟨g, 0, none⟩ (.pointer (some ⟨T.t, 0, none⟩))) := Only.of_turned hT3 rfl
    have hfar : ∀ b, b < w2.heap.size → (b = g ∨ k.has b ∨ T.has b ∨ M b) → (b = g ∨ k.has b ∨ M b) ∨ w.heap.size ≤ b := fun b _ hb => by
      rcases hb with e | e | e | e
      · exact .inl (.inl e)
      · exact .inl (.inr (.inl e))
      · exact .inr (HNEW.out b e)
      · exact .inl (.inr (.inr e))
    refine ⟨HT.out.only ho3 (fun b hb e => hgT b hb e), ⟨L2, a2, HB2.out.only ho3 (fun e => hgk (.inl e.symm)) (fun e => hgk (.inr (.inl e.symm))) (fun e => hgk (.inr (.inr e.symm))), by omega, HL2.out, HI2.out⟩, ?_, ⟨S, hB3, fun i hi => ?_, fun i hi => ?_, ?_, HD.out.ok⟩, HNEW.out⟩
    · exact ((Only.of_book HO2.out).mono fun b _ h => .inr h).trans (ho3.mono fun b _ h => .inl h)
    · have hf := HD.out.block i hi
      have hf2 := hf.only (Only.of_book HO2.out) (fun b h => .inr (.inl h))
      have hf3 := hf2.only ho3 (fun b h => .inl h)
      exact ⟨hf3.rd, hf3.cap, fun a h0 ha hn => by
        obtain ⟨ad, e, hb, _⟩ := hf.rd.2 h0
        rw [ha] at e
        injection e with e
        subst e
        rcases hfar a.block (by omega) hn with h1 | h1
        · exact hf.far a h0 ha h1
        · omega⟩
    · have hf := HD.out.last i hi
      have hf2 := hf.only (Only.of_book HO2.out) (fun b h => .inr (.inl h))
      have hf3 := hf2.only ho3 (fun b h => .inl h)
      exact ⟨hf3.rd, hf3.cap, fun a h0 ha hn => by
        obtain ⟨ad, e, hb, _⟩ := hf.rd.2 h0
        rw [ha] at e
        injection e with e
        subst e
        rcases hfar a.block (by omega) hn with h1 | h1
        · exact hf.far a h0 ha h1
        · omega⟩
    · have hf := HD.out.shut
      have hf2 := hf.only (Only.of_book HO2.out) (fun b h => .inr (.inl h))
      have hf3 := hf2.only ho3 (fun b h => .inl h)
      exact ⟨hf3.rd, hf3.cap, fun a h0 ha hn => by
        obtain ⟨ad, e, hb, _⟩ := hf.rd.2 h0
        rw [ha] at e
        injection e with e
        subst e
        rcases hfar a.block (by omega) hn with h1 | h1
        · exact hf.far a h0 ha h1
        · omega⟩
  have HST := Lib.hid hst
  generalize w2.setCell ⟨g, 0, none⟩ (.pointer (some ⟨T.t, 0, none⟩)) = w3 at HST ⊢
  clear hst hT3 hB3 c0 f0 HD2 HT HB2 HL2 HI2 HO2
  go_wp2_with fail
  go_loopw [22] (fun iv wr => ∃ i : Nat, i ≤ 13 ∧ iv = .int .i64 i ∧ MadeSt M w wr g T k L asked m i) (fun iv _ => 13 - (intOf iv).toNat)
  case atStart => exact ⟨0, by omega, rfl, HST.out⟩
  case round =>
    obtain ⟨i, hi, rfl, hst⟩ := hrel
    have HS := Lib.hid hst
    clear hst
    by_cases hin : i < 13
    · have hinI : (i : Int) < 13 := by omega
      obtain ⟨S1, hd1⟩ := HS.out.blk
      obtain ⟨L1, a1, q1, q2, q3, q4⟩ := HS.out.book
      have hll : ((leavesV m).take i ++ List.replicate (13 - i) ([] : List UInt8)).length = 13 := by rw [List.length_append, List.length_take, hln, List.length_replicate]; omega
      have HV := Lib.hid (vset_any wr g i T k _ m S1 _ L1 a1 hd1 hin HS.out.tree hll q1 (by omega))
      rw [leaves_pre m i hin] at HV
      have HD1 := Lib.hid hd1
      have HQ3 := Lib.hid q3
      have HQ4 := Lib.hid q4
      clear hd1 q1 q3 q4 hll
      go_wp2_with fail
      refine HV.out.mono ?_
      rintro _ w4 ⟨rfl, hsb⟩
      have hst4 : MadeSt M w w4 g T k L asked m (i + 1) := by
        obtain ⟨L', a', p1, p2, p3, p4⟩ := hsb.book
        refine ⟨hsb.tree, ⟨L', a', p1, by omega, fun x hx => p3 x (HQ3.out x hx), p4 L1 (fun _ h => h) HQ4.out⟩, ?_, ⟨S1, HD1.out.only hsb.only (fun b hb => ?_) ?_⟩, HS.out.new⟩
        · have h1 := HS.out.only
          have h2 := hsb.only
          refine ⟨h2.os.trans h1.os, h2.tape.trans h1.tape, h2.output.trans h1.output, Nat.le_trans h1.size h2.size, fun b hb hn => (h2.block b (by have := h1.size; omega) ?_).trans (h1.block b hb hn)⟩
          rintro (e | e)
          · have := HS.out.new b (.inr (.inr e)); omega
          · exact hn (.inr e)
        · rcases hb with e | e
          · exact .inr (.inr (.inl (.inr (.inr e))))
          · exact .inr (.inl e)
        · rintro (e | e)
          · exact hgT g (.inr (.inr e)) rfl
          · exact hgk e
      have HST4 := Lib.hid hst4
      clear hst4 hsb HV
      go_wp2_with fail
      go_roundw
      case rel => exact ⟨i + 1, by omega, by go_num, HST4.out⟩
      case measure => simp [intOf]; omega
    · obtain rfl : i = 13 := by omega
      have hinI : ¬ (13 : Int) < 13 := by omega
      go_wp2_with fail
      go_ret2
      exact ⟨rfl, T, HS.out⟩

/-- a vault that is made -/
theorem VAt.of_made {M : Nat → Prop} {w w' : World} {g : Nat} {T : TreeLoc} {k : Book} {L : List (List UInt8)} {asked : Nat} {m : VM} (h : MadeSt M w w' g T k L asked m 13) (hgk : ¬ k.has g) (hg : g < w.heap.size) : VAt w' ⟨g, T, k⟩ (fun b => b = g ∨ k.has b ∨ T.has b ∨ M b) m := by
  have e : (leavesV m).take 13 ++ List.replicate (13 - 13) ([] : List UInt8) = leavesV m := by rw [List.take_of_length_le (by rw [leavesV_len]; exact Nat.le_refl _)]; simp
  refine ⟨h.blk, by have := h.tree; rw [e] at this; exact this, ⟨fun hb => ?_, hgk⟩, fun b hb => ?_⟩
  · have := h.new g hb; omega
  · rcases hb with e | e | e
    · exact .inl e
    · exact .inr (.inr (.inl (.inr (.inr e))))
    · exact .inr (.inl e)

end Go.Proofs.YtcpngeiahgoacaaGreat

/- A vault's fields that turn; contract of Turn. -/
namespace Go.Proofs.YtcpngeiahgoacaaGreat
set_option linter.unusedVariables false
open Go.RowKit Go.Maps

theorem vC_eq {cs : Array Value} {t : Option Addr} {m : VM} {S : VSl} (hs : cs.size = 20) (h0 : cs[0]? = some (.pointer t)) (h1 : cs[1]? = some (.int .i64 (m.group : Int))) (h2 : cs[2]? = some (.int .i64 (m.epoch : Int)))
    (hb : ∀ i, i < 8 → cs[3 + i]? = some (.slice (S.bA i) (blockV m i).length (S.bC i))) (hst : ∀ i, i < 4 → cs[11 + i * 2]? = some (.int .i64 ((lastV m i).1 : Int)))
    (hdt : ∀ i, i < 4 → cs[11 + i * 2 + 1]? = some (.slice (S.lA i) (lastV m i).2.length (S.lC i))) (h19 : cs[19]? = some (.slice S.sA m.shut.length S.sC)) : cs = vC t m S := by
  apply Array.ext_getElem?
  intro j
  rcases Nat.lt_or_ge j 20 with hj | hj
  · rcases Nat.lt_or_ge j 3 with h3 | h3
    · obtain rfl | rfl | rfl : j = 0 ∨ j = 1 ∨ j = 2 := by omega
      · rw [h0, vC_tree]
      · rw [h1, vC_group]
      · rw [h2, vC_epoch]
    · rcases Nat.lt_or_ge j 11 with h11 | h11
      · have e := hb (j - 3) (by omega)
        have e2 := vC_block t m S (j - 3) (by omega)
        rw [show 3 + (j - 3) = j by omega] at e e2
        rw [e, e2]
      · rcases Nat.lt_or_ge j 19 with h19' | h19'
        · rcases Nat.mod_two_eq_zero_or_one (j - 11) with hm | hm
          · have e := hst ((j - 11) / 2) (by omega)
            have e2 := vC_stamp t m S ((j - 11) / 2) (by omega)
            rw [show 11 + (j - 11) / 2 * 2 = j by omega] at e e2
            rw [e, e2]
          · have e := hdt ((j - 11) / 2) (by omega)
            have e2 := vC_data t m S ((j - 11) / 2) (by omega)
            rw [show 11 + (j - 11) / 2 * 2 + 1 = j by omega] at e e2
            rw [e, e2]
        · obtain rfl : j = 19 := by omega
          rw [h19, vC_shut]
  · rw [Array.getElem?_eq_none (by omega), Array.getElem?_eq_none (by rw [vC_size]; exact hj)]
theorem vC_setE (t : Option Addr) (m m' : VM) (S : VSl) (hg : m'.group = m.group) (hb : m'.blocks = m.blocks) (hl : m'.last = m.last) (hs : m'.shut = m.shut) : (vC t m S).setIfInBounds 2 (.int .i64 (m'.epoch : Int)) = vC t m' S := by
  have hz := vC_size t m S
  refine vC_eq (by rw [Array.size_setIfInBounds]; exact hz) ?_ ?_ ?_ (fun i hi => ?_) (fun i hi => ?_) (fun i hi => ?_) ?_
  · rw [Array.getElem?_setIfInBounds, if_neg (by omega), vC_tree]
  · rw [Array.getElem?_setIfInBounds, if_neg (by omega), vC_group, hg]
  · rw [Array.getElem?_setIfInBounds, if_pos rfl, hz, if_pos (by omega)]
  · rw [Array.getElem?_setIfInBounds, if_neg (by omega), vC_block _ _ _ _ hi]; unfold blockV; rw [hb]
  · rw [Array.getElem?_setIfInBounds, if_neg (by omega), vC_stamp _ _ _ _ hi]; unfold lastV; rw [hl]
  · rw [Array.getElem?_setIfInBounds, if_neg (by omega), vC_data _ _ _ _ hi]; unfold lastV; rw [hl]
  · rw [Array.getElem?_setIfInBounds, if_neg (by omega), vC_shut, hs]
def setS (S : VSl) (A : Option Addr) (c : Nat) : VSl := ⟨S.bA, S.bC, S.lA, S.lC, A, c⟩
theorem vC_setS (t : Option Addr) (m m' : VM) (S : VSl) (A : Option Addr) (c n : Nat) (hg : m'.group = m.group) (he : m'.epoch = m.epoch) (hb : m'.blocks = m.blocks) (hl : m'.last = m.last) (hs : m'.shut.length = n) : (vC t m S).setIfInBounds 19 (.slice A n c) = vC t m' (setS S A c) := by
  have hz := vC_size t m S
  refine vC_eq (by rw [Array.size_setIfInBounds]; exact hz) ?_ ?_ ?_ (fun i hi => ?_) (fun i hi => ?_) (fun i hi => ?_) ?_
  · rw [Array.getElem?_setIfInBounds, if_neg (by omega), vC_tree]
  · rw [Array.getElem?_setIfInBounds, if_neg (by omega), vC_group, hg]
  · rw [Array.getElem?_setIfInBounds, if_neg (by omega), vC_epoch, he]
  · rw [Array.getElem?_setIfInBounds, if_neg (by omega), vC_block _ _ _ _ hi]; unfold blockV; rw [hb]; rfl
  · rw [Array.getElem?_setIfInBounds, if_neg (by omega), vC_stamp _ _ _ _ hi]; unfold lastV; rw [hl]
  · rw [Array.getElem?_setIfInBounds, if_neg (by omega), vC_data _ _ _ _ hi]; unfold lastV; rw [hl]; rfl
  · rw [Array.getElem?_setIfInBounds, if_pos rfl, hz, if_pos (by omega), hs]; rfl

theorem leaves_ext {l : List (List UInt8)} {m : VM} (hl : l.length = 13) (h : ∀ j, j < 13 → l[j]? = some (leafV m j)) : l = leavesV m := by
  apply List.ext_getElem?
  intro j
  rcases Nat.lt_or_ge j 13 with hj | hj
  · rw [h j hj, leavesV_get m j hj]
  · rw [List.getElem?_eq_none (by omega), List.getElem?_eq_none (by rw [leavesV_len]; exact hj)]
theorem leaves_set1 {m m' : VM} {i : Nat} (hi : i < 13) (h : ∀ j, j < 13 → j ≠ i → leafV m' j = leafV m j) : (leavesV m).set i (leafV m' i) = leavesV m' := by
  refine leaves_ext (by rw [List.length_set, leavesV_len]) fun j hj => ?_
  rw [List.getElem?_set]
  by_cases e : i = j
  · subst e; rw [if_pos rfl, leavesV_len, if_pos hi]
  · rw [if_neg e, leavesV_get m j hj, h j hj (fun e' => e e'.symm)]

/-- what a call made of a vault -/
structure VDone (w w' : World) (V : VLoc) (N : Nat → Prop) (m' : VM) (L : List (List UInt8)) (asked q : Nat) : Prop where
  vat : VAt w' V N m'
  book : ∃ L' a', BookAt w' V.k L' a' ∧ a' ≤ asked + q ∧ (∀ x, x ∈ L → x ∈ L') ∧ InBook L' (leavesV m')
  only : Only V.has w w'
theorem VAt.only {w w' : World} {V : VLoc} {N M : Nat → Prop} {m : VM} (h : VAt w V N m) (ho : Only M w w') (hM : ∀ b, M b → N b) (hg : ¬ M V.g) (hT : ∀ b, V.T.has b → ¬ M b) : VAt w' V N m := by
  obtain ⟨S, hd⟩ := h.dat
  exact ⟨⟨S, hd.only ho hM hg⟩, h.tree.only ho hT, h.far, h.all⟩
theorem VAt.below {w w' : World} {V : VLoc} {N : Nat → Prop} {m : VM} (h : VAt w V N m) (hb : Below w.heap.size w w') : VAt w' V N m := by
  obtain ⟨S, hd⟩ := h.dat
  exact ⟨⟨S, hd.below hb⟩, h.tree.below hb, h.far, h.all⟩
theorem VDone.same {w w' : World} {V : VLoc} {N : Nat → Prop} {m : VM} {L : List (List UInt8)} {asked q : Nat} (h : VAt w V N m) (hbk : BookAt w V.k L asked) (hin : InBook L (leavesV m)) (hb : Below w.heap.size w w') : VDone w w' V N m L asked q :=
  ⟨h.below hb, ⟨L, asked, hbk.below hb, by omega, fun _ h => h, hin⟩, Only.of_below hb⟩

set_option maxRecDepth 100000 in
set_option maxHeartbeats 2000000 in
theorem vTurn_any (w : World) (V : VLoc) (N : Nat → Prop) (m : VM) (L : List (List UInt8)) (asked : Nat) (h : VAt w V N m) (hbk : BookAt w V.k L asked) (hin : InBook L (leavesV m)) (has : asked ≤ 800000) :
    Calls Tryz.prog 31 #[.pointer (some ⟨V.g, 0, none⟩)] w fun e w' => e = .returned (.int .i64 ((turnV m).2 : Int)) ∧ VDone w w' V N (turnV m).1 L asked 3 := by
  obtain ⟨S, hd⟩ := h.dat
  have c2 := hd.cEpoch
  have c19 := hd.cShut
  have f2 := hd.blk.frozen 2
  have f19 := hd.blk.frozen 19
  have hep := hd.ok.epoch
  have HN := Lib.hid (vNone_any w V.g V.T.t h.none_)
  have HV := Lib.hid h
  have HD := Lib.hid hd
  have HBK := Lib.hid hbk
  have HIN := Lib.hid hin
  obtain ⟨sl, hsl⟩ : ∃ x, x = m.shut.length := ⟨_, rfl⟩
  rw [← hsl] at c19
  have HSL := Lib.hid hsl
  clear h hd hbk hin hsl
  by_cases h0 : sl = 0
  · have ht : turnV m = (m, 171) := by unfold turnV; rw [if_pos (by rw [← HSL.out]; exact h0)]
    have HT := Lib.hid ht
    subst h0
    clear ht
    go_enter Tryz.func31, Tryz.ntmps31
    go_wp2_with fail
    refine HN.out.mono ?_
    rintro _ _ ⟨rfl, rfl⟩
    go_wp2_with fail
    go_ret
    rw [HT.out]
    exact ⟨rfl, VDone.same HV.out HBK.out HIN.out (Below.refl _ _)⟩
  · have h0I : ¬ (sl : Int) = 0 := by omega
    have h0b : ((sl : Int) == 0) = false := by simpa using h0
    have ht : turnV m = (⟨m.group, m.epoch + 1, m.blocks, m.last, []⟩, 0) := by unfold turnV; rw [if_neg (by rw [← HSL.out]; exact h0)]
    have hok := HD.out.ok.turned
    rw [ht] at hok
    simp only at hok
    obtain ⟨m', hm'⟩ : ∃ m' : VM, m' = ⟨m.group, m.epoch + 1, m.blocks, m.last, []⟩ := ⟨_, rfl⟩
    rw [← hm'] at ht hok
    have HT := Lib.hid ht
    have HOK := Lib.hid hok
    have HM := Lib.hid hm'
    obtain ⟨ep, hepe⟩ : ∃ e, e = m.epoch := ⟨_, rfl⟩
    have hB1 := HD.out.blk.set_ 2 (.int .i64 (((⟨m.group, m.epoch + 1, m.blocks, m.last, m.shut⟩ : VM).epoch : Nat) : Int))
    rw [vC_setE _ m ⟨m.group, m.epoch + 1, m.blocks, m.last, m.shut⟩ S rfl rfl rfl rfl] at hB1
    have hB2 := hB1.set_ 19 (.slice none 0 0)
    rw [vC_setS _ _ m' S none 0 0 (by rw [hm']) (by rw [hm']) (by rw [hm']) (by rw [hm']) (by rw [hm']; rfl)] at hB2
    have hcast : (((⟨m.group, m.epoch + 1, m.blocks, m.last, m.shut⟩ : VM).epoch : Nat) : Int) = (m.epoch : Int) + 1 := by simp
    rw [hcast] at hB2
    have hT2 := (Turned.setCell w ⟨V.g, 2, none⟩ (.int .i64 ((m.epoch : Int) + 1))).trans (Turned.setCell _ ⟨V.g, 19, none⟩ (.slice none 0 0))
    have c19' : (w.setCell ⟨V.g, 2, none⟩ (.int .i64 ((m.epoch : Int) + 1))).cell? ⟨V.g, 19, none⟩ = some (.slice S.sA sl S.sC) := (World.cell?_setCell_other _ _ _ _ (by simp)).trans c19
    have f19' : (w.setCell ⟨V.g, 2, none⟩ (.int .i64 ((m.epoch : Int) + 1))).frozen? ⟨V.g, 19, none⟩ = false := by simpa [World.frozen?_setCell] using f19
    have HB2 := Lib.hid hB2
    have HT2 := Lib.hid hT2
    clear ht hok hm' hB1 hB2 hT2 hcast hepe
    go_enter Tryz.func31, Tryz.ntmps31
    go_wp2_with fail
    refine HN.out.mono ?_
    rintro _ _ ⟨rfl, rfl⟩
    go_upto_region 7 with fail
    generalize (w.setCell ⟨V.g, 2, none⟩ (.int .i64 ((m.epoch : Int) + 1))).setCell ⟨V.g, 19, none⟩ (.slice none 0 0) = w2 at HB2 HT2 ⊢
    have ho2 : Only (fun b => b = V.g) w w2 := Only.of_turned HT2.out rfl
    have hfar := HV.out.far
    have hNg : N V.g := HV.out.all _ (.inl rfl)
    have hd2 : VDat w2 V.g (some ⟨V.T.t, 0, none⟩) N m' (setS S none 0) := by
      refine ⟨HB2.out, fun i hi => ?_, fun i hi => ?_, ?_, HOK.out⟩
      · have := (HD.out.block i hi).only ho2 (fun b e => e ▸ hNg)
        have e : blockV m' i = blockV m i := by rw [HM.out]; rfl
        rw [e]; exact this
      · have := (HD.out.last i hi).only ho2 (fun b e => e ▸ hNg)
        have e : lastV m' i = lastV m i := by rw [HM.out]; rfl
        rw [e]; exact this
      · have e : m'.shut = [] := by rw [HM.out]
        rw [e]; exact FarN.nil _ _
    have HS := Lib.hid (vset_any w2 V.g 12 V.T V.k N m' _ (leavesV m) L asked hd2 (by omega) (HV.out.tree.only ho2 (fun b hb e => hfar.1 (e ▸ hb))) (leavesV_len m) (HBK.out.only ho2 (fun e => hfar.2 (.inl e.symm)) (fun e => hfar.2 (.inr (.inl e.symm))) (fun e => hfar.2 (.inr (.inr e.symm)))) (by omega))
    have hle : (leavesV m).set 12 (leafV m' 12) = leavesV m' := leaves_set1 (by omega) fun j hj hne => by
      rw [HM.out]
      unfold leafV
      by_cases h8 : j < 8
      · rw [if_pos h8, if_pos h8]; rfl
      · rw [if_neg h8, if_neg h8, if_pos (by omega), if_pos (by omega)]; rfl
    rw [hle] at HS
    have HD2 := Lib.hid hd2
    have HO2 := Lib.hid ho2
    clear hd2 ho2 hle
    go_wp2_with fail
    refine HS.out.mono ?_
    rintro _ w3 ⟨rfl, hsb⟩
    have HSB := Lib.hid hsb
    clear hsb HS
    go_wp2_with fail
    go_ret
    rw [HT.out]
    obtain ⟨L', a', q1, q2, q3, q4⟩ := HSB.out.book
    have ho3 : Only V.has w w3 := (HO2.out.mono fun b _ e => .inl e).trans (HSB.out.only.mono fun b _ e => .inr e)
    refine ⟨rfl, ⟨⟨_, HD2.out.only HSB.out.only (fun b hb => HV.out.all _ (.inr hb)) ?_⟩, HSB.out.tree, hfar, HV.out.all⟩, ⟨L', a', q1, q2, q3, q4 L (fun _ h => h) HIN.out⟩, ho3⟩
    rintro (e | e)
    · exact hfar.1 (.inr (.inr e))
    · exact hfar.2 e

end Go.Proofs.YtcpngeiahgoacaaGreat

/- Contract of a vault's sealing. -/
namespace Go.Proofs.YtcpngeiahgoacaaGreat
set_option linter.unusedVariables false
open Go.RowKit Go.Maps
attribute [local irreducible] wpList

theorem else_some {m : VM} {e : Int} {a : Ans} (h : elseV m e = some a) : ∃ n, a = errA 171 n := by
  unfold elseV at h
  split at h
  · exact ⟨_, (Option.some.inj h).symm⟩
  · split at h
    · exact ⟨_, (Option.some.inj h).symm⟩
    · cases h
def ansP (a : Ans) : Array Value := aC a.err none 0 0 a.epoch

set_option maxRecDepth 100000 in
set_option maxHeartbeats 4000000 in
theorem vsealing_any (w : World) (V : VLoc) (N : Nat → Prop) (m : VM) (L : List (List UInt8)) (asked : Nat) (h : VAt w V N m) (hN : ∀ b, N b → b < w.heap.size) (hbk : BookAt w V.k L asked) (hin : InBook L (leavesV m)) (has : asked ≤ 800000)
    (x : Wish) (A : Option Addr) (n c : Nat) (A' : Option Addr) (n' c' : Nat) (B : Nat) (hx : WishIn w B x A n c A' n' c') (hB : B ≤ w.heap.size) (hm : mayB x = true) (hk : x.kind = 5) :
    Calls Tryz.prog 78 #[.pointer (some ⟨V.g, 0, none⟩), .agg (wCells x A n c A' n' c')] w fun r w' => r = .returned (.agg (ansP (sealV m x).2)) ∧ VDone w w' V N (sealV m x).1 L asked 3 := by
  obtain ⟨S, hd⟩ := h.dat
  have hcr := crewB_pos (may_seal hm hk)
  have HNL := Lib.hid hx.nlen
  have hok := hd.ok.sealed hm hk
  have hX : Below w.heap.size w ((w.alloc (.cells (wCells x A n c A' n' c') 44)).alloc (.cells (aC 0 none 0 0 0) 47)) := ((Below.refl _ _).alloc (Nat.le_refl _) _).alloc (by simp) _
  have k3 : Blk ((w.alloc (.cells (wCells x A n c A' n' c') 44)).alloc (.cells (aC 0 none 0 0 0) 47)) w.heap.size 44 (wCells x A n c A' n' c') := (Blk.newAt rfl).alloc _
  have k4 : Blk ((w.alloc (.cells (wCells x A n c A' n' c') 44)).alloc (.cells (aC 0 none 0 0 0) 47)) (w.heap.size + 1) 47 (aC 0 none 0 0 0) := Blk.newAt (by simp)
  have hz1 : ((w.alloc (.cells (wCells x A n c A' n' c') 44)).alloc (.cells (aC 0 none 0 0 0) 47)).heap.size = w.heap.size + 2 := by simp
  have hZ : aC 0 none 0 0 0 = #[.int .i64 0, .slice none 0 0, .int .i64 0, .slice none 0 0] := rfl
  have lg := hd.blk.lt
  have hep := hd.ok.epoch
  have HV := Lib.hid h
  have HD := Lib.hid hd
  have HBK := Lib.hid hbk
  have HIN := Lib.hid hin
  have HNN := Lib.hid hN
  have HXW := Lib.hid hx
  have HOK := Lib.hid hok
  have HX := Lib.hid hX
  have K3 := Lib.hid k3
  have K4 := Lib.hid k4
  have HZ1 := Lib.hid hz1
  obtain ⟨sv, hsv⟩ : ∃ p, p = sealV m x := ⟨_, rfl⟩
  have hsv2 : sv = match elseV m x.epoch with | some a => (m, a) | none => if m.epoch = 1048576 then (m, errA 5 0) else (⟨m.group, m.epoch, m.blocks, m.last, x.next⟩, okA) := by rw [hsv]; rfl
  rw [← hsv] at HOK ⊢
  have HSV := Lib.hid hsv2
  obtain ⟨g3, hg3⟩ : ∃ b, b = w.heap.size := ⟨_, rfl⟩
  obtain ⟨g4, hg4⟩ : ∃ b, b = w.heap.size + 1 := ⟨_, rfl⟩
  clear h hd hbk hin hN hx hok hX k3 k4 hz1 hsv hsv2
  go_enter Tryz.func78, Tryz.ntmps78
  go_upto_region 1 with fail
  rw [← hZ]
  generalize World.alloc (World.alloc w _) _ = w1 at HX K3 K4 HZ1 ⊢
  rw [← hg4] at K4 ⊢
  rw [← hg3] at K3 ⊢
  have hz1 := HZ1.out
  have hgw3 : w.heap.size ≤ g3 := by omega
  have hgw4 : w.heap.size ≤ g4 := by omega
  have hg34 : g3 ≠ g4 := by omega
  have hw1 : w.heap.size ≤ w1.heap.size := by omega
  have hl3 := K3.out.lt
  have hl4 := K4.out.lt
  have c33 : w1.cell? ⟨g3, 3, none⟩ = some (.int .i64 x.epoch) := (K3.out.cell 3).trans rfl
  have HEL := Lib.hid (velse_any w1 V.g _ N m S (HD.out.below HX.out) x.epoch)
  clear hg3 hg4 HZ1 hz1 hZ
  go_wp2_with fail
  refine HEL.out.mono ?_
  rintro _ w2 ⟨rfl, hb2⟩
  have HX2 := Lib.hid (HX.out.trans (hb2.mono hw1))
  have K32 := Lib.hid (K3.out.below' hb2)
  have K42 := Lib.hid (K4.out.below' hb2)
  have hs2 := hb2.size
  clear hb2 c33 HEL K3 K4 HX
  have hZ : aC 0 none 0 0 0 = #[.int .i64 0, .slice none 0 0, .int .i64 0, .slice none 0 0] := rfl
  cases hel : elseV m x.epoch with
  | some a =>
    obtain ⟨q, rfl⟩ := else_some hel
    have hs : sv = (m, errA 171 q) := by rw [HSV.out, hel]
    have HS := Lib.hid hs
    have HOE := Lib.hid (show ansC (some (errA 171 q)) = aC 171 none 0 0 (q : Int) from rfl)
    clear hel hs
    rw [HOE.out]
    go_upto_region 2 with (refine wpList_store_part (o := ⟨none, _, _, _, _, _⟩) rfl 47 (.tmp 5) (.tmp 9) rfl w2.heap.size 0 (aC 171 none 0 0 (q : Int)) rfl rfl 47 (aC 0 none 0 0 0) (Blk.newAt rfl) (aC_info _ _ _ _ _) (by simp [aC]) (aC_one _ _ _ _ _) ?_; intro w5 hT5 hD5; rw [aC_spl] at hD5)
    have hb5 : Below w2.heap.size w2 w5 := hT5.below ((Below.refl _ _).alloc (Nat.le_refl _) _) (Nat.le_refl _)
    have c50 : w5.cell? ⟨w2.heap.size, 0, none⟩ = some (.int .i64 171) := (hD5.cell 0).trans rfl
    have K45 := Lib.hid (K42.out.below' hb5)
    have HX5 := Lib.hid (HX2.out.trans (hb5.mono (by omega)))
    have HD5 := Lib.hid hD5
    obtain ⟨g5, hg5⟩ : ∃ g, g = w2.heap.size := ⟨_, rfl⟩
    rw [← hg5] at c50 HD5 ⊢
    clear hT5 hD5 hb5 hg5
    go_wp2_with (first
      | (refine wpList_load_part (o := ⟨some 13, _, _, _, _, _⟩) rfl 47 (.tmp 5) rfl g5 0 4 rfl 47 _ (aC 171 none 0 0 (q : Int)) _ HD5.out Tryz.underlying47 rfl rfl rfl (fun _ _ => by rw [Nat.zero_add]) ?_)
      | (refine wpList_store_part (o := ⟨none, _, _, _, _, _⟩) rfl 47 (.tmp 4) (.tmp 13) rfl g4 0 (aC 171 none 0 0 (q : Int)) rfl rfl 47 _ K45.out (aC_info _ _ _ _ _) (by simp [aC]) (aC_one _ _ _ _ _) ?_; intro w7 hT7 hD7; rw [aC_spl] at hD7))
    refine bodyPost_ret (results_part rfl _ _ g4 4 47 _ _ rfl hD7 Tryz.underlying47 rfl rfl rfl) rfl ?_
    rw [HS.out]
    exact ⟨rfl, VDone.same HV.out HBK.out HIN.out (hT7.below HX5.out hgw4)⟩
  | none =>
    have HEL := Lib.hid hel
    have HOE := Lib.hid (show ansC none = aC 0 none 0 0 0 from rfl)
    clear hel
    rw [HOE.out]
    go_upto_region 2 with (refine wpList_store_part (o := ⟨none, _, _, _, _, _⟩) rfl 47 (.tmp 5) (.tmp 9) rfl w2.heap.size 0 (aC 0 none 0 0 0) rfl rfl 47 (aC 0 none 0 0 0) (Blk.newAt rfl) (aC_info _ _ _ _ _) (by simp [aC]) (aC_one _ _ _ _ _) ?_; intro w5 hT5 hD5; rw [aC_spl] at hD5)
    have hb5 : Below w2.heap.size w2 w5 := hT5.below ((Below.refl _ _).alloc (Nat.le_refl _) _) (Nat.le_refl _)
    have c50 : w5.cell? ⟨w2.heap.size, 0, none⟩ = some (.int .i64 0) := (hD5.cell 0).trans rfl
    have K45 := Lib.hid (K42.out.below' hb5)
    have K35 := Lib.hid (K32.out.below' hb5)
    have HX5 := Lib.hid (HX2.out.trans (hb5.mono (by omega)))
    obtain ⟨g5, hg5⟩ : ∃ g, g = w2.heap.size := ⟨_, rfl⟩
    rw [← hg5] at c50 ⊢
    have hs5 := HX5.out.size
    have hs25 := hb5.size
    have c2 := (HD.out.below HX5.out).cEpoch
    clear hT5 hD5 hb5 hg5
    by_cases hmx : m.epoch = 1048576
    · have hs : sv = (m, errA 5 0) := by rw [HSV.out, HEL.out]; simp only; rw [if_pos hmx]
      have HS := Lib.hid hs
      have hmxI : (m.epoch : Int) = 1048576 := by omega
      clear hs
      rw [hmxI] at c2
      go_wp2_with (refine wpList_store_part (o := ⟨none, _, _, _, _, _⟩) rfl 47 (.tmp 4) (.tmp 19) rfl g4 0 (aC 5 none 0 0 0) rfl rfl 47 _ K45.out (aC_info _ _ _ _ _) (by simp [aC]) (aC_one _ _ _ _ _) ?_; intro w7 hT7 hD7; rw [aC_spl] at hD7)
      refine bodyPost_ret (results_part rfl _ _ g4 4 47 _ _ rfl hD7 Tryz.underlying47 rfl rfl rfl) rfl ?_
      rw [HS.out]
      exact ⟨rfl, VDone.same HV.out HBK.out HIN.out (hT7.below HX5.out hgw4)⟩
    · have hs : sv = (⟨m.group, m.epoch, m.blocks, m.last, x.next⟩, okA) := by rw [HSV.out, HEL.out]; simp only; rw [if_neg hmx]
      have HS := Lib.hid hs
      have hmxI : ¬ (m.epoch : Int) = 1048576 := by omega
      have hmxb : ((m.epoch : Int) == 1048576) = false := by simpa using hmxI
      have c39 : w5.cell? ⟨g3, 9, none⟩ = some (.slice A' n' c') := (K35.out.cell 9).trans rfl
      have hxn := (HXW.out.next.below (HX5.out.mono hB))
      have HCL := Lib.hid (cloneN_any A' n' c' x.next w5 B hxn (by omega) (by have := HNL.out; omega))
      clear hs hxn
      go_wp2_with fail
      refine HCL.out.mono ?_
      rintro _ w6 ⟨v, rfl, ho6, hb6⟩
      obtain ⟨A6, c6, hv6, hf6⟩ := FarN.of_own (w0 := w) (N := fun b => N b ∨ b = g4) ho6 (fun b hb => by rcases hb with hb | hb; have := HNN.out b hb; omega; omega)
      subst hv6
      have K46 := Lib.hid (K45.out.below' hb6)
      have HX6 := Lib.hid (HX5.out.trans (hb6.mono hs5))
      have HF6 := Lib.hid hf6
      have hs6 := hb6.size
      have hd6 := (HD.out.mono (N' := fun b => N b ∨ b = g4) (fun b hb hn => hn.elim id (fun e => by omega))).below HX6.out
      have c19 := hd6.cShut
      have f19 := hd6.blk.frozen 19
      obtain ⟨m', hm'⟩ : ∃ m' : VM, m' = ⟨m.group, m.epoch, m.blocks, m.last, x.next⟩ := ⟨_, rfl⟩
      have hB7 := hd6.blk.set_ 19 (.slice A6 x.next.length c6)
      rw [vC_setS _ m m' S A6 c6 _ (by rw [hm']) (by rw [hm']) (by rw [hm']) (by rw [hm']) (by rw [hm'])] at hB7
      have hT7 := Turned.setCell w6 ⟨V.g, 19, none⟩ (.slice A6 x.next.length c6)
      have HB7 := Lib.hid hB7
      have HT7 := Lib.hid hT7
      have HM := Lib.hid hm'
      have hok' : VOk m' := by have := HOK.out; rw [HS.out] at this; rw [hm']; exact this
      have HOK' := Lib.hid hok'
      rw [← hm'] at HS
      have HD6 := Lib.hid hd6
      clear ho6 hb6 hf6 hd6 hB7 hT7 hm' hok' c39 HCL c2 c50
      go_upto_region 7 with fail
      generalize w6.setCell ⟨V.g, 19, none⟩ (.slice A6 x.next.length c6) = w7 at HB7 HT7 ⊢
      have ho7 : Only (fun b => b = V.g) w6 w7 := Only.of_turned HT7.out rfl
      have hfar := HV.out.far
      have hNg : N V.g ∨ V.g = g4 := .inl (HV.out.all _ (.inl rfl))
      have hd7 : VDat w7 V.g (some ⟨V.T.t, 0, none⟩) (fun b => N b ∨ b = g4) m' (setS S A6 c6) := by
        refine ⟨HB7.out, fun i hi => ?_, fun i hi => ?_, ?_, HOK'.out⟩
        · have := (HD6.out.block i hi).only ho7 (fun b e => e ▸ hNg)
          have e : blockV m' i = blockV m i := by rw [HM.out]; rfl
          rw [e]; exact this
        · have := (HD6.out.last i hi).only ho7 (fun b e => e ▸ hNg)
          have e : lastV m' i = lastV m i := by rw [HM.out]; rfl
          rw [e]; exact this
        · have e : m'.shut = x.next := by rw [HM.out]
          rw [e]; exact HF6.out.only ho7 (fun b e => e ▸ hNg)
      have hv6 := HV.out.below HX6.out
      have HS7 := Lib.hid (vset_any w7 V.g 12 V.T V.k _ m' _ (leavesV m) L asked hd7 (by omega) (hv6.tree.only ho7 (fun b hb e => hfar.1 (e ▸ hb))) (leavesV_len m) ((HBK.out.below HX6.out).only ho7 (fun e => hfar.2 (.inl e.symm)) (fun e => hfar.2 (.inr (.inl e.symm))) (fun e => hfar.2 (.inr (.inr e.symm)))) (by omega))
      have hle : (leavesV m).set 12 (leafV m' 12) = leavesV m' := leaves_set1 (by omega) fun j hj hne => by
        rw [HM.out]
        unfold leafV
        by_cases h8 : j < 8
        · rw [if_pos h8, if_pos h8]; rfl
        · rw [if_neg h8, if_neg h8, if_pos (by omega), if_pos (by omega)]; rfl
      rw [hle] at HS7
      have HD7 := Lib.hid hd7
      have HO7 := Lib.hid ho7
      have K47 := Lib.hid (HT7.out.blk K46.out (by omega))
      have hs7 := ho7.size
      clear hd7 ho7 hle hv6
      go_wp2_with fail
      refine HS7.out.mono ?_
      rintro _ w8 ⟨rfl, hsb⟩
      have hv8 := hsb.only
      have hgs : ∀ b, V.T.mut b ∨ V.k.has b → b < w.heap.size := fun b hb => HNN.out b (HV.out.all b (.inr hb))
      have K48 := Lib.hid (hv8.blk K47.out (fun hb => by have := hgs g4 hb; omega))
      have HSB := Lib.hid hsb
      have hs8 := hv8.size
      clear hsb HS7 hv8
      go_wp2_with (refine wpList_store_part (o := ⟨none, _, _, _, _, _⟩) rfl 47 (.tmp 4) (.tmp 28) rfl g4 0 (aC 0 none 0 0 0) rfl rfl 47 _ K48.out (aC_info _ _ _ _ _) (by simp [aC]) (aC_one _ _ _ _ _) ?_; intro w9 hT9 hD9; rw [aC_spl] at hD9)
      refine bodyPost_ret (results_part rfl _ _ g4 4 47 _ _ rfl hD9 Tryz.underlying47 rfl rfl rfl) rfl ?_
      rw [HS.out]
      obtain ⟨L', a', q1, q2, q3, q4⟩ := HSB.out.book
      have ho9 : Only (fun b => b = g4) w8 w9 := Only.of_turned hT9 rfl
      have hg4N : ∀ b, N b → b ≠ g4 := fun b hb e => by have := HNN.out b hb; omega
      have hd9 := (HD7.out.only HSB.out.only (fun b hb => .inl (HV.out.all _ (.inr hb))) (by
        rintro (e | e)
        · exact hfar.1 (.inr (.inr e))
        · exact hfar.2 e))
      have hd10 : VDat w9 V.g (some ⟨V.T.t, 0, none⟩) N m' (setS S A6 c6) := by
        exact (hd9.only ho9 (fun b e => .inr e) (fun e => hg4N _ (HV.out.all _ (.inl rfl)) e)).mono fun b _ h => .inl h
      refine ⟨rfl, ⟨⟨_, hd10⟩, HSB.out.tree.only ho9 (fun b hb e => ?_), hfar, HV.out.all⟩, ⟨L', a', q1.only ho9 ?_ ?_ ?_, q2, q3, q4 L (fun _ h => h) HIN.out⟩, ?_⟩
      · have := HV.out.tree.lt hb; omega
      · exact fun e => hg4N _ (HV.out.all _ (.inr (.inr (.inl rfl)))) e
      · exact fun e => hg4N _ (HV.out.all _ (.inr (.inr (.inr (.inl rfl))))) e
      · exact fun e => hg4N _ (HV.out.all _ (.inr (.inr (.inr (.inr rfl))))) e
      · have h1 : Only V.has w w8 := ((Only.of_below HX6.out).trans (HO7.out.mono fun b _ e => .inl e)).trans (HSB.out.only.mono fun b _ e => .inr e)
        exact ⟨hT9.os.trans h1.os, hT9.tape.trans h1.tape, hT9.output.trans h1.output, by have := hT9.size; have := h1.size; omega, fun b hb hn => (hT9.block b (by omega)).trans (h1.block b hb hn)⟩

end Go.Proofs.YtcpngeiahgoacaaGreat

/- Contract of EqInts; wishes that are the same. -/
namespace Go.Proofs.YtcpngeiahgoacaaGreat
set_option linter.unusedVariables false
open Go.RowKit

theorem getElem?_vn {xs : List Int} {k : Nat} {u : Value} (h : (xs.map vn)[k]? = some u) : ∃ (hk : k < xs.length), u = .int .i64 xs[k] := by
  rw [List.getElem?_map] at h
  rcases Nat.lt_or_ge k xs.length with hk | hk
  · rw [List.getElem?_eq_getElem hk] at h
    injection h with h
    exact ⟨hk, h.symm⟩
  · rw [List.getElem?_eq_none hk] at h; cases h
set_option maxHeartbeats 400000 in
theorem eqInts_any (A B : Option Addr) (n m c d : Nat) (xs ys : List Int) (w : World) (Bx By : Nat) (ha : Reads w Bx 1 A n (xs.map vn)) (hb : Reads w By 1 B m (ys.map vn)) (hn : n ≤ maxLen) (hm : m ≤ maxLen) :
    Calls Tryz.prog 75 #[.slice A n c, .slice B m d] w fun e w' => e = .returned (.bool (decide (xs = ys))) ∧ ∃ k, w' = w.drewN k := by
  have hlx : xs.length = n := by have := ha.1; simpa using this
  have hly : ys.length = m := by have := hb.1; simpa using this
  unfold maxLen at hn hm
  by_cases hnm : n = m
  · subst hnm
    go_enter Tryz.func75, Tryz.ntmps75
    go_wp2
    go_loopw [5] (fun i wr => ∃ k q : Nat, k ≤ n ∧ i = .int .i64 k ∧ xs.take k = ys.take k ∧ wr = w.drewN q) (fun i _ => n - (intOf i).toNat)
    case atStart => exact ⟨0, 0, Nat.zero_le _, rfl, by simp, rfl⟩
    case round =>
      obtain ⟨k, q, hk, rfl, heq, rfl⟩ := hrel
      have HE := Lib.hid heq
      clear heq
      by_cases hlt : k < n
      · obtain ⟨ad, u, rfl, _, hx, hcx⟩ := ha.at_ hlt
        obtain ⟨bd, v, rfl, _, hy, hcy⟩ := hb.at_ hlt
        obtain ⟨hk1, rfl⟩ := getElem?_vn hx
        obtain ⟨hk2, rfl⟩ := getElem?_vn hy
        clear hx hy ha hb
        by_cases hne : xs[k] = ys[k]
        · have hz : (xs[k] != ys[k]) = false := by simp [hne]
          have HN := Lib.hid hne
          clear hne
          go_wp2
          go_quiet (fail)
          go_wp2
          go_roundw
          case rel => exact ⟨k + 1, _, by omega, by go_num, by rw [List.take_succ_eq_append_getElem hk1, List.take_succ_eq_append_getElem hk2, HE.out, HN.out], rfl⟩
          case measure => simp [intOf]; omega
        · have hz : (xs[k] != ys[k]) = true := by
            rw [bne_iff_ne]; intro e; exact hne e
          have HN := Lib.hid hne
          clear hne
          go_wp2
          go_quiet (fail)
          go_wp2
          go_ret
          exact ⟨ret_bool (by have := HN.out; symm; rw [decide_eq_false_iff_not]; rintro rfl; exact this rfl), _, World.drewN_drewN _ _ _⟩
      · have hkn : k = n := by omega
        have HK := Lib.hid hkn
        clear hkn
        go_wp2
        go_ret
        exact ⟨ret_bool (by symm; rw [decide_eq_true_iff]; have h1 := HE.out; rw [HK.out] at h1; rwa [List.take_of_length_le (by omega), List.take_of_length_le (by omega)] at h1), q, rfl⟩
  · have h0 : ((n : Int) != (m : Int)) = true := by rw [bne_iff_ne]; omega
    have HN := Lib.hid hnm
    clear hnm
    go_enter Tryz.func75, Tryz.ntmps75
    go_wp2
    go_ret
    exact ⟨ret_bool (by symm; rw [decide_eq_false_iff_not]; rintro rfl; exact HN.out (by omega)), 0, rfl⟩

def sameW (x y : Wish) : Bool := decide (x.client = y.client ∧ x.stamp = y.stamp ∧ x.group = y.group ∧ x.epoch = y.epoch ∧ x.kind = y.kind ∧ x.block = y.block ∧ x.data = y.data ∧ x.old = y.old ∧ x.new = y.new ∧ x.next = y.next)
end Go.Proofs.YtcpngeiahgoacaaGreat

/- Wishes that are the same: contracts of EqInts, slices.Equal, bytes.Equal, wish.Same, bastideref11.Same. -/
namespace Go.Proofs.YtcpngeiahgoacaaGreat
set_option linter.unusedVariables false
open Go.RowKit

theorem conv_bytes {W : World} {B n c : Nat} {A : Option Addr} {xs : List UInt8} (h : Reads W B 1 A n (xs.map vb)) : (convert 22 9 (.slice A n c)).run Tryz.prog W = .ok (.string ⟨xs.toArray⟩) W := by
  have hn : xs.length = n := by have := h.1; simpa using this
  rcases Nat.eq_zero_or_pos n with h0 | h0
  · subst h0
    have hx : xs = [] := List.eq_nil_of_length_eq_zero hn
    subst hx
    cases A with
    | none => exact run_convert_bytes_nil W 22 5 Tryz.underlying22 Tryz.underlying5 0 c 9 Tryz.underlying9
    | some ad => exact run_convert_bytes_back W 22 9 5 ad c [] Tryz.underlying22 Tryz.underlying5 Tryz.underlying9 (fun j hj => by simp at hj)
  · obtain ⟨ad, rfl, _, hc⟩ := h.2 h0
    rw [← hn]
    exact run_convert_bytes_back W 22 9 5 ad c xs Tryz.underlying22 Tryz.underlying5 Tryz.underlying9 (fun j hj => hc j _ (by rw [List.getElem?_map, List.getElem?_eq_getElem hj]; rfl))
theorem bEqual_any (A B : Option Addr) (n m c d : Nat) (xs ys : List UInt8) (w : World) (Bx By : Nat) (ha : Reads w Bx 1 A n (xs.map vb)) (hb : Reads w By 1 B m (ys.map vb)) :
    Calls Tryz.prog 81 #[.slice A n c, .slice B m d] w fun e w' => e = .returned (.bool (decide (xs = ys))) ∧ ∃ k, w' = w.drewN k := by
  have h1 := conv_bytes (c := c) ha
  have h2 := conv_bytes (c := d) hb
  clear ha hb
  go_enter Tryz.func81, Tryz.ntmps81
  go_wp2_with fail
  go_ret
  refine ⟨ret_bool ?_, 0, rfl⟩
  rw [Bool.eq_iff_iff]; simp

end Go.Proofs.YtcpngeiahgoacaaGreat
