/- Parts of the proof, in one text: VoC, VaultO. -/
import Derived.Test.YtcpngeiahgoacaaGreatZ14
import Derived.Test.YtcpngeiahgoacaaGreatZ19
import Derived.BigRegion
import Derived.Deep.DeepCutAuto

/- A vault under way of being opened: its fields, one by one. -/
namespace Go.Proofs.YtcpngeiahgoacaaGreat
set_option linter.unusedVariables false
open Go.RowKit Go.Maps

/-- a vault's fields, whatever they say -/
structure VRaw (w : World) (g : Nat) (t : Option Addr) (N : Nat → Prop) (m : VM) (S : VSl) : Prop where
  blk : Blk w g 73 (vC t m S)
  block : ∀ i, i < 8 → Far w N (S.bA i) (S.bC i) (blockV m i)
  last : ∀ i, i < 4 → Far w N (S.lA i) (S.lC i) (lastV m i).2
  shut : FarN w N S.sA S.sC m.shut
  lb : m.blocks.length = 8
  ll : m.last.length = 4
theorem VRaw.only {w w' : World} {g : Nat} {t : Option Addr} {N M : Nat → Prop} {m : VM} {S : VSl} (h : VRaw w g t N m S) (ho : Only M w w') (hM : ∀ b, M b → N b) (hg : ¬ M g) : VRaw w' g t N m S :=
  ⟨ho.blk h.blk hg, fun i hi => (h.block i hi).only ho hM, fun i hi => (h.last i hi).only ho hM, h.shut.only ho hM, h.lb, h.ll⟩
theorem VRaw.below {w w' : World} {g : Nat} {t : Option Addr} {N : Nat → Prop} {m : VM} {S : VSl} (h : VRaw w g t N m S) (hb : Below w.heap.size w w') : VRaw w' g t N m S :=
  h.only (M := fun _ => False) (Only.of_below hb) (fun _ h => h.elim) (fun h => h)
theorem VRaw.done {w : World} {g : Nat} {t : Option Addr} {N : Nat → Prop} {m : VM} {S : VSl} (h : VRaw w g t N m S) (hk : VOk m) : VDat w g t N m S := ⟨h.blk, h.block, h.last, h.shut, hk⟩
def rawV : VM := ⟨0, 0, List.replicate 8 [], List.replicate 4 (0, []), []⟩
def rawS : VSl := ⟨fun _ => none, fun _ => 0, fun _ => none, fun _ => 0, none, 0⟩
theorem rawC : vC none rawV rawS = #[.pointer none, .int .i64 0, .int .i64 0, .slice none 0 0, .slice none 0 0, .slice none 0 0, .slice none 0 0, .slice none 0 0, .slice none 0 0, .slice none 0 0, .slice none 0 0, .int .i64 0, .slice none 0 0, .int .i64 0, .slice none 0 0, .int .i64 0, .slice none 0 0, .int .i64 0, .slice none 0 0, .slice none 0 0] := by kernel_rfl
theorem VRaw.new (w : World) (N : Nat → Prop) {g : Nat} (hg : g = w.heap.size) : VRaw (w.alloc (.cells (vC none rawV rawS) 73)) g none N rawV rawS := by
  refine ⟨Blk.newAt hg, fun i hi => ?_, fun i hi => ?_, FarN.nil _ _, by simp [rawV], by simp [rawV]⟩
  · have : blockV rawV i = [] := by
      unfold blockV rawV
      simp only [List.getD_eq_getElem?_getD, List.getElem?_replicate]
      split <;> rfl
    rw [this]; exact Far.nil _ _
  · have : lastV rawV i = (0, []) := by
      unfold lastV rawV
      simp only [List.getD_eq_getElem?_getD, List.getElem?_replicate]
      split <;> rfl
    rw [this]; exact Far.nil _ _
theorem VRaw.setB {w w' : World} {g : Nat} {t : Option Addr} {N : Nat → Prop} {m : VM} {S : VSl} {b : Nat} {d : List UInt8} {A : Option Addr} {c : Nat} (h : VRaw w g t N m S) (hT : Turned g w w') (hN : N g) (hB : Blk w' g 73 ((vC t m S).setIfInBounds (3 + b) (.slice A d.length c))) (hb : b < 8) (hf : Far w' N A c d) : VRaw w' g t N (Go.Proofs.YtcpngeiahgoacaaGreat.setB m b d) (sBlock S b A c) := by
  have hz : (vC t m S).size = 20 := vC_size _ _ _
  have ho : Only (fun b => b = g) w w' := Only.of_turned hT rfl
  have hB' : ((vC t m S).setIfInBounds (3 + b) (.slice A d.length c)) = vC t (Go.Proofs.YtcpngeiahgoacaaGreat.setB m b d) (sBlock S b A c) := by
    refine vC_blk h.lb hb (by simp [hz]) ?_ ?_
    · rw [Array.getElem?_setIfInBounds, if_pos rfl, hz, if_pos (by omega)]
    · intro i hi h0
      rw [Array.getElem?_setIfInBounds, if_neg (by omega)]
  refine ⟨by rw [← hB']; exact hB, fun i hi => ?_, fun i hi => ?_, ?_, by show (m.blocks.set b d).length = 8; rw [List.length_set]; exact h.lb, h.ll⟩
  · rw [setB_block m b i _ h.lb hb]
    by_cases e : i = b
    · subst e
      rw [if_pos rfl]
      simp only [sBlock, if_true]
      exact hf
    · rw [if_neg e]
      simp only [sBlock, if_neg e]
      exact (h.block i hi).only ho (fun b e => e ▸ hN)
  · exact (h.last i hi).only ho (fun b e => e ▸ hN)
  · exact h.shut.only ho (fun b e => e ▸ hN)
theorem VRaw.setL {w w' : World} {g : Nat} {t : Option Addr} {N : Nat → Prop} {m : VM} {S : VSl} {j st : Nat} {d : List UInt8} {A : Option Addr} {c : Nat} (h : VRaw w g t N m S) (hT : Turned g w w') (hN : N g) (hB : Blk w' g 73 (spl (vC t m S) (11 + j * 2) [.int .i64 (st : Int), .slice A d.length c])) (hj : j < 4) (hf : Far w' N A c d) : VRaw w' g t N (Go.Proofs.YtcpngeiahgoacaaGreat.setL m j (st, d)) (sLast S j A c) := by
  have hz : 11 + j * 2 + 2 ≤ (vC t m S).size := by rw [vC_size]; omega
  have ho : Only (fun b => b = g) w w' := Only.of_turned hT rfl
  have hB' : spl (vC t m S) (11 + j * 2) [.int .i64 (st : Int), .slice A d.length c] = vC t (Go.Proofs.YtcpngeiahgoacaaGreat.setL m j (st, d)) (sLast S j A c) :=
    vC_last h.ll hj (by rw [spl2_size hz, vC_size]) (spl2_at hz) (spl2_at1 hz) (fun i hi h0 h1 => spl2_else hz h0 h1)
  refine ⟨by rw [← hB']; exact hB, fun i hi => ?_, fun i hi => ?_, ?_, h.lb, by show (m.last.set j (st, d)).length = 4; rw [List.length_set]; exact h.ll⟩
  · exact (h.block i hi).only ho (fun b e => e ▸ hN)
  · rw [setL_last m j i _ h.ll hj]
    by_cases e : i = j
    · subst e
      rw [if_pos rfl]
      simp only [sLast, if_true]
      exact hf
    · rw [if_neg e]
      simp only [sLast, if_neg e]
      exact (h.last i hi).only ho (fun b e => e ▸ hN)
  · exact h.shut.only ho (fun b e => e ▸ hN)
/-- the head and the seal -/
theorem VRaw.setH {w w' : World} {g : Nat} {t : Option Addr} {N : Nat → Prop} {m : VM} {S : VSl} {q e : Nat} {l : List Int} {A : Option Addr} {c : Nat} (h : VRaw w g t N m S) (ho : Only (fun b => b = g) w w') (hN : N g) (hB : Blk w' g 73 ((((vC t m S).setIfInBounds 1 (.int .i64 (q : Int))).setIfInBounds 2 (.int .i64 (e : Int))).setIfInBounds 19 (.slice A l.length c))) (hf : FarN w' N A c l) : VRaw w' g t N ⟨q, e, m.blocks, m.last, l⟩ (setS S A c) := by
  have hz : (vC t m S).size = 20 := vC_size _ _ _
  have hB' : (((vC t m S).setIfInBounds 1 (.int .i64 (q : Int))).setIfInBounds 2 (.int .i64 (e : Int))).setIfInBounds 19 (.slice A l.length c) = vC t ⟨q, e, m.blocks, m.last, l⟩ (setS S A c) := by
    have hs : (((vC t m S).setIfInBounds 1 (.int .i64 (q : Int))).setIfInBounds 2 (.int .i64 (e : Int))).size = 20 := by simp [hz]
    refine vC_eq (by simp [hz]) ?_ ?_ ?_ (fun i hi => ?_) (fun i hi => ?_) (fun i hi => ?_) ?_
    · rw [Array.getElem?_setIfInBounds, if_neg (by omega), Array.getElem?_setIfInBounds, if_neg (by omega), Array.getElem?_setIfInBounds, if_neg (by omega), vC_tree]
    · rw [Array.getElem?_setIfInBounds, if_neg (by omega), Array.getElem?_setIfInBounds, if_neg (by omega), Array.getElem?_setIfInBounds, if_pos rfl, hz, if_pos (by omega)]
    · rw [Array.getElem?_setIfInBounds, if_neg (by omega), Array.getElem?_setIfInBounds, if_pos rfl, Array.size_setIfInBounds, hz, if_pos (by omega)]
    · rw [Array.getElem?_setIfInBounds, if_neg (by omega), Array.getElem?_setIfInBounds, if_neg (by omega), Array.getElem?_setIfInBounds, if_neg (by omega), vC_block _ _ _ _ hi]; rfl
    · rw [Array.getElem?_setIfInBounds, if_neg (by omega), Array.getElem?_setIfInBounds, if_neg (by omega), Array.getElem?_setIfInBounds, if_neg (by omega), vC_stamp _ _ _ _ hi]; rfl
    · rw [Array.getElem?_setIfInBounds, if_neg (by omega), Array.getElem?_setIfInBounds, if_neg (by omega), Array.getElem?_setIfInBounds, if_neg (by omega), vC_data _ _ _ _ hi]; rfl
    · rw [Array.getElem?_setIfInBounds, if_pos rfl, hs, if_pos (by omega)]; rfl
  refine ⟨by rw [← hB']; exact hB, fun i hi => (h.block i hi).only ho (fun b e => e ▸ hN), fun i hi => (h.last i hi).only ho (fun b e => e ▸ hN), hf, h.lb, h.ll⟩
/-- the first i blocks and the first j clients of leaves -/
def midO (ls : List (List UInt8)) (i j : Nat) : VM := ⟨0, 0, ls.take i ++ List.replicate (8 - i) [], (List.range j).map (fun k => (clientOf (ls.getD (8 + k) [])).getD (0, [])) ++ List.replicate (4 - j) (0, []), []⟩
theorem midO_zero (ls : List (List UInt8)) : midO ls 0 0 = rawV := by simp [midO, rawV]
theorem midO_block {ls : List (List UInt8)} {i j : Nat} (hl : 8 ≤ ls.length) (hi : i < 8) : Go.Proofs.YtcpngeiahgoacaaGreat.setB (midO ls i j) i (ls.getD i []) = midO ls (i + 1) j := by
  unfold Go.Proofs.YtcpngeiahgoacaaGreat.setB midO
  simp only
  congr 1
  have hlt : (ls.take i).length = i := by rw [List.length_take]; omega
  rw [List.set_append_right _ _ (by omega), hlt, Nat.sub_self, show 8 - i = (8 - (i + 1)) + 1 by omega, List.replicate_succ, List.set_cons_zero, List.take_succ_eq_append_getElem (by omega), List.append_assoc, List.getD_eq_getElem?_getD, List.getElem?_eq_getElem (by omega)]
  rfl
theorem midO_client {ls : List (List UInt8)} {i j : Nat} (hj : j < 4) : Go.Proofs.YtcpngeiahgoacaaGreat.setL (midO ls i j) j ((clientOf (ls.getD (8 + j) [])).getD (0, [])) = midO ls i (j + 1) := by
  unfold Go.Proofs.YtcpngeiahgoacaaGreat.setL midO
  simp only
  congr 1
  rw [List.set_append_right _ _ (by simp), show j - ((List.range j).map fun k => (clientOf (ls.getD (8 + k) [])).getD (0, [])).length = 0 by simp, show 4 - j = (4 - (j + 1)) + 1 by omega, List.replicate_succ, List.set_cons_zero, List.range_succ, List.map_append, List.append_assoc]
  rfl
theorem midO_end {ls : List (List UInt8)} {l : List Nat} (hl : ls.length = 13) : (⟨l.getD 0 0, l.getD 1 0, (midO ls 8 4).blocks, (midO ls 8 4).last, nI (l.drop 3)⟩ : VM) = openM ls l := by
  unfold openM midO nI
  simp

end Go.Proofs.YtcpngeiahgoacaaGreat

/- Contract of a vault's Do, where a wish is new: it is answered elsewhere, or it is done. -/
namespace Go.Proofs.YtcpngeiahgoacaaGreat
set_option linter.unusedVariables false
open Go.RowKit Go.Maps

attribute [local irreducible] wpList
theorem aC_spl_any (e : Int) (A : Option Addr) (n c : Nat) (p : Int) (D : Array Value) (h : D.size = 4) : spl (aC e A n c p) 0 D.toList = D := spl_self _ _ (by rw [h]; rfl)

set_option maxRecDepth 100000 in
set_option maxHeartbeats 16000000 in
theorem vDo_late (w : World) (V : VLoc) (N : Nat → Prop) (m : VM) (L : List (List UInt8)) (asked : Nat) (h : VAt w V N m) (hN : ∀ b, N b → b < w.heap.size) (hbk : BookAt w V.k L asked) (hin : InBook L (leavesV m)) (has : asked ≤ 700000)
    (x : Wish) (A : Option Addr) (n c : Nat) (A' : Option Addr) (n' c' : Nat) (B : Nat) (hx : WishIn w B x A n c A' n' c') (hB : B ≤ w.heap.size) (hap : ∀ a, 0 < n → A = some a → a.block ≠ V.g)
    (hmb : mayB x = true) (hgq : x.group = (m.group : Int)) (hk5 : x.kind ≠ 5) (hol : oldV m x = none) :
    Calls Tryz.prog 20 #[.pointer (some ⟨V.g, 0, none⟩), .agg (wCells x A n c A' n' c')] w (DoPost w V N L asked (doV m x)) := by
  have hcl := may_client hmb hk5
  have hbg := may_group hmb hk5 (by have := h.dat; obtain ⟨S, hd⟩ := this; have := hd.ok.group; omega)
  obtain ⟨j, hjd⟩ : ∃ j, j = (x.client - 31).toNat := ⟨_, rfl⟩
  obtain ⟨b, hbd⟩ : ∃ b, b = x.block.toNat := ⟨_, rfl⟩
  obtain ⟨st, hsd⟩ : ∃ s, s = x.stamp.toNat := ⟨_, rfl⟩
  have hj4 : j < 4 := by omega
  have hb8 : b < 8 := by omega
  have hst1 : 0 < st := by omega
  have hstn : st ≤ maxN := by unfold maxN; omega
  have hjI : (j : Int) < 4 := by omega
  have hbI : (b : Int) < 8 := by omega
  have hdv : doV m x = match elseV m x.epoch with | some a => (m, a, 0) | none => ((ranV m x).1, dataA (ranV m x).2, 0) := by
    unfold doV inV; rw [hmb, decide_eq_true hgq, hol]; simp only [Bool.and_self, if_true, if_neg hk5]
    cases elseV m x.epoch <;> rfl
  have hcI : x.client - 31 = (j : Int) := by omega
  have hcE : x.client = 31 + (j : Int) := by omega
  have hbE : x.block = (b : Int) := by omega
  have hsE : x.stamp = (st : Int) := by omega
  have HCI := Lib.hid hcI
  have HCE := Lib.hid hcE
  have HBE := Lib.hid hbE
  have HSE := Lib.hid hsE
  have HJD := Lib.hid hjd
  have HBD := Lib.hid hbd
  have HSD := Lib.hid hsd
  have HDV := Lib.hid hdv
  have HBG := Lib.hid hbg
  have HCL := Lib.hid hcl
  clear hcI hcE hbE hsE hjd hbd hsd hdv hbg hcl
  obtain ⟨S, hd⟩ := h.dat
  have hX : Below w.heap.size w ((w.alloc (.cells (wCells x A n c A' n' c') 44)).alloc (.cells (aC 0 none 0 0 0) 47)) := ((Below.refl _ _).alloc (Nat.le_refl _) _).alloc (by simp) _
  have k3 : Blk ((w.alloc (.cells (wCells x A n c A' n' c') 44)).alloc (.cells (aC 0 none 0 0 0) 47)) w.heap.size 44 (wCells x A n c A' n' c') := (Blk.newAt rfl).alloc _
  have k4 : Blk ((w.alloc (.cells (wCells x A n c A' n' c') 44)).alloc (.cells (aC 0 none 0 0 0) 47)) (w.heap.size + 1) 47 (aC 0 none 0 0 0) := Blk.newAt (by simp)
  have hz1 : ((w.alloc (.cells (wCells x A n c A' n' c') 44)).alloc (.cells (aC 0 none 0 0 0) 47)).heap.size = w.heap.size + 2 := by simp
  have hZ : aC 0 none 0 0 0 = #[.int .i64 0, .slice none 0 0, .int .i64 0, .slice none 0 0] := rfl
  have lg := hd.blk.lt
  have hgr := hd.ok.group
  have HV := Lib.hid h
  have HD := Lib.hid hd
  have HBK := Lib.hid hbk
  have HIN := Lib.hid hin
  have HNN := Lib.hid hN
  have HXW := Lib.hid hx
  have HAP := Lib.hid hap
  have HX := Lib.hid hX
  have K3 := Lib.hid k3
  have K4 := Lib.hid k4
  have HZ1 := Lib.hid hz1
  obtain ⟨g3, hg3⟩ : ∃ b, b = w.heap.size := ⟨_, rfl⟩
  obtain ⟨g4, hg4⟩ : ∃ b, b = w.heap.size + 1 := ⟨_, rfl⟩
  obtain ⟨p, hp⟩ : ∃ p, p = doV m x := ⟨_, rfl⟩
  rw [← hp]
  have HP := Lib.hid hp
  clear h hd hbk hin hN hx hX k3 k4 hz1 hap hp
  go_enter Tryz.func20, Tryz.ntmps20
  go_upto_region 1 with fail
  rw [← hZ]
  generalize World.alloc (World.alloc w _) _ = w1 at HX K3 K4 HZ1 ⊢
  rw [← hg4] at K4 ⊢
  rw [← hg3] at K3 ⊢
  have hz1 := HZ1.out
  have hgw3 : w.heap.size ≤ g3 := by omega
  have hgw4 : w.heap.size ≤ g4 := by omega
  have hg34 : g3 ≠ g4 := by omega
  have hw1 : w.heap.size ≤ w1.heap.size := by omega
  have hl3 := K3.out.lt
  have hl4 := K4.out.lt
  have hv1 := HV.out.below HX.out
  have HNO := Lib.hid (vNone_any w1 V.g V.T.t hv1.none_)
  have HCK0 := Lib.hid (fun (W : World) (hb : Below w1.heap.size w1 W) => check_any x A n c A' n' c' W B (HXW.out.below ((HX.out.trans (hb.mono hw1)).mono hB)) (by have := hb.size; omega))
  have c32 : ∀ W, Below w1.heap.size w1 W → W.cell? ⟨g3, 2, none⟩ = some (.int .i64 x.group) := fun W hb => ((K3.out.below' hb).cell 2).trans (rfl : (wCells x A n c A' n' c')[2]? = some (.int .i64 x.group))
  have cg := fun (W : World) (hb : Below w1.heap.size w1 W) => ((HD.out.below HX.out).below hb).cGroup
  have C32 := Lib.hid c32
  have CG := Lib.hid cg
  clear hg3 hg4 HZ1 hz1 hZ hv1 c32 cg
  go_wp2_with fail
  refine HNO.out.mono ?_
  rintro _ _ ⟨rfl, rfl⟩
  go_upto_region 3 with fail
  clear HNO
  have HCK := Lib.hid (show ∀ W, Below w1.heap.size w1 W → Calls Tryz.prog 77 #[.agg (wCells x A n c A' n' c')] W fun e w' => e = .returned (.int .i64 0) ∧ Below W.heap.size W w' from fun W hb => by have h := HCK0.out W hb; rw [hmb] at h; exact h)
  have HMB := Lib.hid hmb
  clear hmb HCK0
  have c32 := C32.out
  have cg := CG.out
  have hgb : (x.group != (m.group : Int)) = false := by simpa using hgq
  refine wp_region_calm0 12 109 (by kernel_rfl) (by kernel_rfl) (by kernel_rfl) (by simp) ?_
  simp only [List.take_succ_cons, List.take_zero, List.drop_succ_cons, List.drop_zero]
  refine wpCalm_load_part rfl 44 (.tmp 3) rfl g3 0 10 rfl 44 _ (wCells x A n c A' n' c') _ K3.out Tryz.underlying44 rfl rfl rfl (fun _ _ => by rw [Nat.zero_add]) ?_
  try simp only [Act.put, List.setIfInBounds_toArray, List.set_cons_zero, List.set_cons_succ]
  refine wpCalm_call rfl rfl 77 #[.agg (wCells x A n c A' n' c')] (fun W => by go_simp) (.int .i64 0) (fun W hb => HCK.out W hb) ?_
  try simp only [Act.put, List.setIfInBounds_toArray, List.set_cons_zero, List.set_cons_succ]
  refine wpCalm_value rfl rfl (.bool false) (fun W _ => by go_simp) ?_
  try simp only [Act.put, List.setIfInBounds_toArray, List.set_cons_zero, List.set_cons_succ]
  refine wpCalm_value rfl rfl (.bool false) (fun W _ => rfl) ?_
  try simp only [Act.put, List.setIfInBounds_toArray, List.set_cons_zero, List.set_cons_succ]
  refine wpCalm_value rfl rfl (.pointer (some ⟨g3, 2, none⟩)) (fun W _ => by go_simp) ?_
  try simp only [Act.put, List.setIfInBounds_toArray, List.set_cons_zero, List.set_cons_succ]
  refine wpCalm_below rfl rfl (.int .i64 x.group) (fun W hb => by have := c32 W hb; go_simp) ?_
  try simp only [Act.put, List.setIfInBounds_toArray, List.set_cons_zero, List.set_cons_succ]
  refine wpCalm_value rfl rfl (.pointer (some ⟨V.g, 0, none⟩)) (fun W _ => rfl) ?_
  try simp only [Act.put, List.setIfInBounds_toArray, List.set_cons_zero, List.set_cons_succ]
  refine wpCalm_value rfl rfl (.pointer (some ⟨V.g, 0, none⟩)) (fun W _ => by go_simp) ?_
  try simp only [Act.put, List.setIfInBounds_toArray, List.set_cons_zero, List.set_cons_succ]
  refine wpCalm_value rfl rfl (.pointer (some ⟨V.g, 1, none⟩)) (fun W _ => by go_simp) ?_
  try simp only [Act.put, List.setIfInBounds_toArray, List.set_cons_zero, List.set_cons_succ]
  refine wpCalm_below rfl rfl (.int .i64 (m.group : Int)) (fun W hb => by have := cg W hb; go_simp) ?_
  try simp only [Act.put, List.setIfInBounds_toArray, List.set_cons_zero, List.set_cons_succ]
  refine wpCalm_value rfl rfl (.bool false) (fun W _ => by go_simp) ?_
  try simp only [Act.put, List.setIfInBounds_toArray, List.set_cons_zero, List.set_cons_succ]
  refine wpCalm_value rfl rfl (.bool false) (fun W _ => by go_simp) ?_
  try simp only [Act.put, List.setIfInBounds_toArray, List.set_cons_zero, List.set_cons_succ]
  refine wpCalm_nil ?_
  intro w2 hb2
  have K32 := Lib.hid (K3.out.below' hb2)
  have K42 := Lib.hid (K4.out.below' hb2)
  have HX2 := Lib.hid (HX.out.trans (hb2.mono hw1))
  have hw12 := hb2.size
  have HGQ := Lib.hid hgq
  have HK5 := Lib.hid hk5
  clear hb2 c32 cg hgb hgq
  have c34 : w2.cell? ⟨g3, 4, none⟩ = some (.int .i64 x.kind) := (K32.out.cell 4).trans rfl
  have hk5b : (x.kind == 5) = false := by simpa using hk5
  have HOL := Lib.hid (vold_any w2 V.g _ N m S (HD.out.below HX2.out) x A n c A' n' c' ⟨HCL.out.1, HCL.out.2.1⟩)
  rw [hol] at HOL
  clear hol hk5
  go_wp2_with (refine wpList_load_part (o := ⟨some 38, _, _, _, _, _⟩) rfl 44 (.tmp 3) rfl g3 0 10 rfl 44 _ (wCells x A n c A' n' c') _ K32.out Tryz.underlying44 rfl rfl rfl (fun _ _ => by rw [Nat.zero_add]) ?_)
  refine HOL.out.mono ?_
  rintro _ w3 ⟨D, rfl, ⟨A3, q3, hDe, ho3⟩, hb3⟩
  simp only [Option.isSome_none]
  have hDs : D.size = 4 := by rw [hDe]; rfl
  have hDo : D.all (·.oneCell') = true := by rw [hDe]; exact aC_one _ _ _ _ _
  have HDS := Lib.hid hDs
  have HDO := Lib.hid hDo
  have K33 := Lib.hid (K32.out.below' hb3)
  have K43 := Lib.hid (K42.out.below' hb3)
  have HX3 := Lib.hid (HX2.out.trans (hb3.mono (by omega)))
  have hs3 := hb3.size
  clear ho3 hb3 HOL hDe hDs hDo c34 K32 K42
  go_upto_region 8 with (refine wpList_store_part (o := ⟨none, _, _, _, _, _⟩) rfl 47 (.tmp 6) (.tmp 40) rfl w3.heap.size 0 D rfl rfl 47 (aC 0 none 0 0 0) (Blk.newAt rfl) (by rw [HDS.out]; kernel_rfl) (by rw [HDS.out]; simp [aC]) HDO.out ?_; intro w5 hT5 hD5; rw [aC_spl_any _ _ _ _ _ _ HDS.out] at hD5)
  have hb5 : Below w3.heap.size w3 w5 := hT5.below ((Below.refl _ _).alloc (Nat.le_refl _) _) (Nat.le_refl _)
  have K35 := Lib.hid (K33.out.below' hb5)
  have K45 := Lib.hid (K43.out.below' hb5)
  have HX5 := Lib.hid (HX3.out.trans (hb5.mono (by omega)))
  have hs5 := hb5.size
  obtain ⟨g6, hg6⟩ : ∃ g, g = w3.heap.size := ⟨_, rfl⟩
  rw [← hg6]
  clear hT5 hD5 hb5 hg6 K33 K43
  go_upto_region 10 with fail
  have c30 : ∀ W, Below w5.heap.size w5 W → W.cell? ⟨g3, 0, none⟩ = some (.int .i64 x.client) := fun W hb => ((K35.out.below' hb).cell 0).trans rfl
  refine wp_region_calm0 7 109 (by kernel_rfl) (by kernel_rfl) (by kernel_rfl) (by simp) ?_
  simp only [List.take_succ_cons, List.take_zero, List.drop_succ_cons, List.drop_zero]
  refine wpCalm_value rfl rfl (.pointer (some ⟨V.g, 0, none⟩)) (fun W _ => rfl) ?_
  try simp only [Act.put, List.setIfInBounds_toArray, List.set_cons_zero, List.set_cons_succ]
  refine wpCalm_value rfl rfl (.pointer (some ⟨g3, 0, none⟩)) (fun W _ => by go_simp) ?_
  try simp only [Act.put, List.setIfInBounds_toArray, List.set_cons_zero, List.set_cons_succ]
  refine wpCalm_below rfl rfl (.int .i64 x.client) (fun W hb => by have := c30 W hb; go_simp) ?_
  try simp only [Act.put, List.setIfInBounds_toArray, List.set_cons_zero, List.set_cons_succ]
  refine wpCalm_value rfl rfl (.int .i64 (j : Int)) (fun W _ => by go_simp; rw [IntKind.wrap_i64]; have := HCI.out; omega) ?_
  try simp only [Act.put, List.setIfInBounds_toArray, List.set_cons_zero, List.set_cons_succ]
  refine wpCalm_value rfl rfl (.pointer (some ⟨V.g, 0, none⟩)) (fun W _ => by go_simp) ?_
  try simp only [Act.put, List.setIfInBounds_toArray, List.set_cons_zero, List.set_cons_succ]
  refine wpCalm_value rfl rfl (.pointer (some ⟨V.g, 11, none⟩)) (fun W _ => by go_simp) ?_
  try simp only [Act.put, List.setIfInBounds_toArray, List.set_cons_zero, List.set_cons_succ]
  refine wpCalm_value rfl rfl (.pointer (some ⟨V.g, 11 + j * 2, none⟩)) (fun W _ => by go_simp) ?_
  try simp only [Act.put, List.setIfInBounds_toArray, List.set_cons_zero, List.set_cons_succ]
  refine wpCalm_nil ?_
  intro w6 hb6
  have K36 := Lib.hid (K35.out.below' hb6)
  have K46 := Lib.hid (K45.out.below' hb6)
  have HX6 := Lib.hid (HX5.out.trans (hb6.mono (by omega)))
  have hs6 := hb6.size
  have c33 : w6.cell? ⟨g3, 3, none⟩ = some (.int .i64 x.epoch) := (K36.out.cell 3).trans rfl
  have HEL := Lib.hid (velse_any w6 V.g _ N m S (HD.out.below HX6.out) x.epoch)
  clear hb6 c30 K35 K45
  go_wp2_with fail
  refine HEL.out.mono ?_
  rintro _ w7 ⟨rfl, hb7⟩
  have K37 := Lib.hid (K36.out.below' hb7)
  have K47 := Lib.hid (K46.out.below' hb7)
  have HX7 := Lib.hid (HX6.out.trans (hb7.mono (by omega)))
  have hs7 := hb7.size
  clear hb7 c33 HEL K36 K46
  cases hel : elseV m x.epoch with
  | some a =>
    obtain ⟨q, rfl⟩ := else_some hel
    have hs : p = (m, errA 171 q, 0) := by rw [HP.out, HDV.out, hel]
    have HS := Lib.hid hs
    have HOE := Lib.hid (show ansC (some (errA 171 q)) = aC 171 none 0 0 (q : Int) from rfl)
    clear hel hs
    rw [HOE.out]
    go_upto_region 12 with (refine wpList_store_part (o := ⟨none, _, _, _, _, _⟩) rfl 47 (.tmp 9) (.tmp 54) rfl w7.heap.size 0 (aC 171 none 0 0 (q : Int)) rfl rfl 47 (aC 0 none 0 0 0) (Blk.newAt rfl) (aC_info _ _ _ _ _) (by simp [aC]) (aC_one _ _ _ _ _) ?_; intro w8 hT8 hD8; rw [aC_spl] at hD8)
    have hb8 : Below w7.heap.size w7 w8 := hT8.below ((Below.refl _ _).alloc (Nat.le_refl _) _) (Nat.le_refl _)
    have c80 : w8.cell? ⟨w7.heap.size, 0, none⟩ = some (.int .i64 171) := (hD8.cell 0).trans rfl
    have K48 := Lib.hid (K47.out.below' hb8)
    have HX8 := Lib.hid (HX7.out.trans (hb8.mono (by omega)))
    have HD8 := Lib.hid hD8
    obtain ⟨g9, hg9⟩ : ∃ g, g = w7.heap.size := ⟨_, rfl⟩
    rw [← hg9] at c80 HD8 ⊢
    clear hT8 hD8 hb8 hg9
    go_upto_region 13 with fail
    clear c80
    go_wp2_with (first
      | (refine wpList_load_part (o := ⟨some 58, _, _, _, _, _⟩) rfl 47 (.tmp 9) rfl g9 0 4 rfl 47 _ (aC 171 none 0 0 (q : Int)) _ HD8.out Tryz.underlying47 rfl rfl rfl (fun _ _ => by rw [Nat.zero_add]) ?_)
      | (refine wpList_store_part (o := ⟨none, _, _, _, _, _⟩) rfl 47 (.tmp 4) (.tmp 58) rfl g4 0 (aC 171 none 0 0 (q : Int)) rfl rfl 47 _ K48.out (aC_info _ _ _ _ _) (by simp [aC]) (aC_one _ _ _ _ _) ?_; intro w9 hT9 hD9; rw [aC_spl] at hD9))
    refine bodyPost_ret (results_part2 rfl _ _ g4 4 47 _ _ rfl hD9 Tryz.underlying47 rfl rfl rfl) rfl ?_
    rw [HS.out]
    exact ⟨_, rfl, ⟨none, 0, rfl, OwnB.nil _ _⟩, VDone.same HV.out HBK.out HIN.out (hT9.below HX8.out hgw4)⟩
  | none =>
    have hs : p = ((ranV m x).1, dataA (ranV m x).2, 0) := by rw [HP.out, HDV.out, hel]
    have HS := Lib.hid hs
    have HOE := Lib.hid (show ansC none = aC 0 none 0 0 0 from rfl)
    clear hel hs
    rw [HOE.out]
    go_upto_region 12 with (refine wpList_store_part (o := ⟨none, _, _, _, _, _⟩) rfl 47 (.tmp 9) (.tmp 54) rfl w7.heap.size 0 (aC 0 none 0 0 0) rfl rfl 47 (aC 0 none 0 0 0) (Blk.newAt rfl) (aC_info _ _ _ _ _) (by simp [aC]) (aC_one _ _ _ _ _) ?_; intro w8 hT8 hD8; rw [aC_spl] at hD8)
    have hb8' : Below w7.heap.size w7 w8 := hT8.below ((Below.refl _ _).alloc (Nat.le_refl _) _) (Nat.le_refl _)
    have c80 : w8.cell? ⟨w7.heap.size, 0, none⟩ = some (.int .i64 0) := (hD8.cell 0).trans rfl
    have K38 := Lib.hid (K37.out.below' hb8')
    have K48 := Lib.hid (K47.out.below' hb8')
    have HX8 := Lib.hid (HX7.out.trans (hb8'.mono (by omega)))
    have hs8 := hb8'.size
    obtain ⟨g9, hg9⟩ : ∃ g, g = w7.heap.size := ⟨_, rfl⟩
    rw [← hg9] at c80 ⊢
    clear hT8 hD8 hb8' hg9
    go_upto_region 14 with fail
    have c35 : ∀ W, Below w8.heap.size w8 W → W.cell? ⟨g3, 5, none⟩ = some (.int .i64 (b : Int)) := fun W hb => ((K38.out.below' hb).cell 5).trans (by rw [← HBE.out]; rfl)
    clear c80
    refine wp_region_calm0 6 109 (by kernel_rfl) (by kernel_rfl) (by kernel_rfl) (by simp) ?_
    simp only [List.take_succ_cons, List.take_zero, List.drop_succ_cons, List.drop_zero]
    refine wpCalm_value rfl rfl (.pointer (some ⟨V.g, 0, none⟩)) (fun W _ => rfl) ?_
    try simp only [Act.put, List.setIfInBounds_toArray, List.set_cons_zero, List.set_cons_succ]
    refine wpCalm_value rfl rfl (.pointer (some ⟨g3, 5, none⟩)) (fun W _ => by go_simp) ?_
    try simp only [Act.put, List.setIfInBounds_toArray, List.set_cons_zero, List.set_cons_succ]
    refine wpCalm_below rfl rfl (.int .i64 (b : Int)) (fun W hb => by have := c35 W hb; go_simp) ?_
    try simp only [Act.put, List.setIfInBounds_toArray, List.set_cons_zero, List.set_cons_succ]
    refine wpCalm_value rfl rfl (.pointer (some ⟨V.g, 0, none⟩)) (fun W _ => by go_simp) ?_
    try simp only [Act.put, List.setIfInBounds_toArray, List.set_cons_zero, List.set_cons_succ]
    refine wpCalm_value rfl rfl (.pointer (some ⟨V.g, 3, none⟩)) (fun W _ => by go_simp) ?_
    try simp only [Act.put, List.setIfInBounds_toArray, List.set_cons_zero, List.set_cons_succ]
    refine wpCalm_value rfl rfl (.pointer (some ⟨V.g, 3 + b, none⟩)) (fun W _ => by go_simp) ?_
    try simp only [Act.put, List.setIfInBounds_toArray, List.set_cons_zero, List.set_cons_succ]
    refine wpCalm_nil ?_
    intro wA hbA
    have K3A := Lib.hid (K38.out.below' hbA)
    have K4A := Lib.hid (K48.out.below' hbA)
    have HXA := Lib.hid (HX8.out.trans (hbA.mono (by omega)))
    have hsA := hbA.size
    have c31 : wA.cell? ⟨g3, 1, none⟩ = some (.int .i64 (st : Int)) := (K3A.out.cell 1).trans (by rw [← HSE.out]; rfl)
    have hVA : VAt wA V (fun b => N b ∨ b = g4) m := (HV.out.mono (N' := fun b => N b ∨ b = g4) (fun b hb hn => hn.elim id (fun e => by omega)) (fun b hb => .inl (HV.out.all b hb))).below HXA.out
    have HVA := Lib.hid hVA
    have HDA := Lib.hid ((HD.out.mono (N' := fun b => N b ∨ b = g4) (fun b hb hn => hn.elim id (fun e => by omega))).below HXA.out)
    clear hbA c35 K38 K48 hVA
    go_upto_region 16 with (refine wpList_store_part (o := ⟨none, _, _, _, _, _⟩) rfl 70 (.tmp 69) (.tmp 68) rfl V.g (11 + j * 2) #[.int .i64 (st : Int), .slice none 0 0] rfl rfl 73 _ HDA.out.blk (by kernel_rfl) (by rw [vC_size]; simp; omega) (by simp [Value.oneCell']) ?_; intro wB hTB hDB)
    have hNg : (fun b => N b ∨ b = g4) V.g := .inl (HV.out.all _ (.inl rfl))
    have hd1 := HDA.out.setL0 hTB hNg hDB hj4 hstn
    have HOB := Lib.hid (Only.of_turned (N := fun b => b = V.g) hTB rfl)
    have hg3g : g3 ≠ V.g := by omega
    have hg4g : g4 ≠ V.g := by omega
    have K3B := Lib.hid (hTB.blk K3A.out hg3g)
    have HDR := Lib.hid (HOB.out.reads (((HXW.out.data.more hB).below HXA.out).more HXA.out.size) (fun a h0 ha => HAP.out a h0 ha))
    have HD1 := Lib.hid hd1
    have hsB := hTB.size
    have HBL := Lib.hid (HD.out.ok.blk hb8)
    have HM4 := Lib.hid HD.out.ok.last
    have HLE := Lib.hid (fun i hi hib => leafV_ran (x := x) HD.out.ok HJD.out HBD.out hj4 hb8 i hi hib)
    have hdn := HXW.out.dlen
    have HLD := Lib.hid (ran_last (x := x) HD.out.ok.last HJD.out hj4)
    have hvr := HD.out.ok.ran HMB.out HGQ.out HK5.out
    obtain ⟨rv, hrv⟩ : ∃ r, r = ranV m x := ⟨_, rfl⟩
    have HRV := Lib.hid hrv
    rw [← hrv] at HS HLE HLD hvr
    have hdl : rv.2.length ≤ 16 := by
      have := (hvr.lst hj4).2
      rw [HLD.out] at this
      rcases this with e | e
      · rw [e]; simp
      · omega
    have hnh : ∀ b, V.has b → b < w.heap.size := fun b hb => HNN.out b (HV.out.all b hb)
    have HNH := Lib.hid hnh
    have HDN := Lib.hid hdn
    have HNG := Lib.hid hNg
    have hlt4 : ∀ b, N b ∨ b = g4 → b < wB.heap.size := fun b hb => by
      rcases hb with hb | hb
      · have := HNN.out b hb; have := HXA.out.size; omega
      · have := K4A.out.lt; omega
    have HLT4 := Lib.hid hlt4
    have hVO := HD.out.ok
    have HVO := Lib.hid hVO
    clear hTB hDB hNg c31 hd1 hrv hnh hdn hlt4 hvr hVO
    have c34 : wB.cell? ⟨g3, 4, none⟩ = some (.int .i64 x.kind) := (K3B.out.cell 4).trans rfl
    go_upto_if 72 with (fail)
    go_cut [72] (fun _ wx => TailSt wA V (fun b => N b ∨ b = g4) rv.1 L asked 3 (8 + j) wx)
    case first =>
      by_cases hk1 : x.kind = 1
      · have hkb : (x.kind == 1) = true := by simpa using hk1
        have hm' : rv.1 = setL m j (st, blockV m b) := by rw [HRV.out, (ran_read hk1).1, HJD.out, HBD.out, HSD.out]
        have cbk : wB.cell? ⟨V.g, 3 + b, none⟩ = some (.slice (S.bA b) 16 (S.bC b)) := (HD1.out.cBlock b hb8).trans (by show some (Value.slice (S.bA b) (blockV m b).length (S.bC b)) = _; rw [HBL.out])
        have HCN := Lib.hid (cloneB_any (S.bA b) 16 (S.bC b) (blockV m b) wB wB.heap.size (by have := (HD1.out.block b hb8).rd; rw [show blockV (setL m j (st, [])) b = blockV m b from rfl, HBL.out] at this; exact this) (Nat.le_refl _) (by omega))
        have HM := Lib.hid hm'
        clear hm' c34
        go_wp2_with fail
        refine HCN.out.mono ?_
        rintro _ wC ⟨v, rfl, ho, hbC⟩
        obtain ⟨AC, cC, hv, hfC⟩ := Far.of_own (w0 := w) (N := fun b => N b ∨ b = g4) ho HLT4.out
        subst hv
        have hd1C := HD1.out.below hbC
        have ccl : wC.cell? ⟨V.g, 11 + j * 2 + 1, none⟩ = some (.slice ((sLast S j none 0).lA j) (lastV (setL m j (st, [])) j).2.length ((sLast S j none 0).lC j)) := (hd1C.blk.cell _).trans (vC_data _ _ _ _ hj4)
        have fcl := hd1C.blk.frozen (11 + j * 2 + 1)
        have hTC := Turned.setCell wC ⟨V.g, 11 + j * 2 + 1, none⟩ (.slice AC (blockV m b).length cC)
        have hoC : Only (fun b => b = V.g) wC _ := Only.of_turned hTC rfl
        obtain ⟨S', hd2⟩ := hd1C.setLd HM4.out hTC HNG.out (hd1C.blk.set_ (11 + j * 2 + 1) (.slice AC (blockV m b).length cC)) hj4 (hfC.only hoC (fun b e => e ▸ HNG.out)) hstn (.inr ⟨HBL.out, hst1⟩)
        have HTS := Lib.hid (TailSt.start (q := 3) HVA.out (HBK.out.below HXA.out) HIN.out ((HOB.out.trans (Only.of_below hbC)).trans hoC) (HM.out ▸ hd2) (show 8 + j < 13 by omega) (fun i hi h8 => HLE.out i h8 (.inl hk1)))
        clear hd1C hTC hoC hd2 ho hbC hfC HCN cbk
        go_wp2_with fail
        go_meet
        exact HTS.out
      · have hkb : (x.kind == 1) = false := by simpa using hk1
        have HK2 := Lib.hid (show x.data.length = 16 by
          rcases HBG.out.1 with e | e
          · exact absurd e.1 hk1
          · exact e.2)
        have hm' : rv.1 = setB (setL m j (st, [])) b x.data := by rw [HRV.out, (ran_write hk1).1, HJD.out, HBD.out, HSD.out]
        have cbk : ∀ W, Below wB.heap.size wB W → W.cell? ⟨V.g, 3 + b, none⟩ = some (.slice (S.bA b) 16 (S.bC b)) := fun W hb => ((HD1.out.below hb).cBlock b hb8).trans (by show some (Value.slice (S.bA b) (blockV m b).length (S.bC b)) = _; rw [HBL.out])
        have c36 : ∀ W, Below wB.heap.size wB W → W.cell? ⟨g3, 6, none⟩ = some (.slice A n c) := fun W hb => ((K3B.out.below' hb).cell 6).trans rfl
        have HRB := Lib.hid (by have := (HD1.out.block b hb8).rd; rw [show blockV (setL m j (st, [])) b = blockV m b from rfl, HBL.out] at this; exact this)
        have HM := Lib.hid hm'
        clear hm'
        go_upto_region 18 with fail
        by_cases heq : blockV m b = x.data
        · have HEQ := Lib.hid (fun (W : World) (hb : Below wB.heap.size wB W) => (show Calls Tryz.prog 81 #[.slice (S.bA b) 16 (S.bC b), .slice A n c] W fun e w' => e = .returned (.bool true) ∧ Below W.heap.size W w' from (bEqual_any (S.bA b) A 16 n (S.bC b) c (blockV m b) x.data W wB.heap.size wB.heap.size (HRB.out.below hb) (HDR.out.below hb)).mono fun e w' ⟨he, k, hk⟩ => ⟨by rw [he, decide_eq_true heq], by rw [hk]; exact below_drewN (Below.refl _ _) k⟩))
          have HEB := Lib.hid heq
          clear heq
          refine wp_region_calm0 6 109 (by kernel_rfl) (by kernel_rfl) (by kernel_rfl) (by simp) ?_
          simp only [List.take_succ_cons, List.take_zero, List.drop_succ_cons, List.drop_zero]
          refine wpCalm_value rfl rfl (.pointer (some ⟨V.g, 3 + b, none⟩)) (fun W _ => rfl) ?_
          try simp only [Act.put, List.setIfInBounds_toArray, List.set_cons_zero, List.set_cons_succ]
          refine wpCalm_value rfl rfl (.pointer (some ⟨V.g, 3 + b, none⟩)) (fun W _ => by go_simp) ?_
          try simp only [Act.put, List.setIfInBounds_toArray, List.set_cons_zero, List.set_cons_succ]
          refine wpCalm_below rfl rfl (.slice (S.bA b) 16 (S.bC b)) (fun W hb => by have := cbk W hb; go_simp) ?_
          try simp only [Act.put, List.setIfInBounds_toArray, List.set_cons_zero, List.set_cons_succ]
          refine wpCalm_value rfl rfl (.pointer (some ⟨g3, 6, none⟩)) (fun W _ => by go_simp) ?_
          try simp only [Act.put, List.setIfInBounds_toArray, List.set_cons_zero, List.set_cons_succ]
          refine wpCalm_below rfl rfl (.slice A n c) (fun W hb => by have := c36 W hb; go_simp) ?_
          try simp only [Act.put, List.setIfInBounds_toArray, List.set_cons_zero, List.set_cons_succ]
          refine wpCalm_call rfl rfl 81 #[.slice (S.bA b) 16 (S.bC b), .slice A n c] (fun W => by go_simp) (.bool true) (fun W hb => HEQ.out W hb) ?_
          try simp only [Act.put, List.setIfInBounds_toArray, List.set_cons_zero, List.set_cons_succ]
          refine wpCalm_nil ?_
          intro wC hbC
          have hd1C := HD1.out.below hbC
          have HTS := Lib.hid (TailSt.start (q := 3) HVA.out (HBK.out.below HXA.out) HIN.out (HOB.out.trans (Only.of_below hbC)) ((show rv.1 = setL m j (st, []) by rw [HM.out, ← HEB.out]; exact setB_same (m := setL m j (st, [])) (by show b < m.blocks.length; rw [HVO.out.blocks]; exact hb8)) ▸ hd1C) (show 8 + j < 13 by omega) (fun i hi h8 => by
            rw [show rv.1 = setL m j (st, []) by rw [HM.out, ← HEB.out]; exact setB_same (m := setL m j (st, [])) (by show b < m.blocks.length; rw [HVO.out.blocks]; exact hb8)]
            exact leafV_setL HM4.out hj4 i h8))
          clear hd1C hbC cbk c36 HEQ
          go_wp2_with fail
          go_meet
          exact HTS.out
        · have HEQ := Lib.hid (fun (W : World) (hb : Below wB.heap.size wB W) => (show Calls Tryz.prog 81 #[.slice (S.bA b) 16 (S.bC b), .slice A n c] W fun e w' => e = .returned (.bool false) ∧ Below W.heap.size W w' from (bEqual_any (S.bA b) A 16 n (S.bC b) c (blockV m b) x.data W wB.heap.size wB.heap.size (HRB.out.below hb) (HDR.out.below hb)).mono fun e w' ⟨he, k, hk⟩ => ⟨by rw [he, decide_eq_false heq], by rw [hk]; exact below_drewN (Below.refl _ _) k⟩))
          clear heq
          refine wp_region_calm0 6 109 (by kernel_rfl) (by kernel_rfl) (by kernel_rfl) (by simp) ?_
          simp only [List.take_succ_cons, List.take_zero, List.drop_succ_cons, List.drop_zero]
          refine wpCalm_value rfl rfl (.pointer (some ⟨V.g, 3 + b, none⟩)) (fun W _ => rfl) ?_
          try simp only [Act.put, List.setIfInBounds_toArray, List.set_cons_zero, List.set_cons_succ]
          refine wpCalm_value rfl rfl (.pointer (some ⟨V.g, 3 + b, none⟩)) (fun W _ => by go_simp) ?_
          try simp only [Act.put, List.setIfInBounds_toArray, List.set_cons_zero, List.set_cons_succ]
          refine wpCalm_below rfl rfl (.slice (S.bA b) 16 (S.bC b)) (fun W hb => by have := cbk W hb; go_simp) ?_
          try simp only [Act.put, List.setIfInBounds_toArray, List.set_cons_zero, List.set_cons_succ]
          refine wpCalm_value rfl rfl (.pointer (some ⟨g3, 6, none⟩)) (fun W _ => by go_simp) ?_
          try simp only [Act.put, List.setIfInBounds_toArray, List.set_cons_zero, List.set_cons_succ]
          refine wpCalm_below rfl rfl (.slice A n c) (fun W hb => by have := c36 W hb; go_simp) ?_
          try simp only [Act.put, List.setIfInBounds_toArray, List.set_cons_zero, List.set_cons_succ]
          refine wpCalm_call rfl rfl 81 #[.slice (S.bA b) 16 (S.bC b), .slice A n c] (fun W => by go_simp) (.bool false) (fun W hb => HEQ.out W hb) ?_
          try simp only [Act.put, List.setIfInBounds_toArray, List.set_cons_zero, List.set_cons_succ]
          refine wpCalm_nil ?_
          intro wC hbC
          have HD1C := Lib.hid (HD1.out.below hbC)
          have HOC := Lib.hid (HOB.out.trans (Only.of_below hbC))
          have HCN := Lib.hid (cloneB_any A n c x.data wC wB.heap.size (HDR.out.below hbC) hbC.size (by have := HDN.out; have := HK2.out; omega))
          have cc6 := c36 wC hbC
          have cc5 : wC.cell? ⟨g3, 5, none⟩ = some (.int .i64 (b : Int)) := ((K3B.out.below' hbC).cell 5).trans (by rw [← HBE.out]; rfl)
          have K3C := Lib.hid (K3B.out.below' hbC)
          have hsC := hbC.size
          clear hbC cbk c36 HEQ
          go_wp2_with fail
          refine HCN.out.mono ?_
          rintro _ wD ⟨v, rfl, ho, hbD⟩
          obtain ⟨AD, cD, hv, hfD⟩ := Far.of_own (w0 := w) (N := fun b => N b ∨ b = g4) ho (fun b hb => by have := HLT4.out b hb; omega)
          subst hv
          have hd1D := HD1C.out.below hbD
          have cbl := hd1D.cBlock b hb8
          have fbl := hd1D.blk.frozen (3 + b)
          have hTD := Turned.setCell wD ⟨V.g, 3 + b, none⟩ (.slice AD x.data.length cD)
          have hoD : Only (fun b => b = V.g) wD _ := Only.of_turned hTD rfl
          have hd2 := hd1D.setBd hTD HNG.out (hd1D.blk.set_ (3 + b) (.slice AD x.data.length cD)) hb8 (hfD.only hoD (fun b e => e ▸ HNG.out)) HK2.out
          rw [← HM.out] at hd2
          have HD2 := Lib.hid hd2
          have HOD := Lib.hid ((HOC.out.trans (Only.of_below hbD)).trans hoD)
          have cd5 : (wD.setCell ⟨V.g, 3 + b, none⟩ (.slice AD x.data.length cD)).cell? ⟨g3, 5, none⟩ = some (.int .i64 (b : Int)) := (hTD.cell (by exact hg3g)).trans (((K3C.out.below' hbD).cell 5).trans (by rw [← HBE.out]; rfl))
          clear hd1D hTD hoD hd2 ho hbD hfD HCN cc6 cc5
          go_upto_region 20 with fail
          generalize wD.setCell ⟨V.g, 3 + b, none⟩ (.slice AD x.data.length cD) = wE at HD2 HOD cd5 ⊢
          have hVA := HVA.out
          have hfar := hVA.far
          have HSE := Lib.hid (fun (i : Int) (hi : i = (b : Int)) => (show Calls Tryz.prog 82 #[.pointer (some ⟨V.g, 0, none⟩), .int .i64 i] wE _ from hi ▸ vset_any wE V.g b V.T V.k _ rv.1 _ (leavesV m) L asked HD2.out (by omega) (hVA.tree.only HOD.out (fun b hb e => hfar.1 (e ▸ hb))) (leavesV_len m) ((HBK.out.below HXA.out).only HOD.out (fun e => hfar.2 (.inl e.symm)) (fun e => hfar.2 (.inr (.inl e.symm))) (fun e => hfar.2 (.inr (.inr e.symm)))) (by omega)))
          clear hVA cbl fbl
          go_wp2_with fail
          refine (HSE.out _ (by omega)).mono ?_
          rintro _ wF ⟨rfl, hsb⟩
          have HTS : Hid (TailSt wA V (fun b => N b ∨ b = g4) rv.1 L asked 3 (8 + j) wF) := Lib.hid (by
            obtain ⟨L', a', p1, p2, p3, p4⟩ := hsb.book
            refine ⟨⟨_, HD2.out.only hsb.only (fun b hb => HVA.out.all b (.inr hb)) ?_⟩, ⟨_, hsb.tree, by rw [List.length_set, leavesV_len], leaves_set2 (by omega) (by omega) (fun i hi h1 h2 => HLE.out i h2 (.inr h1)), L', a', p1, p2, p3, p4 L (fun _ h => h) HIN.out⟩, (HOD.out.mono fun b _ e => .inl e).trans (hsb.only.mono fun b _ e => .inr e)⟩
            rintro (e | e)
            · exact hfar.1 (.inr (.inr e))
            · exact hfar.2 e)
          clear hsb HSE cd5
          go_wp2_with fail
          go_meet
          exact HTS.out
    case rest =>
      have HTS := Lib.hid hcut
      clear hcut c34
      obtain ⟨S', hd'⟩ := HTS.out.dat
      obtain ⟨ls, ht, hll, hle, L1, a1, hbk1, ha1, hL1, hin1⟩ := HTS.out.tree
      have K3x := Lib.hid (HTS.out.only.blk K3A.out (fun hb => by have := HNH.out _ hb; omega))
      have K4x := Lib.hid (HTS.out.only.blk K4A.out (fun hb => by have := HNH.out _ hb; omega))
      have HSE := Lib.hid (fun (i : Int) (hi : i = ((8 + j : Nat) : Int)) => (show Calls Tryz.prog 82 #[.pointer (some ⟨V.g, 0, none⟩), .int .i64 i] wc _ from hi ▸ vset_any wc V.g (8 + j) V.T V.k _ rv.1 S' ls L1 a1 hd' (by omega) ht hll hbk1 (by omega)))
      have HLE2 := Lib.hid hle
      have HL1 := Lib.hid hL1
      have HI1 := Lib.hid hin1
      have c30 : wc.cell? ⟨g3, 0, none⟩ = some (.int .i64 (31 + (j : Int))) := (K3x.out.cell 0).trans (by rw [← HCE.out]; rfl)
      clear hd' ht hll hle hbk1 hL1 hin1
      go_wp2_with fail
      refine (HSE.out _ (by omega)).mono ?_
      rintro _ wY ⟨rfl, hsb⟩
      have hdn := HTS.out.done HV.out HVA.out.all HLE2.out ha1 HL1.out HI1.out hsb
      have K4Y := Lib.hid (hsb.only.blk K4x.out (fun hb => by have := HNH.out _ (.inr hb); omega))
      have HDNE := Lib.hid hdn
      have hsY := hsb.only.size
      obtain ⟨S2, hd2⟩ := hdn.vat.dat
      have cY : wY.cell? ⟨V.g, 11 + j * 2 + 1, none⟩ = some (.slice (S2.lA j) rv.2.length (S2.lC j)) := (hd2.blk.cell _).trans ((vC_data _ _ _ _ hj4).trans (by rw [HLD.out]))
      have hfY := hd2.last j hj4
      rw [HLD.out] at hfY
      have HCN := Lib.hid (cloneB_any (S2.lA j) rv.2.length (S2.lC j) rv.2 wY wY.heap.size hfY.rd (Nat.le_refl _) (by omega))
      clear hsb hdn hd2 hfY HSE c30
      go_wp2_with fail
      refine HCN.out.mono ?_
      rintro _ wZ ⟨v, rfl, ho, hbZ⟩
      obtain ⟨AZ, cZ, hv, q1, q2, q3, q4⟩ := own_slice_b ho
      subst hv
      have K4Z := Lib.hid (K4Y.out.below' hbZ)
      have HDZ := Lib.hid (HDNE.out.below hbZ)
      have HOZ := Lib.hid ho
      have hsZ := hbZ.size
      have hszA := HTS.out.only.size
      clear ho hbZ HCN cY q3
      go_wp2_with (refine wpList_store_part (o := ⟨none, _, _, _, _, _⟩) rfl 47 (.tmp 4) (.tmp 108) rfl g4 0 (aC 0 AZ rv.2.length cZ 0) rfl rfl 47 _ K4Z.out (aC_info _ _ _ _ _) (by simp [aC]) (aC_one _ _ _ _ _) ?_; intro w9 hT9 hD9; rw [aC_spl] at hD9)
      refine bodyPost_ret (results_part2 rfl _ _ g4 4 47 _ _ rfl hD9 Tryz.underlying47 rfl rfl rfl) rfl ?_
      rw [HS.out]
      refine ⟨_, rfl, ⟨AZ, cZ, rfl, ?_⟩, VDone.last HV.out HNN.out HXA.out HDZ.out hT9 hgw4⟩
      exact (HOZ.out.more (by have := HXA.out.size; omega)).keep fun b hb => hT9.block b (fun e => by have := HOZ.out.ge hb; have := K4Y.out.lt; omega)

end Go.Proofs.YtcpngeiahgoacaaGreat
