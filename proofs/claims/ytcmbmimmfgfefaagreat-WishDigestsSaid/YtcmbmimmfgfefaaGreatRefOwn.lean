/-
  Contract of bastideref11.own.
-/
import Derived.Test.YtcmbmimmfgfefaaGreatWorksW
namespace Go.Proofs.YtcmbmimmfgfefaaGreat
set_option linter.unusedVariables false
open Go.RowKit

/-- a wish with the fields that its kind has -/
def ownW (x : Wish) : Wish :=
  ⟨if x.kind = 5 then 0 else x.client, if x.kind = 5 then 0 else x.stamp, x.group, x.epoch, x.kind, if x.kind = 5 then 0 else x.block, if x.kind = 2 then x.data else [], if x.kind = 4 then x.old else 0, if x.kind = 4 then x.new else 0, if x.kind = 5 then x.next else []⟩
def ownSl (x : Wish) (A : Option Addr) (n c : Nat) (A' : Option Addr) (n' c' : Nat) : Value :=
  if x.kind = 5 then .agg (wCells (ownW x) none 0 0 A' n' c') else if x.kind = 2 then .agg (wCells (ownW x) A n c none 0 0) else .agg (wCells (ownW x) none 0 0 none 0 0)

set_option maxRecDepth 100000 in
set_option maxHeartbeats 8000000 in
theorem refOwn_any (x : Wish) (A : Option Addr) (n c : Nat) (A' : Option Addr) (n' c' : Nat) (w : World) :
    Calls Tryz.prog 53 #[.agg (wCells x A n c A' n' c')] w fun e w' => e = .returned (ownSl x A n c A' n' c') ∧ Below w.heap.size w w' := by
  have hd0 : Below w.heap.size w ((w.alloc (.cells (wCells x A n c A' n' c') 25)).alloc (.cells (wCells zeroW none 0 0 none 0 0) 25)) := ((Below.refl _ _).alloc (Nat.le_refl _) _).alloc (by simp) _
  have k1 : Blk ((w.alloc (.cells (wCells x A n c A' n' c') 25)).alloc (.cells (wCells zeroW none 0 0 none 0 0) 25)) w.heap.size 25 (wCells x A n c A' n' c') := (Blk.new w _ _).alloc _
  have k2 : Blk ((w.alloc (.cells (wCells x A n c A' n' c') 25)).alloc (.cells (wCells zeroW none 0 0 none 0 0) 25)) (w.heap.size + 1) 25 (wCells zeroW none 0 0 none 0 0) := Blk.newAt (by simp)
  have hs0 : ((w.alloc (.cells (wCells x A n c A' n' c') 25)).alloc (.cells (wCells zeroW none 0 0 none 0 0) 25)).heap.size = w.heap.size + 2 := by simp
  go_enter Tryz.func53, Tryz.ntmps53
  go_upto_region 1 with fail
  generalize hW : World.alloc (World.alloc _ _) _ = w1
  have hW' : ((w.alloc (.cells (wCells x A n c A' n' c') 25)).alloc (.cells (wCells zeroW none 0 0 none 0 0) 25)) = w1 := hW
  rw [hW'] at hd0 k1 k2 hs0
  clear hW hW'
  obtain ⟨g1, hg1⟩ : ∃ g, g = w.heap.size := ⟨_, rfl⟩
  obtain ⟨g2, hg2⟩ : ∃ g, g = w.heap.size + 1 := ⟨_, rfl⟩
  rw [← hg1] at k1
  rw [← hg2] at k2 ⊢
  rw [← hg1]
  have ho1 : w.heap.size ≤ g1 := by omega
  have ho2 : g1 < g2 := by omega
  have ho3 : g2 < w1.heap.size := by omega
  have hs1 := hd0.size
  have HB1 := Lib.hid hd0
  have d4 := (k1.cell 4).trans (show (wCells x A n c A' n' c')[4]? = some (.int .i64 x.kind) from rfl)
  have d2 := (k1.cell 2).trans (show (wCells x A n c A' n' c')[2]? = some (.int .i64 x.group) from rfl)
  have d3 := (k1.cell 3).trans (show (wCells x A n c A' n' c')[3]? = some (.int .i64 x.epoch) from rfl)
  have K1' := Lib.hid k1
  have K2' := Lib.hid k2
  clear hg1 hg2 k1 k2 hd0 hs0
  go_upto_region 2 with (refine wpList_store_part (o := ⟨none, _, _, _, _, _⟩) rfl 25 (.tmp 3) (.tmp 10) rfl w1.heap.size 0 #[.int .i64 0, .int .i64 0, .int .i64 x.group, .int .i64 x.epoch, .int .i64 x.kind, .int .i64 0, .slice none 0 0, .int .i64 0, .int .i64 0, .slice none 0 0] rfl rfl 25 (wCells zeroW none 0 0 none 0 0) (Blk.newAt rfl) (by kernel_rfl) (by simp [wCells]) (by simp [Value.oneCell']) ?_; intro w2 hT2 hD2; rw [spl_self _ _ (by simp [wCells])] at hD2)
  have hb2 : Below w1.heap.size w1 w2 := hT2.below ((Below.refl _ _).alloc (Nat.le_refl _) _) (Nat.le_refl _)
  obtain ⟨g3, hg3⟩ : ∃ g, g = w1.heap.size := ⟨_, rfl⟩
  rw [← hg3] at hD2 ⊢
  have ho4 : g2 < g3 := by omega
  have K1 := Lib.hid (K1'.out.under hb2)
  have K2 := Lib.hid (K2'.out.under hb2)
  have K3 := Lib.hid hD2
  have HB := Lib.hid (HB1.out.trans (hb2.mono hs1))
  have ck := (K1.out.cell 4).trans (show (wCells x A n c A' n' c')[4]? = some (.int .i64 x.kind) from rfl)
  clear hT2 hD2 hb2 hg3 K1' K2' HB1 d4 d2 d3
  by_cases hk : x.kind = 5
  · go_upto_region 3 with fail
    clear ck
    have cx := (K1.out.cell 9).trans (show (wCells x A n c A' n' c')[9]? = some (.slice A' n' c') from rfl)
    have cw := (K3.out.cell 9).trans (show (#[.int .i64 0, .int .i64 0, .int .i64 x.group, .int .i64 x.epoch, .int .i64 x.kind, .int .i64 0, .slice none 0 0, .int .i64 0, .int .i64 0, .slice none 0 0] : Array Value)[9]? = some (.slice none 0 0) from rfl)
    have fw := K3.out.frozen 9
    have k1 := K1.out.far (p := ⟨g3, 9, none⟩) (by show g1 ≠ g3; omega) (.slice A' n' c')
    have k2 := K2.out.far (p := ⟨g3, 9, none⟩) (by show g2 ≠ g3; omega) (.slice A' n' c')
    have k3 := K3.out.set_ 9 (.slice A' n' c')
    have hb := HB.out.setCell (p := ⟨g3, 9, none⟩) (by show w.heap.size ≤ g3; omega) (.slice A' n' c')
    have ck := (k1.cell 4).trans (show (wCells x A n c A' n' c')[4]? = some (.int .i64 x.kind) from rfl)
    go_upto_region 4 with fail
    replace K1 := Lib.hid k1
    replace K2 := Lib.hid k2
    replace HB := Lib.hid hb
    replace K3 := Lib.hid (show Blk _ g3 25 #[.int .i64 0, .int .i64 0, .int .i64 x.group, .int .i64 x.epoch, .int .i64 x.kind, .int .i64 0, .slice none 0 0, .int .i64 0, .int .i64 0, .slice A' n' c'] from k3)
    clear k1 k2 k3 hb cx cw fw ck
    generalize World.setCell _ _ _ = wn at K1 K2 K3 HB ⊢
    have hf : (#[.int .i64 0, .int .i64 0, .int .i64 x.group, .int .i64 x.epoch, .int .i64 x.kind, .int .i64 0, .slice none 0 0, .int .i64 0, .int .i64 0, .slice A' n' c'] : Array Value) = wCells (ownW x) none 0 0 A' n' c' := by unfold wCells ownW; simp [hk]
    rw [hf] at K3
    clear hf
    go_wp2_with (first
      | (refine wpList_load_part (o := ⟨some 17, _, _, _, _, _⟩) rfl 25 (.tmp 3) rfl g3 0 10 rfl 25 _ (wCells (ownW x) none 0 0 A' n' c') _ K3.out Tryz.underlying25 rfl rfl rfl (fun _ _ => by rw [Nat.zero_add]) ?_)
      | (refine wpList_store_part (o := ⟨none, _, _, _, _, _⟩) rfl 25 (.tmp 2) (.tmp 17) rfl g2 0 (wCells (ownW x) none 0 0 A' n' c') rfl rfl 25 (wCells zeroW none 0 0 none 0 0) K2.out (wCells_info _ _ _ _ _ _ _) (by simp [wCells]) (wCells_one _ _ _ _ _ _ _) ?_; intro w7 hT7 hD7; rw [spl_self _ _ (by simp [wCells])] at hD7))
    refine bodyPost_ret (results_part rfl _ _ g2 10 25 _ _ rfl hD7 Tryz.underlying25 rfl rfl rfl) rfl ⟨?_, hT7.below HB.out (by omega)⟩
    unfold ownSl; simp [hk]
  · have hkb : (x.kind == 5) = false := by simpa using hk
    go_upto_region 5 with fail
    clear ck
    have cx := (K1.out.cell 0).trans (show (wCells x A n c A' n' c')[0]? = some (.int .i64 x.client) from rfl)
    have cw := (K3.out.cell 0).trans (show (#[.int .i64 0, .int .i64 0, .int .i64 x.group, .int .i64 x.epoch, .int .i64 x.kind, .int .i64 0, .slice none 0 0, .int .i64 0, .int .i64 0, .slice none 0 0] : Array Value)[0]? = some (.int .i64 0) from rfl)
    have fw := K3.out.frozen 0
    have k1 := K1.out.far (p := ⟨g3, 0, none⟩) (by show g1 ≠ g3; omega) (.int .i64 x.client)
    have k2 := K2.out.far (p := ⟨g3, 0, none⟩) (by show g2 ≠ g3; omega) (.int .i64 x.client)
    have k3 := K3.out.set_ 0 (.int .i64 x.client)
    have hb := HB.out.setCell (p := ⟨g3, 0, none⟩) (by show w.heap.size ≤ g3; omega) (.int .i64 x.client)
    have ck := (k1.cell 4).trans (show (wCells x A n c A' n' c')[4]? = some (.int .i64 x.kind) from rfl)
    go_upto_region 6 with fail
    replace K1 := Lib.hid k1
    replace K2 := Lib.hid k2
    replace HB := Lib.hid hb
    replace K3 := Lib.hid (show Blk _ g3 25 #[.int .i64 x.client, .int .i64 0, .int .i64 x.group, .int .i64 x.epoch, .int .i64 x.kind, .int .i64 0, .slice none 0 0, .int .i64 0, .int .i64 0, .slice none 0 0] from k3)
    clear k1 k2 k3 hb cx cw fw ck
    generalize World.setCell _ _ _ = wn at K1 K2 K3 HB ⊢
    have cx := (K1.out.cell 1).trans (show (wCells x A n c A' n' c')[1]? = some (.int .i64 x.stamp) from rfl)
    have cw := (K3.out.cell 1).trans (show (#[.int .i64 x.client, .int .i64 0, .int .i64 x.group, .int .i64 x.epoch, .int .i64 x.kind, .int .i64 0, .slice none 0 0, .int .i64 0, .int .i64 0, .slice none 0 0] : Array Value)[1]? = some (.int .i64 0) from rfl)
    have fw := K3.out.frozen 1
    have k1 := K1.out.far (p := ⟨g3, 1, none⟩) (by show g1 ≠ g3; omega) (.int .i64 x.stamp)
    have k2 := K2.out.far (p := ⟨g3, 1, none⟩) (by show g2 ≠ g3; omega) (.int .i64 x.stamp)
    have k3 := K3.out.set_ 1 (.int .i64 x.stamp)
    have hb := HB.out.setCell (p := ⟨g3, 1, none⟩) (by show w.heap.size ≤ g3; omega) (.int .i64 x.stamp)
    have ck := (k1.cell 4).trans (show (wCells x A n c A' n' c')[4]? = some (.int .i64 x.kind) from rfl)
    go_upto_region 7 with fail
    replace K1 := Lib.hid k1
    replace K2 := Lib.hid k2
    replace HB := Lib.hid hb
    replace K3 := Lib.hid (show Blk _ g3 25 #[.int .i64 x.client, .int .i64 x.stamp, .int .i64 x.group, .int .i64 x.epoch, .int .i64 x.kind, .int .i64 0, .slice none 0 0, .int .i64 0, .int .i64 0, .slice none 0 0] from k3)
    clear k1 k2 k3 hb cx cw fw ck
    generalize World.setCell _ _ _ = wn at K1 K2 K3 HB ⊢
    have cx := (K1.out.cell 5).trans (show (wCells x A n c A' n' c')[5]? = some (.int .i64 x.block) from rfl)
    have cw := (K3.out.cell 5).trans (show (#[.int .i64 x.client, .int .i64 x.stamp, .int .i64 x.group, .int .i64 x.epoch, .int .i64 x.kind, .int .i64 0, .slice none 0 0, .int .i64 0, .int .i64 0, .slice none 0 0] : Array Value)[5]? = some (.int .i64 0) from rfl)
    have fw := K3.out.frozen 5
    have k1 := K1.out.far (p := ⟨g3, 5, none⟩) (by show g1 ≠ g3; omega) (.int .i64 x.block)
    have k2 := K2.out.far (p := ⟨g3, 5, none⟩) (by show g2 ≠ g3; omega) (.int .i64 x.block)
    have k3 := K3.out.set_ 5 (.int .i64 x.block)
    have hb := HB.out.setCell (p := ⟨g3, 5, none⟩) (by show w.heap.size ≤ g3; omega) (.int .i64 x.block)
    have ck := (k1.cell 4).trans (show (wCells x A n c A' n' c')[4]? = some (.int .i64 x.kind) from rfl)
    go_upto_region 8 with fail
    replace K1 := Lib.hid k1
    replace K2 := Lib.hid k2
    replace HB := Lib.hid hb
    replace K3 := Lib.hid (show Blk _ g3 25 #[.int .i64 x.client, .int .i64 x.stamp, .int .i64 x.group, .int .i64 x.epoch, .int .i64 x.kind, .int .i64 x.block, .slice none 0 0, .int .i64 0, .int .i64 0, .slice none 0 0] from k3)
    clear k1 k2 k3 hb cx cw fw ck
    generalize World.setCell _ _ _ = wn at K1 K2 K3 HB ⊢
    have ck := (K1.out.cell 4).trans (show (wCells x A n c A' n' c')[4]? = some (.int .i64 x.kind) from rfl)
    by_cases hk2 : x.kind = 2
    · have hk0 := hk
      replace hk := hk2
      go_upto_region 9 with fail
      clear ck
      have cx := (K1.out.cell 6).trans (show (wCells x A n c A' n' c')[6]? = some (.slice A n c) from rfl)
      have cw := (K3.out.cell 6).trans (show (#[.int .i64 x.client, .int .i64 x.stamp, .int .i64 x.group, .int .i64 x.epoch, .int .i64 x.kind, .int .i64 x.block, .slice none 0 0, .int .i64 0, .int .i64 0, .slice none 0 0] : Array Value)[6]? = some (.slice none 0 0) from rfl)
      have fw := K3.out.frozen 6
      have k1 := K1.out.far (p := ⟨g3, 6, none⟩) (by show g1 ≠ g3; omega) (.slice A n c)
      have k2 := K2.out.far (p := ⟨g3, 6, none⟩) (by show g2 ≠ g3; omega) (.slice A n c)
      have k3 := K3.out.set_ 6 (.slice A n c)
      have hb := HB.out.setCell (p := ⟨g3, 6, none⟩) (by show w.heap.size ≤ g3; omega) (.slice A n c)
      have ck := (k1.cell 4).trans (show (wCells x A n c A' n' c')[4]? = some (.int .i64 x.kind) from rfl)
      go_upto_region 10 with fail
      replace K1 := Lib.hid k1
      replace K2 := Lib.hid k2
      replace HB := Lib.hid hb
      replace K3 := Lib.hid (show Blk _ g3 25 #[.int .i64 x.client, .int .i64 x.stamp, .int .i64 x.group, .int .i64 x.epoch, .int .i64 x.kind, .int .i64 x.block, .slice A n c, .int .i64 0, .int .i64 0, .slice none 0 0] from k3)
      clear k1 k2 k3 hb cx cw fw ck
      generalize World.setCell _ _ _ = wn at K1 K2 K3 HB ⊢
      have ck := (K1.out.cell 4).trans (show (wCells x A n c A' n' c')[4]? = some (.int .i64 x.kind) from rfl)
      go_upto_region 13 with fail
      clear ck
      have hf : (#[.int .i64 x.client, .int .i64 x.stamp, .int .i64 x.group, .int .i64 x.epoch, .int .i64 x.kind, .int .i64 x.block, .slice A n c, .int .i64 0, .int .i64 0, .slice none 0 0] : Array Value) = wCells (ownW x) A n c none 0 0 := by unfold wCells ownW; simp [hk]
      rw [hf] at K3
      clear hf
      go_wp2_with (first
        | (refine wpList_load_part (o := ⟨some 42, _, _, _, _, _⟩) rfl 25 (.tmp 3) rfl g3 0 10 rfl 25 _ (wCells (ownW x) A n c none 0 0) _ K3.out Tryz.underlying25 rfl rfl rfl (fun _ _ => by rw [Nat.zero_add]) ?_)
        | (refine wpList_store_part (o := ⟨none, _, _, _, _, _⟩) rfl 25 (.tmp 2) (.tmp 42) rfl g2 0 (wCells (ownW x) A n c none 0 0) rfl rfl 25 (wCells zeroW none 0 0 none 0 0) K2.out (wCells_info _ _ _ _ _ _ _) (by simp [wCells]) (wCells_one _ _ _ _ _ _ _) ?_; intro w7 hT7 hD7; rw [spl_self _ _ (by simp [wCells])] at hD7))
      refine bodyPost_ret (results_part rfl _ _ g2 10 25 _ _ rfl hD7 Tryz.underlying25 rfl rfl rfl) rfl ⟨?_, hT7.below HB.out (by omega)⟩
      unfold ownSl; simp [hk]
    · by_cases hk4 : x.kind = 4
      · have hk0 := hk
        replace hk := hk4
        go_upto_region 11 with fail
        clear ck
        have cx := (K1.out.cell 7).trans (show (wCells x A n c A' n' c')[7]? = some (.int .i64 x.old) from rfl)
        have cw := (K3.out.cell 7).trans (show (#[.int .i64 x.client, .int .i64 x.stamp, .int .i64 x.group, .int .i64 x.epoch, .int .i64 x.kind, .int .i64 x.block, .slice none 0 0, .int .i64 0, .int .i64 0, .slice none 0 0] : Array Value)[7]? = some (.int .i64 0) from rfl)
        have fw := K3.out.frozen 7
        have k1 := K1.out.far (p := ⟨g3, 7, none⟩) (by show g1 ≠ g3; omega) (.int .i64 x.old)
        have k2 := K2.out.far (p := ⟨g3, 7, none⟩) (by show g2 ≠ g3; omega) (.int .i64 x.old)
        have k3 := K3.out.set_ 7 (.int .i64 x.old)
        have hb := HB.out.setCell (p := ⟨g3, 7, none⟩) (by show w.heap.size ≤ g3; omega) (.int .i64 x.old)
        have ck := (k1.cell 4).trans (show (wCells x A n c A' n' c')[4]? = some (.int .i64 x.kind) from rfl)
        go_upto_region 12 with fail
        replace K1 := Lib.hid k1
        replace K2 := Lib.hid k2
        replace HB := Lib.hid hb
        replace K3 := Lib.hid (show Blk _ g3 25 #[.int .i64 x.client, .int .i64 x.stamp, .int .i64 x.group, .int .i64 x.epoch, .int .i64 x.kind, .int .i64 x.block, .slice none 0 0, .int .i64 x.old, .int .i64 0, .slice none 0 0] from k3)
        clear k1 k2 k3 hb cx cw fw ck
        generalize World.setCell _ _ _ = wn at K1 K2 K3 HB ⊢
        have cx := (K1.out.cell 8).trans (show (wCells x A n c A' n' c')[8]? = some (.int .i64 x.new) from rfl)
        have cw := (K3.out.cell 8).trans (show (#[.int .i64 x.client, .int .i64 x.stamp, .int .i64 x.group, .int .i64 x.epoch, .int .i64 x.kind, .int .i64 x.block, .slice none 0 0, .int .i64 x.old, .int .i64 0, .slice none 0 0] : Array Value)[8]? = some (.int .i64 0) from rfl)
        have fw := K3.out.frozen 8
        have k1 := K1.out.far (p := ⟨g3, 8, none⟩) (by show g1 ≠ g3; omega) (.int .i64 x.new)
        have k2 := K2.out.far (p := ⟨g3, 8, none⟩) (by show g2 ≠ g3; omega) (.int .i64 x.new)
        have k3 := K3.out.set_ 8 (.int .i64 x.new)
        have hb := HB.out.setCell (p := ⟨g3, 8, none⟩) (by show w.heap.size ≤ g3; omega) (.int .i64 x.new)
        have ck := (k1.cell 4).trans (show (wCells x A n c A' n' c')[4]? = some (.int .i64 x.kind) from rfl)
        go_upto_region 13 with fail
        replace K1 := Lib.hid k1
        replace K2 := Lib.hid k2
        replace HB := Lib.hid hb
        replace K3 := Lib.hid (show Blk _ g3 25 #[.int .i64 x.client, .int .i64 x.stamp, .int .i64 x.group, .int .i64 x.epoch, .int .i64 x.kind, .int .i64 x.block, .slice none 0 0, .int .i64 x.old, .int .i64 x.new, .slice none 0 0] from k3)
        clear k1 k2 k3 hb cx cw fw ck
        generalize World.setCell _ _ _ = wn at K1 K2 K3 HB ⊢
        have hf : (#[.int .i64 x.client, .int .i64 x.stamp, .int .i64 x.group, .int .i64 x.epoch, .int .i64 x.kind, .int .i64 x.block, .slice none 0 0, .int .i64 x.old, .int .i64 x.new, .slice none 0 0] : Array Value) = wCells (ownW x) none 0 0 none 0 0 := by unfold wCells ownW; simp [hk]
        rw [hf] at K3
        clear hf
        go_wp2_with (first
          | (refine wpList_load_part (o := ⟨some 42, _, _, _, _, _⟩) rfl 25 (.tmp 3) rfl g3 0 10 rfl 25 _ (wCells (ownW x) none 0 0 none 0 0) _ K3.out Tryz.underlying25 rfl rfl rfl (fun _ _ => by rw [Nat.zero_add]) ?_)
          | (refine wpList_store_part (o := ⟨none, _, _, _, _, _⟩) rfl 25 (.tmp 2) (.tmp 42) rfl g2 0 (wCells (ownW x) none 0 0 none 0 0) rfl rfl 25 (wCells zeroW none 0 0 none 0 0) K2.out (wCells_info _ _ _ _ _ _ _) (by simp [wCells]) (wCells_one _ _ _ _ _ _ _) ?_; intro w7 hT7 hD7; rw [spl_self _ _ (by simp [wCells])] at hD7))
        refine bodyPost_ret (results_part rfl _ _ g2 10 25 _ _ rfl hD7 Tryz.underlying25 rfl rfl rfl) rfl ⟨?_, hT7.below HB.out (by omega)⟩
        unfold ownSl; simp [hk]
      · go_upto_region 13 with fail
        clear ck
        have hf : (#[.int .i64 x.client, .int .i64 x.stamp, .int .i64 x.group, .int .i64 x.epoch, .int .i64 x.kind, .int .i64 x.block, .slice none 0 0, .int .i64 0, .int .i64 0, .slice none 0 0] : Array Value) = wCells (ownW x) none 0 0 none 0 0 := by unfold wCells ownW; simp [hk, hk4]
        rw [hf] at K3
        clear hf
        go_wp2_with (first
          | (refine wpList_load_part (o := ⟨some 42, _, _, _, _, _⟩) rfl 25 (.tmp 3) rfl g3 0 10 rfl 25 _ (wCells (ownW x) none 0 0 none 0 0) _ K3.out Tryz.underlying25 rfl rfl rfl (fun _ _ => by rw [Nat.zero_add]) ?_)
          | (refine wpList_store_part (o := ⟨none, _, _, _, _, _⟩) rfl 25 (.tmp 2) (.tmp 42) rfl g2 0 (wCells (ownW x) none 0 0 none 0 0) rfl rfl 25 (wCells zeroW none 0 0 none 0 0) K2.out (wCells_info _ _ _ _ _ _ _) (by simp [wCells]) (wCells_one _ _ _ _ _ _ _) ?_; intro w7 hT7 hD7; rw [spl_self _ _ (by simp [wCells])] at hD7))
        refine bodyPost_ret (results_part rfl _ _ g2 10 25 _ _ rfl hD7 Tryz.underlying25 rfl rfl rfl) rfl ⟨?_, hT7.below HB.out (by omega)⟩
        unfold ownSl; simp [hk, hk2]

end Go.Proofs.YtcmbmimmfgfefaaGreat
