/-
  Contracts of (*Hash).ready: k and the state are made once.
-/
import Derived.Test.YtcmbmimmfgfefaaGreatHash
import Derived.Test.YtcmbmimmfgfefaaGreatShaPlain
namespace Go.Proofs.YtcmbmimmfgfefaaGreat
set_option linter.unusedVariables false
open Go.RowKit

theorem getD_lt {α : Type} (l : List α) (j : Nat) (d : α) (h : j < l.length) : l[j]? = some (l.getD j d) := by
  rw [List.getD_eq_getElem?_getD, List.getElem?_eq_getElem h]; rfl
theorem hash_ready (mu : Int) (b : Nat → Value) (held all : Int) (k s : Nat → Value) :
    spl (spl (hashCells 0 mu k s b held all) 4 kList) 68 hList = hashCells 0 mu kF (sF h0) b held all := by
  unfold hashCells
  rw [spl_rng (m := 64) (g := kF) kList_len (fun j hj => by rw [kList, List.getElem?_map, List.getElem?_range hj]; rfl) (by omega),
    spl_rng (m := 8) (g := sF h0) hList_len (fun j hj => by rw [hList, List.getElem?_map, List.getElem?_range hj]; rfl) (by omega)]
  refine rng_ext fun j hj => ?_
  unfold hashF
  by_cases h1 : j < 4
  · rw [if_neg (by omega), if_neg (by omega)]
    repeat (first | rfl | (split <;> try omega))
  · by_cases h2 : j < 68
    · rw [if_neg (by omega), if_pos (by omega)]
      simp only [show ¬ j = 0 by omega, show ¬ j = 1 by omega, show ¬ j = 2 by omega, show ¬ j = 3 by omega, h2, if_true, if_false]
    · by_cases h3 : j < 76
      · rw [if_pos (by omega)]
        simp only [show ¬ j = 0 by omega, show ¬ j = 1 by omega, show ¬ j = 2 by omega, show ¬ j = 3 by omega, h2, h3, if_true, if_false]
      · rw [if_neg (by omega), if_neg (by omega)]
        simp only [show ¬ j = 0 by omega, show ¬ j = 1 by omega, show ¬ j = 2 by omega, show ¬ j = 3 by omega, h2, h3, if_false]

set_option maxRecDepth 100000 in
set_option maxHeartbeats 1000000 in
theorem ready1_any (g : Nat) (pl : Addr) (hpg : pl.block ≠ g) (cs : Array Value) (hcs : cs.size = 142) (w : World) (hB : Blk w g 115 cs) (hp : w.cell? pl = some (.pointer (some ⟨g, 0, none⟩))) :
    Calls Tryz.prog 74 #[.pointer (some pl)] w fun e w' => e = .returned (.tuple #[]) ∧ Blk w' g 115 (spl (spl cs 4 kList) 68 hList) ∧ w.grownBy w' (some g) := by
  have hpl := World.block_lt_of_cell? _ _ hp
  have hgl := hB.lt
  obtain ⟨kl, ekl⟩ : ∃ kl, kl = kList := ⟨_, rfl⟩
  obtain ⟨hl, ehl⟩ : ∃ hl, hl = hList := ⟨_, rfl⟩
  have hr : ∀ W, Calls Tryz.prog 75 #[] W fun e w' => e = .returned (.agg kl.toArray) ∧ Below W.heap.size W w' := by subst ekl; exact fun W => roots_any W
  have hs : ∀ W, Calls Tryz.prog 76 #[] W fun e w' => e = .returned (.agg hl.toArray) ∧ Below W.heap.size W w' := by subst ehl; exact fun W => start_any W
  have HR := Lib.hid hr
  have HS := Lib.hid hs
  clear hr hs
  have hkl : kl.length = 64 := by rw [ekl]; exact kList_len
  have hhl : hl.length = 8 := by rw [ehl]; exact hList_len
  have hk1 : ∀ v ∈ kl, v.oneCell' = true := by rw [ekl]; exact kList_one
  have hh1 : ∀ v ∈ hl, v.oneCell' = true := by rw [ehl]; exact hList_one
  have hi64 : (Tryz.prog.info? 113).map (·.size) = some 64 := rfl
  have hst2 : ∀ W : World, W.there g 68 8 → (storeCells ⟨g, 68, none⟩ hl 0).run Tryz.prog W = .ok () (W.setCells g 68 hl) := fun W hW =>
    run_storeCells_cells (P := Tryz.prog) g 68 hl 0 W (fun j hj => (hW j (by omega)).1) (fun j hj => (hW j (by omega)).2) hh1
  have HST := Lib.hid hst2
  clear hst2
  rw [← ekl, ← ehl]
  have HKL := Lib.hid (And.intro hkl hhl)
  clear ekl ehl hh1
  have hS : ∀ W : World, Below w.heap.size w W → W.cell? pl = some (.pointer (some ⟨g, 0, none⟩)) ∧ W.there g 4 64 ∧ W.there g 68 8 := fun W hb =>
    ⟨(hb.cell hpl).trans hp, (hB.below hb hgl).there 4 64 (by omega), (hB.below hb hgl).there 68 8 (by omega)⟩
  have hS2 : ∀ W1 W2 : World, Below w.drew.heap.size w.drew W1 → Below W1.heap.size W1 W2 → W2.cell? pl = some (.pointer (some ⟨g, 0, none⟩)) ∧ W2.there g 4 64 ∧ W2.there g 68 8 := fun W1 W2 h1 h2 =>
    hS W2 (((Below.refl _ w).drew.trans h1).trans (h2.mono h1.size))
  have hS3 : ∀ (W : World) (o : Nat) (vs : List Value), (W.cell? pl = some (.pointer (some ⟨g, 0, none⟩)) ∧ W.there g 4 64 ∧ W.there g 68 8) → (W.setCells g o vs).cell? pl = some (.pointer (some ⟨g, 0, none⟩)) ∧ (W.setCells g o vs).there g 4 64 ∧ (W.setCells g o vs).there g 68 8 := fun W o vs h =>
    ⟨(World.cell?_setCells_out g _ _ _ _ (fun e => absurd e hpg)).trans h.1, World.there_setCells h.2.1 g _ _, World.there_setCells h.2.2 g _ _⟩
  have hS0 := hS w.drew (Below.refl _ w).drew
  have H1 := Lib.hid hS
  have H2 := Lib.hid hS2
  have H3 := Lib.hid hS3
  have H0 := Lib.hid hS0
  have HC := Lib.hid hcs
  clear hcs hS hS2 hS3 hS0
  go_enter Tryz.func74, Tryz.ntmps74
  go_wp2
  go_region_held3 (fun w' => w'.cell? pl = some (.pointer (some ⟨g, 0, none⟩)) ∧ w'.there g 4 64 ∧ w'.there g 68 8)
    (first
      | exact H0.out
      | (exact H1.out _ ((Below.refl _ w).drew.trans hb1))
      | (exact H2.out _ _ hb1 hb2)
      | (exact H3.out _ _ _ (H2.out _ _ hb1 hb2))
      | (exact H3.out _ _ _ (H3.out _ _ _ (H2.out _ _ hb1 hb2))))
    (first
      | (go_at_call 75; refine (HR.out _).mono ?_; rintro _ w1 ⟨rfl, hb1⟩)
      | (go_at_call 76; refine (HS.out _).mono ?_; rintro _ w2 ⟨rfl, hb2⟩; have hst3 := HST.out (World.setCells w2 g 4 kl) (World.there_setCells (H2.out _ _ hb1 hb2).2.2 g _ _)))
  go_end0
  obtain ⟨h1, h2⟩ := HKL.out
  have hB2 := (hB.drew.below hb1 hgl).below hb2 (Nat.lt_of_lt_of_le hgl hb1.size)
  have hb3 := ((Below.refl w.heap.size w).drew.trans hb1).trans (hb2.mono hb1.size)
  have hB3 := hB2.setCells 4 kl (by rw [h1, HC.out]; omega)
  have hB4 := hB3.1.setCells 68 hl (by rw [h2, spl_size (by rw [h1, HC.out]; omega), HC.out]; omega)
  exact ⟨rfl, hB4.1, (only_of_below hb3 (some g)).trans (hB3.2.trans hB4.2).grown⟩

set_option maxRecDepth 100000 in
set_option maxHeartbeats 1600000 in
/-- doSlow, not yet done, the lock free -/
theorem slow_any (g : Nat) (pl : Addr) (hpg : pl.block ≠ g) (k s b : Nat → Value) (x y : Int) (w : World) (hB : Blk w g 115 (hashCells 0 0 k s b x y)) (hp : w.cell? pl = some (.pointer (some ⟨g, 0, none⟩))) :
    Calls Tryz.prog 80 #[.pointer (some ⟨g, 1, none⟩), .func (.func 74) #[] #[.pointer (some pl)]] w fun e w' => e = .returned (.tuple #[]) ∧ Blk w' g 115 (hashCells 1 0 kF (sF h0) b x y) ∧ w.grownBy w' (some g) := by
  have c1 : w.cell? ⟨g, 1, none⟩ = some (.int .u32 0) := (hB.cell 1).trans (hash_at _ _ _ _ _ _ _ 1 (by omega))
  have c2 : w.cell? ⟨g, 2, none⟩ = some (.int .i32 0) := (hB.cell 2).trans (hash_at _ _ _ _ _ _ _ 2 (by omega))
  have f2 := hB.frozen 2
  have hB1 := hB.set_ 2 (.int .i32 1)
  rw [hash_set2] at hB1
  have hT1 := Turned.setCell w ⟨g, 2, none⟩ (.int .i32 1)
  have hp1 : (w.setCell ⟨g, 2, none⟩ (.int .i32 1)).cell? pl = some (.pointer (some ⟨g, 0, none⟩)) := (hT1.cell hpg).trans hp
  have c11 : (w.setCell ⟨g, 2, none⟩ (.int .i32 1)).cell? ⟨g, 1, none⟩ = some (.int .u32 0) := (hB1.cell 1).trans (hash_at _ _ _ _ _ _ _ 1 (by omega))
  have hl := run_call_load (P := Tryz.prog) Tryz.func84 (by kernel_rfl) (by kernel_rfl) (by kernel_rfl) .u32 (by kernel_rfl) c11
  have hnot : ∀ (x : Bool) (w : World), (Op.unary .not (.bool x)).run Tryz.prog w = .ok (.bool (!x)) w := fun _ _ => rfl
  have HB1 := Lib.hid hB1
  have HT1 := Lib.hid hT1
  have HP1 := Lib.hid hp1
  clear hB1 hT1 hp1 hB
  go_enter_defers Tryz.func80, Tryz.ntmps80
  go_wp2_with (first | (go_at_call 85; refine (lock_free ⟨g, 2, none⟩ _ c2 f2).mono ?_; rintro e w' ⟨rfl, rfl⟩) | (go_at_call 79; go_in))
  refine (ready1_any g pl hpg _ (hash_size _ _ _ _ _ _ _) _ HB1.out HP1.out).mono ?_
  rintro e w1 ⟨rfl, hB2, hg2⟩
  rw [hash_ready] at hB2
  go_wp2
  have hB3 := hB2.drew.set_ 1 (.int .u32 1)
  rw [hash_set1] at hB3
  have hB4 := hB3.set_ 2 (.int .i32 0)
  rw [hash_set2] at hB4
  have hG : w.grownBy ((w1.drew.setCell ⟨g, 1, none⟩ (.int .u32 1)).setCell ⟨g, 2, none⟩ (.int .i32 0)) (some g) :=
    ((HT1.out.grown.trans (only_drew hg2)).trans (Turned.setCell _ ⟨g, 1, none⟩ _).grown).trans (Turned.setCell _ ⟨g, 2, none⟩ _).grown
  refine leaves_cons (f := 87) (args := #[.pointer (some ⟨g, 1, none⟩), .bool true]) (by simp) (by simp [go_sem]) ?_
  refine (store_deferred ⟨g, 1, none⟩ (.int .u32 0) .returning _ ((hB2.cell 1).trans (hash_at _ _ _ _ _ _ _ 1 (by omega))) (hB2.frozen 1)).mono ?_
  rintro e u' w'' ⟨rfl, rfl, rfl⟩
  refine leaves_cons (f := 86) (args := #[.pointer (some ⟨g, 2, none⟩)]) (by simp [settle]) (by simp [go_sem]) ?_
  refine (unlock_deferred ⟨g, 2, none⟩ _ _ ((hB3.cell 2).trans (hash_at _ _ _ _ _ _ _ 2 (by omega))) (hB3.frozen 2)).mono ?_
  rintro e u' w'' ⟨rfl, rfl, rfl⟩
  simp only [Leaves, settle]
  exact ⟨_, by simp [results, Tryz.results80], rfl, hB4, hG⟩

set_option maxRecDepth 100000 in
set_option maxHeartbeats 1600000 in
theorem do_first (g : Nat) (pl : Addr) (hpg : pl.block ≠ g) (k s b : Nat → Value) (x y : Int) (w : World) (hB : Blk w g 115 (hashCells 0 0 k s b x y)) (hp : w.cell? pl = some (.pointer (some ⟨g, 0, none⟩))) :
    Calls Tryz.prog 73 #[.pointer (some ⟨g, 1, none⟩), .func (.func 74) #[] #[.pointer (some pl)]] w fun e w' => e = .returned (.tuple #[]) ∧ Blk w' g 115 (hashCells 1 0 kF (sF h0) b x y) ∧ w.grownBy w' (some g) := by
  have c1 : w.cell? ⟨g, 1, none⟩ = some (.int .u32 0) := (hB.cell 1).trans (hash_at _ _ _ _ _ _ _ 1 (by omega))
  have hl := run_call_load (P := Tryz.prog) Tryz.func84 (by kernel_rfl) (by kernel_rfl) (by kernel_rfl) .u32 (by kernel_rfl) c1
  have hnot : ∀ (x : Bool) (w : World), (Op.unary .not (.bool x)).run Tryz.prog w = .ok (.bool (!x)) w := fun _ _ => rfl
  have HB := Lib.hid hB
  have HP := Lib.hid hp
  clear hB hp
  go_enter Tryz.func73, Tryz.ntmps73
  go_wp2_with (first | (go_at_call 80; refine (slow_any g pl hpg k s b x y _ HB.out HP.out).mono ?_; rintro e w1 ⟨rfl, hB2, hg2⟩) | (go_at_call 79; go_in))
  go_end0
  exact ⟨rfl, hB2, hg2⟩

theorem do_done (a : Addr) (fv : Value) (w : World) (h0 : w.cell? a = some (.int .u32 1)) :
    Calls Tryz.prog 73 #[.pointer (some a), fv] w fun e w' => e = .returned (.tuple #[]) ∧ w' = w := by
  have hl := run_call_load (P := Tryz.prog) Tryz.func84 (by kernel_rfl) (by kernel_rfl) (by kernel_rfl) .u32 (by kernel_rfl) h0
  have hnot : ∀ (x : Bool) (w : World), (Op.unary .not (.bool x)).run Tryz.prog w = .ok (.bool (!x)) w := fun _ _ => rfl
  go_enter Tryz.func73, Tryz.ntmps73
  go_wp2
  go_end0
  exact ⟨rfl, rfl⟩

/-- a hash that took bytes, whose k is made -/
def HashDone (w : World) (g : Nat) (l : List UInt8) : Prop :=
  ∃ b : Nat → UInt8, Blk w g 115 (hashCells 1 0 kF (sF (acc l).1) (fun j => vb (b j)) ((acc l).2.length : Nat) (l.length : Nat)) ∧ ∀ j, j < (acc l).2.length → b j = (acc l).2.getD j 0
/-- a hash that took bytes -/
def HashAt (w : World) (g : Nat) (l : List UInt8) : Prop :=
  HashDone w g l ∨ (l = [] ∧ Blk w g 115 (hashCells 0 0 z32 z32 z8 0 0))

theorem HashDone.keep {w w' : World} {g : Nat} {l : List UInt8} (h : HashDone w g l) (hb : w'.heap[g]? = w.heap[g]?) : HashDone w' g l := by
  obtain ⟨b, h1, h2⟩ := h
  exact ⟨b, hb.trans h1, h2⟩
theorem HashAt.keep {w w' : World} {g : Nat} {l : List UInt8} (h : HashAt w g l) (hb : w'.heap[g]? = w.heap[g]?) : HashAt w' g l := by
  rcases h with h | ⟨h1, h2⟩
  · exact .inl (h.keep hb)
  · exact .inr ⟨h1, hb.trans h2⟩
theorem HashAt.lt {w : World} {g : Nat} {l : List UInt8} (h : HashAt w g l) : g < w.heap.size := by
  rcases h with ⟨b, h1, _⟩ | ⟨_, h1⟩ <;> exact h1.lt

set_option maxRecDepth 100000 in
set_option maxHeartbeats 1600000 in
theorem ready_any (g : Nat) (l : List UInt8) (w : World) (h : HashAt w g l) :
    Calls Tryz.prog 65 #[.pointer (some ⟨g, 0, none⟩)] w fun e w' => e = .returned (.tuple #[]) ∧ HashDone w' g l ∧ w.grownBy w' (some g) := by
  have hgl := h.lt
  have hmf : ∀ (fn : Fn) (first cap : Array Value) (w : World), (Instr.makeFunc fn first cap).run Tryz.prog w = .ok (.func fn first cap) w := fun _ _ _ _ => rfl
  have hp : (w.alloc (.cells #[.pointer (some ⟨g, 0, none⟩)] 87)).cell? ⟨w.heap.size, 0, none⟩ = some (.pointer (some ⟨g, 0, none⟩)) := by simp
  rcases h with ⟨b, h1, h2⟩ | ⟨rfl, h1⟩
  · have hB := h1.alloc (.cells #[.pointer (some ⟨g, 0, none⟩)] 87)
    have c1 := (hB.cell 1).trans (hash_at _ _ _ _ _ _ _ 1 (by omega))
    have HD := Lib.hid (do_done ⟨g, 1, none⟩ (.func (.func 74) #[] #[.pointer (some ⟨w.heap.size, 0, none⟩)]) _ c1)
    have HB := Lib.hid hB
    clear hB h1 c1
    go_enter Tryz.func65, Tryz.ntmps65
    go_wp2_with (go_at_call 73; refine HD.out.mono ?_; rintro e w1 ⟨rfl, rfl⟩)
    go_end0
    exact ⟨rfl, ⟨b, HB.out, h2⟩, only_alloc (World.grownBy.refl w _) _⟩
  · have hB := h1.alloc (.cells #[.pointer (some ⟨g, 0, none⟩)] 87)
    have HD := Lib.hid (do_first g ⟨w.heap.size, 0, none⟩ (by simp; omega) z32 z32 z8 0 0 _ hB hp)
    clear hB h1
    go_enter Tryz.func65, Tryz.ntmps65
    go_wp2_with (go_at_call 73; refine HD.out.mono ?_; rintro e w1 ⟨rfl, hB2, hg2⟩)
    go_end0
    exact ⟨rfl, ⟨fun _ => 0, hB2, fun j hj => by simp [acc, feed] at hj⟩, (only_alloc (World.grownBy.refl w _) _).trans hg2⟩

end Go.Proofs.YtcmbmimmfgfefaaGreat
