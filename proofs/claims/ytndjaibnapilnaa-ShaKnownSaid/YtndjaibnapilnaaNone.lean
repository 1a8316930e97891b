/-
  Hashes that are none: nil, or no call of the package made them.
-/
import Derived.Test.YtndjaibnapilnaaSum
namespace Go.Proofs.Ytndjaibnapilnaa
set_option linter.unusedVariables false
open Go.RowKit

/-- no hash: nil, or one that New did not make -/
def NoHash (w : World) (p : Option Addr) : Prop := p = none ∨ ∃ g, p = some ⟨g, 0, none⟩ ∧ g < w.heap.size ∧ w.cell? ⟨g, 0, none⟩ = some (.bool false) ∧ w.cell? ⟨g, 141, none⟩ = some (.int .i64 0)

theorem len_none (p : Option Addr) (w : World) (h : NoHash w p) :
    Calls Try.prog 25 #[.pointer p] w fun e w' => e = .returned (.int .i64 0) ∧ w = w' := by
  rcases h with rfl | ⟨g, rfl, _, _, c1⟩
  · go_enter Try.func25, Try.ntmps25
    go_wp2
    go_ret
    exact ⟨rfl, rfl⟩
  · go_enter Try.func25, Try.ntmps25
    go_wp2
    go_ret
    exact ⟨rfl, rfl⟩
theorem write_none (p : Option Addr) (v : Value) (w : World) (h : NoHash w p) :
    Calls Try.prog 19 #[.pointer p, v] w fun e w' => e = .returned (.int .i64 1) ∧ w = w' := by
  have hnot : ∀ (x : Bool) (w : World), (Op.unary .not (.bool x)).run Try.prog w = .ok (.bool (!x)) w := fun _ _ => rfl
  rcases h with rfl | ⟨g, rfl, _, c0, _⟩
  · go_enter Try.func19, Try.ntmps19
    go_wp2
    go_ret
    exact ⟨rfl, rfl⟩
  · go_enter Try.func19, Try.ntmps19
    go_wp2
    go_ret
    exact ⟨rfl, rfl⟩
def zdig : Array Value := bRow (List.replicate 32 0)
set_option maxRecDepth 100000 in
set_option maxHeartbeats 1000000 in
theorem sum_none (p : Option Addr) (w : World) (h : NoHash w p) :
    Calls Try.prog 24 #[.pointer p] w fun e w' => e = .returned (.tuple #[.agg zdig, .int .i64 1]) ∧ Below w.heap.size w w' := by
  have hnot : ∀ (x : Bool) (w : World), (Op.unary .not (.bool x)).run Try.prog w = .ok (.bool (!x)) w := fun _ _ => rfl
  have hz : zdig.size = 32 := by simp [zdig, bRow_size]
  have ho : zdig.all (·.oneCell') = true := bRow_one _
  have he : zdig = #[.int .u8 0, .int .u8 0, .int .u8 0, .int .u8 0, .int .u8 0, .int .u8 0, .int .u8 0, .int .u8 0, .int .u8 0, .int .u8 0, .int .u8 0, .int .u8 0, .int .u8 0, .int .u8 0, .int .u8 0, .int .u8 0, .int .u8 0, .int .u8 0, .int .u8 0, .int .u8 0, .int .u8 0, .int .u8 0, .int .u8 0, .int .u8 0, .int .u8 0, .int .u8 0, .int .u8 0, .int .u8 0, .int .u8 0, .int .u8 0, .int .u8 0, .int .u8 0] := by kernel_rfl
  have HZ := Lib.hid hz
  have HO := Lib.hid ho
  have HE := Lib.hid he
  clear hz ho he
  generalize zdig = zd at HZ HO HE ⊢
  have hX : Below w.heap.size w (w.alloc (.cells zd 25)) := (Below.refl _ _).alloc (Nat.le_refl _) _
  rcases h with rfl | ⟨g, rfl, hg, c0, _⟩
  · go_enter Try.func24, Try.ntmps24
    go_wp2_with (refine wpList_store_part rfl 25 (.tmp 2) (.tmp 18) rfl w.heap.size 0 zd rfl (by rw [HE.out]; rfl) 25 zd (by rw [HE.out]; exact Blk.newAt rfl) (by rw [HZ.out]; rfl) (by rw [HZ.out]; simp) HO.out ?_; intro W5 hT5 hB5; rw [spl_self _ _ rfl] at hB5)
    refine bodyPost_ret (results_part2 rfl _ _ w.heap.size 32 25 _ _ rfl hB5 Try.underlying25 rfl rfl HZ.out) rfl ⟨rfl, ?_⟩
    have := hX
    rw [HE.out] at this
    exact hT5.below this (Nat.le_refl _)
  · have c0' : (w.alloc (.cells zd 25)).cell? ⟨g, 0, none⟩ = some (.bool false) := (World.cell?_alloc_lt w _ ⟨g, 0, none⟩ hg).trans c0
    rw [HE.out] at c0'
    go_enter Try.func24, Try.ntmps24
    go_wp2_with (refine wpList_store_part rfl 25 (.tmp 2) (.tmp 18) rfl w.heap.size 0 zd rfl (by rw [HE.out]; rfl) 25 zd (by rw [HE.out]; exact Blk.newAt rfl) (by rw [HZ.out]; rfl) (by rw [HZ.out]; simp) HO.out ?_; intro W5 hT5 hB5; rw [spl_self _ _ rfl] at hB5)
    refine bodyPost_ret (results_part2 rfl _ _ w.heap.size 32 25 _ _ rfl hB5 Try.underlying25 rfl rfl HZ.out) rfl ⟨rfl, ?_⟩
    have := hX
    rw [HE.out] at this
    exact hT5.below this (Nat.le_refl _)

end Go.Proofs.Ytndjaibnapilnaa
