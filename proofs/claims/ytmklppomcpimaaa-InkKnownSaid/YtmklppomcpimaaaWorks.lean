/-
  Contract of bastidelaw03.works.
-/
import Derived.Test.YtmklppomcpimaaaNoted
import Derived.Lib.SlBytesConst
namespace Go.Proofs.Ytmklppomcpimaaa
set_option linter.unusedVariables false
open Go.RowKit Go.Maps

/-- a constant's bytes -/
theorem reads_lit (W : World) (xs : List UInt8) (t : TypeId) (fr : Nat × Nat) : Reads (W.alloc (.cells (xs.map vb).toArray t fr)) (W.heap.size + 1) 1 (some ⟨W.heap.size, 0, none⟩) xs.length (xs.map vb) := by
  refine ⟨by simp, fun _ => ⟨_, rfl, Nat.lt_succ_self _, fun j u hj => ?_⟩⟩
  have he : (⟨W.heap.size, 0, none⟩ : Addr).add j = ⟨W.heap.size, j, none⟩ := by
    unfold Addr.add; split
    · simp_all
    · simp
  rw [he, World.cell?_alloc_mark]
  simpa using hj
theorem below_lit (W : World) (o : Obj) : Below W.heap.size W (W.alloc o) := (Below.refl _ _).alloc (Nat.le_refl _) _
def abcB : List UInt8 := [97, 98, 99]
set_option maxRecDepth 100000 in
theorem works_clash : clashB (addInk (addInk (addInk [] abcB) abcB) []) = false := by kernel_rfl

set_option maxRecDepth 100000 in
set_option maxHeartbeats 1000000 in
theorem works_any (w : World) : Calls Try.prog 22 #[] w fun e w' => e = .returned (.bool true) ∧ Below w.heap.size w w' := by
  have kc := fun (w : World) (C : Array Value) (n c : Nat) => Lib.run_convert_bytes_const (P := Try.prog) w 32 5 C n c Try.underlying32 Try.underlying5
  go_enter Try.func22, Try.ntmps22
  go_wp2_with fail
  refine (inkNew_any _).mono ?_
  rintro _ w1 ⟨k, rfl, hbk, hkk, hb1⟩
  have hs1 := hb1.size
  have HK1 := Lib.hid hbk
  have HB1 := Lib.hid hb1
  clear hbk hb1
  go_wp2_with fail
  have hbe := below_lit w1 (.cells #[.int .u8 97, .int .u8 98, .int .u8 99] 5 (3, 4))
  have hl := HK1.out.lt
  refine (noted_any k [] 0 (some ⟨w1.heap.size, 0, none⟩) 3 3 abcB _ (w1.heap.size + 1) (HK1.out.below hbe) (reads_lit w1 abcB 5 (3, 4)) (by simp) (fun a _ ha => by injection ha with ha; subst ha; rintro (e | e | e) <;> simp only at e <;> omega) (Nat.le_refl _) (by decide) (by decide) (by decide)).mono ?_
  rintro _ w2 ⟨rfl, hk2, ho2⟩
  have HB2 := Lib.hid (ho2.below (HB1.out.trans (hbe.mono hs1)) (by simp; omega) hkk)
  have HK2 := Lib.hid hk2
  have hs2 := HB2.out.size
  clear hk2 ho2 hbe hl
  go_wp2_with fail
  have hbe := below_lit w2 (.cells #[.int .u8 97, .int .u8 98, .int .u8 99] 5 (3, 4))
  have hl := HK2.out.lt
  refine (noted_any k _ 1 (some ⟨w2.heap.size, 0, none⟩) 3 3 abcB _ (w2.heap.size + 1) (HK2.out.below hbe) (reads_lit w2 abcB 5 (3, 4)) (by simp) (fun a _ ha => by injection ha with ha; subst ha; rintro (e | e | e) <;> simp only at e <;> omega) (Nat.le_refl _) (by decide) (by decide) (by decide)).mono ?_
  rintro _ w3 ⟨rfl, hk3, ho3⟩
  have HB3 := Lib.hid (ho3.below (HB2.out.trans (hbe.mono hs2)) (by simp; omega) hkk)
  have HK3 := Lib.hid hk3
  have hs3 := HB3.out.size
  clear hk3 ho3 hbe hl
  go_wp2_with fail
  refine (noted_any k _ 2 none 0 0 [] _ w3.heap.size HK3.out Reads.none_ (Nat.le_refl _) (fun a h0 _ => absurd h0 (by decide)) (Nat.le_refl _) (by decide) (by decide) (by decide)).mono ?_
  rintro _ w4 ⟨rfl, hk4, ho4⟩
  have HB4 := Lib.hid (ho4.below HB3.out (by omega) hkk)
  have HK4 := Lib.hid hk4
  have hs4 := HB4.out.size
  clear hk4 ho4
  go_wp2_with fail
  refine (inkLen_any k _ 3 _ HK4.out (by decide)).mono ?_
  rintro _ w5 ⟨rfl, q, rfl⟩
  have HK5 := Lib.hid (HK4.out.drewN q)
  have HB5 := Lib.hid (below_drewN HB4.out q)
  have hlen : (addInk (addInk (addInk [] abcB) abcB) []).length = 2 := by decide
  simp only [hlen]
  go_wp2_with fail
  refine (inkAsked_any k _ 3 _ HK5.out).mono ?_
  rintro _ _ ⟨rfl, rfl⟩
  go_wp2_with fail
  refine (inkClash_any k _ 3 _ HK5.out).mono ?_
  rw [works_clash]
  rintro _ _ ⟨rfl, rfl⟩
  go_wp2_with fail
  go_ret
  exact ⟨rfl, HB5.out⟩

end Go.Proofs.Ytmklppomcpimaaa
