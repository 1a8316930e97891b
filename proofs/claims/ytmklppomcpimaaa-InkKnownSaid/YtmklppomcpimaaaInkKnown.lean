/-
  InkKnown: the law's walk.
-/
import Derived.Test.YtmklppomcpimaaaInkAll
import Derived.Test.YtmklppomcpimaaaWorks
import Derived.Test.YtmklppomcpimaaaEqDig
namespace Go.Proofs.Ytmklppomcpimaaa
set_option linter.unusedVariables false
open Go.RowKit Go.Maps

theorem reads_made {w : World} {B g : Nat} (n : Nat) (h : w.ownsRow B 5 1 (.slice (some ⟨g, 0, none⟩) n n) n (madeCells (Value.int .u8 0).cells (n * 1)).toList) : Reads w w.heap.size 1 (some ⟨g, 0, none⟩) n ((List.replicate n (0 : UInt8)).map vb) := by
  have := Reads.of_own h
  have e : (madeCells (Value.int .u8 0).cells (n * 1)).toList = (List.replicate n (0 : UInt8)).map vb := by
    rw [Nat.mul_one, List.map_replicate]
    apply List.ext_getElem
    · simp [madeCells]
    · intro i h1 h2
      simp [madeCells, Value.cells, vb, bi, Nat.mod_one]
  rw [e] at this
  exact this
theorem add_first (zs : List UInt8) : (addInk [] zs).length = 1 := by unfold addInk; simp

set_option maxRecDepth 100000 in
set_option maxHeartbeats 4000000 in
theorem inkKnown_law (w : World) :
    Calls Try.prog 9 #[] w fun e w' => e = .returned (.bool true) ∧ Below w.heap.size w w' := by
  obtain ⟨i0, hi0, hz0, hz1, hz2⟩ := info_parts u8_info
  obtain ⟨N1, hN1⟩ : ∃ N : Nat, N = 65537 := ⟨_, rfl⟩
  obtain ⟨N2, hN2⟩ : ∃ N : Nat, N = 65536 := ⟨_, rfl⟩
  have HN1 := Lib.hid hN1
  have HN2 := Lib.hid hN2
  clear hN1 hN2
  go_enter Try.func9, Try.ntmps9
  go_wp2_with fail
  refine (inkNew_any _).mono ?_
  rintro _ w1 ⟨k, rfl, hk1, hkk, hb1⟩
  have hs1 := hb1.size
  have HK1 := Lib.hid hk1
  have HB1 := Lib.hid hb1
  clear hk1 hb1
  go_wp2_with (refine wpList_make_full _ rfl (.const (.int .i64 65537)) (.const (.int .i64 65537)) 32 rfl w1.heap.size 5 i0 (.int .u8 0) 1 Try.underlying32 hi0 hz0 hz1 .i64 .i64 65537 65537 N1 rfl rfl (by rw [HN1.out]; rfl) (by rw [HN1.out]; rfl) (by rw [hz2, HN1.out]; omega) (by rw [HN1.out]; unfold maxLen; omega) (Nat.le_refl _) ?_; intro w2 hown2 hg2)
  have hb2 : Below w1.heap.size w1 w2 := (Below.refl _ _).grown hg2 (Nat.le_refl _) (fun g h => by cases h)
  have HK2 := Lib.hid (HK1.out.below hb2)
  have HB2 := Lib.hid (HB1.out.trans (hb2.mono hs1))
  have hs2 := hb2.size
  clear hown2 hg2 hb2
  refine (inkOf_big k [] 0 _ N1 N1 w2 HK2.out (by have := HN1.out; omega) (Nat.le_refl _) (by have := HN1.out; unfold maxLen; omega)).mono ?_
  rintro _ w3 ⟨rfl, hb3⟩
  have HK3 := Lib.hid (HK2.out.below hb3)
  have HB3 := Lib.hid (HB2.out.trans (hb3.mono HB2.out.size))
  have hs3 := hb3.size
  clear hb3
  have hzs : inkZ.size = 32 := by simp [inkZ, bRow]
  have HZS := Lib.hid hzs
  have HZO := Lib.hid (show inkZ.all (·.oneCell') = true from bRow_one _)
  have hze : inkZ = #[.int .u8 0, .int .u8 0, .int .u8 0, .int .u8 0, .int .u8 0, .int .u8 0, .int .u8 0, .int .u8 0, .int .u8 0, .int .u8 0, .int .u8 0, .int .u8 0, .int .u8 0, .int .u8 0, .int .u8 0, .int .u8 0, .int .u8 0, .int .u8 0, .int .u8 0, .int .u8 0, .int .u8 0, .int .u8 0, .int .u8 0, .int .u8 0, .int .u8 0, .int .u8 0, .int .u8 0, .int .u8 0, .int .u8 0, .int .u8 0, .int .u8 0, .int .u8 0] := by kernel_rfl
  have hne := neq_digest (List.replicate 32 0) (List.replicate 32 0) (by simp) (by simp)
  rw [bne_self_eq_false] at hne
  have hne' : ∀ W : World, (binOp .neq 28 (.agg inkZ) (.agg #[.int .u8 0, .int .u8 0, .int .u8 0, .int .u8 0, .int .u8 0, .int .u8 0, .int .u8 0, .int .u8 0, .int .u8 0, .int .u8 0, .int .u8 0, .int .u8 0, .int .u8 0, .int .u8 0, .int .u8 0, .int .u8 0, .int .u8 0, .int .u8 0, .int .u8 0, .int .u8 0, .int .u8 0, .int .u8 0, .int .u8 0, .int .u8 0, .int .u8 0, .int .u8 0, .int .u8 0, .int .u8 0, .int .u8 0, .int .u8 0, .int .u8 0, .int .u8 0])).run Try.prog W = .ok (.bool false) W := fun W => by
    rw [← hze]; exact hne W
  have HNE := Lib.hid hne'
  have HON := Lib.hid (fun (p : Option Addr) (v : Value) (W : World) (h : NoBook W p) => inkOf_none p v W h)
  clear hzs hze hne hne'
  generalize inkZ = Z at HZS HZO HNE HON ⊢
  go_upto_region 3 with (refine wpList_store_part rfl 28 (.tmp 2) (.tmp 15) rfl w3.heap.size 0 Z rfl rfl 28 _ (Blk.newAt rfl) (by rw [HZS.out]; rfl) (by rw [HZS.out]; simp) HZO.out ?_; intro w4 hT4 hD4)
  have hb4 : Below w3.heap.size w3 w4 := hT4.below ((Below.refl _ _).alloc (Nat.le_refl _) _) (Nat.le_refl _)
  have HK4 := Lib.hid (HK3.out.below hb4)
  have HB4 := Lib.hid (HB3.out.trans (hb4.mono HB3.out.size))
  have hs4 := hb4.size
  clear hb4 hT4 hD4
  go_wp2_with (refine wpList_make_full _ rfl (.const (.int .i64 65536)) (.const (.int .i64 65536)) 32 rfl w4.heap.size 5 i0 (.int .u8 0) 1 Try.underlying32 hi0 hz0 hz1 .i64 .i64 65536 65536 N2 rfl rfl (by rw [HN2.out]; rfl) (by rw [HN2.out]; rfl) (by rw [hz2, HN2.out]; omega) (by rw [HN2.out]; unfold maxLen; omega) (Nat.le_refl _) ?_; intro w5 hown5 hg5)
  have hb5 : Below w4.heap.size w4 w5 := (Below.refl _ _).grown hg5 (Nat.le_refl _) (fun g h => by cases h)
  have HK5 := Lib.hid (HK4.out.below hb5)
  have HB5 := Lib.hid (HB4.out.trans (hb5.mono HB4.out.size))
  have hs5 := hb5.size
  have hrd := reads_made N2 hown5
  have hk4 := HK4.out.lt
  generalize List.replicate N2 (0 : UInt8) = zs at hrd
  clear hown5 hg5 hb5
  refine (inkOf_any k [] 0 _ N2 N2 zs w5 _ HK5.out hrd (Nat.le_refl _) (fun a h0 ha => by injection ha with ha; subst ha; show w4.heap.size ≠ k.g; omega) (Nat.le_refl _) (by have := HN2.out; unfold maxLen; omega) (by have := HN2.out; omega) (by omega)).mono ?_
  rintro _ w6 ⟨rfl, hk6, ho6⟩
  have HK6 := Lib.hid hk6
  have HB6 := Lib.hid (ho6.below HB5.out (by omega) hkk)
  have HDS := Lib.hid (show (bRow (shaOf zs)).size = 32 by rw [bRow_size, shaOf_len])
  have HDO := Lib.hid (bRow_one (shaOf zs))
  clear hk6 ho6 hrd hk4
  generalize bRow (shaOf zs) = D at HDS HDO ⊢
  go_upto_region 4 with (refine wpList_store_part rfl 28 (.tmp 4) (.tmp 21) rfl w6.heap.size 0 D rfl rfl 28 _ (Blk.newAt rfl) (by rw [HDS.out]; rfl) (by rw [HDS.out]; simp) HDO.out ?_; intro w7 hT7 hD7)
  have hb7 : Below w6.heap.size w6 w7 := hT7.below ((Below.refl _ _).alloc (Nat.le_refl _) _) (Nat.le_refl _)
  have HK7 := Lib.hid (HK6.out.below hb7)
  have HB7 := Lib.hid (HB6.out.trans (hb7.mono HB6.out.size))
  clear hb7 hT7 hD7
  go_wp2_with fail
  go_loopw [6, 7] (fun pv iv wr => ∃ (i : Nat) (p : Option Addr), i ≤ 2 ∧ pv = .pointer p ∧ iv = .int .i64 i ∧ NoBook wr p ∧ BookAt wr k (addInk [] zs) 1 ∧ Below w.heap.size w wr) (fun _ iv _ => 2 - (intOf iv).toNat)
  case atStart => exact ⟨0, none, by omega, rfl, rfl, .inl rfl, HK7.out, HB7.out⟩
  case round =>
    obtain ⟨i, p, hi, rfl, rfl, hp, hK, hB⟩ := hrel
    have HP := Lib.hid hp
    have HK := Lib.hid hK
    have HB := Lib.hid hB
    have hsz := hB.size
    clear hp hK hB
    by_cases hi2 : i < 2
    · go_wp2_with fail
      have hX : Below wr.heap.size wr (wr.alloc (.cells #[.int .u8 1] 5)) := (Below.refl _ _).alloc (Nat.le_refl _) _
      refine (HON.out p _ _ (HP.out.below hX)).mono ?_
      rintro _ w8 ⟨rfl, hb8⟩
      have hb8' := hX.trans (hb8.mono (by simp))
      have HP8 := Lib.hid (HP.out.below hb8')
      have HK8 := Lib.hid (HK.out.below hb8')
      have HB8 := Lib.hid (HB.out.trans (hb8'.mono hsz))
      clear hX hb8 hb8'
      go_upto_region 9 with (refine wpList_store_part rfl 28 (.tmp 8) (.tmp 31) rfl w8.heap.size 0 Z rfl rfl 28 _ (Blk.newAt rfl) (by rw [HZS.out]; rfl) (by rw [HZS.out]; simp) HZO.out ?_; intro w9 hT9 hD9; rw [spl_self _ _ (by rw [HZS.out]; simp)] at hD9)
      have hb9 : Below w8.heap.size w8 w9 := hT9.below ((Below.refl _ _).alloc (Nat.le_refl _) _) (Nat.le_refl _)
      have HP9 := Lib.hid (HP8.out.below hb9)
      have HK9 := Lib.hid (HK8.out.below hb9)
      have HB9 := Lib.hid (HB8.out.trans (hb9.mono HB8.out.size))
      have HD9 := Lib.hid hD9
      have hs9 := HB9.out.size
      clear hb9 hT9 hD9
      have hne := HNE.out
      go_wp2_with (refine wpList_load_part rfl 28 (.tmp 8) rfl w8.heap.size 0 32 rfl 28 _ Z _ HD9.out Try.underlying28 rfl rfl HZS.out (fun _ _ => by rw [Nat.zero_add]) ?_)
      refine (inkClash_none w9 p HP9.out).mono ?_
      rintro _ _ ⟨rfl, rfl⟩
      go_wp2_with fail
      refine (inkLen_none w9 p HP9.out).mono ?_
      rintro _ _ ⟨rfl, rfl⟩
      go_wp2_with fail
      refine (inkAsked_none w9 p HP9.out).mono ?_
      rintro _ _ ⟨rfl, rfl⟩
      go_wp2_with fail
      go_roundw
      case rel =>
        refine ⟨i + 1, some ⟨w9.heap.size, 0, none⟩, by omega, rfl, by go_num, .inr ⟨w9.heap.size, rfl, by simp, ?_⟩, ?_, ?_⟩
        · go_simp
        · exact HK9.out.below ((Below.refl _ _).alloc (Nat.le_refl _) _)
        · exact HB9.out.trans ((Below.refl _ w9).alloc (Nat.le_refl _) _ |>.mono hs9)
      case measure => simp [intOf]; omega
    · go_wp2_with fail
      refine (works_any _).mono ?_
      rintro _ w8 ⟨rfl, hb8⟩
      have HK8 := Lib.hid (HK.out.below hb8)
      have HB8 := Lib.hid (HB.out.trans (hb8.mono hsz))
      clear hb8
      go_wp2_with fail
      refine (inkLen_b k _ _ w8 HK8.out (by omega)).mono ?_
      rintro _ w9 ⟨rfl, hb9⟩
      rw [add_first]
      have HK9 := Lib.hid (HK8.out.below hb9)
      have HB9 := Lib.hid (HB8.out.trans (hb9.mono HB8.out.size))
      clear hb9
      go_wp2_with fail
      refine (inkAsked_any k _ _ w9 HK9.out).mono ?_
      rintro _ _ ⟨rfl, rfl⟩
      go_wp2_with fail
      go_ret
      exact ⟨rfl, HB9.out⟩

end Go.Proofs.Ytmklppomcpimaaa
