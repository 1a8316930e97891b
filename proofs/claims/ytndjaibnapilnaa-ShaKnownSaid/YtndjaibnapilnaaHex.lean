/-
  Contracts of the law's hex, works, summed; equality of digests.
-/
import Derived.Test.YtndjaibnapilnaaShaOf
import Derived.Test.YtndjaibnapilnaaEq
import Derived.Test.YtndjaibnapilnaaEqDig
import Derived.Stop.BytesEq
import Derived.Lib.SlBytesConst
namespace Go.Proofs.Ytndjaibnapilnaa
set_option linter.unusedVariables false
open Go.RowKit

def letter (c : UInt8) : UInt8 := if 65 ≤ c.toNat then c - 55 else c - 48
def hexTo (l : List UInt8) : Nat → Nat → UInt8
  | 0, _ => 0
  | k + 1, j => if j = k / 2 then hexTo l k j * 16 + letter (l.getD k 0) else hexTo l k j
def hexOf (l : List UInt8) : List UInt8 := (List.range 32).map (hexTo l 64)
theorem hexOf_len (l : List UInt8) : (hexOf l).length = 32 := by simp [hexOf]

theorem b_mul16 (x : UInt8) : IntKind.u8.wrap (bi x * 16) = bi (x * 16) := by
  rw [IntKind.wrap_u8']; unfold bi; rw [UInt8.toNat_mul]; simp
theorem b_add (x y : UInt8) : IntKind.u8.wrap (bi x + bi y) = bi (x + y) := by
  rw [IntKind.wrap_u8']; unfold bi; rw [UInt8.toNat_add]; simp
theorem b_sub48 (x : UInt8) : IntKind.u8.wrap (bi x - 48) = bi (x - 48) := by
  rw [IntKind.wrap_u8']; unfold bi; rw [UInt8.toNat_sub]; have := x.toNat_lt; simp; omega
theorem b_sub55 (x : UInt8) : IntKind.u8.wrap (bi x - 65 + 10) = bi (x - 55) := by
  rw [IntKind.wrap_u8']; unfold bi; rw [UInt8.toNat_sub]; have := x.toNat_lt; simp; omega
theorem b_mul16' (x : UInt8) : (bi x * 16) % 256 = bi (x * 16) := by rw [← IntKind.wrap_u8', b_mul16]
theorem b_add' (x y : UInt8) : (bi x + bi y) % 256 = bi (x + y) := by rw [← IntKind.wrap_u8', b_add]
theorem b_sub48' (x : UInt8) : (bi x - 48) % 256 = bi (x - 48) := by rw [← IntKind.wrap_u8', b_sub48]
theorem b_sub55' (x : UInt8) : (bi x - 65 + 10) % 256 = bi (x - 55) := by rw [← IntKind.wrap_u8', b_sub55]

theorem hexval1 (x c : UInt8) (h : 65 ≤ c.toNat) : (bi x + ((c.toNat : Int) - 65 + 10)) % 256 = bi (x + letter c) := by
  unfold bi letter; rw [if_pos h, UInt8.toNat_add, UInt8.toNat_sub]; have := c.toNat_lt; simp; omega
theorem hexval2 (x c : UInt8) (h : ¬ 65 ≤ c.toNat) : (bi x + ((c.toNat : Int) - 48)) % 256 = bi (x + letter c) := by
  unfold bi letter; rw [if_neg h, UInt8.toNat_add, UInt8.toNat_sub]; have := c.toNat_lt; simp; omega
attribute [local go_sem] b_mul16 b_add b_sub48 b_sub55 b_mul16' b_add' b_sub48' b_sub55'

theorem hex_set (l : List UInt8) (k : Nat) : (rng 32 (fun j => vb (hexTo l k j))).setIfInBounds (k / 2) (vb (hexTo l k (k / 2) * 16 + letter (l.getD k 0))) = rng 32 (fun j => vb (hexTo l (k + 1) j)) := by
  rw [rng_set]
  refine rng_ext fun j _ => ?_
  simp only [hexTo]
  by_cases h : j = k / 2
  · subst h; simp
  · simp [h]
theorem hexRow (l : List UInt8) : bRow (hexOf l) = rng 32 (fun j => vb (hexTo l 64 j)) := by
  simp [bRow, hexOf, rng]

set_option maxRecDepth 100000 in
set_option maxHeartbeats 1000000 in
theorem hex_any (s : ByteArray) (hs : s.size = 64) (w : World) :
    Calls Try.prog 27 #[.string s] w fun e w' => e = .returned (.agg (bRow (hexOf s.data.toList))) ∧ Below w.heap.size w w' := by
  have hl : s.data.toList.length = 64 := by simpa using hs
  go_enter Try.func27, Try.ntmps27
  go_wp2
  have h2 := (Blk.new w 25 (rng 32 z8)).alloc (.cells (rng 32 z8) 25)
  have h3 : Blk ((w.alloc (.cells (rng 32 z8) 25)).alloc (.cells (rng 32 z8) 25)) (w.heap.size + 1) 25 (rng 32 z8) := Blk.newAt (by simp)
  have hb : Below w.heap.size w ((w.alloc (.cells (rng 32 z8) 25)).alloc (.cells (rng 32 z8) 25)) := ((Below.refl _ _).alloc (Nat.le_refl _) _).alloc (by simp) _
  rw [zeros32] at h2 hb
  rw [zeros32] at h3
  generalize ((w.alloc _).alloc _) = W at h2 h3 hb ⊢
  have HH := Lib.hid (And.intro hl hs)
  have hsz : s.size ≤ 64 := by omega
  clear hl hs
  go_loopw [4] (fun i wr => ∃ k : Nat, k ≤ 64 ∧ i = .int .i64 k ∧ Blk wr (w.heap.size + 1) 25 (rng 32 (fun j => vb (hexTo s.data.toList k j))) ∧ Turned (w.heap.size + 1) W wr) (fun i _ => 64 - (intOf i).toNat)
  case atStart => exact ⟨0, by omega, rfl, h3, Turned.refl _ _⟩
  case round =>
    obtain ⟨k, hk, rfl, hB, hT⟩ := hrel
    by_cases hk8 : k < 64
    · have hks : k < s.size := by have := HH.out.2; omega
      have cz := (hB.cell (k / 2)).trans (rng_get _ _ _ (by omega))
      have fz := hB.frozen (k / 2)
      have e1 : ((k : Int) / 2).toNat = k / 2 := by omega
      unfold vb at cz
      have hidx : s[k] = s.data.toList.getD k 0 := by
        rw [List.getD_eq_getElem?_getD, List.getElem?_eq_getElem (by simpa using hks)]; rfl
      have HB := Lib.hid hB
      have HT := Lib.hid hT
      have HX := Lib.hid hidx
      clear hB hT h2 h3 hb hidx
      have h256 : s[k].toNat < 256 := s[k].toNat_lt
      by_cases h65 : 65 ≤ (s[k]).toNat
      · go_wp2
        go_roundw
        case rel =>
          have h2 := HB.out.set_ (k / 2) (vb (hexTo s.data.toList k (k / 2) * 16 + letter s[k]))
          rw [HX.out, hex_set] at h2
          rw [hexval1 _ _ h65, HX.out]
          exact ⟨k + 1, by omega, by go_num, h2, HT.out.trans (Turned.setCell wr ⟨w.heap.size + 1, k / 2, none⟩ _)⟩
        case measure => simp [intOf]; omega
      · go_wp2
        go_roundw
        case rel =>
          have h2 := HB.out.set_ (k / 2) (vb (hexTo s.data.toList k (k / 2) * 16 + letter s[k]))
          rw [HX.out, hex_set] at h2
          rw [hexval2 _ _ h65, HX.out]
          exact ⟨k + 1, by omega, by go_num, h2, HT.out.trans (Turned.setCell wr ⟨w.heap.size + 1, k / 2, none⟩ _)⟩
        case measure => simp [intOf]; omega
    · obtain rfl : k = 64 := by omega
      have hks : s.size = 64 := HH.out.2
      rw [← hexRow] at hB
      have hR2 := hT.blk h2 (by omega)
      have hE := hT.below hb (by omega)
      have hbs := bRow_size (hexOf s.data.toList)
      rw [hexOf_len] at hbs
      have HBS := Lib.hid hbs
      have HON := Lib.hid (bRow_one (hexOf s.data.toList))
      have HB := Lib.hid hB
      have HR := Lib.hid hR2
      have HE := Lib.hid hE
      clear hB hT h2 h3 hb hbs hR2 hE
      generalize hhx : hexOf s.data.toList = hx at HBS HON HB
      have HHX := Lib.hid hhx
      clear hhx
      go_wp2_with (first
        | (refine wpList_load_part rfl 25 (.tmp 3) rfl (w.heap.size + 1) 0 32 rfl 25 _ (bRow hx) _ HB.out Try.underlying25 rfl rfl HBS.out (fun _ _ => by rw [Nat.zero_add]) ?_)
        | (refine wpList_store_part rfl 25 (.tmp 2) (.tmp 38) rfl w.heap.size 0 (bRow hx) rfl rfl 25 _ HR.out (by rw [HBS.out]; rfl) (by rw [HBS.out]; simp) HON.out ?_; intro W5 hT5 hB5; rw [spl_self _ _ (by rw [HBS.out]; simp)] at hB5))
      refine bodyPost_ret (results_part rfl _ _ w.heap.size 32 25 _ _ rfl hB5 Try.underlying25 rfl rfl HBS.out) rfl ⟨by rw [HHX.out], hT5.below HE.out (Nat.le_refl _)⟩

/-- the chapter's example: the letters of the digest of 97, 98, 99 -/
def abcHex : ByteArray := ⟨#[66, 65, 55, 56, 49, 54, 66, 70, 56, 70, 48, 49, 67, 70, 69, 65, 52, 49, 52, 49, 52, 48, 68, 69, 53, 68, 65, 69, 50, 50, 50, 51, 66, 48, 48, 51, 54, 49, 65, 51, 57, 54, 49, 55, 55, 65, 57, 67, 66, 52, 49, 48, 70, 70, 54, 49, 70, 50, 48, 48, 49, 53, 65, 68]⟩
theorem sha_abc : shaOf [97, 98, 99] = hexOf abcHex.data.toList := by decide +kernel

set_option maxRecDepth 100000 in
set_option maxHeartbeats 1000000 in
theorem works_any (w : World) : Calls Try.prog 17 #[] w fun e w' => e = .returned (.bool true) ∧ Below w.heap.size w w' := by
  have kc := fun (w : World) (C : Array Value) (n c : Nat) => Lib.run_convert_bytes_const (P := Try.prog) w 22 5 C n c Try.underlying22 Try.underlying5
  have heq := eql_digest
  have HEQ := Lib.hid heq
  clear heq
  go_enter Try.func17, Try.ntmps17
  go_wp2_with fail
  have hR : Reads (w.alloc (.cells (bRow [97, 98, 99]) 5 (3, 4))) (w.heap.size + 1) 1 (some ⟨w.heap.size, 0, none⟩) 3 ([97, 98, 99].map vb) := by
    refine ⟨rfl, fun _ => ⟨_, rfl, by simp, fun j u hu => ?_⟩⟩
    rw [add_off, Nat.zero_add, World.cell?_alloc_mark, bRow, List.getElem?_toArray]; exact hu
  have hb : Below w.heap.size w (w.alloc (.cells (bRow [97, 98, 99]) 5 (3, 4))) := (Below.refl _ _).alloc (Nat.le_refl _) _
  have hsz : (w.alloc (.cells (bRow [97, 98, 99]) 5 (3, 4))).heap.size = w.heap.size + 1 := by simp
  rw [show bRow [97, 98, 99] = #[.int .u8 97, .int .u8 98, .int .u8 99] from rfl] at hR hb hsz
  generalize w.alloc _ = W at hR hb hsz ⊢
  refine (shaOf_any _ 3 3 _ W _ hR (by omega) (Nat.le_refl _) (by unfold maxLen; omega)).mono ?_
  rintro _ w1 ⟨rfl, hb1⟩
  rw [sha_abc]
  have hb2 := hb.trans (hb1.mono (by omega))
  have hh := hex_any abcHex rfl
  generalize hD : hexOf abcHex.data.toList = D at hh ⊢
  have hDl : D.length = 32 := by rw [← hD]; exact hexOf_len _
  have HD := Lib.hid hD
  have HH := Lib.hid hh
  have HB2 := Lib.hid hb2
  clear hD kc hR hb hb1 hsz hh hb2
  have hx := eql_digest D D hDl hDl
  rw [beq_self_eq_true] at hx
  clear hDl
  go_wp2_with fail
  refine (HH.out _).mono ?_
  rintro _ w2 ⟨rfl, hb3⟩
  have hb4 := HB2.out.trans (hb3.mono HB2.out.size)
  clear hb3
  go_wp2
  go_ret
  exact ⟨rfl, hb4⟩

end Go.Proofs.Ytndjaibnapilnaa
