/-
  ShaKnown: the law's walk.
-/
import Derived.Test.YtndjaibnapilnaaLawAgain
import Derived.Test.YtndjaibnapilnaaNone
import Derived.Test.YtndjaibnapilnaaShaLen
namespace Go.Proofs.Ytndjaibnapilnaa
set_option linter.unusedVariables false
open Go.RowKit

def hx1 : ByteArray := ⟨#[69, 51, 66, 48, 67, 52, 52, 50, 57, 56, 70, 67, 49, 67, 49, 52, 57, 65, 70, 66, 70, 52, 67, 56, 57, 57, 54, 70, 66, 57, 50, 52, 50, 55, 65, 69, 52, 49, 69, 52, 54, 52, 57, 66, 57, 51, 52, 67, 65, 52, 57, 53, 57, 57, 49, 66, 55, 56, 53, 50, 66, 56, 53, 53]⟩
def hx2 : ByteArray := ⟨#[50, 52, 56, 68, 54, 65, 54, 49, 68, 50, 48, 54, 51, 56, 66, 56, 69, 53, 67, 48, 50, 54, 57, 51, 48, 67, 51, 69, 54, 48, 51, 57, 65, 51, 51, 67, 69, 52, 53, 57, 54, 52, 70, 70, 50, 49, 54, 55, 70, 54, 69, 67, 69, 68, 68, 52, 49, 57, 68, 66, 48, 54, 67, 49]⟩
def hx3 : ByteArray := ⟨#[52, 49, 69, 68, 69, 67, 69, 52, 50, 68, 54, 51, 69, 56, 68, 57, 66, 70, 53, 49, 53, 65, 57, 66, 65, 54, 57, 51, 50, 69, 49, 67, 50, 48, 67, 66, 67, 57, 70, 53, 65, 53, 68, 49, 51, 52, 54, 52, 53, 65, 68, 66, 53, 68, 66, 49, 66, 57, 55, 51, 55, 69, 65, 51]⟩
def longB : List UInt8 := [97, 98, 99, 100, 98, 99, 100, 101, 99, 100, 101, 102, 100, 101, 102, 103, 101, 102, 103, 104, 102, 103, 104, 105, 103, 104, 105, 106, 104, 105, 106, 107, 105, 106, 107, 108, 106, 107, 108, 109, 107, 108, 109, 110, 108, 109, 110, 111, 109, 110, 111, 112, 110, 111, 112, 113]
theorem sha_nil : shaOf [] = hexOf hx1.data.toList := by decide +kernel
theorem sha_long : shaOf longB = hexOf hx2.data.toList := by decide +kernel
/-- the states behind each 64 letters 'a' -/
def sa0 : St := ⟨0x6A09E667#32, 0xBB67AE85#32, 0x3C6EF372#32, 0xA54FF53A#32, 0x510E527F#32, 0x9B05688C#32, 0x1F83D9AB#32, 0x5BE0CD19#32⟩
def sa1 : St := ⟨0xDF5BB81C#32, 0xE81E0626#32, 0xFB45A894#32, 0x4FD40F31#32, 0xB25E6816#32, 0xD6D499C1#32, 0xAB904929#32, 0x00635E66#32⟩
def sa2 : St := ⟨0xEAC1AFFF#32, 0x7E2FE374#32, 0x5215A157#32, 0x6AEA3C45#32, 0x1DF0539E#32, 0x97F91D40#32, 0xF96170A7#32, 0x5B4DC721#32⟩
def sa3 : St := ⟨0x76EBAE86#32, 0x127C8D5D#32, 0x50A2CA5B#32, 0x497D56BD#32, 0x46093F9A#32, 0x41DF7CA0#32, 0xEBFD435D#32, 0x270C4970#32⟩
def sa4 : St := ⟨0x6FD0BE67#32, 0x44718C30#32, 0xA1EC8889#32, 0xC3B23D25#32, 0x9F9B6123#32, 0x8E0747E1#32, 0x65715407#32, 0x3D0E7958#32⟩
def sa5 : St := ⟨0x87DA141A#32, 0x63BBA10E#32, 0x15AAF1BA#32, 0x47D5C74D#32, 0xD878131C#32, 0xBD1E0971#32, 0x3ACE63E7#32, 0x44DF187F#32⟩
def sa6 : St := ⟨0x846016FD#32, 0x63CE922B#32, 0xC214D039#32, 0x178ECEAB#32, 0x7FD0BFB1#32, 0x2D7CE142#32, 0xBDCB169F#32, 0xBDB11325#32⟩
def sa7 : St := ⟨0x1B6FC7BC#32, 0xAF1001F9#32, 0x00B992D9#32, 0xE302BB7E#32, 0xF15ABC18#32, 0x98D5A862#32, 0x203B4A01#32, 0x897489F0#32⟩
def sa8 : St := ⟨0x87AE8726#32, 0xBA87BB6F#32, 0x97055CB7#32, 0x4DC5B914#32, 0x0DD3059B#32, 0x7EEF21FB#32, 0xD02383D7#32, 0x4BAA6850#32⟩
def sa9 : St := ⟨0xC4D0F7C1#32, 0x03DC233E#32, 0xB716CD16#32, 0x3175575F#32, 0x5D5EA279#32, 0x09D35F38#32, 0xBDAE5F4B#32, 0xD7C8B9FC#32⟩
def sa10 : St := ⟨0x6D1077BF#32, 0x3EA8D943#32, 0x903BCF49#32, 0x4CD07545#32, 0x7400D032#32, 0x6BAD0FCE#32, 0x62C7DD9E#32, 0x9CE81ABA#32⟩
def sa11 : St := ⟨0x313643E7#32, 0xEF6A9CD4#32, 0x1743835E#32, 0x3AF3FDEB#32, 0x8537D689#32, 0x268CD543#32, 0x22A2B1E5#32, 0xBB932C55#32⟩
def sa12 : St := ⟨0x66CE742D#32, 0xFA30CD09#32, 0x0656BECF#32, 0xD3FD9F28#32, 0xDA67D3AD#32, 0xE8917C49#32, 0x99338374#32, 0x714E86A8#32⟩
def sa13 : St := ⟨0x297937EF#32, 0x8DF3F5D7#32, 0x02E5B305#32, 0x4E2E259D#32, 0x34885462#32, 0x6B640548#32, 0x212D471C#32, 0xD0EDBE49#32⟩
def sa14 : St := ⟨0xF0FEAA26#32, 0x3D54B086#32, 0x3C2398DA#32, 0xEE848054#32, 0x8A5EF7BA#32, 0x7F4265E9#32, 0xB5EFFE18#32, 0xD9DDF5F2#32⟩
def sa15 : St := ⟨0xC607CF1E#32, 0x6A95D2FE#32, 0xBA850476#32, 0x73FD2864#32, 0x75F9A417#32, 0x08C3BDF1#32, 0x32720D1A#32, 0x77E49FAC#32⟩
def blkA : List UInt8 := List.replicate 64 97
theorem sa_1 : compress sa0 blkA = sa1 := by kernel_rfl
theorem sa_2 : compress sa1 blkA = sa2 := by kernel_rfl
theorem sa_3 : compress sa2 blkA = sa3 := by kernel_rfl
theorem sa_4 : compress sa3 blkA = sa4 := by kernel_rfl
theorem sa_5 : compress sa4 blkA = sa5 := by kernel_rfl
theorem sa_6 : compress sa5 blkA = sa6 := by kernel_rfl
theorem sa_7 : compress sa6 blkA = sa7 := by kernel_rfl
theorem sa_8 : compress sa7 blkA = sa8 := by kernel_rfl
theorem sa_9 : compress sa8 blkA = sa9 := by kernel_rfl
theorem sa_10 : compress sa9 blkA = sa10 := by kernel_rfl
theorem sa_11 : compress sa10 blkA = sa11 := by kernel_rfl
theorem sa_12 : compress sa11 blkA = sa12 := by kernel_rfl
theorem sa_13 : compress sa12 blkA = sa13 := by kernel_rfl
theorem sa_14 : compress sa13 blkA = sa14 := by kernel_rfl
theorem sa_15 : compress sa14 blkA = sa15 := by kernel_rfl
theorem sa_last : outB (compress sa15 (List.replicate 40 97 ++ [128] ++ List.replicate 15 0 ++ be8 1000)) = hexOf hx3.data.toList := by kernel_rfl
theorem feed_a (S R : St) (h : compress S blkA = R) (l : List UInt8) : feed (S, []) (blkA ++ l) = feed (R, []) l := by
  rw [feed_append, feed_full S [] blkA (by rfl) (by simp), List.nil_append, h]
theorem rep_a (n : Nat) : List.replicate (64 + n) (97 : UInt8) = blkA ++ List.replicate n 97 := by
  rw [blkA, List.replicate_append_replicate]
theorem acc_thousand : acc (List.replicate 1000 97) = (sa15, List.replicate 40 97) := by
  unfold acc
  rw [show h0 = sa0 from rfl]
  rw [show 1000 = 64 + 936 from rfl, rep_a, feed_a sa0 sa1 sa_1]
  rw [show 936 = 64 + 872 from rfl, rep_a, feed_a sa1 sa2 sa_2]
  rw [show 872 = 64 + 808 from rfl, rep_a, feed_a sa2 sa3 sa_3]
  rw [show 808 = 64 + 744 from rfl, rep_a, feed_a sa3 sa4 sa_4]
  rw [show 744 = 64 + 680 from rfl, rep_a, feed_a sa4 sa5 sa_5]
  rw [show 680 = 64 + 616 from rfl, rep_a, feed_a sa5 sa6 sa_6]
  rw [show 616 = 64 + 552 from rfl, rep_a, feed_a sa6 sa7 sa_7]
  rw [show 552 = 64 + 488 from rfl, rep_a, feed_a sa7 sa8 sa_8]
  rw [show 488 = 64 + 424 from rfl, rep_a, feed_a sa8 sa9 sa_9]
  rw [show 424 = 64 + 360 from rfl, rep_a, feed_a sa9 sa10 sa_10]
  rw [show 360 = 64 + 296 from rfl, rep_a, feed_a sa10 sa11 sa_11]
  rw [show 296 = 64 + 232 from rfl, rep_a, feed_a sa11 sa12 sa_12]
  rw [show 232 = 64 + 168 from rfl, rep_a, feed_a sa12 sa13 sa_13]
  rw [show 168 = 64 + 104 from rfl, rep_a, feed_a sa13 sa14 sa_14]
  rw [show 104 = 64 + 40 from rfl, rep_a, feed_a sa14 sa15 sa_15]
  rw [feed_short sa15 [] _ (by rw [List.length_replicate]; simp), List.nil_append]
theorem sha_thousand : shaOf (List.replicate 1000 97) = hexOf hx3.data.toList := by
  unfold shaOf
  rw [acc_thousand, List.length_replicate]
  simp only
  unfold lastSt
  rw [if_neg (by rw [List.length_replicate]; omega), List.length_replicate]
  exact sa_last

theorem NoHash.below {w w' : World} {p : Option Addr} (h : NoHash w p) (hb : Below w.heap.size w w') : NoHash w' p := by
  rcases h with rfl | ⟨g, rfl, h1, h2, h3⟩
  · exact .inl rfl
  · exact .inr ⟨g, rfl, Nat.lt_of_lt_of_le h1 hb.size, (hb.cell (p := ⟨g, 0, none⟩) h1).trans h2, (hb.cell (p := ⟨g, 141, none⟩) h1).trans h3⟩

set_option maxRecDepth 100000 in
set_option maxHeartbeats 2000000 in
theorem known_law (w : World) : Calls Try.prog 12 #[] w fun e w' => e = .returned (.bool true) ∧ Below w.heap.size w w' := by
  have kc := fun (w : World) (C : Array Value) (n c : Nat) => Lib.run_convert_bytes_const (P := Try.prog) w 22 5 C n c Try.underlying22 Try.underlying5
  have hnot : ∀ (x : Bool) (w : World), (Op.unary .not (.bool x)).run Try.prog w = .ok (.bool (!x)) w := fun _ _ => rfl
  have hD : ∀ l, (bRow (shaOf l)).size = 32 := fun l => by rw [bRow_size, shaOf_len]
  have e1 := eql_digest (shaOf []) (shaOf []) (shaOf_len _) (shaOf_len _)
  have e2 := eql_digest (shaOf longB) (shaOf longB) (shaOf_len _) (shaOf_len _)
  have e3 := eql_digest (shaOf (List.replicate 1000 97)) (shaOf (List.replicate 1000 97)) (shaOf_len _) (shaOf_len _)
  rw [beq_self_eq_true] at e1 e2 e3
  have x1 := hex_any hx1 rfl
  have x2 := hex_any hx2 rfl
  have x3 := hex_any hx3 rfl
  rw [← sha_nil] at x1
  rw [← sha_long] at x2
  rw [← sha_thousand] at x3
  have o1 := fun W => shaOf_any none 0 0 [] W 0 Reads.none_ (Nat.zero_le _) (Nat.le_refl _) (by unfold maxLen; omega)
  have o2 := fun W B g (h : Reads W B 1 (some ⟨g, 0, none⟩) 56 (longB.map vb)) (hB : B ≤ W.heap.size) => shaOf_any (some ⟨g, 0, none⟩) 56 56 longB W B h hB (Nat.le_refl _) (by unfold maxLen; omega)
  have o3 := fun W B A c (h : Reads W B 1 A 1000 ((List.replicate 1000 97).map vb)) (hB : B ≤ W.heap.size) (hc : 1000 ≤ c) (hc2 : c ≤ maxLen) => shaOf_any A 1000 c (List.replicate 1000 97) W B h hB hc hc2
  have s1 := fun W g (h : HashAt W g []) => summed_any g [] W h (by unfold maxLen; simp)
  have E1 := Lib.hid e1
  have E2 := Lib.hid e2
  have E3 := Lib.hid e3
  have X1 := Lib.hid x1
  have X2 := Lib.hid x2
  have X3 := Lib.hid x3
  have O1 := Lib.hid o1
  have O2 := Lib.hid o2
  have O3 := Lib.hid o3
  have S1 := Lib.hid s1
  have Z1 := Lib.hid (hD [])
  have A1 := Lib.hid (bRow_one (shaOf []))
  clear e1 e2 e3 x1 x2 x3 o1 o2 o3 s1 hD
  generalize bRow (shaOf []) = D1 at E1 X1 O1 S1 Z1 A1
  generalize bRow (shaOf longB) = D2 at E2 X2 O2
  generalize bRow (shaOf (List.replicate 1000 97)) = D3 at E3 X3 O3
  obtain ⟨i0, hi0, hz0, hz1, hz2⟩ := info_parts u8_info
  have HI0 := Lib.hid hi0
  have HZ0 := Lib.hid hz0
  have HZ1 := Lib.hid hz1
  have HZ2 := Lib.hid hz2
  clear hi0 hz0 hz1 hz2
  go_enter Try.func12, Try.ntmps12
  go_upto_region 2 with fail
  have hL : Reads (w.alloc (.cells (bRow longB) 5 (56, 57))) (w.heap.size + 1) 1 (some ⟨w.heap.size, 0, none⟩) 56 (longB.map vb) := by
    refine ⟨rfl, fun _ => ⟨_, rfl, by simp, fun j u hu => ?_⟩⟩
    rw [add_off, Nat.zero_add, World.cell?_alloc_mark, bRow, List.getElem?_toArray]; exact hu
  have hLb : Below w.heap.size w (w.alloc (.cells (bRow longB) 5 (56, 57))) := (Below.refl _ _).alloc (Nat.le_refl _) _
  have hLs : (w.alloc (.cells (bRow longB) 5 (56, 57))).heap.size = w.heap.size + 1 := by simp
  rw [show bRow longB = #[.int .u8 97, .int .u8 98, .int .u8 99, .int .u8 100, .int .u8 98, .int .u8 99, .int .u8 100, .int .u8 101, .int .u8 99, .int .u8 100, .int .u8 101, .int .u8 102, .int .u8 100, .int .u8 101, .int .u8 102, .int .u8 103, .int .u8 101, .int .u8 102, .int .u8 103, .int .u8 104, .int .u8 102, .int .u8 103, .int .u8 104, .int .u8 105, .int .u8 103, .int .u8 104, .int .u8 105, .int .u8 106, .int .u8 104, .int .u8 105, .int .u8 106, .int .u8 107, .int .u8 105, .int .u8 106, .int .u8 107, .int .u8 108, .int .u8 106, .int .u8 107, .int .u8 108, .int .u8 109, .int .u8 107, .int .u8 108, .int .u8 109, .int .u8 110, .int .u8 108, .int .u8 109, .int .u8 110, .int .u8 111, .int .u8 109, .int .u8 110, .int .u8 111, .int .u8 112, .int .u8 110, .int .u8 111, .int .u8 112, .int .u8 113] from by kernel_rfl] at hL hLb hLs
  obtain ⟨gl, hgl⟩ : ∃ g, g = w.heap.size := ⟨_, rfl⟩
  have hwl : w.heap.size ≤ gl := by omega
  rw [← hgl] at hL hLs ⊢
  generalize w.alloc _ = W at hL hLb hLs ⊢
  have HL := Lib.hid hL
  have HB := Lib.hid hLb
  have hlt := Nat.le_of_eq hLs.symm
  clear hL hLb hgl kc hLs
  go_wp2_with fail
  refine (O1.out W).mono ?_
  rintro _ w1 ⟨rfl, hb1⟩
  have HL := Lib.hid (HL.out.below (hb1.mono hlt))
  have hlt := Nat.le_trans hlt hb1.size
  have HB := Lib.hid (HB.out.trans (hb1.mono HB.out.size))
  clear hb1
  go_wp2_with fail
  refine (X1.out w1).mono ?_
  rintro _ w2 ⟨rfl, hb2⟩
  have HL := Lib.hid (HL.out.below (hb2.mono hlt))
  have hlt := Nat.le_trans hlt hb2.size
  have HB := Lib.hid (HB.out.trans (hb2.mono HB.out.size))
  have hs2 := HB.out.size
  clear hb2
  have e1 := E1.out
  go_wp2_with fail
  refine (O2.out w2 (gl + 1) gl HL.out hlt).mono ?_
  rintro _ w3 ⟨rfl, hb3⟩
  have HB := Lib.hid (HB.out.trans (hb3.mono HB.out.size))
  clear hb3 e1 hlt HL
  go_wp2_with fail
  refine (X2.out w3).mono ?_
  rintro _ w4 ⟨rfl, hb4⟩
  have HB := Lib.hid (HB.out.trans (hb4.mono HB.out.size))
  clear hb4 hs2
  have e2 := E2.out
  go_wp2_with fail
  clear e2
  go_loopw [3, 4] (fun v i wr => ∃ k : Nat, k ≤ 1000 ∧ i = .int .i64 k ∧ OwnB wr w.heap.size v (List.replicate k 97) ∧ Below w.heap.size w wr) (fun _ i _ => 1000 - (intOf i).toNat)
  case atStart => exact ⟨0, by omega, rfl, OwnB.nil _ _, HB.out⟩
  case round =>
    obtain ⟨k, hk, rfl, hO, hbel⟩ := hrel
    have hO' := hO
    obtain ⟨Aa, ca, rfl, hc1, hc2, hrd, _⟩ := own_slice_b hO
    rw [List.length_replicate] at hc1 hrd ⊢
    unfold maxLen at hc2
    have HO := Lib.hid hO'
    have HRD := Lib.hid hrd
    have HBE := Lib.hid hbel
    have hsz := hbel.size
    clear hO hO' hbel hrd
    by_cases hlt : k < 1000
    · go_wp2_with (at_builtin; go_must (refine wpList_append_any _ rfl (.tmp 28) (.tmp 29) 22 rfl w.heap.size 5 i0 _ 1 1 Try.underlying22 HI0.out HZ0.out HZ1.out HZ2.out rfl (by omega) _ k ((List.replicate k 97).map vb) rfl (by have := HO.out.below ((Below.refl _ _).alloc (Nat.le_refl _) (.cells #[.int .u8 97] 5)); unfold OwnB at this; rw [List.length_replicate] at this; exact this) (wr.heap.size + 1) (some ⟨wr.heap.size, 0, none⟩) 1 1 [.int .u8 97] rfl ⟨rfl, fun _ => ⟨_, rfl, by simp, fun j u hu => ?d1⟩⟩ ?c1 ?c2 ?c3 ?c4 ?_))
      case d1 =>
        rw [add_off, Nat.zero_add]
        simp
        simpa using hu
      case c1 => intro u hu; simp at hu; subst hu; rfl
      case c2 => unfold maxLen; omega
      case c3 => omega
      case c4 => simp; omega
      intro v3 w3 hown3 hg3 hor3
      go_wp2
      go_roundw
      case measure => simp [intOf]; omega
      case rel =>
        refine ⟨k + 1, by omega, by go_num, ?_, grown_below (HBE.out.alloc hsz _) (by simp; omega) hg3 (fun b hb => HO.out.ge (by rw [List.length_replicate]; exact hb))⟩
        have q1 : (List.replicate (k + 1) (97 : UInt8)).length = k + 1 := List.length_replicate ..
        have q2 : (List.replicate (k + 1) (97 : UInt8)).map vb = (List.replicate k 97).map vb ++ [Value.int IntKind.u8 97] := by
          rw [List.replicate_succ', List.map_append]; rfl
        unfold OwnB
        rw [q1, q2]
        simpa using hown3
    · obtain rfl : k = 1000 := by omega
      go_wp2_with fail
      refine (O3.out wr wr.heap.size Aa ca HRD.out (Nat.le_refl _) hc1 (by unfold maxLen; omega)).mono ?_
      rintro _ w5 ⟨rfl, hb5⟩
      have HB := Lib.hid (HBE.out.trans (hb5.mono hsz))
      clear hb5 HO HRD HBE hsz
      go_wp2_with fail
      refine (X3.out w5).mono ?_
      rintro _ w6 ⟨rfl, hb6⟩
      have HB := Lib.hid (HB.out.trans (hb6.mono HB.out.size))
      clear hb6
      have e3 := E3.out
      go_wp2_with fail
      clear e3
      go_loopw [6, 7] (fun v i wr => ∃ (k : Nat) (p : Option Addr), k ≤ 2 ∧ i = .int .i64 k ∧ v = .pointer p ∧ NoHash wr p ∧ Below w.heap.size w wr) (fun _ i _ => 2 - (intOf i).toNat)
      case atStart => exact ⟨0, none, by omega, rfl, rfl, .inl rfl, HB.out⟩
      case round =>
        obtain ⟨k, p, hk, rfl, rfl, hN, hbel⟩ := hrel
        have HN := Lib.hid hN
        have HBE := Lib.hid hbel
        clear hN hbel
        by_cases hlt : k < 2
        · have hsz := HBE.out.size
          go_wp2_with fail
          refine (sum_none p wr HN.out).mono ?_
          rintro _ w7 ⟨rfl, hb7⟩
          have HN := Lib.hid (HN.out.below hb7)
          have HBE := Lib.hid (HBE.out.trans (hb7.mono hsz))
          have hs7 := HBE.out.size
          have hz : zdig.size = 32 := by simp [zdig, bRow_size]
          have HZD := Lib.hid hz
          have HOD := Lib.hid (show zdig.all (·.oneCell') = true from bRow_one _)
          clear hb7 hsz hz
          generalize zdig = zd at HZD HOD ⊢
          go_upto_region 14 with (refine wpList_store_part rfl 25 (.tmp 8) (.tmp 42) rfl w7.heap.size 0 zd rfl rfl 25 _ (Blk.newAt rfl) (by rw [HZD.out]; rfl) (by rw [HZD.out]; simp) HOD.out ?_; intro W8 hT8 hB8; rw [spl_self _ _ (by rw [HZD.out]; simp)] at hB8)
          have hX8 : Below w7.heap.size w7 W8 := hT8.below ((Below.refl _ _).alloc (Nat.le_refl _) _) (Nat.le_refl _)
          have HN := Lib.hid (HN.out.below hX8)
          have HBE := Lib.hid (HBE.out.trans (hX8.mono hs7))
          have hs8 := HBE.out.size
          obtain ⟨e8, he8⟩ : ∃ e, e = w7.heap.size := ⟨_, rfl⟩
          rw [← he8]
          clear hX8 hT8 hB8 he8 hs7
          go_wp2_with fail
          have hX9 : Below W8.heap.size W8 (W8.alloc (.cells #[.int .u8 1] 5)) := (Below.refl _ _).alloc (Nat.le_refl _) _
          have HN := Lib.hid (HN.out.below hX9)
          have HBE := Lib.hid (HBE.out.trans (hX9.mono hs8))
          have hs9 := HBE.out.size
          generalize hW9 : W8.alloc _ = W9 at HN HBE hs9 ⊢
          clear hX9 hW9
          refine (write_none p _ W9 HN.out).mono ?_
          rintro _ _ ⟨rfl, rfl⟩
          go_wp2_with fail
          refine (len_none p W9 HN.out).mono ?_
          rintro _ _ ⟨rfl, rfl⟩
          go_wp2_with fail
          go_roundw
          case rel =>
            refine ⟨k + 1, some ⟨W9.heap.size, 0, none⟩, by omega, by go_num, rfl, .inr ⟨W9.heap.size, rfl, by simp, ?_, ?_⟩, HBE.out.alloc hs9 _⟩
            · simp
              kernel_rfl
            · simp
              kernel_rfl
          case measure => simp [intOf]; omega
        · obtain rfl : k = 2 := by omega
          have hsz := HBE.out.size
          clear HN
          go_wp2_with fail
          refine (new_any wr).mono ?_
          rintro _ w7 ⟨rfl, hH7, hb7, hs7⟩
          have HH := Lib.hid (show HashAt w7 wr.heap.size [] from .inr ⟨rfl, hH7⟩)
          have HB := Lib.hid (HBE.out.trans (hb7.mono hsz))
          have hwg : w.heap.size ≤ wr.heap.size := hsz
          clear hH7 hb7 hs7 HBE
          generalize wr.heap.size = g at HH hwg ⊢
          have hs7 := HB.out.size
          go_wp2_with fail
          refine (S1.out w7 g HH.out).mono ?_
          rintro _ w8 ⟨rfl, hH8, hg8⟩
          have HH := Lib.hid (show HashAt w8 g [] from .inl hH8)
          have HB := Lib.hid (HB.out.trans ((Below.refl w.heap.size w7).grown hg8 hs7 (fun b hb => by injection hb; omega)))
          have hs8 := HB.out.size
          clear hH8 hg8 hs7
          go_upto_region 19 with (refine wpList_store_part rfl 25 (.tmp 11) (.tmp 63) rfl w8.heap.size 0 D1 rfl rfl 25 _ (Blk.newAt rfl) (by rw [Z1.out]; rfl) (by rw [Z1.out]; simp) A1.out ?_; intro W9 hT9 hB9; rw [spl_self _ _ (by rw [Z1.out]; simp)] at hB9)
          have hX9 : Below w8.heap.size w8 W9 := hT9.below ((Below.refl _ _).alloc (Nat.le_refl _) _) (Nat.le_refl _)
          have HH := Lib.hid (HH.out.below hX9)
          have HB := Lib.hid (HB.out.trans (hX9.mono hs8))
          have hs9 := HB.out.size
          obtain ⟨e9, he9⟩ : ∃ e, e = w8.heap.size := ⟨_, rfl⟩
          rw [← he9] at hB9 ⊢
          clear hT9 hX9 he9 hs8
          refine wp_region_calm0 22 87 (by kernel_rfl) (by kernel_rfl) (by kernel_rfl) (by simp) ?_
          simp only [List.take_succ_cons, List.take_zero, List.drop_succ_cons, List.drop_zero]
          refine wpCalm_value rfl rfl (.bool true) (fun W _ => rfl) ?_
          try simp only [Act.put, List.setIfInBounds_toArray, List.set_cons_zero, List.set_cons_succ]
          refine wpCalm_call rfl rfl 17 #[] (fun W => by go_simp) (.bool true) (fun W _ => works_any W) ?_
          try simp only [Act.put, List.setIfInBounds_toArray, List.set_cons_zero, List.set_cons_succ]
          refine wpCalm_value rfl rfl (.bool true) (fun W _ => by go_simp) ?_
          try simp only [Act.put, List.setIfInBounds_toArray, List.set_cons_zero, List.set_cons_succ]
          refine wpCalm_value rfl rfl (.bool true) (fun W _ => by go_simp) ?_
          try simp only [Act.put, List.setIfInBounds_toArray, List.set_cons_zero, List.set_cons_succ]
          refine wpCalm_value rfl rfl (.bool true) (fun W _ => by go_simp) ?_
          try simp only [Act.put, List.setIfInBounds_toArray, List.set_cons_zero, List.set_cons_succ]
          refine wpCalm_value rfl rfl (.bool true) (fun W _ => by go_simp) ?_
          try simp only [Act.put, List.setIfInBounds_toArray, List.set_cons_zero, List.set_cons_succ]
          refine wpCalm_value rfl rfl (.bool true) (fun W _ => by go_simp) ?_
          try simp only [Act.put, List.setIfInBounds_toArray, List.set_cons_zero, List.set_cons_succ]
          refine wpCalm_value rfl rfl (.bool true) (fun W _ => by go_simp) ?_
          try simp only [Act.put, List.setIfInBounds_toArray, List.set_cons_zero, List.set_cons_succ]
          refine wpCalm_value rfl rfl (.bool true) (fun W _ => by go_simp) ?_
          try simp only [Act.put, List.setIfInBounds_toArray, List.set_cons_zero, List.set_cons_succ]
          refine wpCalm_value rfl rfl (.bool true) (fun W _ => by go_simp) ?_
          try simp only [Act.put, List.setIfInBounds_toArray, List.set_cons_zero, List.set_cons_succ]
          refine wpCalm_value rfl rfl (.bool true) (fun W _ => by go_simp) ?_
          try simp only [Act.put, List.setIfInBounds_toArray, List.set_cons_zero, List.set_cons_succ]
          refine wpCalm_value rfl rfl (.bool true) (fun W _ => by go_simp) ?_
          try simp only [Act.put, List.setIfInBounds_toArray, List.set_cons_zero, List.set_cons_succ]
          refine wpCalm_value rfl rfl (.bool true) (fun W _ => by go_simp) ?_
          try simp only [Act.put, List.setIfInBounds_toArray, List.set_cons_zero, List.set_cons_succ]
          refine wpCalm_load_part rfl 25 (.tmp 11) rfl e9 0 32 rfl 25 _ D1 _ hB9 Try.underlying25 rfl rfl Z1.out (fun _ _ => by rw [Nat.zero_add]) ?_
          try simp only [Act.put, List.setIfInBounds_toArray, List.set_cons_zero, List.set_cons_succ]
          refine wpCalm_call rfl rfl 14 #[.slice none 0 0] (fun W => by go_simp) (.agg D1) (fun W _ => O1.out W) ?_
          try simp only [Act.put, List.setIfInBounds_toArray, List.set_cons_zero, List.set_cons_succ]
          refine wpCalm_value rfl rfl (.bool true) (fun W _ => exec_eql_agg 25 (.tmp 78) (.tmp 79) _ rfl D1 D1 rfl rfl eqg_digest _ (E1.out W)) ?_
          try simp only [Act.put, List.setIfInBounds_toArray, List.set_cons_zero, List.set_cons_succ]
          refine wpCalm_value rfl rfl (.bool true) (fun W _ => by go_simp) ?_
          try simp only [Act.put, List.setIfInBounds_toArray, List.set_cons_zero, List.set_cons_succ]
          refine wpCalm_value rfl rfl (.bool true) (fun W _ => by go_simp) ?_
          try simp only [Act.put, List.setIfInBounds_toArray, List.set_cons_zero, List.set_cons_succ]
          refine wpCalm_value rfl rfl (.pointer (some ⟨g, 0, none⟩)) (fun W _ => rfl) ?_
          try simp only [Act.put, List.setIfInBounds_toArray, List.set_cons_zero, List.set_cons_succ]
          refine wpCalm_call rfl rfl 25 #[.pointer (some ⟨g, 0, none⟩)] (fun W => by go_simp) (.int .i64 0) (fun W hb => (len_any g [] W (HH.out.below hb)).mono (by rintro _ _ ⟨rfl, rfl⟩; exact ⟨rfl, Below.refl _ _⟩)) ?_
          try simp only [Act.put, List.setIfInBounds_toArray, List.set_cons_zero, List.set_cons_succ]
          refine wpCalm_value rfl rfl (.bool true) (fun W _ => by go_simp) ?_
          try simp only [Act.put, List.setIfInBounds_toArray, List.set_cons_zero, List.set_cons_succ]
          refine wpCalm_value rfl rfl (.bool true) (fun W _ => by go_simp) ?_
          try simp only [Act.put, List.setIfInBounds_toArray, List.set_cons_zero, List.set_cons_succ]
          refine wpCalm_nil ?_
          intro Wa hba
          have HB1 := Lib.hid (HB.out.trans (hba.mono hs9))
          clear hba hB9
          go_wp2_with fail
          go_ret
          exact ⟨rfl, HB1.out⟩

end Go.Proofs.Ytndjaibnapilnaa
