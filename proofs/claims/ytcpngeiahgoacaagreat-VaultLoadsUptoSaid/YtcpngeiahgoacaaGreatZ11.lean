/- Parts of the proof, in one text: TreeH, TreeI, Eq, RefCopy. -/
import Derived.Test.YtcpngeiahgoacaaGreatZ10
import Derived.BigRegion
import Derived.Test.YtcpngeiahgoacaaGreatRows
import Derived.Test.YtcpngeiahgoacaaGreatZ1
import Derived.Test.YtcpngeiahgoacaaGreatZ8

/- Contracts of (*Tree).none, Set, Root. -/
namespace Go.Proofs.YtcpngeiahgoacaaGreat
set_option linter.unusedVariables false
open Go.RowKit Go.Maps

set_option maxRecDepth 100000 in
theorem treeNone_any (w : World) (t : Nat) (p : Nat) (h : w.cell? ⟨t, 0, none⟩ = some (.pointer (some ⟨p, 0, none⟩))) :
    Calls Tryz.prog 133 #[.pointer (some ⟨t, 0, none⟩)] w fun e w' => e = .returned (.bool false) ∧ w = w' := by
  go_enter Tryz.func133, Tryz.ntmps133
  go_wp2
  go_ret
  exact ⟨rfl, rfl⟩

set_option maxRecDepth 100000 in
set_option maxHeartbeats 2000000 in
theorem treeRoot_any (w : World) (T : TreeLoc) (k : Book) (ls : List (List UInt8)) (h : TreeAt w T k ls) :
    Calls Tryz.prog 85 #[.pointer (some ⟨T.t, 0, none⟩)] w fun e w' => e = .returned (.tuple #[.agg (bRow (rootL ls)), .int .i64 0]) ∧ Below w.heap.size w w' := by
  have h1 := lv_one ls h.len.1 h.len.2
  have HN := Lib.hid (fun (W : World) (hb : Below w.heap.size w W) => treeNone_any W T.t k.g ((hb.cell h.tlt).trans h.c0))
  have hX := below_lit w (.cells inkZ 60)
  have c6 := (hX.cell (p := ⟨T.t, 6, none⟩) h.tlt).trans h.c6
  have cr := (hX.cell (p := ⟨T.r, 2, none⟩) h.rlt).trans (h.rj 2 (Nat.le_refl _))
  rw [h1.1] at cr
  have hd := (h.dig 2 (Nat.le_refl _)).keep (w' := w.alloc (.cells inkZ 60)) (hX.block _ (h.dig 2 (Nat.le_refl _)).lt)
  rw [h1.1] at hd
  obtain ⟨cur, hbk, hcs, hct⟩ := hd.row
  have hc1 := hd.cap.1
  have hdat : ∀ j, j < 32 → cur[0 + j]? = (bRow (rootL ls))[j]? := fun j hj => by
    have e : cur.toList[j]? = (digRow [rootL ls])[j]? := by
      rw [← hct, List.getElem?_take, if_pos (by simp; omega)]
    rw [Nat.zero_add, ← Array.getElem?_toList, e]
    simp [digRow, bRow]
  have hds := bRow_size32 h1.2
  have hdo := bRow_one (rootL ls)
  obtain ⟨D, hD⟩ : ∃ D, D = bRow (rootL ls) := ⟨_, rfl⟩
  rw [← hD] at hdat hds hdo ⊢
  have HZS := Lib.hid (show inkZ.size = 32 by simp [inkZ, bRow])
  have HZ := Lib.hid treeZ_eq
  have HDT := Lib.hid hdat
  have HDS := Lib.hid hds
  have HDO := Lib.hid hdo
  have HBK := Lib.hid hbk
  have hk0 : Blk (w.alloc (.cells inkZ 60)) w.heap.size 60 inkZ := Blk.newAt rfl
  have HK0 := Lib.hid hk0
  have HX := Lib.hid hX
  have C6 := Lib.hid c6
  have CR := Lib.hid cr
  have hgl : T.gs 2 < w.heap.size := (h.dig 2 (Nat.le_refl _)).lt
  clear h hd hct hdat hds hdo hbk hk0 hX c6 cr h1 hD hcs
  obtain ⟨t, ht⟩ : ∃ t, t = T.t := ⟨_, rfl⟩
  obtain ⟨r, hr⟩ : ∃ t, t = T.r := ⟨_, rfl⟩
  obtain ⟨rc, hrc⟩ : ∃ t, t = T.rc := ⟨_, rfl⟩
  obtain ⟨g2, hg2⟩ : ∃ t, t = T.gs 2 := ⟨_, rfl⟩
  obtain ⟨c2, hc2⟩ : ∃ t, t = T.cs 2 := ⟨_, rfl⟩
  rw [← ht] at HN C6 ⊢
  rw [← hr, ← hrc] at C6
  rw [← hr, ← hg2, ← hc2] at CR
  rw [← hg2] at HBK hgl
  clear ht hr hrc hg2 hc2 hc1
  have hwl : w.heap.size < (w.alloc (.cells inkZ 60)).heap.size := by simp
  obtain ⟨g, hg⟩ : ∃ g, g = w.heap.size := ⟨_, rfl⟩
  go_enter Tryz.func85, Tryz.ntmps85
  go_upto_region 1 with fail
  rw [← HZ.out]
  generalize World.alloc w _ = w1 at HX C6 CR HBK HK0 hwl ⊢
  rw [← hg] at HK0 hwl ⊢
  have hgw : w.heap.size ≤ g := by omega
  clear hg
  go_wp2_with fail
  refine (HN.out w1 HX.out).mono ?_
  rintro _ _ ⟨rfl, rfl⟩
  go_upto_region 3 with fail
  have l6 := World.block_lt_of_cell? _ _ C6.out
  have lr := World.block_lt_of_cell? _ _ CR.out
  have c6 := fun (W : World) (hb : Below w1.heap.size w1 W) => (hb.cell l6).trans C6.out
  have cr := fun (W : World) (hb : Below w1.heap.size w1 W) => (hb.cell lr).trans CR.out
  refine wp_region_calm0 14 21 (by kernel_rfl) (by kernel_rfl) (by kernel_rfl) (by simp) ?_
  simp only [List.take_succ_cons, List.take_zero, List.drop_succ_cons, List.drop_zero]
  refine wpCalm_value rfl rfl (.pointer (some ⟨t, 0, none⟩)) (fun W _ => by go_simp) ?_
  try simp only [Act.put, List.setIfInBounds_toArray, List.set_cons_zero, List.set_cons_succ]
  refine wpCalm_value rfl rfl (.pointer (some ⟨t, 0, none⟩)) (fun W _ => by go_simp) ?_
  try simp only [Act.put, List.setIfInBounds_toArray, List.set_cons_zero, List.set_cons_succ]
  refine wpCalm_value rfl rfl (.pointer (some ⟨t, 6, none⟩)) (fun W _ => by go_simp) ?_
  try simp only [Act.put, List.setIfInBounds_toArray, List.set_cons_zero, List.set_cons_succ]
  refine wpCalm_below rfl rfl (.slice (some ⟨r, 0, none⟩) 3 rc) (fun W hb => by have := c6 W hb; go_simp) ?_
  try simp only [Act.put, List.setIfInBounds_toArray, List.set_cons_zero, List.set_cons_succ]
  refine wpCalm_value rfl rfl (.pointer (some ⟨t, 0, none⟩)) (fun W _ => by go_simp) ?_
  try simp only [Act.put, List.setIfInBounds_toArray, List.set_cons_zero, List.set_cons_succ]
  refine wpCalm_value rfl rfl (.pointer (some ⟨t, 0, none⟩)) (fun W _ => by go_simp) ?_
  try simp only [Act.put, List.setIfInBounds_toArray, List.set_cons_zero, List.set_cons_succ]
  refine wpCalm_value rfl rfl (.pointer (some ⟨t, 6, none⟩)) (fun W _ => by go_simp) ?_
  try simp only [Act.put, List.setIfInBounds_toArray, List.set_cons_zero, List.set_cons_succ]
  refine wpCalm_below rfl rfl (.slice (some ⟨r, 0, none⟩) 3 rc) (fun W hb => by have := c6 W hb; go_simp) ?_
  try simp only [Act.put, List.setIfInBounds_toArray, List.set_cons_zero, List.set_cons_succ]
  refine wpCalm_value rfl rfl (.int .i64 3) (fun W _ => by go_simp) ?_
  try simp only [Act.put, List.setIfInBounds_toArray, List.set_cons_zero, List.set_cons_succ]
  refine wpCalm_value rfl rfl (.int .i64 2) (fun W _ => by go_simp <;> rfl) ?_
  try simp only [Act.put, List.setIfInBounds_toArray, List.set_cons_zero, List.set_cons_succ]
  refine wpCalm_value rfl rfl (.pointer (some ⟨r, 2, none⟩)) (fun W _ => by go_simp) ?_
  try simp only [Act.put, List.setIfInBounds_toArray, List.set_cons_zero, List.set_cons_succ]
  refine wpCalm_below rfl rfl (.slice (some ⟨g2, 0, none⟩) 1 c2) (fun W hb => by have := cr W hb; go_simp) ?_
  try simp only [Act.put, List.setIfInBounds_toArray, List.set_cons_zero, List.set_cons_succ]
  refine wpCalm_value rfl rfl (.pointer (some ⟨g2, 0, none⟩)) (fun W _ => by go_simp) ?_
  try simp only [Act.put, List.setIfInBounds_toArray, List.set_cons_zero, List.set_cons_succ]
  refine wpCalm_load_part rfl 60 (.tmp 19) rfl g2 0 32 rfl 60 _ D _ HBK.out Tryz.underlying60 rfl rfl HDS.out HDT.out ?_
  try simp only [Act.put, List.setIfInBounds_toArray, List.set_cons_zero, List.set_cons_succ]
  refine wpCalm_nil ?_
  intro w2 hb2
  have HK2 := Lib.hid (HK0.out.below' hb2)
  have HB2 := Lib.hid (HX.out.trans (hb2.mono HX.out.size))
  clear hb2 c6 cr
  go_wp2_with (refine wpList_store_part (o := ⟨none, _, _, _, _, _⟩) rfl 60 (.tmp 2) (.tmp 20) rfl g 0 D rfl rfl 60 inkZ HK2.out (by rw [HDS.out]; rfl) (by rw [HDS.out, HZS.out]; omega) HDO.out ?_; intro w5 hT5 hD5; rw [spl_self _ _ (by rw [HDS.out, HZS.out])] at hD5)
  refine bodyPost_ret (results_part2 rfl _ _ g 32 60 _ _ rfl hD5 Tryz.underlying60 rfl rfl HDS.out) rfl ⟨rfl, ?_⟩
  exact hT5.below HB2.out (by omega)

end Go.Proofs.YtcpngeiahgoacaaGreat

/- Contract of (*Tree).Set: one leaf is turned, and all digests above it. -/
namespace Go.Proofs.YtcpngeiahgoacaaGreat
set_option linter.unusedVariables false
open Go.RowKit Go.Maps
attribute [local irreducible] wpList

def posT (i : Nat) : Nat → Nat
  | 0 => i
  | n + 1 => posT i n / 4
def dgT (ls' : List (List UInt8)) (i : Nat) (x : List UInt8) : Nat → List UInt8
  | 0 => leafD x
  | n + 1 => upD (grp (lv ls' n) (posT i (n + 1)))
theorem dgT_len (ls' : List (List UInt8)) (i : Nat) (x : List UInt8) : ∀ n, (dgT ls' i x n).length = 32
  | 0 => leafD_len x
  | n + 1 => upD_len _
theorem lv_setT (ls : List (List UInt8)) (i : Nat) (x : List UInt8) (h : i < ls.length) : ∀ n, posT i n < (lv ls n).length ∧ lv (ls.set i x) n = (lv ls n).set (posT i n) (dgT (ls.set i x) i x n)
  | 0 => ⟨by rw [lv_len0]; exact h, lv_set0 ls i x⟩
  | n + 1 => by
    obtain ⟨h1, h2⟩ := lv_setT ls i x h n
    refine ⟨?_, ?_⟩
    · show posT i n / 4 < (aboveL (lv ls n)).length
      rw [aboveL_len]; unfold grps; omega
    · show aboveL (lv (ls.set i x) n) = (aboveL (lv ls n)).set (posT i n / 4) (upD (grp (lv (ls.set i x) n) (posT i n / 4)))
      rw [h2]
      exact aboveL_set _ _ _ h1

/-- Up was asked once, from w on -/
structure UpDone (w w' : World) (k : Book) (L : List (List UInt8)) (a : Nat) : Prop where
  book : BookAt w' k L a
  only : Only k.has w w'
theorem UpDone.below {w w' w'' : World} {k : Book} {L : List (List UInt8)} {a : Nat} (h : UpDone w w' k L a) (hb : Below w'.heap.size w' w'') : UpDone w w'' k L a := ⟨h.book.below hb, h.only.trans (Only.of_below hb)⟩
/-- and its digest is laid -/
structure UpSet (w w' : World) (k : Book) (L : List (List UInt8)) (a g : Nat) (D : Array Value) : Prop where
  book : BookAt w' k L a
  only : Only (fun b => k.has b ∨ b = g) w w'
  blk : Blk w' g 60 D
theorem UpSet.below {w w' w'' : World} {k : Book} {L : List (List UInt8)} {a g : Nat} {D : Array Value} (h : UpSet w w' k L a g D) (hb : Below w'.heap.size w' w'') : UpSet w w'' k L a g D := ⟨h.book.below hb, h.only.trans (Only.of_below hb), h.blk.below' hb⟩
/-- the first n levels are turned -/
structure SetSt (w wr : World) (T : TreeLoc) (k : Book) (L : List (List UInt8)) (asked : Nat) (ls : List (List UInt8)) (i : Nat) (xs : List UInt8) (g7 n : Nat) : Prop where
  dig : ∀ j, j ≤ 2 → DigAt wr (T.gs j) (T.cs j) (if j < n then lv (ls.set i xs) j else lv ls j)
  book : ∃ L' a', BookAt wr k L' a' ∧ a' ≤ asked + 1 + min n 2 ∧ (∀ x, x ∈ L → x ∈ L') ∧ leafIn xs ∈ L' ∧ (1 ≤ n → upIn (grp (lv (ls.set i xs) 0) (i / 4)) ∈ L') ∧ (2 ≤ n → upIn (lv (ls.set i xs) 1) ∈ L')
  only : Only (fun b => T.mut b ∨ k.has b) w wr
  blk : Blk wr g7 60 (bRow (dgT (ls.set i xs) i xs (min n 2)))

set_option maxRecDepth 100000 in
set_option maxHeartbeats 8000000 in
theorem treeSet_any (T : TreeLoc) (k : Book) (ls L : List (List UInt8)) (asked i : Nat) (A : Option Addr) (m c : Nat) (xs : List UInt8) (w : World) (B : Nat) (hT : TreeAt w T k ls) (hbk : BookAt w k L asked) (h : Reads w B 1 A m (xs.map vb)) (hB : B ≤ w.heap.size) (hi : i < ls.length) (hm : m < 65536) (has : asked ≤ 900000) :
    Calls Tryz.prog 126 #[.pointer (some ⟨T.t, 0, none⟩), .int .i64 (i : Int), .slice A m c] w fun e w' => e = .returned (.int .i64 0) ∧ TreeAt w' T k (ls.set i xs) ∧
      (∃ L' a', BookAt w' k L' a' ∧ a' ≤ asked + 3 ∧ (∀ x, x ∈ L → x ∈ L') ∧ (∀ L0, (∀ x, x ∈ L0 → x ∈ L) → InBook L0 ls → InBook L' (ls.set i xs))) ∧ Only (fun b => T.mut b ∨ k.has b) w w' := by
  have hlen := hT.len
  have HT := Lib.hid hT
  have hlt := hbk.lt
  have hbook := hT.book
  have hfar := hT.far
  have htlt := hT.tlt
  have hrlt := hT.rlt
  have hglt := fun j hj => (hT.dig j hj).lt
  have HGL := Lib.hid hglt
  have HNE := Lib.hid hT.ne
  have c0 := hT.c0
  have c1 := hT.c1
  have HN := Lib.hid (treeNone_any w T.t k.g hT.c0)
  have HLF := Lib.hid (leaf_any k L asked A m c xs w B hbk h hB hm (by omega))
  have hiI : (i : Int) < (ls.length : Int) := by omega
  have hi0 : ¬ (i : Int) < 0 := by omega
  have hiL : ¬ (ls.length : Int) ≤ (i : Int) := by omega
  have HZS := Lib.hid (show inkZ.size = 32 by simp [inkZ, bRow])
  have HZ := Lib.hid treeZ_eq
  -- cells of the tree in whatever world only the levels and the book have turned
  have hC0 : ∀ W, Only (fun b => T.mut b ∨ k.has b) w W → W.cell? ⟨T.t, 0, none⟩ = some (.pointer (some ⟨k.g, 0, none⟩)) := fun W ho => (ho.cell htlt (by rintro (e | e); exact hfar.1 e; exact hbook.1 e)).trans hT.c0
  have hC6 : ∀ W, Only (fun b => T.mut b ∨ k.has b) w W → W.cell? ⟨T.t, 6, none⟩ = some (.slice (some ⟨T.r, 0, none⟩) 3 T.rc) := fun W ho => (ho.cell htlt (by rintro (e | e); exact hfar.1 e; exact hbook.1 e)).trans hT.c6
  have hCR : ∀ W, Only (fun b => T.mut b ∨ k.has b) w W → ∀ j, j ≤ 2 → W.cell? ⟨T.r, j, none⟩ = some (.slice (some ⟨T.gs j, 0, none⟩) (lv ls j).length (T.cs j)) := fun W ho j hj => (ho.cell hrlt (by rintro (e | e); exact hfar.2 e; exact hbook.2.1 e)).trans (hT.rj j hj)
  have HC0 := Lib.hid hC0
  have HC6 := Lib.hid hC6
  have HCR := Lib.hid hCR
  have HBK := Lib.hid hbook
  have hds : (bRow (leafD xs)).size = 32 := bRow_size32 (leafD_len xs)
  have hdo := bRow_one (leafD xs)
  obtain ⟨D, hD⟩ : ∃ D, D = bRow (leafD xs) := ⟨_, rfl⟩
  rw [← hD] at HLF hds hdo
  have HD := Lib.hid hD
  have HDS := Lib.hid hds
  have HDO := Lib.hid hdo
  have HDIG := Lib.hid hT.dig
  obtain ⟨t, ht⟩ : ∃ t, t = T.t := ⟨_, rfl⟩
  obtain ⟨r, hr⟩ : ∃ t, t = T.r := ⟨_, rfl⟩
  obtain ⟨rc, hrc⟩ : ∃ t, t = T.rc := ⟨_, rfl⟩
  rw [← ht] at HN HC0 HC6 c0 c1 htlt hfar hbook ⊢
  rw [← hr] at HC6 HCR hrlt hfar hbook
  rw [← hrc] at HC6
  have HFAR := Lib.hid hfar
  have HTE := Lib.hid ht
  have HRE := Lib.hid hr
  have HCE := Lib.hid hrc
  clear hT hbk h hD hds hdo hC0 hC6 hCR hbook hglt hfar ht hr hrc
  go_enter Tryz.func126, Tryz.ntmps126
  go_wp2_with fail
  refine HN.out.mono ?_
  rintro _ _ ⟨rfl, rfl⟩
  go_wp2_with fail
  refine HLF.out.mono ?_
  rintro _ w3 ⟨rfl, hbk3, ho3⟩
  have HBK3 := Lib.hid hbk3
  have HO3 := Lib.hid (Only.of_book ho3)
  have hs3 := ho3.size
  clear hbk3 ho3 HN HLF c0 c1
  go_upto_region 6 with (refine wpList_store_part (o := ⟨none, _, _, _, _, _⟩) rfl 60 (.tmp 7) (.tmp 31) rfl w3.heap.size 0 D rfl rfl 60 inkZ (by rw [HZ.out]; exact Blk.newAt rfl) (by rw [HDS.out]; rfl) (by rw [HDS.out, HZS.out]; omega) HDO.out ?_; intro w4 hT4 hD4; rw [spl_self _ _ (by rw [HDS.out, HZS.out])] at hD4)
  have hb4 : Below w3.heap.size w3 w4 := hT4.below ((Below.refl _ _).alloc (Nat.le_refl _) _) (Nat.le_refl _)
  have hs4 := hb4.size
  obtain ⟨g7, hg7⟩ : ∃ g, g = w3.heap.size := ⟨_, rfl⟩
  rw [← hg7] at hD4 ⊢
  have hg7w : w.heap.size ≤ g7 := by omega
  have ho4 : Only (fun b => T.mut b ∨ k.has b) w w4 := (HO3.out.mono (fun b _ h => .inr h)).trans (Only.of_below hb4)
  have hst : SetSt w w4 T k L asked ls i xs g7 0 := by
    refine ⟨fun j hj => ?_, ⟨_, _, HBK3.out.below hb4, by omega, fun x hx => addInk_old hx, addInk_new _ _, fun h => by omega, fun h => by omega⟩, ho4, by rw [HD.out] at hD4; exact hD4⟩
    rw [if_neg (by omega)]
    have hd := HDIG.out j hj
    refine hd.keep ((hb4.block _ (by have := hd.lt; omega)).trans (HO3.out.block _ hd.lt (HBK.out.2.2 j hj)))
  have HST := Lib.hid hst
  have c6 := HC6.out w4 ho4
  clear hT4 hD4 hb4 hg7 ho4 hst HBK3 HO3 HD HDS HDO
  go_wp2_with fail
  go_loopw [1, 41] (fun pv nv wr => ∃ n : Nat, n ≤ 3 ∧ nv = .int .i64 (n : Int) ∧ pv = .int .i64 (posT i (min n 2) : Int) ∧ SetSt w wr T k L asked ls i xs g7 n) (fun _ nv _ => 3 - (intOf nv).toNat)
  case atStart => exact ⟨0, by omega, rfl, rfl, HST.out⟩
  case round =>
    obtain ⟨n, hn, rfl, rfl, hst⟩ := hrel
    have HS := Lib.hid hst
    have hsz := hst.only.size
    clear hst c6
    by_cases hn3 : n < 3
    · have hni : (n : Int) < 3 := by omega
      have hmin : min n 2 = n := by omega
      rw [hmin]
      obtain ⟨hp1, hp2⟩ := lv_setT ls i xs hi n
      have HP2 := Lib.hid hp2
      obtain ⟨pn, hpn⟩ : ∃ p, p = posT i n := ⟨_, rfl⟩
      have hpn1 : posT i (n + 1) = pn / 4 := by rw [hpn]; rfl
      rw [← hpn] at hp1 HP2 ⊢
      have HPN := Lib.hid hpn
      have HPN1 := Lib.hid hpn1
      obtain ⟨ln, hln⟩ : ∃ l, l = (lv ls n).length := ⟨_, rfl⟩
      obtain ⟨gn, hgn⟩ : ∃ g, g = T.gs n := ⟨_, rfl⟩
      obtain ⟨cn, hcn⟩ : ∃ c, c = T.cs n := ⟨_, rfl⟩
      have hlc := lv_count hlen.1 hlen.2 n (by omega)
      rw [← hln] at hp1 hlc
      have HLN := Lib.hid hln
      have HGN := Lib.hid hgn
      have HCN := Lib.hid hcn
      have HLC := Lib.hid hlc
      have hln16 := hlc.2.1
      have hgnl : gn < w.heap.size := by rw [hgn]; exact HGL.out n (by omega)
      have hpnI : (pn : Int) < (ln : Int) := by omega
      have hcr0 := HCR.out wr HS.out.only n (by omega)
      rw [← hln, ← hgn, ← hcn] at hcr0
      have lr := World.block_lt_of_cell? _ _ hcr0
      have lt0 := World.block_lt_of_cell? _ _ (HC6.out wr HS.out.only)
      have c6 := fun (W : World) (hb : Below wr.heap.size wr W) => (hb.cell lt0).trans (HC6.out wr HS.out.only)
      have cr := fun (W : World) (hb : Below wr.heap.size wr W) => (hb.cell lr).trans hcr0
      have hbk7 := HS.out.blk
      rw [hmin] at hbk7
      have hds : (bRow (dgT (ls.set i xs) i xs n)).size = 32 := bRow_size32 (dgT_len _ _ _ _)
      have hdo := bRow_one (dgT (ls.set i xs) i xs n)
      obtain ⟨D, hD⟩ : ∃ D, D = bRow (dgT (ls.set i xs) i xs n) := ⟨_, rfl⟩
      rw [← hD] at hbk7 hds hdo
      have HD := Lib.hid hD
      have HDS := Lib.hid hds
      have HDO := Lib.hid hdo
      have HK7 := Lib.hid hbk7
      have hg7l := hbk7.lt
      clear hD hds hdo hbk7 hcr0 hln hgn hcn hlc hpn hpn1
      go_upto_region 11 with fail
      refine wp_region_calm0 10 82 (by kernel_rfl) (by kernel_rfl) (by kernel_rfl) (by simp) ?_
      simp only [List.take_succ_cons, List.take_zero, List.drop_succ_cons, List.drop_zero]
      refine wpCalm_value rfl rfl (.pointer (some ⟨t, 0, none⟩)) (fun W _ => by go_simp) ?_
      try simp only [Act.put, List.setIfInBounds_toArray, List.set_cons_zero, List.set_cons_succ]
      refine wpCalm_value rfl rfl (.pointer (some ⟨t, 0, none⟩)) (fun W _ => by go_simp) ?_
      try simp only [Act.put, List.setIfInBounds_toArray, List.set_cons_zero, List.set_cons_succ]
      refine wpCalm_value rfl rfl (.pointer (some ⟨t, 6, none⟩)) (fun W _ => by go_simp) ?_
      try simp only [Act.put, List.setIfInBounds_toArray, List.set_cons_zero, List.set_cons_succ]
      refine wpCalm_below rfl rfl (.slice (some ⟨r, 0, none⟩) 3 rc) (fun W hb => by have := c6 W hb; go_simp) ?_
      try simp only [Act.put, List.setIfInBounds_toArray, List.set_cons_zero, List.set_cons_succ]
      refine wpCalm_value rfl rfl (.int .i64 (n : Int)) (fun W _ => by go_simp) ?_
      try simp only [Act.put, List.setIfInBounds_toArray, List.set_cons_zero, List.set_cons_succ]
      refine wpCalm_value rfl rfl (.pointer (some ⟨r, n, none⟩)) (fun W _ => by go_simp) ?_
      try simp only [Act.put, List.setIfInBounds_toArray, List.set_cons_zero, List.set_cons_succ]
      refine wpCalm_below rfl rfl (.slice (some ⟨gn, 0, none⟩) ln cn) (fun W hb => by have := cr W hb; go_simp) ?_
      try simp only [Act.put, List.setIfInBounds_toArray, List.set_cons_zero, List.set_cons_succ]
      refine wpCalm_value rfl rfl (.int .i64 (pn : Int)) (fun W _ => by go_simp) ?_
      try simp only [Act.put, List.setIfInBounds_toArray, List.set_cons_zero, List.set_cons_succ]
      refine wpCalm_load_part rfl 60 (.tmp 7) rfl g7 0 32 rfl 60 _ D _ HK7.out Tryz.underlying60 rfl rfl HDS.out (fun _ _ => by rw [Nat.zero_add]) ?_
      try simp only [Act.put, List.setIfInBounds_toArray, List.set_cons_zero, List.set_cons_succ]
      refine wpCalm_value rfl rfl (.pointer (some ⟨gn, pn * 32, none⟩)) (fun W _ => by go_simp) ?_
      try simp only [Act.put, List.setIfInBounds_toArray, List.set_cons_zero, List.set_cons_succ]
      refine wpCalm_nil ?_
      intro w5 hb5
      have HS5 := Lib.hid (show Only (fun b => T.mut b ∨ k.has b) w w5 from HS.out.only.trans (Only.of_below hb5))
      have hdn := (HS.out.dig n (by omega)).keep (hb5.block _ (HS.out.dig n (by omega)).lt)
      rw [if_neg (by omega), ← HGN.out, ← HCN.out] at hdn
      obtain ⟨cur, hcb, hcs, hct⟩ := hdn.row
      have hcap := hdn.cap.1
      rw [← HLN.out] at hcap
      have hm32 : (pn + 1) * 32 ≤ cn * 32 := Nat.mul_le_mul_right _ (by omega)
      have HCB := Lib.hid hcb
      have HCS := Lib.hid hcs
      have HDN := Lib.hid hdn
      have HK75 := Lib.hid (HK7.out.below' hb5)
      have HB5 := Lib.hid hb5
      have hs5 := hb5.size
      clear hb5 hdn hcb hcs hct c6 cr
      go_upto_region 12 with (refine wpList_store_part (o := ⟨none, _, _, _, _, _⟩) rfl 60 (.tmp 53) (.tmp 52) rfl gn (pn * 32) D rfl rfl 60 cur HCB.out (by rw [HDS.out]; rfl) (by rw [HDS.out, HCS.out]; omega) HDO.out ?_; intro w6 hT6 hD6)
      have hmut : T.mut gn := ⟨n, by omega, HGN.out⟩
      have ho6 : Only (fun b => T.mut b ∨ k.has b) w w6 := HS5.out.trans (Only.of_turned hT6 (.inl hmut))
      have hgk : ¬ k.has gn := by rw [HGN.out]; exact HBK.out.2.2 n (by omega)
      have hgt : g7 ≠ gn := by omega
      have hk76 := hT6.blk HK75.out hgt
      have hd6 : ∀ j, j ≤ 2 → DigAt w6 (T.gs j) (T.cs j) (if j < n + 1 then lv (ls.set i xs) j else lv ls j) := fun j hj => by
        by_cases hjn : j = n
        · subst hjn
          rw [if_pos (by omega), HP2.out]
          have hset := (HS.out.dig j hj).keep (w' := w5) (HB5.out.block _ (HS.out.dig j hj).lt)
          rw [if_neg (by omega)] at hset
          refine hset.set (lv_digs _ _) (dgT_len _ _ _ _) (by rw [← HLN.out]; omega) fun cur' hc1 hc2 => ?_
          have hcc : cur' = cur := by
            have h1 := HCB.out
            rw [HGN.out] at h1
            unfold Blk at hc1 h1
            rw [hc1] at h1
            injection h1 with h1
            injection h1
          subst hcc
          have h2 := hD6
          rw [HGN.out, HD.out] at h2
          simpa [bRow] using h2
        · have hd := (HS.out.dig j hj).keep (w' := w5) (HB5.out.block _ (HS.out.dig j hj).lt)
          have hne : T.gs j ≠ gn := by
            rw [HGN.out]
            rcases Nat.lt_or_ge j n with h1 | h1
            · exact HNE.out j n h1 (by omega)
            · exact (HNE.out n j (by omega) hj).symm
          have hd2 := hd.keep (w' := w6) (hT6.block _ hne)
          by_cases hjl : j < n
          · rw [if_pos (by omega)]; rw [if_pos hjl] at hd2; exact hd2
          · rw [if_neg (by omega)]; rw [if_neg hjl] at hd2; exact hd2
      obtain ⟨L1, a1, q1, q2, q3, q4, q5, q6⟩ := HS.out.book
      have hbk6 : BookAt w6 k L1 a1 := (q1.below HB5.out).only (Only.of_turned (N := fun b => b = gn) hT6 rfl) (fun (e : k.g = gn) => hgk (.inl e.symm)) (fun (e : k.b1 = gn) => hgk (.inr (.inl e.symm))) (fun (e : k.b2 = gn) => hgk (.inr (.inr e.symm)))
      have HO6 := Lib.hid ho6
      have HD6 := Lib.hid hd6
      have HBK6 := Lib.hid hbk6
      have HK76 := Lib.hid hk76
      have HQ := Lib.hid (And.intro q3 (And.intro q4 (And.intro q5 q6)))
      have hs6 := hT6.size
      have c6 := HC6.out w6 ho6
      clear q1 q3 q4 q5 q6 ho6 hd6 hbk6 hk76 hT6 hD6 HCB HCS HDN HK75 HB5 HS5 hmut
      by_cases hn2 : n < 2
      · have hn2I : (n : Int) + 1 < 3 := by omega
        obtain ⟨pn4, hpn4⟩ : ∃ p, p = pn / 4 := ⟨_, rfl⟩
        have hdv : (pn : Int).tdiv 4 = (pn4 : Int) := by rw [hpn4]; exact (Int.ofNat_tdiv pn 4).symm
        have hrd := (HD6.out n (by omega)).reads (by rw [if_pos (by omega)]; exact lv_digs _ _)
        rw [if_pos (by omega)] at hrd
        have hll : (lv (ls.set i xs) n).length = ln := by rw [HP2.out, List.length_set, HLN.out]
        rw [hll, ← HGN.out] at hrd
        have hcap2 := (HD6.out n (by omega)).cap.1
        rw [if_pos (by omega), hll, ← HCN.out] at hcap2
        have hpn5 : pn4 < grps ln := by unfold grps; omega
        have h4l : 4 * pn4 < ln := grps_iff.1 hpn5
        have hrs := hrd.sub (l := 4 * pn4) (k := min (4 * pn4 + 4) ln) (cap := cn) (by omega) (by omega) hcap2
        rw [← hll, grp_cells (lv_digs _ _) pn4 (by rw [hll]; omega), hll] at hrs
        have hgr := fun W => group_any (some ⟨gn, 0, none⟩) ln cn pn4 W (by omega) (by omega) hcap2
        have hup := fun W (hb : Below w6.heap.size w6 W) => up_any k L1 a1 _ _ (cn - 4 * pn4) (grp (lv (ls.set i xs) n) pn4) W W.heap.size (HBK6.out.below hb) ((hrs.below hb).more hb.size) (Nat.le_refl _) (grp_digs (lv_digs _ _) pn4) (by omega) (by omega) (by omega)
        obtain ⟨vg, hvg⟩ : ∃ v, v = Value.slice (if cn = 4 * pn4 then some ⟨gn, 0, none⟩ else (some (⟨gn, 0, none⟩ : Addr)).map (·.add (4 * pn4 * 32))) (min (4 * pn4 + 4) ln - 4 * pn4) (cn - 4 * pn4) := ⟨_, rfl⟩
        have HGR := Lib.hid (fun W => (show Calls Tryz.prog 158 #[.slice (some ⟨gn, 0, none⟩) ln cn, .int .i64 (pn4 : Int)] W fun e w' => e = .returned vg ∧ Below W.heap.size W w' from (hgr W).mono fun e w' ⟨h1, h2⟩ => ⟨by rw [hvg]; exact h1, by rw [← h2]; exact Below.refl _ _⟩))
        have HUP := Lib.hid (show ∀ W, Below w6.heap.size w6 W → Calls Tryz.prog 157 #[.pointer (some ⟨k.g, 0, none⟩), vg] W fun e w' => e = .returned (.tuple #[.agg (bRow (upD (grp (lv (ls.set i xs) n) pn4))), .int .i64 0]) ∧ BookAt w' k (addInk L1 (upIn (grp (lv (ls.set i xs) n) pn4))) (a1 + 1) ∧ OnlyBook k W w' from fun W hb => by rw [hvg]; exact hup W hb)
        have hds2 : (bRow (upD (grp (lv (ls.set i xs) n) pn4))).size = 32 := bRow_size32 (upD_len _)
        have hdo2 := bRow_one (upD (grp (lv (ls.set i xs) n) pn4))
        have hdg : dgT (ls.set i xs) i xs (n + 1) = upD (grp (lv (ls.set i xs) n) pn4) := by
          show upD (grp (lv (ls.set i xs) n) (posT i (n + 1))) = _
          rw [HPN1.out, ← hpn4]
        obtain ⟨D2, hD2⟩ : ∃ D, D = bRow (upD (grp (lv (ls.set i xs) n) pn4)) := ⟨_, rfl⟩
        rw [← hD2] at HUP hds2 hdo2
        have HDG := Lib.hid hdg
        have HD2 := Lib.hid hD2
        have HDS2 := Lib.hid hds2
        have HDO2 := Lib.hid hdo2
        have HPN4 := Lib.hid hpn4
        have hcr0 := HCR.out w6 HO6.out n (by omega)
        rw [← HLN.out, ← HGN.out, ← HCN.out] at hcr0
        have lr6 := World.block_lt_of_cell? _ _ hcr0
        have lt6 := World.block_lt_of_cell? _ _ c6
        have c06 := HC0.out w6 HO6.out
        have lt60 := World.block_lt_of_cell? _ _ c06
        clear hrd hll hcap2 hrs hgr hup hvg hds2 hdo2 hdg hD2 hpn4
        go_upto_region 14 with fail
        have c0 := fun (W : World) (hb : Below w6.heap.size w6 W) => (hb.cell lt60).trans c06
        have c6' := fun (W : World) (hb : Below w6.heap.size w6 W) => (hb.cell lt6).trans c6
        have cr := fun (W : World) (hb : Below w6.heap.size w6 W) => (hb.cell lr6).trans hcr0
        clear c6 c06 hcr0
        have c6 := c6'
        clear c6'
        have hJ : ∀ (s : Nat) (W : World), (if s = 0 then Below w6.heap.size w6 W else if s = 1 then UpDone w6 W k (addInk L1 (upIn (grp (lv (ls.set i xs) n) pn4))) (a1 + 1) else UpSet w6 W k (addInk L1 (upIn (grp (lv (ls.set i xs) n) pn4))) (a1 + 1) g7 D2) → Only (fun b => k.has b ∨ b = g7) w6 W := fun s W hj => by
          split at hj
          · exact Only.of_below hj
          · split at hj
            · exact hj.only.mono fun b _ h => .inl h
            · exact hj.only
        have hJ2 : ∀ W, Only (fun b => k.has b ∨ b = g7) w6 W → Only (fun b => T.mut b ∨ k.has b) w W := fun W ho => ⟨ho.os.trans HO6.out.os, ho.tape.trans HO6.out.tape, ho.output.trans HO6.out.output, by have := ho.size; have := HO6.out.size; omega, fun b hb hn => (ho.block b (by have := HO6.out.size; omega) (by rintro (e | e); exact hn (.inr e); omega)).trans (HO6.out.block b hb hn)⟩
        have HJ := Lib.hid hJ
        have HJ2 := Lib.hid hJ2
        clear c0 c6 cr hJ hJ2
        have C0 := Lib.hid (fun W (h : Only (fun b => k.has b ∨ b = g7) w6 W) => HC0.out W (HJ2.out W h))
        have C6 := Lib.hid (fun W (h : Only (fun b => k.has b ∨ b = g7) w6 W) => HC6.out W (HJ2.out W h))
        have CR := Lib.hid (fun W (h : Only (fun b => k.has b ∨ b = g7) w6 W) => HCR.out W (HJ2.out W h) n (by omega))
        rw [← HLN.out, ← HGN.out, ← HCN.out] at CR
        refine wp_region_loud 18 82 (fun j W v => match j with
          | 0 => v = .pointer (some ⟨t, 0, none⟩)
          | 1 => v = .pointer (some ⟨t, 0, none⟩)
          | 2 => v = .pointer (some ⟨t, 0, none⟩)
          | 3 => v = .pointer (some ⟨k.g, 0, none⟩)
          | 4 => v = .pointer (some ⟨t, 0, none⟩)
          | 5 => v = .pointer (some ⟨t, 0, none⟩)
          | 6 => v = .pointer (some ⟨t, 6, none⟩)
          | 7 => v = .slice (some ⟨r, 0, none⟩) 3 rc
          | 8 => v = .int .i64 (n : Int)
          | 9 => v = .pointer (some ⟨r, n, none⟩)
          | 10 => v = .slice (some ⟨gn, 0, none⟩) ln cn
          | 11 => v = .int .i64 (pn4 : Int)
          | 12 => v = vg
          | 13 => v = .tuple #[.agg D2, .int .i64 0]
          | 14 => v = .tuple #[.agg D2, .int .i64 0]
          | 15 => v = .agg D2
          | 16 => v = .int .i64 0
          | _ => True) (fun s W => if s = 0 then Below w6.heap.size w6 W else if s = 1 then UpDone w6 W k (addInk L1 (upIn (grp (lv (ls.set i xs) n) pn4))) (a1 + 1) else UpSet w6 W k (addInk L1 (upIn (grp (lv (ls.set i xs) n) pn4))) (a1 + 1) g7 D2) (fun _ _ => True) [13, 17] [65, 66, 67, 68, 69, 70, 71, 72, 73, 74, 75, 76, 77, 78, 64, 79, 80] (by kernel_rfl) (by kernel_rfl) (by kernel_rfl) (by kernel_rfl) (by simp) (by kernel_rfl) (fun j => ?last) ?lastR ?jay (Below.refl _ _) ?heads ?_
        case last =>
          match j with
          | 0 | 1 | 2 | 3 | 4 | 5 | 6 | 7 | 8 | 9 | 10 | 11 | 12 | 13 | 14 | 15 | 16 => exact Lasts.pure _
          | j + 17 => exact fun _ _ _ h _ => h
        case lastR =>
          intro s j W W' v hsl hs hj hp hr
          match j with
          | 0 | 1 | 2 | 3 | 4 | 5 | 6 | 7 | 8 | 9 | 10 | 11 | 12 | 13 | 14 | 15 | 16 => exact hp
          | j + 17 => exact hp
        case jay =>
          intro s W W' hj hb
          by_cases h0 : s = 0
          · rw [if_pos h0] at hj ⊢
            exact hj.trans (hb.mono hj.size)
          · rw [if_neg h0] at hj ⊢
            by_cases h1 : s = 1
            · rw [if_pos h1] at hj ⊢
              exact hj.below hb
            · rw [if_neg h1] at hj ⊢
              exact hj.below hb
        case heads =>
          simp only [List.take_succ_cons, List.take_zero]
          refine ⟨?_, ?_, ?_, ?_, ?_, ?_, ?_, ?_, ?_, ?_, ?_, ?_, ?_, ?_, ?_, ?_, ?_, ?_, trivial⟩
          · rw [if_neg (by decide)]
            intro s a W hj hkp hd
            have e0 : a.tmps[0]?.getD undef = .pointer (some ⟨t, 0, none⟩) := hkp.get (by kernel_rfl) rfl
            exact rel_value rfl (.pointer (some ⟨t, 0, none⟩)) (by go_simp) rfl
          · rw [if_neg (by decide)]
            intro s a W hj hkp hd
            have e0 : a.tmps[65]?.getD undef = .pointer (some ⟨t, 0, none⟩) := (hd 0 (by kernel_rfl)).get 65 rfl rfl
            exact rel_value rfl (.pointer (some ⟨t, 0, none⟩)) (by go_simp) rfl
          · rw [if_neg (by decide)]
            intro s a W hj hkp hd
            have e0 : a.tmps[66]?.getD undef = .pointer (some ⟨t, 0, none⟩) := (hd 1 (by kernel_rfl)).get 66 rfl rfl
            exact rel_value rfl (.pointer (some ⟨t, 0, none⟩)) (by go_simp) rfl
          · rw [if_neg (by decide)]
            intro s a W hj hkp hd
            have e0 : a.tmps[67]?.getD undef = .pointer (some ⟨t, 0, none⟩) := (hd 2 (by kernel_rfl)).get 67 rfl rfl
            have cc := C0.out W (HJ.out s W hj)
            exact rel_value rfl (.pointer (some ⟨k.g, 0, none⟩)) (by go_simp) rfl
          · rw [if_neg (by decide)]
            intro s a W hj hkp hd
            have e0 : a.tmps[0]?.getD undef = .pointer (some ⟨t, 0, none⟩) := hkp.get (by kernel_rfl) rfl
            exact rel_value rfl (.pointer (some ⟨t, 0, none⟩)) (by go_simp) rfl
          · rw [if_neg (by decide)]
            intro s a W hj hkp hd
            have e0 : a.tmps[69]?.getD undef = .pointer (some ⟨t, 0, none⟩) := (hd 4 (by kernel_rfl)).get 69 rfl rfl
            exact rel_value rfl (.pointer (some ⟨t, 0, none⟩)) (by go_simp) rfl
          · rw [if_neg (by decide)]
            intro s a W hj hkp hd
            have e0 : a.tmps[70]?.getD undef = .pointer (some ⟨t, 0, none⟩) := (hd 5 (by kernel_rfl)).get 70 rfl rfl
            exact rel_value rfl (.pointer (some ⟨t, 6, none⟩)) (by go_simp) rfl
          · rw [if_neg (by decide)]
            intro s a W hj hkp hd
            have e0 : a.tmps[71]?.getD undef = .pointer (some ⟨t, 6, none⟩) := (hd 6 (by kernel_rfl)).get 71 rfl rfl
            have cc := C6.out W (HJ.out s W hj)
            exact rel_value rfl (.slice (some ⟨r, 0, none⟩) 3 rc) (by go_simp) rfl
          · rw [if_neg (by decide)]
            intro s a W hj hkp hd
            have e0 : a.tmps[9]?.getD undef = .int .i64 (n : Int) := hkp.get (by kernel_rfl) rfl
            exact rel_value rfl (.int .i64 (n : Int)) (by go_simp) rfl
          · rw [if_neg (by decide)]
            intro s a W hj hkp hd
            have e0 : a.tmps[72]?.getD undef = .slice (some ⟨r, 0, none⟩) 3 rc := (hd 7 (by kernel_rfl)).get 72 rfl rfl
            have e1 : a.tmps[73]?.getD undef = .int .i64 (n : Int) := (hd 8 (by kernel_rfl)).get 73 rfl rfl
            exact rel_value rfl (.pointer (some ⟨r, n, none⟩)) (by go_simp) rfl
          · rw [if_neg (by decide)]
            intro s a W hj hkp hd
            have e0 : a.tmps[74]?.getD undef = .pointer (some ⟨r, n, none⟩) := (hd 9 (by kernel_rfl)).get 74 rfl rfl
            have cc := CR.out W (HJ.out s W hj)
            exact rel_value rfl (.slice (some ⟨gn, 0, none⟩) ln cn) (by go_simp) rfl
          · rw [if_neg (by decide)]
            intro s a W hj hkp hd
            have e0 : a.tmps[1]?.getD undef = .int .i64 (pn4 : Int) := hkp.get (by kernel_rfl) rfl
            exact rel_value rfl (.int .i64 (pn4 : Int)) (by go_simp) rfl
          · rw [if_neg (by decide)]
            intro s a W hj hkp hd
            have e0 : a.tmps[75]?.getD undef = .slice (some ⟨gn, 0, none⟩) ln cn := (hd 10 (by kernel_rfl)).get 75 rfl rfl
            have e1 : a.tmps[76]?.getD undef = .int .i64 (pn4 : Int) := (hd 11 (by kernel_rfl)).get 76 rfl rfl
            exact rel_call rfl 158 #[.slice (some ⟨gn, 0, none⟩) ln cn, .int .i64 (pn4 : Int)] (by go_simp) ((HGR.out W).mono fun e w h => ⟨vg, h.1, h.2, rfl⟩)
          · rw [if_pos (by decide)]
            intro s a W hs hj hkp hd
            have e0 : a.tmps[68]?.getD undef = .pointer (some ⟨k.g, 0, none⟩) := (hd 3 (by kernel_rfl)).get 68 rfl rfl
            have e1 : a.tmps[77]?.getD undef = vg := (hd 12 (by kernel_rfl)).get 77 rfl rfl
            obtain rfl : s = 0 := by
              have h1 := (List.getElem?_eq_some_iff.1 hs).1
              simp at h1
              obtain rfl | rfl : s = 0 ∨ s = 1 := by omega
              · rfl
              · simp at hs
            rw [if_pos rfl] at hj
            exact loud_call rfl 157 #[.pointer (some ⟨k.g, 0, none⟩), vg] (by go_simp) ((HUP.out W hj).mono fun e w h => ⟨_, h.1, trivial, ⟨h.2.1, (Only.of_below hj).trans (Only.of_book h.2.2)⟩, rfl⟩)
          · rw [if_neg (by decide)]
            intro s a W hj hkp hd
            have e0 : a.tmps[78]?.getD undef = .tuple #[.agg D2, .int .i64 0] := (hd 13 (by kernel_rfl)).get 78 rfl rfl
            exact rel_value rfl (.tuple #[.agg D2, .int .i64 0]) (by go_simp) rfl
          · rw [if_neg (by decide)]
            intro s a W hj hkp hd
            have e0 : a.tmps[64]?.getD undef = .tuple #[.agg D2, .int .i64 0] := (hd 14 (by kernel_rfl)).get 64 rfl rfl
            exact rel_value rfl (.agg D2) (by go_simp) rfl
          · rw [if_neg (by decide)]
            intro s a W hj hkp hd
            have e0 : a.tmps[64]?.getD undef = .tuple #[.agg D2, .int .i64 0] := (hd 14 (by kernel_rfl)).get 64 rfl rfl
            exact rel_value rfl (.int .i64 0) (by go_simp) rfl
          · rw [if_pos (by decide)]
            intro s a W hs hj hkp hd
            have e0 : a.eval (.tmp 7) = .pointer (some ⟨g7, 0, none⟩) := hkp.at_ (by kernel_rfl)
            have e1 : a.eval (.tmp 79) = .agg D2 := (hd 15 (by kernel_rfl)) _ 79 rfl rfl
            obtain rfl : s = 1 := by
              have h1 := (List.getElem?_eq_some_iff.1 hs).1
              simp at h1
              obtain rfl | rfl : s = 0 ∨ s = 1 := by omega
              · simp at hs
              · rfl
            rw [if_neg (by omega), if_pos rfl] at hj
            have hk7 : Blk W g7 60 D := hj.only.blk HK76.out (by rintro (e | e | e) <;> omega)
            refine loud_store (o := ⟨none, _, _, _, _, _⟩) rfl 60 (.tmp 7) (.tmp 79) rfl g7 0 D2 e0 e1 60 D hk7 (by rw [HDS2.out]; rfl) (by rw [HDS2.out, HDS.out]; omega) HDO2.out fun W2 hT2 hB2 => ⟨trivial, ?_, trivial⟩
            rw [spl_self _ _ (by rw [HDS2.out, HDS.out])] at hB2
            exact ⟨hj.book.only (Only.of_turned (N := fun b => b = g7) hT2 rfl) (by omega) (by omega) (by omega), (hj.only.mono fun b _ h => .inl h).trans (Only.of_turned hT2 (.inr rfl)), hB2⟩
        intro f w10 hj hd
        have hu : UpSet w6 w10 k (addInk L1 (upIn (grp (lv (ls.set i xs) n) pn4))) (a1 + 1) g7 D2 := hj
        have HBK9 := Lib.hid hu.book
        have HO9 := Lib.hid (HJ2.out w10 hu.only)
        have hD10 := hu.blk
        have HD9 := Lib.hid (fun j (hj : j ≤ 2) => (HD6.out j hj).keep (hu.only.block _ (HD6.out j hj).lt (by have := HGL.out j hj; rintro (e | e); exact HBK.out.2.2 j hj e; omega)))
        simp only [putAll, List.drop_succ_cons, List.drop_zero]
        clear hd hj hu HUP
        try simp only [Act.put, List.setIfInBounds_toArray, List.set_cons_zero, List.set_cons_succ]
        have ho10 := HO9.out
        have hst10 : SetSt w w10 T k L asked ls i xs g7 (n + 1) := by
          refine ⟨HD9.out, ⟨_, _, HBK9.out, by omega, fun x hx => addInk_old (HQ.out.1 x hx), addInk_old HQ.out.2.1, fun _ => ?_, fun h2 => ?_⟩, ho10, ?_⟩
          · rcases Nat.eq_zero_or_pos n with e | e
            · subst e
              have h1 : posT i 1 = i / 4 := rfl
              rw [← h1, HPN1.out, ← HPN4.out]
              exact addInk_new _ _
            · exact addInk_old (HQ.out.2.2.1 e)
          · obtain rfl : n = 1 := by omega
            have h0 : pn4 = 0 := by have h1 := HLN.out; rw [lv_len1] at h1; unfold grps at h1; have := HPN4.out; omega
            have h1 : grp (lv (ls.set i xs) 1) pn4 = lv (ls.set i xs) 1 := by
              rw [h0]
              unfold grp
              rw [Nat.mul_zero, List.drop_zero, List.take_of_length_le]
              rw [lv_len1, List.length_set]; unfold grps; omega
            have := addInk_new L1 (upIn (grp (lv (ls.set i xs) 1) pn4))
            rw [h1] at this ⊢
            exact this
          · rw [show min (n + 1) 2 = n + 1 by omega, HDG.out, ← HD2.out]
            exact hD10
        have HST10 := Lib.hid hst10
        have hpp : pn4 = posT i (n + 1) := by rw [HPN1.out, HPN4.out]
        have HPP := Lib.hid hpp
        clear ho10 hst10 hD10 HO9 HD9 HBK9 hpp
        go_wp2_with fail
        go_roundw
        case rel => exact ⟨n + 1, by omega, by go_num, by rw [show min (n + 1) 2 = n + 1 by omega, ← HPP.out], HST10.out⟩
        case measure => simp [intOf]; omega
      · obtain rfl : n = 2 := by omega
        have hn2I : ¬ (2 : Int) + 1 < 3 := by omega
        have hst6 : SetSt w w6 T k L asked ls i xs g7 3 := by
          refine ⟨HD6.out, ⟨L1, a1, HBK6.out, by omega, HQ.out.1, HQ.out.2.1, fun _ => HQ.out.2.2.1 (by omega), fun _ => HQ.out.2.2.2 (by omega)⟩, HO6.out, ?_⟩
          show Blk w6 g7 _ (bRow (dgT (ls.set i xs) i xs 2))
          rw [← HD.out]
          exact HK76.out
        have HST6 := Lib.hid hst6
        clear hst6
        go_wp2_with fail
        go_roundw
        case rel => exact ⟨3, by omega, rfl, by rw [show min 3 2 = 2 by omega, ← HPN.out], HST6.out⟩
        case measure => simp [intOf]
    · obtain rfl : n = 3 := by omega
      have hni : ¬ (3 : Int) < 3 := by omega
      go_wp2_with fail
      go_ret
      obtain ⟨L1, a1, q1, q2, q3, q4, q5, q6⟩ := HS.out.book
      have ho := HS.out.only
      have e1 := HTE.out
      have e2 := HRE.out
      have e3 := HCE.out
      subst e1 e2 e3
      refine ⟨rfl, ⟨by have := ho.size; omega, by have := ho.size; omega, HC0.out wr ho, ?_, HC6.out wr ho, fun j hj => ?_, fun j hj => ?_, HNE.out, HFAR.out, HBK.out, by rw [List.length_set]; exact hlen⟩, ⟨L1, a1, q1, by omega, q3, fun L0 hL0 hin => ?_⟩, ho⟩
      · rw [List.length_set]
        exact (ho.cell htlt (by rintro (e | e); exact HFAR.out.1 e; exact HBK.out.1 e)).trans HT.out.c1
      · rw [HCR.out wr ho j hj, (lv_setT ls i xs hi j).2, List.length_set]
      · have := HS.out.dig j hj
        rw [if_pos (by omega)] at this
        exact this
      · exact (hin.more fun x hx => q3 x (hL0 x hx)).set hi (fun _ h => h) q4 (q5 (by omega)) (q6 (by omega))

end Go.Proofs.YtcpngeiahgoacaaGreat

/- Contracts of the helpers EqBytes and CopyBytes. -/
namespace Go.Proofs.YtcpngeiahgoacaaGreat
set_option linter.unusedVariables false
open Go.RowKit

set_option maxHeartbeats 400000 in
theorem eqBytes_any (A B : Option Addr) (n m c d : Nat) (xs ys : List UInt8) (w : World) (Bx By : Nat) (ha : Reads w Bx 1 A n (xs.map vb)) (hb : Reads w By 1 B m (ys.map vb)) (hn : n ≤ maxLen) (hm : m ≤ maxLen) :
    Calls Tryz.prog 14 #[.slice A n c, .slice B m d] w fun e w' => e = .returned (.bool (decide (xs = ys))) ∧ ∃ k, w' = w.drewN k := by
  have hlx : xs.length = n := by have := ha.1; simpa using this
  have hly : ys.length = m := by have := hb.1; simpa using this
  unfold maxLen at hn hm
  by_cases hnm : n = m
  · subst hnm
    go_enter Tryz.func14, Tryz.ntmps14
    go_wp2
    go_loopw [5] (fun i wr => ∃ k q : Nat, k ≤ n ∧ i = .int .i64 k ∧ xs.take k = ys.take k ∧ wr = w.drewN q) (fun i _ => n - (intOf i).toNat)
    case atStart => exact ⟨0, 0, Nat.zero_le _, rfl, by simp, rfl⟩
    case round =>
      obtain ⟨k, q, hk, rfl, heq, rfl⟩ := hrel
      have HE := Lib.hid heq
      clear heq
      by_cases hlt : k < n
      · obtain ⟨ad, u, rfl, _, hx, hcx⟩ := ha.at_ hlt
        obtain ⟨bd, v, rfl, _, hy, hcy⟩ := hb.at_ hlt
        obtain ⟨hk1, rfl⟩ := getElem?_vb hx
        obtain ⟨hk2, rfl⟩ := getElem?_vb hy
        clear hx hy ha hb
        by_cases hne : xs[k] = ys[k]
        · have hz : (bi xs[k] != bi ys[k]) = false := by simp [hne]
          have HN := Lib.hid hne
          clear hne
          go_wp2
          go_quiet (fail)
          go_wp2
          go_roundw
          case rel => exact ⟨k + 1, _, by omega, by go_num, by rw [List.take_succ_eq_append_getElem hk1, List.take_succ_eq_append_getElem hk2, HE.out, HN.out], rfl⟩
          case measure => simp [intOf]; omega
        · have hz : (bi xs[k] != bi ys[k]) = true := by
            rw [bne_iff_ne]; intro e; exact hne (bi_inj e)
          have HN := Lib.hid hne
          clear hne
          go_wp2
          go_quiet (fail)
          go_wp2
          go_ret
          exact ⟨ret_bool (by have := HN.out; symm; rw [decide_eq_false_iff_not]; rintro rfl; exact this rfl), _, World.drewN_drewN _ _ _⟩
      · have hkn : k = n := by omega
        have HK := Lib.hid hkn
        clear hkn
        go_wp2
        go_ret
        exact ⟨ret_bool (by symm; rw [decide_eq_true_iff]; have h1 := HE.out; rw [HK.out] at h1; rwa [List.take_of_length_le (by omega), List.take_of_length_le (by omega)] at h1), q, rfl⟩
  · have h0 : ((n : Int) != (m : Int)) = true := by rw [bne_iff_ne]; omega
    have HN := Lib.hid hnm
    clear hnm
    go_enter Tryz.func14, Tryz.ntmps14
    go_wp2
    go_ret
    exact ⟨ret_bool (by symm; rw [decide_eq_false_iff_not]; rintro rfl; exact HN.out (by omega)), 0, rfl⟩

end Go.Proofs.YtcpngeiahgoacaaGreat

/- Contracts of bastideref00.CopyInts and bastideref11.Copy. -/
namespace Go.Proofs.YtcpngeiahgoacaaGreat
set_option linter.unusedVariables false
open Go.RowKit

theorem ci_info : (Tryz.prog.info? 3).map (fun i => (i.zero, i.size, i.bytes)) = some (some (.int .i64 0), 1, 8) := by kernel_rfl
set_option maxHeartbeats 400000 in
theorem copyInts_any (A : Option Addr) (n c : Nat) (xs : List Int) (w : World) (B : Nat) (h : Reads w B 1 A n (xs.map vn)) (hB : B ≤ w.heap.size) (hn : n ≤ 17592186044416) :
    Calls Tryz.prog 87 #[.slice A n c] w fun e w' => ∃ v, e = .returned v ∧ OwnN w' w.heap.size v xs ∧ Below w.heap.size w w' := by
  have hxn : xs.length = n := by have := h.1; simpa using this
  have HXN := Lib.hid hxn
  clear hxn
  go_enter Tryz.func87, Tryz.ntmps87
  obtain ⟨i0, hi0, hz0, hz1, hz2⟩ := info_parts ci_info
  go_wp2_with (at_builtin; go_must (refine wpList_append_any _ rfl (.tmp 4) (.tmp 5) 42 rfl w.heap.size 3 i0 _ 1 8 Tryz.underlying42 hi0 hz0 hz1 hz2 rfl (by omega) (.slice none 0 0) 0 [] rfl ⟨by simp, .inl ⟨rfl, rfl⟩⟩ B A n c (xs.map vn) rfl h ?c1 ?c2 ?c3 ?c4 ?_))
  case c1 => intro u hu; obtain ⟨x, _, rfl⟩ := List.mem_map.1 hu; rfl
  case c2 => unfold maxLen; omega
  case c3 => omega
  case c4 => omega
  intro v1 w1 hown1 hg1 hor
  go_wp2
  go_ret
  refine ⟨v1, rfl, ?_, (Below.refl _ _).grown hg1 (Nat.le_refl _) (fun b hb => by simp [Value.ownBlock] at hb)⟩
  unfold OwnN
  rw [HXN.out]
  simpa using hown1

theorem own_slice_n {w : World} {B : Nat} {v : Value} {xs : List Int} (h : OwnN w B v xs) : ∃ A c, v = .slice A xs.length c ∧ xs.length ≤ c ∧ c ≤ maxLen ∧ Reads w w.heap.size 1 A xs.length (xs.map vn) ∧ (∀ ad, A = some ad → B ≤ ad.block) := by
  have hr := fun A c (hv : v = .slice A xs.length c) => Reads.of_own (A := A) (c := c) (by rw [← hv]; exact h)
  rcases h.2 with ⟨rfl, h0⟩ | ⟨g, cap, cur, rfl, hg, _, h1, h2, _⟩
  · exact ⟨none, 0, by rw [h0], by omega, by unfold maxLen; omega, hr none 0 (by rw [h0]), fun _ h => by cases h⟩
  · exact ⟨_, cap, rfl, h1, h2, hr _ _ rfl, fun ad h => by injection h with h; subst h; exact hg⟩
theorem OwnN.more {w : World} {B B' : Nat} {v : Value} {xs : List Int} (h : OwnN w B v xs) (hB : B' ≤ B) : OwnN w B' v xs := by
  refine ⟨h.1, ?_⟩
  rcases h.2 with h0 | ⟨g, cap, cur, rfl, hg, hh, h1⟩
  · exact .inl h0
  · exact .inr ⟨g, cap, cur, rfl, by omega, hh, h1⟩
/-- a wish whose lists are its own -/
structure WishOwn (w : World) (B : Nat) (x : Wish) (A : Option Addr) (n c : Nat) (A' : Option Addr) (n' c' : Nat) : Prop where
  data : OwnB w B (.slice A n c) x.data
  next : OwnN w B (.slice A' n' c') x.next
  dm : n ≤ 140737488355328
  nm : n' ≤ 17592186044416
  rng : I64 x.client ∧ I64 x.stamp ∧ I64 x.group ∧ I64 x.epoch ∧ I64 x.kind ∧ I64 x.block ∧ I64 x.old ∧ I64 x.new ∧ ∀ z, z ∈ x.next → I64 z
theorem WishOwn.is {w : World} {B : Nat} {x : Wish} {A : Option Addr} {n c : Nat} {A' : Option Addr} {n' c' : Nat} (h : WishOwn w B x A n c A' n' c') : WishIn w w.heap.size x A n c A' n' c' := by
  obtain ⟨_, h3, h4, h5, _⟩ := h.data.reads
  obtain ⟨A1, c1, e, h6, h7, h8, _⟩ := own_slice_n h.next
  injection e with e1 e2 e3
  subst e1 e2 e3
  exact ⟨h5, h3, h.dm, h8, h6, h.nm, h.rng⟩
theorem WishOwn.more {w : World} {B B' : Nat} {x : Wish} {A : Option Addr} {n c : Nat} {A' : Option Addr} {n' c' : Nat} (h : WishOwn w B x A n c A' n' c') (hB : B' ≤ B) : WishOwn w B' x A n c A' n' c' :=
  ⟨h.data.more hB, h.next.more hB, h.dm, h.nm, h.rng⟩
theorem WishOwn.keep {w w' : World} {B : Nat} {x : Wish} {A : Option Addr} {n c : Nat} {A' : Option Addr} {n' c' : Nat} (h : WishOwn w B x A n c A' n' c') (hk : ∀ b, B ≤ b → b < w.heap.size → w'.heap[b]? = w.heap[b]?) : WishOwn w' B x A n c A' n' c' :=
  ⟨h.data.keep fun b hb => hk b (h.data.ge hb) (h.data.lt hb), own_keep h.next fun b hb => hk b (own_ge h.next hb) (own_lt h.next hb), h.dm, h.nm, h.rng⟩

end Go.Proofs.YtcpngeiahgoacaaGreat
