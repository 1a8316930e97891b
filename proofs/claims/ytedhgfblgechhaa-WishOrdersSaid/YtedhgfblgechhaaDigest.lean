/-
  Contracts of wish.Digest and wish.BatchDigest.
-/
import Derived.Test.YtedhgfblgechhaaInkEvery
import Derived.Test.YtedhgfblgechhaaPSame
namespace Go.Proofs.Ytedhgfblgechhaa
set_option linter.unusedVariables false
open Go.RowKit Go.Maps

/-- a digest of what has bytes, or its error -/
structure DigAns (D : Array Value) (code : Int) (p : List UInt8 × Nat) : Prop where
  size : D.size = 32
  one : D.all (·.oneCell') = true
  code : code = p.2
  dig : p.2 = 0 → D = bRow (shaOf p.1)
  zero : p.2 ≠ 0 → D = inkZ
def digL (l : List (List UInt8)) (p : List UInt8 × Nat) : List (List UInt8) := if p.2 = 0 then addInk l p.1 else l
def digN (asked : Nat) (p : List UInt8 × Nat) : Nat := if p.2 = 0 then asked + 1 else asked
theorem digN_le (asked : Nat) (p : List UInt8 × Nat) : digN asked p ≤ asked + 1 := by unfold digN; split <;> omega
def bytesW (x : Wish) : List UInt8 × Nat := (if mayB x = true then wishB x else [], if mayB x = true then 0 else 2)
theorem bytesW_any (x : Wish) (A : Option Addr) (n c : Nat) (A' : Option Addr) (n' c' : Nat) (w : World) (B : Nat) (h : WishIn w B x A n c A' n' c') (hB : B ≤ w.heap.size) :
    Calls Try.prog 10 #[.agg (wCells x A n c A' n' c')] w fun e w' => ∃ v, e = .returned (.tuple #[v, .int .i64 ((bytesW x).2 : Int)]) ∧ OwnB w' w.heap.size v (bytesW x).1 ∧ Below w.heap.size w w' := by
  refine (bytes_any x A n c A' n' c' w B h hB).mono ?_
  rintro e w' ⟨v, rfl, h2, h3⟩
  refine ⟨v, ?_, h2, h3⟩
  unfold bytesW
  cases mayB x <;> rfl
theorem inkZ_eq : inkZ = #[.int .u8 0, .int .u8 0, .int .u8 0, .int .u8 0, .int .u8 0, .int .u8 0, .int .u8 0, .int .u8 0, .int .u8 0, .int .u8 0, .int .u8 0, .int .u8 0, .int .u8 0, .int .u8 0, .int .u8 0, .int .u8 0, .int .u8 0, .int .u8 0, .int .u8 0, .int .u8 0, .int .u8 0, .int .u8 0, .int .u8 0, .int .u8 0, .int .u8 0, .int .u8 0, .int .u8 0, .int .u8 0, .int .u8 0, .int .u8 0, .int .u8 0, .int .u8 0] := by kernel_rfl
theorem batch_len (l : List Wish) : (batch l).1.length ≤ 2000 := by
  unfold batch
  split
  · simp
  · split
    · rename_i h1 h2
      have := outs_len (l := l) (n := l.length) (k := 4) (fun x hx => List.all_eq_true.1 h2 x hx) (by omega) (by omega)
      unfold batchOf
      show (numB l.length ++ _).length ≤ 2000
      omega
    · simp
theorem bytesW_len (x : Wish) : (bytesW x).1.length ≤ 2000 := by
  unfold bytesW
  simp only
  split
  · rename_i h
    have := wishB_len h
    omega
  · simp
theorem own_apart {w : World} {k : Book} {A : Option Addr} {n : Nat} {B : Nat} (hB : ∀ ad, A = some ad → B ≤ ad.block) (hk : k.g < B ∧ k.b1 < B ∧ k.b2 < B) : ∀ a, 0 < n → A = some a → ¬ k.has a.block := fun a _ ha e => by
  have := hB a ha
  rcases e with e | e | e <;> omega

set_option maxRecDepth 100000 in
set_option maxHeartbeats 4000000 in
theorem batchDigest_any (k : Book) (L : List (List UInt8)) (asked : Nat) (A : Option Addr) (n c : Nat) (l : List Wish) (w : World) (B : Nat) (hbk : BookAt w k L asked) (has : asked ≤ 1000000) (h : WishesIn w B A n l) (hB : B ≤ w.heap.size) (hn : n ≤ 2000000000000) :
    Calls Try.prog 27 #[.pointer (some ⟨k.g, 0, none⟩), .slice A n c] w fun e w' => ∃ D code, e = .returned (.tuple #[.agg D, .int .i64 code]) ∧ DigAns D code (batch l) ∧ BookAt w' k (digL L (batch l)) (digN asked (batch l)) ∧ OnlyBook k w w' := by
  have hpl := batch_len l
  have hX : Below w.heap.size w (w.alloc (.cells inkZ 49)) := (Below.refl _ _).alloc (Nat.le_refl _) _
  have hk0 : Blk (w.alloc (.cells inkZ 49)) w.heap.size 49 inkZ := Blk.newAt (by simp)
  have HBT := Lib.hid (fun W (hb : Below w.heap.size w W) => batch_any A n c l W B (h.below (hb.mono hB)) (by have := hb.size; omega) hn)
  have hlt := hbk.lt
  have hlt1 := hlt.1
  have hlt2 := hlt.2.1
  have hlt3 := hlt.2.2
  have HBK := Lib.hid hbk
  obtain ⟨p, hp⟩ : ∃ p, p = batch l := ⟨_, rfl⟩
  rw [← hp] at HBT hpl ⊢
  clear hp h hlt hbk
  obtain ⟨bs, e⟩ := p
  simp only at HBT hpl
  have HZ := Lib.hid inkZ_eq
  have HZS := Lib.hid (show inkZ.size = 32 by simp [inkZ, bRow])
  have HZO := Lib.hid (show inkZ.all (·.oneCell') = true from bRow_one _)
  have hs0 : (w.alloc (.cells inkZ 49)).heap.size = w.heap.size + 1 := by simp
  have HX := Lib.hid hX
  have HK0 := Lib.hid hk0
  have HS0 := Lib.hid hs0
  clear hX hk0 hs0
  obtain ⟨g, hg⟩ : ∃ g, g = w.heap.size := ⟨_, rfl⟩
  go_enter Try.func27, Try.ntmps27
  go_upto_region 1 with fail
  rw [← HZ.out]
  generalize World.alloc w _ = w1 at HX HK0 HS0 ⊢
  rw [← hg] at HK0 HS0 ⊢
  have hs1 := HX.out.size
  have hg1 : g < w1.heap.size := by have := HS0.out; omega
  have hgw : w.heap.size ≤ g := by omega
  clear HS0 hg
  go_wp2_with fail
  refine (HBT.out w1 HX.out).mono ?_
  rintro _ w2 ⟨v, rfl, hob, hb2⟩
  have HB2 := Lib.hid (HX.out.trans (hb2.mono hs1))
  have HK2 := Lib.hid (HK0.out.under hb2)
  have hs2 := HB2.out.size
  have hs12 := hb2.size
  have HBK2 := Lib.hid (HBK.out.below HB2.out)
  obtain ⟨Ab, cb, rfl, hbc, hbm, hbr, hbB⟩ := own_slice_b hob
  have hap := own_apart (w := w) (k := k) (n := bs.length) hbB (by omega)
  have HAP := Lib.hid hap
  have HBR := Lib.hid hbr
  clear hob hb2 hbr hbB hap HBT HX HK0
  by_cases he : e = 0
  · subst he
    have hof := inkOf_any k L asked Ab bs.length cb bs w2 _ HBK2.out HBR.out (Nat.le_refl _) (fun a h0 ha e => HAP.out a h0 ha (.inl e)) hbc hbm (by omega) has
    have hsz : (bRow (shaOf bs)).size = 32 := by rw [bRow_size, shaOf_len]
    have hon := bRow_one (shaOf bs)
    have HF := Lib.hid (show ∀ D, D = bRow (shaOf bs) → DigAns D 0 (bs, 0) from fun D hD => ⟨by rw [hD]; exact hsz, by rw [hD]; exact hon, rfl, fun _ => hD, fun h => absurd rfl h⟩)
    obtain ⟨D, hD⟩ : ∃ D, D = bRow (shaOf bs) := ⟨_, rfl⟩
    rw [← hD] at hof hsz hon
    have HD := Lib.hid hD
    have HSZ := Lib.hid hsz
    have HON := Lib.hid hon
    have HOF := Lib.hid hof
    clear hof hD hsz hon
    go_wp2_with fail
    refine HOF.out.mono ?_
    rintro _ w3 ⟨rfl, hbk3, ho3⟩
    have HO3 := Lib.hid ((OnlyBook.of_below HB2.out).trans ho3)
    have hk3 : Blk w3 g 49 inkZ := (ho3.block g (by omega) (by rintro (e | e | e) <;> omega)).trans HK2.out
    have HK3 := Lib.hid hk3
    have HBK3 := Lib.hid hbk3
    have hs3 := ho3.size
    clear hbk3 ho3 hk3
    go_wp2_with (refine wpList_store_part (o := ⟨none, _, _, _, _, _⟩) rfl 49 (.tmp 4) (.tmp 20) rfl g 0 D rfl rfl 49 inkZ HK3.out (by rw [HSZ.out]; rfl) (by rw [HSZ.out, HZS.out]; omega) HON.out ?_; intro w5 hT5 hD5; rw [spl_self _ _ (by rw [HSZ.out, HZS.out])] at hD5)
    refine bodyPost_ret (results_part2 rfl _ _ g 32 49 _ _ rfl hD5 Try.underlying49 rfl rfl HSZ.out) rfl ⟨D, 0, rfl, HF.out D HD.out, ?_, ?_⟩
    · unfold digL digN
      rw [if_pos rfl, if_pos rfl]
      exact HBK3.out.grown hT5.grown ⟨by omega, by omega, by omega⟩
    · exact HO3.out.grown hT5.grown (by omega)
  · have he' : ¬ (e : Int) = 0 := by omega
    go_wp2_with (refine wpList_store_part (o := ⟨none, _, _, _, _, _⟩) rfl 49 (.tmp 4) (.tmp 15) rfl g 0 inkZ rfl (by rw [HZ.out]; rfl) 49 inkZ HK2.out (by rw [HZS.out]; rfl) (by simp) HZO.out ?_; intro w5 hT5 hD5; rw [spl_self _ _ rfl] at hD5)
    refine bodyPost_ret (results_part2 rfl _ _ g 32 49 _ _ rfl hD5 Try.underlying49 rfl rfl HZS.out) rfl ⟨inkZ, e, rfl, ⟨HZS.out, HZO.out, rfl, fun h => absurd h he, fun _ => rfl⟩, ?_, ?_⟩
    · unfold digL digN
      rw [if_neg he, if_neg he]
      exact HBK2.out.grown hT5.grown ⟨by omega, by omega, by omega⟩
    · exact (OnlyBook.of_below HB2.out).grown hT5.grown (by omega)

set_option maxRecDepth 100000 in
set_option maxHeartbeats 4000000 in
theorem digest_any (k : Book) (L : List (List UInt8)) (asked : Nat) (x : Wish) (A : Option Addr) (n c : Nat) (A' : Option Addr) (n' c' : Nat) (w : World) (B : Nat) (hbk : BookAt w k L asked) (has : asked ≤ 1000000) (h : WishIn w B x A n c A' n' c') (hB : B ≤ w.heap.size) :
    Calls Try.prog 31 #[.pointer (some ⟨k.g, 0, none⟩), .agg (wCells x A n c A' n' c')] w fun e w' => ∃ D code, e = .returned (.tuple #[.agg D, .int .i64 code]) ∧ DigAns D code (bytesW x) ∧ BookAt w' k (digL L (bytesW x)) (digN asked (bytesW x)) ∧ OnlyBook k w w' := by
  have hpl := bytesW_len x
  have hX : Below w.heap.size w ((w.alloc (.cells (wCells x A n c A' n' c') 25)).alloc (.cells inkZ 49)) := ((Below.refl _ _).alloc (Nat.le_refl _) _).alloc (by simp) _
  have hk0 : Blk ((w.alloc (.cells (wCells x A n c A' n' c') 25)).alloc (.cells inkZ 49)) (w.heap.size + 1) 49 inkZ := Blk.newAt (by simp)
  have HBT := Lib.hid (fun W (hb : Below w.heap.size w W) => bytesW_any x A n c A' n' c' W B (h.below (hb.mono hB)) (by have := hb.size; omega))
  have hlt := hbk.lt
  have hlt1 := hlt.1
  have hlt2 := hlt.2.1
  have hlt3 := hlt.2.2
  have HBK := Lib.hid hbk
  obtain ⟨p, hp⟩ : ∃ p, p = bytesW x := ⟨_, rfl⟩
  rw [← hp] at HBT hpl ⊢
  clear hp h hlt hbk
  obtain ⟨bs, e⟩ := p
  simp only at HBT hpl
  have HZ := Lib.hid inkZ_eq
  have HZS := Lib.hid (show inkZ.size = 32 by simp [inkZ, bRow])
  have HZO := Lib.hid (show inkZ.all (·.oneCell') = true from bRow_one _)
  have hs0 : ((w.alloc (.cells (wCells x A n c A' n' c') 25)).alloc (.cells inkZ 49)).heap.size = (w.heap.size + 1) + 1 := by simp
  have hkx : Blk ((w.alloc (.cells (wCells x A n c A' n' c') 25)).alloc (.cells inkZ 49)) w.heap.size 25 (wCells x A n c A' n' c') := (Blk.new w _ _).alloc _
  have HKX := Lib.hid hkx
  clear hkx
  have HX := Lib.hid hX
  have HK0 := Lib.hid hk0
  have HS0 := Lib.hid hs0
  clear hX hk0 hs0
  obtain ⟨g, hg⟩ : ∃ g, g = (w.heap.size + 1) := ⟨_, rfl⟩
  obtain ⟨gx, hgx⟩ : ∃ g, g = w.heap.size := ⟨_, rfl⟩
  go_enter Try.func31, Try.ntmps31
  go_upto_region 1 with fail
  rw [← HZ.out]
  generalize World.alloc (World.alloc w _) _ = w1 at HX HK0 HS0 HKX ⊢
  rw [← hg] at HK0 HS0 ⊢
  rw [← hgx] at HKX ⊢
  have hs1 := HX.out.size
  have hg1 : g < w1.heap.size := by have := HS0.out; omega
  have hgw : w.heap.size ≤ g := by omega
  clear HS0 hg hgx
  go_wp2_with (refine wpList_load_part (o := ⟨some 9, _, _, _, _, _⟩) rfl 25 (.tmp 3) rfl gx 0 10 rfl 25 _ (wCells x A n c A' n' c') _ HKX.out Try.underlying25 rfl rfl rfl (fun _ _ => by rw [Nat.zero_add]) ?_)
  refine (HBT.out w1 HX.out).mono ?_
  rintro _ w2 ⟨v, rfl, hob, hb2⟩
  have HB2 := Lib.hid (HX.out.trans (hb2.mono hs1))
  have HK2 := Lib.hid (HK0.out.under hb2)
  have hs2 := HB2.out.size
  have hs12 := hb2.size
  have HBK2 := Lib.hid (HBK.out.below HB2.out)
  obtain ⟨Ab, cb, rfl, hbc, hbm, hbr, hbB⟩ := own_slice_b hob
  have hap := own_apart (w := w) (k := k) (n := bs.length) hbB (by omega)
  have HAP := Lib.hid hap
  have HBR := Lib.hid hbr
  clear hob hb2 hbr hbB hap HBT HX HK0
  by_cases he : e = 0
  · subst he
    have hof := inkOf_any k L asked Ab bs.length cb bs w2 _ HBK2.out HBR.out (Nat.le_refl _) (fun a h0 ha e => HAP.out a h0 ha (.inl e)) hbc hbm (by omega) has
    have hsz : (bRow (shaOf bs)).size = 32 := by rw [bRow_size, shaOf_len]
    have hon := bRow_one (shaOf bs)
    have HF := Lib.hid (show ∀ D, D = bRow (shaOf bs) → DigAns D 0 (bs, 0) from fun D hD => ⟨by rw [hD]; exact hsz, by rw [hD]; exact hon, rfl, fun _ => hD, fun h => absurd rfl h⟩)
    obtain ⟨D, hD⟩ : ∃ D, D = bRow (shaOf bs) := ⟨_, rfl⟩
    rw [← hD] at hof hsz hon
    have HD := Lib.hid hD
    have HSZ := Lib.hid hsz
    have HON := Lib.hid hon
    have HOF := Lib.hid hof
    clear hof hD hsz hon
    go_wp2_with fail
    refine HOF.out.mono ?_
    rintro _ w3 ⟨rfl, hbk3, ho3⟩
    have HO3 := Lib.hid ((OnlyBook.of_below HB2.out).trans ho3)
    have hk3 : Blk w3 g 49 inkZ := (ho3.block g (by omega) (by rintro (e | e | e) <;> omega)).trans HK2.out
    have HK3 := Lib.hid hk3
    have HBK3 := Lib.hid hbk3
    have hs3 := ho3.size
    clear hbk3 ho3 hk3
    go_wp2_with (refine wpList_store_part (o := ⟨none, _, _, _, _, _⟩) rfl 49 (.tmp 4) (.tmp 20) rfl g 0 D rfl rfl 49 inkZ HK3.out (by rw [HSZ.out]; rfl) (by rw [HSZ.out, HZS.out]; omega) HON.out ?_; intro w5 hT5 hD5; rw [spl_self _ _ (by rw [HSZ.out, HZS.out])] at hD5)
    refine bodyPost_ret (results_part2 rfl _ _ g 32 49 _ _ rfl hD5 Try.underlying49 rfl rfl HSZ.out) rfl ⟨D, 0, rfl, HF.out D HD.out, ?_, ?_⟩
    · unfold digL digN
      rw [if_pos rfl, if_pos rfl]
      exact HBK3.out.grown hT5.grown ⟨by omega, by omega, by omega⟩
    · exact HO3.out.grown hT5.grown (by omega)
  · have he' : ¬ (e : Int) = 0 := by omega
    go_wp2_with (refine wpList_store_part (o := ⟨none, _, _, _, _, _⟩) rfl 49 (.tmp 4) (.tmp 15) rfl g 0 inkZ rfl (by rw [HZ.out]; rfl) 49 inkZ HK2.out (by rw [HZS.out]; rfl) (by simp) HZO.out ?_; intro w5 hT5 hD5; rw [spl_self _ _ rfl] at hD5)
    refine bodyPost_ret (results_part2 rfl _ _ g 32 49 _ _ rfl hD5 Try.underlying49 rfl rfl HZS.out) rfl ⟨inkZ, e, rfl, ⟨HZS.out, HZO.out, rfl, fun h => absurd h he, fun _ => rfl⟩, ?_, ?_⟩
    · unfold digL digN
      rw [if_neg he, if_neg he]
      exact HBK2.out.grown hT5.grown ⟨by omega, by omega, by omega⟩
    · exact (OnlyBook.of_below HB2.out).grown hT5.grown (by omega)

end Go.Proofs.Ytedhgfblgechhaa
