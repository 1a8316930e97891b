/- Parts of the proof, in one text: VaultA, VaultB, VaultC, VaultD. -/
import Derived.Test.YtcpngeiahgoacaaGreatZ8
import Derived.Test.YtcpngeiahgoacaaGreatZ11
import Derived.BigRegion

/- A vault in memory; contracts of none, num, slices.Clone. -/
namespace Go.Proofs.YtcpngeiahgoacaaGreat
set_option linter.unusedVariables false
open Go.RowKit Go.Maps

/-- bytes that read as a list, far from what turns -/
structure Far (w : World) (N : Nat → Prop) (A : Option Addr) (c : Nat) (xs : List UInt8) : Prop where
  rd : Reads w w.heap.size 1 A xs.length (xs.map vb)
  cap : xs.length ≤ c ∧ c ≤ maxLen
  far : ∀ a, 0 < xs.length → A = some a → ¬ N a.block
structure FarN (w : World) (N : Nat → Prop) (A : Option Addr) (c : Nat) (xs : List Int) : Prop where
  rd : Reads w w.heap.size 1 A xs.length (xs.map vn)
  cap : xs.length ≤ c ∧ c ≤ maxLen
  far : ∀ a, 0 < xs.length → A = some a → ¬ N a.block
theorem Far.only {w w' : World} {N : Nat → Prop} {A : Option Addr} {c : Nat} {xs : List UInt8} (h : Far w N A c xs) {M : Nat → Prop} (ho : Only M w w') (hM : ∀ b, M b → N b) : Far w' N A c xs :=
  ⟨ho.reads h.rd (fun a h0 ha hm => h.far a h0 ha (hM _ hm)), h.cap, h.far⟩
theorem FarN.only {w w' : World} {N : Nat → Prop} {A : Option Addr} {c : Nat} {xs : List Int} (h : FarN w N A c xs) {M : Nat → Prop} (ho : Only M w w') (hM : ∀ b, M b → N b) : FarN w' N A c xs :=
  ⟨ho.reads h.rd (fun a h0 ha hm => h.far a h0 ha (hM _ hm)), h.cap, h.far⟩
theorem Far.mono {w : World} {N N' : Nat → Prop} {A : Option Addr} {c : Nat} {xs : List UInt8} (h : Far w N A c xs) (hN : ∀ b, b < w.heap.size → N' b → N b) : Far w N' A c xs :=
  ⟨h.rd, h.cap, fun a h0 ha hm => h.far a h0 ha (hN _ (by obtain ⟨ad, e, hb, _⟩ := h.rd.2 h0; rw [ha] at e; injection e with e; rw [e]; exact hb) hm)⟩
theorem FarN.mono {w : World} {N N' : Nat → Prop} {A : Option Addr} {c : Nat} {xs : List Int} (h : FarN w N A c xs) (hN : ∀ b, b < w.heap.size → N' b → N b) : FarN w N' A c xs :=
  ⟨h.rd, h.cap, fun a h0 ha hm => h.far a h0 ha (hN _ (by obtain ⟨ad, e, hb, _⟩ := h.rd.2 h0; rw [ha] at e; injection e with e; rw [e]; exact hb) hm)⟩
theorem Far.nil (w : World) (N : Nat → Prop) : Far w N none 0 [] := ⟨Reads.none_, by simp, fun a h => by simp at h⟩
theorem FarN.nil (w : World) (N : Nat → Prop) : FarN w N none 0 [] := ⟨Reads.none_, by simp, fun a h => by simp at h⟩
theorem Far.below {w w' : World} {N : Nat → Prop} {A : Option Addr} {c : Nat} {xs : List UInt8} (h : Far w N A c xs) (hb : Below w.heap.size w w') : Far w' N A c xs := ⟨(h.rd.below hb).more hb.size, h.cap, h.far⟩
theorem FarN.below {w w' : World} {N : Nat → Prop} {A : Option Addr} {c : Nat} {xs : List Int} (h : FarN w N A c xs) (hb : Below w.heap.size w w') : FarN w' N A c xs := ⟨(h.rd.below hb).more hb.size, h.cap, h.far⟩
/-- fresh memory is far from what there was -/
theorem Far.of_own {w0 w : World} {N : Nat → Prop} {v : Value} {xs : List UInt8} {B : Nat} (h : OwnB w B v xs) (hN : ∀ b, N b → b < B) : ∃ A c, v = .slice A xs.length c ∧ Far w N A c xs := by
  obtain ⟨A, c, hv, h1, h2, h3, h4⟩ := own_slice_b h
  exact ⟨A, c, hv, h3, ⟨h1, h2⟩, fun a h0 ha hn => by have := h4 a ha; have := hN _ hn; omega⟩
theorem FarN.of_own {w0 w : World} {N : Nat → Prop} {v : Value} {xs : List Int} {B : Nat} (h : OwnN w B v xs) (hN : ∀ b, N b → b < B) : ∃ A c, v = .slice A xs.length c ∧ FarN w N A c xs := by
  obtain ⟨A, c, hv, h1, h2, h3, h4⟩ := own_slice_n h
  exact ⟨A, c, hv, h3, ⟨h1, h2⟩, fun a h0 ha hn => by have := h4 a ha; have := hN _ hn; omega⟩

theorem run_eql_slice_nil_own {P : Program} (t e : TypeId) (a : Option Addr) (n c : Nat) (h : P.underlying t = some (.slice e)) (W : World) :
    (binOp .eql t (.slice a n c) (.slice none 0 0)).run P W = .ok (.bool a.isNone) W := by
  simp only [binOp]
  simp [Op.equal, Op.maxDepth, Lib.run_equalIn_slice_nil W 9999 t e a n c 0 0 h]

set_option maxRecDepth 100000 in
set_option maxHeartbeats 1000000 in
theorem cloneB_any (A : Option Addr) (n c : Nat) (xs : List UInt8) (w : World) (B : Nat) (h : Reads w B 1 A n (xs.map vb)) (hB : B ≤ w.heap.size) (hn : n ≤ 1000000) :
    Calls Tryz.prog 63 #[.slice A n c] w fun e w' => ∃ v, e = .returned v ∧ OwnB w' w.heap.size v xs ∧ Below w.heap.size w w' := by
  have hxn : xs.length = n := by have := h.1; simpa using this
  obtain ⟨i0, hi0, hz0, hz1, hz2⟩ := info_parts u8_info
  cases A with
  | none =>
    have hn0 : n = 0 := by
      rcases Nat.eq_zero_or_pos n with e | e
      · exact e
      · obtain ⟨ad, he, _⟩ := h.2 e; cases he
    subst hn0
    have hx : xs = [] := List.eq_nil_of_length_eq_zero hxn
    subst hx
    have hnl := run_eql_slice_nil_own (P := Tryz.prog) 22 5 none 0 c Tryz.underlying22
    go_enter Tryz.func63, Tryz.ntmps63
    go_wp2
    go_ret
    exact ⟨_, rfl, OwnB.nil _ _, Below.refl _ _⟩
  | some ad =>
    have hw0 := World.ownsRow_lit (base := w.heap.size) (e := 5) (size := 1) w #[] 0 (Nat.le_refl _) (by omega) rfl
    have HW0 := Lib.hid hw0
    have HR := Lib.hid (h.alloc hB (.cells #[] 5))
    have HXN := Lib.hid hxn
    clear h hw0 hxn
    have hnl := run_eql_slice_nil_own (P := Tryz.prog) 22 5 (some ad) n c Tryz.underlying22
    go_enter Tryz.func63, Tryz.ntmps63
    go_wp2_with (at_builtin; go_must (refine wpList_append_any _ rfl (.tmp 5) (.tmp 6) 22 rfl w.heap.size 5 i0 _ 1 1 Tryz.underlying22 hi0 hz0 hz1 hz2 rfl (by omega) _ 0 _ rfl HW0.out B (some ad) n c (xs.map vb) rfl HR.out (by intro u hu; first | rfl | (obtain ⟨y, _, rfl⟩ := List.mem_map.1 hu; rfl)) (by unfold maxLen; omega) (by omega) (by simp) ?_))
    intro v2 w2 hown2 hg2 hor2
    have hb2 : Below w.heap.size w w2 := grown_below ((Below.refl _ _).alloc (Nat.le_refl _) _) (by simp) hg2 (fun b hb => by
      have : b = w.heap.size := by simpa [Value.ownBlock] using hb.symm
      omega)
    have hob : OwnB w2 w.heap.size v2 xs := by
      unfold OwnB
      rw [HXN.out]
      simpa using hown2
    have HOB := Lib.hid hob
    have HB2 := Lib.hid hb2
    clear hown2 hg2 hor2 hb2 hob
    go_wp2_with fail
    go_ret
    exact ⟨_, rfl, HOB.out, HB2.out⟩

set_option maxRecDepth 100000 in
set_option maxHeartbeats 1000000 in
theorem cloneN_any (A : Option Addr) (n c : Nat) (xs : List Int) (w : World) (B : Nat) (h : Reads w B 1 A n (xs.map vn)) (hB : B ≤ w.heap.size) (hn : n ≤ 1000000) :
    Calls Tryz.prog 86 #[.slice A n c] w fun e w' => ∃ v, e = .returned v ∧ OwnN w' w.heap.size v xs ∧ Below w.heap.size w w' := by
  have hxn : xs.length = n := by have := h.1; simpa using this
  obtain ⟨i0, hi0, hz0, hz1, hz2⟩ := info_parts ci_info
  cases A with
  | none =>
    have hn0 : n = 0 := by
      rcases Nat.eq_zero_or_pos n with e | e
      · exact e
      · obtain ⟨ad, he, _⟩ := h.2 e; cases he
    subst hn0
    have hx : xs = [] := List.eq_nil_of_length_eq_zero hxn
    subst hx
    have hnl := run_eql_slice_nil_own (P := Tryz.prog) 42 3 none 0 c Tryz.underlying42
    go_enter Tryz.func86, Tryz.ntmps86
    go_wp2
    go_ret
    exact ⟨_, rfl, ⟨by simp, .inl ⟨rfl, by simp⟩⟩, Below.refl _ _⟩
  | some ad =>
    have hw0 := World.ownsRow_lit (base := w.heap.size) (e := 3) (size := 1) w #[] 0 (Nat.le_refl _) (by omega) rfl
    have HW0 := Lib.hid hw0
    have HR := Lib.hid (h.alloc hB (.cells #[] 3))
    have HXN := Lib.hid hxn
    clear h hw0 hxn
    have hnl := run_eql_slice_nil_own (P := Tryz.prog) 42 3 (some ad) n c Tryz.underlying42
    go_enter Tryz.func86, Tryz.ntmps86
    go_wp2_with (at_builtin; go_must (refine wpList_append_any _ rfl (.tmp 5) (.tmp 6) 42 rfl w.heap.size 3 i0 _ 1 8 Tryz.underlying42 hi0 hz0 hz1 hz2 rfl (by omega) _ 0 _ rfl HW0.out B (some ad) n c (xs.map vn) rfl HR.out (by intro u hu; first | rfl | (obtain ⟨y, _, rfl⟩ := List.mem_map.1 hu; rfl)) (by unfold maxLen; omega) (by omega) (by simp) ?_))
    intro v2 w2 hown2 hg2 hor2
    have hb2 : Below w.heap.size w w2 := grown_below ((Below.refl _ _).alloc (Nat.le_refl _) _) (by simp) hg2 (fun b hb => by
      have : b = w.heap.size := by simpa [Value.ownBlock] using hb.symm
      omega)
    have hob : OwnN w2 w.heap.size v2 xs := by
      unfold OwnN
      rw [HXN.out]
      simpa using hown2
    have HOB := Lib.hid hob
    have HB2 := Lib.hid hb2
    clear hown2 hg2 hor2 hb2 hob
    go_wp2_with fail
    go_ret
    exact ⟨_, rfl, HOB.out, HB2.out⟩

set_option maxRecDepth 100000 in
theorem vnum_any (n : Nat) (w : World) (hn : n ≤ maxN) :
    Calls Tryz.prog 129 #[.int .i64 (n : Int)] w fun e w' => ∃ v, e = .returned v ∧ OwnB w' w.heap.size v (numB n) ∧ Below w.heap.size w w' := by
  have HN := Lib.hid (binNum_any n hn w)
  go_enter Tryz.func129, Tryz.ntmps129
  go_wp2_with fail
  refine HN.out.mono ?_
  rintro _ w2 ⟨v, rfl, ho, hb⟩
  have HO := Lib.hid ho
  have HB := Lib.hid hb
  clear ho hb
  go_wp2_with fail
  go_ret
  exact ⟨_, rfl, HO.out, HB.out⟩

structure VLoc where
  g : Nat
  T : TreeLoc
  k : Book
/-- what a vault's calls may turn -/
def VLoc.has (V : VLoc) (b : Nat) : Prop := b = V.g ∨ V.T.mut b ∨ V.k.has b
structure VSl where
  bA : Nat → Option Addr
  bC : Nat → Nat
  lA : Nat → Option Addr
  lC : Nat → Nat
  sA : Option Addr
  sC : Nat
def vF (t : Option Addr) (m : VM) (S : VSl) (j : Nat) : Value :=
  if j = 0 then .pointer t else if j = 1 then .int .i64 (m.group : Int) else if j = 2 then .int .i64 (m.epoch : Int)
  else if j < 11 then .slice (S.bA (j - 3)) (blockV m (j - 3)).length (S.bC (j - 3))
  else if j < 19 then (if j % 2 = 1 then .int .i64 ((lastV m ((j - 11) / 2)).1 : Int) else .slice (S.lA ((j - 11) / 2)) (lastV m ((j - 11) / 2)).2.length (S.lC ((j - 11) / 2)))
  else .slice S.sA m.shut.length S.sC
def vC (t : Option Addr) (m : VM) (S : VSl) : Array Value := rng 20 (vF t m S)
theorem vC_size (t : Option Addr) (m : VM) (S : VSl) : (vC t m S).size = 20 := rng_size _ _
theorem vC_at (t : Option Addr) (m : VM) (S : VSl) (j : Nat) (h : j < 20) : (vC t m S)[j]? = some (vF t m S j) := rng_get _ _ _ h
theorem vC_block (t : Option Addr) (m : VM) (S : VSl) (i : Nat) (h : i < 8) : (vC t m S)[3 + i]? = some (.slice (S.bA i) (blockV m i).length (S.bC i)) := by
  rw [vC_at _ _ _ _ (by omega)]
  unfold vF
  rw [if_neg (by omega), if_neg (by omega), if_neg (by omega), if_pos (by omega), show 3 + i - 3 = i by omega]
theorem vC_stamp (t : Option Addr) (m : VM) (S : VSl) (i : Nat) (h : i < 4) : (vC t m S)[11 + i * 2]? = some (.int .i64 ((lastV m i).1 : Int)) := by
  rw [vC_at _ _ _ _ (by omega)]
  unfold vF
  rw [if_neg (by omega), if_neg (by omega), if_neg (by omega), if_neg (by omega), if_pos (by omega), if_pos (by omega), show (11 + i * 2 - 11) / 2 = i by omega]
theorem vC_data (t : Option Addr) (m : VM) (S : VSl) (i : Nat) (h : i < 4) : (vC t m S)[11 + i * 2 + 1]? = some (.slice (S.lA i) (lastV m i).2.length (S.lC i)) := by
  rw [vC_at _ _ _ _ (by omega)]
  unfold vF
  rw [if_neg (by omega), if_neg (by omega), if_neg (by omega), if_neg (by omega), if_pos (by omega), if_neg (by omega), show (11 + i * 2 + 1 - 11) / 2 = i by omega]
theorem vC_shut (t : Option Addr) (m : VM) (S : VSl) : (vC t m S)[19]? = some (.slice S.sA m.shut.length S.sC) := by
  rw [vC_at _ _ _ _ (by omega)]; rfl
theorem vC_tree (t : Option Addr) (m : VM) (S : VSl) : (vC t m S)[0]? = some (.pointer t) := by
  rw [vC_at _ _ _ _ (by omega)]; rfl
theorem vC_group (t : Option Addr) (m : VM) (S : VSl) : (vC t m S)[1]? = some (.int .i64 (m.group : Int)) := by
  rw [vC_at _ _ _ _ (by omega)]; rfl
theorem vC_epoch (t : Option Addr) (m : VM) (S : VSl) : (vC t m S)[2]? = some (.int .i64 (m.epoch : Int)) := by
  rw [vC_at _ _ _ _ (by omega)]; rfl
/-- a vault's fields -/
structure VDat (w : World) (g : Nat) (t : Option Addr) (N : Nat → Prop) (m : VM) (S : VSl) : Prop where
  blk : Blk w g 73 (vC t m S)
  block : ∀ i, i < 8 → Far w N (S.bA i) (S.bC i) (blockV m i)
  last : ∀ i, i < 4 → Far w N (S.lA i) (S.lC i) (lastV m i).2
  shut : FarN w N S.sA S.sC m.shut
  ok : VOk m
theorem VDat.only {w w' : World} {g : Nat} {t : Option Addr} {N M : Nat → Prop} {m : VM} {S : VSl} (h : VDat w g t N m S) (ho : Only M w w') (hM : ∀ b, M b → N b) (hg : ¬ M g) : VDat w' g t N m S :=
  ⟨ho.blk h.blk hg, fun i hi => (h.block i hi).only ho hM, fun i hi => (h.last i hi).only ho hM, h.shut.only ho hM, h.ok⟩
theorem VDat.below {w w' : World} {g : Nat} {t : Option Addr} {N : Nat → Prop} {m : VM} {S : VSl} (h : VDat w g t N m S) (hb : Below w.heap.size w w') : VDat w' g t N m S :=
  h.only (M := fun _ => False) (Only.of_below hb) (fun _ h => h.elim) (fun h => h)
theorem VDat.mono {w : World} {g : Nat} {t : Option Addr} {N N' : Nat → Prop} {m : VM} {S : VSl} (h : VDat w g t N m S) (hN : ∀ b, b < w.heap.size → N' b → N b) : VDat w g t N' m S :=
  ⟨h.blk, fun i hi => (h.block i hi).mono hN, fun i hi => (h.last i hi).mono hN, h.shut.mono hN, h.ok⟩
/-- a vault, its tree, its book -/
structure VAt (w : World) (V : VLoc) (N : Nat → Prop) (m : VM) : Prop where
  dat : ∃ S, VDat w V.g (some ⟨V.T.t, 0, none⟩) N m S
  tree : TreeAt w V.T V.k (leavesV m)
  far : ¬ V.T.has V.g ∧ ¬ V.k.has V.g
  all : ∀ b, V.has b → N b
end Go.Proofs.YtcpngeiahgoacaaGreat

/- Contracts of (*Vault).none and of what a vault's leaves say. -/
namespace Go.Proofs.YtcpngeiahgoacaaGreat
set_option linter.unusedVariables false
open Go.RowKit Go.Maps

set_option maxRecDepth 100000 in
theorem vNone_any (w : World) (g t : Nat) (h : w.cell? ⟨g, 0, none⟩ = some (.pointer (some ⟨t, 0, none⟩))) :
    Calls Tryz.prog 76 #[.pointer (some ⟨g, 0, none⟩)] w fun e w' => e = .returned (.bool false) ∧ w = w' := by
  go_enter Tryz.func76, Tryz.ntmps76
  go_wp2
  go_ret
  exact ⟨rfl, rfl⟩

def lastC (S : VSl) (m : VM) (j : Nat) : Array Value := #[.int .i64 ((lastV m j).1 : Int), .slice (S.lA j) (lastV m j).2.length (S.lC j)]
theorem VDat.cBlock {w : World} {g : Nat} {t : Option Addr} {N : Nat → Prop} {m : VM} {S : VSl} (h : VDat w g t N m S) (i : Nat) (hi : i < 8) : w.cell? ⟨g, 3 + i, none⟩ = some (.slice (S.bA i) (blockV m i).length (S.bC i)) := (h.blk.cell _).trans (vC_block _ _ _ i hi)
theorem VDat.cShut {w : World} {g : Nat} {t : Option Addr} {N : Nat → Prop} {m : VM} {S : VSl} (h : VDat w g t N m S) : w.cell? ⟨g, 19, none⟩ = some (.slice S.sA m.shut.length S.sC) := (h.blk.cell _).trans (vC_shut _ _ _)
theorem VDat.cGroup {w : World} {g : Nat} {t : Option Addr} {N : Nat → Prop} {m : VM} {S : VSl} (h : VDat w g t N m S) : w.cell? ⟨g, 1, none⟩ = some (.int .i64 (m.group : Int)) := (h.blk.cell _).trans (vC_group _ _ _)
theorem VDat.cEpoch {w : World} {g : Nat} {t : Option Addr} {N : Nat → Prop} {m : VM} {S : VSl} (h : VDat w g t N m S) : w.cell? ⟨g, 2, none⟩ = some (.int .i64 (m.epoch : Int)) := (h.blk.cell _).trans (vC_epoch _ _ _)
theorem VDat.cTree {w : World} {g : Nat} {t : Option Addr} {N : Nat → Prop} {m : VM} {S : VSl} (h : VDat w g t N m S) : w.cell? ⟨g, 0, none⟩ = some (.pointer t) := (h.blk.cell _).trans (vC_tree _ _ _)
theorem VDat.cLast {w : World} {g : Nat} {t : Option Addr} {N : Nat → Prop} {m : VM} {S : VSl} (h : VDat w g t N m S) (j : Nat) (hj : j < 4) : ∀ i, i < 2 → (vC t m S)[11 + j * 2 + i]? = (lastC S m j)[i]? := fun i hi => by
  obtain rfl | rfl : i = 0 ∨ i = 1 := by omega
  · exact vC_stamp _ _ _ j hj
  · exact vC_data _ _ _ j hj

set_option maxRecDepth 100000 in
set_option maxHeartbeats 2000000 in
/-- a block's leaf -/
theorem vleaf2_any (w : World) (g b2 b3 i : Nat) (t : Option Addr) (N : Nat → Prop) (m : VM) (S : VSl) (h : VDat w g t N m S) (hi : i < 8) (h2 : w.cell? ⟨b2, 0, none⟩ = some (.pointer (some ⟨g, 0, none⟩))) (h3 : w.cell? ⟨b3, 0, none⟩ = some (.int .i64 (i : Int))) :
    Calls Tryz.prog 130 #[.pointer (some ⟨b2, 0, none⟩), .pointer (some ⟨b3, 0, none⟩)] w fun e w' => ∃ v, e = .returned v ∧ OwnB w' w.heap.size v (blockV m i) ∧ Below w.heap.size w w' := by
  have l2 := World.block_lt_of_cell? _ _ h2
  have l3 := World.block_lt_of_cell? _ _ h3
  have hbl := h.ok.blk hi
  have hiI : (i : Int) < 8 := by omega
  have lg := h.blk.lt
  have cb := h.cBlock i hi
  have hf := h.block i hi
  have H2 := Lib.hid (fun (W : World) (hb : Below w.heap.size w W) => (hb.cell l2).trans h2)
  have H3 := Lib.hid (fun (W : World) (hb : Below w.heap.size w W) => (hb.cell l3).trans h3)
  have HB := Lib.hid (fun (W : World) (hb : Below w.heap.size w W) => (hb.cell (p := ⟨g, 3 + i, none⟩) lg).trans cb)
  have HC := Lib.hid (fun (W : World) (hb : Below w.heap.size w W) => cloneB_any (S.bA i) (blockV m i).length (S.bC i) (blockV m i) W W.heap.size (hf.below hb).rd (Nat.le_refl _) (by omega))
  clear h h2 h3 cb hf
  go_enter Tryz.func130, Tryz.ntmps130
  go_upto_region 1 with fail
  refine wp_region_rel' 8 11 (fun jx W v => match jx with
    | 0 => v = .pointer (some ⟨g, 0, none⟩)
    | 1 => v = .int .i64 (i : Int)
    | 2 => v = .int .i64 (i : Int)
    | 3 => v = .pointer (some ⟨g, 0, none⟩)
    | 4 => v = .pointer (some ⟨g, 3, none⟩)
    | 5 => v = .pointer (some ⟨g, 3 + i, none⟩)
    | 6 => v = .slice (S.bA i) (blockV m i).length (S.bC i)
    | _ => OwnB W w.heap.size v (blockV m i)) [3, 4, 5, 6, 7, 8, 9, 10] (by kernel_rfl) (by kernel_rfl) (by kernel_rfl) (by simp) (by kernel_rfl) (fun jx => ?last) ?heads ?_
  case last =>
    match jx with
    | 0 | 1 | 2 | 3 | 4 | 5 | 6 => exact Lasts.pure _
    | jx + 7 => exact lasts_own _ _
  case heads =>
    simp only [List.take_succ_cons, List.take_zero]
    refine ⟨fun a W hb hkp hd => ?_, fun a W hb hkp hd => ?_, fun a W hb hkp hd => ?_, fun a W hb hkp hd => ?_, fun a W hb hkp hd => ?_, fun a W hb hkp hd => ?_, fun a W hb hkp hd => ?_, fun a W hb hkp hd => ?_, trivial⟩
    · have e0 : a.tmps[0]?.getD undef = .pointer (some ⟨b2, 0, none⟩) := hkp.get (by kernel_rfl) rfl
      have cc := H2.out W hb
      exact rel_value rfl (.pointer (some ⟨g, 0, none⟩)) (by go_simp) rfl
    · have e0 : a.tmps[1]?.getD undef = .pointer (some ⟨b3, 0, none⟩) := hkp.get (by kernel_rfl) rfl
      have cc := H3.out W hb
      exact rel_value rfl (.int .i64 (i : Int)) (by go_simp) rfl
    · have e0 : a.tmps[4]?.getD undef = .int .i64 (i : Int) := (hd 1 (by kernel_rfl)).get 4 rfl rfl
      exact rel_value rfl (.int .i64 (i : Int)) (by go_simp; rw [IntKind.wrap_i64]; omega) rfl
    · have e0 : a.tmps[3]?.getD undef = .pointer (some ⟨g, 0, none⟩) := (hd 0 (by kernel_rfl)).get 3 rfl rfl
      exact rel_value rfl (.pointer (some ⟨g, 0, none⟩)) (by go_simp) rfl
    · have e0 : a.tmps[6]?.getD undef = .pointer (some ⟨g, 0, none⟩) := (hd 3 (by kernel_rfl)).get 6 rfl rfl
      exact rel_value rfl (.pointer (some ⟨g, 3, none⟩)) (by go_simp) rfl
    · have e0 : a.tmps[7]?.getD undef = .pointer (some ⟨g, 3, none⟩) := (hd 4 (by kernel_rfl)).get 7 rfl rfl
      have e1 : a.tmps[5]?.getD undef = .int .i64 (i : Int) := (hd 2 (by kernel_rfl)).get 5 rfl rfl
      exact rel_value rfl (.pointer (some ⟨g, 3 + i, none⟩)) (by go_simp) rfl
    · have e0 : a.tmps[8]?.getD undef = .pointer (some ⟨g, 3 + i, none⟩) := (hd 5 (by kernel_rfl)).get 8 rfl rfl
      have cc := HB.out W hb
      exact rel_value rfl (.slice (S.bA i) (blockV m i).length (S.bC i)) (by go_simp) rfl
    · have e0 : a.tmps[9]?.getD undef = .slice (S.bA i) (blockV m i).length (S.bC i) := (hd 6 (by kernel_rfl)).get 9 rfl rfl
      refine rel_call rfl 63 #[.slice (S.bA i) (blockV m i).length (S.bC i)] (by go_simp) ((HC.out W hb).mono ?_)
      rintro e w' ⟨v, rfl, ho, hb'⟩
      exact ⟨v, rfl, hb', ho.more hb.size⟩
  intro f W hb hd
  have h10 : OwnB W w.heap.size (f 10) (blockV m i) := hd 7 (by omega) _ 10 rfl rfl
  have HO := Lib.hid h10
  have HBW := Lib.hid hb
  simp only [putAll, List.drop_succ_cons, List.drop_zero]
  clear hd h10 hb
  try simp only [Act.put, List.setIfInBounds_toArray, List.set_cons_zero, List.set_cons_succ]
  go_wp2_with fail
  go_ret
  exact ⟨_, rfl, HO.out, HBW.out⟩

set_option maxRecDepth 100000 in
set_option maxHeartbeats 2000000 in
/-- a client's leaf -/
theorem vleaf3_any (w : World) (g b2 b3 j : Nat) (t : Option Addr) (N : Nat → Prop) (m : VM) (S : VSl) (h : VDat w g t N m S) (hj : j < 4) (h2 : w.cell? ⟨b2, 0, none⟩ = some (.pointer (some ⟨g, 0, none⟩))) (h3 : w.cell? ⟨b3, 0, none⟩ = some (.int .i64 ((8 + j : Nat) : Int))) :
    Calls Tryz.prog 131 #[.pointer (some ⟨b2, 0, none⟩), .pointer (some ⟨b3, 0, none⟩)] w fun e w' => ∃ v, e = .returned v ∧ OwnB w' w.heap.size v (lastB (lastV m j)) ∧ Below w.heap.size w w' := by
  have l2 := World.block_lt_of_cell? _ _ h2
  have l3 := World.block_lt_of_cell? _ _ h3
  have hls := h.ok.lst hj
  have hjI : (j : Int) < 4 := by omega
  have hjI8 : (8 : Int) + (j : Int) - 8 = (j : Int) := by omega
  have hll : (lastV m j).2.length ≤ 16 := by
    rcases hls.2 with e | e
    · rw [e]; simp
    · rw [e.1]; omega
  have hst := hls.1
  have lg := h.blk.lt
  have hf := h.last j hj
  have hlc := h.cLast j hj
  have hsz : (lastC S m j).size = 2 := rfl
  have hon : (lastC S m j).all (·.oneCell') = true := by simp [lastC, Value.oneCell']
  have e0 : lastC S m j = #[.int .i64 ((lastV m j).1 : Int), .slice (S.lA j) (lastV m j).2.length (S.lC j)] := rfl
  generalize lastV m j = x at hst hll hf e0 ⊢
  obtain ⟨st, dt⟩ := x
  simp only at hst hll hf e0
  generalize lastC S m j = D at hlc hsz hon e0
  have H2 := Lib.hid (fun (W : World) (hb : Below w.heap.size w W) => (hb.cell l2).trans h2)
  have H3 := Lib.hid (fun (W : World) (hb : Below w.heap.size w W) => (hb.cell l3).trans h3)
  have HB := Lib.hid (fun (W : World) (hb : Below w.heap.size w W) => h.blk.below' hb)
  have HF := Lib.hid (fun (W : World) (hb : Below w.heap.size w W) => hf.below hb)
  have HLC := Lib.hid hlc
  have HSZ := Lib.hid hsz
  have HON := Lib.hid hon
  have HE := Lib.hid e0
  clear h h2 h3 hf hlc hls hsz hon e0
  go_enter Tryz.func131, Tryz.ntmps131
  go_upto_region 1 with fail
  refine wp_region_rel' 8 25 (fun jx W v => match jx with
    | 0 => v = .pointer (some ⟨g, 0, none⟩)
    | 1 => v = .int .i64 ((8 + j : Nat) : Int)
    | 2 => v = .int .i64 (j : Int)
    | 3 => v = .pointer (some ⟨g, 0, none⟩)
    | 4 => v = .pointer (some ⟨g, 11, none⟩)
    | 5 => v = .pointer (some ⟨g, 11 + j * 2, none⟩)
    | 6 => v = .agg D
    | _ => ∃ g3, v = .pointer (some ⟨g3, 0, none⟩) ∧ w.heap.size ≤ g3 ∧ Blk W g3 70 #[.int .i64 0, .slice none 0 0]) [6, 7, 8, 9, 10, 11, 12, 3] (by kernel_rfl) (by kernel_rfl) (by kernel_rfl) (by simp) (by kernel_rfl) (fun jx => ?last) ?heads ?_
  case last =>
    match jx with
    | 0 | 1 | 2 | 3 | 4 | 5 | 6 => exact Lasts.pure _
    | jx + 7 => exact fun W W' v ⟨g3, h1, h2, h3⟩ hb => ⟨g3, h1, h2, h3.below' hb⟩
  case heads =>
    simp only [List.take_succ_cons, List.take_zero]
    refine ⟨fun a W hb hkp hd => ?_, fun a W hb hkp hd => ?_, fun a W hb hkp hd => ?_, fun a W hb hkp hd => ?_, fun a W hb hkp hd => ?_, fun a W hb hkp hd => ?_, fun a W hb hkp hd => ?_, fun a W hb hkp hd => ?_, trivial⟩
    · have e0 : a.tmps[0]?.getD undef = .pointer (some ⟨b2, 0, none⟩) := hkp.get (by kernel_rfl) rfl
      have cc := H2.out W hb
      exact rel_value rfl (.pointer (some ⟨g, 0, none⟩)) (by go_simp) rfl
    · have e0 : a.tmps[1]?.getD undef = .pointer (some ⟨b3, 0, none⟩) := hkp.get (by kernel_rfl) rfl
      have cc := H3.out W hb
      exact rel_value rfl (.int .i64 ((8 + j : Nat) : Int)) (by go_simp) rfl
    · have e0 : a.tmps[7]?.getD undef = .int .i64 ((8 + j : Nat) : Int) := (hd 1 (by kernel_rfl)).get 7 rfl rfl
      exact rel_value rfl (.int .i64 (j : Int)) (by go_simp; rw [IntKind.wrap_i64]; omega) rfl
    · have e0 : a.tmps[6]?.getD undef = .pointer (some ⟨g, 0, none⟩) := (hd 0 (by kernel_rfl)).get 6 rfl rfl
      exact rel_value rfl (.pointer (some ⟨g, 0, none⟩)) (by go_simp) rfl
    · have e0 : a.tmps[9]?.getD undef = .pointer (some ⟨g, 0, none⟩) := (hd 3 (by kernel_rfl)).get 9 rfl rfl
      exact rel_value rfl (.pointer (some ⟨g, 11, none⟩)) (by go_simp) rfl
    · have e0 : a.tmps[10]?.getD undef = .pointer (some ⟨g, 11, none⟩) := (hd 4 (by kernel_rfl)).get 10 rfl rfl
      have e1 : a.tmps[8]?.getD undef = .int .i64 (j : Int) := (hd 2 (by kernel_rfl)).get 8 rfl rfl
      exact rel_value rfl (.pointer (some ⟨g, 11 + j * 2, none⟩)) (by go_simp) rfl
    · have e0 : a.eval (.tmp 11) = .pointer (some ⟨g, 11 + j * 2, none⟩) := (hd 5 (by kernel_rfl)) _ 11 rfl rfl
      exact rel_value rfl (.agg D) (exec_load_part 70 (.tmp 11) rfl g (11 + j * 2) 2 e0 73 _ D _ (HB.out W hb) Tryz.underlying70 rfl rfl HSZ.out HLC.out) rfl
    · refine rel_exec rfl (.pointer (some ⟨W.heap.size, 0, none⟩)) (W.alloc (.cells #[.int .i64 0, .slice none 0 0] 70)) (by go_simp) ((Below.refl _ _).alloc (Nat.le_refl _) _) ⟨W.heap.size, rfl, hb.size, Blk.new W _ _⟩
  intro f W hb hd
  have h12 : f 12 = .agg D := hd 6 (by omega) _ 12 rfl rfl
  obtain ⟨g3, h3, hg3, hB3⟩ : ∃ g3, f 3 = .pointer (some ⟨g3, 0, none⟩) ∧ w.heap.size ≤ g3 ∧ Blk W g3 70 #[.int .i64 0, .slice none 0 0] := hd 7 (by omega) _ 3 rfl rfl
  have HB3 := Lib.hid hB3
  have HBW := Lib.hid hb
  have hgl := hB3.lt
  simp only [putAll, List.drop_succ_cons, List.drop_zero, h12, h3]
  clear hd hB3 hb
  try simp only [Act.put, List.setIfInBounds_toArray, List.set_cons_zero, List.set_cons_succ]
  go_upto_region 2 with (refine wpList_store_part (o := ⟨none, _, _, _, _, _⟩) rfl 70 (.tmp 3) (.tmp 12) rfl g3 0 D rfl rfl 70 _ HB3.out (by rw [HSZ.out]; rfl) (by rw [HSZ.out]; simp) HON.out ?_; intro w5 hT5 hD5; rw [spl_self _ _ (by rw [HSZ.out]; rfl)] at hD5)
  have hb5 : Below w.heap.size w w5 := hT5.below HBW.out hg3
  rw [HE.out] at hD5
  have c0 : w5.cell? ⟨g3, 0, none⟩ = some (.int .i64 (st : Int)) := (hD5.cell 0).trans rfl
  have c1 : w5.cell? ⟨g3, 1, none⟩ = some (.slice (S.lA j) dt.length (S.lC j)) := (hD5.cell 1).trans rfl
  have hF5 := HF.out w5 hb5
  have HB5 := Lib.hid hb5
  have HD5 := Lib.hid hD5
  have hs5 := hb5.size
  have HS := Lib.hid (str_any (S.lA j) dt.length (S.lC j) dt w5 w5.heap.size hF5.rd (Nat.le_refl _) (by omega))
  clear hT5 hD5 hF5 hb5 HB3 HBW HF HB
  go_wp2_with fail
  refine HS.out.mono ?_
  rintro _ w6 ⟨v, rfl, ho6, hb6⟩
  obtain ⟨A6, k6, rfl, q1, q2, r6, q3⟩ := own_slice_b ho6
  have HB6 := Lib.hid (HB5.out.trans (hb6.mono hs5))
  have HR6 := Lib.hid r6
  have hs6 := hb6.size
  have c06 : w6.cell? ⟨g3, 0, none⟩ = some (.int .i64 (st : Int)) := ((HD5.out.below' hb6).cell 0).trans rfl
  have HN := Lib.hid (vnum_any st w6 hst)
  clear ho6 hb6 r6 c0 c1 HS HD5
  go_wp2_with fail
  refine HN.out.mono ?_
  rintro _ w7 ⟨v, rfl, ho7, hb7⟩
  obtain ⟨A7, k7, rfl, p1, p2, r7, p3⟩ := own_slice_b ho7
  have r6' := (HR6.out.below hb7).more hb7.size
  have hrow := rowsB_lit w7 22 [(A7, (numB st).length, k7, numB st), (A6, (strB dt).length, k6, strB dt)] (by
    intro p hp
    simp only [List.mem_cons, List.not_mem_nil, or_false] at hp
    rcases hp with rfl | rfl
    · exact r7
    · exact r6')
  simp only [List.map_cons, List.map_nil, List.length_cons, List.length_nil] at hrow
  have HROW := Lib.hid hrow
  have HB7 := Lib.hid (HB6.out.trans (hb7.mono (by omega)))
  have hs7 := hb7.size
  clear ho7 hb7 r7 r6' hrow c06 HN
  go_wp2_with fail
  refine (join_any _ 2 2 _ _ _ HROW.out (by simp) (by omega) ?_).mono ?_
  · have h1 := (numB_len hst).2
    have h2 := (numB_len (n := dt.length) (by unfold maxN; omega)).2
    unfold strB
    simp only [List.flatten_cons, List.flatten_nil, List.length_append, List.length_nil]
    omega
  rintro _ w8 ⟨v, rfl, ho8, hb8⟩
  have HB8 := Lib.hid ((HB7.out.trans ((below_lit w7 (.cells #[.slice A7 (numB st).length k7, .slice A6 (strB dt).length k6] 22)).mono (by omega))).trans (hb8.mono (by simp; omega)))
  have HO8 := Lib.hid (show OwnB w8 w.heap.size v (lastB (st, dt)) by
    have := ho8.more (B' := w.heap.size) (by simp; omega)
    unfold lastB
    simpa only [List.flatten_cons, List.flatten_nil, List.append_nil] using this)
  clear ho8 hb8
  go_wp2_with fail
  go_ret
  exact ⟨_, rfl, HO8.out, HB8.out⟩

end Go.Proofs.YtcpngeiahgoacaaGreat

/- Contracts of a vault's last leaf, of leaf and of set. -/
namespace Go.Proofs.YtcpngeiahgoacaaGreat
set_option linter.unusedVariables false
open Go.RowKit Go.Maps

theorem RowsB.more {w : World} {B B' n : Nat} {A : Option Addr} {xss : List (List UInt8)} (h : RowsB w B A n xss) (hB : B ≤ B') : RowsB w B' A n xss :=
  ⟨h.1, fun h0 => by
    obtain ⟨ad, h1, h2, h3⟩ := h.2 h0
    exact ⟨ad, h1, by omega, fun k x hx => by
      obtain ⟨Ak, mk, ck, q1, q2⟩ := h3 k x hx
      exact ⟨Ak, mk, ck, q1, q2.more hB⟩⟩⟩
theorem lasts_rows (n : Nat) (xss : List (List UInt8)) : Lasts fun W v => ∃ g', v = .slice (some ⟨g', 0, none⟩) n n ∧ RowsB W W.heap.size (some ⟨g', 0, none⟩) n xss := fun W W' v ⟨g', h1, h2⟩ hb => ⟨g', h1, (h2.below hb).more hb.size⟩
set_option maxRecDepth 100000 in
set_option maxHeartbeats 4000000 in
/-- the last leaf -/
theorem vleaf1_any (w : World) (g b2 : Nat) (t : Option Addr) (N : Nat → Prop) (m : VM) (S : VSl) (h : VDat w g t N m S) (h2 : w.cell? ⟨b2, 0, none⟩ = some (.pointer (some ⟨g, 0, none⟩))) :
    Calls Tryz.prog 127 #[.pointer (some ⟨b2, 0, none⟩)] w fun e w' => ∃ v, e = .returned v ∧ OwnB w' w.heap.size v (sealB m) ∧ Below w.heap.size w w' := by
  have l2 := World.block_lt_of_cell? _ _ h2
  have lg := h.blk.lt
  have hgn : m.group ≤ maxN := by have := h.ok.group; unfold maxN; omega
  have hen : m.epoch ≤ maxN := by have := h.ok.epoch; unfold maxN; omega
  have hsn := h.ok.sealNum
  have hln : m.shut.length ≤ maxN := by unfold maxN; omega
  have H2 := Lib.hid (fun (W : World) (hb : Below w.heap.size w W) => (hb.cell l2).trans h2)
  have HD := Lib.hid (fun (W : World) (hb : Below w.heap.size w W) => h.below hb)
  have HS := Lib.hid hsn
  obtain ⟨i0, hi0, hz0, hz1, hz2⟩ := info_parts u8_info
  have hl7 := hsn.2
  have hg8 := (numB_len hgn).2
  have he8 := (numB_len hen).2
  have hl8 := (numB_len hln).2
  clear h h2 hsn
  go_enter Tryz.func127, Tryz.ntmps127
  go_upto_region 1 with fail
  refine wp_region_rel' 18 38 (fun jx W v => match jx with
    | 0 => v = .pointer (some ⟨g, 0, none⟩)
    | 1 => v = .pointer (some ⟨g, 0, none⟩)
    | 2 => v = .pointer (some ⟨g, 1, none⟩)
    | 3 => v = .int .i64 (m.group : Int)
    | 4 => OwnB W w.heap.size v (numB m.group)
    | 5 => v = .pointer (some ⟨g, 0, none⟩)
    | 6 => v = .pointer (some ⟨g, 0, none⟩)
    | 7 => v = .pointer (some ⟨g, 2, none⟩)
    | 8 => v = .int .i64 (m.epoch : Int)
    | 9 => OwnB W w.heap.size v (numB m.epoch)
    | 10 => v = .pointer (some ⟨g, 0, none⟩)
    | 11 => v = .pointer (some ⟨g, 0, none⟩)
    | 12 => v = .pointer (some ⟨g, 19, none⟩)
    | 13 => v = .slice S.sA m.shut.length S.sC
    | 14 => v = .int .i64 (m.shut.length : Int)
    | 15 => OwnB W w.heap.size v (numB m.shut.length)
    | 16 => ∃ g', v = .slice (some ⟨g', 0, none⟩) 3 3 ∧ RowsB W W.heap.size (some ⟨g', 0, none⟩) 3 [numB m.group, numB m.epoch, numB m.shut.length]
    | _ => OwnB W w.heap.size v ([numB m.group, numB m.epoch, numB m.shut.length].flatten)) [5, 6, 7, 8, 9, 10, 11, 12, 13, 14, 15, 16, 17, 18, 19, 20, 21, 22] (by kernel_rfl) (by kernel_rfl) (by kernel_rfl) (by simp) (by kernel_rfl) (fun jx => ?last) ?heads ?_
  case last =>
    match jx with
    | 0 | 1 | 2 | 3 | 5 | 6 | 7 | 8 | 10 | 11 | 12 | 13 | 14 => exact Lasts.pure _
    | 4 => exact lasts_own _ _
    | 9 => exact lasts_own _ _
    | 15 => exact lasts_own _ _
    | 16 => exact lasts_rows _ _
    | jx + 17 => exact lasts_own _ _
  case heads =>
    simp only [List.take_succ_cons, List.take_zero]
    refine ⟨fun a W hb hkp hd => ?_, fun a W hb hkp hd => ?_, fun a W hb hkp hd => ?_, fun a W hb hkp hd => ?_, fun a W hb hkp hd => ?_, fun a W hb hkp hd => ?_, fun a W hb hkp hd => ?_, fun a W hb hkp hd => ?_, fun a W hb hkp hd => ?_, fun a W hb hkp hd => ?_, fun a W hb hkp hd => ?_, fun a W hb hkp hd => ?_, fun a W hb hkp hd => ?_, fun a W hb hkp hd => ?_, fun a W hb hkp hd => ?_, fun a W hb hkp hd => ?_, fun a W hb hkp hd => ?_, fun a W hb hkp hd => ?_, trivial⟩
    · have e0 : a.tmps[0]?.getD undef = .pointer (some ⟨b2, 0, none⟩) := hkp.get (by kernel_rfl) rfl
      have cc := H2.out W hb
      exact rel_value rfl (.pointer (some ⟨g, 0, none⟩)) (by go_simp) rfl
    · have e0 : a.tmps[5]?.getD undef = .pointer (some ⟨g, 0, none⟩) := (hd 0 (by kernel_rfl)).get 5 rfl rfl
      exact rel_value rfl (.pointer (some ⟨g, 0, none⟩)) (by go_simp) rfl
    · have e0 : a.tmps[6]?.getD undef = .pointer (some ⟨g, 0, none⟩) := (hd 1 (by kernel_rfl)).get 6 rfl rfl
      exact rel_value rfl (.pointer (some ⟨g, 1, none⟩)) (by go_simp) rfl
    · have e0 : a.tmps[7]?.getD undef = .pointer (some ⟨g, 1, none⟩) := (hd 2 (by kernel_rfl)).get 7 rfl rfl
      have cc := (HD.out W hb).cGroup
      exact rel_value rfl (.int .i64 (m.group : Int)) (by go_simp) rfl
    · have e0 : a.tmps[8]?.getD undef = .int .i64 (m.group : Int) := (hd 3 (by kernel_rfl)).get 8 rfl rfl
      refine rel_call rfl 129 #[.int .i64 (m.group : Int)] (by go_simp) ((vnum_any (m.group) W (by assumption)).mono ?_)
      rintro e w' ⟨v, rfl, ho, hb'⟩
      exact ⟨v, rfl, hb', ho.more hb.size⟩
    · have e0 : a.tmps[0]?.getD undef = .pointer (some ⟨b2, 0, none⟩) := hkp.get (by kernel_rfl) rfl
      have cc := H2.out W hb
      exact rel_value rfl (.pointer (some ⟨g, 0, none⟩)) (by go_simp) rfl
    · have e0 : a.tmps[10]?.getD undef = .pointer (some ⟨g, 0, none⟩) := (hd 5 (by kernel_rfl)).get 10 rfl rfl
      exact rel_value rfl (.pointer (some ⟨g, 0, none⟩)) (by go_simp) rfl
    · have e0 : a.tmps[11]?.getD undef = .pointer (some ⟨g, 0, none⟩) := (hd 6 (by kernel_rfl)).get 11 rfl rfl
      exact rel_value rfl (.pointer (some ⟨g, 2, none⟩)) (by go_simp) rfl
    · have e0 : a.tmps[12]?.getD undef = .pointer (some ⟨g, 2, none⟩) := (hd 7 (by kernel_rfl)).get 12 rfl rfl
      have cc := (HD.out W hb).cEpoch
      exact rel_value rfl (.int .i64 (m.epoch : Int)) (by go_simp) rfl
    · have e0 : a.tmps[13]?.getD undef = .int .i64 (m.epoch : Int) := (hd 8 (by kernel_rfl)).get 13 rfl rfl
      refine rel_call rfl 129 #[.int .i64 (m.epoch : Int)] (by go_simp) ((vnum_any (m.epoch) W (by assumption)).mono ?_)
      rintro e w' ⟨v, rfl, ho, hb'⟩
      exact ⟨v, rfl, hb', ho.more hb.size⟩
    · have e0 : a.tmps[0]?.getD undef = .pointer (some ⟨b2, 0, none⟩) := hkp.get (by kernel_rfl) rfl
      have cc := H2.out W hb
      exact rel_value rfl (.pointer (some ⟨g, 0, none⟩)) (by go_simp) rfl
    · have e0 : a.tmps[15]?.getD undef = .pointer (some ⟨g, 0, none⟩) := (hd 10 (by kernel_rfl)).get 15 rfl rfl
      exact rel_value rfl (.pointer (some ⟨g, 0, none⟩)) (by go_simp) rfl
    · have e0 : a.tmps[16]?.getD undef = .pointer (some ⟨g, 0, none⟩) := (hd 11 (by kernel_rfl)).get 16 rfl rfl
      exact rel_value rfl (.pointer (some ⟨g, 19, none⟩)) (by go_simp) rfl
    · have e0 : a.tmps[17]?.getD undef = .pointer (some ⟨g, 19, none⟩) := (hd 12 (by kernel_rfl)).get 17 rfl rfl
      have cc := (HD.out W hb).cShut
      exact rel_value rfl (.slice S.sA m.shut.length S.sC) (by go_simp) rfl
    · have e0 : a.tmps[18]?.getD undef = .slice S.sA m.shut.length S.sC := (hd 13 (by kernel_rfl)).get 18 rfl rfl
      exact rel_value rfl (.int .i64 (m.shut.length : Int)) (by go_simp) rfl
    · have e0 : a.tmps[19]?.getD undef = .int .i64 (m.shut.length : Int) := (hd 14 (by kernel_rfl)).get 19 rfl rfl
      refine rel_call rfl 129 #[.int .i64 (m.shut.length : Int)] (by go_simp) ((vnum_any (m.shut.length) W (by assumption)).mono ?_)
      rintro e w' ⟨v, rfl, ho, hb'⟩
      exact ⟨v, rfl, hb', ho.more hb.size⟩
    · have o1 : OwnB W w.heap.size (a.tmps[9]?.getD undef) (numB m.group) := (hd 4 (by kernel_rfl)).get 9 rfl rfl
      have o2 : OwnB W w.heap.size (a.tmps[14]?.getD undef) (numB m.epoch) := (hd 9 (by kernel_rfl)).get 14 rfl rfl
      have o3 : OwnB W w.heap.size (a.tmps[20]?.getD undef) (numB m.shut.length) := (hd 15 (by kernel_rfl)).get 20 rfl rfl
      obtain ⟨A1, k1, e1, _, _, r1, _⟩ := own_slice_b o1
      obtain ⟨A2, k2, e2, _, _, r2, _⟩ := own_slice_b o2
      obtain ⟨A3, k3, e3, _, _, r3, _⟩ := own_slice_b o3
      have hrow := rowsB_lit W 22 [(A1, (numB m.group).length, k1, numB m.group), (A2, (numB m.epoch).length, k2, numB m.epoch), (A3, (numB m.shut.length).length, k3, numB m.shut.length)] (by
        intro p hp
        simp only [List.mem_cons, List.not_mem_nil, or_false] at hp
        rcases hp with rfl | rfl | rfl
        · exact r1
        · exact r2
        · exact r3)
      simp only [List.map_cons, List.map_nil, List.length_cons, List.length_nil] at hrow
      clear o1 o2 o3 r1 r2 r3
      refine rel_exec rfl (.slice (some ⟨W.heap.size, 0, none⟩) 3 3) (W.alloc (.cells #[.slice A1 (numB m.group).length k1, .slice A2 (numB m.epoch).length k2, .slice A3 (numB m.shut.length).length k3] 22)) (by go_simp) ((Below.refl _ _).alloc (Nat.le_refl _) _) ⟨W.heap.size, rfl, ?_⟩
      have hz : (W.alloc (.cells #[.slice A1 (numB m.group).length k1, .slice A2 (numB m.epoch).length k2, .slice A3 (numB m.shut.length).length k3] 22)).heap.size = W.heap.size + 1 := by simp
      rw [hz]
      exact hrow
    · obtain ⟨g', e0, hr⟩ : ∃ g', a.tmps[21]?.getD undef = .slice (some ⟨g', 0, none⟩) 3 3 ∧ RowsB W W.heap.size (some ⟨g', 0, none⟩) 3 [numB m.group, numB m.epoch, numB m.shut.length] := (hd 16 (by kernel_rfl)).get 21 rfl rfl
      refine rel_call rfl 128 #[.slice (some ⟨g', 0, none⟩) 3 3] (by go_simp) ((join_any _ 3 3 _ W _ hr (Nat.le_refl _) (by omega) (by simp only [List.flatten_cons, List.flatten_nil, List.length_append, List.length_nil]; omega)).mono ?_)
      rintro e w' ⟨v, rfl, ho, hb'⟩
      exact ⟨v, rfl, hb', ho.more hb.size⟩
  intro f W hb hd
  have h22 : OwnB W w.heap.size (f 22) ([numB m.group, numB m.epoch, numB m.shut.length].flatten) := hd 17 (by omega) _ 22 rfl rfl
  have HO := Lib.hid (show OwnB W w.heap.size (f 22) (numB m.group ++ numB m.epoch ++ numB m.shut.length ++ numsI (m.shut.take 0)) by simpa [numsI] using h22)
  have HBW := Lib.hid hb
  have hz := hb.size
  have c2 := H2.out W hb
  have c19 := (HD.out W hb).cShut
  have HF := Lib.hid (fun (W' : World) (hb' : Below w.heap.size w W') => (HD.out W' hb').shut)
  simp only [putAll, List.drop_succ_cons, List.drop_zero]
  clear hd h22 hb HD
  try simp only [Act.put, List.setIfInBounds_toArray, List.set_cons_zero, List.set_cons_succ]
  go_wp2_with fail
  obtain ⟨sA, hsA⟩ : ∃ x, x = S.sA := ⟨_, rfl⟩
  rw [← hsA] at HF ⊢
  obtain ⟨sl, hsl⟩ : ∃ sl, sl = m.shut := ⟨_, rfl⟩
  obtain ⟨pre, hpre⟩ : ∃ p, p = numB m.group ++ numB m.epoch ++ numB m.shut.length := ⟨_, rfl⟩
  have hpl : pre.length ≤ 24 := by rw [hpre]; simp only [List.length_append]; omega
  rw [← hpre, ← hsl] at HO
  rw [← hsl] at HF HS hl7 ⊢
  have HSL := Lib.hid hsl
  have HPRE := Lib.hid hpre
  clear hsl hpre c2 c19 hsA
  go_loopw [2, 28] (fun ov iv wr => ∃ i : Nat, i ≤ sl.length ∧ iv = .int .i64 i ∧ OwnB wr w.heap.size ov (pre ++ numsI (sl.take i)) ∧ Below w.heap.size w wr) (fun _ iv _ => sl.length - (intOf iv).toNat)
  case atStart => exact ⟨0, by omega, rfl, HO.out, HBW.out⟩
  case round =>
    obtain ⟨i, hi, rfl, hov, hbel⟩ := hrel
    have HOV := Lib.hid hov
    have HB := Lib.hid hbel
    have hsz := hbel.size
    clear hov hbel
    by_cases hin : i < sl.length
    · have hinI : (i : Int) < (sl.length : Int) := by omega
      have hfr := HF.out wr HB.out
      obtain ⟨ad, u, hA, hadb, hu, hcell⟩ := hfr.rd.at_ hin
      rw [List.getElem?_map, List.getElem?_eq_getElem hin] at hu
      have hz0' := HS.out.1 sl[i] (List.getElem_mem hin)
      have htk : numsI (sl.take (i + 1)) = numsI (sl.take i) ++ numB sl[i].toNat := by
        unfold numsI
        rw [List.take_succ_eq_append_getElem hin, List.flatMap_append]
        simp only [List.flatMap_cons, List.flatMap_nil, List.append_nil]
      have hln := numsI_len (l := sl.take i) (fun z hz => HS.out.1 z (List.mem_of_mem_take hz))
      rw [List.length_take] at hln
      obtain ⟨z, hzz⟩ : ∃ z, z = sl[i].toNat := ⟨_, rfl⟩
      have hzi : sl[i] = (z : Int) := by unfold NumI at hz0'; omega
      have hzm : z ≤ maxN := by unfold NumI at hz0'; unfold maxN; omega
      rw [← hzz] at htk
      rw [hzi] at hu
      have hcz : wr.cell? (ad.add i) = some (.int .i64 (z : Int)) := by rw [hcell, ← hu]; rfl
      have HN := Lib.hid (vnum_any z wr hzm)
      have HTK := Lib.hid htk
      have hzl := (numB_len hzm).2
      have hnI := numsI_len (l := sl.take i) (fun z hz => HS.out.1 z (List.mem_of_mem_take hz))
      subst hA
      clear hfr hu hz0' htk hzz hzi hcell
      go_wp2_with fail
      refine HN.out.mono ?_
      rintro _ w5 ⟨v, rfl, ho5, hb5⟩
      obtain ⟨A5, k5, rfl, q1, q2, r5, q3⟩ := own_slice_b ho5
      have HB5 := Lib.hid (HB.out.trans (hb5.mono hsz))
      have HO5 := Lib.hid (HOV.out.below hb5)
      have HWN := Lib.hid HO5.out.row
      have HR5 := Lib.hid r5
      have hs5 := hb5.size
      have hge := fun b (hb : (_ : Value).ownBlock = some b) => HO5.out.ge hb
      have HGE := Lib.hid hge
      obtain ⟨ob, hobe⟩ : ∃ ob, ob = pre ++ numsI (sl.take i) := ⟨_, rfl⟩
      obtain ⟨sb, hsbe⟩ : ∃ sb, sb = numB z := ⟨_, rfl⟩
      have hol : ob.length ≤ 100 := by rw [hobe, List.length_append]; omega
      rw [← hobe] at HWN
      rw [← hsbe] at HR5 hzl q1 ⊢
      have hnext : pre ++ numsI (sl.take (i + 1)) = ob ++ sb := by rw [HTK.out, hobe, hsbe, List.append_assoc]
      have HNX := Lib.hid hnext
      clear ho5 hb5 r5 hge hobe hsbe hnext hcz HN HTK
      go_wp2_with (at_builtin; go_must (refine wpList_append_any _ rfl (.tmp 32) (.tmp 34) 22 rfl w.heap.size 5 i0 _ 1 1 Tryz.underlying22 hi0 hz0 hz1 hz2 rfl (by omega) _ _ _ rfl HWN.out w5.heap.size A5 sb.length k5 (sb.map vb) rfl HR5.out (by intro u hu; first | rfl | (obtain ⟨y, _, rfl⟩ := List.mem_map.1 hu; rfl)) (by unfold maxLen; omega) (by omega) (by omega) ?_))
      intro v6 w6 hown6 hg6 hor6
      have HB6 := Lib.hid (grown_below HB5.out (by omega) hg6 (fun b hb => HGE.out b hb))
      have HO6 := Lib.hid (show OwnB w6 w.heap.size v6 (pre ++ numsI (sl.take (i + 1))) by
        unfold OwnB
        rw [HNX.out, List.length_append, List.map_append]
        exact hown6)
      clear hown6 hg6 hor6
      go_wp2_with fail
      go_roundw
      case rel => exact ⟨i + 1, by omega, by go_num, HO6.out, HB6.out⟩
      case measure => simp [intOf]; omega
    · obtain rfl : i = sl.length := by omega
      have hinI : ¬ (sl.length : Int) < (sl.length : Int) := by omega
      go_wp2_with fail
      go_ret
      refine ⟨_, rfl, ?_, HB.out⟩
      have := HOV.out
      rw [List.take_of_length_le (Nat.le_refl _)] at this
      unfold sealB
      rw [← HPRE.out, ← HSL.out]
      exact this

end Go.Proofs.YtcpngeiahgoacaaGreat

/- Contracts of a vault's leaf, set, made, New. -/
namespace Go.Proofs.YtcpngeiahgoacaaGreat
set_option linter.unusedVariables false
open Go.RowKit Go.Maps
attribute [local irreducible] wpList

set_option maxRecDepth 100000 in
set_option maxHeartbeats 2000000 in
theorem vleaf_any (w : World) (g i : Nat) (t : Option Addr) (N : Nat → Prop) (m : VM) (S : VSl) (h : VDat w g t N m S) (hi : i < 13) :
    Calls Tryz.prog 83 #[.pointer (some ⟨g, 0, none⟩), .int .i64 (i : Int)] w fun e w' => ∃ v, e = .returned v ∧ OwnB w' w.heap.size v (leafV m i) ∧ Below w.heap.size w w' := by
  have hmf : ∀ (fn : Fn) (first cap : Array Value) (w : World), (Instr.makeFunc fn first cap).run Tryz.prog w = .ok (.func fn first cap) w := fun _ _ _ _ => rfl
  have hX : Below w.heap.size w ((w.alloc (.cells #[.pointer (some ⟨g, 0, none⟩)] 25)).alloc (.cells #[.int .i64 (i : Int)] 3)) := ((Below.refl _ _).alloc (Nat.le_refl _) _).alloc (by simp) _
  have k2 : Blk ((w.alloc (.cells #[.pointer (some ⟨g, 0, none⟩)] 25)).alloc (.cells #[.int .i64 (i : Int)] 3)) w.heap.size 25 #[.pointer (some ⟨g, 0, none⟩)] := (Blk.newAt rfl).alloc _
  have k3 : Blk ((w.alloc (.cells #[.pointer (some ⟨g, 0, none⟩)] 25)).alloc (.cells #[.int .i64 (i : Int)] 3)) (w.heap.size + 1) 3 #[.int .i64 (i : Int)] := Blk.newAt (by simp)
  have hd := h.below hX
  have HX := Lib.hid hX
  have K2 := Lib.hid k2
  have K3 := Lib.hid k3
  have HD := Lib.hid hd
  have hsz : w.heap.size ≤ ((w.alloc (.cells #[.pointer (some ⟨g, 0, none⟩)] 25)).alloc (.cells #[.int .i64 (i : Int)] 3)).heap.size := hX.size
  clear hX k2 k3 hd h
  obtain ⟨b2, hb2⟩ : ∃ b, b = w.heap.size := ⟨_, rfl⟩
  obtain ⟨b3, hb3⟩ : ∃ b, b = w.heap.size + 1 := ⟨_, rfl⟩
  go_enter Tryz.func83, Tryz.ntmps83
  go_upto_region 1 with fail
  generalize World.alloc (World.alloc w _) _ = w1 at HX K2 K3 HD hsz ⊢
  rw [← hb3] at K3 ⊢
  rw [← hb2] at K2 ⊢
  have c2 : w1.cell? ⟨b2, 0, none⟩ = some (.pointer (some ⟨g, 0, none⟩)) := (K2.out.cell 0).trans rfl
  have c3 : w1.cell? ⟨b3, 0, none⟩ = some (.int .i64 (i : Int)) := (K3.out.cell 0).trans rfl
  clear hb2 hb3
  by_cases h8 : i < 8
  · have h8I : (i : Int) < 8 := by omega
    have HL := Lib.hid (vleaf2_any w1 g b2 b3 i t N m S HD.out h8 c2 c3)
    have e : leafV m i = blockV m i := by unfold leafV; rw [if_pos h8]
    have HE := Lib.hid e
    clear e
    go_wp2_with fail
    refine HL.out.mono ?_
    rintro _ w2 ⟨v, rfl, ho, hb⟩
    have HO := Lib.hid (ho.more hsz)
    have HB := Lib.hid (HX.out.trans (hb.mono hsz))
    clear ho hb
    go_wp2_with fail
    go_ret
    exact ⟨_, rfl, by rw [HE.out]; exact HO.out, HB.out⟩
  · have h8I : ¬ (i : Int) < 8 := by omega
    by_cases h12 : i < 12
    · have h12I : (i : Int) < 12 := by omega
      have HL := Lib.hid (vleaf3_any w1 g b2 b3 (i - 8) t N m S HD.out (by omega) c2 (by rw [show 8 + (i - 8) = i by omega]; exact c3))
      have e : leafV m i = lastB (lastV m (i - 8)) := by unfold leafV; rw [if_neg h8, if_pos h12]
      have HE := Lib.hid e
      clear e
      go_wp2_with fail
      refine HL.out.mono ?_
      rintro _ w2 ⟨v, rfl, ho, hb⟩
      have HO := Lib.hid (ho.more hsz)
      have HB := Lib.hid (HX.out.trans (hb.mono hsz))
      clear ho hb
      go_wp2_with fail
      go_ret
      exact ⟨_, rfl, by rw [HE.out]; exact HO.out, HB.out⟩
    · have h12I : ¬ (i : Int) < 12 := by omega
      have HL := Lib.hid (vleaf1_any w1 g b2 t N m S HD.out c2)
      have e : leafV m i = sealB m := by unfold leafV; rw [if_neg h8, if_neg h12]
      have HE := Lib.hid e
      clear e
      go_wp2_with fail
      refine HL.out.mono ?_
      rintro _ w2 ⟨v, rfl, ho, hb⟩
      have HO := Lib.hid (ho.more hsz)
      have HB := Lib.hid (HX.out.trans (hb.mono hsz))
      clear ho hb
      go_wp2_with fail
      go_ret
      exact ⟨_, rfl, by rw [HE.out]; exact HO.out, HB.out⟩

/-- what a call of a vault's leaves of its tree and book -/
structure SetBy (w w' : World) (T : TreeLoc) (k : Book) (ls ls' : List (List UInt8)) (L : List (List UInt8)) (asked q : Nat) : Prop where
  tree : TreeAt w' T k ls'
  book : ∃ L' a', BookAt w' k L' a' ∧ a' ≤ asked + q ∧ (∀ x, x ∈ L → x ∈ L') ∧ (∀ L0, (∀ x, x ∈ L0 → x ∈ L) → InBook L0 ls → InBook L' ls')
  only : Only (fun b => T.mut b ∨ k.has b) w w'

set_option maxRecDepth 100000 in
set_option maxHeartbeats 2000000 in
theorem vset_any (w : World) (g i : Nat) (T : TreeLoc) (k : Book) (N : Nat → Prop) (m : VM) (S : VSl) (ls L : List (List UInt8)) (asked : Nat) (h : VDat w g (some ⟨T.t, 0, none⟩) N m S) (hi : i < 13) (hT : TreeAt w T k ls) (hl : ls.length = 13) (hbk : BookAt w k L asked) (has : asked ≤ 900000) :
    Calls Tryz.prog 82 #[.pointer (some ⟨g, 0, none⟩), .int .i64 (i : Int)] w fun e w' => e = .returned (.int .i64 0) ∧ SetBy w w' T k ls (ls.set i (leafV m i)) L asked 3 := by
  have hll := leafV_len h.ok i
  have lg := h.blk.lt
  have HD := Lib.hid (fun (W : World) (hb : Below w.heap.size w W) => h.below hb)
  have HL := Lib.hid (fun (W : World) (hb : Below w.heap.size w W) => vleaf_any W g i _ N m S (h.below hb) hi)
  have HS := Lib.hid (fun (W : World) (hb : Below w.heap.size w W) (A : Option Addr) (c : Nat) (hr : Reads W W.heap.size 1 A (leafV m i).length ((leafV m i).map vb)) => treeSet_any T k ls L asked i A (leafV m i).length c (leafV m i) W W.heap.size (hT.below hb) (hbk.below hb) hr (Nat.le_refl _) (by omega) (by omega) has)
  have hc := h.cTree
  have HC := Lib.hid (fun (W : World) (hb : Below w.heap.size w W) => (hb.cell (p := ⟨g, 0, none⟩) lg).trans hc)
  clear h hT hbk hc
  generalize leafV m i = xs at HL HS hll ⊢
  go_enter Tryz.func82, Tryz.ntmps82
  go_upto_region 1 with fail
  refine wp_region_rel' 8 14 (fun jx W v => match jx with
    | 0 => v = .pointer (some ⟨g, 0, none⟩)
    | 1 => v = .pointer (some ⟨g, 0, none⟩)
    | 2 => v = .pointer (some ⟨g, 0, none⟩)
    | 3 => v = .pointer (some ⟨T.t, 0, none⟩)
    | 4 => v = .int .i64 (i : Int)
    | 5 => v = .pointer (some ⟨g, 0, none⟩)
    | 6 => v = .int .i64 (i : Int)
    | _ => OwnB W w.heap.size v xs) [5, 6, 7, 8, 9, 10, 11, 12] (by kernel_rfl) (by kernel_rfl) (by kernel_rfl) (by simp) (by kernel_rfl) (fun jx => ?last) ?heads ?_
  case last =>
    match jx with
    | 0 | 1 | 2 | 3 | 4 | 5 | 6 => exact Lasts.pure _
    | jx + 7 => exact lasts_own _ _
  case heads =>
    simp only [List.take_succ_cons, List.take_zero]
    refine ⟨fun a W hb hkp hd => ?_, fun a W hb hkp hd => ?_, fun a W hb hkp hd => ?_, fun a W hb hkp hd => ?_, fun a W hb hkp hd => ?_, fun a W hb hkp hd => ?_, fun a W hb hkp hd => ?_, fun a W hb hkp hd => ?_, trivial⟩
    · have e0 : a.tmps[0]?.getD undef = .pointer (some ⟨g, 0, none⟩) := hkp.get (by kernel_rfl) rfl
      exact rel_value rfl (.pointer (some ⟨g, 0, none⟩)) (by go_simp) rfl
    · have e0 : a.tmps[5]?.getD undef = .pointer (some ⟨g, 0, none⟩) := (hd 0 (by kernel_rfl)).get 5 rfl rfl
      exact rel_value rfl (.pointer (some ⟨g, 0, none⟩)) (by go_simp) rfl
    · have e0 : a.tmps[6]?.getD undef = .pointer (some ⟨g, 0, none⟩) := (hd 1 (by kernel_rfl)).get 6 rfl rfl
      exact rel_value rfl (.pointer (some ⟨g, 0, none⟩)) (by go_simp) rfl
    · have e0 : a.tmps[7]?.getD undef = .pointer (some ⟨g, 0, none⟩) := (hd 2 (by kernel_rfl)).get 7 rfl rfl
      have cc := HC.out W hb
      exact rel_value rfl (.pointer (some ⟨T.t, 0, none⟩)) (by go_simp) rfl
    · have e0 : a.tmps[1]?.getD undef = .int .i64 (i : Int) := hkp.get (by kernel_rfl) rfl
      exact rel_value rfl (.int .i64 (i : Int)) (by go_simp) rfl
    · have e0 : a.tmps[0]?.getD undef = .pointer (some ⟨g, 0, none⟩) := hkp.get (by kernel_rfl) rfl
      exact rel_value rfl (.pointer (some ⟨g, 0, none⟩)) (by go_simp) rfl
    · have e0 : a.tmps[1]?.getD undef = .int .i64 (i : Int) := hkp.get (by kernel_rfl) rfl
      exact rel_value rfl (.int .i64 (i : Int)) (by go_simp) rfl
    · have e0 : a.tmps[10]?.getD undef = .pointer (some ⟨g, 0, none⟩) := (hd 5 (by kernel_rfl)).get 10 rfl rfl
      have e1 : a.tmps[11]?.getD undef = .int .i64 (i : Int) := (hd 6 (by kernel_rfl)).get 11 rfl rfl
      refine rel_call rfl 83 #[.pointer (some ⟨g, 0, none⟩), .int .i64 (i : Int)] (by go_simp) ((HL.out W hb).mono ?_)
      rintro e w' ⟨v, rfl, ho, hb'⟩
      exact ⟨v, rfl, hb', ho.more hb.size⟩
  intro f W hb hd
  have h8 : f 8 = .pointer (some ⟨T.t, 0, none⟩) := hd 3 (by omega) _ 8 rfl rfl
  have h9 : f 9 = .int .i64 (i : Int) := hd 4 (by omega) _ 9 rfl rfl
  have h12 : OwnB W w.heap.size (f 12) xs := hd 7 (by omega) _ 12 rfl rfl
  obtain ⟨A, c, e12, q1, q2, r12, q3⟩ := own_slice_b h12
  have HST := Lib.hid (HS.out W hb A c r12)
  have HBW := Lib.hid hb
  simp only [putAll, List.drop_succ_cons, List.drop_zero, h8, h9, e12]
  clear hd h12 hb r12
  try simp only [Act.put, List.setIfInBounds_toArray, List.set_cons_zero, List.set_cons_succ]
  go_wp2_with fail
  refine HST.out.mono ?_
  rintro _ w2 ⟨rfl, h1, h2, h3⟩
  have H1 := Lib.hid h1
  have H2 := Lib.hid h2
  have H3 := Lib.hid h3
  clear h1 h2 h3
  go_wp2_with fail
  go_ret
  exact ⟨rfl, H1.out, H2.out, (Only.of_below HBW.out).trans H3.out⟩

end Go.Proofs.YtcpngeiahgoacaaGreat
