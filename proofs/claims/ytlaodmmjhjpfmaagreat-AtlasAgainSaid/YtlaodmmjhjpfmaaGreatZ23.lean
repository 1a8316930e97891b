/- Parts of the proof, in one text: AtRo, AlO, AlOM, AlEM, AlEP, CrV, CrS, CrT, AlE, AlEF, AlT, AlT2. -/
import Derived.Test.YtlaodmmjhjpfmaaGreatZ22
import Derived.Test.YtlaodmmjhjpfmaaGreatZ15
import Derived.Test.YtlaodmmjhjpfmaaGreatZ14
import Derived.Test.YtlaodmmjhjpfmaaGreatZ17
import Derived.Deep.DeepCutAuto
import Derived.Test.YtlaodmmjhjpfmaaGreatZ20

/- Contracts of (*Atlas).Root, of the laws' root. -/
namespace Go.Proofs.YtlaodmmjhjpfmaaGreat
set_option linter.unusedVariables false
set_option linter.unusedSimpArgs false
open Go.RowKit Go.Maps

attribute [local irreducible] wpList wpCalm
set_option maxRecDepth 100000 in
set_option maxHeartbeats 1000000 in
theorem aRoot_any (w : World) (V : ALoc) (N : Nat → Prop) (m : AM) (h : AAt w V N m) :
    Calls Tryz.prog 92 #[.pointer (some ⟨V.g, 0, none⟩)] w fun e w' => e = .returned (.tuple #[.agg (bRow (rootL (leavesQ m))), .int .i64 0]) ∧ Below w.heap.size w w' := by
  obtain ⟨S, hd⟩ := h.dat
  have hX := below_lit w (.cells inkZ 63)
  have hk0 : Blk (w.alloc (.cells inkZ 63)) w.heap.size 63 inkZ := Blk.newAt rfl
  have c0 := ((hd.below hX).blk.cell 0).trans (aCs_at _ _ _ _ 0 (by omega))
  have HN := Lib.hid (aNone_any (w.alloc (.cells inkZ 63)) V.g V.T.t c0)
  have HR := Lib.hid (treeRoot_any (w.alloc (.cells inkZ 63)) V.T V.k (leavesQ m) (h.tree.below hX))
  have hln := leavesQ_len m
  have hds : (bRow (rootL (leavesQ m))).size = 32 := bRow_size32 (lv_one (leavesQ m) (by omega) (by omega)).2
  have hdo := bRow_one (rootL (leavesQ m))
  obtain ⟨D, hD⟩ : ∃ D, D = bRow (rootL (leavesQ m)) := ⟨_, rfl⟩
  rw [← hD] at HR hds hdo ⊢
  have HDS := Lib.hid hds
  have HDO := Lib.hid hdo
  have HZ := Lib.hid treeZ_eq
  have HZS := Lib.hid (show inkZ.size = 32 by simp [inkZ, bRow])
  have HX := Lib.hid hX
  have HK := Lib.hid hk0
  have C0 := Lib.hid c0
  obtain ⟨g, hg⟩ : ∃ g, g = w.heap.size := ⟨_, rfl⟩
  clear h hd hX hk0 c0 hD hds hdo hln
  go_enter Tryz.func92, Tryz.ntmps92
  go_upto_region 1 with fail
  rw [← HZ.out]
  generalize World.alloc w _ = w1 at HN HR HX HK C0 ⊢
  rw [← hg] at HK ⊢
  have hgw : w.heap.size ≤ g := by omega
  have c0 := C0.out
  clear hg
  go_wp2_with fail
  refine HN.out.mono ?_
  rintro _ _ ⟨rfl, rfl⟩
  go_wp2_with fail
  refine HR.out.mono ?_
  rintro _ w2 ⟨rfl, hb2⟩
  have HB2 := Lib.hid (HX.out.trans (hb2.mono HX.out.size))
  have HK2 := Lib.hid (HK.out.below' hb2)
  clear hb2
  go_wp2_with (refine wpList_store_part (o := ⟨none, _, _, _, _, _⟩) rfl 63 (.tmp 2) (.tmp 12) rfl g 0 D rfl rfl 63 inkZ HK2.out (by rw [HDS.out]; rfl) (by rw [HDS.out, HZS.out]; omega) HDO.out ?_; intro w5 hT5 hD5; rw [spl_self _ _ (by rw [HDS.out, HZS.out])] at hD5)
  refine bodyPost_ret (results_part2 rfl _ _ g 32 63 _ _ rfl hD5 Tryz.underlying63 rfl rfl HDS.out) rfl ⟨rfl, ?_⟩
  exact hT5.below HB2.out hgw

def ARootPost (w : World) (m : AM) (e : Ending) (w' : World) : Prop := e = .returned (.tuple #[.agg (bRow (rootL (leavesQ m))), .bool true]) ∧ Below w.heap.size w w'
set_option maxRecDepth 100000 in
set_option maxHeartbeats 4000000 in
theorem arootL_any (w : World) (V : ALoc) (N : Nat → Prop) (m : AM) (h : AAt w V N m) :
    Calls Tryz.prog 29 #[.pointer (some ⟨V.g, 0, none⟩)] w (ARootPost w m) := by
  have hX := below_lit w (.cells inkZ 63)
  have hk0 : Blk (w.alloc (.cells inkZ 63)) w.heap.size 63 inkZ := Blk.newAt rfl
  have HR := Lib.hid (aRoot_any (w.alloc (.cells inkZ 63)) V N m (h.below hX))
  have hln := leavesQ_len m
  have hds : (bRow (rootL (leavesQ m))).size = 32 := bRow_size32 (lv_one (leavesQ m) (by omega) (by omega)).2
  have hdo := bRow_one (rootL (leavesQ m))
  unfold ARootPost
  obtain ⟨D, hD⟩ : ∃ D, D = bRow (rootL (leavesQ m)) := ⟨_, rfl⟩
  rw [← hD] at HR hds hdo ⊢
  have HDS := Lib.hid hds
  have HDO := Lib.hid hdo
  have HZ := Lib.hid treeZ_eq
  have HZS := Lib.hid (show inkZ.size = 32 by simp [inkZ, bRow])
  have HX := Lib.hid hX
  have HK := Lib.hid hk0
  obtain ⟨g, hg⟩ : ∃ g, g = w.heap.size := ⟨_, rfl⟩
  clear h hX hk0 hD hds hdo hln
  go_enter Tryz.func29, Tryz.ntmps29
  go_upto_region 1 with fail
  rw [← HZ.out]
  generalize World.alloc w _ = w1 at HR HX HK ⊢
  rw [← hg] at HK ⊢
  have hgw : w.heap.size ≤ g := by omega
  have hl := HK.out.lt
  clear hg
  go_wp2_with fail
  refine HR.out.mono ?_
  rintro _ w2 ⟨rfl, hb2⟩
  have HB2 := Lib.hid (HX.out.trans (hb2.mono HX.out.size))
  have HK2 := Lib.hid (HK.out.below' hb2)
  have hs2 := HB2.out.size
  have hs12 := hb2.size
  clear hb2 HR
  go_upto_region 2 with (refine wpList_store_part (o := ⟨none, _, _, _, _, _⟩) rfl 63 (.tmp 4) (.tmp 9) rfl w2.heap.size 0 D rfl rfl 63 inkZ (by rw [HZ.out]; exact Blk.newAt rfl) (by rw [HDS.out]; rfl) (by rw [HDS.out, HZS.out]; omega) HDO.out ?_; intro w3 hT3 hD3; rw [spl_self _ _ (by rw [HDS.out, HZS.out])] at hD3)
  have hb3 : Below w2.heap.size w2 w3 := hT3.below ((Below.refl _ _).alloc (Nat.le_refl _) _) (Nat.le_refl _)
  have HD3 := Lib.hid hD3
  have HK3 := Lib.hid (HK2.out.below' hb3)
  have HB3 := Lib.hid (HB2.out.trans (hb3.mono hs2))
  obtain ⟨g4, hg4⟩ : ∃ g, g = w2.heap.size := ⟨_, rfl⟩
  rw [← hg4] at HD3 ⊢
  clear hb3 hD3 hT3 hg4
  go_wp2_with (first
    | (refine wpList_load_part (o := ⟨some 11, _, _, _, _, _⟩) rfl 63 (.tmp 4) rfl g4 0 32 rfl 63 _ D _ HD3.out Tryz.underlying63 rfl rfl HDS.out (fun _ _ => by rw [Nat.zero_add]) ?_)
    | (refine wpList_store_part (o := ⟨none, _, _, _, _, _⟩) rfl 63 (.tmp 2) (.tmp 11) rfl g 0 D rfl rfl 63 inkZ HK3.out (by rw [HDS.out]; rfl) (by rw [HDS.out, HZS.out]; omega) HDO.out ?_; intro w5 hT5 hD5; rw [spl_self _ _ (by rw [HDS.out, HZS.out])] at hD5))
  refine bodyPost_ret (results_part2 rfl _ _ g 32 63 _ _ rfl hD5 Tryz.underlying63 rfl rfl HDS.out) rfl ⟨rfl, ?_⟩
  exact hT5.below HB3.out hgw

end Go.Proofs.YtlaodmmjhjpfmaaGreat

/- A law's atlas beside blocks that it leaves as they are. -/
namespace Go.Proofs.YtlaodmmjhjpfmaaGreat
set_option linter.unusedVariables false
set_option linter.unusedSimpArgs false
open Go.RowKit Go.Maps

attribute [local irreducible] wpList wpCalm
theorem ALSt.do2_ {w0 W : World} {V : ALoc} {N : Nat → Prop} {m : AM} {a : Nat} (h : ALSt w0 V N m a W) (ha : a ≤ 700000) (x : Wish) (A : Option Addr) (n c : Nat) (A' : Option Addr) (n' c' : Nat) (B : Nat) (hx : WishIn W B x A n c A' n' c') (hB : B ≤ W.heap.size) :
    Calls Tryz.prog 24 #[.pointer (some ⟨V.g, 0, none⟩), .agg (wCells x A n c A' n' c')] W fun r W' => ∃ D q, r = .returned (.tuple #[.agg D, .int .i64 ((doQ m x).2.2 : Int)]) ∧ D.size = 4 ∧ W.heap.size ≤ q ∧ AnsN W' q D (doQ m x).2.1 ∧ ALSt w0 V (fun b => N b ∨ (q ≤ b ∧ b < W'.heap.size)) (doQ m x).1 (a + 6) W' ∧ Only (V.hasN N) W W' := by
  obtain ⟨L, a', h1, h2, h3⟩ := h.book
  refine (aDo2_any W V N m L a' h.vat h.nlt h1 h3 (by omega) x A n c A' n' c' B hx hB).mono ?_
  rintro r W' ⟨D, q, rfl, hs, hq, ho, hd⟩
  have hl := h.did (hd.less (fun b hb => .inl hb) h.vat.all) (a' := a + 6) (by omega)
  obtain ⟨L', b', p1, p2, p3, p4⟩ := hd.book
  refine ⟨D, q, rfl, hs, hq, ho, ⟨hd.vat, ⟨L', b', p1, by omega, p4⟩, hl.low, fun b hn => hn.elim (hl.nlt b) (fun e => e.2), fun b hb => .inl (h.old b hb), h.new⟩, hd.only.mono fun b _ e => e.imp id (fun e hn => e (.inl hn))⟩
/-- .. beside blocks -/
def AL (w0 : World) (V : ALoc) (m : AM) (a : Nat) (W : World) (Bs : List Nat) : Prop := ∃ N, ALSt w0 V N m a W ∧ ∀ b, b ∈ Bs → N b ∧ ¬ V.all b
theorem AL.add {w0 W W' : World} {V : ALoc} {m : AM} {a : Nat} {Bs : List Nat} (h : AL w0 V m a W Bs) (hb : Below W.heap.size W W') {g : Nat} (h1 : W.heap.size ≤ g) (h2 : g < W'.heap.size) : AL w0 V m a W' (g :: Bs) := by
  obtain ⟨N, hl, hB⟩ := h
  refine ⟨_, hl.later hb, fun b hb' => ?_⟩
  rcases List.mem_cons.1 hb' with rfl | hb'
  · exact ⟨.inr ⟨h1, h2⟩, fun hv => by have := hl.nlt _ (hl.vat.all _ hv); omega⟩
  · exact ⟨.inl (hB b hb').1, (hB b hb').2⟩
theorem AL.below {w0 W W' : World} {V : ALoc} {m : AM} {a : Nat} {Bs : List Nat} (h : AL w0 V m a W Bs) (hb : Below W.heap.size W W') : AL w0 V m a W' Bs := by
  obtain ⟨N, hl, hB⟩ := h
  exact ⟨N, hl.below hb, hB⟩
theorem AL.more {w0 W : World} {V : ALoc} {m : AM} {a a' : Nat} {Bs Bs' : List Nat} (h : AL w0 V m a W Bs) (ha : a ≤ a') (hs : ∀ b, b ∈ Bs' → b ∈ Bs) : AL w0 V m a' W Bs' := by
  obtain ⟨N, hl, hB⟩ := h
  exact ⟨N, hl.more ha, fun b hb => hB b (hs b hb)⟩
theorem AL.vat {w0 W : World} {V : ALoc} {m : AM} {a : Nat} {Bs : List Nat} (h : AL w0 V m a W Bs) : ∃ N, AAt W V N m := by
  obtain ⟨N, hl, hB⟩ := h
  exact ⟨N, hl.vat⟩
theorem AL.low {w0 W : World} {V : ALoc} {m : AM} {a : Nat} {Bs : List Nat} (h : AL w0 V m a W Bs) : Below w0.heap.size w0 W := by
  obtain ⟨N, hl, hB⟩ := h
  exact hl.low
def adB : Option Addr → List Nat
  | none => []
  | some a => [a.block]
/-- the answer, the state, what stays -/
def ALDid (w0 : World) (V : ALoc) (m : AM) (a : Nat) (W : World) (Bs : List Nat) (x : Wish) (r : Ending) (W' : World) : Prop :=
  ∃ A c, r = .returned (.tuple #[.agg (anC (doQ m x).2.1.err none 0 0 (doQ m x).2.1.epoch A (doQ m x).2.1.nodes.length c), .int .i64 ((doQ m x).2.2 : Int)]) ∧ (doQ m x).2.1.nodes.length ≤ maxLen ∧ Reads W' W'.heap.size 1 A (doQ m x).2.1.nodes.length ((doQ m x).2.1.nodes.map vn) ∧ AL w0 V (doQ m x).1 (a + 6) W' (adB A ++ Bs) ∧ (∀ b, b ∈ Bs → b < W.heap.size → W'.heap[b]? = W.heap[b]?) ∧ W.heap.size ≤ W'.heap.size
theorem AL.do_ {w0 W : World} {V : ALoc} {m : AM} {a : Nat} {Bs : List Nat} (h : AL w0 V m a W Bs) (ha : a ≤ 700000) (x : Wish) (hx : WishIn W W.heap.size x none 0 0 none 0 0) :
    Calls Tryz.prog 24 #[.pointer (some ⟨V.g, 0, none⟩), .agg (wCells x none 0 0 none 0 0)] W (ALDid w0 V m a W Bs x) := by
  obtain ⟨N, hl, hB⟩ := h
  refine (hl.do2_ ha x none 0 0 none 0 0 _ hx (Nat.le_refl _)).mono ?_
  rintro r W' ⟨D, q, rfl, hs, hq, ⟨A, c, rfl, ho⟩, hl', hon⟩
  obtain ⟨A2, c2, e, q1, q2, q3, q4⟩ := own_slice_n ho
  injection e with e1 _ e2
  subst e1 e2
  refine ⟨A, c, rfl, Nat.le_trans q1 q2, q3, ⟨_, hl', fun b hb => ?_⟩, fun b hb hlt => hon.block b hlt fun e => ?_, hon.size⟩
  · rcases List.mem_append.1 hb with hb | hb
    · cases A with
      | none => cases hb
      | some ad =>
        obtain rfl := List.mem_singleton.1 hb
        have hge := q4 ad rfl
        have hlt : ad.block < W'.heap.size := (rowD_lt ho (b := ad.block) rfl).2
        exact ⟨.inr ⟨hge, hlt⟩, fun hv => by have := hl.nlt _ (hl.vat.all _ hv); omega⟩
    · exact ⟨.inl (hB b hb).1, (hB b hb).2⟩
  · rcases e with e | e
    · exact (hB b hb).2 (AAt.has_all (w := w0) (m := m) (N := N) e)
    · exact e (hB b hb).1
theorem reads_same {W W' : World} {n : Nat} {A : Option Addr} {xs : List Value} (h : Reads W W.heap.size 1 A n xs) (hk : ∀ b, b ∈ adB A → b < W.heap.size → W'.heap[b]? = W.heap[b]?) (hs : W.heap.size ≤ W'.heap.size) : Reads W' W'.heap.size 1 A n xs :=
  ⟨h.1, fun h0 => by
    obtain ⟨ad, rfl, hlt, hc⟩ := h.2 h0
    exact ⟨ad, rfl, by omega, fun j u hu => (World.cell?_of_block (by
      have : (ad.add j).block = ad.block := block_of_add _ _
      rw [this]
      exact hk _ (List.mem_singleton.2 rfl) hlt)).trans (hc j u hu)⟩⟩

end Go.Proofs.YtlaodmmjhjpfmaaGreat

/- Plain facts of a wish that was done. -/
namespace Go.Proofs.YtlaodmmjhjpfmaaGreat
set_option linter.unusedVariables false
set_option linter.unusedSimpArgs false
open Go.RowKit Go.Maps

theorem queryQ_in {c s b : Int} (c1 : 31 ≤ c) (c2 : c ≤ 34) (s1 : 1 ≤ s) (s2 : s ≤ 1000000) (b1 : 1 ≤ b) (b2 : b ≤ 2) : inQ (queryQ c s b) = true := by
  have s3 : s ≤ 9007199254740991 := by omega
  unfold inQ
  rw [Bool.and_eq_true]
  exact ⟨decide_eq_true (show MayP (queryQ c s b) from ⟨show (0 : Int) ≤ 0 by decide, show (0 : Int) ≤ 1048576 by decide, .inr ⟨show (3 : Int) ≠ 5 by decide, c1, c2, s1, s3, rfl, .inr ⟨.inl ⟨rfl, rfl, rfl⟩, rfl, rfl, b1, b2, rfl⟩⟩⟩), decide_eq_true (.inl rfl)⟩
theorem replQ_in {c s b o z : Int} (c1 : 31 ≤ c) (c2 : c ≤ 34) (s1 : 1 ≤ s) (s2 : s ≤ 1000000) (b1 : 1 ≤ b) (b2 : b ≤ 2) (o1 : 1 ≤ o) (o2 : o ≤ 28) (z1 : 1 ≤ z) (z2 : z ≤ 28) (hne : o ≠ z) : inQ (replQ c s b o z) = true := by
  have s3 : s ≤ 9007199254740991 := by omega
  unfold inQ
  rw [Bool.and_eq_true]
  exact ⟨decide_eq_true (show MayP (replQ c s b o z) from ⟨show (0 : Int) ≤ 0 by decide, show (0 : Int) ≤ 1048576 by decide, .inr ⟨show (4 : Int) ≠ 5 by decide, c1, c2, s1, s3, rfl, .inr ⟨.inr ⟨rfl, o1, o2, z1, z2, hne⟩, rfl, rfl, b1, b2, rfl⟩⟩⟩), decide_eq_true (.inr rfl)⟩
theorem wishS_inQ {now : List Int} {n stamp : Int} (h : ∀ z, z ∈ now → 0 < z ∧ z ≤ 28) (hl : 1 ≤ now.length) (h0 : 1 ≤ stamp) (h1 : stamp ≤ 1000000) : inQ (wishS now n stamp) = true := by
  have hc := clientW_le n
  have hb := bringF_lt (n / 64) 2 (by omega)
  have h9 := bringF_lt (n / 512) 16 (by omega)
  have h7 := bringF_lt (n / 128) now.length (by omega)
  have hg : 1 ≤ now.getD (bringF (n / 128) now.length) 0 ∧ now.getD (bringF (n / 128) now.length) 0 ≤ 28 := by
    rw [List.getD_eq_getElem?_getD, List.getElem?_eq_getElem h7]
    have := h _ (List.getElem_mem h7)
    simp only [Option.getD_some]
    omega
  unfold wishS
  generalize now.getD (bringF (n / 128) now.length) 0 = o at hg ⊢
  split
  · exact queryQ_in hc.1 hc.2 h0 h1 (by omega) (by omega)
  · have hz : 5 ≤ (if bringF n 16 = 2 then 5 else 13 + (bringF (n / 512) 16 : Int)) ∧ (if bringF n 16 = 2 then 5 else 13 + (bringF (n / 512) 16 : Int)) ≤ 28 := by split <;> omega
    have ho : 1 ≤ (if bringF n 16 = 3 then 28 else o) ∧ (if bringF n 16 = 3 then 28 else o) ≤ 28 := by split <;> omega
    generalize (if bringF n 16 = 2 then 5 else 13 + (bringF (n / 512) 16 : Int)) = z at hz ⊢
    generalize (if bringF n 16 = 3 then 28 else o) = o' at ho ⊢
    refine replQ_in ?_ ?_ h0 h1 (by omega) (by omega) ?_ ?_ (by omega) (by omega) ?_
    · split <;> omega
    · split <;> omega
    · split <;> omega
    · split <;> omega
    · split <;> omega
theorem oldQ_same {m : AM} {x : Wish} {S : Nat} {an : Ans} (h : lastQ m (x.client - 31).toNat = (S, an)) (hs : x.stamp = (S : Int)) : oldQ m x = (an, true) := by
  unfold oldQ
  rw [h]
  simp only
  rw [if_neg (by omega), if_neg (by omega)]
end Go.Proofs.YtlaodmmjhjpfmaaGreat

/- Plain facts for AtlasEpochs: what a wish makes of the crews. -/
namespace Go.Proofs.YtlaodmmjhjpfmaaGreat
set_option linter.unusedVariables false
set_option linter.unusedSimpArgs false
open Go.RowKit Go.Maps

theorem doQ_fresh {m : AM} {x : Wish} (hm : AOk m) (hq : inQ x = true) (h : ((lastQ m (x.client - 31).toNat).1 : Int) < x.stamp) : (doQ m x).1.chunks = (answerQ m x).1.chunks ∧ (doQ m x).2.1 = (answerQ m x).2 ∧ (doQ m x).2.2 = 0 := by
  obtain ⟨c1, c2, _⟩ := may_move hq
  obtain ⟨j, hj⟩ : ∃ j, j = (x.client - 31).toNat := ⟨_, rfl⟩
  have hd : didQ m x = ⟨(answerQ m x).1.chunks, m.last.set j (x.stamp.toNat, (answerQ m x).2)⟩ := by
    unfold didQ
    rw [← hj] at h ⊢
    rw [if_pos h, (answerQ_len m x).2]
  have hl : lastQ (didQ m x) j = (x.stamp.toNat, (answerQ m x).2) := by
    rw [hd, lastQ_put, if_pos (show j = j ∧ j < m.last.length from ⟨rfl, by rw [hm.last]; omega⟩)]
  have ho : oldQ (didQ m x) x = ((answerQ m x).2, true) := oldQ_same (by rw [← hj]; exact hl) (by omega)
  have he : doQ m x = (didQ m x, (answerQ m x).2, 0) := by
    unfold doQ
    rw [if_pos hq, ho]
  rw [he]
  exact ⟨by rw [hd], rfl, rfl⟩
/-- either no crew changes, or just one chunk has a move more -/
theorem answerQ_grown (m : AM) (x : Wish) :
    (¬ (x.kind = 4 ∧ (answerQ m x).2.err = 0) ∧ (answerQ m x).1.chunks = m.chunks) ∨ ((answerQ m x).2.err = 0 ∧ x.kind ≠ 3 ∧ ∃ s, m.chunks[(x.block - 1).toNat]? = some s ∧ (answerQ m x).1.chunks = m.chunks.set (x.block - 1).toNat (movedS s x.old x.new)) := by
  unfold answerQ
  split
  · exact .inl ⟨fun h => by simp [errA] at h, rfl⟩
  · rename_i s hs
    split
    · rename_i h3
      exact .inl ⟨fun h => by omega, rfl⟩
    · rename_i h3
      split
      · exact .inl ⟨fun h => by simp [errA] at h, rfl⟩
      · split
        · exact .inl ⟨fun h => by simp [errA] at h, rfl⟩
        · split
          · exact .inl ⟨fun h => by simp [errA] at h, rfl⟩
          · exact .inr ⟨rfl, h3, s, hs, rfl⟩

end Go.Proofs.YtlaodmmjhjpfmaaGreat

/- Plain facts for AtlasEpochs: one wish adds one epoch at most; what ever served. -/
namespace Go.Proofs.YtlaodmmjhjpfmaaGreat
set_option linter.unusedVariables false
set_option linter.unusedSimpArgs false
open Go.RowKit Go.Maps

theorem crewsL_prefix (l : List Int) (a : List (Int × Int)) (o n : Int) : (crewsL l (a ++ [(o, n)])).take (crewsL l a).length = crewsL l a := by
  rw [crewsL_append, List.take_left']
  rfl
/-- how a chunk's crews may grow -/
def GrownS (s s' : Srv) (d : Nat) : Prop := s'.f = s.f ∧ (crewsL s'.first s'.moves).take (crewsL s.first s.moves).length = crewsL s.first s.moves ∧ s'.moves.length = s.moves.length + d
theorem GrownS.refl (s : Srv) : GrownS s s 0 := ⟨rfl, List.take_of_length_le (Nat.le_refl _), rfl⟩
theorem GrownS.moved (s : Srv) (o n : Int) : GrownS s (movedS s o n) 1 := ⟨rfl, crewsL_prefix s.first s.moves o n, by simp [movedS]⟩
theorem insL_filter_no (z : Int) (p : Int → Bool) (hz : p z = false) : ∀ l : List Int, (insL z l).filter p = l.filter p
  | [] => by simp [insL, hz]
  | x :: t => by
    unfold insL
    split
    · rw [List.filter_cons_of_neg (by simp [hz])]
    · rw [List.filter_cons, List.filter_cons, insL_filter_no z p hz t]
theorem insL_filter_one (z : Int) (p : Int → Bool) (hz : p z = true) : ∀ l : List Int, (∀ x, x ∈ l → p x = false) → (insL z l).filter p = [z]
  | [], _ => by simp [insL, hz]
  | x :: t, h => by
    have hx := h x (List.mem_cons_self ..)
    have ht : ∀ y, y ∈ t → p y = false := fun y hy => h y (List.mem_cons_of_mem _ hy)
    unfold insL
    split
    · rw [List.filter_cons_of_pos hz, List.filter_eq_nil_iff.2 fun y hy => by rw [h y hy]; simp]
    · rw [List.filter_cons_of_neg (by simp [hx])]
      exact insL_filter_one z p hz t ht
theorem repl_votes {f : Nat} {l : List Int} {o n : Int} (hok : OkC f l) (hg : goodR l o n) : ((replL l o n).filter fun z => decide (z ∈ l)).length = 3 * f := by
  unfold replL
  rw [insL_filter_no n _ (by simpa using hg.2.1), List.filter_eq_self.2 fun x hx => by simpa using (dropL_mem.1 hx).1]
  have := dropL_len l o hok.pair hg.1
  have := hok.len
  omega
theorem repl_new {l : List Int} {o n : Int} (hg : goodR l o n) : ((replL l o n).filter fun z => !decide (z ∈ l)) = [n] := by
  unfold replL
  exact insL_filter_one n _ (by simpa using hg.2.1) _ fun x hx => by simpa using (dropL_mem.1 hx).1
/-- a chunk's nodes that served in the first k + 1 epochs -/
def servedK (s : Srv) (k : Nat) : List Int := s.first ++ (s.moves.take k).map (·.2)
theorem servedK_all (s : Srv) (k : Nat) (h : s.moves.length ≤ k) : servedK s k = servedS s := by unfold servedK servedS; rw [List.take_of_length_le h]
theorem servedK_next (s : Srv) (k : Nat) (o n : Int) (h : s.moves[k]? = some (o, n)) : servedK s (k + 1) = servedK s k ++ [n] := by
  unfold servedK
  obtain ⟨hl, he⟩ := List.getElem?_eq_some_iff.1 h
  rw [List.take_succ_eq_append_getElem hl, List.map_append, he, List.append_assoc]
  rfl
theorem servedA_two {m : AM} {s0 s1 : Srv} (h2 : m.chunks.length = 2) (h0 : m.chunks[0]? = some s0) (h1 : m.chunks[1]? = some s1) : servedA m.chunks = servedS s0 ++ servedS s1 := by
  obtain ⟨cs, hcs⟩ : ∃ cs, cs = m.chunks := ⟨_, rfl⟩
  rw [← hcs] at h2 h0 h1 ⊢
  match cs, h2 with
  | [a, b], _ =>
    obtain rfl := Option.some.inj h0
    obtain rfl := Option.some.inj h1
    simp [servedA]
/-- one fault in each crew -/
def OneF (m : AM) : Prop := ∀ s, s ∈ m.chunks → s.f = 1
theorem OneF.step {m : AM} {x : Wish} (h : OneF m) : OneF (doQ m x).1 := by
  have ha : OneF (answerQ m x).1 := by
    rcases answerQ_grown m x with ⟨_, he⟩ | ⟨_, _, s, hs, he⟩
    · intro q hq; rw [he] at hq; exact h q hq
    · intro q hq
      rw [he] at hq
      rcases mem_set_of hq with rfl | hq
      · exact h s (List.mem_of_getElem? hs)
      · exact h q hq
  unfold doQ
  split
  · unfold didQ
    split
    · exact ha
    · exact h
  · exact h
theorem OneF.fresh : OneF ak0 := by
  intro s hs
  have hs' : s ∈ [(⟨1, [5, 6, 7, 8], []⟩ : Srv), ⟨1, [9, 10, 11, 12], []⟩] := hs
  rcases List.mem_cons.1 hs' with rfl | hs'
  · rfl
  · rw [List.mem_singleton.1 hs']
theorem crew_next {s : Srv} {k : Nat} (hs : SOk s) (h1 : s.f = 1) (hk : k < s.moves.length) : ∃ o n, s.moves[k]? = some (o, n) ∧ goodR (nowL s.first (s.moves.take k)) o n ∧ OkC 1 (nowL s.first (s.moves.take k)) ∧ OkC 1 (nowL s.first (s.moves.take (k + 1))) ∧ nowL s.first (s.moves.take (k + 1)) = replL (nowL s.first (s.moves.take k)) o n := by
  obtain ⟨⟨o, n⟩, hm⟩ : ∃ q, s.moves[k]? = some q := ⟨_, List.getElem?_eq_getElem hk⟩
  have he := (List.getElem?_eq_some_iff.1 hm).2
  refine ⟨o, n, hm, MovesOk.at_ hs.mv hm, ?_, ?_, ?_⟩
  · have := (hs.mv.take k).now hs.crew
    rw [h1] at this; exact this
  · have := (hs.mv.take (k + 1)).now hs.crew
    rw [h1] at this; exact this
  rw [List.take_succ_eq_append_getElem hk, he, nowL_append]

end Go.Proofs.YtlaodmmjhjpfmaaGreat

/- Contract of crew.Votes. -/
namespace Go.Proofs.YtlaodmmjhjpfmaaGreat
set_option linter.unusedVariables false
set_option linter.unusedSimpArgs false
open Go.RowKit Go.Maps

attribute [local irreducible] wpList wpCalm
set_option maxRecDepth 100000 in
set_option maxHeartbeats 400000 in
theorem nIndex_any (A : Option Addr) (n c : Nat) (zs : List Int) (z : Int) (w : World) (h : Reads w w.heap.size 1 A n (zs.map vn)) (hn : n ≤ 1000000) :
    Calls Tryz.prog 136 #[.slice A n c, .int .i64 z] w fun e w' => ∃ r : Int, e = .returned (.int .i64 r) ∧ decide (0 ≤ r) = decide (z ∈ zs) ∧ w = w' := by
  have hzn : zs.length = n := by have := h.1; simpa using this
  have H := Lib.hid h
  have HL := Lib.hid hzn
  clear h hzn
  go_enter Tryz.func136, Tryz.ntmps136
  go_wp2_with fail
  go_loopw [5, 8] (fun _ iv wr => ∃ i : Nat, i ≤ n ∧ iv = .int .i64 (i : Int) ∧ (∀ (k : Nat) (hk : k < zs.length), k < i → zs[k] ≠ z) ∧ wr = w) (fun _ iv _ => n - (intOf iv).toNat)
  case atStart => exact ⟨0, by omega, rfl, fun k hk h => by omega, rfl⟩
  case round =>
    obtain ⟨i, hi, rfl, hno, rfl⟩ := hrel
    have HNO := Lib.hid hno
    clear hno
    by_cases hin : i < n
    · have hinI : (i : Int) < (n : Int) := by omega
      have h0I : (0 : Int) ≤ (i : Int) := by omega
      have hil : i < zs.length := by have := HL.out; omega
      obtain ⟨ad, hA, hb, hc⟩ := H.out.2 (by omega)
      subst hA
      obtain ⟨y, hy⟩ : ∃ y, y = zs[i] := ⟨_, rfl⟩
      have cc := hc i (.int .i64 y) (by rw [List.getElem?_map, List.getElem?_eq_getElem hil, hy]; rfl)
      have HY := Lib.hid hy
      clear hc hy
      by_cases he : z = y
      · have heb : (z == y) = true := by simpa using he
        have HM := Lib.hid (show z ∈ zs by rw [he, HY.out]; exact List.getElem_mem hil)
        clear he
        go_wp2_with fail
        go_ret
        refine ⟨_, rfl, ?_, rfl⟩
        simp [HM.out]
      · have heb : (z == y) = false := by simpa using he
        have HN2 := Lib.hid (show ∀ (k : Nat) (hk : k < zs.length), k < i + 1 → zs[k] ≠ z from fun k hk h => by
          rcases Nat.lt_or_ge k i with e | e
          · exact HNO.out k hk e
          · obtain rfl : k = i := by omega
            rw [← HY.out]; exact fun e => he e.symm)
        clear he
        go_wp2_with fail
        go_roundw
        case rel => exact ⟨i + 1, by omega, by go_num, HN2.out, by first | trivial | rfl⟩
        case measure => simp [intOf]; omega
    · have hinI : ¬ (i : Int) < (n : Int) := by omega
      have HM := Lib.hid (show ¬ z ∈ zs from fun hm => by
        obtain ⟨k, hk, e⟩ := List.mem_iff_getElem.1 hm
        exact HNO.out k hk (by have := HL.out; omega) e)
      go_wp2_with fail
      go_ret
      refine ⟨_, rfl, ?_, rfl⟩
      simp [HM.out]

set_option maxRecDepth 100000 in
set_option maxHeartbeats 400000 in
theorem nContains_any (A : Option Addr) (n c : Nat) (zs : List Int) (z : Int) (w : World) (h : Reads w w.heap.size 1 A n (zs.map vn)) (hn : n ≤ 1000000) :
    Calls Tryz.prog 90 #[.slice A n c, .int .i64 z] w fun e w' => e = .returned (.bool (decide (z ∈ zs))) ∧ w = w' := by
  have HI := Lib.hid (nIndex_any A n c zs z w h hn)
  obtain ⟨b, hb⟩ : ∃ b, b = decide (z ∈ zs) := ⟨_, rfl⟩
  rw [← hb] at HI ⊢
  clear h hb
  go_enter Tryz.func90, Tryz.ntmps90
  go_wp2_with fail
  refine HI.out.mono ?_
  rintro _ _ ⟨r, rfl, h1, rfl⟩
  have H1 := Lib.hid h1
  clear h1 HI
  go_wp2_with fail
  go_ret
  exact ⟨ret_bool (by first | exact H1.out | (rw [← H1.out])), rfl⟩

set_option maxRecDepth 100000 in
set_option maxHeartbeats 1000000 in
theorem crVotes_any (f : Nat) (A : Option Addr) (n c : Nat) (zs : List Int) (D : Option Addr) (k d : Nat) (rs : List Int) (w : World) (h : Reads w w.heap.size 1 A n (zs.map vn)) (hok : OkC f zs) (hr : Reads w w.heap.size 1 D k (rs.map vn)) (hk : k ≤ 1000000) :
    Calls Tryz.prog 27 #[.agg (crC f A n c), .slice D k d] w fun e w' => e = .returned (.int .i64 ((zs.filter (fun z => decide (z ∈ rs))).length : Int)) ∧ Below w.heap.size w w' := by
  have hzn : zs.length = n := by have := h.1; simpa using this
  have hs := hok.short
  have HX := Lib.hid (below_lit w (.cells (crC f A n c) 57))
  have HK := Lib.hid (Blk.newAt rfl : Blk (w.alloc (.cells (crC f A n c) 57)) w.heap.size 57 (crC f A n c))
  have HR := Lib.hid (fun (W : World) (hb : Below w.heap.size w W) => (h.below hb).more hb.size)
  have HRR := Lib.hid (fun (W : World) (hb : Below w.heap.size w W) => (hr.below hb).more hb.size)
  have HC := Lib.hid (fun (W : World) (hb : Below w.heap.size w W) => crCheck_any f A n c zs W ((h.below hb).more hb.size) (by omega))
  rw [okCB_of hok, if_pos rfl] at HC
  have HL := Lib.hid hzn
  obtain ⟨g, hg⟩ : ∃ g, g = w.heap.size := ⟨_, rfl⟩
  obtain ⟨C, hC⟩ : ∃ C, C = crC f A n c := ⟨_, rfl⟩
  have hcs : C.size = 2 := by rw [hC]; rfl
  have hC1 : C[1]? = some (.slice A n c) := by rw [hC]; rfl
  rw [← hC] at HX HK HC ⊢
  have hn7 : n ≤ 7 := by omega
  clear h hr hok hzn hC hs
  have HC1 := Lib.hid hC1
  clear hC1
  go_enter Tryz.func27, Tryz.ntmps27
  go_upto_region 1 with fail
  generalize World.alloc w _ = w1 at HX HK ⊢
  rw [← hg] at HK ⊢
  have hgl := HK.out.lt
  clear hg
  go_wp2_with (refine wpList_load_part (o := ⟨some 8, _, _, _, _, _⟩) rfl 57 (.tmp 2) rfl g 0 2 rfl 57 _ C _ HK.out Tryz.underlying57 rfl rfl hcs (fun _ _ => by rw [Nat.zero_add]; try rfl) ?_)
  refine (HC.out w1 HX.out).mono ?_
  rintro _ w2 ⟨rfl, hb2⟩
  have HB2 := Lib.hid (HX.out.trans (hb2.mono HX.out.size))
  have c1 : w2.cell? ⟨g, 1, none⟩ = some (.slice A n c) := ((HK.out.below' hb2).cell 1).trans HC1.out
  clear hb2 HC HK
  go_wp2_with fail
  go_loopw [5, 14] (fun ov iv wr => ∃ i : Nat, i ≤ n ∧ iv = .int .i64 (i : Int) ∧ ov = .int .i64 (((zs.take i).filter (fun z => decide (z ∈ rs))).length : Int) ∧ wr = w2) (fun _ iv _ => n - (intOf iv).toNat)
  case atStart => exact ⟨0, by omega, rfl, rfl, rfl⟩
  case round =>
    obtain ⟨i, hi, rfl, rfl, rfl⟩ := hrel
    obtain ⟨q, hq⟩ : ∃ q, q = ((zs.take i).filter (fun z => decide (z ∈ rs))).length := ⟨_, rfl⟩
    have hql : q ≤ i := by
      rw [hq]
      exact Nat.le_trans (List.length_filter_le _ _) (by rw [List.length_take]; omega)
    rw [← hq]
    have HQ := Lib.hid hq
    clear hq c1
    by_cases hin : i < n
    · have hinI : (i : Int) < (n : Int) := by omega
      have h0I : (0 : Int) ≤ (i : Int) := by omega
      have hil : i < zs.length := by have := HL.out; omega
      obtain ⟨ad, hA, hb, hc⟩ := (HR.out wr HB2.out).2 (by omega)
      subst hA
      obtain ⟨y, hy⟩ : ∃ y, y = zs[i] := ⟨_, rfl⟩
      have cc := hc i (.int .i64 y) (by rw [List.getElem?_map, List.getElem?_eq_getElem hil, hy]; rfl)
      have HCT := Lib.hid (nContains_any D k d rs y wr (HRR.out wr HB2.out) hk)
      have htk : zs.take (i + 1) = zs.take i ++ [y] := by rw [hy]; exact List.take_succ_eq_append_getElem hil
      have HTK := Lib.hid htk
      clear hc hy htk
      by_cases hm : y ∈ rs
      · rw [decide_eq_true hm] at HCT
        have HQ2 := Lib.hid (show ((zs.take (i + 1)).filter (fun z => decide (z ∈ rs))).length = q + 1 by
          rw [HTK.out, List.filter_append, List.length_append, ← HQ.out, List.filter_cons_of_pos (by simpa using hm)]; rfl)
        clear hm
        go_wp2_with fail
        refine HCT.out.mono ?_
        rintro _ _ ⟨rfl, rfl⟩
        go_wp2_with fail
        go_roundw
        case rel => exact ⟨i + 1, by omega, by go_num, by rw [HQ2.out]; go_num, by first | trivial | rfl⟩
        case measure => simp [intOf]; omega
      · rw [decide_eq_false hm] at HCT
        have HQ2 := Lib.hid (show ((zs.take (i + 1)).filter (fun z => decide (z ∈ rs))).length = q by
          rw [HTK.out, List.filter_append, List.length_append, ← HQ.out, List.filter_cons_of_neg (by simpa using hm)]; rfl)
        clear hm
        go_wp2_with fail
        refine HCT.out.mono ?_
        rintro _ _ ⟨rfl, rfl⟩
        go_wp2_with fail
        go_roundw
        case rel => exact ⟨i + 1, by omega, by go_num, by rw [HQ2.out], by first | trivial | rfl⟩
        case measure => simp [intOf]; omega
    · obtain rfl : i = n := by omega
      have hinI : ¬ (i : Int) < (i : Int) := by omega
      have HQ3 := Lib.hid (show (zs.filter (fun z => decide (z ∈ rs))).length = q by rw [HQ.out, List.take_of_length_le (by have := HL.out; omega)])
      go_wp2_with fail
      go_ret
      exact ⟨by rw [HQ3.out]; rfl, HB2.out⟩

end Go.Proofs.YtlaodmmjhjpfmaaGreat

/- Contract of bastideref08.Same: of crews. -/
namespace Go.Proofs.YtlaodmmjhjpfmaaGreat
set_option linter.unusedVariables false
set_option linter.unusedSimpArgs false
open Go.RowKit Go.Maps

attribute [local irreducible] wpList wpCalm
set_option maxRecDepth 100000 in
set_option maxHeartbeats 1000000 in
theorem crSame_any (e1 e2 : Int) (A : Option Addr) (n c : Nat) (D : Option Addr) (m d : Nat) (xs ys : List Int) (w : World) (B : Nat) (hx : Reads w B 1 A n (xs.map vn)) (hy : Reads w B 1 D m (ys.map vn)) (hB : B ≤ w.heap.size) (hn : n ≤ maxLen) (hm : m ≤ maxLen) :
    Calls Tryz.prog 88 #[.agg (crC e1 A n c), .agg (crC e2 D m d)] w fun e w' => e = .returned (.bool (decide (e1 = e2 ∧ xs = ys))) ∧ Below w.heap.size w w' := by
  have HEI := Lib.hid (fun W (hb : Below w.heap.size w W) => eqInts_any A D n m c d xs ys W B B (hx.below (hb.mono hB)) (hy.below (hb.mono hB)) hn hm)
  have hX : Below w.heap.size w ((w.alloc (.cells (crC e1 A n c) 57)).alloc (.cells (crC e2 D m d) 57)) := ((Below.refl _ _).alloc (Nat.le_refl _) _).alloc (by simp) _
  have k1 : Blk ((w.alloc (.cells (crC e1 A n c) 57)).alloc (.cells (crC e2 D m d) 57)) w.heap.size 57 (crC e1 A n c) := (Blk.newAt rfl).alloc _
  have k2 : Blk ((w.alloc (.cells (crC e1 A n c) 57)).alloc (.cells (crC e2 D m d) 57)) (w.heap.size + 1) 57 (crC e2 D m d) := Blk.newAt (by simp)
  have HX := Lib.hid hX
  have K1 := Lib.hid k1
  have K2 := Lib.hid k2
  obtain ⟨C, hC⟩ : ∃ C, C = crC e1 A n c := ⟨_, rfl⟩
  obtain ⟨E, hE⟩ : ∃ E, E = crC e2 D m d := ⟨_, rfl⟩
  have c0 : C[0]? = some (.int .i64 e1) := by rw [hC]; rfl
  have c1 : C[1]? = some (.slice A n c) := by rw [hC]; rfl
  have d0 : E[0]? = some (.int .i64 e2) := by rw [hE]; rfl
  have d1 : E[1]? = some (.slice D m d) := by rw [hE]; rfl
  rw [← hC, ← hE] at HX K1 K2 ⊢
  have C0 := Lib.hid c0
  have C1 := Lib.hid c1
  have D0 := Lib.hid d0
  have D1 := Lib.hid d1
  obtain ⟨g2, hg2⟩ : ∃ g, g = w.heap.size := ⟨_, rfl⟩
  obtain ⟨g3, hg3⟩ : ∃ g, g = w.heap.size + 1 := ⟨_, rfl⟩
  clear hx hy hX k1 k2 hC hE c0 c1 d0 d1
  go_enter Tryz.func88, Tryz.ntmps88
  go_upto_region 1 with fail
  generalize World.alloc (World.alloc w _) _ = w1 at HX K1 K2 ⊢
  rw [← hg3] at K2 ⊢
  rw [← hg2] at K1 ⊢
  clear hg2 hg3
  have e0 := (K1.out.cell 0).trans C0.out
  have e1' := (K1.out.cell 1).trans C1.out
  have f0 := (K2.out.cell 0).trans D0.out
  have f1 := (K2.out.cell 1).trans D1.out
  have HE := Lib.hid (HEI.out w1 HX.out)
  clear K1 K2 HEI
  by_cases he : e1 = e2
  · have heb : (e1 == e2) = true := by simpa using he
    have HH := Lib.hid he
    clear he
    go_wp2_with fail
    refine HE.out.mono ?_
    rintro _ _ ⟨rfl, k, rfl⟩
    go_wp2_with fail
    go_ret
    exact ⟨ret_bool (by simp [HH.out]), below_drewN HX.out _⟩
  · have heb : (e1 == e2) = false := by simpa using he
    have HH := Lib.hid he
    clear he
    go_wp2_with fail
    go_ret
    exact ⟨ret_bool (by simp [HH.out]), HX.out⟩

end Go.Proofs.YtlaodmmjhjpfmaaGreat

/- Contract of bastideref17.SameCrews. -/
namespace Go.Proofs.YtlaodmmjhjpfmaaGreat
set_option linter.unusedVariables false
set_option linter.unusedSimpArgs false
open Go.RowKit Go.Maps

attribute [local irreducible] wpList wpCalm
theorem crews_at {w : World} {A : Option Addr} {n i : Nat} {cs : List (Int × List Int)} (h : CrewsAt w A n cs) (hi : i < cs.length) : ∃ q Ai ci C, A = some ⟨q, 0, none⟩ ∧ C = crC cs[i].1 Ai cs[i].2.length ci ∧ (∃ cur, Blk w q 57 cur ∧ ∀ j, j < 2 → cur[i * 2 + j]? = C[j]?) ∧ Reads w w.heap.size 1 Ai cs[i].2.length (cs[i].2.map vn) ∧ cs[i].2.length ≤ 17592186044416 := by
  obtain ⟨q, cur, h1, h2, h3⟩ := h.row (by have := h.len; omega)
  obtain ⟨Ai, ci, q1, q2, q3, q4⟩ := h3 i cs[i].1 cs[i].2 (List.getElem?_eq_getElem hi)
  refine ⟨q, Ai, ci, _, h1, rfl, ⟨cur, h2, fun j hj => ?_⟩, q3, q4⟩
  obtain rfl | rfl : j = 0 ∨ j = 1 := by omega
  · exact q1
  · exact q2

set_option maxRecDepth 100000 in
set_option maxHeartbeats 1000000 in
theorem sameCrews_any (A D : Option Addr) (n c m d : Nat) (cs ds : List (Int × List Int)) (w : World) (hx : CrewsAt w A n cs) (hy : CrewsAt w D m ds) (hn : n ≤ 1000000) (hm : m ≤ 1000000) :
    Calls Tryz.prog 25 #[.slice A n c, .slice D m d] w fun e w' => e = .returned (.bool (decide (cs = ds))) ∧ Below w.heap.size w w' := by
  have hxl := hx.len
  have hyl := hy.len
  by_cases hnn : n = m
  · subst hnn
    have hne : ((n : Int) != (n : Int)) = false := by simp
    have HX := Lib.hid hx
    have HY := Lib.hid hy
    have HXL := Lib.hid hxl
    have HYL := Lib.hid hyl
    clear hx hy hxl hyl
    go_enter Tryz.func25, Tryz.ntmps25
    go_wp2_with fail
    go_loopw [5] (fun iv wr => ∃ i : Nat, i ≤ n ∧ iv = .int .i64 i ∧ cs.take i = ds.take i ∧ Below w.heap.size w wr) (fun iv _ => n - (intOf iv).toNat)
    case atStart => exact ⟨0, by omega, rfl, by simp, Below.refl _ _⟩
    case round =>
      obtain ⟨i, hi, rfl, heq, hbel⟩ := hrel
      have HE := Lib.hid heq
      have HB := Lib.hid hbel
      have hsz := hbel.size
      clear heq
      by_cases hin : i < n
      · have hinI : (i : Int) < (n : Int) := by omega
        have h0I : (0 : Int) ≤ (i : Int) := by omega
        have hix : i < cs.length := by have := HXL.out; omega
        have hiy : i < ds.length := by have := HYL.out; omega
        obtain ⟨q1, A1, c1, C1, rfl, hC1, ⟨cur1, hb1, hv1⟩, hr1, hl1⟩ := crews_at (HX.out.below hbel) hix
        obtain ⟨q2, A2, c2, C2, rfl, hC2, ⟨cur2, hb2, hv2⟩, hr2, hl2⟩ := crews_at (HY.out.below hbel) hiy
        have hs1 : C1.size = 2 := by rw [hC1]; rfl
        have hs2 : C2.size = 2 := by rw [hC2]; rfl
        have HSA := Lib.hid (fun (W : World) (hb : Below wr.heap.size wr W) => crSame_any cs[i].1 ds[i].1 A1 cs[i].2.length c1 A2 ds[i].2.length c2 cs[i].2 ds[i].2 W wr.heap.size (hr1.below hb) (hr2.below hb) hb.size (by unfold maxLen; omega) (by unfold maxLen; omega))
        rw [← hC1, ← hC2] at HSA
        have hb1 := Lib.hid hb1
        have hb2 := Lib.hid hb2
        have hv1 := Lib.hid hv1
        have hv2 := Lib.hid hv2
        obtain ⟨bq, hbq⟩ : ∃ b, b = decide (cs[i].1 = ds[i].1 ∧ cs[i].2 = ds[i].2) := ⟨_, rfl⟩
        rw [← hbq] at HSA
        have hbe : bq = decide (cs[i] = ds[i]) := by
          rw [hbq]
          exact decide_eq_decide.2 Prod.ext_iff.symm
        have HBE := Lib.hid hbe
        clear hbel hC1 hC2 hr1 hr2 hl1 hl2 hbq hbe
        go_upto_region 6 with fail
        refine wp_region_calm0 9 27 (by kernel_rfl) (by kernel_rfl) (by kernel_rfl) (by first | rfl | simp) ?_
        simp only [List.take_succ_cons, List.take_zero, List.drop_succ_cons, List.drop_zero]
        refine wpCalm_value rfl rfl (.slice (some ⟨q1, 0, none⟩) n c) (fun W _ => rfl) ?_
        try simp only [Act.put, List.setIfInBounds_toArray, List.set_cons_zero, List.set_cons_succ]
        refine wpCalm_value rfl rfl (.int .i64 (i : Int)) (fun W _ => rfl) ?_
        try simp only [Act.put, List.setIfInBounds_toArray, List.set_cons_zero, List.set_cons_succ]
        refine wpCalm_value rfl rfl (.pointer (some ⟨q1, i * 2, none⟩)) (fun W _ => by go_simp) ?_
        try simp only [Act.put, List.setIfInBounds_toArray, List.set_cons_zero, List.set_cons_succ]
        refine wpCalm_load_part rfl 57 (.tmp 19) rfl q1 (i * 2) 2 rfl 57 _ C1 _ hb1.out Tryz.underlying57 rfl rfl hs1 hv1.out ?_
        try simp only [Act.put, List.setIfInBounds_toArray, List.set_cons_zero, List.set_cons_succ]
        refine wpCalm_value rfl rfl (.slice (some ⟨q2, 0, none⟩) n d) (fun W _ => rfl) ?_
        try simp only [Act.put, List.setIfInBounds_toArray, List.set_cons_zero, List.set_cons_succ]
        refine wpCalm_value rfl rfl (.int .i64 (i : Int)) (fun W _ => rfl) ?_
        try simp only [Act.put, List.setIfInBounds_toArray, List.set_cons_zero, List.set_cons_succ]
        refine wpCalm_value rfl rfl (.pointer (some ⟨q2, i * 2, none⟩)) (fun W _ => by go_simp) ?_
        try simp only [Act.put, List.setIfInBounds_toArray, List.set_cons_zero, List.set_cons_succ]
        refine wpCalm_load_part rfl 57 (.tmp 23) rfl q2 (i * 2) 2 rfl 57 _ C2 _ hb2.out Tryz.underlying57 rfl rfl hs2 hv2.out ?_
        try simp only [Act.put, List.setIfInBounds_toArray, List.set_cons_zero, List.set_cons_succ]
        refine wpCalm_call rfl rfl 88 #[.agg C1, .agg C2] (fun W => by go_simp) (.bool bq) (fun W hb => HSA.out W hb) ?_
        try simp only [Act.put, List.setIfInBounds_toArray, List.set_cons_zero, List.set_cons_succ]
        refine wpCalm_nil ?_
        intro w2 hb2'
        have HB2 := Lib.hid (HB.out.trans (hb2'.mono hsz))
        clear hb2' HSA hb1 hb2 hv1 hv2
        cases bq with
        | true =>
          have HEQ := Lib.hid (show cs[i] = ds[i] from of_decide_eq_true HBE.out.symm)
          go_wp2_with fail
          go_roundw
          case rel => exact ⟨i + 1, by omega, by go_num, by rw [List.take_succ_eq_append_getElem hix, List.take_succ_eq_append_getElem hiy, HE.out, HEQ.out], HB2.out⟩
          case measure => simp [intOf]; omega
        | false =>
          have HEQ := Lib.hid (show ¬ cs[i] = ds[i] from of_decide_eq_false HBE.out.symm)
          go_wp2_with fail
          go_ret
          refine ⟨ret_bool ?_, HB2.out⟩
          symm
          rw [decide_eq_false_iff_not]
          rintro rfl
          exact HEQ.out rfl
      · obtain rfl : i = n := by omega
        have hinI : ¬ (i : Int) < (i : Int) := by omega
        clear hbel
        go_wp2_with fail
        go_ret
        refine ⟨ret_bool ?_, HB.out⟩
        symm
        rw [decide_eq_true_iff]
        have h1 := HE.out
        rwa [List.take_of_length_le (by have := HXL.out; omega), List.take_of_length_le (by have := HYL.out; omega)] at h1
  · have hne : ((n : Int) != (m : Int)) = true := by rw [bne_iff_ne]; omega
    have HN := Lib.hid (show cs ≠ ds by rintro rfl; omega)
    clear hnn hx hy hxl hyl
    go_enter Tryz.func25, Tryz.ntmps25
    go_wp2_with fail
    go_ret
    exact ⟨ret_bool (by symm; rw [decide_eq_false_iff_not]; exact HN.out), Below.refl _ _⟩

end Go.Proofs.YtlaodmmjhjpfmaaGreat

/- Crews in memory of their own, read as a list of crews; a part of them. -/
namespace Go.Proofs.YtlaodmmjhjpfmaaGreat
set_option linter.unusedVariables false
set_option linter.unusedSimpArgs false
open Go.RowKit Go.Maps

def crewsOf (f : Nat) (ls : List (List Int)) : List (Int × List Int) := ls.map fun l => ((f : Int), l)
theorem OwnCr.crewsAt {w : World} {B f : Nat} {v : Value} {ls : List (List Int)} {nA : Nat → Option Addr} {nC : Nat → Nat} (h : OwnCr w B v f ls nA nC) (hl : ∀ l, l ∈ ls → l.length ≤ 1000) : ∃ A c, v = .slice A ls.length c ∧ ∀ k, k ≤ ls.length → CrewsAt w A k (crewsOf f (ls.take k)) := by
  rcases h.row.2 with ⟨e, h0⟩ | ⟨gl, cap, cur, e, h2, h3, h4, h5, h6, h7⟩
  · refine ⟨none, 0, by rw [e, h0], fun k hk => ⟨by simp [crewsOf]; omega, fun h1 => by omega⟩⟩
  · refine ⟨some ⟨gl, 0, none⟩, cap, e, fun k hk => ⟨by simp [crewsOf]; omega, fun h1 => ⟨gl, cur, rfl, h3, fun i f' l hi => ?_⟩⟩⟩
    unfold crewsOf at hi
    rw [List.getElem?_map] at hi
    cases hq : (ls.take k)[i]? with
    | none => rw [hq] at hi; cases hi
    | some l' =>
      rw [hq] at hi
      obtain ⟨rfl, rfl⟩ := Prod.mk.inj (Option.some.inj hi)
      rw [List.getElem?_take] at hq
      split at hq
      · have hg := crRows_get f nA nC ls 0 i l' hq
        rw [Nat.zero_add] at hg
        have hil := (List.getElem?_eq_some_iff.1 hq).1
        have ht : ∀ q, q < ls.length * 2 → cur[q]? = (crRows f nA nC 0 ls)[q]? := fun q hq' => by
          rw [← h7, List.getElem?_take, if_pos hq', Array.getElem?_toList]
        have hr := own_slice_n (h.nodes i l' hq)
        obtain ⟨A', c', e', _, _, hrd, _⟩ := hr
        injection e' with e1 _ e2
        refine ⟨nA i, nC i, by rw [ht _ (by omega)]; exact hg.1, by rw [ht _ (by omega)]; exact hg.2, by rw [e1]; exact hrd, by have := hl l' (List.mem_of_getElem? hq); omega⟩
      · cases hq

end Go.Proofs.YtlaodmmjhjpfmaaGreat

/- AtlasEpochs: what holds from world to world. -/
namespace Go.Proofs.YtlaodmmjhjpfmaaGreat
set_option linter.unusedVariables false
set_option linter.unusedSimpArgs false
open Go.RowKit Go.Maps

attribute [local irreducible] wpList wpCalm
theorem ALSt.crews_ {w0 W : World} {V : ALoc} {N : Nat → Prop} {m : AM} {a i : Nat} {s : Srv} {z : Int} (h : ALSt w0 V N m a W) (hs : m.chunks[i]? = some s) (hz : z = (i : Int) + 1) :
    Calls Tryz.prog 23 #[.pointer (some ⟨V.g, 0, none⟩), .int .i64 z] W (CrewsPost W s) := by
  subst hz
  obtain ⟨S, hd⟩ := h.vat.dat
  exact aCrews_any W V.g V.gc i _ N m S s hd hs
theorem OwnCr.shape {w : World} {B f : Nat} {v : Value} {ls : List (List Int)} {nA : Nat → Option Addr} {nC : Nat → Nat} (h : OwnCr w B v f ls nA nC) (h0 : 0 < ls.length) (hl : ∀ l, l ∈ ls → l.length ≤ 1000) : ∃ g cap, v = .slice (some ⟨g, 0, none⟩) ls.length cap ∧ ls.length ≤ cap ∧ ∀ k, k ≤ ls.length → CrewsAt w (some ⟨g, 0, none⟩) k (crewsOf f (ls.take k)) := by
  obtain ⟨A, c, hv, hc⟩ := h.crewsAt hl
  rcases h.row.2 with ⟨e, h1⟩ | ⟨gl, cap, cur, e, h2, h3, h4, h5, h6, h7⟩
  · omega
  · rw [hv] at e
    injection e with e1 e2 e3
    subst e1 e3
    exact ⟨gl, c, hv, h4, hc⟩
theorem OwnCr.elem {w : World} {B f g : Nat} {n c : Nat} {ls : List (List Int)} {nA : Nat → Option Addr} {nC : Nat → Nat} {i : Nat} {l : List Int} (h : OwnCr w B (.slice (some ⟨g, 0, none⟩) n c) f ls nA nC) (hi : ls[i]? = some l) : ∃ Ai ci C cur, C = crC f Ai l.length ci ∧ C.size = 2 ∧ Blk w g 57 cur ∧ (∀ j, j < 2 → cur[i * 2 + j]? = C[j]?) ∧ w.cell? ⟨g, i * 2 + 1, none⟩ = some (.slice Ai l.length ci) ∧ Reads w w.heap.size 1 Ai l.length (l.map vn) := by
  have hil : i < ls.length := (List.getElem?_eq_some_iff.1 hi).1
  rcases h.row.2 with ⟨e, h1⟩ | ⟨gl, cap, cur, e, h2, h3, h4, h5, h6, h7⟩
  · omega
  · injection e with e1 e2 e3
    injection e1 with e1
    injection e1 with e1 _ _
    subst e1
    have hB : Blk w g 57 cur := h3
    have hg := crRows_get f nA nC ls 0 i l hi
    rw [Nat.zero_add] at hg
    have ht : ∀ q, q < ls.length * 2 → cur[q]? = (crRows f nA nC 0 ls)[q]? := fun q hq' => by
      rw [← h7, List.getElem?_take, if_pos hq', Array.getElem?_toList]
    refine ⟨nA i, nC i, _, cur, rfl, rfl, hB, fun j hj => ?_, ?_, ?_⟩
    · obtain rfl | rfl : j = 0 ∨ j = 1 := by omega
      · rw [Nat.add_zero, ht _ (by omega)]; exact hg.1
      · rw [ht _ (by omega)]; exact hg.2
    · rw [hB.cell, ht _ (by omega)]; exact hg.2
    · exact (own_reads (h.nodes i l hi)).2
/-- what ever served, growing beside crews that stay -/
structure SvSt (wl w16 w17 : World) (sv : Value) (zs : List Int) (wr : World) : Prop where
  low : Below wl.heap.size wl wr
  own : OwnN wr wl.heap.size sv zs
  off : ∀ b, sv.ownBlock = some b → b < w16.heap.size ∨ w17.heap.size ≤ b
  all : ∀ b, w16.heap.size ≤ b → b < w17.heap.size → wr.heap[b]? = w17.heap[b]?
  size : w17.heap.size ≤ wr.heap.size
theorem SvSt.below {wl w16 w17 wr W : World} {sv : Value} {zs : List Int} (h : SvSt wl w16 w17 sv zs wr) (hb : Below wr.heap.size wr W) : SvSt wl w16 w17 sv zs W :=
  ⟨h.low.trans (hb.mono h.low.size), h.own.below_ hb, h.off, fun b h1 h2 => (hb.block b (by have := h.size; omega)).trans (h.all b h1 h2), Nat.le_trans h.size hb.size⟩
theorem SvSt.push {wl w16 w17 wr W W' : World} {sv v' : Value} {zs ys : List Int} (h : SvSt wl w16 w17 sv zs wr) (hb : Below wr.heap.size wr W) (hown : W'.ownsRow wl.heap.size 3 1 v' (zs.length + ys.length) (zs.map vn ++ ys.map vn)) (hg : W.grownBy W' sv.ownBlock) (ho : v'.ownBlock = sv.ownBlock ∨ v'.ownBlock = some W.heap.size) : SvSt wl w16 w17 v' (zs ++ ys) W' := by
  have hs := h.size
  have hs2 := hb.size
  have hs3 := hg.size
  refine ⟨grown_below (h.low.trans (hb.mono h.low.size)) (Nat.le_trans h.low.size hs2) hg fun b e => (rowD_lt h.own e).1, ?_, fun b e => ?_, fun b h1 h2 => ?_, by omega⟩
  · unfold OwnN
    rw [List.length_append, List.map_append]
    exact hown
  · rcases ho with e2 | e2
    · exact h.off b (by rw [← e2]; exact e)
    · rw [e] at e2
      have := Option.some.inj e2
      right; omega
  · refine (hg.block b (by omega) fun e => ?_).trans ((hb.block b (by omega)).trans (h.all b h1 h2))
    have := h.off b e.symm
    omega
theorem SvSt.crews {wl w16 w17 wr : World} {sv v : Value} {zs : List Int} {f : Nat} {ls : List (List Int)} {nA : Nat → Option Addr} {nC : Nat → Nat} (h : SvSt wl w16 w17 sv zs wr) (ho : OwnCr w17 w16.heap.size v f ls nA nC) : OwnCr wr w16.heap.size v f ls nA nC :=
  ho.keep h.all
theorem crews_short {s : Srv} (h : SOk s) {l : List Int} (hl : l ∈ crewsL s.first s.moves) : l.length ≤ 1000 := by
  obtain ⟨i, hi, rfl⟩ := List.mem_iff_getElem.1 hl
  have hi2 := hi
  rw [crewsL_len] at hi2
  have e := crewsL_at s.first s.moves i (by omega)
  rw [List.getElem?_eq_getElem hi] at e
  rw [Option.some.inj e]
  have := ((h.mv.take i).now h.crew).short
  omega
theorem servedA_take {cs : List Srv} {k : Nat} {s : Srv} (h : cs[k]? = some s) : servedA (cs.take (k + 1)) = servedA (cs.take k) ++ servedS s := by
  obtain ⟨hl, he⟩ := List.getElem?_eq_some_iff.1 h
  rw [List.take_succ_eq_append_getElem hl, he]
  unfold servedA
  rw [List.map_append, List.flatten_append]
  simp
theorem served_len : ∀ (cs : List Srv), (∀ s, s ∈ cs → SOk s) → (servedA cs).length ≤ 28 * cs.length
  | [], _ => by simp [servedA]
  | s :: t, h => by
    have h1 := h s (List.mem_cons_self ..)
    have := h1.crew.short
    have := h1.len
    have h2 := served_len t fun q hq => h q (List.mem_cons_of_mem _ hq)
    show (servedS s ++ servedA t).length ≤ _
    unfold servedS
    rw [List.length_append, List.length_append, List.length_map, List.length_cons]
    omega
theorem filter_take {p : Int → Bool} {l : List Int} {j : Nat} (h : j < l.length) : (l.take (j + 1)).filter p = (l.take j).filter p ++ (if p l[j] = true then [l[j]] else []) := by
  rw [List.take_succ_eq_append_getElem h, List.filter_append]
  congr 1
  by_cases hp : p l[j] = true
  · rw [if_pos hp, List.filter_cons_of_pos hp]; rfl
  · rw [if_neg hp, List.filter_cons_of_neg (by simpa using hp)]; rfl

end Go.Proofs.YtlaodmmjhjpfmaaGreat

/- Two atlases of one book in a law's memory. -/
namespace Go.Proofs.YtlaodmmjhjpfmaaGreat
set_option linter.unusedVariables false
set_option linter.unusedSimpArgs false
open Go.RowKit Go.Maps

structure ALSt2 (w0 : World) (Va Vb : ALoc) (Na Nb : Nat → Prop) (ma mb : AM) (a : Nat) (W : World) : Prop where
  vata : AAt W Va Na ma
  vatb : AAt W Vb Nb mb
  kk : Vb.k = Va.k
  book : ∃ L a', BookAt W Va.k L a' ∧ a' ≤ a ∧ InBook L (leavesQ ma) ∧ InBook L (leavesQ mb)
  low : Below w0.heap.size w0 W
  nlta : ∀ b, Na b → b < W.heap.size
  nltb : ∀ b, Nb b → b < W.heap.size
  olda : ∀ b, b < w0.heap.size → Na b
  oldb : ∀ b, b < w0.heap.size → Nb b
  newa : ∀ b, Va.all b → w0.heap.size ≤ b
  newb : ∀ b, Vb.all b → w0.heap.size ≤ b
  part : ∀ b, b < W.heap.size → Na b ∨ Nb b
  ab : ∀ b, (b = Va.g ∨ b = Va.gc ∨ Va.T.has b) → Nb b ∧ ¬ Vb.has b
  ba : ∀ b, (b = Vb.g ∨ b = Vb.gc ∨ Vb.T.has b) → Na b ∧ ¬ Va.has b
theorem ALSt2.swap {w0 W : World} {Va Vb : ALoc} {Na Nb : Nat → Prop} {ma mb : AM} {a : Nat} (h : ALSt2 w0 Va Vb Na Nb ma mb a W) : ALSt2 w0 Vb Va Nb Na mb ma a W := by
  obtain ⟨L, a', h1, h2, h3, h4⟩ := h.book
  exact ⟨h.vatb, h.vata, h.kk.symm, ⟨L, a', h.kk ▸ h1, h2, h4, h3⟩, h.low, h.nltb, h.nlta, h.oldb, h.olda, h.newb, h.newa, fun b hb => (h.part b hb).symm, h.ba, h.ab⟩
/-- one atlas is done with: the other stays -/
theorem ALSt2.did {w0 W W' : World} {Va Vb : ALoc} {Na Nb : Nat → Prop} {ma ma' mb : AM} {a a' q asked : Nat} {L : List (List UInt8)} (h : ALSt2 w0 Va Vb Na Nb ma mb a W) (hin : InBook L (leavesQ mb)) (hd : ADone W W' Va Na ma' L asked q) (hq : asked + q ≤ a') :
    ALSt2 w0 Va Vb Na (fun b => Nb b ∨ (W.heap.size ≤ b ∧ b < W'.heap.size)) ma' mb a' W' := by
  obtain ⟨L', b', h1, h2, h3, h4⟩ := hd.book
  have hs := hd.only.size
  have ho : Only (fun b => Va.hasN Na b ∧ b < W.heap.size) W W' := ⟨hd.only.os, hd.only.tape, hd.only.output, hd.only.size, fun b hb hn => hd.only.block b hb fun e => hn ⟨e, hb⟩⟩
  have hM : ∀ b, (Va.hasN Na b ∧ b < W.heap.size) → Nb b := fun b hb => by
    rcases hb.1 with (e | e | e | e) | e
    · exact (h.ab b (.inl e)).1
    · exact (h.ab b (.inr (.inl e))).1
    · exact (h.ab b (.inr (.inr (.inr (.inr e))))).1
    · exact h.vatb.all b (.inr (.inr (.inl (h.kk ▸ e))))
    · exact (h.part b hb.2).resolve_left e
  have hno : ∀ b, (b = Vb.g ∨ b = Vb.gc ∨ Vb.T.has b) → ¬ (Va.hasN Na b ∧ b < W.heap.size) := fun b hb e => by
    rcases e.1 with e | e
    · exact (h.ba b hb).2 e
    · exact e (h.ba b hb).1
  obtain ⟨S, hdb⟩ := h.vatb.dat
  refine ⟨hd.vat, ⟨⟨S, ?_⟩, h.vatb.tree.only ho (fun b hb => hno b (.inr (.inr hb))), h.vatb.far, fun b hb => .inl (h.vatb.all b hb)⟩, h.kk, ⟨L', b', h1, by omega, h4, hin.more h3⟩, h.low.trans (hd.only.below h.low.size fun b hb hv => ?_), fun b hn => by have := h.nlta b hn; omega, fun b hn => hn.elim (fun e => by have := h.nltb b e; omega) (fun e => e.2), h.olda, fun b hb => .inl (h.oldb b hb), h.newa, h.newb, fun b hb => ?_, fun b hb => ⟨.inl (h.ab b hb).1, (h.ab b hb).2⟩, h.ba⟩
  · exact (hdb.mono (N' := fun b => Nb b ∨ (W.heap.size ≤ b ∧ b < W'.heap.size)) (fun b hb hn => hn.elim id (fun e => by omega)) ⟨.inl hdb.gN.1, .inl hdb.gN.2⟩).only ho (fun b hb => .inl (hM b hb)) (hno _ (.inl rfl)) (hno _ (.inr (.inl rfl)))
  · rcases hv with e | e
    · exact absurd (h.newa b (AAt.has_all (w := W) (m := ma) (N := Na) e)) (by omega)
    · exact e (h.olda b hb)
  · rcases Nat.lt_or_ge b W.heap.size with e | e
    · exact (h.part b e).imp id .inl
    · exact .inr (.inr ⟨e, hb⟩)
theorem ALSt2.later {w0 W W' : World} {Va Vb : ALoc} {Na Nb : Nat → Prop} {ma mb : AM} {a : Nat} (h : ALSt2 w0 Va Vb Na Nb ma mb a W) (hb : Below W.heap.size W W') : ALSt2 w0 Va Vb (fun b => Na b ∨ (W.heap.size ≤ b ∧ b < W'.heap.size)) (fun b => Nb b ∨ (W.heap.size ≤ b ∧ b < W'.heap.size)) ma mb a W' := by
  obtain ⟨L, a', h1, h2, h3, h4⟩ := h.book
  have hs := hb.size
  exact ⟨h.vata.later hb, h.vatb.later hb, h.kk, ⟨L, a', h1.below hb, h2, h3, h4⟩, h.low.trans (hb.mono h.low.size), fun b hn => hn.elim (fun e => by have := h.nlta b e; omega) (fun e => e.2), fun b hn => hn.elim (fun e => by have := h.nltb b e; omega) (fun e => e.2), fun b hb' => .inl (h.olda b hb'), fun b hb' => .inl (h.oldb b hb'), h.newa, h.newb, fun b hb' => by
    rcases Nat.lt_or_ge b W.heap.size with e | e
    · exact (h.part b e).imp .inl .inl
    · exact .inl (.inr ⟨e, hb'⟩), fun b hb' => ⟨.inl (h.ab b hb').1, (h.ab b hb').2⟩, fun b hb' => ⟨.inl (h.ba b hb').1, (h.ba b hb').2⟩⟩

end Go.Proofs.YtlaodmmjhjpfmaaGreat

/- Two atlases of one book: how they begin, Do. -/
namespace Go.Proofs.YtlaodmmjhjpfmaaGreat
set_option linter.unusedVariables false
set_option linter.unusedSimpArgs false
open Go.RowKit Go.Maps

theorem ALSt2.start {w0 w2 wB w3 : World} {Va Vb : ALoc} {Na : Nat → Prop} {ma mb : AM} {a asked : Nat} {L : List (List UInt8)} (h : ALSt w0 Va Na ma a w2) (hb : Below w2.heap.size w2 wB) (hbk : BookAt wB Va.k L asked) (hin : InBook L (leavesQ ma)) (hk : ∀ b, Va.T.has b → ¬ Va.k.has b) (hn : ANew wB w3 Va.k Vb L asked mb) :
    ∃ Na' Nb', ALSt2 w0 Va Vb Na' Nb' ma mb (asked + 30) w3 := by
  have hs := hb.size
  have hs3 := hn.only.size
  have hl := h.later hb
  have hkk := hn.kk
  obtain ⟨L', a', p1, p2, p3, p4⟩ := hn.book
  have hva : ∀ b, Va.all b → b < w2.heap.size := fun b hv => h.nlt b (h.vat.all b hv)
  have hvb : ∀ b, Vb.all b → b < w3.heap.size := ALoc.all_lt hn.vat (hkk ▸ p1)
  have hkb : ∀ b, Va.k.has b → Va.all b := fun b e => .inr (.inr (.inl e))
  have hbnew : ∀ b, (b = Vb.g ∨ b = Vb.gc ∨ Vb.T.has b) → wB.heap.size ≤ b := fun b hb' => by
    rcases hb' with e | e | e
    · rw [e]; exact hn.new.1
    · rw [e]; exact hn.new.2.1
    · exact hn.new.2.2 b e
  have hanok : ∀ b, (b = Va.g ∨ b = Va.gc ∨ Va.T.has b) → ¬ Va.k.has b := fun b hb' e => by
    rcases hb' with e' | e' | e'
    · exact h.vat.far.2.2.2.1 (e' ▸ e)
    · exact h.vat.far.2.2.2.2 (e' ▸ e)
    · exact hk b e' e
  have haall : ∀ b, (b = Va.g ∨ b = Va.gc ∨ Va.T.has b) → Va.all b := fun b hb' => by
    rcases hb' with e | e | e
    · exact .inl e
    · exact .inr (.inl e)
    · exact .inr (.inr (.inr e))
  obtain ⟨S, hd⟩ := (hl.vat.mono (N' := fun b => (Na b ∨ (w2.heap.size ≤ b ∧ b < wB.heap.size)) ∨ (wB.heap.size ≤ b ∧ b < w3.heap.size)) (fun b hb' hn' => hn'.elim id (fun e => by omega)) (fun b hv => .inl (hl.vat.all b hv))).dat
  refine ⟨fun b => (Na b ∨ (w2.heap.size ≤ b ∧ b < wB.heap.size)) ∨ (wB.heap.size ≤ b ∧ b < w3.heap.size), fun b => Vb.all b ∨ b < wB.heap.size, ⟨⟨S, hd.only hn.only (fun b e => .inl (.inl (h.vat.all b (hkb b e)))) (hanok _ (.inl rfl)) (hanok _ (.inr (.inl rfl)))⟩, hl.vat.tree.only hn.only (fun b hb' => hanok b (.inr (.inr hb'))), h.vat.far, fun b hv => .inl (.inl (h.vat.all b hv))⟩, hn.vat, hkk, ⟨L', a', p1, by omega, hin.more p3, p4⟩, hl.low.trans (hn.only.below hl.low.size fun b hb' hv => by have := h.new b (hkb b hv); omega), fun b hb' => ?_, fun b hb' => hb'.elim (hvb b) (fun e => by omega), fun b hb' => .inl (.inl (h.old b hb')), fun b hb' => .inr (by have := hl.low.size; omega), h.new, fun b hb' => ?_, fun b hb' => ?_, fun b hb' => ⟨.inr (by have := hva b (haall b hb'); omega), fun hv => ?_⟩, fun b hb' => ⟨.inr ⟨hbnew b hb', ?_⟩, fun hv => ?_⟩⟩
  · rcases hb' with (e | e) | e
    · have := h.nlt b e; omega
    · omega
    · omega
  · rcases hb' with e | e | e | e
    · have := hbnew b (.inl e); have := hl.low.size; omega
    · have := hbnew b (.inr (.inl e)); have := hl.low.size; omega
    · exact h.new b (hkb b (hkk ▸ e))
    · have := hbnew b (.inr (.inr e)); have := hl.low.size; omega
  · rcases Nat.lt_or_ge b wB.heap.size with e | e
    · exact .inr (.inr e)
    · exact .inl (.inr ⟨e, hb'⟩)
  · have hlt := hva b (haall b hb')
    rcases hv with e | e | e | e
    · have := hbnew b (.inl e); omega
    · have := hbnew b (.inr (.inl e)); omega
    · have := hbnew b (.inr (.inr (.inr (.inr e)))); omega
    · exact hanok b hb' (hkk ▸ e)
  · rcases hb' with e | e | e
    · exact hvb b (.inl e)
    · exact hvb b (.inr (.inl e))
    · exact hvb b (.inr (.inr (.inr e)))
  · have := hva b (AAt.has_all (w := w2) (m := ma) (N := Na) hv)
    have := hbnew b hb'
    omega
theorem ALSt2.more {w0 W : World} {Va Vb : ALoc} {Na Nb : Nat → Prop} {ma mb : AM} {a a' : Nat} (h : ALSt2 w0 Va Vb Na Nb ma mb a W) (ha : a ≤ a') : ALSt2 w0 Va Vb Na Nb ma mb a' W := by
  obtain ⟨L, b, h1, h2, h3⟩ := h.book
  exact ⟨h.vata, h.vatb, h.kk, ⟨L, b, h1, by omega, h3⟩, h.low, h.nlta, h.nltb, h.olda, h.oldb, h.newa, h.newb, h.part, h.ab, h.ba⟩
theorem ALSt2.below {w0 W W' : World} {Va Vb : ALoc} {Na Nb : Nat → Prop} {ma mb : AM} {a : Nat} (h : ALSt2 w0 Va Vb Na Nb ma mb a W) (hb : Below W.heap.size W W') : ∃ Na' Nb', ALSt2 w0 Va Vb Na' Nb' ma mb a W' := ⟨_, _, h.later hb⟩
/-- Do, of the first one -/
theorem ALSt2.do_ {w0 W : World} {Va Vb : ALoc} {Na Nb : Nat → Prop} {ma mb : AM} {a : Nat} (h : ALSt2 w0 Va Vb Na Nb ma mb a W) (ha : a ≤ 700000) (x : Wish) (hx : WishIn W W.heap.size x none 0 0 none 0 0) :
    Calls Tryz.prog 24 #[.pointer (some ⟨Va.g, 0, none⟩), .agg (wCells x none 0 0 none 0 0)] W fun r W' => ∃ D, r = .returned (.tuple #[.agg D, .int .i64 ((doQ ma x).2.2 : Int)]) ∧ D.size = 4 ∧ AnsN W' W.heap.size D (doQ ma x).2.1 ∧ ALSt2 w0 Va Vb Na (fun b => Nb b ∨ (W.heap.size ≤ b ∧ b < W'.heap.size)) (doQ ma x).1 mb (a + 6) W' ∧ Only (Va.hasN Na) W W' := by
  obtain ⟨L, a', h1, h2, h3, h4⟩ := h.book
  refine (aDo_any W Va Na ma L a' h.vata h.nlta h1 h3 (by omega) x none 0 0 none 0 0 _ hx (Nat.le_refl _)).mono ?_
  rintro r W' ⟨D, rfl, hs, ho, hd⟩
  exact ⟨D, rfl, hs, ho, h.did h4 hd (by omega), hd.only⟩

end Go.Proofs.YtlaodmmjhjpfmaaGreat
