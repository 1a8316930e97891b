/- Parts of the proof, in one text: RvD, RvE, RvF, RvG, RefSame, WorksW, RefOwn. -/
import Derived.Test.YtcpngeiahgoacaaGreatZ19
import Derived.Test.YtcpngeiahgoacaaGreatZ23
import Derived.Test.YtcpngeiahgoacaaGreatZ11
import Derived.Test.YtcpngeiahgoacaaGreatZ13
import Derived.Test.YtcpngeiahgoacaaGreatZ8
import Derived.Test.YtcpngeiahgoacaaGreatZ14

/- the document's vault: Bytes, Root. -/
namespace Go.Proofs.YtcpngeiahgoacaaGreat
set_option linter.unusedVariables false
set_option linter.unusedSimpArgs false
open Go.RowKit Go.Maps

attribute [local irreducible] wpList wpCalm
def RBytesPost (w : World) (m : VM) (e : Ending) (w' : World) : Prop := ∃ v, e = .returned v ∧ OwnB w' w.heap.size v (bytesV m) ∧ Below w.heap.size w w'
set_option maxRecDepth 100000 in
set_option maxHeartbeats 4000000 in
theorem rBytes_any (w : World) (g : Nat) (m : VM) (S : RVs) (h : RVAt w g m S) :
    Calls Tryz.prog 72 #[.pointer (some ⟨g, 0, none⟩)] w (RBytesPost w m) := by
  have hok := h.ok
  have HLV := Lib.hid (rLeaves_any w g m S h)
  have hlen := leavesV_len m
  have hbl : ∀ x, x ∈ leavesV m → x.length ≤ 120 := fun x hx => by
    obtain ⟨i, _, rfl⟩ := List.mem_map.1 hx
    exact leafV_len hok i
  have hfl := flatB_le _ hbl
  rw [hlen] at hfl
  obtain ⟨ls, hls⟩ : ∃ ls, ls = leavesV m := ⟨_, rfl⟩
  unfold RBytesPost bytesV
  unfold LvPost at HLV
  rw [← hls] at HLV hlen hbl hfl ⊢
  have HLN := Lib.hid hlen
  have HBL := Lib.hid hbl
  obtain ⟨i0, hi0, hz0, hz1, hz2⟩ := info_parts u8_info
  clear h hlen hbl hls hok
  go_enter Tryz.func72, Tryz.ntmps72
  go_wp2_with fail
  refine HLV.out.mono ?_
  rintro _ w1 ⟨v, vs, rfl, how, hb1⟩
  obtain ⟨A, c, rfl, hc, _, hrows, hge⟩ := how.slice
  rw [HLN.out] at hc hrows ⊢
  have HR := Lib.hid hrows
  have HB1 := Lib.hid hb1
  have hs1 := hb1.size
  clear how hrows hb1 hge HLV
  go_wp2_with fail
  go_loopw [3, 5] (fun ov iv wr => ∃ i : Nat, i ≤ 13 ∧ iv = .int .i64 i ∧ OwnB wr w1.heap.size ov ((ls.take i).map strB).flatten ∧ Below w1.heap.size w1 wr) (fun _ iv _ => 13 - (intOf iv).toNat)
  case atStart => exact ⟨0, by omega, rfl, OwnB.nil _ _, Below.refl _ _⟩
  case round =>
    obtain ⟨i, hi, rfl, hov, hbel⟩ := hrel
    have HOV := Lib.hid hov
    have HB := Lib.hid hbel
    have hsz := hbel.size
    clear hov hbel
    by_cases hin : i < 13
    · have hinI : (i : Int) < 13 := by omega
      have h0I : (0 : Int) ≤ (i : Int) := by omega
      obtain ⟨ad, hA, hadb, hcell⟩ := HR.out.2 (by omega)
      subst hA
      have hxi : i < ls.length := by have := HLN.out; omega
      obtain ⟨Ak, mk, ck, hck, hrk⟩ := hcell i ls[i] (List.getElem?_eq_getElem hxi)
      have hck' := (HB.out.cell (show (ad.add i).block < w1.heap.size by rw [block_of_add]; omega)).trans hck
      have hmk : ls[i].length = mk := by have := hrk.1; simpa using this
      have hm120 : mk ≤ 120 := by have := HBL.out _ (List.getElem_mem hxi); omega
      have HST := Lib.hid (refStr_any Ak mk ck ls[i] wr wr.heap.size ((hrk.below HB.out).more hsz) (Nat.le_refl _) (by omega))
      obtain ⟨ys, hys⟩ : ∃ ys, ys = ((ls.take i).map strB).flatten := ⟨_, rfl⟩
      have htk : ((ls.take (i + 1)).map strB).flatten = ((ls.take i).map strB).flatten ++ strB ls[i] := by rw [List.take_succ_eq_append_getElem hxi, List.map_append, List.flatten_append]; simp only [List.map_cons, List.map_nil, List.flatten_cons, List.flatten_nil, List.append_nil]
      have htl : ((ls.take (i + 1)).map strB).flatten.length ≤ (ls.map strB).flatten.length := by
        conv => rhs; rw [← List.take_append_drop (i + 1) ls, List.map_append, List.flatten_append, List.length_append]
        omega
      rw [htk, List.length_append] at htl
      rw [← hys] at HOV htk htl
      have HTK := Lib.hid htk
      clear hys
      generalize strB ls[i] = x at HTK HST htl
      clear hcell hck hrk hmk htk
      go_wp2_with fail
      refine HST.out.mono ?_
      rintro _ w2 ⟨v2, rfl, ho2, hb2⟩
      obtain ⟨A2, c2, rfl, p1, p2, p3, p4⟩ := own_slice_b ho2
      obtain ⟨nx, hnx⟩ : ∃ k, k = x.length := ⟨_, rfl⟩
      rw [← hnx] at p3 htl ⊢
      have HNX := Lib.hid hnx
      have HP3 := Lib.hid p3
      have HO2 := Lib.hid (HOV.out.below hb2)
      have HWN := Lib.hid HO2.out.row
      have HB2 := Lib.hid (HB.out.trans (hb2.mono hsz))
      have hs2 := hb2.size
      clear ho2 hb2 p1 p2 p3 p4 HST hnx
      go_wp2_with (at_builtin; go_must (refine wpList_append_any _ rfl (.tmp 24) (.tmp 25) 22 rfl w1.heap.size 5 i0 _ 1 1 Tryz.underlying22 hi0 hz0 hz1 hz2 rfl (by omega) _ _ _ rfl HWN.out w2.heap.size A2 nx c2 (x.map vb) rfl HP3.out ?c1 ?c2 ?c3 ?c4 ?_))
      case c1 => intro u hu; obtain ⟨y, _, rfl⟩ := List.mem_map.1 hu; rfl
      case c2 => unfold maxLen; omega
      case c3 => omega
      case c4 => omega
      intro v3 w3 hown3 hg3 hor3
      have HB3 := Lib.hid (grown_below HB2.out (by omega) hg3 (fun b hb => HO2.out.ge hb))
      have HO3 := Lib.hid (show OwnB w3 w1.heap.size v3 ((ls.take (i + 1)).map strB).flatten by
        unfold OwnB
        rw [HTK.out, List.length_append, List.map_append, ← HNX.out]
        exact hown3)
      clear hown3 hg3 hor3
      go_wp2_with fail
      go_roundw
      case rel => exact ⟨i + 1, by omega, by go_num, HO3.out, HB3.out⟩
      case measure => simp [intOf]; omega
    · obtain rfl : i = 13 := by omega
      have hinI : ¬ (13 : Int) < 13 := by omega
      go_wp2_with fail
      go_ret
      refine ⟨_, rfl, ?_, HB1.out.trans (HB.out.mono hs1)⟩
      have := HOV.out
      rw [List.take_of_length_le (by have := HLN.out; omega)] at this
      exact this.more hs1


theorem OwnL.kept {w : World} {B0 r : Nat} {A : Option Addr} {n c : Nat} {N : Nat → Prop} {ls : List (List UInt8)} {vs : List Value} (h : OwnL w B0 (.slice A n c) ls vs) (hr : r < B0) (hN : ∀ b, B0 ≤ b → b < w.heap.size → N b) : KeptRows w r N A n ls := fun W hs hk => by
  have h2 : OwnL W B0 (.slice A n c) ls vs := h.keep fun b hb hl => hk b hl (by
    rintro (e | e)
    · omega
    · exact e (hN b hb hl))
  obtain ⟨A', c', e, _, _, q, _⟩ := h2.slice
  injection e with e1 e2 e3
  subst e1 e2
  exact q

set_option maxRecDepth 100000 in
set_option maxHeartbeats 4000000 in
theorem rRoot_any (w : World) (g r k : Nat) (m : VM) (S : RVs) (N : Nat → Prop) (h : RVAt w g m S) (hb : RBk w r N k) (hk : k ≤ 800000) (hN : ∀ b, N b → b < w.heap.size) :
    Calls Tryz.prog 73 #[.pointer (some ⟨g, 0, none⟩), .pointer (some ⟨r, 0, none⟩)] w fun e w' => e = .returned (.agg (bRow (rootL (leavesV m)))) ∧ RBk w' r N (k + 24) ∧ Only (RM r N) w w' := by
  have hrl := hb.lt
  have hX := below_lit w (.cells inkZ 60)
  have hk0 : Blk (w.alloc (.cells inkZ 60)) w.heap.size 60 inkZ := Blk.newAt rfl
  have HX := Lib.hid hX
  have HK := Lib.hid hk0
  have HBK := Lib.hid hb
  have HLV := Lib.hid (rLeaves_any _ g m S (h.below hX))
  unfold LvPost at HLV
  have hok := h.ok
  have hlen := leavesV_len m
  have HLEN := Lib.hid (fun x (hx : x ∈ leavesV m) => (show x.length < 65536 by
    obtain ⟨i, _, rfl⟩ := List.mem_map.1 hx
    have := leafV_len hok i; omega))
  have HNN := Lib.hid hN
  have HZ := Lib.hid treeZ_eq
  have HZS := Lib.hid (show inkZ.size = 32 by simp [inkZ, bRow])
  obtain ⟨hone, hrl32⟩ := lv_one (leavesV m) (by omega) (by omega)
  have hds := bRow_size32 hrl32
  have hdo := bRow_one (rootL (leavesV m))
  obtain ⟨D, hD⟩ : ∃ D, D = bRow (rootL (leavesV m)) := ⟨_, rfl⟩
  have HDE := Lib.hid hD
  rw [← hD] at hds hdo ⊢
  have HDS := Lib.hid hds
  have HDO := Lib.hid hdo
  have HLN := Lib.hid hlen
  obtain ⟨g4, hg4⟩ : ∃ x, x = w.heap.size := ⟨_, rfl⟩
  have hgw : w.heap.size ≤ g4 := by omega
  clear h hb hX hk0 hok hlen hN hone hrl32 hds hdo hD
  go_enter Tryz.func73, Tryz.ntmps73
  go_upto_region 1 with fail
  rw [← HZ.out]
  generalize World.alloc w _ = w1 at HX HK HLV ⊢
  rw [← hg4] at HK ⊢
  have hl4 := HK.out.lt
  have hs1 := HX.out.size
  clear hg4
  go_wp2_with fail
  refine HLV.out.mono ?_
  rintro _ w2 ⟨v, vs, rfl, how, hb2⟩
  obtain ⟨A, c, rfl, hc, _, _, _⟩ := how.slice
  rw [HLN.out] at how ⊢
  have hs2 := hb2.size
  have hX2 : Below w.heap.size w w2 := HX.out.trans (hb2.mono hs1)
  have HRT := Lib.hid (refRoot_any w2 r k (fun b => N b ∨ (w.heap.size ≤ b ∧ b < w2.heap.size)) A 13 c (leavesV m) (HBK.out.later hX2) hk (how.kept (by omega) fun b h1 h2 => .inr ⟨by omega, h2⟩) HLN.out (fun b hb => by
    rcases hb with hb | hb
    · have := HNN.out b hb; omega
    · exact hb.2) HLEN.out (by omega) (by omega))
  rw [← HDE.out] at HRT
  have HK2 := Lib.hid (HK.out.below' hb2)
  have HX2 := Lib.hid hX2
  clear how hb2 hX2 HLV
  go_wp2_with fail
  refine HRT.out.mono ?_
  rintro _ w3 ⟨rfl, hbk3, ho3⟩
  have hs3 := ho3.size
  have HK3 := Lib.hid (ho3.blk HK2.out (by
    rintro (e | e)
    · omega
    · exact e (.inr ⟨hgw, by omega⟩)))
  have HB3 := Lib.hid hbk3
  have HO3 := Lib.hid ((Only.of_below HX2.out).trans (ho3.mono fun b _ => RM.mono (N := N) fun b => .inl))
  clear hbk3 ho3 HRT
  go_upto_region 2 with (refine wpList_store_part (o := ⟨none, _, _, _, _, _⟩) rfl 60 (.tmp 5) (.tmp 12) rfl w3.heap.size 0 D rfl rfl 60 inkZ (by rw [HZ.out]; exact Blk.newAt rfl) (by rw [HDS.out]; rfl) (by rw [HDS.out, HZS.out]; omega) HDO.out ?_; intro w4 hT4 hD4; rw [spl_self _ _ (by rw [HDS.out, HZS.out])] at hD4)
  have hb4 : Below w3.heap.size w3 w4 := hT4.below ((Below.refl _ _).alloc (Nat.le_refl _) _) (Nat.le_refl _)
  have hs4 := hb4.size
  have HB4 := Lib.hid (HB3.out.below hb4)
  have HO4 := Lib.hid (HO3.out.trans (Only.of_below hb4))
  have HK4 := Lib.hid (HK3.out.below' hb4)
  have HD4 := Lib.hid hD4
  obtain ⟨g5, hg5⟩ : ∃ x, x = w3.heap.size := ⟨_, rfl⟩
  rw [← hg5] at HD4 ⊢
  clear hT4 hD4 hb4 hg5 HB3 HO3 HK3
  go_wp2_with (first
    | (refine wpList_load_part (o := ⟨some 14, _, _, _, _, _⟩) rfl 60 (.tmp 5) rfl g5 0 32 rfl 60 D D _ HD4.out Tryz.underlying60 rfl rfl HDS.out (fun _ _ => by rw [Nat.zero_add]) ?_)
    | (refine wpList_store_part (o := ⟨none, _, _, _, _, _⟩) rfl 60 (.tmp 4) (.tmp 14) rfl g4 0 D rfl rfl 60 inkZ HK4.out (by rw [HDS.out]; rfl) (by rw [HDS.out, HZS.out]; omega) HDO.out ?_; intro w5 hT5 hD5; rw [spl_self _ _ (by rw [HDS.out, HZS.out])] at hD5))
  refine bodyPost_ret (results_part rfl _ _ g4 32 60 _ _ rfl hD5 Tryz.underlying60 rfl rfl HDS.out) rfl ⟨rfl, ?_, ?_⟩
  · exact (HB4.out.turned hT5 (.inr ⟨hgw, by omega⟩) (by omega)).less (by omega) fun b => .inl
  · exact ⟨hT5.os.trans HO4.out.os, hT5.tape.trans HO4.out.tape, hT5.output.trans HO4.out.output, by rw [hT5.size]; exact HO4.out.size, fun i hi hn => (hT5.block i (by omega)).trans (HO4.out.block i hi hn)⟩

end Go.Proofs.YtcpngeiahgoacaaGreat

/- the document's vault: Copy. -/
namespace Go.Proofs.YtcpngeiahgoacaaGreat
set_option linter.unusedVariables false
set_option linter.unusedSimpArgs false
open Go.RowKit Go.Maps

attribute [local irreducible] wpList wpCalm
def RVs.put (S : RVs) (i : Nat) (A : Option Addr) (c : Nat) : RVs := { S with dA := fun j => if j = i then A else S.dA j, dC := fun j => if j = i then c else S.dC j }
def RVs.putS (S : RVs) (A : Option Addr) (c : Nat) : RVs := { S with sA := A, sC := c }
theorem rv_put (m : VM) (S : RVs) (i : Nat) (hi : i < 4) (A : Option Addr) (c : Nat) : (rvCells m S).setIfInBounds (134 + i) (.slice A (lastV m i).2.length c) = rvCells m (S.put i A c) := by
  unfold rvCells
  rw [rng_set]
  refine rng_ext fun j hj => ?_
  by_cases h : j = 134 + i
  · subst h
    simp only [if_true]
    unfold rvF
    rw [if_neg (by omega), if_neg (by omega), if_neg (by omega), if_neg (by omega), if_pos (by omega), show 134 + i - 134 = i by omega]
    simp [RVs.put]
  · rw [if_neg h]
    unfold rvF
    by_cases h2 : 134 ≤ j ∧ j < 138
    · rw [if_neg (by omega), if_neg (by omega), if_neg (by omega), if_neg (by omega), if_pos (by omega), if_neg (by omega), if_neg (by omega), if_neg (by omega), if_neg (by omega), if_pos (by omega)]
      simp [RVs.put, show ¬ j - 134 = i by omega]
    · by_cases h3 : j < 138
      · have : j < 134 := by omega
        simp [this, h3, RVs.put]
        repeat' split
        all_goals first | rfl | omega
      · have h4 : ¬ j < 134 := by omega
        have h5 : ¬ j < 130 := by omega
        have h6 : ¬ j = 0 := by omega
        have h7 : ¬ j = 1 := by omega
        simp [h3, h4, h5, h6, h7, RVs.put]
theorem rv_putS (m : VM) (S : RVs) (A : Option Addr) (c : Nat) : (rvCells m S).setIfInBounds 138 (.slice A m.shut.length c) = rvCells m (S.putS A c) := by
  unfold rvCells
  rw [rng_set]
  refine rng_ext fun j hj => ?_
  by_cases h : j = 138
  · subst h; rfl
  · rw [if_neg h]
    have h3 : j < 138 := by omega
    unfold rvF
    simp [h3, RVs.putS]
theorem rvCells_size (m : VM) (S : RVs) : (rvCells m S).size = 139 := by simp [rvCells, rng]
/-- a vault in memory of its own -/
structure RVOwn (w : World) (B g : Nat) (m : VM) (S : RVs) : Prop where
  ok : VOk m
  base : B ≤ g
  cells : Blk w g 128 (rvCells m S)
  data : ∀ i, i < 4 → OwnB w B (.slice (S.dA i) (lastV m i).2.length (S.dC i)) (lastV m i).2
  seal_ : OwnN w B (.slice S.sA m.shut.length S.sC) m.shut
theorem RVOwn.at_ {w : World} {B g : Nat} {m : VM} {S : RVs} (h : RVOwn w B g m S) : RVAt w g m S :=
  ⟨h.ok, h.cells, fun i hi => ⟨(h.data i hi).reads.2.2.2.1, (h.data i hi).reads.2.1⟩, by
    obtain ⟨A', c', e, h1, _, h3, _⟩ := own_slice_n h.seal_
    injection e with e1 e2 e3
    subst e1 e3
    exact ⟨h3, h1⟩⟩

end Go.Proofs.YtcpngeiahgoacaaGreat

/- the document's vault: the walk of Copy. -/
namespace Go.Proofs.YtcpngeiahgoacaaGreat
set_option linter.unusedVariables false
set_option linter.unusedSimpArgs false
open Go.RowKit Go.Maps

attribute [local irreducible] wpList wpCalm
theorem rvCells_one (m : VM) (S : RVs) : (rvCells m S).all (·.oneCell') = true := by
  rw [Array.all_eq_true]
  intro j hj
  have hj2 : j < 139 := by rw [rvCells_size] at hj; exact hj
  have h1 : (rvCells m S)[j]? = some _ := rng_get _ _ _ hj2
  rw [Array.getElem?_eq_getElem hj] at h1
  rw [Option.some.inj h1]
  unfold rvF
  repeat' split
  all_goals rfl

set_option maxRecDepth 100000 in
set_option maxHeartbeats 4000000 in
theorem rCopy_any (w : World) (g : Nat) (m : VM) (S : RVs) (h : RVAt w g m S) :
    Calls Tryz.prog 70 #[.pointer (some ⟨g, 0, none⟩)] w fun e w' => ∃ g' S', e = .returned (.pointer (some ⟨g', 0, none⟩)) ∧ RVOwn w' w.heap.size g' m S' ∧ Below w.heap.size w w' := by
  have H := Lib.hid h
  have hc0 := h.cells
  obtain ⟨C, hC⟩ : ∃ C, C = rvCells m S := ⟨_, rfl⟩
  rw [← hC] at hc0
  have HC0 := Lib.hid hc0
  have HCZ := Lib.hid (show C.size = 139 by rw [hC]; exact rvCells_size m S)
  have HCO := Lib.hid (show C.all (·.oneCell') = true by rw [hC]; exact rvCells_one m S)
  have HCE := Lib.hid hC
  have HZZ := Lib.hid (show (Tryz.zeroCells128).size = 139 by kernel_rfl)
  clear h hc0 hC
  go_enter Tryz.func70, Tryz.ntmps70
  go_upto_region 2 with (first
    | (refine wpList_load_part (o := ⟨some 7, _, _, _, _, _⟩) rfl 128 (.tmp 6) rfl g 0 139 rfl 128 C C _ HC0.out Tryz.underlying128 rfl rfl HCZ.out (fun _ _ => by rw [Nat.zero_add]) ?_)
    | (refine wpList_store_part (o := ⟨none, _, _, _, _, _⟩) rfl 128 (.tmp 3) (.tmp 7) rfl w.heap.size 0 C rfl rfl 128 Tryz.zeroCells128 (Blk.newAt rfl) (by rw [HCZ.out]; kernel_rfl) (by rw [HCZ.out, HZZ.out]; omega) HCO.out ?_; intro w3 hT3 hD3))
  have hb3 : Below w.heap.size w w3 := hT3.below ((Below.refl _ _).alloc (Nat.le_refl _) _) (Nat.le_refl _)
  rw [spl_self _ _ (by rw [HCZ.out, HZZ.out])] at hD3
  obtain ⟨g3, hg3⟩ : ∃ x, x = w.heap.size := ⟨_, rfl⟩
  rw [← hg3] at hD3 ⊢
  have hgw : w.heap.size ≤ g3 := by omega
  have HD3 := Lib.hid hD3
  have HB3 := Lib.hid hb3
  have hs3 := hb3.size
  rw [HCE.out] at HD3
  clear hT3 hD3 hb3 hg3
  go_wp2_with fail
  go_loopw [4] (fun iv wr => ∃ (i : Nat) (S' : RVs), i ≤ 4 ∧ iv = .int .i64 i ∧ Blk wr g3 128 (rvCells m S') ∧ (∀ j, j < i → OwnB wr w.heap.size (.slice (S'.dA j) (lastV m j).2.length (S'.dC j)) (lastV m j).2) ∧ Below w.heap.size w wr) (fun iv _ => 4 - (intOf iv).toNat)
  case atStart => exact ⟨0, S, by omega, rfl, HD3.out, fun j hj => by omega, HB3.out⟩
  case round =>
    obtain ⟨i, S', hi, rfl, hblk, hown, hbel⟩ := hrel
    have HK := Lib.hid hblk
    have HW := Lib.hid hown
    have HB := Lib.hid hbel
    have hsz := hbel.size
    by_cases hin : i < 4
    · have hinI : (i : Int) < 4 := by omega
      have hdt := (H.out.below hbel).dat i hin
      have hmem : lastV m i ∈ m.last := by
        have := H.out.ok.last
        unfold lastV
        rw [List.getD_eq_getElem?_getD, List.getElem?_eq_getElem (by omega)]
        exact List.getElem_mem _
      have hso := H.out.ok.stamp _ hmem
      have hdl : (lastV m i).2.length ≤ 16 := by
        rcases hso.2 with e | e
        · rw [e]; simp
        · omega
      have HCB := Lib.hid (copyBytes_any (S.dA i) (lastV m i).2.length (S.dC i) (lastV m i).2 wr wr.heap.size ((H.out.below hbel).data i hin).1 (Nat.le_refl _) (by omega))
      obtain ⟨dn, hdn⟩ : ∃ k, k = (lastV m i).2.length := ⟨_, rfl⟩
      rw [← hdn] at hdt HCB
      have HDN := Lib.hid hdn
      clear hblk hown hbel hmem hso hdl hdn
      go_wp2_with fail
      refine HCB.out.mono ?_
      rintro _ w4 ⟨v, rfl, ho, hb4⟩
      obtain ⟨A4, c4, hv, _⟩ := own_slice_b ho
      subst hv
      rw [← HDN.out] at ho ⊢
      have hk4 : Blk w4 g3 128 (rvCells m S') := HK.out.below' hb4
      have hcell4 := (hk4.cell (134 + i)).trans (rng_get _ _ _ (by omega))
      have hfr4 := hk4.frozen (134 + i)
      have HK4 := Lib.hid hk4
      have HO4 := Lib.hid ho
      have HW4 := Lib.hid (fun j hj => (HW.out j hj).below hb4)
      have HB4 := Lib.hid (HB.out.trans (hb4.mono hsz))
      have hs4 := hb4.size
      clear ho hb4 hk4 HCB
      go_wp2_with fail
      go_roundw
      case rel =>
        have hset := HK4.out.set_ (134 + i) (.slice A4 (lastV m i).2.length c4)
        rw [rv_put m S' i hin A4 c4] at hset
        have hT := Turned.setCell w4 ⟨g3, 134 + i, none⟩ (.slice A4 (lastV m i).2.length c4)
        have hkeep : ∀ u x, OwnB w4 w.heap.size u x → OwnB (w4.setCell ⟨g3, 134 + i, none⟩ (.slice A4 (lastV m i).2.length c4)) w.heap.size u x := fun u x hu => hu.keep fun b hb => hT.block b fun e => by
          obtain ⟨cur, hcur⟩ := ownB_blk hu hb
          exact Blk.ne_ hcur HK4.out (by decide) e
        refine ⟨i + 1, S'.put i A4 c4, by omega, by go_num, by rw [HDN.out]; exact hset, fun j hj => ?_, by rw [HDN.out]; exact hT.below HB4.out hgw⟩
        rw [HDN.out]
        by_cases hji : j = i
        · subst hji
          simp only [RVs.put, if_true]
          have := hkeep _ _ (HO4.out.more hsz)
          rw [HDN.out] at this
          exact this
        · simp only [RVs.put, if_neg hji]
          exact hkeep _ _ (HW4.out j (by omega))
      case measure => simp [intOf]; omega
    · obtain rfl : i = 4 := by omega
      have hinI : ¬ ((4 : Nat) : Int) < 4 := by omega
      have hsh := (H.out.below hbel).shut
      have hsn := H.out.ok.sealNum
      have HCI := Lib.hid (copyInts_any S.sA m.shut.length S.sC m.shut wr wr.heap.size (H.out.below hbel).seal_.1 (Nat.le_refl _) (by have := hsn.2; omega))
      obtain ⟨sn, hsn'⟩ : ∃ k, k = m.shut.length := ⟨_, rfl⟩
      rw [← hsn'] at hsh HCI
      have HSN := Lib.hid hsn'
      clear hblk hown hbel hsn hsn'
      go_wp2_with fail
      refine HCI.out.mono ?_
      rintro _ w4 ⟨v, rfl, ho, hb4⟩
      obtain ⟨A4, c4, hv, _⟩ := own_slice_n ho
      subst hv
      rw [← HSN.out] at ho ⊢
      have hk4 : Blk w4 g3 128 (rvCells m S') := HK.out.below' hb4
      have hcell4 := (hk4.cell 138).trans (rng_get _ _ _ (by omega))
      have hfr4 := hk4.frozen 138
      have HK4 := Lib.hid hk4
      have HO4 := Lib.hid ho
      have HW4 := Lib.hid (fun j hj => (HW.out j hj).below hb4)
      have HB4 := Lib.hid (HB.out.trans (hb4.mono hsz))
      have hs4 := hb4.size
      clear ho hb4 hk4 HCI
      go_wp2_with fail
      go_ret
      have hset := HK4.out.set_ 138 (.slice A4 m.shut.length c4)
      rw [rv_putS m S' A4 c4] at hset
      have hT := Turned.setCell w4 ⟨g3, 138, none⟩ (.slice A4 m.shut.length c4)
      have hkeep : ∀ u x, OwnB w4 w.heap.size u x → OwnB (w4.setCell ⟨g3, 138, none⟩ (.slice A4 m.shut.length c4)) w.heap.size u x := fun u x hu => hu.keep fun b hb => hT.block b fun e => by
        obtain ⟨cur, hcur⟩ := ownB_blk hu hb
        exact Blk.ne_ hcur HK4.out (by decide) e
      refine ⟨_, S'.putS A4 c4, rfl, ⟨H.out.ok, hgw, by rw [HSN.out]; exact hset, fun j hj => ?_, ?_⟩, by rw [HSN.out]; exact hT.below HB4.out hgw⟩
      · rw [HSN.out]
        exact hkeep _ _ (HW4.out j hj)
      · have hn := (HO4.out.more hsz)
        rw [HSN.out] at hn ⊢
        exact hn.keep_ fun b hb => hT.block b fun e => by
          obtain ⟨cur, hcur⟩ := row_blk hn hb
          exact Blk.ne_ hcur HK4.out (by decide) e

end Go.Proofs.YtcpngeiahgoacaaGreat

/- the document's vault: its cells while Open writes them. -/
namespace Go.Proofs.YtcpngeiahgoacaaGreat
set_option linter.unusedVariables false
set_option linter.unusedSimpArgs false
open Go.RowKit Go.Maps

def rvG (gr ep : Int) (bs : Nat → UInt8) (st : Nat → Nat) (dv : Nat → Value) (sv : Value) (j : Nat) : Value :=
  if j = 0 then .int .i64 gr else if j = 1 then .int .i64 ep
  else if j < 130 then vb (bs (j - 2))
  else if j < 134 then .int .i64 (st (j - 130) : Int)
  else if j < 138 then dv (j - 134) else sv
def rvRow (gr ep : Int) (bs : Nat → UInt8) (st : Nat → Nat) (dv : Nat → Value) (sv : Value) : Array Value := rng 139 (rvG gr ep bs st dv sv)
theorem rvRow_zero : Tryz.zeroCells128 = rvRow 0 0 (fun _ => 0) (fun _ => 0) (fun _ => .slice none 0 0) (.slice none 0 0) := by kernel_rfl
theorem rvRow_cells (m : VM) (S : RVs) : rvCells m S = rvRow (m.group : Int) (m.epoch : Int) (fun q => (blockV m (q / 16)).getD (q % 16) 0) (fun i => (lastV m i).1) (fun i => .slice (S.dA i) (lastV m i).2.length (S.dC i)) (.slice S.sA m.shut.length S.sC) := rfl
section
variable (gr ep : Int) (bs : Nat → UInt8) (st : Nat → Nat) (dv : Nat → Value) (sv : Value)
theorem rvRow_byte (i : Nat) (hi : i < 128) (x : UInt8) : (rvRow gr ep bs st dv sv).setIfInBounds (2 + i) (vb x) = rvRow gr ep (fun j => if j = i then x else bs j) st dv sv := by
  unfold rvRow
  rw [rng_set]
  refine rng_ext fun j hj => ?_
  unfold rvG
  try dsimp only
  by_cases h : j = 2 + i
  · subst h
    rw [if_pos rfl, if_neg (by omega), if_neg (by omega), if_pos (by omega), if_pos (by omega)]
  · rw [if_neg h]
    by_cases h2 : j - 2 = i
    · have : j < 2 := by omega
      rcases (show j = 0 ∨ j = 1 by omega) with rfl | rfl
      · rfl
      · rfl
    · rw [if_neg h2]
theorem rvRow_stamp (i : Nat) (hi : i < 4) (x : Nat) : (rvRow gr ep bs st dv sv).setIfInBounds (130 + i) (.int .i64 (x : Int)) = rvRow gr ep bs (fun j => if j = i then x else st j) dv sv := by
  unfold rvRow
  rw [rng_set]
  refine rng_ext fun j hj => ?_
  unfold rvG
  try dsimp only
  by_cases h : j = 130 + i
  · subst h
    rw [if_pos rfl, if_neg (by omega), if_neg (by omega), if_neg (by omega), if_pos (by omega), if_pos (by omega)]
  · rw [if_neg h]
    by_cases h2 : j < 130
    · rw [if_pos h2, if_pos h2]
    · rw [if_neg (show ¬ j - 130 = i by omega)]
theorem rvRow_data (i : Nat) (hi : i < 4) (x : Value) : (rvRow gr ep bs st dv sv).setIfInBounds (134 + i) x = rvRow gr ep bs st (fun j => if j = i then x else dv j) sv := by
  unfold rvRow
  rw [rng_set]
  refine rng_ext fun j hj => ?_
  unfold rvG
  try dsimp only
  by_cases h : j = 134 + i
  · subst h
    rw [if_pos rfl, if_neg (by omega), if_neg (by omega), if_neg (by omega), if_neg (by omega), if_pos (by omega), if_pos (by omega)]
  · rw [if_neg h]
    by_cases h2 : j < 134
    · rw [if_pos h2, if_pos h2]
    · rw [if_neg (show ¬ j - 134 = i by omega)]
theorem rvRow_group (x : Int) : (rvRow gr ep bs st dv sv).setIfInBounds 0 (.int .i64 x) = rvRow x ep bs st dv sv := by
  unfold rvRow
  rw [rng_set]
  refine rng_ext fun j hj => ?_
  unfold rvG
  try dsimp only
  by_cases h : j = 0
  · rw [if_pos h, if_pos h]
  · rw [if_neg h, if_neg h, if_neg h]
theorem rvRow_epoch (x : Int) : (rvRow gr ep bs st dv sv).setIfInBounds 1 (.int .i64 x) = rvRow gr x bs st dv sv := by
  unfold rvRow
  rw [rng_set]
  refine rng_ext fun j hj => ?_
  unfold rvG
  try dsimp only
  by_cases h : j = 1
  · subst h; rfl
  · rw [if_neg h, if_neg h, if_neg h]
theorem rvRow_shut (x : Value) : (rvRow gr ep bs st dv sv).setIfInBounds 138 x = rvRow gr ep bs st dv x := by
  unfold rvRow
  rw [rng_set]
  refine rng_ext fun j hj => ?_
  unfold rvG
  try dsimp only
  by_cases h : j = 138
  · subst h; rfl
  · rw [if_neg h]
    have h3 : j < 138 := by omega
    rw [if_pos h3, if_pos h3]
theorem rvRow_get (j : Nat) (hj : j < 139) : (rvRow gr ep bs st dv sv)[j]? = some (rvG gr ep bs st dv sv j) := rng_get _ _ _ hj
theorem rvRow_size : (rvRow gr ep bs st dv sv).size = 139 := rng_size _ _
end

end Go.Proofs.YtcpngeiahgoacaaGreat

/- Contract of bastideref11.Same. -/
namespace Go.Proofs.YtcpngeiahgoacaaGreat
set_option linter.unusedVariables false
open Go.RowKit
attribute [local irreducible] wpList

set_option maxRecDepth 100000 in
set_option maxHeartbeats 4000000 in
theorem refSame_any (x y : Wish) (A : Option Addr) (n c : Nat) (A' : Option Addr) (n' c' : Nat) (D : Option Addr) (m d : Nat) (D' : Option Addr) (m' d' : Nat) (w : World) (B : Nat) (hx : WishIn w B x A n c A' n' c') (hy : WishIn w B y D m d D' m' d') (hB : B ≤ w.heap.size) :
    Calls Tryz.prog 45 #[.agg (wCells x A n c A' n' c'), .agg (wCells y D m d D' m' d')] w fun e w' => e = .returned (.bool (sameW x y)) ∧ Below w.heap.size w w' := by
  have HEB := Lib.hid (fun W (hb : Below w.heap.size w W) => eqBytes_any A D n m c d x.data y.data W B B (hx.data.below (hb.mono hB)) (hy.data.below (hb.mono hB)) (by have := hx.dm; unfold maxLen; omega) (by have := hy.dm; unfold maxLen; omega))
  have HEI := Lib.hid (fun W (hb : Below w.heap.size w W) => eqInts_any A' D' n' m' c' d' x.next y.next W B B (hx.next.below (hb.mono hB)) (hy.next.below (hb.mono hB)) (by have := hx.nm; unfold maxLen; omega) (by have := hy.nm; unfold maxLen; omega))
  clear hx hy
  obtain ⟨xc, xs, xg, xe, xk, xb, xd, xo, xn, xt⟩ := x
  obtain ⟨yc, ys, yg, ye, yk, yb, yd, yo, yn, yt⟩ := y
  simp only at HEB HEI
  unfold wCells sameW
  simp only
  go_enter Tryz.func45, Tryz.ntmps45
  go_upto_region 1 with fail
  have hX : Below w.heap.size w ((w.alloc (.cells #[.int .i64 xc, .int .i64 xs, .int .i64 xg, .int .i64 xe, .int .i64 xk, .int .i64 xb, .slice A n c, .int .i64 xo, .int .i64 xn, .slice A' n' c'] 44)).alloc (.cells #[.int .i64 yc, .int .i64 ys, .int .i64 yg, .int .i64 ye, .int .i64 yk, .int .i64 yb, .slice D m d, .int .i64 yo, .int .i64 yn, .slice D' m' d'] 44)) := ((Below.refl _ _).alloc (Nat.le_refl _) _).alloc (by simp) _
  have k1 : Blk ((w.alloc (.cells #[.int .i64 xc, .int .i64 xs, .int .i64 xg, .int .i64 xe, .int .i64 xk, .int .i64 xb, .slice A n c, .int .i64 xo, .int .i64 xn, .slice A' n' c'] 44)).alloc (.cells #[.int .i64 yc, .int .i64 ys, .int .i64 yg, .int .i64 ye, .int .i64 yk, .int .i64 yb, .slice D m d, .int .i64 yo, .int .i64 yn, .slice D' m' d'] 44)) w.heap.size 44 _ := (Blk.new w _ _).alloc _
  have k2 : Blk ((w.alloc (.cells #[.int .i64 xc, .int .i64 xs, .int .i64 xg, .int .i64 xe, .int .i64 xk, .int .i64 xb, .slice A n c, .int .i64 xo, .int .i64 xn, .slice A' n' c'] 44)).alloc (.cells #[.int .i64 yc, .int .i64 ys, .int .i64 yg, .int .i64 ye, .int .i64 yk, .int .i64 yb, .slice D m d, .int .i64 yo, .int .i64 yn, .slice D' m' d'] 44)) (w.heap.size + 1) 44 _ := Blk.newAt (by simp)
  generalize World.alloc _ _ = w1 at hX k1 k2 ⊢
  have c0 := k1.cell 0
  have c1 := k1.cell 1
  have c2 := k1.cell 2
  have c3 := k1.cell 3
  have c4 := k1.cell 4
  have c5 := k1.cell 5
  have c6 := k1.cell 6
  have c7 := k1.cell 7
  have c8 := k1.cell 8
  have c9 := k1.cell 9
  have d0 := k2.cell 0
  have d1 := k2.cell 1
  have d2 := k2.cell 2
  have d3 := k2.cell 3
  have d4 := k2.cell 4
  have d5 := k2.cell 5
  have d6 := k2.cell 6
  have d7 := k2.cell 7
  have d8 := k2.cell 8
  have d9 := k2.cell 9
  simp only [List.getElem?_toArray, List.getElem?_cons_zero, List.getElem?_cons_succ] at c0 c1 c2 c3 c4 c5 c6 c7 c8 c9 d0 d1 d2 d3 d4 d5 d6 d7 d8 d9
  have HB := Lib.hid hX
  have HE1 := Lib.hid (HEB.out w1 hX)
  have HE2 := Lib.hid (fun q => HEI.out (w1.drewN q) (below_drewN HB.out q))
  clear k1 k2 hX HEB HEI
  obtain ⟨g1, hg1⟩ : ∃ g, g = w.heap.size := ⟨_, rfl⟩
  obtain ⟨g3, hg3⟩ : ∃ g, g = w.heap.size + 1 := ⟨_, rfl⟩
  rw [← hg1] at c0 c1 c2 c3 c4 c5 c6 c7 c8 c9
  rw [← hg3] at d0 d1 d2 d3 d4 d5 d6 d7 d8 d9 ⊢
  rw [← hg1]
  clear hg1 hg3
  go_wp2_with (first
    | (go_at_call 14; refine HE1.out.mono ?_; rintro _ _ ⟨rfl, q, rfl⟩)
    | (go_at_call 75; refine (HE2.out _).mono ?_; rintro _ _ ⟨rfl, q2, rfl⟩))
  all_goals go_ret
  all_goals refine ⟨ret_bool ?_, by first | exact HB.out | exact below_drewN HB.out _ | exact below_drewN (below_drewN HB.out _) _⟩
  all_goals clear HB HE1 HE2 c0 c1 c2 c3 c4 c5 c6 c7 c8 c9 d0 d1 d2 d3 d4 d5 d6 d7 d8 d9
  all_goals rw [Bool.eq_iff_iff]
  all_goals simp_all

end Go.Proofs.YtcpngeiahgoacaaGreat

/- The law's own helpers: read, seal, is, works. -/


/- Contract of bastideref11.own. -/
namespace Go.Proofs.YtcpngeiahgoacaaGreat
set_option linter.unusedVariables false
open Go.RowKit

/-- a wish with the fields that its kind has -/
def ownW (x : Wish) : Wish :=
  ⟨if x.kind = 5 then 0 else x.client, if x.kind = 5 then 0 else x.stamp, x.group, x.epoch, x.kind, if x.kind = 5 then 0 else x.block, if x.kind = 2 then x.data else [], if x.kind = 4 then x.old else 0, if x.kind = 4 then x.new else 0, if x.kind = 5 then x.next else []⟩
def ownSl (x : Wish) (A : Option Addr) (n c : Nat) (A' : Option Addr) (n' c' : Nat) : Value :=
  if x.kind = 5 then .agg (wCells (ownW x) none 0 0 A' n' c') else if x.kind = 2 then .agg (wCells (ownW x) A n c none 0 0) else .agg (wCells (ownW x) none 0 0 none 0 0)

set_option maxRecDepth 100000 in
set_option maxHeartbeats 8000000 in
theorem refOwn_any (x : Wish) (A : Option Addr) (n c : Nat) (A' : Option Addr) (n' c' : Nat) (w : World) :
    Calls Tryz.prog 119 #[.agg (wCells x A n c A' n' c')] w fun e w' => e = .returned (ownSl x A n c A' n' c') ∧ Below w.heap.size w w' := by
  have hd0 : Below w.heap.size w ((w.alloc (.cells (wCells x A n c A' n' c') 44)).alloc (.cells (wCells zeroW none 0 0 none 0 0) 44)) := ((Below.refl _ _).alloc (Nat.le_refl _) _).alloc (by simp) _
  have k1 : Blk ((w.alloc (.cells (wCells x A n c A' n' c') 44)).alloc (.cells (wCells zeroW none 0 0 none 0 0) 44)) w.heap.size 44 (wCells x A n c A' n' c') := (Blk.new w _ _).alloc _
  have k2 : Blk ((w.alloc (.cells (wCells x A n c A' n' c') 44)).alloc (.cells (wCells zeroW none 0 0 none 0 0) 44)) (w.heap.size + 1) 44 (wCells zeroW none 0 0 none 0 0) := Blk.newAt (by simp)
  have hs0 : ((w.alloc (.cells (wCells x A n c A' n' c') 44)).alloc (.cells (wCells zeroW none 0 0 none 0 0) 44)).heap.size = w.heap.size + 2 := by simp
  go_enter Tryz.func119, Tryz.ntmps119
  go_upto_region 1 with fail
  generalize hW : World.alloc (World.alloc _ _) _ = w1
  have hW' : ((w.alloc (.cells (wCells x A n c A' n' c') 44)).alloc (.cells (wCells zeroW none 0 0 none 0 0) 44)) = w1 := hW
  rw [hW'] at hd0 k1 k2 hs0
  clear hW hW'
  obtain ⟨g1, hg1⟩ : ∃ g, g = w.heap.size := ⟨_, rfl⟩
  obtain ⟨g2, hg2⟩ : ∃ g, g = w.heap.size + 1 := ⟨_, rfl⟩
  rw [← hg1] at k1
  rw [← hg2] at k2 ⊢
  rw [← hg1]
  have ho1 : w.heap.size ≤ g1 := by omega
  have ho2 : g1 < g2 := by omega
  have ho3 : g2 < w1.heap.size := by omega
  have hs1 := hd0.size
  have HB1 := Lib.hid hd0
  have d4 := (k1.cell 4).trans (show (wCells x A n c A' n' c')[4]? = some (.int .i64 x.kind) from rfl)
  have d2 := (k1.cell 2).trans (show (wCells x A n c A' n' c')[2]? = some (.int .i64 x.group) from rfl)
  have d3 := (k1.cell 3).trans (show (wCells x A n c A' n' c')[3]? = some (.int .i64 x.epoch) from rfl)
  have K1' := Lib.hid k1
  have K2' := Lib.hid k2
  clear hg1 hg2 k1 k2 hd0 hs0
  go_upto_region 2 with (refine wpList_store_part (o := ⟨none, _, _, _, _, _⟩) rfl 44 (.tmp 3) (.tmp 10) rfl w1.heap.size 0 #[.int .i64 0, .int .i64 0, .int .i64 x.group, .int .i64 x.epoch, .int .i64 x.kind, .int .i64 0, .slice none 0 0, .int .i64 0, .int .i64 0, .slice none 0 0] rfl rfl 44 (wCells zeroW none 0 0 none 0 0) (Blk.newAt rfl) (by kernel_rfl) (by simp [wCells]) (by simp [Value.oneCell']) ?_; intro w2 hT2 hD2; rw [spl_self _ _ (by simp [wCells])] at hD2)
  have hb2 : Below w1.heap.size w1 w2 := hT2.below ((Below.refl _ _).alloc (Nat.le_refl _) _) (Nat.le_refl _)
  obtain ⟨g3, hg3⟩ : ∃ g, g = w1.heap.size := ⟨_, rfl⟩
  rw [← hg3] at hD2 ⊢
  have ho4 : g2 < g3 := by omega
  have K1 := Lib.hid (K1'.out.under hb2)
  have K2 := Lib.hid (K2'.out.under hb2)
  have K3 := Lib.hid hD2
  have HB := Lib.hid (HB1.out.trans (hb2.mono hs1))
  have ck := (K1.out.cell 4).trans (show (wCells x A n c A' n' c')[4]? = some (.int .i64 x.kind) from rfl)
  clear hT2 hD2 hb2 hg3 K1' K2' HB1 d4 d2 d3
  by_cases hk : x.kind = 5
  · go_upto_region 3 with fail
    clear ck
    have cx := (K1.out.cell 9).trans (show (wCells x A n c A' n' c')[9]? = some (.slice A' n' c') from rfl)
    have cw := (K3.out.cell 9).trans (show (#[.int .i64 0, .int .i64 0, .int .i64 x.group, .int .i64 x.epoch, .int .i64 x.kind, .int .i64 0, .slice none 0 0, .int .i64 0, .int .i64 0, .slice none 0 0] : Array Value)[9]? = some (.slice none 0 0) from rfl)
    have fw := K3.out.frozen 9
    have k1 := K1.out.far (p := ⟨g3, 9, none⟩) (by show g1 ≠ g3; omega) (.slice A' n' c')
    have k2 := K2.out.far (p := ⟨g3, 9, none⟩) (by show g2 ≠ g3; omega) (.slice A' n' c')
    have k3 := K3.out.set_ 9 (.slice A' n' c')
    have hb := HB.out.setCell (p := ⟨g3, 9, none⟩) (by show w.heap.size ≤ g3; omega) (.slice A' n' c')
    have ck := (k1.cell 4).trans (show (wCells x A n c A' n' c')[4]? = some (.int .i64 x.kind) from rfl)
    go_upto_region 4 with fail
    replace K1 := Lib.hid k1
    replace K2 := Lib.hid k2
    replace HB := Lib.hid hb
    replace K3 := Lib.hid (show Blk _ g3 44 #[.int .i64 0, .int .i64 0, .int .i64 x.group, .int .i64 x.epoch, .int .i64 x.kind, .int .i64 0, .slice none 0 0, .int .i64 0, .int .i64 0, .slice A' n' c'] from k3)
    clear k1 k2 k3 hb cx cw fw ck
    generalize World.setCell _ _ _ = wn at K1 K2 K3 HB ⊢
    have hf : (#[.int .i64 0, .int .i64 0, .int .i64 x.group, .int .i64 x.epoch, .int .i64 x.kind, .int .i64 0, .slice none 0 0, .int .i64 0, .int .i64 0, .slice A' n' c'] : Array Value) = wCells (ownW x) none 0 0 A' n' c' := by unfold wCells ownW; simp [hk]
    rw [hf] at K3
    clear hf
    go_wp2_with (first
      | (refine wpList_load_part (o := ⟨some 17, _, _, _, _, _⟩) rfl 44 (.tmp 3) rfl g3 0 10 rfl 44 _ (wCells (ownW x) none 0 0 A' n' c') _ K3.out Tryz.underlying44 rfl rfl rfl (fun _ _ => by rw [Nat.zero_add]) ?_)
      | (refine wpList_store_part (o := ⟨none, _, _, _, _, _⟩) rfl 44 (.tmp 2) (.tmp 17) rfl g2 0 (wCells (ownW x) none 0 0 A' n' c') rfl rfl 44 (wCells zeroW none 0 0 none 0 0) K2.out (wCells_info _ _ _ _ _ _ _) (by simp [wCells]) (wCells_one _ _ _ _ _ _ _) ?_; intro w7 hT7 hD7; rw [spl_self _ _ (by simp [wCells])] at hD7))
    refine bodyPost_ret (results_part rfl _ _ g2 10 44 _ _ rfl hD7 Tryz.underlying44 rfl rfl rfl) rfl ⟨?_, hT7.below HB.out (by omega)⟩
    unfold ownSl; simp [hk]
  · have hkb : (x.kind == 5) = false := by simpa using hk
    go_upto_region 5 with fail
    clear ck
    have cx := (K1.out.cell 0).trans (show (wCells x A n c A' n' c')[0]? = some (.int .i64 x.client) from rfl)
    have cw := (K3.out.cell 0).trans (show (#[.int .i64 0, .int .i64 0, .int .i64 x.group, .int .i64 x.epoch, .int .i64 x.kind, .int .i64 0, .slice none 0 0, .int .i64 0, .int .i64 0, .slice none 0 0] : Array Value)[0]? = some (.int .i64 0) from rfl)
    have fw := K3.out.frozen 0
    have k1 := K1.out.far (p := ⟨g3, 0, none⟩) (by show g1 ≠ g3; omega) (.int .i64 x.client)
    have k2 := K2.out.far (p := ⟨g3, 0, none⟩) (by show g2 ≠ g3; omega) (.int .i64 x.client)
    have k3 := K3.out.set_ 0 (.int .i64 x.client)
    have hb := HB.out.setCell (p := ⟨g3, 0, none⟩) (by show w.heap.size ≤ g3; omega) (.int .i64 x.client)
    have ck := (k1.cell 4).trans (show (wCells x A n c A' n' c')[4]? = some (.int .i64 x.kind) from rfl)
    go_upto_region 6 with fail
    replace K1 := Lib.hid k1
    replace K2 := Lib.hid k2
    replace HB := Lib.hid hb
    replace K3 := Lib.hid (show Blk _ g3 44 #[.int .i64 x.client, .int .i64 0, .int .i64 x.group, .int .i64 x.epoch, .int .i64 x.kind, .int .i64 0, .slice none 0 0, .int .i64 0, .int .i64 0, .slice none 0 0] from k3)
    clear k1 k2 k3 hb cx cw fw ck
    generalize World.setCell _ _ _ = wn at K1 K2 K3 HB ⊢
    have cx := (K1.out.cell 1).trans (show (wCells x A n c A' n' c')[1]? = some (.int .i64 x.stamp) from rfl)
    have cw := (K3.out.cell 1).trans (show (#[.int .i64 x.client, .int .i64 0, .int .i64 x.group, .int .i64 x.epoch, .int .i64 x.kind, .int .i64 0, .slice none 0 0, .int .i64 0, .int .i64 0, .slice none 0 0] : Array Value)[1]? = some (.int .i64 0) from rfl)
    have fw := K3.out.frozen 1
    have k1 := K1.out.far (p := ⟨g3, 1, none⟩) (by show g1 ≠ g3; omega) (.int .i64 x.stamp)
    have k2 := K2.out.far (p := ⟨g3, 1, none⟩) (by show g2 ≠ g3; omega) (.int .i64 x.stamp)
    have k3 := K3.out.set_ 1 (.int .i64 x.stamp)
    have hb := HB.out.setCell (p := ⟨g3, 1, none⟩) (by show w.heap.size ≤ g3; omega) (.int .i64 x.stamp)
    have ck := (k1.cell 4).trans (show (wCells x A n c A' n' c')[4]? = some (.int .i64 x.kind) from rfl)
    go_upto_region 7 with fail
    replace K1 := Lib.hid k1
    replace K2 := Lib.hid k2
    replace HB := Lib.hid hb
    replace K3 := Lib.hid (show Blk _ g3 44 #[.int .i64 x.client, .int .i64 x.stamp, .int .i64 x.group, .int .i64 x.epoch, .int .i64 x.kind, .int .i64 0, .slice none 0 0, .int .i64 0, .int .i64 0, .slice none 0 0] from k3)
    clear k1 k2 k3 hb cx cw fw ck
    generalize World.setCell _ _ _ = wn at K1 K2 K3 HB ⊢
    have cx := (K1.out.cell 5).trans (show (wCells x A n c A' n' c')[5]? = some (.int .i64 x.block) from rfl)
    have cw := (K3.out.cell 5).trans (show (#[.int .i64 x.client, .int .i64 x.stamp, .int .i64 x.group, .int .i64 x.epoch, .int .i64 x.kind, .int .i64 0, .slice none 0 0, .int .i64 0, .int .i64 0, .slice none 0 0] : Array Value)[5]? = some (.int .i64 0) from rfl)
    have fw := K3.out.frozen 5
    have k1 := K1.out.far (p := ⟨g3, 5, none⟩) (by show g1 ≠ g3; omega) (.int .i64 x.block)
    have k2 := K2.out.far (p := ⟨g3, 5, none⟩) (by show g2 ≠ g3; omega) (.int .i64 x.block)
    have k3 := K3.out.set_ 5 (.int .i64 x.block)
    have hb := HB.out.setCell (p := ⟨g3, 5, none⟩) (by show w.heap.size ≤ g3; omega) (.int .i64 x.block)
    have ck := (k1.cell 4).trans (show (wCells x A n c A' n' c')[4]? = some (.int .i64 x.kind) from rfl)
    go_upto_region 8 with fail
    replace K1 := Lib.hid k1
    replace K2 := Lib.hid k2
    replace HB := Lib.hid hb
    replace K3 := Lib.hid (show Blk _ g3 44 #[.int .i64 x.client, .int .i64 x.stamp, .int .i64 x.group, .int .i64 x.epoch, .int .i64 x.kind, .int .i64 x.block, .slice none 0 0, .int .i64 0, .int .i64 0, .slice none 0 0] from k3)
    clear k1 k2 k3 hb cx cw fw ck
    generalize World.setCell _ _ _ = wn at K1 K2 K3 HB ⊢
    have ck := (K1.out.cell 4).trans (show (wCells x A n c A' n' c')[4]? = some (.int .i64 x.kind) from rfl)
    by_cases hk2 : x.kind = 2
    · have hk0 := hk
      replace hk := hk2
      go_upto_region 9 with fail
      clear ck
      have cx := (K1.out.cell 6).trans (show (wCells x A n c A' n' c')[6]? = some (.slice A n c) from rfl)
      have cw := (K3.out.cell 6).trans (show (#[.int .i64 x.client, .int .i64 x.stamp, .int .i64 x.group, .int .i64 x.epoch, .int .i64 x.kind, .int .i64 x.block, .slice none 0 0, .int .i64 0, .int .i64 0, .slice none 0 0] : Array Value)[6]? = some (.slice none 0 0) from rfl)
      have fw := K3.out.frozen 6
      have k1 := K1.out.far (p := ⟨g3, 6, none⟩) (by show g1 ≠ g3; omega) (.slice A n c)
      have k2 := K2.out.far (p := ⟨g3, 6, none⟩) (by show g2 ≠ g3; omega) (.slice A n c)
      have k3 := K3.out.set_ 6 (.slice A n c)
      have hb := HB.out.setCell (p := ⟨g3, 6, none⟩) (by show w.heap.size ≤ g3; omega) (.slice A n c)
      have ck := (k1.cell 4).trans (show (wCells x A n c A' n' c')[4]? = some (.int .i64 x.kind) from rfl)
      go_upto_region 10 with fail
      replace K1 := Lib.hid k1
      replace K2 := Lib.hid k2
      replace HB := Lib.hid hb
      replace K3 := Lib.hid (show Blk _ g3 44 #[.int .i64 x.client, .int .i64 x.stamp, .int .i64 x.group, .int .i64 x.epoch, .int .i64 x.kind, .int .i64 x.block, .slice A n c, .int .i64 0, .int .i64 0, .slice none 0 0] from k3)
      clear k1 k2 k3 hb cx cw fw ck
      generalize World.setCell _ _ _ = wn at K1 K2 K3 HB ⊢
      have ck := (K1.out.cell 4).trans (show (wCells x A n c A' n' c')[4]? = some (.int .i64 x.kind) from rfl)
      go_upto_region 13 with fail
      clear ck
      have hf : (#[.int .i64 x.client, .int .i64 x.stamp, .int .i64 x.group, .int .i64 x.epoch, .int .i64 x.kind, .int .i64 x.block, .slice A n c, .int .i64 0, .int .i64 0, .slice none 0 0] : Array Value) = wCells (ownW x) A n c none 0 0 := by unfold wCells ownW; simp [hk]
      rw [hf] at K3
      clear hf
      go_wp2_with (first
        | (refine wpList_load_part (o := ⟨some 42, _, _, _, _, _⟩) rfl 44 (.tmp 3) rfl g3 0 10 rfl 44 _ (wCells (ownW x) A n c none 0 0) _ K3.out Tryz.underlying44 rfl rfl rfl (fun _ _ => by rw [Nat.zero_add]) ?_)
        | (refine wpList_store_part (o := ⟨none, _, _, _, _, _⟩) rfl 44 (.tmp 2) (.tmp 42) rfl g2 0 (wCells (ownW x) A n c none 0 0) rfl rfl 44 (wCells zeroW none 0 0 none 0 0) K2.out (wCells_info _ _ _ _ _ _ _) (by simp [wCells]) (wCells_one _ _ _ _ _ _ _) ?_; intro w7 hT7 hD7; rw [spl_self _ _ (by simp [wCells])] at hD7))
      refine bodyPost_ret (results_part rfl _ _ g2 10 44 _ _ rfl hD7 Tryz.underlying44 rfl rfl rfl) rfl ⟨?_, hT7.below HB.out (by omega)⟩
      unfold ownSl; simp [hk]
    · by_cases hk4 : x.kind = 4
      · have hk0 := hk
        replace hk := hk4
        go_upto_region 11 with fail
        clear ck
        have cx := (K1.out.cell 7).trans (show (wCells x A n c A' n' c')[7]? = some (.int .i64 x.old) from rfl)
        have cw := (K3.out.cell 7).trans (show (#[.int .i64 x.client, .int .i64 x.stamp, .int .i64 x.group, .int .i64 x.epoch, .int .i64 x.kind, .int .i64 x.block, .slice none 0 0, .int .i64 0, .int .i64 0, .slice none 0 0] : Array Value)[7]? = some (.int .i64 0) from rfl)
        have fw := K3.out.frozen 7
        have k1 := K1.out.far (p := ⟨g3, 7, none⟩) (by show g1 ≠ g3; omega) (.int .i64 x.old)
        have k2 := K2.out.far (p := ⟨g3, 7, none⟩) (by show g2 ≠ g3; omega) (.int .i64 x.old)
        have k3 := K3.out.set_ 7 (.int .i64 x.old)
        have hb := HB.out.setCell (p := ⟨g3, 7, none⟩) (by show w.heap.size ≤ g3; omega) (.int .i64 x.old)
        have ck := (k1.cell 4).trans (show (wCells x A n c A' n' c')[4]? = some (.int .i64 x.kind) from rfl)
        go_upto_region 12 with fail
        replace K1 := Lib.hid k1
        replace K2 := Lib.hid k2
        replace HB := Lib.hid hb
        replace K3 := Lib.hid (show Blk _ g3 44 #[.int .i64 x.client, .int .i64 x.stamp, .int .i64 x.group, .int .i64 x.epoch, .int .i64 x.kind, .int .i64 x.block, .slice none 0 0, .int .i64 x.old, .int .i64 0, .slice none 0 0] from k3)
        clear k1 k2 k3 hb cx cw fw ck
        generalize World.setCell _ _ _ = wn at K1 K2 K3 HB ⊢
        have cx := (K1.out.cell 8).trans (show (wCells x A n c A' n' c')[8]? = some (.int .i64 x.new) from rfl)
        have cw := (K3.out.cell 8).trans (show (#[.int .i64 x.client, .int .i64 x.stamp, .int .i64 x.group, .int .i64 x.epoch, .int .i64 x.kind, .int .i64 x.block, .slice none 0 0, .int .i64 x.old, .int .i64 0, .slice none 0 0] : Array Value)[8]? = some (.int .i64 0) from rfl)
        have fw := K3.out.frozen 8
        have k1 := K1.out.far (p := ⟨g3, 8, none⟩) (by show g1 ≠ g3; omega) (.int .i64 x.new)
        have k2 := K2.out.far (p := ⟨g3, 8, none⟩) (by show g2 ≠ g3; omega) (.int .i64 x.new)
        have k3 := K3.out.set_ 8 (.int .i64 x.new)
        have hb := HB.out.setCell (p := ⟨g3, 8, none⟩) (by show w.heap.size ≤ g3; omega) (.int .i64 x.new)
        have ck := (k1.cell 4).trans (show (wCells x A n c A' n' c')[4]? = some (.int .i64 x.kind) from rfl)
        go_upto_region 13 with fail
        replace K1 := Lib.hid k1
        replace K2 := Lib.hid k2
        replace HB := Lib.hid hb
        replace K3 := Lib.hid (show Blk _ g3 44 #[.int .i64 x.client, .int .i64 x.stamp, .int .i64 x.group, .int .i64 x.epoch, .int .i64 x.kind, .int .i64 x.block, .slice none 0 0, .int .i64 x.old, .int .i64 x.new, .slice none 0 0] from k3)
        clear k1 k2 k3 hb cx cw fw ck
        generalize World.setCell _ _ _ = wn at K1 K2 K3 HB ⊢
        have hf : (#[.int .i64 x.client, .int .i64 x.stamp, .int .i64 x.group, .int .i64 x.epoch, .int .i64 x.kind, .int .i64 x.block, .slice none 0 0, .int .i64 x.old, .int .i64 x.new, .slice none 0 0] : Array Value) = wCells (ownW x) none 0 0 none 0 0 := by unfold wCells ownW; simp [hk]
        rw [hf] at K3
        clear hf
        go_wp2_with (first
          | (refine wpList_load_part (o := ⟨some 42, _, _, _, _, _⟩) rfl 44 (.tmp 3) rfl g3 0 10 rfl 44 _ (wCells (ownW x) none 0 0 none 0 0) _ K3.out Tryz.underlying44 rfl rfl rfl (fun _ _ => by rw [Nat.zero_add]) ?_)
          | (refine wpList_store_part (o := ⟨none, _, _, _, _, _⟩) rfl 44 (.tmp 2) (.tmp 42) rfl g2 0 (wCells (ownW x) none 0 0 none 0 0) rfl rfl 44 (wCells zeroW none 0 0 none 0 0) K2.out (wCells_info _ _ _ _ _ _ _) (by simp [wCells]) (wCells_one _ _ _ _ _ _ _) ?_; intro w7 hT7 hD7; rw [spl_self _ _ (by simp [wCells])] at hD7))
        refine bodyPost_ret (results_part rfl _ _ g2 10 44 _ _ rfl hD7 Tryz.underlying44 rfl rfl rfl) rfl ⟨?_, hT7.below HB.out (by omega)⟩
        unfold ownSl; simp [hk]
      · go_upto_region 13 with fail
        clear ck
        have hf : (#[.int .i64 x.client, .int .i64 x.stamp, .int .i64 x.group, .int .i64 x.epoch, .int .i64 x.kind, .int .i64 x.block, .slice none 0 0, .int .i64 0, .int .i64 0, .slice none 0 0] : Array Value) = wCells (ownW x) none 0 0 none 0 0 := by unfold wCells ownW; simp [hk, hk4]
        rw [hf] at K3
        clear hf
        go_wp2_with (first
          | (refine wpList_load_part (o := ⟨some 42, _, _, _, _, _⟩) rfl 44 (.tmp 3) rfl g3 0 10 rfl 44 _ (wCells (ownW x) none 0 0 none 0 0) _ K3.out Tryz.underlying44 rfl rfl rfl (fun _ _ => by rw [Nat.zero_add]) ?_)
          | (refine wpList_store_part (o := ⟨none, _, _, _, _, _⟩) rfl 44 (.tmp 2) (.tmp 42) rfl g2 0 (wCells (ownW x) none 0 0 none 0 0) rfl rfl 44 (wCells zeroW none 0 0 none 0 0) K2.out (wCells_info _ _ _ _ _ _ _) (by simp [wCells]) (wCells_one _ _ _ _ _ _ _) ?_; intro w7 hT7 hD7; rw [spl_self _ _ (by simp [wCells])] at hD7))
        refine bodyPost_ret (results_part rfl _ _ g2 10 44 _ _ rfl hD7 Tryz.underlying44 rfl rfl rfl) rfl ⟨?_, hT7.below HB.out (by omega)⟩
        unfold ownSl; simp [hk, hk2]

end Go.Proofs.YtcpngeiahgoacaaGreat
