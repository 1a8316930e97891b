/- Parts of the proof, in one text: VoF, VlU. -/
import Derived.Test.YtfjopbbgcjgpbaaGreatY2
import Derived.Test.YtfjopbbgcjgpbaaGreatZ18

/- Contract of a vault's Bytes. -/
namespace Go.Proofs.YtfjopbbgcjgpbaaGreat
set_option linter.unusedVariables false
open Go.RowKit Go.Maps

attribute [local irreducible] wpList wpCalm
def BytesPost (w : World) (m : VM) (e : Ending) (w' : World) : Prop := ∃ v, e = .returned (.tuple #[v, .int .i64 0]) ∧ OwnB w' w.heap.size v (bytesV m) ∧ Below w.heap.size w w'
theorem flatB_le : ∀ (l : List (List UInt8)), (∀ x, x ∈ l → x.length ≤ 120) → (l.map strB).flatten.length ≤ 128 * l.length
  | [], _ => by simp
  | x :: t, h => by
    rw [List.map_cons, List.flatten_cons, List.length_append, List.length_cons]
    have h1 := flatB_le t fun y hy => h y (List.mem_cons_of_mem _ hy)
    have h2 := h x (List.mem_cons_self ..)
    have h3 := (numB_len (n := x.length) (by unfold maxN; omega)).2
    have h4 : (strB x).length = (numB x.length).length + x.length := by unfold strB; rw [List.length_append]
    omega
set_option maxRecDepth 100000 in
set_option maxHeartbeats 4000000 in
theorem vBytes_any (w : World) (V : VLoc) (N : Nat → Prop) (m : VM) (h : VAt w V N m) :
    Calls Tryz.prog 33 #[.pointer (some ⟨V.g, 0, none⟩)] w (BytesPost w m) := by
  obtain ⟨S, hd⟩ := h.dat
  have hok := hd.ok
  have HN := Lib.hid (vNone_any w V.g V.T.t h.none_)
  have HLV := Lib.hid (vLeaves_any w V N m h)
  have hlen := leavesV_len m
  have hbl : ∀ x, x ∈ leavesV m → x.length ≤ 120 := fun x hx => by
    obtain ⟨i, _, rfl⟩ := List.mem_map.1 hx
    exact leafV_len hok i
  have hfl := flatB_le _ hbl
  rw [hlen] at hfl
  obtain ⟨ls, hls⟩ : ∃ ls, ls = leavesV m := ⟨_, rfl⟩
  unfold BytesPost bytesV
  unfold LvPost at HLV
  rw [← hls] at HLV hlen hbl hfl ⊢
  have HLN := Lib.hid hlen
  have HBL := Lib.hid hbl
  obtain ⟨i0, hi0, hz0, hz1, hz2⟩ := info_parts u8_info
  clear h hd hlen hbl hls hok
  go_enter Tryz.func33, Tryz.ntmps33
  go_wp2_with fail
  refine HN.out.mono ?_
  rintro _ _ ⟨rfl, rfl⟩
  go_wp2_with fail
  refine HLV.out.mono ?_
  rintro _ w1 ⟨v, vs, rfl, how, hb1⟩
  obtain ⟨A, c, rfl, hc, _, hrows, hge⟩ := how.slice
  rw [HLN.out] at hc hrows ⊢
  have HR := Lib.hid hrows
  have HB1 := Lib.hid hb1
  have hs1 := hb1.size
  clear how hrows hb1 hge HLV HN
  go_wp2_with fail
  go_loopw [4, 14] (fun ov iv wr => ∃ i : Nat, i ≤ 13 ∧ iv = .int .i64 i ∧ OwnB wr w1.heap.size ov ((ls.take i).map strB).flatten ∧ Below w1.heap.size w1 wr) (fun _ iv _ => 13 - (intOf iv).toNat)
  case atStart => exact ⟨0, by omega, rfl, OwnB.nil _ _, Below.refl _ _⟩
  case round =>
    obtain ⟨i, hi, rfl, hov, hbel⟩ := hrel
    have HOV := Lib.hid hov
    have HB := Lib.hid hbel
    have hsz := hbel.size
    clear hov hbel
    by_cases hin : i < 13
    · have hinI : (i : Int) < 13 := by omega
      have h0I : (0 : Int) ≤ (i : Int) := by omega
      obtain ⟨ad, hA, hadb, hcell⟩ := HR.out.2 (by omega)
      subst hA
      have hxi : i < ls.length := by have := HLN.out; omega
      obtain ⟨Ak, mk, ck, hck, hrk⟩ := hcell i ls[i] (List.getElem?_eq_getElem hxi)
      have hck' := (HB.out.cell (show (ad.add i).block < w1.heap.size by rw [block_of_add]; omega)).trans hck
      have hmk : ls[i].length = mk := by have := hrk.1; simpa using this
      have hm120 : mk ≤ 120 := by have := HBL.out _ (List.getElem_mem hxi); omega
      have HST := Lib.hid (str_any Ak mk ck ls[i] wr wr.heap.size ((hrk.below HB.out).more hsz) (Nat.le_refl _) (by omega))
      obtain ⟨ys, hys⟩ : ∃ ys, ys = ((ls.take i).map strB).flatten := ⟨_, rfl⟩
      have htk : ((ls.take (i + 1)).map strB).flatten = ((ls.take i).map strB).flatten ++ strB ls[i] := by rw [List.take_succ_eq_append_getElem hxi, List.map_append, List.flatten_append]; simp only [List.map_cons, List.map_nil, List.flatten_cons, List.flatten_nil, List.append_nil]
      have htl : ((ls.take (i + 1)).map strB).flatten.length ≤ (ls.map strB).flatten.length := by
        conv => rhs; rw [← List.take_append_drop (i + 1) ls, List.map_append, List.flatten_append, List.length_append]
        omega
      rw [htk, List.length_append] at htl
      rw [← hys] at HOV htk htl
      have HTK := Lib.hid htk
      clear hys
      generalize strB ls[i] = x at HTK HST htl
      clear hcell hck hrk hmk htk
      go_wp2_with fail
      refine HST.out.mono ?_
      rintro _ w2 ⟨v2, rfl, ho2, hb2⟩
      obtain ⟨A2, c2, rfl, p1, p2, p3, p4⟩ := own_slice_b ho2
      obtain ⟨nx, hnx⟩ : ∃ k, k = x.length := ⟨_, rfl⟩
      rw [← hnx] at p3 htl ⊢
      have HNX := Lib.hid hnx
      have HP3 := Lib.hid p3
      have HO2 := Lib.hid (HOV.out.below hb2)
      have HWN := Lib.hid HO2.out.row
      have HB2 := Lib.hid (HB.out.trans (hb2.mono hsz))
      have hs2 := hb2.size
      clear ho2 hb2 p1 p2 p3 p4 HST hnx
      go_wp2_with (at_builtin; go_must (refine wpList_append_any _ rfl (.tmp 26) (.tmp 27) 31 rfl w1.heap.size 5 i0 _ 1 1 Tryz.underlying31 hi0 hz0 hz1 hz2 rfl (by omega) _ _ _ rfl HWN.out w2.heap.size A2 nx c2 (x.map vb) rfl HP3.out ?c1 ?c2 ?c3 ?c4 ?_))
      case c1 => intro u hu; obtain ⟨y, _, rfl⟩ := List.mem_map.1 hu; rfl
      case c2 => unfold maxLen; omega
      case c3 => omega
      case c4 => omega
      intro v3 w3 hown3 hg3 hor3
      have HB3 := Lib.hid (grown_below HB2.out (by omega) hg3 (fun b hb => HO2.out.ge hb))
      have HO3 := Lib.hid (show OwnB w3 w1.heap.size v3 ((ls.take (i + 1)).map strB).flatten by
        unfold OwnB
        rw [HTK.out, List.length_append, List.map_append, ← HNX.out]
        exact hown3)
      clear hown3 hg3 hor3
      go_wp2_with fail
      go_roundw
      case rel => exact ⟨i + 1, by omega, by go_num, HO3.out, HB3.out⟩
      case measure => simp [intOf]; omega
    · obtain rfl : i = 13 := by omega
      have hinI : ¬ (13 : Int) < 13 := by omega
      go_wp2_with fail
      go_ret2
      refine ⟨_, rfl, ?_, HB1.out.trans (HB.out.mono hs1)⟩
      have := HOV.out
      rw [List.take_of_length_le (by have := HLN.out; omega)] at this
      exact this.more hs1

end Go.Proofs.YtfjopbbgcjgpbaaGreat

/- Two vaults of one book, the second of which is made again. -/
namespace Go.Proofs.YtfjopbbgcjgpbaaGreat
set_option linter.unusedVariables false
open Go.RowKit Go.Maps

theorem TreeAt.not_book {w : World} {T : TreeLoc} {k : Book} {ls : List (List UInt8)} (h : TreeAt w T k ls) : ∀ b, T.has b → ¬ k.has b := fun b hb => by
  obtain ⟨b1, b2, b3⟩ := h.book
  rcases hb with e | e | ⟨j, hj, e⟩
  · exact e ▸ b1
  · exact e ▸ b2
  · exact e ▸ b3 j hj
/-- a new vault of the same book in the second one's stead -/
theorem LSt2.again {w0 W W' : World} {Va Vb V : VLoc} {N : Nat → Prop} {ma mb m : VM} {a asked : Nat} {L : List (List UInt8)} (h : LSt2 w0 Va Vb N ma mb a W) (hN : ∀ b, Va.all b → N b) (hn : NewAt W W' Va.k V L asked m) (hin : InBook L (leavesV ma)) : LSt2 w0 Va V (fun b => Va.all b ∨ V.all b) ma m (asked + 48) W' := by
  obtain ⟨L', a', q1, q2, q3, q4⟩ := hn.book
  have hs := hn.only.size
  have hal : ∀ b, Va.all b → b < W.heap.size := fun b hb => h.nlt b (hN b hb)
  have hkb := hn.kk
  have hbl : ∀ b, V.all b → b < W'.heap.size := VLoc.all_lt hn.vat (hkb ▸ q1)
  have hvb : ∀ b, V.all b → W.heap.size ≤ b ∨ Va.k.has b := fun b hb => hn.all_new hb
  have hTk := h.vata.tree.not_book
  have hm := h.vata.mono (N' := fun b => Va.all b ∨ V.all b) (fun b hb hn' => by
      rcases hn' with e | e
      · exact hN b e
      · rcases hvb b e with e | e
        · omega
        · exact hN b (.inr (.inl e))) (fun b hb => .inl (VLoc.has_all hb))
  refine ⟨hm.only hn.only (fun b e => .inl (.inr (.inl e))) h.vata.far.2 hTk, hn.old.mono (fun b hb hn' => ?_) (fun b hb => .inr (VLoc.has_all hb)), hkb, ⟨L', a', q1, by omega, hin.more q3, q4⟩, h.low.trans (hn.only.below h.low.size fun b hb e => by have := h.newa b (.inr (.inr e)); omega), ?_, h.newa, ?_, ⟨?_, ?_, ?_, ?_⟩⟩
  · rcases hn' with e | e
    · right; have := hal b e; have := hn.new.1; omega
    · exact .inl e
  · rintro b (e | e)
    · have := hal b e; omega
    · exact hbl b e
  · intro b hb
    rcases hvb b (VLoc.has_all hb) with e | e
    · have := h.low.size; omega
    · exact h.newa b (.inr (.inr e))
  · intro hv
    have := hal _ (VLoc.has_all hv)
    have := hn.new.1
    omega
  · intro hv
    rcases hvb _ (VLoc.has_all hv) with e | e
    · have := hal Va.g (.inl rfl); omega
    · exact h.vata.far.2 e
  · intro b hb hv
    rcases hvb _ (VLoc.has_all hv) with e | e
    · have := hal b (.inr (.inr hb)); omega
    · exact hTk b hb e
  · intro b hb hv
    have := hn.new.2 b hb
    have := hal b (VLoc.has_all hv)
    omega
/-- the second one stands, though another is made -/
theorem LSt2.stands {w0 W W' : World} {Va Vb V : VLoc} {N : Nat → Prop} {ma mb m : VM} {a asked : Nat} {L : List (List UInt8)} (h : LSt2 w0 Va Vb N ma mb a W) (hn : NewAt W W' Va.k V L asked m) : VAt W' Vb N mb := by
  have hk : ∀ b, Va.k.has b → Vb.k.has b := fun b e => by rw [h.kk]; exact e
  exact h.vatb.only hn.only (fun b e => h.vatb.all b (.inr (.inr (hk b e)))) (fun e => h.vatb.far.2 (hk _ e)) fun b hb e => h.vatb.tree.not_book b hb (hk b e)
def Both (Va Vb : VLoc) (b : Nat) : Prop := Va.has b ∨ Vb.has b
theorem LSt2.both {w0 W : World} {Va Vb : VLoc} {N : Nat → Prop} {ma mb : VM} {a : Nat} (h : LSt2 w0 Va Vb N ma mb a W) : ∀ b, Both Va Vb b → b < W.heap.size := fun b hb => by
  rcases hb with e | e
  · exact h.mut b e
  · exact h.swap.mut b e
theorem Only.botha {w w' : World} {Va Vb : VLoc} (h : Only Va.has w w') : Only (Both Va Vb) w w' := h.mono fun b _ e => .inl e
theorem Only.bothb {w w' : World} {Va Vb : VLoc} (h : Only Vb.has w w') : Only (Both Va Vb) w w' := h.mono fun b _ e => .inr e
/-- two vaults that are alike -/
structure AgSt (w0 : World) (Va Vb : VLoc) (i q : Nat) (W : World) : Prop where
  ex : ∃ N m, RunOk m i i ∧ LSt2 w0 Va Vb N m m (200 + 200 * i + q) W ∧ ∀ b, Va.all b → N b

end Go.Proofs.YtfjopbbgcjgpbaaGreat
