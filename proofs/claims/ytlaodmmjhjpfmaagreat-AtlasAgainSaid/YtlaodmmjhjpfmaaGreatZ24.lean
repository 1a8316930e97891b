/- Parts of the proof, in one text: AtLv, Wanted, AtBy, AoM, AoA, AoB. -/
import Derived.Test.YtlaodmmjhjpfmaaGreatZ23
import Derived.Test.YtlaodmmjhjpfmaaGreatZ15
import Derived.Test.YtlaodmmjhjpfmaaGreatZ1
import Derived.Test.YtlaodmmjhjpfmaaGreatZ20
import Derived.Test.YtlaodmmjhjpfmaaGreatZ12
import Derived.BigRegion
import Derived.IntWalk
import Derived.Deep.DeepCutAuto

/- Contract of (*Atlas).Leaves. -/
namespace Go.Proofs.YtlaodmmjhjpfmaaGreat
set_option linter.unusedVariables false
set_option linter.unusedSimpArgs false
open Go.RowKit Go.Maps

attribute [local irreducible] wpList wpCalm
def ALvPost (w : World) (m : AM) (e : Ending) (w' : World) : Prop := ∃ v vs, e = .returned v ∧ OwnL w' w.heap.size v (leavesQ m) vs ∧ Below w.heap.size w w'
set_option maxRecDepth 100000 in
set_option maxHeartbeats 4000000 in
theorem aLeaves_any (w : World) (V : ALoc) (N : Nat → Prop) (m : AM) (h : AAt w V N m) :
    Calls Tryz.prog 31 #[.pointer (some ⟨V.g, 0, none⟩)] w (ALvPost w m) := by
  obtain ⟨S, hd⟩ := h.dat
  have HN := Lib.hid (aNone_any w V.g V.T.t ((hd.blk.cell 0).trans (aCs_at _ _ _ _ 0 (by omega))))
  have HL := Lib.hid (fun (i : Nat) (hi : i < 6) (W : World) (hb : Below w.heap.size w W) => aleaf_any W V.g V.gc i _ N m S (hd.below hb) hi)
  have hlen := leavesQ_len m
  have HLN := Lib.hid hlen
  obtain ⟨i0, hi0, hz0, hz1, hz2⟩ := info_parts sl8_info
  clear h hd hlen
  go_enter Tryz.func31, Tryz.ntmps31
  go_wp2_with fail
  refine HN.out.mono ?_
  rintro _ _ ⟨rfl, rfl⟩
  go_wp2_with fail
  go_loopw [3, 7] (fun ov iv wr => ∃ (i : Nat) (vs : List Value), i ≤ 6 ∧ iv = .int .i64 i ∧ OwnL wr w.heap.size ov ((leavesQ m).take i) vs ∧ Below w.heap.size w wr) (fun _ iv _ => 6 - (intOf iv).toNat)
  case atStart => exact ⟨0, [], by omega, rfl, OwnL.nil _ _, Below.refl _ _⟩
  case round =>
    obtain ⟨i, vs, hi, rfl, hov, hbel⟩ := hrel
    have HOV := Lib.hid hov
    have HB := Lib.hid hbel
    have hsz := hbel.size
    by_cases hin : i < 6
    · have hinI : (i : Int) < 6 := by omega
      have htl : ((leavesQ m).take i).length = i := by rw [List.length_take, HLN.out]; omega
      have HTL := Lib.hid htl
      have HLF := Lib.hid (HL.out i hin wr hbel)
      have htk : (leavesQ m).take (i + 1) = (leavesQ m).take i ++ [leafQ m i] := by
        have hl := HLN.out
        have hg := leavesQ_get m i hin
        rw [List.getElem?_eq_getElem (by omega)] at hg
        rw [List.take_succ_eq_append_getElem (by omega), Option.some.inj hg]
      have HTK := Lib.hid htk
      clear hov hbel htl htk
      generalize leafQ m i = x at HLF HTK
      go_wp2_with fail
      refine HLF.out.mono ?_
      rintro _ w3 ⟨u0, rfl, hu, hb3⟩
      obtain ⟨Au, cu, hue, _⟩ := own_slice_b hu
      subst hue
      obtain ⟨nu, hnu⟩ : ∃ k, k = x.length := ⟨_, rfl⟩
      rw [← hnu] at hu ⊢
      obtain ⟨u, hu0⟩ : ∃ u, u = Value.slice Au nu cu := ⟨_, rfl⟩
      rw [← hu0] at hu
      have HU := Lib.hid (hu.more hsz)
      have HB3 := Lib.hid hb3
      have hs3 := hb3.size
      have hr3 := reads_cells w3 #[u] 22
      have HR3 := Lib.hid hr3
      have HU0 := Lib.hid hu0
      have HW := Lib.hid (show (w3.alloc (.cells #[u] 22)).ownsRow w.heap.size 22 1 _ i vs from by
        have := (rowD_keep HOV.out.row (w' := w3) fun b hb'' => hb3.block b (rowD_lt HOV.out.row hb'').2).alloc (.cells #[u] 22)
        rw [HTL.out] at this
        exact this)
      rw [hu0] at HW HR3
      clear hu hb3 hr3 HLF hnu hu0
      go_wp2_with (at_builtin; go_must (refine wpList_append_any _ rfl (.tmp 10) (.tmp 14) 23 rfl w.heap.size 22 i0 _ 1 24 Tryz.underlying23 hi0 hz0 hz1 hz2 rfl (by omega) _ i vs rfl HW.out (w3.heap.size + 1) (some ⟨w3.heap.size, 0, none⟩) 1 1 [.slice Au nu cu] rfl HR3.out ?c1 ?c2 ?c3 ?c4 ?_))
      case c1 => intro z hz; rw [List.mem_singleton] at hz; subst hz; rfl
      case c2 => unfold maxLen; omega
      case c3 => omega
      case c4 => simp; omega
      intro v6 w6 hown6 hg6 hor6
      rw [← HU0.out] at hown6 hg6
      have ho6 : OwnL w6 w.heap.size v6 ((leavesQ m).take (i + 1)) (vs ++ [u]) := by
        rw [HTK.out]
        exact HOV.out.push HB3.out HU.out (by rw [HTL.out]; exact hown6) hg6
      have hb6 : Below w.heap.size w w6 := grown_below ((HB.out.trans (HB3.out.mono hsz)).trans ((below_lit w3 (.cells #[u] 22)).mono (by omega))) (by simp; omega) hg6 (fun b hb => (rowD_lt HOV.out.row hb).1)
      have HO6 := Lib.hid ho6
      have HB6 := Lib.hid hb6
      clear hown6 hg6 hor6 ho6 hb6
      go_wp2_with fail
      go_roundw
      case rel => exact ⟨i + 1, _, by omega, by go_num, HO6.out, HB6.out⟩
      case measure => simp [intOf]; omega
    · obtain rfl : i = 6 := by omega
      have hinI : ¬ (6 : Int) < 6 := by omega
      have he : (leavesQ m).take 6 = leavesQ m := List.take_of_length_le (by rw [HLN.out]; omega)
      rw [he] at HOV
      clear hov hbel he
      go_wp2_with fail
      go_ret
      exact ⟨_, _, rfl, HOV.out, HB.out⟩

end Go.Proofs.YtlaodmmjhjpfmaaGreat

/- A guarded operation is wanted where its guard's slot holds the value. -/
namespace Go.Proofs.YtlaodmmjhjpfmaaGreat
open Go.RowKit

theorem wanted_at {o : Oper} {ops : Array Oper} {tm : Array Value} {j d : Nat} {b : Bool} (hg : o.guard = some (j, b)) (hd : (ops[j]?).bind (·.dst) = some d) (he : tm[d]?.getD undef = .bool b) : Region.wanted o (yielded ops tm) = true := by
  unfold Region.wanted yielded
  rw [hg]
  simp only [hd, Option.bind_some]
  cases ht : tm[d]? with
  | none => rw [ht] at he; simp [undef] at he
  | some v =>
    rw [ht] at he
    simp only [Option.getD_some] at he
    subst he
    simp

end Go.Proofs.YtlaodmmjhjpfmaaGreat

/- Contract of (*Atlas).Bytes. -/
namespace Go.Proofs.YtlaodmmjhjpfmaaGreat
set_option linter.unusedVariables false
set_option linter.unusedSimpArgs false
open Go.RowKit Go.Maps

attribute [local irreducible] wpList wpCalm
def bytesQ (m : AM) : List UInt8 := ((leavesQ m).map strB).flatten
def ABytesPost (w : World) (m : AM) (e : Ending) (w' : World) : Prop := ∃ v, e = .returned (.tuple #[v, .int .i64 0]) ∧ OwnB w' w.heap.size v (bytesQ m) ∧ Below w.heap.size w w'
theorem flatQ_le : ∀ (l : List (List UInt8)), (∀ x, x ∈ l → x.length ≤ 120) → (l.map strB).flatten.length ≤ 128 * l.length
  | [], _ => by simp
  | x :: t, h => by
    rw [List.map_cons, List.flatten_cons, List.length_append, List.length_cons]
    have h1 := flatQ_le t fun y hy => h y (List.mem_cons_of_mem _ hy)
    have h2 := h x (List.mem_cons_self ..)
    have h3 := (numB_len (n := x.length) (by unfold maxN; omega)).2
    have h4 : (strB x).length = (numB x.length).length + x.length := by unfold strB; rw [List.length_append]
    omega
set_option maxRecDepth 100000 in
set_option maxHeartbeats 4000000 in
theorem aBytes_any (w : World) (V : ALoc) (N : Nat → Prop) (m : AM) (h : AAt w V N m) :
    Calls Tryz.prog 46 #[.pointer (some ⟨V.g, 0, none⟩)] w (ABytesPost w m) := by
  obtain ⟨S, hd⟩ := h.dat
  have hok := hd.ok
  have HN := Lib.hid (aNone_any w V.g V.T.t ((hd.blk.cell 0).trans (aCs_at _ _ _ _ 0 (by omega))))
  have HLV := Lib.hid (aLeaves_any w V N m h)
  have hlen := leavesQ_len m
  have hbl : ∀ x, x ∈ leavesQ m → x.length ≤ 120 := fun x hx => by
    obtain ⟨i, _, rfl⟩ := List.mem_map.1 hx
    exact leafQ_len hok i
  have hfl := flatQ_le _ hbl
  rw [hlen] at hfl
  obtain ⟨ls, hls⟩ : ∃ ls, ls = leavesQ m := ⟨_, rfl⟩
  unfold ABytesPost bytesQ
  unfold ALvPost at HLV
  rw [← hls] at HLV hlen hbl hfl ⊢
  have HLN := Lib.hid hlen
  have HBL := Lib.hid hbl
  obtain ⟨i0, hi0, hz0, hz1, hz2⟩ := info_parts u8_info
  clear h hd hlen hbl hls hok
  go_enter Tryz.func46, Tryz.ntmps46
  go_wp2_with fail
  refine HN.out.mono ?_
  rintro _ _ ⟨rfl, rfl⟩
  go_wp2_with fail
  refine HLV.out.mono ?_
  rintro _ w1 ⟨v, vs, rfl, how, hb1⟩
  obtain ⟨A, c, rfl, hc, _, hrows, hge⟩ := how.slice
  rw [HLN.out] at hc hrows ⊢
  have HR := Lib.hid hrows
  have HB1 := Lib.hid hb1
  have hs1 := hb1.size
  clear how hrows hb1 hge HLV HN
  go_wp2_with fail
  go_loopw [4, 14] (fun ov iv wr => ∃ i : Nat, i ≤ 6 ∧ iv = .int .i64 i ∧ OwnB wr w1.heap.size ov ((ls.take i).map strB).flatten ∧ Below w1.heap.size w1 wr) (fun _ iv _ => 6 - (intOf iv).toNat)
  case atStart => exact ⟨0, by omega, rfl, OwnB.nil _ _, Below.refl _ _⟩
  case round =>
    obtain ⟨i, hi, rfl, hov, hbel⟩ := hrel
    have HOV := Lib.hid hov
    have HB := Lib.hid hbel
    have hsz := hbel.size
    clear hov hbel
    by_cases hin : i < 6
    · have hinI : (i : Int) < 6 := by omega
      have h0I : (0 : Int) ≤ (i : Int) := by omega
      obtain ⟨ad, hA, hadb, hcell⟩ := HR.out.2 (by omega)
      subst hA
      have hxi : i < ls.length := by have := HLN.out; omega
      obtain ⟨Ak, mk, ck, hck, hrk⟩ := hcell i ls[i] (List.getElem?_eq_getElem hxi)
      have hck' := (HB.out.cell (show (ad.add i).block < w1.heap.size by rw [block_of_add]; omega)).trans hck
      have hmk : ls[i].length = mk := by have := hrk.1; simpa using this
      have hm120 : mk ≤ 120 := by have := HBL.out _ (List.getElem_mem hxi); omega
      have HST := Lib.hid (str_any Ak mk ck ls[i] wr wr.heap.size ((hrk.below HB.out).more hsz) (Nat.le_refl _) (by omega))
      obtain ⟨ys, hys⟩ : ∃ ys, ys = ((ls.take i).map strB).flatten := ⟨_, rfl⟩
      have htk : ((ls.take (i + 1)).map strB).flatten = ((ls.take i).map strB).flatten ++ strB ls[i] := by rw [List.take_succ_eq_append_getElem hxi, List.map_append, List.flatten_append]; simp only [List.map_cons, List.map_nil, List.flatten_cons, List.flatten_nil, List.append_nil]
      have htl : ((ls.take (i + 1)).map strB).flatten.length ≤ (ls.map strB).flatten.length := by
        conv => rhs; rw [← List.take_append_drop (i + 1) ls, List.map_append, List.flatten_append, List.length_append]
        omega
      rw [htk, List.length_append] at htl
      rw [← hys] at HOV htk htl
      have HTK := Lib.hid htk
      clear hys
      generalize strB ls[i] = x at HTK HST htl
      clear hcell hck hrk hmk htk
      go_wp2_with fail
      refine HST.out.mono ?_
      rintro _ w2 ⟨v2, rfl, ho2, hb2⟩
      obtain ⟨A2, c2, rfl, p1, p2, p3, p4⟩ := own_slice_b ho2
      obtain ⟨nx, hnx⟩ : ∃ k, k = x.length := ⟨_, rfl⟩
      rw [← hnx] at p3 htl ⊢
      have HNX := Lib.hid hnx
      have HP3 := Lib.hid p3
      have HO2 := Lib.hid (HOV.out.below hb2)
      have HWN := Lib.hid HO2.out.row
      have HB2 := Lib.hid (HB.out.trans (hb2.mono hsz))
      have hs2 := hb2.size
      clear ho2 hb2 p1 p2 p3 p4 HST hnx
      go_wp2_with (at_builtin; go_must (refine wpList_append_any _ rfl (.tmp 26) (.tmp 27) 22 rfl w1.heap.size 5 i0 _ 1 1 Tryz.underlying22 hi0 hz0 hz1 hz2 rfl (by omega) _ _ _ rfl HWN.out w2.heap.size A2 nx c2 (x.map vb) rfl HP3.out ?c1 ?c2 ?c3 ?c4 ?_))
      case c1 => intro u hu; obtain ⟨y, _, rfl⟩ := List.mem_map.1 hu; rfl
      case c2 => unfold maxLen; omega
      case c3 => omega
      case c4 => omega
      intro v3 w3 hown3 hg3 hor3
      have HB3 := Lib.hid (grown_below HB2.out (by omega) hg3 (fun b hb => HO2.out.ge hb))
      have HO3 := Lib.hid (show OwnB w3 w1.heap.size v3 ((ls.take (i + 1)).map strB).flatten by
        unfold OwnB
        rw [HTK.out, List.length_append, List.map_append, ← HNX.out]
        exact hown3)
      clear hown3 hg3 hor3
      go_wp2_with fail
      go_roundw
      case rel => exact ⟨i + 1, by omega, by go_num, HO3.out, HB3.out⟩
      case measure => simp [intOf]; omega
    · obtain rfl : i = 6 := by omega
      have hinI : ¬ (6 : Int) < 6 := by omega
      go_wp2_with fail
      go_ret2
      refine ⟨_, rfl, ?_, HB1.out.trans (HB.out.mono hs1)⟩
      have := HOV.out
      rw [List.take_of_length_le (by have := HLN.out; omega)] at this
      exact this.more hs1

end Go.Proofs.YtlaodmmjhjpfmaaGreat

/- What leaves and bytes say of an atlas, in plain words. -/
namespace Go.Proofs.YtlaodmmjhjpfmaaGreat
set_option linter.unusedVariables false
set_option linter.unusedSimpArgs false
open Go.RowKit Go.Maps

def badF (l : List Nat) : Prop := l.length < 2 ∨ l.getD 0 0 < 1 ∨ 22 < l.getD 0 0 ∨ 2 < l.getD 1 0 ∨ l.length ≠ 2 + (3 * l.getD 1 0 + 1) + 2 * (l.getD 0 0 - 1)
instance (l : List Nat) : Decidable (badF l) := by unfold badF; infer_instance
/-- the first crew that a chunk's leaf says, and the numbers of its moves -/
def firstQ (l : List Nat) : Option ((Int × List Int) × List Int) := if badF l then none else some ((((l.getD 1 0 : Nat) : Int), nI ((l.drop 2).take (3 * l.getD 1 0 + 1))), nI (l.drop (2 + (3 * l.getD 1 0 + 1))))
def badT (l : List Nat) : Prop := l.length < 4 ∨ l.getD 3 0 + 4 ≠ l.length ∨ 22 ≤ l.getD 2 0 ∨ ¬ (l.getD 1 0 = 0 ∨ l.getD 1 0 = 5 ∨ l.getD 1 0 = 180) ∨ (4 < l.length ∧ crewB (nI (l.drop 4)) = false) ∨ ¬ (0 < l.getD 0 0 ∨ (l.getD 1 0 = 0 ∧ l.getD 2 0 = 0 ∧ l.length = 4))
instance (l : List Nat) : Decidable (badT l) := by unfold badT; infer_instance
/-- what a client's leaf says -/
def toldQ (l : List Nat) : Option (Nat × Ans) := if badT l then none else some (l.getD 0 0, ⟨l.getD 1 0, [], l.getD 2 0, nI (l.drop 4)⟩)
instance (l : List Int) (o n : Int) : Decidable (goodR l o n) := by unfold goodR; infer_instance
/-- moves of a chunk, one behind the other -/
def movesGo : List Srv → Nat → List Int → Option (List Srv)
  | cs, i, o :: n :: t => match cs[i]? with
    | none => none
    | some s => if usedA cs s.f n = false ∧ goodR s.now o n then movesGo (cs.set i (movedS s o n)) i t else none
  | cs, _, _ => some cs
def openC (cs : List (Int × List Int)) (ms : Nat → List Int) (f : Nat → List Nat) : Option AM :=
  match begunV cs with
  | none => none
  | some ss => match movesGo ss 0 (ms 0) with
    | none => none
    | some s1 => match movesGo s1 1 (ms 1) with
      | none => none
      | some s2 => if ∀ i, i < 4 → (toldQ (f (2 + i))).isSome = true then some ⟨s2, (List.range 4).map (fun i => (toldQ (f (2 + i))).getD (0, okA))⟩ else none
def openS (f : Nat → List Nat) : Option AM :=
  if f 1 = [0] then match firstQ (f 0) with
    | none => none
    | some p => openC [p.1] (fun i => if i = 0 then p.2 else []) f
  else match firstQ (f 0) with
    | none => none
    | some p => match firstQ (f 1) with
      | none => none
      | some q => openC [p.1, q.1] (fun i => if i = 0 then p.2 else q.2) f
instance (ls : List (List UInt8)) : Decidable (∀ i, i < 6 → (numsV (ls.getD i [])).isSome = true) := Nat.decidableBallLT 6 (fun i _ => (numsV (ls.getD i [])).isSome = true)
def openQ (ls : List (List UInt8)) : Option AM :=
  if ls.length = 6 ∧ (∀ i, i < 6 → (numsV (ls.getD i [])).isSome = true) then openS (fun i => (numsV (ls.getD i [])).getD []) else none

theorem nI_toNat : ∀ (l : List Int), (∀ z, z ∈ l → 0 ≤ z) → nI (l.map (·.toNat)) = l
  | [], _ => rfl
  | z :: t, h => by
    show ((z.toNat : Nat) : Int) :: nI (t.map (·.toNat)) = z :: t
    rw [nI_toNat t fun y hy => h y (List.mem_cons_of_mem _ hy)]
    have := h z (List.mem_cons_self ..)
    congr 1
    omega
theorem firstQ_chunk {s : Srv} (h : SOk s) : firstQ ((chunkI s).map (·.toNat)) = some (((s.f : Int), s.first), movesI s.moves) := by
  have hc := h.chunk
  have hl := h.crew.len
  have hm := h.len
  have hf := h.crew.faults
  have hv := movesI_len s.moves
  obtain ⟨l, hll⟩ : ∃ l, l = (chunkI s).map (·.toNat) := ⟨_, rfl⟩
  have e : l = (s.moves.length + 1) :: s.f :: (s.first.map (·.toNat) ++ (movesI s.moves).map (·.toNat)) := by
    rw [hll]
    unfold chunkI
    rw [List.map_append]
    simp only [List.map_cons, Int.toNat_natCast, List.cons_append]
  have hlen : l.length = 2 + (3 * s.f + 1) + 2 * s.moves.length := by
    rw [e]
    simp only [List.length_cons, List.length_append, List.length_map]
    omega
  have g0 : l.getD 0 0 = s.moves.length + 1 := by rw [e]; rfl
  have g1 : l.getD 1 0 = s.f := by rw [e]; rfl
  have d2 : (l.drop 2).take (3 * s.f + 1) = s.first.map (·.toNat) := by
    rw [e]
    show (s.first.map (·.toNat) ++ (movesI s.moves).map (·.toNat)).take (3 * s.f + 1) = _
    rw [List.take_left' (by rw [List.length_map]; exact hl)]
  have d3 : l.drop (2 + (3 * s.f + 1)) = (movesI s.moves).map (·.toNat) := by
    rw [e, show 2 + (3 * s.f + 1) = (3 * s.f + 1) + 1 + 1 by omega, List.drop_succ_cons, List.drop_succ_cons, List.drop_left' (by rw [List.length_map]; exact hl)]
  rw [← hll]
  unfold firstQ
  rw [if_neg (by unfold badF; rw [g0, g1, hlen]; omega), g1, d2, d3, nI_toNat, nI_toNat]
  · intro z hz
    have := hc z (by unfold chunkI; exact List.mem_append_right _ hz)
    omega
  · intro z hz
    have := hc z (by unfold chunkI; exact List.mem_append_left _ (List.mem_cons_of_mem _ (List.mem_cons_of_mem _ hz)))
    omega
theorem toldQ_last {x : Nat × Ans} (h : AnsOk x.2) (h0 : x.1 = 0 → x.2 = okA) : toldQ ((lastI x).map (·.toNat)) = some x := by
  obtain ⟨st, e, dt, ep, ns⟩ := x
  have he : e = 0 ∨ e = 5 ∨ e = 180 := h.err
  have hd : dt = [] := h.data
  have hp : ep ≤ 21 := h.epoch
  have hn : ns = [] ∨ crewB ns = true := h.nodes
  have hb := h.bound
  subst hd
  obtain ⟨l, hll⟩ : ∃ l, l = (lastI (st, (⟨e, [], ep, ns⟩ : Ans))).map (·.toNat) := ⟨_, rfl⟩
  have el : l = st :: e :: ep :: ns.length :: ns.map (·.toNat) := by
    rw [hll]
    unfold lastI
    rw [List.map_append]
    simp only [List.map_cons, List.map_nil, Int.toNat_natCast, List.cons_append, List.nil_append]
  have hlen : l.length = 4 + ns.length := by
    rw [el]
    simp only [List.length_cons, List.length_map]
    omega
  have g0 : l.getD 0 0 = st := by rw [el]; rfl
  have g1 : l.getD 1 0 = e := by rw [el]; rfl
  have g2 : l.getD 2 0 = ep := by rw [el]; rfl
  have g3 : l.getD 3 0 = ns.length := by rw [el]; rfl
  have d4 : nI (l.drop 4) = ns := by
    rw [el]
    show nI (ns.map (·.toNat)) = ns
    exact nI_toNat _ fun z hz => (hb.2 z hz).1
  rw [← hll]
  unfold toldQ
  rw [if_neg, g0, g1, g2, d4]
  unfold badT
  rw [g0, g1, g2, g3, d4, hlen]
  have hz : st = 0 → e = 0 ∧ ep = 0 ∧ ns = [] := fun q => by
    have := h0 q
    unfold okA at this
    injection this with a b c d
    exact ⟨a, c, d⟩
  rintro (q | q | q | q | q | q)
  · omega
  · omega
  · omega
  · exact q he
  · rcases hn with r | r
    · rw [r] at q; simp at q
    · rw [r] at q; exact absurd q.2 (by simp)
  · refine q ?_
    rcases Nat.eq_zero_or_pos st with r | r
    · obtain ⟨a, b, c⟩ := hz r
      exact .inr ⟨a, b, by rw [c]; rfl⟩
    · exact .inl r
theorem servedA_cons (s : Srv) (t : List Srv) : servedA (s :: t) = servedS s ++ servedA t := rfl
theorem servedA_more : ∀ (cs : List Srv) (i : Nat) (s : Srv) (b : List (Int × Int)), cs[i]? = some s → (servedA (cs.set i ⟨s.f, s.first, s.moves ++ b⟩)).Perm (b.map (·.2) ++ servedA cs)
  | [], i, s, b, h => by simp at h
  | q :: t, 0, s, b, h => by
    obtain rfl := Option.some.inj h
    rw [List.set_cons_zero, servedA_cons, servedA_cons]
    have e : servedS ⟨q.f, q.first, q.moves ++ b⟩ = servedS q ++ b.map (·.2) := by
      unfold servedS
      rw [List.map_append, List.append_assoc]
    rw [e, List.append_assoc, ← List.append_assoc (b.map _), ← List.append_assoc (servedS q)]
    exact List.perm_append_comm.append_right _
  | q :: t, i + 1, s, b, h => by
    rw [List.set_cons_succ, servedA_cons, servedA_cons]
    refine ((servedA_more t i s b (by simpa using h)).append_left (servedS q)).trans ?_
    rw [← List.append_assoc, ← List.append_assoc]
    exact List.perm_append_comm.append_right _
theorem usedA_of {cs : List Srv} {f : Nat} {z : Int} (h1 : 3 * (f : Int) + 1 < z) (h2 : ¬ z ∈ servedA cs) : usedA cs f z = false := by
  unfold usedA
  rw [decide_eq_false (by omega), Bool.false_or, List.any_eq_false]
  intro s hs hu
  refine h2 (served_in hs ?_)
  unfold usedS at hu
  unfold servedS
  rw [Bool.or_eq_true] at hu
  rcases hu with hu | hu
  · exact List.mem_append_left _ (of_decide_eq_true hu)
  · obtain ⟨m, hm, he⟩ := List.any_eq_true.1 hu
    exact List.mem_append_right _ (List.mem_map.2 ⟨m, hm, of_decide_eq_true he⟩)
theorem set_same {cs : List Srv} {i : Nat} {s : Srv} (h : cs[i]? = some s) : cs.set i s = cs := by
  apply List.ext_getElem?
  intro j
  rw [List.getElem?_set]
  split
  · rename_i e
    subst e
    have := (List.getElem?_eq_some_iff.1 h).1
    rw [if_pos this, h]
  · rfl
theorem MovesOk.head {l : List Int} : ∀ {a : List (Int × Int)} {o n : Int} {b : List (Int × Int)}, MovesOk l (a ++ (o, n) :: b) → goodR (nowL l a) o n := by
  intro a o n b h
  have := MovesOk.at_ (i := a.length) (o := o) (z := n) h (by simp)
  rwa [List.take_left' rfl] at this
theorem movesGo_replay (i : Nat) : ∀ (b : List (Int × Int)) (cs : List Srv) (s : Srv), cs[i]? = some s → (servedA (cs.set i ⟨s.f, s.first, s.moves ++ b⟩)).Nodup → (∀ x, x ∈ b → 3 * (s.f : Int) + 1 < x.2) → MovesOk s.first (s.moves ++ b) → movesGo cs i (movesI b) = some (cs.set i ⟨s.f, s.first, s.moves ++ b⟩)
  | [], cs, s, hs, _, _, _ => by
    show movesGo cs i [] = _
    rw [List.append_nil, set_same hs]
    rfl
  | (o, n) :: t, cs, s, hs, hnd, hh, hm => by
    have hlt := (List.getElem?_eq_some_iff.1 hs).1
    have hp := (servedA_more cs i s ((o, n) :: t) hs).nodup_iff.1 hnd
    have hno : ¬ n ∈ servedA cs := fun hc => (List.nodup_append.1 hp).2.2 n (by simp) n hc rfl
    have hu := usedA_of (f := s.f) (hh (o, n) (List.mem_cons_self ..)) hno
    have hg : goodR s.now o n := hm.head
    show movesGo cs i (o :: n :: movesI t) = _
    unfold movesGo
    rw [hs]
    simp only
    rw [if_pos ⟨hu, hg⟩]
    have hs' : (cs.set i (movedS s o n))[i]? = some (movedS s o n) := by rw [List.getElem?_set]; simp [hlt]
    have ee : s.moves ++ (o, n) :: t = (movedS s o n).moves ++ t := by simp [movedS]
    have := movesGo_replay i t (cs.set i (movedS s o n)) (movedS s o n) hs' (by rw [List.set_set, ← ee]; exact hnd) (fun x hx => hh x (List.mem_cons_of_mem _ hx)) (by rw [← ee]; exact hm)
    rw [this, List.set_set, ← ee]
    rfl
def bareS (s : Srv) : Srv := ⟨s.f, s.first, []⟩
theorem servedS_bare (s : Srv) : servedS (bareS s) = s.first := by simp [servedS, bareS]
theorem begunGo_of (f0 : Int) : ∀ (cs acc : List Srv), (∀ s, s ∈ cs → SOk s ∧ (s.f : Int) = f0 ∧ ∀ x, x ∈ s.first → 3 * (s.f : Int) + 1 < x) → (servedA (acc ++ cs.map bareS)).Nodup → begunGo acc f0 (cs.map fun s => ((s.f : Int), s.first)) = some (acc ++ cs.map bareS)
  | [], acc, _, _ => by simp [begunGo]
  | s :: t, acc, h, hn => by
    obtain ⟨h1, h2, h3⟩ := h s (List.mem_cons_self ..)
    have hf := h1.crew.faults
    have hl := h1.crew.len
    have e : acc ++ (s :: t).map bareS = (acc ++ [bareS s]) ++ t.map bareS := by simp
    have hno : ∀ x, x ∈ s.first → ¬ x ∈ servedA acc := fun x hx hc => by
      have e2 : servedA (acc ++ (s :: t).map bareS) = servedA acc ++ (s.first ++ servedA (t.map bareS)) := by
        unfold servedA
        rw [List.map_append, List.flatten_append, List.map_cons, List.map_cons, List.flatten_cons, servedS_bare]
      rw [e2] at hn
      exact (List.nodup_append.1 hn).2.2 x hc x (List.mem_append_left _ hx) rfl
    rw [List.map_cons]
    unfold begunGo
    simp only
    rw [if_pos]
    · rw [show (⟨((s.f : Int)).toNat, s.first, []⟩ : Srv) = bareS s by unfold bareS; rw [Int.toNat_natCast]]
      rw [begunGo_of f0 t (acc ++ [bareS s]) (fun q hq => h q (List.mem_cons_of_mem _ hq)) (by rw [← e]; exact hn), ← e]
    · refine ⟨⟨by omega, by omega, by omega, h1.crew.up⟩, h2, List.any_eq_false.2 fun x hx => ?_⟩
      rw [Int.toNat_natCast, usedA_of (h3 x hx) (hno x hx)]
      simp
theorem served_bare_sub : ∀ cs : List Srv, (servedA (cs.map bareS)).Sublist (servedA cs)
  | [] => List.Sublist.refl _
  | s :: t => by
    rw [List.map_cons, servedA_cons, servedA_cons, servedS_bare]
    exact List.Sublist.append (List.sublist_append_left _ _) (served_bare_sub t)
theorem begunV_bare {m : AM} (h : AOk m) : begunV (m.chunks.map fun s => ((s.f : Int), s.first)) = some (m.chunks.map bareS) := by
  obtain ⟨f, hf⟩ := h.same
  have hg := begunGo_of (f : Int) m.chunks [] (fun s hs => ⟨h.srv s hs, by rw [hf s hs], fun x hx => h.high s hs x (List.mem_append_left _ hx)⟩) (by rw [List.nil_append]; exact (served_bare_sub _).nodup h.apart)
  rw [List.nil_append] at hg
  unfold begunV
  have h1 := h.one
  cases hc : m.chunks with
  | nil => rw [hc] at h1; simp at h1
  | cons s t =>
    rw [hc] at hg h1 hf
    have := hf s (List.mem_cons_self ..)
    rw [List.map_cons]
    simp only
    rw [if_pos (by simp only [List.length_cons, List.length_map] at h1 ⊢; omega), this]
    rw [List.map_cons, this] at hg
    exact hg
theorem moves_replay {m : AM} (h : AOk m) : ∃ s1, movesGo (m.chunks.map bareS) 0 (movesI ((m.chunks[0]?.map (·.moves)).getD [])) = some s1 ∧ movesGo s1 1 (movesI ((m.chunks[1]?.map (·.moves)).getD [])) = some m.chunks := by
  have hk := h.one
  have hsrv := h.srv
  have hhi := h.high
  have hap := h.apart
  obtain ⟨cs, hcs⟩ : ∃ cs, cs = m.chunks := ⟨_, rfl⟩
  rw [← hcs] at hk hsrv hhi hap ⊢
  have hmv : ∀ s, s ∈ cs → ∀ x, x ∈ s.moves → 3 * (s.f : Int) + 1 < x.2 := fun s hs x hx => hhi s hs x.2 (List.mem_append_right _ (List.mem_map.2 ⟨x, hx, rfl⟩))
  match cs, hk with
  | [a], _ =>
    have ha := List.mem_cons_self (a := a) (l := [])
    refine ⟨[a], ?_, rfl⟩
    have := movesGo_replay 0 a.moves [bareS a] (bareS a) rfl (by simpa [bareS] using hap) (fun x hx => hmv a ha x hx) (by simpa [bareS] using (hsrv a ha).mv)
    simpa [bareS] using this
  | [a, b], _ =>
    have ha := List.mem_cons_self (a := a) (l := [b])
    have hb : b ∈ [a, b] := List.mem_cons_of_mem _ (List.mem_cons_self ..)
    refine ⟨[a, bareS b], ?_, ?_⟩
    · have hnd : (servedA [a, bareS b]).Nodup := by
        refine List.Sublist.nodup ?_ hap
        rw [servedA_cons, servedA_cons, servedA_cons, servedA_cons, servedS_bare]
        exact (List.Sublist.refl _).append (List.Sublist.append (List.sublist_append_left _ _) (List.Sublist.refl _))
      have := movesGo_replay 0 a.moves [bareS a, bareS b] (bareS a) rfl (by simpa [bareS] using hnd) (fun x hx => hmv a ha x hx) (by simpa [bareS] using (hsrv a ha).mv)
      simpa [bareS] using this
    · have := movesGo_replay 1 b.moves [a, bareS b] (bareS b) rfl (by simpa [bareS] using hap) (fun x hx => hmv b hb x hx) (by simpa [bareS] using (hsrv b hb).mv)
      simpa [bareS] using this
theorem nums_leaf {m : AM} (h : AOk m) (i : Nat) (hi : i < 6) : numsV ((leavesQ m).getD i []) = some ((leafI m i).map (·.toNat)) := by
  rw [leavesQ_getD m i hi]
  exact numsV_ints _ (leafI_num h i)
/-- the leaves of an atlas open it -/
theorem openQ_leaves {m : AM} (h : AOk m) : openQ (leavesQ m) = some m := by
  have hn := nums_leaf h
  unfold openQ
  rw [if_pos ⟨leavesQ_len m, fun i hi => by rw [hn i hi]; rfl⟩]
  have hfi : ∀ i, i < 6 → (fun i => (numsV ((leavesQ m).getD i [])).getD []) i = (leafI m i).map (·.toNat) := fun i hi => by
    show (numsV ((leavesQ m).getD i [])).getD [] = _
    rw [hn i hi]; rfl
  generalize (fun i => (numsV ((leavesQ m).getD i [])).getD []) = f at hfi
  have htd : ∀ i, i < 4 → toldQ (f (2 + i)) = some (lastQ m i) := fun i hi => by
    rw [hfi _ (by omega)]
    unfold leafI
    rw [if_neg (by omega), show 2 + i - 2 = i by omega]
    have := h.lst i
    exact toldQ_last this.2.1 this.2.2
  obtain ⟨s1, hr1, hr2⟩ := moves_replay h
  have hbg := begunV_bare h
  have hk := h.one
  have hsrv := h.srv
  have hlast : (List.range 4).map (fun i => (toldQ (f (2 + i))).getD (0, okA)) = m.last := by
    have hl := h.last
    apply List.ext_getElem?
    intro i
    rw [List.getElem?_map]
    by_cases hi : i < 4
    · rw [List.getElem?_range hi]
      simp only [Option.map_some]
      rw [htd i hi]
      show some (m.last.getD i (0, okA)) = m.last[i]?
      rw [List.getD_eq_getElem?_getD, List.getElem?_eq_getElem (by omega)]
      rfl
    · rw [List.getElem?_eq_none (by simpa using hi), List.getElem?_eq_none (by omega)]
      rfl
  have hopen : ∀ ms : Nat → List Int, ms 0 = movesI ((m.chunks[0]?.map (·.moves)).getD []) → ms 1 = movesI ((m.chunks[1]?.map (·.moves)).getD []) → openC (m.chunks.map fun s => ((s.f : Int), s.first)) ms f = some m := fun ms e0 e1 => by
    unfold openC
    rw [hbg]
    simp only
    rw [e0, hr1]
    simp only
    rw [e1, hr2]
    simp only
    rw [if_pos (fun i hi => by rw [htd i hi]; rfl), hlast]
  have l0 := hfi 0 (by omega)
  have l1 := hfi 1 (by omega)
  unfold leafI at l0 l1
  rw [if_pos (by omega)] at l0 l1
  obtain ⟨cs, hcs⟩ : ∃ cs, cs = m.chunks := ⟨_, rfl⟩
  rw [← hcs] at hk hsrv hopen l0 l1
  unfold openS
  match cs, hk with
  | [a], _ =>
    have l1' : f 1 = [0] := by rw [l1]; rfl
    have l0' : f 0 = (chunkI a).map (·.toNat) := l0
    rw [if_pos l1', l0', firstQ_chunk (hsrv a (List.mem_cons_self ..))]
    exact hopen _ rfl rfl
  | [a, b], _ =>
    have l0' : f 0 = (chunkI a).map (·.toNat) := l0
    have l1' : f 1 = (chunkI b).map (·.toNat) := l1
    have hne : f 1 ≠ [0] := by
      rw [l1']
      unfold chunkI
      intro e
      have := congrArg (·.head?) e
      simp at this
    rw [if_neg hne, l0', l1', firstQ_chunk (hsrv a (List.mem_cons_self ..)), firstQ_chunk (hsrv b (List.mem_cons_of_mem _ (List.mem_cons_self ..)))]
    exact hopen _ rfl rfl
/-- bytes -/
def loadQ (b : List UInt8) : Option AM × Nat :=
  let r := loadGo 6 b []
  if r.2.2 ≠ 0 then (none, r.2.2) else if 0 < r.2.1.length then (none, 4) else match openQ r.1 with
    | none => (none, 2)
    | some m => (some m, 0)
theorem loadQ_bytes {m : AM} (h : AOk m) : loadQ (bytesQ m) = (some m, 0) := by
  have hl := loadGo_of (leavesQ m) [] fun x hx => by
    obtain ⟨i, _, rfl⟩ := List.mem_map.1 hx
    have := leafQ_len h i; omega
  rw [leavesQ_len, List.nil_append] at hl
  unfold loadQ bytesQ
  rw [hl]
  simp only
  rw [if_neg (by simp), if_neg (by simp), openQ_leaves h]

end Go.Proofs.YtlaodmmjhjpfmaaGreat

/- atlas.numbers: all numbers that bytes say. -/
namespace Go.Proofs.YtlaodmmjhjpfmaaGreat
set_option linter.unusedVariables false
set_option linter.unusedSimpArgs false
open Go.RowKit Go.Maps

attribute [local irreducible] wpList wpCalm
def NumsPost (w : World) (o : Option (List Nat)) (e : Ending) (w' : World) : Prop := ∃ v, e = .returned (.tuple #[v, .bool o.isSome]) ∧ OwnN w' w.heap.size v (nI (o.getD [])) ∧ (∀ x, x ∈ o.getD [] → x ≤ maxN) ∧ Below w.heap.size w w'

set_option maxRecDepth 100000 in
set_option maxHeartbeats 8000000 in
theorem anumbers_any (A : Option Addr) (n c : Nat) (xs : List UInt8) (w : World) (B : Nat) (h : Reads w B 1 A n (xs.map vb)) (hB : B ≤ w.heap.size) (hc : n ≤ c) (hn : n ≤ 1000000000000) :
    Calls Tryz.prog 103 #[.slice A n c] w (NumsPost w (numsV xs)) := by
  obtain ⟨o, ho⟩ : ∃ o, o = numsV xs := ⟨_, rfl⟩
  rw [← ho]
  have HO := Lib.hid ho
  have HST := Lib.hid (show PsSt w xs n A n c (.slice none 0 0) xs [] w from ⟨h.more hB, hc, OwnN.nil_ _ _, by simp, by cases numsV xs <;> rfl, fun x hx => by simp at hx, Below.refl _ _⟩)
  obtain ⟨i0, hi0, hz0, hz1, hz2⟩ := info_parts ci_info
  obtain ⟨n0, hn0⟩ : ∃ k, k = n := ⟨_, rfl⟩
  rw [← hn0] at hn
  have HST2 := Lib.hid (show PsSt w xs n0 A n c (.slice none 0 0) xs [] w from hn0 ▸ HST.out)
  clear h ho HST hc hn0
  go_enter Tryz.func103, Tryz.ntmps103
  go_wp2_with fail
  go_loopw [0, 2] (fun bv lv wr => ∃ (A : Option Addr) (n c : Nat) (rest : List UInt8) (done : List Nat), bv = .slice A n c ∧ PsSt w xs n0 A n c lv rest done wr) (fun bv _ _ => (match bv with | .slice _ n _ => n | _ => 0))
  case atStart => exact ⟨_, _, _, _, _, rfl, HST2.out⟩
  case round =>
    obtain ⟨A, n, c, rest, done, rfl, hps⟩ := hrel
    have HPS := Lib.hid hps
    have hrl : rest.length = n := by have := hps.rd.1; simpa using this
    have HRL := Lib.hid hrl
    have hsz := hps.low.size
    have hlen := hps.len
    clear hps hrl
    by_cases h0 : n = 0
    · subst h0
      have hre : rest = [] := List.eq_nil_of_length_eq_zero (by have := HRL.out; omega)
      have hnum : o = some done := by
        have := HPS.out.num
        rw [hre] at this
        rw [HO.out, this]
        simp [numsV_nil]
      have HOWN := Lib.hid HPS.out.own
      have HMAX := Lib.hid HPS.out.max
      have HLOW := Lib.hid HPS.out.low
      clear hre HPS HRL HO hlen
      subst hnum
      go_wp2_with fail
      go_ret2
      exact ⟨_, rfl, HOWN.out, HMAX.out, HLOW.out⟩
    · have h0b : (0 : Int) < (n : Int) := by omega
      have hne : rest ≠ [] := by intro e; have := HRL.out; rw [e] at this; simp at this; omega
      have HTN := Lib.hid (takeNum_any A n c rest wr wr.heap.size HPS.out.rd (Nat.le_refl _) HPS.out.cap (by omega))
      have htm := tn_num rest
      have HBADN := Lib.hid (fun (he : (tn rest).2.2 ≠ 0) => numsV_bad hne he)
      have HNEXT := Lib.hid (fun (he : (tn rest).2.2 = 0) => numsV_next hne he)
      have HSHR := Lib.hid (fun (he : (tn rest).2.2 = 0) => tn_shrink he)
      obtain ⟨p, hp⟩ : ∃ p, p = tn rest := ⟨_, rfl⟩
      rw [← hp] at HTN htm HBADN HNEXT HSHR
      obtain ⟨k, r, e⟩ := p
      simp only at HTN htm HBADN HNEXT HSHR
      have HTM := Lib.hid htm
      clear hne hp htm
      obtain ⟨Al, cl, hlv, hlc, _, _, _⟩ := own_slice_n HPS.out.own
      rw [nI_len] at hlv hlc
      subst hlv
      go_wp2_with fail
      refine HTN.out.mono ?_
      rintro _ w2 ⟨v, rfl, ho2, hb2⟩
      obtain ⟨A1, c1, hv, q1, q2, hr1, _⟩ := own_slice_b ho2
      subst hv
      have HR1 := Lib.hid hr1
      have HOB := Lib.hid ho2
      have HL2 := Lib.hid (HPS.out.low.trans (hb2.mono hsz))
      have HOW2 := Lib.hid (HPS.out.own.below_ hb2)
      have hs2 := hb2.size
      clear ho2 hb2 hr1 HTN
      by_cases he : e = 0
      · have heb : ((e : Int) != 0) = false := by simp [he]
        have hshr := HSHR.out he
        have hnx := HNEXT.out he
        rw [HRL.out] at hshr
        have HNX := Lib.hid hnx
        have HW := Lib.hid (show (w2.alloc (.cells #[.int .i64 (k : Int)] 3)).ownsRow w.heap.size 3 1 (.slice Al done.length cl) done.length ((nI done).map vn) from by
          have := World.ownsRow.alloc HOW2.out (.cells #[.int .i64 (k : Int)] 3)
          rw [nI_len] at this
          exact this)
        have HR3 := Lib.hid (reads_cells w2 #[.int .i64 (k : Int)] 3)
        have HR1b := Lib.hid (HR1.out.below (below_lit w2 (.cells #[.int .i64 (k : Int)] 3)))
        obtain ⟨dn, hdn⟩ : ∃ d, d = done.length := ⟨_, rfl⟩
        rw [← hdn] at HW hlen ⊢
        have HDN := Lib.hid hdn
        obtain ⟨rl, hrl⟩ : ∃ d, d = r.length := ⟨_, rfl⟩
        rw [← hrl] at hshr HR1b q1 ⊢
        have HRLE := Lib.hid hrl
        clear hnx hdn hrl
        go_wp2_with (at_builtin; go_must (refine wpList_append_any _ rfl (.tmp 18) (.tmp 20) 41 rfl w.heap.size 3 i0 _ 1 8 Tryz.underlying41 hi0 hz0 hz1 hz2 rfl (by omega) _ dn ((nI done).map vn) rfl HW.out (w2.heap.size + 1) (some ⟨w2.heap.size, 0, none⟩) 1 1 [.int .i64 (k : Int)] rfl HR3.out ?c1 ?c2 ?c3 ?c4 ?_))
        case c1 => intro z hz; rw [List.mem_singleton] at hz; subst hz; rfl
        case c2 => unfold maxLen; omega
        case c3 => omega
        case c4 => simp; omega
        intro v6 w6 hown6 hg6 hor6
        have hps6 : PsSt w xs n0 A1 rl c1 v6 r (done ++ [k]) w6 := by
          have hge : ∀ b, (Value.slice Al dn cl).ownBlock = some b → w.heap.size ≤ b := fun b hb => (rowD_lt HW.out hb).1
          have hal := below_lit w2 (.cells #[.int .i64 (k : Int)] 3)
          have hsz2 := HL2.out.size
          refine ⟨?_, q1, ?_, ?_, ?_, ?_, ?_⟩
          · have hob := HOB.out.below hal
            have hk := hob.keep (w' := w6) fun b hb => by
              obtain ⟨cur, hcur⟩ := ownB_blk hob hb
              exact hg6.block b (hob.lt hb) (fun e => own_blk_ne HW.out hcur (by decide) e.symm)
            rw [HRLE.out]
            exact hk.reads.2.2.2.1
          · unfold OwnN
            rw [nI_len, List.length_append, ← HDN.out]
            have e2 : nI (done ++ [k]) = nI done ++ [(k : Int)] := by simp [nI]
            rw [e2, List.map_append]
            exact hown6
          · rw [List.length_append, ← HDN.out]
            simp only [List.length_cons, List.length_nil]
            omega
          · rw [HPS.out.num, HNX.out]
            cases numsV r with
            | none => rfl
            | some l => simp
          · intro x hx
            rcases List.mem_append.1 hx with hx | hx
            · exact HPS.out.max x hx
            · rw [List.mem_singleton] at hx; subst hx; exact HTM.out
          · exact grown_below (HL2.out.trans (hal.mono hsz2)) (by simp; omega) hg6 (fun b hb => hge b hb)
        have HPS6 := Lib.hid hps6
        clear hown6 hg6 hor6 hps6
        go_wp2_with fail
        go_roundw
        case rel => exact ⟨_, _, _, _, _, rfl, HPS6.out⟩
        case measure => simp; omega
      · have heb : ((e : Int) != 0) = true := by simpa using he
        have ho : o = none := by rw [HO.out, HPS.out.num, HBADN.out he]; rfl
        subst ho
        go_wp2_with fail
        go_ret2
        exact ⟨_, rfl, OwnN.nil_ _ _, (fun l hl => by cases hl), HL2.out⟩

end Go.Proofs.YtlaodmmjhjpfmaaGreat

/- atlas.first: the first crew that a chunk's leaf says, and its moves. -/
namespace Go.Proofs.YtlaodmmjhjpfmaaGreat
set_option linter.unusedVariables false
set_option linter.unusedSimpArgs false
open Go.RowKit Go.Maps

attribute [local irreducible] wpList wpCalm
theorem results_part3 {P : Program} {fn : Func} {p u v : Tmp} {ty : TypeId} (h : fn.results = #[.cell p ty, .tmp u, .tmp v]) (tmps : Array Value) (w : World) (g n : Nat) (t : TypeId) (cs : Array Value) (d : TypeDesc)
    (hp : tmps.getD p undef = .pointer (some ⟨g, 0, none⟩)) (hB : Blk w g t cs)
    (hu : P.underlying ty = some d) (hd : (match d with | .struct _ | .array _ _ => true | _ => false) = true) (hi : (P.info? ty).map (·.size) = some n) (hn : cs.size = n) :
    (results fn tmps).run P w = .ok (.tuple #[.agg cs, tmps.getD u undef, tmps.getD v undef]) w := by
  have hp' : tmps[p]?.getD undef = .pointer (some ⟨g, 0, none⟩) := by simpa using hp
  simp [results, h, hp', asAddr, run_loadVar_part w g 0 n t ty cs cs d hB hu hd hi hn (fun j _ => by rw [Nat.zero_add])]
def FirstPost (w : World) (B : Nat) (u : Value) (nl : List Int) (o : Option ((Int × List Int) × List Int)) (e : Ending) (w' : World) : Prop :=
  Below w.heap.size w w' ∧ (o = none → e = .returned (.tuple #[.agg (crC 0 none 0 0), .slice none 0 0, .bool false])) ∧
  ∀ q, o = some q → ∃ (f : Nat) (A1 : Option Addr) (c1 : Nat) (A2 : Option Addr) (c2 : Nat), q.1.1 = (f : Int) ∧ f ≤ 2 ∧ e = .returned (.tuple #[.agg (crC f A1 q.1.2.length c1), .slice A2 q.2.length c2, .bool true]) ∧ (∀ W, OwnN W B u nl → Reads W W.heap.size 1 A1 q.1.2.length (q.1.2.map vn)) ∧ (∀ W, OwnN W B u nl → Reads W W.heap.size 1 A2 q.2.length (q.2.map vn)) ∧ q.2.length ≤ c2
theorem crZ_spl (f : Int) (A : Option Addr) (n c : Nat) (f' : Int) (A' : Option Addr) (n' c' : Nat) : spl (crC f A n c) 0 (crC f' A' n' c').toList = crC f' A' n' c' := rfl
/-- a slice of one's own that is not empty: its first cells -/
theorem own_cellsN {w : World} {B : Nat} {v : Value} {l : List Nat} (h : OwnN w B v (nI l)) (h0 : 0 < l.length) : ∃ g c, v = .slice (some ⟨g, 0, none⟩) l.length c ∧ B ≤ g ∧ l.length ≤ c ∧ Reads w w.heap.size 1 (some ⟨g, 0, none⟩) l.length ((nI l).map vn) ∧ ∀ j, j < l.length → w.cell? ⟨g, j, none⟩ = some (.int .i64 ((l.getD j 0 : Nat) : Int)) := by
  obtain ⟨Al, cl, hlv, q1, _, q3, q4⟩ := own_slice_n h
  rw [nI_len] at hlv q1 q3
  rcases h.2 with ⟨hv, h0'⟩ | ⟨g, cap, cur, hv, hg, _⟩
  · rw [nI_len] at h0'; omega
  · rw [nI_len] at hv
    rw [hv] at hlv
    injection hlv with e1 e2 e3
    subst e3
    refine ⟨g, cap, hv, hg, q1, e1 ▸ q3, fun j hj => ?_⟩
    obtain ⟨ad, hA, _, hc⟩ := (e1 ▸ q3 : Reads w w.heap.size 1 (some ⟨g, 0, none⟩) l.length ((nI l).map vn)).2 h0
    injection hA with hA
    subst hA
    have := hc j (.int .i64 ((l.getD j 0 : Nat) : Int)) (by
      unfold nI
      rw [List.getElem?_map, List.getElem?_map, List.getElem?_eq_getElem hj, List.getD_eq_getElem?_getD, List.getElem?_eq_getElem hj]; rfl)
    rw [add_off, Nat.zero_add] at this
    exact this
theorem firstQ_bad {l : List Nat} (h : badF l) : firstQ l = none := if_pos h

set_option maxRecDepth 100000 in
set_option maxHeartbeats 4000000 in
theorem afirst_any (v : Value) (l : List Nat) (w : World) (B : Nat) (h : OwnN w B v (nI l)) (hl : l.length ≤ 1000000000000) (hm : ∀ x, x ∈ l → x ≤ maxN) :
    Calls Tryz.prog 105 #[v] w (FirstPost w B v (nI l) (firstQ l)) := by
  have hX := below_lit w (.cells (crC 0 none 0 0) 57)
  have hk0 : Blk (w.alloc (.cells (crC 0 none 0 0) 57)) w.heap.size 57 (crC 0 none 0 0) := Blk.newAt rfl
  have hZ : crC 0 none 0 0 = #[.int .i64 0, .slice none 0 0] := rfl
  have HX := Lib.hid hX
  have HK := Lib.hid hk0
  obtain ⟨o, ho⟩ : ∃ o, o = firstQ l := ⟨_, rfl⟩
  have HO := Lib.hid ho
  obtain ⟨g2, hg2⟩ : ∃ g, g = w.heap.size := ⟨_, rfl⟩
  have hgw : w.heap.size ≤ g2 := by omega
  obtain ⟨n, hn⟩ : ∃ n, n = l.length := ⟨_, rfl⟩
  have HN := Lib.hid hn
  rw [← ho]
  by_cases h2 : n < 2
  · have h2b : (n : Int) < 2 := by omega
    have hon : o = none := by rw [HO.out, firstQ_bad (.inl (by omega))]
    obtain ⟨A, c, hv, _⟩ := own_slice_n h
    rw [nI_len, ← hn] at hv
    subst hv
    subst hon
    clear h hm hX hk0 ho hn
    go_enter Tryz.func105, Tryz.ntmps105
    go_upto_region 1 with fail
    rw [← hZ]
    generalize World.alloc w _ = w1 at HX HK ⊢
    rw [← hg2] at HK ⊢
    have hlw := HK.out.lt
    clear hg2 hZ
    go_wp2_with (refine wpList_store_part (o := ⟨none, _, _, _, _, _⟩) rfl 57 (.tmp 2) (.tmp 27) rfl g2 0 (crC 0 none 0 0) rfl rfl 57 _ HK.out (by kernel_rfl) (by simp [crC]) (by simp [crC, Value.oneCell']) ?_; intro w9 hT9 hD9)
    refine bodyPost_ret (results_part3 rfl _ _ g2 2 57 _ _ rfl hD9 Tryz.underlying57 rfl rfl rfl) rfl ⟨hT9.below HX.out hgw, fun _ => by rw [crZ_spl]; rfl, fun q hq => by cases hq⟩
  · have h2b : ¬ (n : Int) < 2 := by omega
    obtain ⟨g, c, rfl, hgB, hcc, hrd, hcell⟩ := own_cellsN h (by omega)
    have c0 := hcell 0 (by omega)
    have c1 := hcell 1 (by omega)
    obtain ⟨l0, hl0⟩ : ∃ k, k = l.getD 0 0 := ⟨_, rfl⟩
    obtain ⟨l1, hl1⟩ : ∃ k, k = l.getD 1 0 := ⟨_, rfl⟩
    rw [← hl0] at c0
    rw [← hl1] at c1
    rw [← hn] at hcc hrd ⊢
    have hbd : badF l ↔ (l0 < 1 ∨ 22 < l0 ∨ 2 < l1) ∨ n ≠ 2 + (3 * l1 + 1) + 2 * (l0 - 1) := by
      unfold badF
      rw [← hl0, ← hl1, ← hn]
      omega
    have HBD := Lib.hid hbd
    have HRD := Lib.hid (fun (W : World) (hW : OwnN W B (.slice (some ⟨g, 0, none⟩) n c) (nI l)) => (own_reads hW).2)
    have c0' := (hX.cell (p := ⟨g, 0, none⟩) (by have := (rowD_lt h (b := g) (by rfl)).2; exact this)).trans c0
    have c1' := (hX.cell (p := ⟨g, 1, none⟩) (by have := (rowD_lt h (b := g) (by rfl)).2; exact this)).trans c1
    have hgl : g < w.heap.size := (rowD_lt h (b := g) (by rfl)).2
    have HL0 := Lib.hid hl0
    have HL1 := Lib.hid hl1
    have h1n : (1 : Int) < (n : Int) := by omega
    have h0n : (0 : Int) < (n : Int) := by omega
    have h1N : 1 < n := by omega
    have h0N : 0 < n := by omega
    clear h hm hX hk0 ho hn hbd hrd hcell c0 c1 hl0 hl1
    go_enter Tryz.func105, Tryz.ntmps105
    go_upto_region 1 with fail
    rw [← hZ]
    generalize World.alloc w _ = w1 at HX HK c0' c1' ⊢
    rw [← hg2] at HK ⊢
    have hlw := HK.out.lt
    clear hg2 hZ
    go_cut [26] (fun s26 wx => s26 = .bool (decide (l0 < 1 ∨ 22 < l0 ∨ 2 < l1)) ∧ wx = w1)
    case first =>
      by_cases b0 : l0 < 1
      · have b0b : (l0 : Int) < 1 := by omega
        go_wp2_with fail
        go_meet
        exact ⟨by rw [decide_eq_true (.inl b0)], rfl⟩
      · have b0b : ¬ (l0 : Int) < 1 := by omega
        by_cases b1 : 22 < l0
        · have b1b : (22 : Int) < (l0 : Int) := by omega
          go_wp2_with fail
          go_meet
          exact ⟨by rw [decide_eq_true (.inr (.inl b1))], rfl⟩
        · have b1b : ¬ (22 : Int) < (l0 : Int) := by omega
          by_cases b2 : 2 < l1
          · have b2b : (2 : Int) < (l1 : Int) := by omega
            go_wp2_with fail
            go_meet
            exact ⟨by rw [decide_eq_true (.inr (.inr b2))], rfl⟩
          · have b2b : ¬ (2 : Int) < (l1 : Int) := by omega
            go_wp2_with fail
            go_meet
            exact ⟨by rw [decide_eq_false (by omega)], rfl⟩
    case rest =>
      obtain ⟨rfl, rfl⟩ := hcut
      by_cases hbad : l0 < 1 ∨ 22 < l0 ∨ 2 < l1
      · have hon : o = none := by rw [HO.out, firstQ_bad (HBD.out.2 (.inl hbad))]
        rw [decide_eq_true hbad]
        subst hon
        clear c0' c1'
        go_wp2_with (refine wpList_store_part (o := ⟨none, _, _, _, _, _⟩) rfl 57 (.tmp 2) (.tmp 27) rfl g2 0 (crC 0 none 0 0) rfl rfl 57 _ HK.out (by kernel_rfl) (by simp [crC]) (by simp [crC, Value.oneCell']) ?_; intro w9 hT9 hD9)
        refine bodyPost_ret (results_part3 rfl _ _ g2 2 57 _ _ rfl hD9 Tryz.underlying57 rfl rfl rfl) rfl ⟨hT9.below HX.out hgw, fun _ => by rw [crZ_spl]; rfl, fun q hq => by cases hq⟩
      · rw [decide_eq_false hbad]
        by_cases hnn : n = 2 + (3 * l1 + 1) + 2 * (l0 - 1)
        · have hnnb : ((n : Int) != 2 + (3 * (l1 : Int) + 1) + 2 * ((l0 : Int) - 1)) = false := by simp; omega
          have hgood : ¬ badF l := fun hb => (HBD.out.1 hb).elim hbad (fun e => e hnn)
          have HOG := Lib.hid (show o = some ((((l1 : Nat) : Int), nI ((l.drop 2).take (3 * l1 + 1))), nI (l.drop (2 + (3 * l1 + 1)))) from by
            rw [HO.out, HL1.out]
            exact if_neg hgood)
          obtain ⟨k, hk⟩ : ∃ k, k = 3 * l1 + 1 := ⟨_, rfl⟩
          have hkI : (k : Int) = 3 * (l1 : Int) + 1 := by omega
          have HS1 := Lib.hid (fun (W : World) => run_slice_mid (P := Tryz.prog) (t := 41) (e := 3) Tryz.underlying41 (by kernel_rfl) (some ⟨g, 0, none⟩) n c 2 (2 + k) 2 (2 + (3 * (l1 : Int) + 1)) rfl (by omega) (by omega) (by omega) W)
          have HS2 := Lib.hid (fun (W : World) => run_slice_from (P := Tryz.prog) (t := 41) (e := 3) Tryz.underlying41 (by kernel_rfl) (some ⟨g, 0, none⟩) n c (2 + k) (2 + (3 * (l1 : Int) + 1)) (by omega) (by omega) W)
          have hr1 := fun W hW => (HRD.out W hW).sub (l := 2) (k := 2 + k) (cap := c) (by omega) (by omega) hcc
          have hr2 := fun W hW => (HRD.out W hW).sub (l := 2 + k) (k := n) (cap := c) (by omega) (Nat.le_refl _) hcc
          obtain ⟨A1, hA1⟩ : ∃ A1, A1 = (if c = 2 then (some (⟨g, 0, none⟩ : Addr)) else (some (⟨g, 0, none⟩ : Addr)).map (·.add 2)) := ⟨_, rfl⟩
          obtain ⟨A2, hA2⟩ : ∃ A2, A2 = (if c = 2 + k then (some (⟨g, 0, none⟩ : Addr)) else (some (⟨g, 0, none⟩ : Addr)).map (·.add (2 + k))) := ⟨_, rfl⟩
          simp only [Nat.mul_one] at hr1 hr2
          rw [← hA1] at HS1 hr1
          rw [← hA2] at HS2 hr2
          have hk2 : 2 + k - 2 = k := by omega
          obtain ⟨m2, hm2⟩ : ∃ m2, m2 = n - (2 + k) := ⟨_, rfl⟩
          obtain ⟨d2, hd2⟩ : ∃ d2, d2 = c - (2 + k) := ⟨_, rfl⟩
          have hmd : m2 ≤ d2 := by omega
          rw [hk2] at HS1 hr1
          rw [← hm2] at HS2 hr2
          rw [← hd2] at HS2
          have e1 : (((nI l).map vn).drop 2).take k = (nI ((l.drop 2).take k)).map vn := by unfold nI; simp only [List.map_drop, List.map_take]
          have e2 : (((nI l).map vn).drop (2 + k)).take m2 = (nI (l.drop (2 + k))).map vn := by
            unfold nI
            rw [List.take_of_length_le (by simp only [List.length_drop, List.length_map]; rw [← HN.out]; omega)]
            simp only [List.map_drop]
          rw [e1] at hr1
          rw [e2] at hr2
          have len1 : (nI ((l.drop 2).take k)).length = k := by rw [nI_len, List.length_take, List.length_drop, ← HN.out]; omega
          have len2 : (nI (l.drop (2 + k))).length = m2 := by rw [nI_len, List.length_drop, ← HN.out]; omega
          have HR1 := Lib.hid hr1
          have HR2 := Lib.hid hr2
          have HL1N := Lib.hid len1
          have HL2N := Lib.hid len2
          rw [← hk] at HOG
          have hl12 : l1 ≤ 2 := by omega
          have hl01 : 1 ≤ l0 := by omega
          have hwr : IntKind.i64.wrap (2 + (3 * (l1 : Int) + 1)) = 2 + (3 * (l1 : Int) + 1) := IntWalk.i64_in _ (by omega)
          have hl02 : l0 ≤ 22 := by omega
          clear hnn hk hk2 hA1 hA2 hr1 hr2 e1 e2 len1 len2 hm2 hd2 hgood hbad
          go_upto_region 6 with fail
          have hs1 := fun W => HS1.out W
          have hs2 := fun W => HS2.out W
          have k0 : wc.cell? ⟨g2, 0, none⟩ = some (.int .i64 0) := HK.out.cell 0
          have k1 : wc.cell? ⟨g2, 1, none⟩ = some (.slice none 0 0) := HK.out.cell 1
          have kf0 : wc.frozen? ⟨g2, 0, none⟩ = false := HK.out.frozen 0
          have kf1 : wc.frozen? ⟨g2, 1, none⟩ = false := HK.out.frozen 1
          have hB9 : Blk ((wc.setCell ⟨g2, 0, none⟩ (.int .i64 (l1 : Int))).setCell ⟨g2, 1, none⟩ (.slice A1 k (c - 2))).drew g2 57 (crC l1 A1 k (c - 2)) := ((HK.out.set_ 0 (.int .i64 (l1 : Int))).set_ 1 (.slice A1 k (c - 2))).drew
          have hT9 := (Turned.setCell wc ⟨g2, 0, none⟩ (.int .i64 (l1 : Int))).trans (Turned.setCell (wc.setCell ⟨g2, 0, none⟩ (.int .i64 (l1 : Int))) ⟨g2, 1, none⟩ (.slice A1 k (c - 2)))
          have hX9 : Below w.heap.size w ((wc.setCell ⟨g2, 0, none⟩ (.int .i64 (l1 : Int))).setCell ⟨g2, 1, none⟩ (.slice A1 k (c - 2))).drew := by
            have h := hT9.below HX.out hgw
            exact ⟨h.os, h.tape, h.output, h.size, h.block⟩
          have HB9 := Lib.hid hB9
          have HX9 := Lib.hid hX9
          clear hB9 hX9 hT9
          go_region
          generalize World.drew _ = w9 at HB9 HX9 ⊢
          clear hs1 hs2 k0 k1 kf0 kf1 c0' c1'
          go_wp2_with fail
          refine bodyPost_ret (results_part3 rfl _ _ g2 2 57 _ _ rfl HB9.out Tryz.underlying57 rfl rfl rfl) rfl ?_
          have hbl := HX9.out
          refine ⟨hbl, ?_, fun q hq => ?_⟩
          · intro e
            rw [HOG.out] at e; cases e
          rw [HOG.out] at hq
          obtain rfl := Option.some.inj hq
          refine ⟨l1, A1, c - 2, A2, d2, rfl, hl12, ?_, ?_, ?_, ?_⟩
          · simp only [HL1N.out, HL2N.out]
            rfl
          · simp only [HL1N.out]
            exact fun W hW => HR1.out W hW
          · simp only [HL2N.out]
            exact fun W hW => HR2.out W hW
          · simp only [HL2N.out]; exact hmd
        · have hon : o = none := by rw [HO.out, firstQ_bad (HBD.out.2 (.inr hnn))]
          have hnnb : ((n : Int) != 2 + (3 * (l1 : Int) + 1) + 2 * ((l0 : Int) - 1)) = true := by simp; omega
          subst hon
          go_wp2_with (refine wpList_store_part (o := ⟨none, _, _, _, _, _⟩) rfl 57 (.tmp 2) (.tmp 44) rfl g2 0 (crC 0 none 0 0) rfl rfl 57 _ HK.out (by kernel_rfl) (by simp [crC]) (by simp [crC, Value.oneCell']) ?_; intro w9 hT9 hD9)
          refine bodyPost_ret (results_part3 rfl _ _ g2 2 57 _ _ rfl hD9 Tryz.underlying57 rfl rfl rfl) rfl ⟨hT9.below HX.out hgw, fun _ => by rw [crZ_spl]; rfl, fun q hq => by cases hq⟩

end Go.Proofs.YtlaodmmjhjpfmaaGreat
