/-
  ShaPieces: the law's walk.
-/
import Derived.Test.YtndjaibnapilnaaLawAgain
import Derived.Test.YtndjaibnapilnaaRefE
namespace Go.Proofs.Ytndjaibnapilnaa
set_option linter.unusedVariables false
open Go.RowKit

/-- the pieces, each cut -/
def cutP (xss : List (List UInt8)) : List (List UInt8) := xss.map (·.take 1000)
/-- the first k of them, one behind the other -/
def pieces (xss : List (List UInt8)) (k : Nat) : List UInt8 := ((cutP xss).take k).flatten
theorem pieces_next (xss : List (List UInt8)) (k : Nat) (h : k < xss.length) : pieces xss (k + 1) = pieces xss k ++ (xss[k]).take 1000 := by
  unfold pieces cutP
  rw [List.take_succ_eq_append_getElem (by simpa using h)]
  simp
theorem pieces_len (xss : List (List UInt8)) (k : Nat) : (pieces xss k).length ≤ 1000 * k := by
  induction k with
  | zero => simp [pieces]
  | succ k ih =>
    rcases Nat.lt_or_ge k xss.length with h | h
    · rw [pieces_next xss k h]; simp; omega
    · have : pieces xss (k + 1) = pieces xss k := by
        unfold pieces cutP
        rw [List.take_of_length_le (by simp; omega), List.take_of_length_le (by simp; omega)]
      rw [this]; omega

theorem neq_digest (xs ys : List UInt8) (hx : xs.length = 32) (hy : ys.length = 32) (w : World) :
    (binOp .neq 25 (.agg (bRow xs)) (.agg (bRow ys))).run Try.prog w = .ok (.bool (xs != ys)) w := by
  have h := eql_digest xs ys hx hy w
  rw [run_eql_struct] at h
  rw [run_neq_struct]
  cases hh : (Op.equalIn 10000 25 (.agg (bRow xs)) (.agg (bRow ys))).run Try.prog w with
  | ok b w' =>
    rw [hh] at h
    simp at h
    simp [h, bne]
  | halt x w' => rw [hh] at h; cases h

/-- bytes that may be written -/
def InB (w : World) (v : Value) (t : Nat) : Prop := t = 0 ∨ ∃ gi cap cur, v = .slice (some ⟨gi, 0, none⟩) t cap ∧ Blk w gi 5 cur ∧ ∀ p, p < t → ∃ x : UInt8, cur[p]? = some (vb x)
theorem InB.of_own {w : World} {B : Nat} {v : Value} {xs : List UInt8} (h : OwnB w B v xs) : InB w v xs.length := by
  rcases h.2 with ⟨_, h0⟩ | ⟨g, cap, cur, rfl, hg, hh, h1, h2, h3, h4⟩
  · exact .inl h0
  · refine .inr ⟨g, cap, cur, rfl, hh, fun p hp => ⟨xs[p], ?_⟩⟩
    have : (cur.toList.take (xs.length * 1))[p]? = some (vb xs[p]) := by rw [h4, List.getElem?_map, List.getElem?_eq_getElem hp]; rfl
    rw [Nat.mul_one, List.getElem?_take, if_pos hp] at this
    simpa using this
theorem InB.beside {w w' : World} {v : Value} {t k : Nat} (h : InB w v t) (hg : w.grownBy w' (some k)) (hne : ∀ b, v.ownBlock = some b → b ≠ k) : InB w' v t := by
  rcases h with h | ⟨gi, cap, cur, rfl, hB, hc⟩
  · exact .inl h
  · exact .inr ⟨gi, cap, cur, rfl, hB.beside hg (hne gi rfl), hc⟩
theorem HashAt.apart {w w' : World} {g : Nat} {l : List UInt8} {row : Option Nat} (h : HashAt w g l) (hg : w.grownBy w' row) (hne : some g ≠ row) : HashAt w' g l := h.keep (hg.block g h.lt hne)

set_option maxRecDepth 100000 in
set_option maxHeartbeats 4000000 in
theorem pieces_law (A : Option Addr) (n c : Nat) (xss : List (List UInt8)) (w : World) (h : Rows2 w A n xss) (hc : n ≤ c) (hcm : 24 * c ≤ reachBytes) :
    Calls Try.prog 9 #[.slice A n c] w fun e w' => e = .returned (.bool true) ∧ Below w.heap.size w w' := by
  have hnot : ∀ (x : Bool) (w : World), (Op.unary .not (.bool x)).run Try.prog w = .ok (.bool (!x)) w := fun _ _ => rfl
  have hxn := h.1
  have HXN := Lib.hid hxn
  have H := Lib.hid h
  unfold reachBytes at hcm
  obtain ⟨i0, hi0, hz0, hz1, hz2⟩ := info_parts u8_info
  have HI0 := Lib.hid hi0
  have HZ0 := Lib.hid hz0
  have HZ1 := Lib.hid hz1
  have HZ2 := Lib.hid hz2
  clear hi0 hz0 hz1 hz2 hxn h
  go_enter Try.func9, Try.ntmps9
  go_wp2_with fail
  refine (new_any w).mono ?_
  rintro _ w2 ⟨rfl, hH2, hb2, hs2⟩
  go_wp2_with fail
  refine (new_any w2).mono ?_
  rintro _ w3 ⟨rfl, hH3, hb3, hs3⟩
  have hH2' := hH2.below' hb3
  have hb3' := hb2.trans (hb3.mono (by omega))
  obtain ⟨g, hg⟩ : ∃ g, g = w.heap.size := ⟨_, rfl⟩
  obtain ⟨q, hq⟩ : ∃ q, q = w2.heap.size := ⟨_, rfl⟩
  rw [← hq] at hH3 hs2 ⊢
  have hgq : g ≠ q := by omega
  have hwg : w.heap.size ≤ g := by omega
  have hwq : w.heap.size ≤ q := by omega
  rw [← hg] at hH2'
  have hA2 : HashAt w3 g [] := .inr ⟨rfl, hH2'⟩
  have hA3 : HashAt w3 q [] := .inr ⟨rfl, hH3⟩
  have HG := Lib.hid hA2
  have HQ := Lib.hid hA3
  have HBB := Lib.hid hb3'
  have HGE := Lib.hid hg
  rw [← hg]
  clear hH2 hH2' hH3 hb2 hb3 hb3' hA2 hA3 hs2 hs3 hg hq
  go_wp2_with fail
  go_loopw [5, 6] (fun v i wr => ∃ (k : Nat) (L : List UInt8), k ≤ n ∧ k ≤ 64 ∧ i = .int .i64 k ∧ HashAt wr g (pieces xss k) ∧ HashAt wr q L ∧ L.length ≤ k ∧ OwnB wr w.heap.size v (pieces xss k) ∧ (v.ownBlock ≠ some g ∧ v.ownBlock ≠ some q) ∧ Below w.heap.size w wr) (fun _ i _ => 64 - (intOf i).toNat)
  case atStart => exact ⟨0, [], by omega, by omega, rfl, HG.out, HQ.out, Nat.le_refl _, OwnB.nil _ _, ⟨by simp [Value.ownBlock], by simp [Value.ownBlock]⟩, HBB.out⟩
  case round =>
    obtain ⟨k, L, hk, hk64, rfl, hG, hQ, hL, hO, ⟨hO1, hO2⟩, hbel⟩ := hrel
    have hO' := hO
    obtain ⟨Aa, ca, hva, hc1, hc2, -, -⟩ := own_slice_b hO
    have hpl := pieces_len xss k
    have HG := Lib.hid hG
    have HQ := Lib.hid hQ
    have HO := Lib.hid hO'
    have HN1 := Lib.hid hO1
    have HN2 := Lib.hid hO2
    have HBB := Lib.hid hbel
    have hsz := hbel.size
    have HVA := Lib.hid hva
    unfold maxLen at hc2
    clear hG hQ hO hO' hbel hO1 hO2 hva
    by_cases hlt : k < n ∧ k < 64
    · obtain ⟨hlt1, hlt2⟩ := hlt
      obtain ⟨ad, hA, hadb, hcell⟩ := H.out.2 (by omega)
      subst hA
      have hxk : k < xss.length := by have := HXN.out; omega
      obtain ⟨Bp, m, cp, hcp, hrp, hmp, hcp2⟩ := hcell k xss[k] (List.getElem?_eq_getElem hxk)
      have hpn := pieces_next xss k hxk
      unfold reachBytes at hcp2
      obtain ⟨t, ht⟩ : ∃ t, t = min m 1000 := ⟨_, rfl⟩
      have ht1 : t ≤ m := by omega
      have ht2 : t ≤ 1000 := by omega
      have htc : t ≤ cp := by omega
      have hr0 := hrp.to (cap := cp) ht1 hmp
      have hsl0 := fun W => run_slice_to (P := Try.prog) (t := 22) (e := 5) rfl rfl Bp m cp t (t : Int) rfl (by omega) W
      generalize (if cp = 0 then Bp else Bp.map (·.add 0)) = A0 at hr0 hsl0
      have hmin1 : (if (1000 : Int) < (m : Int) then (1000 : Int) else (m : Int)) = (t : Int) := by split <;> omega
      have hmin2 : (if 1000 < m then (1000 : Int) else (m : Int)) = (t : Int) := by split <;> omega
      have hxl : xss[k].length = m := by have := hrp.1; simpa using this
      have htk : (xss[k].take 1000) = xss[k].take t := by
        rcases Nat.le_total m 1000 with h | h
        · rw [List.take_of_length_le (by omega), List.take_of_length_le (by omega)]
        · rw [show t = 1000 by omega]
      rw [htk] at hpn
      rw [← List.map_take] at hr0
      generalize xss[k].take t = ps at hr0 hpn
      have hpsl : ps.length = t := by have := hr0.1; simpa using this
      have hcr : wr.cell? (ad.add k) = some (.slice Bp m cp) := (HBB.out.cell (by rw [block_of_add]; exact hadb)).trans hcp
      have HPN := Lib.hid hpn
      have HPS := Lib.hid hpsl
      have HR0 := Lib.hid hr0
      clear ht hcp hrp hcell hxl htk hr0 hpn hpsl
      rw [HVA.out]
      go_upto_region 6 with fail
      go_quiet (fail)
      obtain ⟨W1, hW1⟩ : ∃ W1, W1 = wr.drewN nq := ⟨_, rfl⟩
      have HG := Lib.hid (HashAt.keep HG.out (show (wr.drewN nq).heap[g]? = wr.heap[g]? from rfl))
      have HQ := Lib.hid (HashAt.keep HQ.out (show (wr.drewN nq).heap[q]? = wr.heap[q]? from rfl))
      have HO := Lib.hid (OwnB.keep HO.out (fun b _ => show (wr.drewN nq).heap[b]? = wr.heap[b]? from rfl))
      have HBB := Lib.hid (below_drewN HBB.out nq)
      rw [← hW1] at HG HQ HO HBB ⊢
      have hs1 := HBB.out.size
      clear hW1 hcr hmin1 hmin2 hsl0
      go_wp2_with fail
      refine (copyBytes_any A0 t cp ps W1 w.heap.size (HR0.out.below HBB.out) hs1 (by omega)).mono ?_
      rintro _ w4 ⟨v4, rfl, hO4, hb4⟩
      have hg1 := HG.out.lt
      have hq1 := HQ.out.lt
      obtain ⟨A4, c4, rfl, -, -, -, -⟩ := own_slice_b hO4
      rw [HPS.out] at hO4 ⊢
      have hge4 := fun b (hb : Value.ownBlock (.slice A4 t c4) = some b) => hO4.ge hb
      have HO1' := HO
      have HG := Lib.hid (HG.out.below hb4)
      have HQ := Lib.hid (HQ.out.below hb4)
      have HO := Lib.hid (HO.out.below hb4)
      have HBB := Lib.hid (HBB.out.trans (hb4.mono hs1))
      have hs4 := HBB.out.size
      have HO4 := Lib.hid hO4
      have HGE4 := Lib.hid hge4
      have hs14 := hb4.size
      have HOL := Lib.hid (fun b (hb : Value.ownBlock (.slice Aa (pieces xss k).length ca) = some b) => OwnB.lt (by rw [← HVA.out]; exact HO1'.out) hb)
      clear hO4 hb4 hge4
      have hv8 : (k : Int) = bi (UInt8.ofNat k) := by unfold bi; rw [UInt8.toNat_ofNat']; omega
      have HV8 := Lib.hid hv8
      clear hv8
      generalize UInt8.ofNat k = x8 at HV8
      go_wp2_with fail
      have hX5 : Below w4.heap.size w4 (w4.alloc (.cells #[.int .u8 (k : Int)] 5)) := (Below.refl _ _).alloc (Nat.le_refl _) _
      have hq4 := HQ.out.lt
      have hS5 : Src (w4.alloc (.cells #[.int .u8 (k : Int)] 5)) q (some ⟨w4.heap.size, 0, none⟩) 1 [x8] := ⟨rfl, fun _ => ⟨_, rfl, by show w4.heap.size ≠ q; omega, by simp, fun j hj => by
        have hj0 : j = 0 := by simpa using hj
        subst hj0
        rw [add_off]
        unfold vb
        simp only [List.getElem_cons_zero, Nat.add_zero]
        rw [← HV8.out]
        simp⟩⟩
      have HG := Lib.hid (HG.out.below hX5)
      have HQ := Lib.hid (HQ.out.below hX5)
      have HO := Lib.hid (HO.out.below hX5)
      have HO4 := Lib.hid (HO4.out.below hX5)
      have HBB := Lib.hid (HBB.out.trans (hX5.mono hs4))
      have hs5 := HBB.out.size
      have HS5 := Lib.hid hS5
      have hs45 := hX5.size
      generalize w4.alloc _ = W5 at HG HQ HO HO4 HBB HS5 hs5 hs45 ⊢
      clear hX5 hS5
      refine (write_any q L [x8] _ 1 1 W5 HQ.out HS5.out (Nat.le_refl _) (by unfold maxLen; omega) (by unfold maxLen; omega)).mono ?_
      rintro _ w6 ⟨rfl, hH6, hg6⟩
      have hn4 : ∀ b, Value.ownBlock (.slice A4 t c4) = some b → some b ≠ some g ∧ some b ≠ some q := fun b hb => by
        have := HGE4.out b hb
        exact ⟨fun e => by injection e; omega, fun e => by injection e; omega⟩
      have HN4 := Lib.hid hn4
      have hn5 : ∀ b, Value.ownBlock (.slice Aa (pieces xss k).length ca) = some b → some b ≠ some g ∧ some b ≠ some q := fun b hb => by
        rw [← hb, ← HVA.out]
        exact ⟨HN1.out, HN2.out⟩
      have HN5 := Lib.hid hn5
      rw [HVA.out] at HO
      clear hn4 hn5
      have HQ := Lib.hid hH6
      have HG := Lib.hid (HG.out.beside hg6 hgq)
      have HO := Lib.hid (HO.out.apart hg6 (fun b hb => (HN5.out b hb).2))
      have HO4 := Lib.hid (HO4.out.apart hg6 (fun b hb => (HN4.out b hb).2))
      have HBB := Lib.hid (grown_below' HBB.out hs5 hg6 hwq)
      have hs6 := HBB.out.size
      clear hH6 hg6 HS5
      obtain ⟨-, hc41, hc42, hrd4, hge4⟩ := HO4.out.reads
      unfold maxLen at hc42
      have HS6 := Lib.hid (Src.of_reads (g := g) hrd4 (Nat.le_refl _) (fun ad e => by have := hge4 ad e; omega))
      clear hrd4 hge4
      go_wp2_with fail
      refine (write_any g (pieces xss k) ps A4 t c4 w6 HG.out HS6.out hc41 (by unfold maxLen; omega) (by unfold maxLen; omega)).mono ?_
      rintro _ w7 ⟨rfl, hH7, hg7⟩
      rw [← HPN.out] at hH7
      have HG := Lib.hid hH7
      have HQ := Lib.hid (HashAt.beside (.inl HQ.out) hg7 (Ne.symm hgq))
      have HO := Lib.hid (HO.out.apart hg7 (fun b hb => (HN5.out b hb).1))
      have HO4 := Lib.hid (HO4.out.apart hg7 (fun b hb => (HN4.out b hb).1))
      have HBB := Lib.hid (grown_below' HBB.out hs6 hg7 hwg)
      have hs7 := HBB.out.size
      clear hH7 hg7 HS6 hs6 hs5
      have hrd7 := HO4.out.reads.2.2.2.1
      go_wp2_with fail
      refine (eqBytes_any A4 A0 t t c4 cp ps ps w7 w7.heap.size w.heap.size hrd7 (HR0.out.below HBB.out) (by unfold maxLen; omega) (by unfold maxLen; omega)).mono ?_
      rintro _ w8 ⟨rfl, kk, rfl⟩
      have hdt : decide (ps = ps) = true := by simp
      obtain ⟨W8, hW8⟩ : ∃ W8, W8 = w7.drewN kk := ⟨_, rfl⟩
      have HG := Lib.hid (HashAt.keep (.inl HG.out) (show (w7.drewN kk).heap[g]? = w7.heap[g]? from rfl))
      have HQ := Lib.hid (HashAt.keep HQ.out (show (w7.drewN kk).heap[q]? = w7.heap[q]? from rfl))
      have HO := Lib.hid (OwnB.keep HO.out (fun b _ => show (w7.drewN kk).heap[b]? = w7.heap[b]? from rfl))
      have HO4 := Lib.hid (OwnB.keep HO4.out (fun b _ => show (w7.drewN kk).heap[b]? = w7.heap[b]? from rfl))
      have HBB := Lib.hid (below_drewN HBB.out kk)
      rw [← hW8] at HG HQ HO HO4 HBB ⊢
      have hs8 := HBB.out.size
      have hI8 := InB.of_own HO4.out
      rw [HPS.out] at hI8
      have HI8 := Lib.hid hI8
      clear hW8 hs7 hrd7 hI8
      go_wp2_with fail
      go_loopw [9] (fun i wr => ∃ j : Nat, j ≤ t ∧ i = .int .i64 j ∧ InB wr (.slice A4 t c4) t ∧ W8.grownBy wr (Value.ownBlock (.slice A4 t c4))) (fun i _ => t - (intOf i).toNat)
      case atStart => exact ⟨0, by omega, rfl, HI8.out, World.grownBy.refl _ _⟩
      case round =>
        obtain ⟨j, hj, rfl, hI, hgr⟩ := hrel
        by_cases hj1 : j < t
        · rcases hI with h0 | ⟨gi, cap, cur, hv, hB, hcur⟩
          · omega
          injection hv with hv1 _ hv3
          subst hv1 hv3
          obtain ⟨x, hx⟩ := hcur j hj1
          have hcell := (hB.cell j).trans hx
          have hfz := hB.frozen j
          unfold vb at hcell
          have hv : (bi x + 1) % 256 = bi (x + 1) := b_add' x 1
          have HB := Lib.hid hB
          have HC := Lib.hid hcur
          have HGR := Lib.hid hgr
          clear hB hcur hgr hx
          go_wp2
          go_roundw
          case rel =>
            refine ⟨j + 1, by omega, by go_num, .inr ⟨gi, c4, _, rfl, HB.out.set_ j (vb (x + 1)), fun p hp => ?_⟩, HGR.out.trans (Turned.setCell _ ⟨gi, j, none⟩ _).grown⟩
            by_cases e : j = p
            · subst e
              obtain ⟨y, hy⟩ := HC.out j hp
              exact ⟨x + 1, by rw [Array.getElem?_setIfInBounds, if_pos rfl, if_pos (by rcases Nat.lt_or_ge j cur.size with h | h; exact h; rw [Array.getElem?_eq_none h] at hy; cases hy)]⟩
            · obtain ⟨y, hy⟩ := HC.out p hp
              exact ⟨y, by rw [Array.getElem?_setIfInBounds, if_neg e]; exact hy⟩
          case measure => simp [intOf]; omega
        · obtain rfl : j = t := by omega
          have HG := Lib.hid (HG.out.apart hgr (fun e => (HN4.out g e.symm).1 rfl))
          have HQ := Lib.hid (HQ.out.apart hgr (fun e => (HN4.out q e.symm).2 rfl))
          have HO := Lib.hid (HO.out.apart hgr (fun b hb e => by
            have h1 := HGE4.out b e.symm
            have h2 := HOL.out b hb
            omega))
          have HBB := Lib.hid (grown_below HBB.out hs8 hgr (fun b hb => by have := HGE4.out b hb; omega))
          have hs9 := HBB.out.size
          clear hI hgr hs8
          have hpl1 := pieces_len xss (k + 1)
          go_wp2_with (at_builtin; go_must (refine wpList_append_any _ rfl (.tmp 66) (.tmp 67) 22 rfl w.heap.size 5 i0 _ 1 1 Try.underlying22 HI0.out HZ0.out HZ1.out HZ2.out rfl (by omega) (.slice Aa (pieces xss k).length ca) (pieces xss k).length ((pieces xss k).map vb) rfl HO.out w.heap.size A0 j cp (ps.map vb) rfl (HR0.out.below HBB.out) ?c1 ?c2 ?c3 ?c4 ?_))
          case c1 => intro u hu; obtain ⟨x, _, rfl⟩ := List.mem_map.1 hu; rfl
          case c2 => unfold maxLen; omega
          case c3 => omega
          case c4 => omega
          intro v5 w10 hown10 hg10 hor10
          have hO10 : OwnB w10 w.heap.size v5 (pieces xss (k + 1)) := by
            unfold OwnB
            rw [HPN.out, List.map_append, List.length_append, HPS.out]
            exact hown10
          have hgl := HG.out.lt
          have hql := HQ.out.lt
          have hn6 : v5.ownBlock ≠ some g ∧ v5.ownBlock ≠ some q := by
            rcases hor10 with e | e
            · rw [e]; exact ⟨fun h => (HN5.out g h).1 rfl, fun h => (HN5.out q h).2 rfl⟩
            · rw [e]; exact ⟨fun h => by injection h; omega, fun h => by injection h; omega⟩
          have HN6 := Lib.hid hn6
          have HG := Lib.hid (HG.out.apart hg10 (fun e => (HN5.out g e.symm).1 rfl))
          have HQ := Lib.hid (HQ.out.apart hg10 (fun e => (HN5.out q e.symm).2 rfl))
          have HBB := Lib.hid (grown_below HBB.out hs9 hg10 (fun b hb => HO.out.ge hb))
          have HO := Lib.hid hO10
          have hs10 := HBB.out.size
          clear hown10 hg10 hor10 hO10 hs9 hn6
          go_wp2_with fail
          refine (sum_any g (pieces xss (k + 1)) w10 HG.out (by unfold maxLen; omega)).mono ?_
          rintro _ w11 ⟨rfl, hH11, hg11⟩
          have HG := Lib.hid hH11
          have HQ := Lib.hid (HQ.out.beside hg11 (Ne.symm hgq))
          have HO := Lib.hid (HO.out.apart hg11 (fun b hb => by rw [← hb]; exact HN6.out.1))
          have HBB := Lib.hid (grown_below' HBB.out hs10 hg11 hwg)
          have hs11 := HBB.out.size
          clear hH11 hg11 hs10
          have hds : (bRow (shaOf (pieces xss (k + 1)))).size = 32 := by rw [bRow_size, shaOf_len]
          have hdn := neq_digest (shaOf (pieces xss (k + 1))) (shaOf (pieces xss (k + 1))) (shaOf_len _) (shaOf_len _)
          rw [bne_self_eq_false] at hdn
          have hro := fun A n c W (hn : n ≤ 140737488355200) (hr : Reads W w11.heap.size 1 A n ((pieces xss (k + 1)).map vb)) (hw : w11.heap.size ≤ W.heap.size) => refOf_any A n c (pieces xss (k + 1)) W w11.heap.size hr hw hn
          have HDS := Lib.hid hds
          have HDN := Lib.hid hdn
          have HRO := Lib.hid hro
          have HDO := Lib.hid (bRow_one (shaOf (pieces xss (k + 1))))
          clear hds hdn hro
          generalize bRow (shaOf (pieces xss (k + 1))) = D at HDS HDN HRO HDO ⊢
          go_upto_region 17 with (refine wpList_store_part rfl 25 (.tmp 10) (.tmp 72) rfl w11.heap.size 0 D rfl rfl 25 _ (Blk.newAt rfl) (by rw [HDS.out]; rfl) (by rw [HDS.out]; simp) HDO.out ?_; intro W12 hT12 hB12; rw [spl_self _ _ (by rw [HDS.out]; simp)] at hB12)
          have hX12 : Below w11.heap.size w11 W12 := hT12.below ((Below.refl _ _).alloc (Nat.le_refl _) _) (Nat.le_refl _)
          have hG := HashAt.below (.inl HG.out) hX12
          have HQ := Lib.hid (HQ.out.below hX12)
          have hO := HO.out.below hX12
          have HN6 := HN6
          have HBB := Lib.hid (HBB.out.trans (hX12.mono hs11))
          have hs12 := HBB.out.size
          have hs112 := hX12.size
          obtain ⟨A5, c5, hv5, hc5, hc52, -, -⟩ := own_slice_b hO
          have hrd := (HO.out.reads' hv5).below hX12
          have HO := Lib.hid hO
          have HV5 := Lib.hid hv5
          subst hv5
          obtain ⟨e10, he10⟩ : ∃ e, e = w11.heap.size := ⟨_, rfl⟩
          rw [← he10] at hB12 ⊢
          have HE10 := Lib.hid he10
          obtain ⟨N, hN⟩ : ∃ N, N = (pieces xss (k + 1)).length := ⟨_, rfl⟩
          rw [← hN] at hrd hc5 hpl1 ⊢
          have HNN := Lib.hid hN
          have HG := Lib.hid hG
          unfold maxLen at hc52
          clear hT12 hX12 hG hO he10 hN
          refine wp_region_calm0 14 90 (by kernel_rfl) (by kernel_rfl) (by kernel_rfl) (by simp) ?_
          simp only [List.take_succ_cons, List.take_zero, List.drop_succ_cons, List.drop_zero]
          refine wpCalm_value rfl rfl (.int .i64 0) (fun W _ => rfl) ?_
          try simp only [Act.put, List.setIfInBounds_toArray, List.set_cons_zero, List.set_cons_succ]
          refine wpCalm_value rfl rfl (.bool false) (fun W _ => by go_simp) ?_
          try simp only [Act.put, List.setIfInBounds_toArray, List.set_cons_zero, List.set_cons_succ]
          refine wpCalm_value rfl rfl (.bool false) (fun W _ => rfl) ?_
          try simp only [Act.put, List.setIfInBounds_toArray, List.set_cons_zero, List.set_cons_succ]
          refine wpCalm_load_part rfl 25 (.tmp 10) rfl e10 0 32 rfl 25 _ D _ hB12 Try.underlying25 rfl rfl HDS.out (fun _ _ => by rw [Nat.zero_add]) ?_
          try simp only [Act.put, List.setIfInBounds_toArray, List.set_cons_zero, List.set_cons_succ]
          refine wpCalm_value rfl rfl (.slice A5 N c5) (fun W _ => rfl) ?_
          try simp only [Act.put, List.setIfInBounds_toArray, List.set_cons_zero, List.set_cons_succ]
          refine wpCalm_call rfl rfl 15 #[.slice A5 N c5] (fun W => by go_simp) (.agg D) (fun W hb => HRO.out A5 N c5 W (by omega) (hrd.below (hb.mono hs112)) (Nat.le_trans hs112 hb.size)) ?_
          try simp only [Act.put, List.setIfInBounds_toArray, List.set_cons_zero, List.set_cons_succ]
          refine wpCalm_value rfl rfl (.bool false) (fun W _ => exec_neq_agg 25 (.tmp 77) (.tmp 79) _ rfl D D rfl rfl eqg_digest _ (HDN.out W)) ?_
          try simp only [Act.put, List.setIfInBounds_toArray, List.set_cons_zero, List.set_cons_succ]
          refine wpCalm_value rfl rfl (.bool false) (fun W _ => by go_simp) ?_
          try simp only [Act.put, List.setIfInBounds_toArray, List.set_cons_zero, List.set_cons_succ]
          refine wpCalm_value rfl rfl (.bool false) (fun W _ => rfl) ?_
          try simp only [Act.put, List.setIfInBounds_toArray, List.set_cons_zero, List.set_cons_succ]
          refine wpCalm_value rfl rfl (.pointer (some ⟨g, 0, none⟩)) (fun W _ => rfl) ?_
          try simp only [Act.put, List.setIfInBounds_toArray, List.set_cons_zero, List.set_cons_succ]
          refine wpCalm_call rfl rfl 25 #[.pointer (some ⟨g, 0, none⟩)] (fun W => by go_simp) (.int .i64 N) (fun W hb => (len_any g (pieces xss (k + 1)) W (HG.out.below hb)).mono (by rintro _ _ ⟨rfl, rfl⟩; exact ⟨by rw [HNN.out], Below.refl _ _⟩)) ?_
          try simp only [Act.put, List.setIfInBounds_toArray, List.set_cons_zero, List.set_cons_succ]
          refine wpCalm_value rfl rfl (.slice A5 N c5) (fun W _ => rfl) ?_
          try simp only [Act.put, List.setIfInBounds_toArray, List.set_cons_zero, List.set_cons_succ]
          refine wpCalm_value rfl rfl (.int .i64 N) (fun W _ => by go_simp) ?_
          try simp only [Act.put, List.setIfInBounds_toArray, List.set_cons_zero, List.set_cons_succ]
          refine wpCalm_value rfl rfl (.bool false) (fun W _ => by go_simp) ?_
          try simp only [Act.put, List.setIfInBounds_toArray, List.set_cons_zero, List.set_cons_succ]
          refine wpCalm_nil ?_
          intro W13 hb13
          have HG := Lib.hid (HG.out.below hb13)
          have HQ := Lib.hid (HQ.out.below hb13)
          have HO := Lib.hid (HO.out.below hb13)
          have HBB := Lib.hid (HBB.out.trans (hb13.mono hs12))
          clear hb13 hB12 hrd
          go_wp2_with fail
          go_roundw
          case rel => exact ⟨k + 1, L ++ [x8], by omega, by omega, by go_num, HG.out, HQ.out, by simp; omega, by rw [← HNN.out] at HO; exact HO.out, by rw [← HNN.out] at HN6; exact HN6.out, HBB.out⟩
          case measure => simp [intOf]; omega
    · have hend : ¬ k < n ∨ k = 64 := by omega
      clear hlt
      by_cases hkn : k < n
      · obtain rfl : k = 64 := by omega
        go_wp2_with fail
        refine (works_any _).mono ?_
        rintro _ w4 ⟨rfl, hb4⟩
        go_wp2
        go_ret
        exact ⟨rfl, HBB.out.trans (hb4.mono hsz)⟩
      · go_wp2_with fail
        refine (works_any _).mono ?_
        rintro _ w4 ⟨rfl, hb4⟩
        go_wp2
        go_ret
        exact ⟨rfl, HBB.out.trans (hb4.mono hsz)⟩

end Go.Proofs.Ytndjaibnapilnaa
