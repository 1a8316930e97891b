/-
  Contracts of bastideref00.CopyInts and bastideref11.Copy.
-/
import Derived.Test.YtcmbmimmfgfefaaWorksW
namespace Go.Proofs.Ytcmbmimmfgfefaa
set_option linter.unusedVariables false
open Go.RowKit

theorem ci_info : (Try.prog.info? 3).map (fun i => (i.zero, i.size, i.bytes)) = some (some (.int .i64 0), 1, 8) := by kernel_rfl
set_option maxHeartbeats 400000 in
theorem copyInts_any (A : Option Addr) (n c : Nat) (xs : List Int) (w : World) (B : Nat) (h : Reads w B 1 A n (xs.map vn)) (hB : B ≤ w.heap.size) (hn : n ≤ 17592186044416) :
    Calls Try.prog 47 #[.slice A n c] w fun e w' => ∃ v, e = .returned v ∧ OwnN w' w.heap.size v xs ∧ Below w.heap.size w w' := by
  have hxn : xs.length = n := by have := h.1; simpa using this
  have HXN := Lib.hid hxn
  clear hxn
  go_enter Try.func47, Try.ntmps47
  obtain ⟨i0, hi0, hz0, hz1, hz2⟩ := info_parts ci_info
  go_wp2_with (at_builtin; go_must (refine wpList_append_any _ rfl (.tmp 4) (.tmp 5) 24 rfl w.heap.size 3 i0 _ 1 8 Try.underlying24 hi0 hz0 hz1 hz2 rfl (by omega) (.slice none 0 0) 0 [] rfl ⟨by simp, .inl ⟨rfl, rfl⟩⟩ B A n c (xs.map vn) rfl h ?c1 ?c2 ?c3 ?c4 ?_))
  case c1 => intro u hu; obtain ⟨x, _, rfl⟩ := List.mem_map.1 hu; rfl
  case c2 => unfold maxLen; omega
  case c3 => omega
  case c4 => omega
  intro v1 w1 hown1 hg1 hor
  go_wp2
  go_ret
  refine ⟨v1, rfl, ?_, (Below.refl _ _).grown hg1 (Nat.le_refl _) (fun b hb => by simp [Value.ownBlock] at hb)⟩
  unfold OwnN
  rw [HXN.out]
  simpa using hown1

theorem own_slice_n {w : World} {B : Nat} {v : Value} {xs : List Int} (h : OwnN w B v xs) : ∃ A c, v = .slice A xs.length c ∧ xs.length ≤ c ∧ c ≤ maxLen ∧ Reads w w.heap.size 1 A xs.length (xs.map vn) ∧ (∀ ad, A = some ad → B ≤ ad.block) := by
  have hr := fun A c (hv : v = .slice A xs.length c) => Reads.of_own (A := A) (c := c) (by rw [← hv]; exact h)
  rcases h.2 with ⟨rfl, h0⟩ | ⟨g, cap, cur, rfl, hg, _, h1, h2, _⟩
  · exact ⟨none, 0, by rw [h0], by omega, by unfold maxLen; omega, hr none 0 (by rw [h0]), fun _ h => by cases h⟩
  · exact ⟨_, cap, rfl, h1, h2, hr _ _ rfl, fun ad h => by injection h with h; subst h; exact hg⟩
theorem OwnN.more {w : World} {B B' : Nat} {v : Value} {xs : List Int} (h : OwnN w B v xs) (hB : B' ≤ B) : OwnN w B' v xs := by
  refine ⟨h.1, ?_⟩
  rcases h.2 with h0 | ⟨g, cap, cur, rfl, hg, hh, h1⟩
  · exact .inl h0
  · exact .inr ⟨g, cap, cur, rfl, by omega, hh, h1⟩
/-- a wish whose lists are its own -/
structure WishOwn (w : World) (B : Nat) (x : Wish) (A : Option Addr) (n c : Nat) (A' : Option Addr) (n' c' : Nat) : Prop where
  data : OwnB w B (.slice A n c) x.data
  next : OwnN w B (.slice A' n' c') x.next
  dm : n ≤ 140737488355328
  nm : n' ≤ 17592186044416
  rng : I64 x.client ∧ I64 x.stamp ∧ I64 x.group ∧ I64 x.epoch ∧ I64 x.kind ∧ I64 x.block ∧ I64 x.old ∧ I64 x.new ∧ ∀ z, z ∈ x.next → I64 z
theorem WishOwn.is {w : World} {B : Nat} {x : Wish} {A : Option Addr} {n c : Nat} {A' : Option Addr} {n' c' : Nat} (h : WishOwn w B x A n c A' n' c') : WishIn w w.heap.size x A n c A' n' c' := by
  obtain ⟨_, h3, h4, h5, _⟩ := h.data.reads
  obtain ⟨A1, c1, e, h6, h7, h8, _⟩ := own_slice_n h.next
  injection e with e1 e2 e3
  subst e1 e2 e3
  exact ⟨h5, h3, h.dm, h8, h6, h.nm, h.rng⟩
theorem WishOwn.more {w : World} {B B' : Nat} {x : Wish} {A : Option Addr} {n c : Nat} {A' : Option Addr} {n' c' : Nat} (h : WishOwn w B x A n c A' n' c') (hB : B' ≤ B) : WishOwn w B' x A n c A' n' c' :=
  ⟨h.data.more hB, h.next.more hB, h.dm, h.nm, h.rng⟩
theorem WishOwn.keep {w w' : World} {B : Nat} {x : Wish} {A : Option Addr} {n c : Nat} {A' : Option Addr} {n' c' : Nat} (h : WishOwn w B x A n c A' n' c') (hk : ∀ b, B ≤ b → b < w.heap.size → w'.heap[b]? = w.heap[b]?) : WishOwn w' B x A n c A' n' c' :=
  ⟨h.data.keep fun b hb => hk b (h.data.ge hb) (h.data.lt hb), own_keep h.next fun b hb => hk b (own_ge h.next hb) (own_lt h.next hb), h.dm, h.nm, h.rng⟩

set_option maxRecDepth 100000 in
set_option maxHeartbeats 4000000 in
theorem refCopy_any (x : Wish) (A : Option Addr) (n c : Nat) (A' : Option Addr) (n' c' : Nat) (w : World) (B : Nat) (hx : WishIn w B x A n c A' n' c') (hB : B ≤ w.heap.size) :
    Calls Try.prog 23 #[.agg (wCells x A n c A' n' c')] w fun e w' => ∃ A1 n1 c1 A2 n2 c2, e = .returned (.agg (wCells x A1 n1 c1 A2 n2 c2)) ∧ WishOwn w' w.heap.size x A1 n1 c1 A2 n2 c2 ∧ Below w.heap.size w w' := by
  have HWX := Lib.hid (fun W (hb : Below w.heap.size w W) => hx.below (hb.mono hB))
  clear hx
  have hd0 : Below w.heap.size w ((w.alloc (.cells (wCells x A n c A' n' c') 26)).alloc (.cells (wCells zeroW none 0 0 none 0 0) 26)) := ((Below.refl _ _).alloc (Nat.le_refl _) _).alloc (by simp) _
  have k1 : Blk ((w.alloc (.cells (wCells x A n c A' n' c') 26)).alloc (.cells (wCells zeroW none 0 0 none 0 0) 26)) w.heap.size 26 (wCells x A n c A' n' c') := (Blk.new w _ _).alloc _
  have k2 : Blk ((w.alloc (.cells (wCells x A n c A' n' c') 26)).alloc (.cells (wCells zeroW none 0 0 none 0 0) 26)) (w.heap.size + 1) 26 (wCells zeroW none 0 0 none 0 0) := Blk.newAt (by simp)
  have hs0 : ((w.alloc (.cells (wCells x A n c A' n' c') 26)).alloc (.cells (wCells zeroW none 0 0 none 0 0) 26)).heap.size = w.heap.size + 2 := by simp
  go_enter Try.func23, Try.ntmps23
  go_upto_region 1 with fail
  generalize hW : World.alloc (World.alloc _ _) _ = w1
  have hW' : ((w.alloc (.cells (wCells x A n c A' n' c') 26)).alloc (.cells (wCells zeroW none 0 0 none 0 0) 26)) = w1 := hW
  rw [hW'] at hd0 k1 k2 hs0
  clear hW hW'
  obtain ⟨g1, hg1⟩ : ∃ g, g = w.heap.size := ⟨_, rfl⟩
  obtain ⟨g2, hg2⟩ : ∃ g, g = w.heap.size + 1 := ⟨_, rfl⟩
  rw [← hg1] at k1
  rw [← hg2] at k2 ⊢
  rw [← hg1]
  have ho1 : w.heap.size ≤ g1 := by omega
  have ho2 : g1 < g2 := by omega
  have ho3 : g2 < w1.heap.size := by omega
  have hs1 := hd0.size
  have K1 := Lib.hid k1
  have K2 := Lib.hid k2
  have HB1 := Lib.hid hd0
  clear hg1 hg2 k1 k2 hd0 hs0
  go_upto_region 2 with (first
    | (refine wpList_load_part (o := ⟨some 4, _, _, _, _, _⟩) rfl 26 (.tmp 1) rfl g1 0 10 rfl 26 _ (wCells x A n c A' n' c') _ K1.out Try.underlying26 rfl rfl rfl (fun _ _ => by rw [Nat.zero_add]) ?_)
    | (refine wpList_store_part (o := ⟨none, _, _, _, _, _⟩) rfl 26 (.tmp 3) (.tmp 4) rfl w1.heap.size 0 (wCells x A n c A' n' c') rfl rfl 26 (wCells zeroW none 0 0 none 0 0) (Blk.newAt rfl) (wCells_info _ _ _ _ _ _ _) (by simp [wCells]) (wCells_one _ _ _ _ _ _ _) ?_; intro w2 hT2 hD2; rw [spl_self _ _ (by simp [wCells])] at hD2))
  have hb2 : Below w1.heap.size w1 w2 := hT2.below ((Below.refl _ _).alloc (Nat.le_refl _) _) (Nat.le_refl _)
  obtain ⟨g3, hg3⟩ : ∃ g, g = w1.heap.size := ⟨_, rfl⟩
  rw [← hg3] at hD2 ⊢
  have ho4 : g2 < g3 := by omega
  have ho5 : g3 < w2.heap.size := hD2.lt
  have hs2 := hb2.size
  have c6 : w2.cell? ⟨g1, 6, none⟩ = some (.slice A n c) := ((K1.out.under hb2).cell 6).trans rfl
  have K12 := Lib.hid (K1.out.under hb2)
  have K22 := Lib.hid (K2.out.under hb2)
  have K32 := Lib.hid hD2
  have HB2 := Lib.hid (HB1.out.trans (hb2.mono hs1))
  clear hT2 hD2 hb2 hg3 K1 K2 HB1
  go_wp2_with fail
  refine (copyBytes_any A n c x.data w2 B (HWX.out w2 HB2.out).data (by omega) (HWX.out w2 HB2.out).dm).mono ?_
  rintro _ w3 ⟨dv, rfl, hdv, hb3⟩
  obtain ⟨A1, c1, hdve, _, _, _, _⟩ := own_slice_b hdv
  subst hdve
  obtain ⟨dv, hdve⟩ : ∃ dv, dv = Value.slice A1 x.data.length c1 := ⟨_, rfl⟩
  rw [← hdve] at hdv
  have hs3 := hb3.size
  have k3 := K32.out.under hb3
  have cw : w3.cell? ⟨g3, 6, none⟩ = some (.slice A n c) := (k3.cell 6).trans rfl
  have fw := k3.frozen 6
  have c9 : (w3.setCell ⟨g3, 6, none⟩ dv).cell? ⟨g1, 9, none⟩ = some (.slice A' n' c') := (((K12.out.under hb3).far (p := ⟨g3, 6, none⟩) (by show g1 ≠ g3; omega) dv).cell 9).trans rfl
  have K14 := Lib.hid ((K12.out.under hb3).far (p := ⟨g3, 6, none⟩) (by show g1 ≠ g3; omega) dv)
  have K24 := Lib.hid ((K22.out.under hb3).far (p := ⟨g3, 6, none⟩) (by show g2 ≠ g3; omega) dv)
  have K34 := Lib.hid (k3.set_ 6 dv)
  have HB4 := Lib.hid ((HB2.out.trans (hb3.mono (by omega))).setCell (p := ⟨g3, 6, none⟩) (by show w.heap.size ≤ g3; omega) dv)
  have HO4 := Lib.hid ((hdv.keep (w' := w3.setCell ⟨g3, 6, none⟩ dv) fun b hb => Below.heap_setCell w3 ⟨g3, 6, none⟩ dv b (by have := hdv.ge hb; show b ≠ g3; omega)))
  have HG4 := Lib.hid (fun b (hb : dv.ownBlock = some b) => (⟨hdv.ge hb, hdv.lt hb⟩ : w2.heap.size ≤ b ∧ b < w3.heap.size))
  have hs4 : (w3.setCell ⟨g3, 6, none⟩ dv).heap.size = w3.heap.size := by simp [World.setCell]
  have HS4 := Lib.hid hs4
  clear hdv hb3 k3 hs4 c6
  rw [hdve] at c9 K14 K24 K34 HB4 HO4 HG4 HS4
  clear hdve dv
  go_upto_region 3 with fail
  have hs4 := HS4.out
  generalize w3.setCell _ _ = w4 at K14 K24 K34 HB4 HO4 c9 hs4 ⊢
  have hs4' : w4.heap.size ≤ w3.heap.size := by omega
  have hs4'' : w3.heap.size ≤ w4.heap.size := by omega
  clear hs4 HS4 cw fw
  go_wp2_with fail
  refine (copyInts_any A' n' c' x.next w4 B (HWX.out w4 HB4.out).next (by omega) (HWX.out w4 HB4.out).nm).mono ?_
  rintro _ w5 ⟨ev, rfl, hev, hb5⟩
  obtain ⟨A2, c2, heve, _, _, _, _⟩ := own_slice_n hev
  subst heve
  obtain ⟨ev, heve⟩ : ∃ ev, ev = Value.slice A2 x.next.length c2 := ⟨_, rfl⟩
  rw [← heve] at hev
  have hs5 := hb5.size
  have k3 := K34.out.under hb5
  have cw : w5.cell? ⟨g3, 9, none⟩ = some (.slice A' n' c') := (k3.cell 9).trans rfl
  have fw := k3.frozen 9
  have K26 := Lib.hid ((K24.out.under hb5).far (p := ⟨g3, 9, none⟩) (by show g2 ≠ g3; omega) ev)
  have K36 := Lib.hid (k3.set_ 9 ev)
  have HB6 := Lib.hid ((HB4.out.trans (hb5.mono (by omega))).setCell (p := ⟨g3, 9, none⟩) (by show w.heap.size ≤ g3; omega) ev)
  have HO6 := Lib.hid ((HO4.out.below hb5).keep (w' := w5.setCell ⟨g3, 9, none⟩ ev) fun b hb => Below.heap_setCell w5 ⟨g3, 9, none⟩ ev b (by have := (HG4.out b hb).1; show b ≠ g3; omega))
  have hn6 : OwnN (w5.setCell ⟨g3, 9, none⟩ ev) w4.heap.size ev x.next := own_keep (w' := w5.setCell ⟨g3, 9, none⟩ ev) hev fun b hb => Below.heap_setCell w5 ⟨g3, 9, none⟩ ev b (by have := own_ge hev hb; show b ≠ g3; omega)
  have HN6 := Lib.hid (hn6.more (B' := w2.heap.size) (by omega))
  clear hev hb5 k3 hn6 c9
  rw [heve] at K26 K36 HB6 HO6 HN6
  clear heve ev
  go_upto_region 4 with fail
  generalize w5.setCell _ _ = w6 at K26 K36 HB6 HO6 HN6 ⊢
  clear cw fw
  have hfin : ((wCells x A n c A' n' c').setIfInBounds 6 (.slice A1 x.data.length c1)).setIfInBounds 9 (.slice A2 x.next.length c2) = wCells x A1 x.data.length c1 A2 x.next.length c2 := rfl
  rw [hfin] at K36
  have hxl := (HWX.out w6 HB6.out)
  have hx1 := hxl.dlen
  have hx2 := hxl.nlen
  have hx3 := hxl.dm
  have hx4 := hxl.nm
  have HWO := Lib.hid (show WishOwn w6 w2.heap.size x A1 x.data.length c1 A2 x.next.length c2 from ⟨HO6.out, HN6.out, by omega, by omega, hxl.rng⟩)
  clear hxl hx1 hx2 hx3 hx4 hfin
  go_wp2_with (first
    | (refine wpList_load_part (o := ⟨some 13, _, _, _, _, _⟩) rfl 26 (.tmp 3) rfl g3 0 10 rfl 26 _ (wCells x A1 x.data.length c1 A2 x.next.length c2) _ K36.out Try.underlying26 rfl rfl rfl (fun _ _ => by rw [Nat.zero_add]) ?_)
    | (refine wpList_store_part (o := ⟨none, _, _, _, _, _⟩) rfl 26 (.tmp 2) (.tmp 13) rfl g2 0 (wCells x A1 x.data.length c1 A2 x.next.length c2) rfl rfl 26 (wCells zeroW none 0 0 none 0 0) K26.out (wCells_info _ _ _ _ _ _ _) (by simp [wCells]) (wCells_one _ _ _ _ _ _ _) ?_; intro w7 hT7 hD7; rw [spl_self _ _ (by simp [wCells])] at hD7))
  refine bodyPost_ret (results_part rfl _ _ g2 10 26 _ _ rfl hD7 Try.underlying26 rfl rfl rfl) rfl ⟨A1, _, c1, A2, _, c2, rfl, ?_, hT7.below HB6.out (by omega)⟩
  exact (HWO.out.keep fun b hb hlt => hT7.block b (by omega)).more (by omega)

end Go.Proofs.Ytcmbmimmfgfefaa
