/-
  InkNotes: the law's walk.
-/
import Derived.Test.YtmklppomcpimaaaNoteClash
import Derived.Test.YtmklppomcpimaaaInkFill
import Derived.Test.YtmklppomcpimaaaWorks
import Derived.Test.YtmklppomcpimaaaOpen
namespace Go.Proofs.Ytmklppomcpimaaa
set_option linter.unusedVariables false
open Go.RowKit Go.Maps
attribute [local irreducible] wpCalm

theorem fold_nodup (ys : List (List UInt8)) : ∀ l : List (List UInt8), l.Nodup → (ys.foldl noteInk l).Nodup := by
  induction ys with
  | nil => intro l h; exact h
  | cons y ys ih =>
    intro l h
    refine ih _ ?_
    unfold noteInk
    split
    · exact addInk_nodup h
    · exact h
theorem inkL_nodup (xss : List (List UInt8)) (k : Nat) : (inkL xss k).Nodup := fold_nodup _ _ List.nodup_nil

/-- of what was there, a row's block alone may have turned -/
structure OnlyRow (v : Value) (w w' : World) : Prop where
  os : w'.os = w.os
  tape : w'.tape = w.tape
  output : w'.output = w.output
  size : w.heap.size ≤ w'.heap.size
  block : ∀ i, i < w.heap.size → v.ownBlock ≠ some i → w'.heap[i]? = w.heap[i]?
theorem OnlyRow.refl (v : Value) (w : World) : OnlyRow v w w := ⟨rfl, rfl, rfl, Nat.le_refl _, fun _ _ _ => rfl⟩
theorem OnlyRow.set {v : Value} {a b : World} {g : Nat} (h : OnlyRow v a b) (hv : v.ownBlock = some g) (i : Nat) (u : Value) : OnlyRow v a (b.setCell ⟨g, i, none⟩ u) :=
  ⟨h.os, h.tape, h.output, by simpa [World.setCell] using h.size, fun j hj h1 => (Below.heap_setCell b ⟨g, i, none⟩ u j (fun e => h1 (by rw [hv]; exact congrArg some e.symm))).trans (h.block j hj h1)⟩
theorem OnlyRow.below {v : Value} {w0 w w' : World} {B : Nat} (h : OnlyRow v w w') (hb : Below B w0 w) (hB : B ≤ w.heap.size) (hl : ∀ b, v.ownBlock = some b → B ≤ b) : Below B w0 w' :=
  hb.trans ⟨h.os, h.tape, h.output, h.size, fun i hi => h.block i (by omega) (fun e => by have := hl i e; omega)⟩
theorem BookAt.keep {w w' : World} {k : Book} {l : List (List UInt8)} {n : Nat} (h : BookAt w k l n) (hk : ∀ b, k.has b → w'.heap[b]? = w.heap[b]?) : BookAt w' k l n := by
  obtain ⟨D1, D2, n1, n2, h1, h2, h3⟩ := h.maps
  refine ⟨(hk _ (.inl rfl)).trans h.cells, ⟨D1, D2, n1, n2, ?_, ?_, h3⟩, h.len, h.apart⟩
  · obtain ⟨es, c, hb, F, hs, hD⟩ := h1
    exact ⟨es, c, (hk _ (.inr (.inl rfl))).trans hb, F, hs, hD⟩
  · obtain ⟨es, c, hb, F, hs, hD⟩ := h2
    exact ⟨es, c, (hk _ (.inr (.inr rfl))).trans hb, F, hs, hD⟩
theorem BookAt.has_lt {w : World} {k : Book} {l : List (List UInt8)} {n : Nat} (h : BookAt w k l n) {b : Nat} (hb : k.has b) : b < w.heap.size := by
  have := h.lt
  rcases hb with rfl | rfl | rfl <;> omega

theorem bi_next (y : UInt8) : (bi y + 1) % 256 = bi (y + 1) := by
  unfold bi
  rw [UInt8.toNat_add]
  simp
set_option maxRecDepth 100000 in
set_option maxHeartbeats 4000000 in
theorem inkNotes_law (A : Option Addr) (n c : Nat) (xss : List (List UInt8)) (w : World) (h : Rows2 w A n xss) (hc : n ≤ c) (hcm : 24 * c ≤ reachBytes) :
    Calls Try.prog 3 #[.slice A n c] w fun e w' => e = .returned (.bool true) ∧ Below w.heap.size w w' := by
  have hxn := h.1
  have HXN := Lib.hid hxn
  have H := Lib.hid h
  unfold reachBytes at hcm
  clear hxn h
  go_enter Try.func3, Try.ntmps3
  go_wp2_with fail
  refine (inkNew_any _).mono ?_
  rintro _ w1 ⟨k, rfl, hk1, hkk, hb1⟩
  have hs1 := hb1.size
  have hlt1 := hk1.lt
  have HK1 := Lib.hid hk1
  have HB1 := Lib.hid hb1
  clear hk1 hb1
  go_wp2_with fail
  refine (noteNew_any _).mono ?_
  rintro _ w2 ⟨r, rfl, hr1, hr2, hr3, hb2⟩
  have hs2 := hb2.size
  have HK2 := Lib.hid (HK1.out.below hb2)
  have HR2 := Lib.hid hr3
  have HB2 := Lib.hid (HB1.out.trans (hb2.mono hs1))
  clear hr3 hb2
  go_wp2_with fail
  refine (inkNew_any _).mono ?_
  rintro _ w3 ⟨o, rfl, ho3, hoo, hb3⟩
  have hs3 := hb3.size
  have hlt3 := ho3.lt
  have HO3 := Lib.hid ho3
  have HK3 := Lib.hid (HK2.out.below hb3)
  have HR3 := Lib.hid (NoteAt.start (HR2.out.below' hb3) (B := w3.heap.size) (by omega))
  have HB3 := Lib.hid (HB2.out.trans (hb3.mono (by omega)))
  clear ho3 hb3
  obtain ⟨B, hBe⟩ : ∃ B, B = w3.heap.size := ⟨_, rfl⟩
  rw [← hBe] at HR3
  have hBge : B ≤ w3.heap.size := by omega
  have hkB : k.g < B ∧ k.b1 < B ∧ k.b2 < B := by omega
  have hoB : o.g < B ∧ o.b1 < B ∧ o.b2 < B := by omega
  have hwB : w.heap.size ≤ B := by omega
  have hkw : w.heap.size ≤ k.g ∧ w.heap.size ≤ k.b1 ∧ w.heap.size ≤ k.b2 := hkk
  have how : w.heap.size ≤ o.g ∧ w.heap.size ≤ o.b1 ∧ w.heap.size ≤ o.b2 := by omega
  have hkr : ¬ k.has r := by rintro (e | e | e) <;> omega
  have hor : ¬ o.has r := by rintro (e | e | e) <;> omega
  have hko : ¬ o.has k.g ∧ ¬ o.has k.b1 ∧ ¬ o.has k.b2 := by refine ⟨?_, ?_, ?_⟩ <;> rintro (e | e | e) <;> omega
  have hok : ¬ k.has o.g ∧ ¬ k.has o.b1 ∧ ¬ k.has o.b2 := by refine ⟨?_, ?_, ?_⟩ <;> rintro (e | e | e) <;> omega
  have hrB : w.heap.size ≤ r ∧ r < B := by omega
  have HBE := Lib.hid hBe
  clear hBe hlt3 hoo hr1 hr2 hlt1 hkk
  go_wp2_with fail
  go_loopw [6] (fun iv wr => ∃ (i : Nat) (lv : Value) (vs : List Value) (LO : List (List UInt8)) (NO : Nat), i ≤ n ∧ i ≤ 30 ∧ iv = .int .i64 i ∧ NO ≤ i ∧ BookAt wr k (inkL xss i) (inkN xss i) ∧ BookAt wr o LO NO ∧ NoteAt wr r B lv vs (inkL xss i) (inkN xss i) ∧ Below w.heap.size w wr ∧ B ≤ wr.heap.size) (fun iv _ => 30 - (intOf iv).toNat)
  case atStart => exact ⟨0, _, _, _, _, by omega, by omega, rfl, Nat.le_refl _, HK3.out, HO3.out, HR3.out, HB3.out, hBge⟩
  case round =>
    obtain ⟨i, lv, vs, LO, NO, hi, hi30, rfl, hNO, hK, hO, hR, hbel, hBr⟩ := hrel
    have HK := Lib.hid hK
    have HO := Lib.hid hO
    have HR := Lib.hid hR
    have HB := Lib.hid hbel
    have hsz := hbel.size
    have hnl := inkN_le xss i
    have hll := hK.len
    clear hK hO hR hbel
    go_upto_region 4 with fail
    go_cut [23] (fun s23 wx => s23 = .bool (decide (i < n ∧ i < 30)) ∧ wx = wr)
    case first =>
      by_cases hkn : i < n
      · go_wp2_with fail
        go_meet
        exact ⟨by simp [hkn]; omega, rfl⟩
      · go_wp2_with fail
        go_meet
        exact ⟨by simp [hkn], rfl⟩
    case rest =>
      obtain ⟨rfl, rfl⟩ := hcut
      by_cases hlt : i < n ∧ i < 30
      · rw [decide_eq_true hlt]
        obtain ⟨ad, hA, hadb, hcell⟩ := H.out.2 (by omega)
        subst hA
        have hxk : i < xss.length := by have := HXN.out; omega
        obtain ⟨Bp, m, cp, hcp, hrp, hmp, hcp2⟩ := hcell i xss[i] (List.getElem?_eq_getElem hxk)
        have hadk : (ad.add i).block < w.heap.size := by rw [block_of_add]; exact hadb
        have hcp' := (HB.out.cell hadk).trans hcp
        unfold reachBytes at hcp2
        go_wp2_with fail
        obtain ⟨b0, hb0⟩ : ∃ b : UInt8, vb b = .int .u8 (i : Int) := ⟨UInt8.ofNat i, by
          unfold vb bi
          rw [UInt8.toNat_ofNat']
          congr 1
          omega⟩
        have hX1 : Below wc.heap.size wc (wc.alloc (.cells #[.int .u8 (i : Int)] 5)) := (Below.refl _ _).alloc (Nat.le_refl _) _
        have hrd : Reads (wc.alloc (.cells #[.int .u8 (i : Int)] 5)) (wc.heap.size + 1) 1 (some ⟨wc.heap.size, 0, none⟩) 1 ([b0].map vb) := by
          rw [List.map_singleton, hb0]; exact reads_one _ _ _
        have hrdb : ∀ a, 0 < 1 → (some ⟨wc.heap.size, 0, none⟩ : Option Addr) = some a → ¬ o.has a.block := by
          rintro a _ ha
          injection ha with ha
          subst ha
          rintro (e | e | e) <;> simp at e <;> omega
        refine (inkOf_any o LO NO _ 1 1 [b0] _ _ (HO.out.below hX1) hrd (by simp) (fun a h0 ha e => hrdb a h0 ha (.inl e)) (by omega) (by unfold maxLen; omega) (by omega) (by omega)).mono ?_
        rintro _ w4 ⟨rfl, ho4, hoo4⟩
        have hob4 := hX1.trans (a := wc) (Below.refl _ _)
        have HO4 := Lib.hid ho4
        have HK4 := Lib.hid ((HK.out.below hX1).beside hoo4 hko)
        have HR4 := Lib.hid ((HR.out.below hX1).only hoo4 hor (fun b hb => by have := HR.out.held hb; rintro (e | e | e) <;> omega))
        have HB4 := Lib.hid (hoo4.below (HB.out.trans (hX1.mono hsz)) (by simp; omega) how)
        have hs4 := HB4.out.size
        have hs4' : wc.heap.size < w4.heap.size := by have := hoo4.size; simp at this; omega
        clear hX1 hrd hrdb ho4 hoo4 hob4
        have HRP := Lib.hid hrp
        have HCP := Lib.hid (fun (W : World) (hb : Below w.heap.size w W) => (hb.cell hadk).trans hcp)
        have c4 := HCP.out w4 HB4.out
        clear hcell hcp hrp hcp'
        go_wp2_with fail
        refine (copyBytes_any Bp m cp xss[i] w4 w.heap.size (HRP.out.below HB4.out) hs4 (by omega)).mono ?_
        rintro _ w5 ⟨v, rfl, hov, hb5⟩
        have hs5 := hb5.size
        have HO5 := Lib.hid (HO4.out.below hb5)
        have HK5 := Lib.hid (HK4.out.below hb5)
        have HR5 := Lib.hid (HR4.out.below hb5)
        have HB5 := Lib.hid (HB4.out.trans (hb5.mono hs4))
        have hheld5 : ∀ b, Held lv vs b → b < w4.heap.size := fun b hb => (HR4.out.held hb).2
        obtain ⟨Av, cv, rfl, hvc, hvm, hvr, hvB⟩ := own_slice_b hov
        have hxm : xss[i].length = m := by have := HRP.out.1; simpa using this
        rw [hxm] at hov hvc hvr
        have HOV := Lib.hid hov
        have HH5 := Lib.hid hheld5
        clear hov hb5 hheld5
        rw [hxm]
        have hinkL := inkL_next xss i hxk
        have hinkN := inkN_next xss i hxk
        generalize hx : xss[i] = x at HRP HOV hxm hvr hinkL hinkN ⊢
        have HX := Lib.hid hx
        have HXM := Lib.hid hxm
        clear hx hxm
        go_wp2_with fail
        refine (inkOf_all k _ _ Av m cv x w5 _ HK5.out hvr (Nat.le_refl _) (fun a h0 ha => by have := hvB a ha; rintro (e | e | e) <;> omega) hvc hvm (by omega)).mono ?_
        rintro _ w6 ⟨D, code, rfl, ha6, hk6, hok6⟩
        rw [← hinkL, ← hinkN] at hk6
        have hs6 := hok6.size
        have HA6 := Lib.hid ha6
        have HK6 := Lib.hid hk6
        have HO6 := Lib.hid (HO5.out.beside hok6 hok)
        have HR6 := Lib.hid (HR5.out.only hok6 hkr (fun b hb => by have := HR.out.held hb; rintro (e | e | e) <;> omega))
        have HB6 := Lib.hid (hok6.below HB5.out (by omega) hkw)
        have HOV6 := Lib.hid (HOV.out.keep (w' := w6) fun b hb => hok6.block b (HOV.out.lt hb) (by have := HOV.out.ge hb; rintro (e | e | e) <;> omega))
        clear ha6 hk6 hok6 hvr
        obtain ⟨ds, hds, hdl⟩ : ∃ ds : List UInt8, D = bRow ds ∧ ds.length = 32 := by
          rcases Nat.lt_or_ge 65536 x.length with h | h
          · exact ⟨List.replicate 32 0, (HA6.out.big h).2, by simp⟩
          · exact ⟨shaOf x, (HA6.out.small h).2, shaOf_len _⟩
        have hne := neq_digest ds ds hdl hdl
        rw [← hds, bne_self_eq_false] at hne
        have HNE := Lib.hid hne
        clear hne hds hdl
        go_upto_region 9 with (refine wpList_store_part rfl 28 (.tmp 8) (.tmp 40) rfl w6.heap.size 0 D rfl rfl 28 _ (Blk.newAt rfl) (by rw [HA6.out.size]; rfl) (by rw [HA6.out.size]; simp) HA6.out.one ?_; intro w7 hT7 hD7; rw [spl_self _ _ (by rw [HA6.out.size]; simp)] at hD7)
        have hX7 : Below w6.heap.size w6 w7 := hT7.below ((Below.refl _ _).alloc (Nat.le_refl _) _) (Nat.le_refl _)
        have HO7 := Lib.hid (HO6.out.below hX7)
        have HK7 := Lib.hid (HK6.out.below hX7)
        have HR7 := Lib.hid (HR6.out.below hX7)
        have HB7 := Lib.hid (HB6.out.trans (hX7.mono HB6.out.size))
        have HOV7 := Lib.hid (HOV6.out.below hX7)
        have hs7 := hX7.size
        have hs7b := HB7.out.size
        obtain ⟨g8, hg8⟩ : ∃ g, g = w6.heap.size := ⟨_, rfl⟩
        rw [← hg8] at hD7 ⊢
        have HD7 := Lib.hid hD7
        have hg8l := hD7.lt
        have hg8g : w6.heap.size ≤ g8 := by omega
        clear hX7 hT7 hD7 hg8
        have c7 := HCP.out w7 HB7.out
        go_wp2_with fail
        refine (noteOf_all r B _ lv vs _ Bp m cp x w7 w.heap.size HR7.out (HRP.out.below HB7.out) hs7b (by omega) (fun a h0 ha => by obtain ⟨ad', ha', hb', _⟩ := HRP.out.2 h0; rw [ha'] at ha; injection ha with ha; subst ha; omega) hmp (by unfold maxLen; omega) (by omega) (by omega)).mono ?_
        rintro _ w8 ⟨D', code', lv', vs', rfl, ha8, hr8, hh8, hn8⟩
        obtain ⟨rfl, rfl⟩ : D = D' ∧ code = code' := by
          rcases Nat.lt_or_ge 65536 x.length with h | h
          · exact ⟨(HA6.out.big h).2.trans (ha8.big h).2.symm, (HA6.out.big h).1.trans (ha8.big h).1.symm⟩
          · exact ⟨(HA6.out.small h).2.trans (ha8.small h).2.symm, (HA6.out.small h).1.trans (ha8.small h).1.symm⟩
        rw [← hinkL, ← hinkN] at hr8
        have hs8 := hn8.size
        have hlvb : ∀ b, lv.ownBlock = some b → b < w4.heap.size ∧ B ≤ b := fun b hb => ⟨HH5.out b (.inl hb), (HR.out.row_lt hb).1⟩
        have HR8 := Lib.hid hr8
        have HH8 := Lib.hid hh8
        have HK8 := Lib.hid (HK7.out.keep (w' := w8) fun b hb => hn8.block b (HK7.out.has_lt hb) (fun e => hkr (e ▸ hb)) (fun e => by have := hlvb b e; rcases hb with rfl | rfl | rfl <;> omega))
        have HO8 := Lib.hid (HO7.out.keep (w' := w8) fun b hb => hn8.block b (HO7.out.has_lt hb) (fun e => hor (e ▸ hb)) (fun e => by have := hlvb b e; rcases hb with rfl | rfl | rfl <;> omega))
        have HB8 := Lib.hid (hn8.below HB7.out (by omega) hrB.1 (fun b hb => by have := hlvb b hb; omega))
        have HOV8 := Lib.hid (HOV7.out.keep (w' := w8) fun b hb => hn8.block b (HOV7.out.lt hb) (by have := HOV7.out.ge hb; omega) (fun e => by have := hlvb b e; have := HOV7.out.ge hb; omega))
        have HD8 := Lib.hid (show Blk w8 g8 28 D from (hn8.block g8 hg8l (by omega) (fun e => by have := hlvb g8 e; omega)).trans HD7.out)
        clear ha8 hr8 hh8 hn8 hlvb
        go_upto_region 10 with (refine wpList_store_part rfl 28 (.tmp 10) (.tmp 49) rfl w8.heap.size 0 D rfl rfl 28 _ (Blk.newAt rfl) (by rw [HA6.out.size]; rfl) (by rw [HA6.out.size]; simp) HA6.out.one ?_; intro w9 hT9 hD9; rw [spl_self _ _ (by rw [HA6.out.size]; simp)] at hD9)
        have hX9 : Below w8.heap.size w8 w9 := hT9.below ((Below.refl _ _).alloc (Nat.le_refl _) _) (Nat.le_refl _)
        have HO9 := Lib.hid (HO8.out.below hX9)
        have HK9 := Lib.hid (HK8.out.below hX9)
        have HR9 := Lib.hid (HR8.out.below hX9)
        have HB9 := Lib.hid (HB8.out.trans (hX9.mono HB8.out.size))
        have HOV9 := Lib.hid (HOV8.out.below hX9)
        have HD9 := Lib.hid (HD8.out.below' hX9)
        have hs9 := hX9.size
        obtain ⟨g10, hg10⟩ : ∃ g, g = w8.heap.size := ⟨_, rfl⟩
        rw [← hg10] at hD9 ⊢
        have HE9 := Lib.hid hD9
        clear hX9 hT9 hD9 hg10
        have c9 := HCP.out w9 HB9.out
        have hne := HNE.out
        have heq := eqBytes_any Av Bp m m cv cp x x w9 _ _ (HOV9.out.reads' rfl) (HRP.out.below HB9.out) (by unfold maxLen at hvm ⊢; omega) (by unfold maxLen; omega)
        rw [decide_eq_true rfl] at heq
        have HEQ := Lib.hid heq
        clear heq
        go_wp2_with (first
          | (refine wpList_load_part rfl 28 (.tmp 8) rfl g8 0 32 rfl 28 _ D _ HD9.out Try.underlying28 rfl rfl HA6.out.size (fun _ _ => by rw [Nat.zero_add]) ?_)
          | (refine wpList_load_part rfl 28 (.tmp 10) rfl g10 0 32 rfl 28 _ D _ HE9.out Try.underlying28 rfl rfl HA6.out.size (fun _ _ => by rw [Nat.zero_add]) ?_))
        refine HEQ.out.mono ?_
        rintro _ w10 ⟨rfl, q, hq⟩
        have hb10 : Below w9.heap.size w9 w10 := hq ▸ below_drewN (Below.refl _ _) q
        have HO10 := Lib.hid (HO9.out.below hb10)
        have HK10 := Lib.hid (HK9.out.below hb10)
        have HR10 := Lib.hid (HR9.out.below hb10)
        have HB10 := Lib.hid (HB9.out.trans (hb10.mono HB9.out.size))
        have HOV10 := Lib.hid (HOV9.out.below hb10)
        have hs10 := hb10.size
        have hs10w : B ≤ w10.heap.size := by omega
        clear hq hb10
        have HHE := Lib.hid (fun (b : Nat) (hb : Held lv' vs' b) => (show b < w4.heap.size ∨ w7.heap.size ≤ b by
          rcases HH8.out b hb with h | h
          · exact .inl (HH5.out b h)
          · exact .inr h))
        have HOL := Lib.hid (fun (b : Nat) (hb : (Value.slice Av m cv).ownBlock = some b) => HOV7.out.lt hb)
        go_wp2_with fail
        go_loopw [12] (fun jv wr => ∃ (j : Nat) (ys : List UInt8), j ≤ m ∧ jv = .int .i64 j ∧ ys.length = m ∧ OwnB wr w4.heap.size (.slice Av m cv) ys ∧ OnlyRow (.slice Av m cv) w10 wr) (fun jv _ => m - (intOf jv).toNat)
        case atStart => exact ⟨0, x, by omega, rfl, HXM.out, HOV10.out, OnlyRow.refl _ _⟩
        case round =>
          obtain ⟨j, ys, hj, rfl, hym, hoy, hor⟩ := hrel
          have HOY := Lib.hid hoy
          have HOR := Lib.hid hor
          have HYM := Lib.hid hym
          have hsr := hor.size
          clear hoy hor hym
          by_cases hjm : j < m
          · have hown := HOY.out
            unfold OwnB at hown
            rw [HYM.out] at hown
            obtain ⟨g, cap, hv, _, _⟩ := hown.form (by omega)
            injection hv with hv _ hcap
            subst hv
            subst hcap
            have hcj := hown.cellAt j (by omega)
            have hfj := hown.frozenAt j
            rw [List.getElem?_map, List.getElem?_eq_getElem (by have := HYM.out; omega)] at hcj
            have hcj' : wr.cell? ⟨g, j, none⟩ = some (.int .u8 (bi (ys[j]'(by have := HYM.out; omega)))) := hcj
            generalize ys[j]'(by have := HYM.out; omega) = y at hcj'
            have HST := Lib.hid (fun u => hown.stored j u)
            clear hown hcj
            go_wp2_with fail
            rw [bi_next]
            go_roundw
            case rel =>
              refine ⟨j + 1, ys.set j (y + 1), by omega, by go_num, by rw [List.length_set]; exact HYM.out, ?_, HOR.out.set rfl j _⟩
              have := (HST.out (.int .u8 (bi (y + 1)))).1
              unfold OwnB
              rw [List.length_set, HYM.out, List.map_set]
              exact this
            case measure => simp [intOf]; omega
          · obtain rfl : j = m := by omega
            have hkeep : ∀ b, b < w10.heap.size → (b < w4.heap.size ∨ w7.heap.size ≤ b) → wr.heap[b]? = w10.heap[b]? := fun b hb hor => HOR.out.block b hb (fun e => by
              have h1 := HOV10.out.ge e
              have h2 := HOL.out b e
              omega)
            have HKE := Lib.hid (HK10.out.keep (w' := wr) fun b hb => hkeep b (HK10.out.has_lt hb) (.inl (by rcases hb with rfl | rfl | rfl <;> omega)))
            have HOE := Lib.hid (HO10.out.keep (w' := wr) fun b hb => hkeep b (HO10.out.has_lt hb) (.inl (by rcases hb with rfl | rfl | rfl <;> omega)))
            have HRE := Lib.hid (HR10.out.keep (w' := wr) (hkeep r (by omega) (.inl (by omega))) fun b hb => hkeep b (HR10.out.held hb).2 (HHE.out b hb))
            have HBE := Lib.hid (HOR.out.below HB10.out (by omega) (fun b e => by have := HOV10.out.ge e; omega))
            clear hkeep
            have hlk := HKE.out.len
            have hnl' := inkN_le xss (i + 1)
            have hBw : B ≤ wr.heap.size := by have := HOR.out.size; omega
            go_wp2_with fail
            refine (inkLen_b k _ _ wr HKE.out (by omega)).mono ?_
            rintro _ w11 ⟨rfl, hb11⟩
            have HK11 := Lib.hid (HKE.out.below hb11)
            have HO11 := Lib.hid (HOE.out.below hb11)
            have HR11 := Lib.hid (HRE.out.below hb11)
            have HB11 := Lib.hid (HBE.out.trans (hb11.mono HBE.out.size))
            have hBw11 : B ≤ w11.heap.size := by have := hb11.size; omega
            clear hb11
            go_wp2_with fail
            refine (noteLen_any w11 HR11.out).mono ?_
            rintro _ _ ⟨rfl, rfl⟩
            go_wp2_with fail
            refine (inkAsked_any k _ _ w11 HK11.out).mono ?_
            rintro _ _ ⟨rfl, rfl⟩
            go_wp2_with fail
            refine (noteAsked_any w11 HR11.out).mono ?_
            rintro _ _ ⟨rfl, rfl⟩
            go_wp2_with fail
            have hal := addInk_len LO [b0]
            go_roundw
            case rel => exact ⟨i + 1, _, _, _, NO + 1, by omega, by omega, by go_num, by omega, HK11.out, HO11.out, HR11.out, HB11.out, hBw11⟩
            case measure => simp [intOf]; omega
      · rw [decide_eq_false hlt]
        clear hlt
        have hcn := noteClash_any wc HR.out (inkL_nodup xss i) (fun x hx => ((inkL_iff xss i x).1 hx).1) (by omega)
        go_wp2_with fail
        refine (inkClash_any k _ _ wc HK.out).mono ?_
        rintro _ _ ⟨rfl, rfl⟩
        go_wp2_with fail
        refine hcn.mono ?_
        rintro _ w4 ⟨rfl, hb4⟩
        have HB4 := Lib.hid (HB.out.trans (hb4.mono hsz))
        clear hb4 hcn
        go_wp2_with fail
        refine (works_any _).mono ?_
        rintro _ w5 ⟨rfl, hb5⟩
        have HB5 := Lib.hid (HB4.out.trans (hb5.mono HB4.out.size))
        clear hb5
        go_wp2_with fail
        go_ret
        exact ⟨rfl, HB5.out⟩

end Go.Proofs.Ytmklppomcpimaaa
