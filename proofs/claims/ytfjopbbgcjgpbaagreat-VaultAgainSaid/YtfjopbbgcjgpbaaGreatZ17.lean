/- Parts of the proof, in one text: VaultT, VlM, VaultS, VaultI. -/
import Derived.Test.YtfjopbbgcjgpbaaGreatZ16
import Derived.Test.YtfjopbbgcjgpbaaGreatZ6
import Derived.Test.YtfjopbbgcjgpbaaGreatZ14
import Derived.Test.YtfjopbbgcjgpbaaGreatZ12

/- Contract of the laws' wish: one that is told by a number. -/
namespace Go.Proofs.YtfjopbbgcjgpbaaGreat
set_option linter.unusedVariables false
open Go.RowKit Go.Maps

attribute [local irreducible] wpList wpCalm
def epochW (ep : Nat) (n : Int) : Nat := if bringF (n / 512) 8 = 0 ∧ 0 < ep then ep - 1 else ep
def clientW (n : Int) : Int := 31 + (bringF (n / 16) 4 : Int)
def blockW (n : Int) : Int := (bringF (n / 64) 8 : Int)
def byteW (n : Int) : UInt8 := UInt8.ofNat ((n / 32) % 256).toNat
def wishV (ep : Nat) (n stamp : Int) : Wish :=
  if bringF n 12 = 0 then shutV (epochW ep n) else if bringF n 12 < 5 then readV (clientW n) stamp (epochW ep n) (blockW n) else writeV (clientW n) stamp (epochW ep n) (blockW n) (byteW n)
theorem epochW_le (ep : Nat) (n : Int) : epochW ep n ≤ ep := by unfold epochW; split <;> omega
theorem clientW_le (n : Int) : 31 ≤ clientW n ∧ clientW n ≤ 34 := by
  have := bringF_lt (n / 16) 4 (by omega)
  unfold clientW; omega
theorem blockW_le (n : Int) : 0 ≤ blockW n ∧ blockW n ≤ 7 := by
  have := bringF_lt (n / 64) 8 (by omega)
  unfold blockW; omega
theorem byteW_vb (n : Int) : vb (byteW n) = .int .u8 ((n / 32) % 256) := by
  unfold vb byteW bi
  congr 1
  rw [UInt8.toNat_ofNat']
  omega
def WishPost (w : World) (x : Wish) (e : Ending) (w' : World) : Prop := ∃ A q A' q', e = .returned (.agg (wCells x A x.data.length q A' x.next.length q')) ∧ WishIn w' w'.heap.size x A x.data.length q A' x.next.length q' ∧ (∀ a, A = some a → w.heap.size ≤ a.block) ∧ (∀ a, A' = some a → w.heap.size ≤ a.block) ∧ Below w.heap.size w w'
theorem i64_small {z : Int} (h1 : 0 ≤ z) (h2 : z ≤ 9223372036854775807) : I64 z := by unfold I64; omega
theorem wishIn_read {w : World} {c s e b : Int} (h : I64 c ∧ I64 s ∧ I64 e ∧ I64 b) : WishIn w w.heap.size (readV c s e b) none (readV c s e b).data.length 0 none (readV c s e b).next.length 0 :=
  ⟨Reads.none_, by simp [readV], by simp [readV], Reads.none_, by simp [readV], by simp [readV], ⟨h.1, h.2.1, by show I64 1; unfold I64; omega, h.2.2.1, by show I64 1; unfold I64; omega, h.2.2.2, by show I64 0; unfold I64; omega, by show I64 0; unfold I64; omega, fun z hz => by simp [readV] at hz⟩⟩

set_option maxRecDepth 100000 in
set_option maxHeartbeats 8000000 in
theorem vwish_any (w : World) (V : VLoc) (N : Nat → Prop) (m : VM) (h : VAt w V N m) (n stamp : Int) (h1 : -9223372036854775808 ≤ n) (h2 : n ≤ 9223372036854775807) (hs0 : 0 ≤ stamp) (hs1 : stamp ≤ 1000000) :
    Calls Tryz.prog 15 #[.pointer (some ⟨V.g, 0, none⟩), .int .i64 n, .int .i64 stamp] w (WishPost w (wishV m.epoch n stamp)) := by
  have hep : m.epoch ≤ 1048576 := by obtain ⟨S, hd⟩ := h.dat; exact hd.ok.epoch
  have hX := below_lit w (.cells (wCells zeroW none 0 0 none 0 0) 37)
  have hk0 : Blk (w.alloc (.cells (wCells zeroW none 0 0 none 0 0) 37)) w.heap.size 37 (wCells zeroW none 0 0 none 0 0) := Blk.newAt rfl
  have HX := Lib.hid hX
  have HK := Lib.hid hk0
  have HEP := Lib.hid (vEpoch_any (w.alloc (.cells (wCells zeroW none 0 0 none 0 0) 37)) V N m (h.below hX))
  have hZ : wCells zeroW none 0 0 none 0 0 = #[.int .i64 0, .int .i64 0, .int .i64 0, .int .i64 0, .int .i64 0, .int .i64 0, .slice none 0 0, .int .i64 0, .int .i64 0, .slice none 0 0] := rfl
  have HBR := Lib.hid (fun (i z : Int) (k : Nat) (hz : z = (k : Int)) (hk : 0 < k) (hk2 : k ≤ 100) (hi : -9223372036854775808 ≤ i) (hi2 : i ≤ 9223372036854775807) (W : World) => (show Calls Tryz.prog 13 #[.int .i64 i, .int .i64 z] W fun e w' => e = .returned (.int .i64 (bringF i k : Int)) ∧ W = w' from hz ▸ bring_any i k hk (by unfold maxLen; omega) hi hi2 W))
  obtain ⟨x, hx⟩ : ∃ x, x = wishV m.epoch n stamp := ⟨_, rfl⟩
  have hxe : x = if bringF n 12 = 0 then shutV (epochW m.epoch n) else if bringF n 12 < 5 then readV (clientW n) stamp (epochW m.epoch n) (blockW n) else writeV (clientW n) stamp (epochW m.epoch n) (blockW n) (byteW n) := hx
  rw [← hx]
  have hee : epochW m.epoch n = if bringF (n / 512) 8 = 0 ∧ 0 < m.epoch then m.epoch - 1 else m.epoch := rfl
  have hel := epochW_le m.epoch n
  have hcl := clientW_le n
  have hbl := blockW_le n
  have hcd : clientW n = 31 + (bringF (n / 16) 4 : Int) := rfl
  have hbd : blockW n = (bringF (n / 64) 8 : Int) := rfl
  have hbv := byteW_vb n
  have hk12 := bringF_lt n 12 (by omega)
  obtain ⟨kd, hkd⟩ : ∃ k, k = bringF n 12 := ⟨_, rfl⟩
  obtain ⟨b9, hb9⟩ : ∃ k, k = bringF (n / 512) 8 := ⟨_, rfl⟩
  obtain ⟨b4, hb4⟩ : ∃ k, k = bringF (n / 16) 4 := ⟨_, rfl⟩
  obtain ⟨b6, hb6⟩ : ∃ k, k = bringF (n / 64) 8 := ⟨_, rfl⟩
  have hb4l : b4 < 4 := by rw [hb4]; exact bringF_lt _ _ (by omega)
  have hb4I : (b4 : Int) < 4 := by omega
  rw [← hkd] at hxe hk12
  rw [← hb9] at hee
  rw [← hb4] at hcd
  rw [← hb6] at hbd
  generalize epochW m.epoch n = e at hxe hee hel
  generalize clientW n = cl at hxe hcl hcd
  generalize blockW n = bk at hxe hbl hbd
  generalize byteW n = by_ at hxe hbv
  have HKD := Lib.hid hkd
  have HB9 := Lib.hid hb9
  have HB4 := Lib.hid hb4
  have HB6 := Lib.hid hb6
  have HXE := Lib.hid hxe
  have HEE := Lib.hid hee
  have HCD := Lib.hid hcd
  have HBD := Lib.hid hbd
  have HBV := Lib.hid hbv
  obtain ⟨g6, hg6⟩ : ∃ g, g = w.heap.size := ⟨_, rfl⟩
  clear h hX hk0 hx hxe hee hcd hbd hbv hkd hb9 hb4 hb6
  go_enter Tryz.func15, Tryz.ntmps15
  go_upto_region 1 with fail
  rw [← hZ]
  generalize World.alloc w _ = w1 at HX HK HEP ⊢
  rw [← hg6] at HK ⊢
  have hgw : w.heap.size ≤ g6 := by omega
  have hl := HK.out.lt
  have hs1' := HX.out.size
  clear hg6 hZ
  go_wp2_with fail
  refine (HBR.out _ _ 4 (by omega) (by omega) (by omega) (by omega) (by omega) _).mono ?_
  rintro _ _ ⟨rfl, rfl⟩
  rw [← HB4.out]
  go_wp2_with fail
  refine (HBR.out _ _ 8 (by omega) (by omega) (by omega) (by omega) (by omega) _).mono ?_
  rintro _ _ ⟨rfl, rfl⟩
  rw [← HB6.out, ← HBD.out]
  go_wp2_with fail
  refine HEP.out.mono ?_
  rintro _ _ ⟨rfl, rfl⟩
  go_upto_region 3 with fail
  go_cut [26] (fun s26 wx => s26 = .bool (decide (b9 = 0 ∧ 0 < m.epoch)) ∧ wx = w1)
  case first =>
    go_wp2_with fail
    refine (HBR.out _ _ 8 (by omega) (by omega) (by omega) (by omega) (by omega) _).mono ?_
    rintro _ _ ⟨rfl, rfl⟩
    rw [← HB9.out]
    by_cases hb0 : b9 = 0
    · have hbb : ((b9 : Int) == 0) = true := by simp [hb0]
      go_wp2_with fail
      go_meet
      exact ⟨by simp [hb0], rfl⟩
    · have hbb : ((b9 : Int) == 0) = false := by simpa using hb0
      go_wp2_with fail
      go_meet
      exact ⟨by simp [hb0], rfl⟩
  case rest =>
    obtain ⟨rfl, rfl⟩ := hcut
    go_upto_if 26 with (fail)
    go_cut [9] (fun s9 wx => s9 = .int .i64 (e : Int) ∧ wx = wc)
    case first =>
      by_cases hb0 : b9 = 0 ∧ 0 < m.epoch
      · rw [decide_eq_true hb0]
        have he : (e : Int) = (m.epoch : Int) - 1 := by have := HEE.out; rw [if_pos hb0] at this; omega
        go_wp2_with fail
        go_meet
        exact ⟨by rw [he], rfl⟩
      · rw [decide_eq_false hb0]
        have he : (e : Int) = (m.epoch : Int) := by have := HEE.out; rw [if_neg hb0] at this; omega
        go_wp2_with fail
        go_meet
        exact ⟨by rw [he], rfl⟩
    case rest =>
      obtain ⟨rfl, rfl⟩ := hcut
      go_wp2_with fail
      refine (HBR.out _ _ 12 (by omega) (by omega) (by omega) (by omega) (by omega) _).mono ?_
      rintro _ _ ⟨rfl, rfl⟩
      rw [← HKD.out]
      have hI : I64 (31 + (b4 : Int)) ∧ I64 stamp ∧ I64 (e : Int) ∧ I64 bk := ⟨i64_small (by omega) (by have := HCD.out; omega), i64_small hs0 (by omega), i64_small (by omega) (by omega), i64_small (by omega) (by omega)⟩
      have HI := Lib.hid hI
      clear hI
      by_cases hk0 : kd = 0
      · have hxx : x = shutV (e : Int) := by rw [HXE.out, if_pos hk0]
        have hkb : ((kd : Int) == 0) = true := by simp [hk0]
        have HXX := Lib.hid hxx
        clear hxx
        go_wp2_with fail
        refine (vshut_any _ wc).mono ?_
        rintro _ w2 ⟨A, q, rfl, hr, hA, hq, hb2⟩
        have HB2 := Lib.hid (HX.out.trans (hb2.mono (by omega)))
        have K2 := Lib.hid (HK.out.below' hb2)
        have HR := Lib.hid hr
        have HA := Lib.hid hA
        have hs2 := hb2.size
        clear hr hA hb2
        go_wp2_with (refine wpList_store_part (o := ⟨none, _, _, _, _, _⟩) rfl 37 (.tmp 6) (.tmp 34) rfl g6 0 (wCells (shutV (e : Int)) none 0 0 A 4 q) rfl rfl 37 (wCells zeroW none 0 0 none 0 0) K2.out (wCells_info _ _ _ _ _ _ _) (by simp [wCells]) (wCells_one _ _ _ _ _ _ _) ?_; intro w3 hT3 hD3; rw [wC_spl] at hD3)
        refine bodyPost_ret (results_part rfl _ _ g6 10 37 _ _ rfl hD3 Tryz.underlying37 rfl rfl rfl) rfl ?_
        rw [HXX.out]
        have ho3 : Only (fun b => b = g6) w2 w3 := Only.of_turned hT3 rfl
        refine ⟨none, 0, A, q, rfl, ⟨Reads.none_, by simp [shutV], by simp [shutV], ?_, hq, by simp [shutV], ?_⟩, (fun a ha => by cases ha), (fun a ha => by have := HA.out a ha; omega), hT3.below HB2.out hgw⟩
        · exact ho3.reads HR.out fun a _ ha e' => by have := HA.out a ha; omega
        · exact ⟨by show I64 0; unfold I64; omega, by show I64 0; unfold I64; omega, by show I64 1; unfold I64; omega, HI.out.2.2.1, by show I64 5; unfold I64; omega, by show I64 0; unfold I64; omega, by show I64 0; unfold I64; omega, by show I64 0; unfold I64; omega, fun z hz => by simp [shutV] at hz; unfold I64; omega⟩
      · by_cases hk5 : kd < 5
        · have hxx : x = readV (31 + (b4 : Int)) stamp (e : Int) bk := by rw [HXE.out, if_neg hk0, if_pos hk5, HCD.out]
          have HXX := Lib.hid hxx
          obtain hk | hk | hk | hk : kd = 1 ∨ kd = 2 ∨ kd = 3 ∨ kd = 4 := by omega
          all_goals
            subst hk
            clear hxx hk0 hk5
            go_wp2_with fail
            refine (vread_any _ _ _ _ wc).mono ?_
            rintro _ w2 ⟨rfl, hb2⟩
            have HB2 := Lib.hid (HX.out.trans (hb2.mono (by omega)))
            have K2 := Lib.hid (HK.out.below' hb2)
            have hs2 := hb2.size
            clear hb2
            go_wp2_with (refine wpList_store_part (o := ⟨none, _, _, _, _, _⟩) rfl 37 (.tmp 6) (.tmp 44) rfl g6 0 (wCells (readV (31 + (b4 : Int)) stamp (e : Int) bk) none 0 0 none 0 0) rfl rfl 37 (wCells zeroW none 0 0 none 0 0) K2.out (wCells_info _ _ _ _ _ _ _) (by simp [wCells]) (wCells_one _ _ _ _ _ _ _) ?_; intro w3 hT3 hD3; rw [wC_spl] at hD3)
            refine bodyPost_ret (results_part rfl _ _ g6 10 37 _ _ rfl hD3 Tryz.underlying37 rfl rfl rfl) rfl ?_
            rw [HXX.out]
            exact ⟨none, 0, none, 0, rfl, wishIn_read HI.out, (fun a ha => by cases ha), (fun a ha => by cases ha), hT3.below HB2.out hgw⟩
        · have hxx : x = writeV (31 + (b4 : Int)) stamp (e : Int) bk by_ := by rw [HXE.out, if_neg hk0, if_neg hk5, HCD.out]
          have HXX := Lib.hid hxx
          have e0 : ((kd : Int) == 0) = false := by simpa using hk0
          have e1 : ((kd : Int) == 1) = false := by simp; omega
          have e2 : ((kd : Int) == 2) = false := by simp; omega
          have e3 : ((kd : Int) == 3) = false := by simp; omega
          have e4 : ((kd : Int) == 4) = false := by simp; omega
          have HVW := Lib.hid (fun (c s e k : Int) (W : World) => vwrite_any c s e k by_ W)
          rw [HBV.out] at HVW
          clear hxx
          go_wp2_with fail
          refine (HVW.out _ _ _ _ wc).mono ?_
          rintro _ w2 ⟨A, q, rfl, ho2, hb2⟩
          have HB2 := Lib.hid (HX.out.trans (hb2.mono (by omega)))
          have K2 := Lib.hid (HK.out.below' hb2)
          have HO2 := Lib.hid ho2
          have hs2 := hb2.size
          clear hb2 ho2
          go_wp2_with (refine wpList_store_part (o := ⟨none, _, _, _, _, _⟩) rfl 37 (.tmp 6) (.tmp 52) rfl g6 0 (wCells (writeV (31 + (b4 : Int)) stamp (e : Int) bk by_) A 16 q none 0 0) rfl rfl 37 (wCells zeroW none 0 0 none 0 0) K2.out (wCells_info _ _ _ _ _ _ _) (by simp [wCells]) (wCells_one _ _ _ _ _ _ _) ?_; intro w3 hT3 hD3; rw [wC_spl] at hD3)
          refine bodyPost_ret (results_part rfl _ _ g6 10 37 _ _ rfl hD3 Tryz.underlying37 rfl rfl rfl) rfl ?_
          rw [HXX.out]
          have ho3 : OwnB w3 wc.heap.size (.slice A 16 q) (rep16 by_) := HO2.out.keep fun b hb => hT3.block b (fun e' => by have := HO2.out.ge hb; omega)
          obtain ⟨q1, q2, q3, q4, q5⟩ := ho3.reads
          refine ⟨A, q, none, 0, by simp only [writeV, ← q1]; rfl, ⟨?_, ?_, ?_, Reads.none_, by simp [writeV], by simp [writeV], ?_⟩, (fun a ha => by have := q5 a ha; omega), (fun a ha => by cases ha), hT3.below HB2.out hgw⟩
          · simp only [writeV, ← q1]; exact q4
          · simp only [writeV, ← q1]; omega
          · simp only [writeV, ← q1]; omega
          · exact ⟨HI.out.1, HI.out.2.1, by show I64 1; unfold I64; omega, HI.out.2.2.1, by show I64 2; unfold I64; omega, HI.out.2.2.2, by show I64 0; unfold I64; omega, by show I64 0; unfold I64; omega, fun z hz => by simp [writeV] at hz⟩

end Go.Proofs.YtfjopbbgcjgpbaaGreat

/- The vault's laws in plain words: what a run of wishes leaves. -/
namespace Go.Proofs.YtfjopbbgcjgpbaaGreat
set_option linter.unusedVariables false

/-- a vault after some wishes: its epoch, its clients' stamps -/
structure RunOk (m : VM) (e s : Nat) : Prop where
  ok : VOk m
  group : m.group = 1
  epoch : m.epoch ≤ e
  stamps : ∀ c, (lastV m c).1 ≤ s
theorem RunOk.more {m : VM} {e s e' s' : Nat} (h : RunOk m e s) (he : e ≤ e') (hs : s ≤ s') : RunOk m e' s' := ⟨h.ok, h.group, by have := h.epoch; omega, fun c => by have := h.stamps c; omega⟩
theorem RunOk.new : RunOk (newV 1) 0 0 := ⟨newV_ok 1 (by omega) (by omega), rfl, Nat.le_refl _, fun c => by
  unfold lastV newV
  simp only [List.getD_eq_getElem?_getD, List.getElem?_replicate]
  split <;> simp⟩
theorem wishV_kind (ep : Nat) (n stamp : Int) : (wishV ep n stamp).kind = if bringF n 12 = 0 then 5 else if bringF n 12 < 5 then 1 else 2 := by
  unfold wishV
  split
  · rfl
  · split <;> rfl
theorem wishV_may {ep : Nat} {n stamp : Int} (he : ep ≤ 1048576) (h1 : 1 ≤ stamp) (h2 : stamp ≤ 1000000) : mayB (wishV ep n stamp) = true := by
  have hw := epochW_le ep n
  have hc := clientW_le n
  have hb := blockW_le n
  refine decide_eq_true ?_
  unfold MayP wishV
  split
  · refine ⟨by show (0 : Int) ≤ (epochW ep n : Int); omega, by show ((epochW ep n : Nat) : Int) ≤ 1048576; omega, .inl ⟨rfl, rfl, rfl, rfl, rfl, rfl, rfl, show (1 : Int) ≤ 1 by decide, show (1 : Int) ≤ 2 by decide, show crewB [1, 2, 3, 4] = true by decide⟩⟩
  · split
    · refine ⟨by show (0 : Int) ≤ (epochW ep n : Int); omega, by show ((epochW ep n : Nat) : Int) ≤ 1048576; omega, .inr ⟨show (1 : Int) ≠ 5 by decide, hc.1, hc.2, h1, by show stamp ≤ _; omega, rfl, .inl ⟨.inl ⟨rfl, rfl⟩, show (1 : Int) ≤ 1 by decide, show (1 : Int) ≤ 2 by decide, hb.1, hb.2, rfl, rfl⟩⟩⟩
    · refine ⟨by show (0 : Int) ≤ (epochW ep n : Int); omega, by show ((epochW ep n : Nat) : Int) ≤ 1048576; omega, .inr ⟨show (2 : Int) ≠ 5 by decide, hc.1, hc.2, h1, by show stamp ≤ _; omega, rfl, .inl ⟨.inr ⟨rfl, by show (rep16 _).length = 16; simp [rep16]⟩, show (1 : Int) ≤ 1 by decide, show (1 : Int) ≤ 2 by decide, hb.1, hb.2, rfl, rfl⟩⟩⟩
theorem wishV_group (ep : Nat) (n stamp : Int) : (wishV ep n stamp).group = 1 := by
  unfold wishV
  split
  · rfl
  · split <;> rfl
theorem wishV_in {m : VM} {e s : Nat} (h : RunOk m e s) {n stamp : Int} (h1 : 1 ≤ stamp) (h2 : stamp ≤ 1000000) : inV m (wishV m.epoch n stamp) = true := by
  unfold inV
  rw [wishV_may h.ok.epoch h1 h2, wishV_group, h.group]
  rfl
theorem wishV_of {ep : Nat} {n stamp : Int} (hk : (wishV ep n stamp).kind ≠ 5) : (wishV ep n stamp).stamp = stamp ∧ (wishV ep n stamp).client = clientW n ∧ (wishV ep n stamp).block = blockW n ∧ (wishV ep n stamp).epoch = (epochW ep n : Int) ∧ ((wishV ep n stamp).kind = 1 ∧ (wishV ep n stamp).data = [] ∨ (wishV ep n stamp).kind = 2 ∧ (wishV ep n stamp).data = rep16 (byteW n)) := by
  by_cases h0 : bringF n 12 = 0
  · rw [wishV_kind, if_pos h0] at hk
    exact absurd rfl hk
  · by_cases h5 : bringF n 12 < 5
    · have e : wishV ep n stamp = readV (clientW n) stamp (epochW ep n) (blockW n) := by unfold wishV; rw [if_neg h0, if_pos h5]
      rw [e]
      exact ⟨rfl, rfl, rfl, rfl, .inl ⟨rfl, rfl⟩⟩
    · have e : wishV ep n stamp = writeV (clientW n) stamp (epochW ep n) (blockW n) (byteW n) := by unfold wishV; rw [if_neg h0, if_neg h5]
      rw [e]
      exact ⟨rfl, rfl, rfl, rfl, .inr ⟨rfl, rfl⟩⟩
/-- a stamp that is new -/
theorem wish_new {m : VM} {e s : Nat} (h : RunOk m e s) {x : Wish} (hs : (s : Int) < x.stamp) : oldV m x = none := by
  have h1 := h.stamps (x.client - 31).toNat
  unfold oldV
  simp only
  rw [if_neg (by omega), if_neg (by omega)]
theorem ran_lastS {m : VM} {e s : Nat} (h : RunOk m e s) {x : Wish} {s' : Nat} (hs : s ≤ s') (hx : x.stamp.toNat ≤ s') (c : Nat) : (lastV (ranV m x).1 c).1 ≤ s' := by
  unfold lastV ranV
  simp only [List.getD_eq_getElem?_getD, List.getElem?_set]
  have h1 := h.stamps c
  unfold lastV at h1
  rw [List.getD_eq_getElem?_getD] at h1
  split
  · split
    · exact hx
    · simp
  · omega
theorem sealV_last (m : VM) (x : Wish) : (sealV m x).1.last = m.last ∧ (sealV m x).1.epoch = m.epoch ∧ (sealV m x).1.group = m.group ∧ (sealV m x).1.blocks = m.blocks := by
  unfold sealV
  cases elseV m x.epoch with
  | some a => exact ⟨rfl, rfl, rfl, rfl⟩
  | none => simp only; split <;> exact ⟨rfl, rfl, rfl, rfl⟩
/-- any wish that may be, with a stamp of s' at most -/
theorem RunOk.do_ {m : VM} {e s s' : Nat} (h : RunOk m e s) (x : Wish) (hs : s ≤ s') (hx : x.stamp ≤ (s' : Int)) : RunOk (doV m x).1 e s' := by
  refine ⟨h.ok.did x, ?_, ?_, fun c => ?_⟩
  · unfold doV
    split
    · split
      · rw [(sealV_last m x).2.2.1]; exact h.group
      · cases oldV m x with
        | some a => exact h.group
        | none =>
          simp only
          cases elseV m x.epoch with
          | some a => exact h.group
          | none => exact h.group
    · exact h.group
  · unfold doV
    split
    · split
      · rw [(sealV_last m x).2.1]; exact h.epoch
      · cases oldV m x with
        | some a => exact h.epoch
        | none =>
          simp only
          cases elseV m x.epoch with
          | some a => exact h.epoch
          | none => exact h.epoch
    · exact h.epoch
  · have h1 := h.stamps c
    unfold doV
    split
    · split
      · unfold lastV at h1 ⊢
        rw [(sealV_last m x).1]
        omega
      · cases oldV m x with
        | some a => simp only; omega
        | none =>
          simp only
          cases elseV m x.epoch with
          | some a => simp only; omega
          | none => exact ran_lastS h hs (by omega) c
    · simp only; omega
theorem RunOk.turn {m : VM} {e s : Nat} (h : RunOk m e s) : RunOk (turnV m).1 (e + 1) s := by
  refine ⟨h.ok.turned, ?_, ?_, fun c => ?_⟩
  · unfold turnV; split <;> exact h.group
  · have := h.epoch
    unfold turnV; split
    · simp only; omega
    · simp only; omega
  · have h1 := h.stamps c
    unfold turnV; split
    · exact h1
    · exact h1
theorem RunOk.step {m : VM} {e s : Nat} (h : RunOk m e s) (n : Int) {k : Nat} (hk : s < k) (hk2 : k ≤ 1000000) : (doV m (wishV m.epoch n (k : Int))).2.2 = 0 ∧ RunOk (doV m (wishV m.epoch n (k : Int))).1 e k := by
  have hin := wishV_in h (n := n) (stamp := (k : Int)) (by omega) (by omega)
  refine ⟨?_, h.do_ _ (by omega) ?_⟩
  · unfold doV
    rw [if_pos hin]
    split
    · rfl
    · cases oldV m _ with
      | some a => rfl
      | none => simp only; cases elseV m _ <;> rfl
  · by_cases hk5 : (wishV m.epoch n (k : Int)).kind = 5
    · have hz : bringF n 12 = 0 := by
        rw [wishV_kind] at hk5
        split at hk5
        · assumption
        · split at hk5 <;> omega
      unfold wishV
      rw [if_pos hz]
      show (0 : Int) ≤ (k : Int)
      omega
    · rw [(wishV_of hk5).1]; omega
/-- what a wish that is no seal makes of a vault -/
theorem doV_new {m : VM} {e s : Nat} (h : RunOk m e s) (n : Int) {k : Nat} (hk : s < k) (hk2 : k ≤ 1000000) (hk5 : (wishV m.epoch n (k : Int)).kind ≠ 5) :
    doV m (wishV m.epoch n (k : Int)) = match elseV m (epochW m.epoch n : Int) with | some a => (m, a, 0) | none => ((ranV m (wishV m.epoch n (k : Int))).1, dataA (ranV m (wishV m.epoch n (k : Int))).2, 0) := by
  have hin := wishV_in h (n := n) (stamp := (k : Int)) (by omega) (by omega)
  obtain ⟨h1, _, _, h4, _⟩ := wishV_of hk5
  have ho := wish_new h (x := wishV m.epoch n (k : Int)) (by rw [h1]; omega)
  unfold doV
  rw [if_pos hin, if_neg hk5, ho, h4]
  simp only
  cases elseV m _ <;> rfl
/-- the blocks, told by their bytes -/
theorem doV_blocks {m : VM} {e s : Nat} (h : RunOk m e s) (n : Int) {k : Nat} (hk : s < k) (hk2 : k ≤ 1000000) {bs : List UInt8} (hb : m.blocks = bs.map rep16) (hl : bs.length = 8) :
    ((wishV m.epoch n (k : Int)).kind = 1 → (doV m (wishV m.epoch n (k : Int))).2.1.err = 0 → (doV m (wishV m.epoch n (k : Int))).2.1.data = rep16 (bs.getD (blockW n).toNat 0)) ∧
    ((doV m (wishV m.epoch n (k : Int))).1.blocks = (if (wishV m.epoch n (k : Int)).kind = 2 ∧ (doV m (wishV m.epoch n (k : Int))).2.1.err = 0 then bs.set (blockW n).toNat (byteW n) else bs).map rep16) := by
  have hbl := blockW_le n
  by_cases hk5 : (wishV m.epoch n (k : Int)).kind = 5
  · refine ⟨fun h1 => by rw [hk5] at h1; omega, ?_⟩
    rw [if_neg (by rw [hk5]; omega), ← hb]
    unfold doV
    rw [if_pos hk5]
    split
    · exact (sealV_last m _).2.2.2
    · rfl
  · have hd := doV_new h n hk hk2 hk5
    obtain ⟨h1, h2, h3, h4, h5⟩ := wishV_of hk5
    generalize wishV m.epoch n (k : Int) = x at *
    rw [hd]
    cases hel : elseV m (epochW m.epoch n : Int) with
    | some a =>
      obtain ⟨q, rfl⟩ := else_some hel
      refine ⟨fun _ he => by simp [errA] at he, ?_⟩
      rw [if_neg (by simp [errA])]
      exact hb
    | none =>
      simp only
      rcases h5 with ⟨h5, h6⟩ | ⟨h5, h6⟩
      · refine ⟨fun _ _ => ?_, ?_⟩
        · simp only [dataA]
          rw [(ran_read h5).2, h3]
          unfold blockV
          rw [hb, List.getD_eq_getElem?_getD, List.getD_eq_getElem?_getD, List.getElem?_map]
          rw [List.getElem?_eq_getElem (by omega)]
          rfl
        · rw [if_neg (by rw [h5]; simp), (ran_read h5).1, ← hb]; rfl
      · refine ⟨fun hk => by rw [h5] at hk; omega, ?_⟩
        rw [if_pos ⟨h5, rfl⟩, (ran_write (by rw [h5]; decide)).1, h3, h6]
        show m.blocks.set _ _ = _
        rw [hb, List.map_set]
theorem turn_blocks (m : VM) : (turnV m).1.blocks = m.blocks := by unfold turnV; split <;> rfl
theorem ran_lastE {m : VM} (hl : m.last.length = 4) {x : Wish} (hj4 : (x.client - 31).toNat < 4) : lastV (ranV m x).1 (x.client - 31).toNat = (x.stamp.toNat, (ranV m x).2) := by
  by_cases hk : x.kind = 1
  · rw [(ran_read hk).1, (ran_read hk).2, setL_last m _ _ _ hl hj4, if_pos rfl]
  · rw [(ran_write hk).1, (ran_write hk).2]
    show lastV (setL m (x.client - 31).toNat (x.stamp.toNat, [])) _ = _
    rw [setL_last m _ _ _ hl hj4, if_pos rfl]
/-- a wish that was done is old -/
theorem doV_again {m : VM} {e s : Nat} (h : RunOk m e s) (he : e ≤ 1000000) (n : Int) {k : Nat} (hk : s < k) (hk2 : k ≤ 1000000) (hk5 : (wishV m.epoch n (k : Int)).kind ≠ 5) (herr : (doV m (wishV m.epoch n (k : Int))).2.1.err = 0) :
    oldV (doV m (wishV m.epoch n (k : Int))).1 (wishV m.epoch n (k : Int)) = some (doV m (wishV m.epoch n (k : Int))).2.1 ∧
    doV (doV m (wishV m.epoch n (k : Int))).1 (wishV m.epoch n (k : Int)) = ((doV m (wishV m.epoch n (k : Int))).1, (doV m (wishV m.epoch n (k : Int))).2.1, 0) ∧
    doV (doV m (wishV m.epoch n (k : Int))).1 (readV (wishV m.epoch n (k : Int)).client (wishV m.epoch n (k : Int)).stamp ((wishV m.epoch n (k : Int)).epoch + 1) 0) = ((doV m (wishV m.epoch n (k : Int))).1, (doV m (wishV m.epoch n (k : Int))).2.1, 0) ∧
    (doV m (wishV m.epoch n (k : Int))).1.epoch = m.epoch ∧ (doV m (wishV m.epoch n (k : Int))).1.group = 1 := by
  have hmay := wishV_may (ep := m.epoch) (n := n) (stamp := (k : Int)) h.ok.epoch (by omega) (by omega)
  have hgr := wishV_group m.epoch n (k : Int)
  have hd := doV_new h n hk hk2 hk5
  obtain ⟨h1, h2, h3, h4, h5⟩ := wishV_of hk5
  have hcl := clientW_le n
  have hwe := epochW_le m.epoch n
  have hme := h.epoch
  generalize wishV m.epoch n (k : Int) = x at *
  cases hel : elseV m (epochW m.epoch n : Int) with
  | some a =>
    obtain ⟨q, rfl⟩ := else_some hel
    rw [hd, hel] at herr
    simp [errA] at herr
  | none =>
    rw [hel] at hd
    simp only at hd
    have hle := ran_lastE h.ok.last (x := x) (by omega)
    have hold : ∀ y : Wish, y.client = x.client → y.stamp = x.stamp → oldV (ranV m x).1 y = some (dataA (ranV m x).2) := fun y hc hs => by
      unfold oldV
      rw [hc, hle]
      simp only
      rw [if_pos (by rw [hs, h1]; omega)]
    have hgm : (ranV m x).1.group = 1 := h.group
    have hin : inV (ranV m x).1 x = true := by
      unfold inV
      rw [hmay, hgr, hgm]; rfl
    have hmr : mayB (readV x.client x.stamp (x.epoch + 1) 0) = true := by
      refine decide_eq_true ?_
      unfold MayP
      refine ⟨by show (0 : Int) ≤ x.epoch + 1; omega, by show x.epoch + 1 ≤ 1048576; omega, .inr ⟨show (1 : Int) ≠ 5 by decide, by show 31 ≤ x.client; omega, by show x.client ≤ 34; omega, by show 1 ≤ x.stamp; omega, by show x.stamp ≤ _; omega, rfl, .inl ⟨.inl ⟨rfl, rfl⟩, show (1 : Int) ≤ 1 by decide, show (1 : Int) ≤ 2 by decide, show (0 : Int) ≤ 0 by decide, show (0 : Int) ≤ 7 by decide, rfl, rfl⟩⟩⟩
    have hir : inV (ranV m x).1 (readV x.client x.stamp (x.epoch + 1) 0) = true := by
      unfold inV
      rw [hmr, hgm]; rfl
    rw [hd]
    refine ⟨hold x rfl rfl, ?_, ?_, rfl, hgm⟩
    · unfold doV
      rw [if_pos hin, if_neg hk5, hold x rfl rfl]
    · unfold doV
      rw [if_pos hir, if_neg (show ¬ (readV x.client x.stamp (x.epoch + 1) 0).kind = 5 from show ¬ (1 : Int) = 5 by decide), hold (readV x.client x.stamp (x.epoch + 1) 0) rfl rfl]
theorem doV_shut (m : VM) (x : Wish) (hk : x.kind ≠ 5) : (doV m x).1.shut = m.shut := by
  unfold doV
  by_cases hin : inV m x = true
  · rw [if_pos hin, if_neg hk]
    cases oldV m x with
    | some a => rfl
    | none =>
      simp only
      cases elseV m x.epoch <;> rfl
  · rw [if_neg hin]
def sealedV (m : VM) : VM := ⟨m.group, m.epoch, m.blocks, m.last, [1, 2, 3, 4]⟩
theorem doV_seal {m : VM} {s : Nat} (h : RunOk m 0 s) (hs : m.shut = []) : doV m (shutV 0) = (sealedV m, okA, 0) := by
  have he : m.epoch = 0 := by have := h.epoch; omega
  have hin : inV m (shutV 0) = true := by
    unfold inV
    rw [show mayB (shutV 0) = true by decide, h.group]; rfl
  have hel : elseV m (shutV 0).epoch = none := by
    unfold elseV
    rw [he, hs]
    rfl
  unfold doV sealV
  rw [if_pos hin, if_pos (show (shutV 0).kind = 5 from rfl), hel]
  simp only
  rw [if_neg (by omega)]
  rfl
theorem sealed_run {m : VM} {s : Nat} (h : RunOk m 0 s) : RunOk (sealedV m) 0 s := by
  refine ⟨⟨h.ok.group, h.ok.epoch, h.ok.blocks, h.ok.block, h.ok.last, h.ok.stamp, .inr ⟨show crewB [1, 2, 3, 4] = true by decide, ?_⟩⟩, h.group, h.epoch, h.stamps⟩
  have := h.epoch
  show m.epoch < 1048576
  omega
theorem sealed_do {m : VM} {s : Nat} (h : RunOk m 0 s) (n : Int) {k : Nat} (hk : s < k) (hk2 : k ≤ 1000000) : doV (sealedV m) (wishV (sealedV m).epoch n (k : Int)) = (sealedV m, errA 171 1, 0) := by
  have hr := sealed_run h
  have he : (sealedV m).epoch = 0 := by have := hr.epoch; omega
  have hin := wishV_in hr (n := n) (stamp := (k : Int)) (by omega) (by omega)
  have hel : ∀ e : Int, e = 0 → elseV (sealedV m) e = some (errA 171 1) := fun e h0 => by
    unfold elseV
    rw [he, h0, if_neg (by simp), if_pos (show 0 < (sealedV m).shut.length from by show 0 < 4; omega)]
  by_cases hk5 : (wishV (sealedV m).epoch n (k : Int)).kind = 5
  · have hz : bringF n 12 = 0 := by
      rw [wishV_kind] at hk5
      split at hk5
      · assumption
      · split at hk5 <;> omega
    have hep : (wishV (sealedV m).epoch n (k : Int)).epoch = 0 := by
      unfold wishV
      rw [if_pos hz]
      show ((epochW (sealedV m).epoch n : Nat) : Int) = 0
      have := epochW_le (sealedV m).epoch n
      omega
    unfold doV sealV
    rw [if_pos hin, if_pos hk5, hel _ hep]
  · have hd := doV_new hr n hk hk2 hk5
    rw [hd, hel _ (by have := epochW_le (sealedV m).epoch n; omega)]
theorem sealed_turn {m : VM} {s : Nat} (h : RunOk m 0 s) : turnV (sealedV m) = (⟨m.group, 1, m.blocks, m.last, []⟩, 0) := by
  have he : m.epoch = 0 := by have := h.epoch; omega
  unfold turnV
  rw [if_neg (show ¬ (sealedV m).shut.length = 0 from by show ¬ 4 = 0; omega)]
  show ((⟨m.group, m.epoch + 1, m.blocks, m.last, []⟩ : VM), 0) = _
  rw [he]
theorem leaves_take12 (m : VM) (e1 e2 : Nat) (s1 s2 : List Int) : (leavesV ⟨m.group, e1, m.blocks, m.last, s1⟩).take 12 = (leavesV ⟨m.group, e2, m.blocks, m.last, s2⟩).take 12 := by
  unfold leavesV
  rw [← List.map_take, ← List.map_take]
  refine List.map_congr_left fun i hi => ?_
  have hi' : i < 12 := by simpa using hi
  unfold leafV
  split
  · rfl
  · rfl

end Go.Proofs.YtfjopbbgcjgpbaaGreat

/- Lists of leaves in memory of their own; contracts of a vault's Leaves and of bastideref16.SameLeaves. -/
namespace Go.Proofs.YtfjopbbgcjgpbaaGreat
set_option linter.unusedVariables false
open Go.RowKit Go.Maps

attribute [local irreducible] wpList wpCalm
theorem sl8_info : (Tryz.prog.info? 31).map (fun i => (i.zero, i.size, i.bytes)) = some (some (.slice none 0 0), 1, 24) := by kernel_rfl
/-- slices of bytes in memory of their own, outer and inner -/
structure OwnL (w : World) (B0 : Nat) (v : Value) (xss : List (List UInt8)) (vs : List Value) : Prop where
  row : w.ownsRow B0 31 1 v xss.length vs
  at_ : ∀ (k : Nat) (x : List UInt8), xss[k]? = some x → ∃ u, vs[k]? = some u ∧ OwnB w B0 u x
theorem ownB_blk {w : World} {B : Nat} {u : Value} {x : List UInt8} (h : OwnB w B u x) {b : Nat} (hb : u.ownBlock = some b) : ∃ cur, Blk w b 5 cur := by
  rcases h.2 with ⟨rfl, _⟩ | ⟨g, cap, cur, rfl, hg, hh, _⟩
  · simp [Value.ownBlock] at hb
  · simp [Value.ownBlock] at hb; subst hb; exact ⟨cur, hh⟩
theorem OwnL.nil (w : World) (B0 : Nat) : OwnL w B0 (.slice none 0 0) [] [] := ⟨World.ownsRow_nil _ _ _ _, fun k x h => by simp at h⟩
theorem OwnL.keep {w w' : World} {B0 : Nat} {v : Value} {xss : List (List UInt8)} {vs : List Value} (h : OwnL w B0 v xss vs) (hk : ∀ b, B0 ≤ b → b < w.heap.size → w'.heap[b]? = w.heap[b]?) : OwnL w' B0 v xss vs :=
  ⟨rowD_keep h.row fun b hb => hk b (rowD_lt h.row hb).1 (rowD_lt h.row hb).2, fun k x hx => by
    obtain ⟨u, h1, h2⟩ := h.at_ k x hx
    exact ⟨u, h1, h2.keep fun b hb => hk b (h2.ge hb) (h2.lt hb)⟩⟩
theorem OwnL.below {w w' : World} {B0 : Nat} {v : Value} {xss : List (List UInt8)} {vs : List Value} (h : OwnL w B0 v xss vs) (hb : Below w.heap.size w w') : OwnL w' B0 v xss vs := h.keep fun b _ hl => hb.block b hl
theorem OwnL.only {w w' : World} {B0 : Nat} {v : Value} {xss : List (List UInt8)} {vs : List Value} {N : Nat → Prop} (h : OwnL w B0 v xss vs) (ho : Only N w w') (hN : ∀ b, N b → b < B0) : OwnL w' B0 v xss vs := h.keep fun b h0 hl => ho.block b hl fun hn => by have := hN b hn; omega
theorem OwnL.slice {w : World} {B0 : Nat} {v : Value} {xss : List (List UInt8)} {vs : List Value} (h : OwnL w B0 v xss vs) : ∃ A c, v = .slice A xss.length c ∧ xss.length ≤ c ∧ c ≤ maxLen ∧ RowsB w w.heap.size A xss.length xss ∧ (∀ a, A = some a → B0 ≤ a.block) := by
  have hr := fun A c (hv : v = .slice A xss.length c) => Reads.of_own (A := A) (c := c) (by rw [← hv]; exact h.row)
  have hrow : ∀ A, Reads w w.heap.size 1 A xss.length vs → RowsB w w.heap.size A xss.length xss := fun A hrd => ⟨rfl, fun h0 => by
    obtain ⟨ad, rfl, hlt, hc⟩ := hrd.2 h0
    refine ⟨ad, rfl, hlt, fun k x hx => ?_⟩
    obtain ⟨u, h1, h2⟩ := h.at_ k x hx
    obtain ⟨Ak, ck, rfl, _, _, h3, _⟩ := own_slice_b h2
    exact ⟨Ak, x.length, ck, hc k _ h1, h3⟩⟩
  rcases h.row.2 with ⟨rfl, h0⟩ | ⟨g, cap, cur, rfl, hg, _, h1, h2, _⟩
  · exact ⟨none, 0, by rw [h0], by omega, by unfold maxLen; omega, hrow _ (hr none 0 (by rw [h0])), fun _ h => by cases h⟩
  · exact ⟨_, cap, rfl, h1, h2, hrow _ (hr _ _ rfl), fun ad h => by injection h with h; subst h; exact hg⟩
/-- one more -/
theorem OwnL.push {w w3 w6 : World} {B0 : Nat} {v v6 u : Value} {xss : List (List UInt8)} {vs : List Value} {x : List UInt8} (h : OwnL w B0 v xss vs) (hb : Below w.heap.size w w3) (hu : OwnB w3 B0 u x) (hown : w6.ownsRow B0 31 1 v6 (xss.length + 1) (vs ++ [u])) (hg : (w3.alloc (.cells #[u] 31)).grownBy w6 v.ownBlock) : OwnL w6 B0 v6 (xss ++ [x]) (vs ++ [u]) := by
  have hl : vs.length = xss.length := by have := h.row.1; omega
  have hal : Below w3.heap.size w3 (w3.alloc (.cells #[u] 31)) := below_lit _ _
  have hkeep : ∀ y z, OwnB w3 B0 y z → OwnB w6 B0 y z := fun y z hy => (hy.below hal).keep fun b hb' => by
    obtain ⟨cur, hcur⟩ := ownB_blk hy hb'
    refine hg.block b (by have := hy.lt hb'; have := hal.size; omega) fun e => ?_
    have hr3 : w3.ownsRow B0 31 1 v xss.length vs := rowD_keep h.row fun b hb'' => hb.block b (rowD_lt h.row hb'').2
    exact own_blk_ne hr3 hcur (by decide) e.symm
  refine ⟨by rw [List.length_append]; exact hown, fun k z hz => ?_⟩
  rcases Nat.lt_or_ge k xss.length with hk | hk
  · rw [List.getElem?_append_left hk] at hz
    obtain ⟨y, h1, h2⟩ := h.at_ k z hz
    exact ⟨y, by rw [List.getElem?_append_left (by omega)]; exact h1, hkeep _ _ (h2.below hb)⟩
  · have hk2 : k = xss.length := by
      rcases Nat.lt_or_ge xss.length k with h1 | h1
      · rw [List.getElem?_eq_none (by simp; omega)] at hz; cases hz
      · omega
    subst hk2
    rw [List.getElem?_append_right (by omega), Nat.sub_self] at hz
    have hzx : x = z := Option.some.inj hz
    subst hzx
    exact ⟨u, by rw [List.getElem?_append_right (by omega), hl, Nat.sub_self]; rfl, hkeep _ _ hu⟩
theorem RowsB.take {w : World} {B n k : Nat} {A : Option Addr} {xss : List (List UInt8)} (h : RowsB w B A n xss) (hk : k ≤ n) (h0 : 0 < k) : RowsB w B A k (xss.take k) :=
  ⟨by rw [List.length_take, h.1]; omega, fun _ => by
    obtain ⟨ad, h1, h2, h3⟩ := h.2 (by omega)
    refine ⟨ad, h1, h2, fun j x hx => h3 j x ?_⟩
    rw [List.getElem?_take] at hx
    split at hx
    · exact hx
    · cases hx⟩

def LvPost (w : World) (m : VM) (e : Ending) (w' : World) : Prop := ∃ v vs, e = .returned v ∧ OwnL w' w.heap.size v (leavesV m) vs ∧ Below w.heap.size w w'
set_option maxRecDepth 100000 in
set_option maxHeartbeats 4000000 in
theorem vLeaves_any (w : World) (V : VLoc) (N : Nat → Prop) (m : VM) (h : VAt w V N m) :
    Calls Tryz.prog 21 #[.pointer (some ⟨V.g, 0, none⟩)] w (LvPost w m) := by
  obtain ⟨S, hd⟩ := h.dat
  have HN := Lib.hid (vNone_any w V.g V.T.t h.none_)
  have HL := Lib.hid (fun (i : Nat) (hi : i < 13) (W : World) (hb : Below w.heap.size w W) => vleaf_any W V.g i _ N m S (hd.below hb) hi)
  have hlen := leavesV_len m
  have HLN := Lib.hid hlen
  obtain ⟨i0, hi0, hz0, hz1, hz2⟩ := info_parts sl8_info
  clear h hd hlen
  go_enter Tryz.func21, Tryz.ntmps21
  go_wp2_with fail
  refine HN.out.mono ?_
  rintro _ _ ⟨rfl, rfl⟩
  go_wp2_with fail
  go_loopw [3, 7] (fun ov iv wr => ∃ (i : Nat) (vs : List Value), i ≤ 13 ∧ iv = .int .i64 i ∧ OwnL wr w.heap.size ov ((leavesV m).take i) vs ∧ Below w.heap.size w wr) (fun _ iv _ => 13 - (intOf iv).toNat)
  case atStart => exact ⟨0, [], by omega, rfl, OwnL.nil _ _, Below.refl _ _⟩
  case round =>
    obtain ⟨i, vs, hi, rfl, hov, hbel⟩ := hrel
    have HOV := Lib.hid hov
    have HB := Lib.hid hbel
    have hsz := hbel.size
    by_cases hin : i < 13
    · have hinI : (i : Int) < 13 := by omega
      have htl : ((leavesV m).take i).length = i := by rw [List.length_take, HLN.out]; omega
      have HTL := Lib.hid htl
      have HLF := Lib.hid (HL.out i hin wr hbel)
      have htk : (leavesV m).take (i + 1) = (leavesV m).take i ++ [leafV m i] := by
        have hl := HLN.out
        have hg := leavesV_get m i hin
        rw [List.getElem?_eq_getElem (by omega)] at hg
        rw [List.take_succ_eq_append_getElem (by omega), Option.some.inj hg]
      have HTK := Lib.hid htk
      clear hov hbel htl htk
      generalize leafV m i = x at HLF HTK
      go_wp2_with fail
      refine HLF.out.mono ?_
      rintro _ w3 ⟨u0, rfl, hu, hb3⟩
      obtain ⟨Au, cu, hue, _⟩ := own_slice_b hu
      subst hue
      obtain ⟨nu, hnu⟩ : ∃ k, k = x.length := ⟨_, rfl⟩
      rw [← hnu] at hu ⊢
      obtain ⟨u, hu0⟩ : ∃ u, u = Value.slice Au nu cu := ⟨_, rfl⟩
      rw [← hu0] at hu
      have HU := Lib.hid (hu.more hsz)
      have HB3 := Lib.hid hb3
      have hs3 := hb3.size
      have hr3 := reads_cells w3 #[u] 31
      have HR3 := Lib.hid hr3
      have HU0 := Lib.hid hu0
      have HW := Lib.hid (show (w3.alloc (.cells #[u] 31)).ownsRow w.heap.size 31 1 _ i vs from by
        have := (rowD_keep HOV.out.row (w' := w3) fun b hb'' => hb3.block b (rowD_lt HOV.out.row hb'').2).alloc (.cells #[u] 31)
        rw [HTL.out] at this
        exact this)
      rw [hu0] at HW HR3
      clear hu hb3 hr3 HLF hnu hu0
      go_wp2_with (at_builtin; go_must (refine wpList_append_any _ rfl (.tmp 10) (.tmp 14) 44 rfl w.heap.size 31 i0 _ 1 24 Tryz.underlying44 hi0 hz0 hz1 hz2 rfl (by omega) _ i vs rfl HW.out (w3.heap.size + 1) (some ⟨w3.heap.size, 0, none⟩) 1 1 [.slice Au nu cu] rfl HR3.out ?c1 ?c2 ?c3 ?c4 ?_))
      case c1 => intro z hz; rw [List.mem_singleton] at hz; subst hz; rfl
      case c2 => unfold maxLen; omega
      case c3 => omega
      case c4 => simp; omega
      intro v6 w6 hown6 hg6 hor6
      rw [← HU0.out] at hown6 hg6
      have ho6 : OwnL w6 w.heap.size v6 ((leavesV m).take (i + 1)) (vs ++ [u]) := by
        rw [HTK.out]
        exact HOV.out.push HB3.out HU.out (by rw [HTL.out]; exact hown6) hg6
      have hb6 : Below w.heap.size w w6 := grown_below ((HB.out.trans (HB3.out.mono hsz)).trans ((below_lit w3 (.cells #[u] 31)).mono (by omega))) (by simp; omega) hg6 (fun b hb => (rowD_lt HOV.out.row hb).1)
      have HO6 := Lib.hid ho6
      have HB6 := Lib.hid hb6
      clear hown6 hg6 hor6 ho6 hb6
      go_wp2_with fail
      go_roundw
      case rel => exact ⟨i + 1, _, by omega, by go_num, HO6.out, HB6.out⟩
      case measure => simp [intOf]; omega
    · obtain rfl : i = 13 := by omega
      have hinI : ¬ (13 : Int) < 13 := by omega
      have he : (leavesV m).take 13 = leavesV m := List.take_of_length_le (by rw [HLN.out]; omega)
      rw [he] at HOV
      clear hov hbel he
      go_wp2_with fail
      go_ret
      exact ⟨_, _, rfl, HOV.out, HB.out⟩

set_option maxRecDepth 100000 in
set_option maxHeartbeats 4000000 in
theorem sameLeaves_any (A A' : Option Addr) (n c n' c' : Nat) (xss yss : List (List UInt8)) (w : World) (B : Nat) (hx : RowsB w B A n xss) (hy : RowsB w B A' n' yss) (hB : B ≤ w.heap.size) (hn : n ≤ 1000000) (hn' : n' ≤ 1000000) (hlx : ∀ x, x ∈ xss → x.length ≤ maxLen) (hly : ∀ x, x ∈ yss → x.length ≤ maxLen) :
    Calls Tryz.prog 22 #[.slice A n c, .slice A' n' c'] w fun e w' => e = .returned (.bool (decide (xss = yss))) ∧ Below w.heap.size w w' := by
  have hxl := hx.1
  have hyl := hy.1
  by_cases hnn : n = n'
  · subst hnn
    have hne : ((n : Int) != (n : Int)) = false := by simp
    have HX := Lib.hid hx
    have HY := Lib.hid hy
    have HLX := Lib.hid hlx
    have HLY := Lib.hid hly
    have HXL := Lib.hid hxl
    have HYL := Lib.hid hyl
    clear hx hy hlx hly hxl hyl
    go_enter Tryz.func22, Tryz.ntmps22
    go_wp2_with fail
    go_loopw [5] (fun iv wr => ∃ i : Nat, i ≤ n ∧ iv = .int .i64 i ∧ xss.take i = yss.take i ∧ Below w.heap.size w wr) (fun iv _ => n - (intOf iv).toNat)
    case atStart => exact ⟨0, by omega, rfl, by simp, Below.refl _ _⟩
    case round =>
      obtain ⟨i, hi, rfl, heq, hbel⟩ := hrel
      have HE := Lib.hid heq
      have HB := Lib.hid hbel
      have hsz := hbel.size
      clear heq
      by_cases hin : i < n
      · have hinI : (i : Int) < (n : Int) := by omega
        have h0I : (0 : Int) ≤ (i : Int) := by omega
        have hix : i < xss.length := by have := HXL.out; omega
        have hiy : i < yss.length := by have := HYL.out; omega
        obtain ⟨ad, rfl, hb1, hc1⟩ := HX.out.2 (by omega)
        obtain ⟨bd, rfl, hb2, hc2⟩ := HY.out.2 (by omega)
        obtain ⟨Ak, mk, ck, q1, q2⟩ := hc1 i _ (List.getElem?_eq_getElem hix)
        obtain ⟨Bk, lk, dk, r1, r2⟩ := hc2 i _ (List.getElem?_eq_getElem hiy)
        have hmk : mk ≤ maxLen := by have := HLX.out _ (List.getElem_mem hix); have := q2.1; simp at this; omega
        have hlk : lk ≤ maxLen := by have := HLY.out _ (List.getElem_mem hiy); have := r2.1; simp at this; omega
        have C1 := Lib.hid (fun (W : World) (hb : Below wr.heap.size wr W) => ((hbel.trans (hb.mono hsz)).cell (show (ad.add i).block < w.heap.size by rw [block_of_add]; omega)).trans q1)
        have C2 := Lib.hid (fun (W : World) (hb : Below wr.heap.size wr W) => ((hbel.trans (hb.mono hsz)).cell (show (bd.add i).block < w.heap.size by rw [block_of_add]; omega)).trans r1)
        have hEq := fun (W : World) (hb : Below wr.heap.size wr W) => eqBytes_any Ak Bk mk lk ck dk xss[i] yss[i] W B B (q2.below ((hbel.trans (hb.mono hsz)).mono hB)) (r2.below ((hbel.trans (hb.mono hsz)).mono hB)) hmk hlk
        have hnx : ∀ (b : Bool), decide (xss[i] = yss[i]) = b → ∀ (W : World) (hb : Below wr.heap.size wr W), Calls Tryz.prog 24 #[.slice Ak mk ck, .slice Bk lk dk] W fun e w' => e = .returned (.bool b) ∧ Below W.heap.size W w' := fun b he W hb => (hEq W hb).mono fun e w' ⟨h1, k, h2⟩ => ⟨by rw [h1, he], by rw [h2]; exact below_drewN (Below.refl _ _) k⟩
        have HNX := Lib.hid hnx
        clear hbel hc1 hc2 q1 q2 r1 r2 hEq hnx
        go_upto_region 6 with fail
        by_cases hq : xss[i] = yss[i]
        · have HQ := Lib.hid hq
          have HCE := Lib.hid (HNX.out true (by rw [decide_eq_true hq]))
          clear hq
          refine wp_region_calm0 9 27 (by kernel_rfl) (by kernel_rfl) (by kernel_rfl) (by simp) ?_
          simp only [List.take_succ_cons, List.take_zero, List.drop_succ_cons, List.drop_zero]
          refine wpCalm_value rfl rfl (.slice (some ad) n c) (fun W _ => rfl) ?_
          try simp only [Act.put, List.setIfInBounds_toArray, List.set_cons_zero, List.set_cons_succ]
          refine wpCalm_value rfl rfl (.int .i64 (i : Int)) (fun W _ => rfl) ?_
          try simp only [Act.put, List.setIfInBounds_toArray, List.set_cons_zero, List.set_cons_succ]
          refine wpCalm_value rfl rfl (.pointer (some (ad.add i))) (fun W _ => by go_simp) ?_
          try simp only [Act.put, List.setIfInBounds_toArray, List.set_cons_zero, List.set_cons_succ]
          refine wpCalm_below rfl rfl (.slice Ak mk ck) (fun W hb => by have := C1.out W hb; go_simp) ?_
          try simp only [Act.put, List.setIfInBounds_toArray, List.set_cons_zero, List.set_cons_succ]
          refine wpCalm_value rfl rfl (.slice (some bd) n c') (fun W _ => rfl) ?_
          try simp only [Act.put, List.setIfInBounds_toArray, List.set_cons_zero, List.set_cons_succ]
          refine wpCalm_value rfl rfl (.int .i64 (i : Int)) (fun W _ => rfl) ?_
          try simp only [Act.put, List.setIfInBounds_toArray, List.set_cons_zero, List.set_cons_succ]
          refine wpCalm_value rfl rfl (.pointer (some (bd.add i))) (fun W _ => by go_simp) ?_
          try simp only [Act.put, List.setIfInBounds_toArray, List.set_cons_zero, List.set_cons_succ]
          refine wpCalm_below rfl rfl (.slice Bk lk dk) (fun W hb => by have := C2.out W hb; go_simp) ?_
          try simp only [Act.put, List.setIfInBounds_toArray, List.set_cons_zero, List.set_cons_succ]
          refine wpCalm_call rfl rfl 24 #[.slice Ak mk ck, .slice Bk lk dk] (fun W => by go_simp) (.bool true) (fun W hb => HCE.out W hb) ?_
          try simp only [Act.put, List.setIfInBounds_toArray, List.set_cons_zero, List.set_cons_succ]
          refine wpCalm_nil ?_
          intro w2 hb2
          have HB2 := Lib.hid (HB.out.trans (hb2.mono hsz))
          clear hb2
          go_wp2_with fail
          go_roundw
          case rel => exact ⟨i + 1, by omega, by go_num, by rw [List.take_succ_eq_append_getElem hix, List.take_succ_eq_append_getElem hiy, HE.out, HQ.out], HB2.out⟩
          case measure => simp [intOf]; omega
        · have HQ := Lib.hid hq
          have HCE := Lib.hid (HNX.out false (by rw [decide_eq_false hq]))
          clear hq
          refine wp_region_calm0 9 27 (by kernel_rfl) (by kernel_rfl) (by kernel_rfl) (by simp) ?_
          simp only [List.take_succ_cons, List.take_zero, List.drop_succ_cons, List.drop_zero]
          refine wpCalm_value rfl rfl (.slice (some ad) n c) (fun W _ => rfl) ?_
          try simp only [Act.put, List.setIfInBounds_toArray, List.set_cons_zero, List.set_cons_succ]
          refine wpCalm_value rfl rfl (.int .i64 (i : Int)) (fun W _ => rfl) ?_
          try simp only [Act.put, List.setIfInBounds_toArray, List.set_cons_zero, List.set_cons_succ]
          refine wpCalm_value rfl rfl (.pointer (some (ad.add i))) (fun W _ => by go_simp) ?_
          try simp only [Act.put, List.setIfInBounds_toArray, List.set_cons_zero, List.set_cons_succ]
          refine wpCalm_below rfl rfl (.slice Ak mk ck) (fun W hb => by have := C1.out W hb; go_simp) ?_
          try simp only [Act.put, List.setIfInBounds_toArray, List.set_cons_zero, List.set_cons_succ]
          refine wpCalm_value rfl rfl (.slice (some bd) n c') (fun W _ => rfl) ?_
          try simp only [Act.put, List.setIfInBounds_toArray, List.set_cons_zero, List.set_cons_succ]
          refine wpCalm_value rfl rfl (.int .i64 (i : Int)) (fun W _ => rfl) ?_
          try simp only [Act.put, List.setIfInBounds_toArray, List.set_cons_zero, List.set_cons_succ]
          refine wpCalm_value rfl rfl (.pointer (some (bd.add i))) (fun W _ => by go_simp) ?_
          try simp only [Act.put, List.setIfInBounds_toArray, List.set_cons_zero, List.set_cons_succ]
          refine wpCalm_below rfl rfl (.slice Bk lk dk) (fun W hb => by have := C2.out W hb; go_simp) ?_
          try simp only [Act.put, List.setIfInBounds_toArray, List.set_cons_zero, List.set_cons_succ]
          refine wpCalm_call rfl rfl 24 #[.slice Ak mk ck, .slice Bk lk dk] (fun W => by go_simp) (.bool false) (fun W hb => HCE.out W hb) ?_
          try simp only [Act.put, List.setIfInBounds_toArray, List.set_cons_zero, List.set_cons_succ]
          refine wpCalm_nil ?_
          intro w2 hb2
          have HB2 := Lib.hid (HB.out.trans (hb2.mono hsz))
          clear hb2
          go_wp2_with fail
          go_ret
          refine ⟨ret_bool ?_, HB2.out⟩
          symm
          rw [decide_eq_false_iff_not]
          rintro rfl
          exact HQ.out rfl
      · obtain rfl : i = n := by omega
        have hinI : ¬ (i : Int) < (i : Int) := by omega
        clear hbel
        go_wp2_with fail
        go_ret
        refine ⟨ret_bool ?_, HB.out⟩
        symm
        rw [decide_eq_true_iff]
        have h1 := HE.out
        rwa [List.take_of_length_le (by have := HXL.out; omega), List.take_of_length_le (by have := HYL.out; omega)] at h1
  · have hne : ((n : Int) != (n' : Int)) = true := by rw [bne_iff_ne]; omega
    have HN := Lib.hid (show xss ≠ yss by rintro rfl; omega)
    clear hnn hx hy hxl hyl hlx hly
    go_enter Tryz.func22, Tryz.ntmps22
    go_wp2_with fail
    go_ret
    exact ⟨ret_bool (by symm; rw [decide_eq_false_iff_not]; exact HN.out), Below.refl _ _⟩

end Go.Proofs.YtfjopbbgcjgpbaaGreat

/- Contract of a vault's New. -/
namespace Go.Proofs.YtfjopbbgcjgpbaaGreat
set_option linter.unusedVariables false
open Go.RowKit Go.Maps

def zer16 : List UInt8 := List.replicate 16 0
/-- a new vault, the first i blocks of which are made -/
def midV (q i : Nat) : VM := ⟨q, 0, List.replicate i zer16 ++ List.replicate (8 - i) [], List.replicate 4 (0, []), []⟩
theorem midV_end (q : Nat) : midV q 8 = newV q := by
  unfold midV newV zer16
  simp
theorem midV_block (q i j : Nat) (hi : i ≤ 8) : blockV (midV q i) j = if j < i then zer16 else [] := by
  unfold blockV midV
  simp only [List.getD_eq_getElem?_getD]
  by_cases h : j < i
  · rw [if_pos h, List.getElem?_append_left (by simpa using h), List.getElem?_replicate, if_pos h]; rfl
  · rw [if_neg h, List.getElem?_append_right (by simpa using h), List.getElem?_replicate]
    split <;> rfl
theorem midV_last (q i j : Nat) : lastV (midV q i) j = (0, []) := by
  unfold lastV midV
  simp only [List.getD_eq_getElem?_getD, List.getElem?_replicate]
  split <;> rfl
def midS (S : VSl) (i g : Nat) : VSl := ⟨fun j => if j = i then some ⟨g, 0, none⟩ else S.bA j, fun j => if j = i then 16 else S.bC j, S.lA, S.lC, S.sA, S.sC⟩
theorem vC_mid (q i g : Nat) (S : VSl) (hi : i < 8) : (vC none (midV q i) S).setIfInBounds (3 + i) (.slice (some ⟨g, 0, none⟩) 16 16) = vC none (midV q (i + 1)) (midS S i g) := by
  apply Array.ext_getElem?
  intro j
  rw [Array.getElem?_setIfInBounds, vC_size]
  rcases Nat.lt_or_ge j 20 with hj | hj
  · rw [vC_at _ _ _ _ hj, vC_at _ _ _ _ hj]
    by_cases h : 3 + i = j
    · subst h
      rw [if_pos rfl, if_pos hj]
      unfold vF
      rw [if_neg (by omega), if_neg (by omega), if_neg (by omega), if_pos (by omega), show 3 + i - 3 = i by omega, midV_block _ _ _ (by omega), if_pos (by omega)]
      simp [midS, zer16]
    · rw [if_neg h]
      unfold vF
      by_cases h0 : j = 0
      · rw [if_pos h0, if_pos h0]
      · rw [if_neg h0, if_neg h0]
        by_cases h1 : j = 1
        · rw [if_pos h1, if_pos h1]; rfl
        · rw [if_neg h1, if_neg h1]
          by_cases h2 : j = 2
          · rw [if_pos h2, if_pos h2]; rfl
          · rw [if_neg h2, if_neg h2]
            by_cases h11 : j < 11
            · rw [if_pos h11, if_pos h11, midV_block _ _ _ (by omega), midV_block _ _ _ (by omega)]
              have : (j - 3 < i) = (j - 3 < i + 1) := by
                apply propext
                omega
              simp only [midS, this, if_neg (show ¬ j - 3 = i by omega)]
            · rw [if_neg h11, if_neg h11]
              simp only [midV_last]
              rfl
  · rw [if_neg (by omega), Array.getElem?_eq_none (by rw [vC_size]; exact hj), Array.getElem?_eq_none (by rw [vC_size]; exact hj)]
def noS : VSl := ⟨fun _ => none, fun _ => 0, fun _ => none, fun _ => 0, none, 0⟩
theorem vC_new (q : Nat) : vC none (midV q 0) noS = #[.pointer none, .int .i64 (q : Int), .int .i64 0, .slice none 0 0, .slice none 0 0, .slice none 0 0, .slice none 0 0, .slice none 0 0, .slice none 0 0, .slice none 0 0, .slice none 0 0, .int .i64 0, .slice none 0 0, .int .i64 0, .slice none 0 0, .int .i64 0, .slice none 0 0, .int .i64 0, .slice none 0 0, .slice none 0 0] := by kernel_rfl
/-- how far New has come -/
structure NewSt (w wr : World) (g q i : Nat) (S : VSl) : Prop where
  blk : Blk wr g 83 (vC none (midV q i) S)
  block : ∀ j, j < i → ∃ g', S.bA j = some ⟨g', 0, none⟩ ∧ g < g' ∧ S.bC j = 16 ∧ Blk wr g' 5 (Array.replicate 16 (.int .u8 0))
  rest : S.lA = noS.lA ∧ S.lC = noS.lC ∧ S.sA = none ∧ S.sC = 0
  low : Below w.heap.size w wr
theorem zer16_row : (zer16.map vb) = (Array.replicate 16 (Value.int .u8 0)).toList := by kernel_rfl
theorem NewSt.done {w wr : World} {g q : Nat} {S : VSl} {k : Book} (h : NewSt w wr g q 8 S) (hg : w.heap.size ≤ g) (hk : k.g < w.heap.size ∧ k.b1 < w.heap.size ∧ k.b2 < w.heap.size) (hq : 1 ≤ q ∧ q ≤ 2) : VDat wr g none (fun b => b = g ∨ k.has b ∨ b < g) (newV q) S := by
  refine ⟨by rw [← midV_end]; exact h.blk, fun i hi => ?_, fun i hi => ?_, ?_, newV_ok q hq.1 hq.2⟩
  · obtain ⟨g', e1, e2, e3, e4⟩ := h.block i hi
    have hb : blockV (newV q) i = zer16 := by rw [← midV_end, midV_block _ _ _ (by omega), if_pos hi]
    rw [hb, e1, e3]
    refine ⟨?_, by simp [zer16, maxLen], fun a _ ha hn => ?_⟩
    · have := reads_blk e4 (n := 16) (by simp)
      rw [zer16_row]
      exact this
    · injection ha with ha
      subst ha
      rcases hn with e | (e | e | e) | e <;> simp only at e <;> omega
  · rw [← midV_end, midV_last, h.rest.1, h.rest.2.1]
    exact Far.nil _ _
  · rw [h.rest.2.2.1, h.rest.2.2.2]
    exact FarN.nil _ _

set_option maxRecDepth 100000 in
set_option maxHeartbeats 4000000 in
theorem vNew_any (k : Book) (L : List (List UInt8)) (asked q : Nat) (w : World) (hbk : BookAt w k L asked) (has : asked ≤ 600000) (hq : 1 ≤ q ∧ q ≤ 2) :
    Calls Tryz.prog 11 #[.pointer (some ⟨k.g, 0, none⟩), .int .i64 (q : Int)] w fun e w' => ∃ (g : Nat) (T : TreeLoc) (w1 : World), e = .returned (.tuple #[.pointer (some ⟨g, 0, none⟩), .int .i64 0]) ∧ w.heap.size ≤ g ∧ g < w1.heap.size ∧ Below w.heap.size w w1 ∧ MadeSt (fun b => b < g) w1 w' g T k L asked (newV q) 13 := by
  have hq1 : ¬ (q : Int) < 1 := by omega
  have hq2 : ¬ (2 : Int) < (q : Int) := by omega
  have hlt := hbk.lt
  have HBK := Lib.hid hbk
  obtain ⟨i0, hi0, hz0, hz1, hz2⟩ := info_parts u8_info
  have hVN := vC_new q
  have hX := below_lit w (.cells (vC none (midV q 0) noS) 83)
  have hk0 : Blk (w.alloc (.cells (vC none (midV q 0) noS) 83)) w.heap.size 83 (vC none (midV q 0) noS) := Blk.newAt rfl
  have hst : NewSt w (w.alloc (.cells (vC none (midV q 0) noS) 83)) w.heap.size q 0 noS := ⟨hk0, fun j hj => by omega, ⟨rfl, rfl, rfl, rfl⟩, hX⟩
  have HST := Lib.hid hst
  have HVN := Lib.hid hVN
  obtain ⟨g, hg⟩ : ∃ g, g = w.heap.size := ⟨_, rfl⟩
  have hgw : w.heap.size ≤ g := by omega
  clear hbk hst hX hk0 hVN
  go_enter Tryz.func11, Tryz.ntmps11
  go_upto_region 4 with fail
  rw [← HVN.out]
  generalize World.alloc w _ = w1 at HST ⊢
  rw [← hg] at HST ⊢
  clear hg HVN
  go_wp2_with fail
  go_loopw [17] (fun iv wr => ∃ (i : Nat) (S : VSl), i ≤ 8 ∧ iv = .int .i64 i ∧ NewSt w wr g q i S) (fun iv _ => 8 - (intOf iv).toNat)
  case atStart => exact ⟨0, noS, by omega, rfl, HST.out⟩
  case round =>
    obtain ⟨i, S, hi, rfl, hst⟩ := hrel
    have HS := Lib.hid hst
    have hgl := hst.blk.lt
    have hsz := hst.low.size
    clear hst
    by_cases hin : i < 8
    · have hinI : (i : Int) < 8 := by omega
      go_upto_region 7 with fail
      refine wp_region_rel' 6 32 (fun jx W v => match jx with
        | 0 => v = .pointer (some ⟨g, 0, none⟩)
        | 1 => v = .int .i64 (i : Int)
        | 2 => ∃ g', v = .slice (some ⟨g', 0, none⟩) 16 16 ∧ wr.heap.size ≤ g' ∧ Blk W g' 5 (Array.replicate 16 (.int .u8 0))
        | 3 => v = .pointer (some ⟨g, 0, none⟩)
        | 4 => v = .pointer (some ⟨g, 3, none⟩)
        | _ => v = .pointer (some ⟨g, 3 + i, none⟩)) [20, 21, 22, 23, 24, 25] (by kernel_rfl) (by kernel_rfl) (by kernel_rfl) (by simp) (by kernel_rfl) (fun jx => ?last) ?heads ?_
      case last =>
        match jx with
        | 0 | 1 | 3 | 4 | jx + 5 => exact Lasts.pure _
        | 2 => exact fun W W' v ⟨g', h1, h2, h3⟩ hb => ⟨g', h1, h2, h3.below' hb⟩
      case heads =>
        simp only [List.take_succ_cons, List.take_zero]
        refine ⟨fun a W hb hkp hd => ?_, fun a W hb hkp hd => ?_, fun a W hb hkp hd => ?_, fun a W hb hkp hd => ?_, fun a W hb hkp hd => ?_, fun a W hb hkp hd => ?_, trivial⟩
        · have e0 : a.tmps[6]?.getD undef = .pointer (some ⟨g, 0, none⟩) := hkp.get (by kernel_rfl) rfl
          exact rel_value rfl (.pointer (some ⟨g, 0, none⟩)) (by go_simp) rfl
        · have e0 : a.tmps[7]?.getD undef = .int .i64 (i : Int) := hkp.get (by kernel_rfl) rfl
          exact rel_value rfl (.int .i64 (i : Int)) (by go_simp) rfl
        · refine rel_exec rfl (.slice (some ⟨W.heap.size, 0, none⟩) 16 16) (W.alloc (.cells (Array.replicate 16 (.int .u8 0)) 5)) (by
            go_simp
            have h := run_make_rowN (P := Tryz.prog) 31 5 i0 _ Tryz.underlying31 hi0 hz0 .i64 .i64 16 16 (by omega) (by rw [hz2]; omega) (by omega) W
            rw [hz1] at h
            rw [show ((16 : Nat) : Int) = 16 from rfl] at h
            rw [h, show madeCells (Value.int .u8 0).cells (16 * 1) = Array.replicate 16 (.int .u8 0) from by kernel_rfl]
            rfl) ((Below.refl _ _).alloc (Nat.le_refl _) _) ⟨W.heap.size, rfl, hb.size, Blk.new W _ _⟩
        · have e0 : a.tmps[20]?.getD undef = .pointer (some ⟨g, 0, none⟩) := (hd 0 (by kernel_rfl)).get 20 rfl rfl
          exact rel_value rfl (.pointer (some ⟨g, 0, none⟩)) (by go_simp) rfl
        · have e0 : a.tmps[23]?.getD undef = .pointer (some ⟨g, 0, none⟩) := (hd 3 (by kernel_rfl)).get 23 rfl rfl
          exact rel_value rfl (.pointer (some ⟨g, 3, none⟩)) (by go_simp) rfl
        · have e0 : a.tmps[24]?.getD undef = .pointer (some ⟨g, 3, none⟩) := (hd 4 (by kernel_rfl)).get 24 rfl rfl
          have e1 : a.tmps[21]?.getD undef = .int .i64 (i : Int) := (hd 1 (by kernel_rfl)).get 21 rfl rfl
          exact rel_value rfl (.pointer (some ⟨g, 3 + i, none⟩)) (by go_simp) rfl
      intro f W hb hd
      obtain ⟨g', h22, hg', hB'⟩ : ∃ g', f 22 = .slice (some ⟨g', 0, none⟩) 16 16 ∧ wr.heap.size ≤ g' ∧ Blk W g' 5 (Array.replicate 16 (.int .u8 0)) := hd 2 (by omega) _ 22 rfl rfl
      have h25 : f 25 = .pointer (some ⟨g, 3 + i, none⟩) := hd 5 (by omega) _ 25 rfl rfl
      have hkW := HS.out.blk.below' hb
      have cc : W.cell? ⟨g, 3 + i, none⟩ = some (.slice (S.bA i) (blockV (midV q i) i).length (S.bC i)) := (hkW.cell _).trans (vC_block _ _ _ i hin)
      have ff := hkW.frozen (3 + i)
      have hB2 := hkW.set_ (3 + i) (.slice (some ⟨g', 0, none⟩) 16 16)
      rw [vC_mid q i g' S hin] at hB2
      have hT2 := Turned.setCell W ⟨g, 3 + i, none⟩ (.slice (some ⟨g', 0, none⟩) 16 16)
      have hst2 : NewSt w (W.setCell ⟨g, 3 + i, none⟩ (.slice (some ⟨g', 0, none⟩) 16 16)) g q (i + 1) (midS S i g') := by
        refine ⟨hB2, fun j hj => ?_, HS.out.rest, hT2.below (HS.out.low.trans (hb.mono hsz)) hgw⟩
        by_cases hji : j = i
        · subst hji
          exact ⟨g', by simp [midS], by omega, by simp [midS], hT2.blk hB' (by simp only; omega)⟩
        · obtain ⟨g'', e1, e2, e3, e4⟩ := HS.out.block j (by omega)
          exact ⟨g'', by simp only [midS, if_neg hji]; exact e1, e2, by simp only [midS, if_neg hji]; exact e3, hT2.blk (e4.below' hb) (by simp only; omega)⟩
      have HST2 := Lib.hid hst2
      simp only [putAll, List.drop_succ_cons, List.drop_zero, h22, h25]
      clear hd hB' hkW hB2 hT2 hst2
      try simp only [Act.put, List.setIfInBounds_toArray, List.set_cons_zero, List.set_cons_succ]
      go_wp2_with fail
      go_roundw
      case rel => exact ⟨i + 1, midS S i g', by omega, by go_num, HST2.out⟩
      case measure => simp [intOf]; omega
    · obtain rfl : i = 8 := by omega
      have hinI : ¬ (8 : Int) < 8 := by omega
      have hd := HS.out.done (k := k) hgw hlt hq
      have HM := Lib.hid (made_any (fun b => b < g) k L asked g (newV q) S wr (HBK.out.below HS.out.low) has hd (by rintro (e | e | e) <;> omega))
      clear hd
      go_wp2_with fail
      refine HM.out.mono ?_
      rintro _ w3 ⟨T, rfl, hms⟩
      have HMS := Lib.hid hms
      clear hms HM
      go_wp2_with fail
      go_ret2
      exact ⟨g, T, wr, rfl, hgw, hgl, HS.out.low, HMS.out⟩

end Go.Proofs.YtfjopbbgcjgpbaaGreat
