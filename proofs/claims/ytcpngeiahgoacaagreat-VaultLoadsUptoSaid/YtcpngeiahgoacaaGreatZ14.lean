/- Parts of the proof, in one text: VaultL, VoA, VaultS, Guard, VoB, NumsP. -/
import Derived.Test.YtcpngeiahgoacaaGreatZ13
import Derived.Test.YtcpngeiahgoacaaGreatZ8
import Derived.Deep.DeepCutAuto
import Derived.Test.YtcpngeiahgoacaaGreatZ11
import Derived.Test.YtcpngeiahgoacaaGreatZ2

/- A vault's fields that Do turns: a client's last wish, a block. -/
namespace Go.Proofs.YtcpngeiahgoacaaGreat
set_option linter.unusedVariables false
open Go.RowKit Go.Maps

def setL (m : VM) (j : Nat) (y : Nat × List UInt8) : VM := ⟨m.group, m.epoch, m.blocks, m.last.set j y, m.shut⟩
def setB (m : VM) (b : Nat) (d : List UInt8) : VM := ⟨m.group, m.epoch, m.blocks.set b d, m.last, m.shut⟩
theorem setL_last (m : VM) (j i : Nat) (y : Nat × List UInt8) (hl : m.last.length = 4) (hj : j < 4) : lastV (setL m j y) i = if i = j then y else lastV m i := by
  unfold lastV setL
  simp only [List.getD_eq_getElem?_getD, List.getElem?_set]
  by_cases h : i = j
  · subst h; rw [if_pos rfl, if_pos (by omega), if_pos rfl]; rfl
  · rw [if_neg (fun e => h e.symm), if_neg h]
theorem setB_block (m : VM) (b i : Nat) (d : List UInt8) (hl : m.blocks.length = 8) (hb : b < 8) : blockV (setB m b d) i = if i = b then d else blockV m i := by
  unfold blockV setB
  simp only [List.getD_eq_getElem?_getD, List.getElem?_set]
  by_cases h : i = b
  · subst h; rw [if_pos rfl, if_pos (by omega), if_pos rfl]; rfl
  · rw [if_neg (fun e => h e.symm), if_neg h]
theorem VOk.setL {m : VM} (h : VOk m) {j : Nat} {y : Nat × List UInt8} (h1 : y.1 ≤ maxN) (h2 : y.2 = [] ∨ y.2.length = 16 ∧ 0 < y.1) : VOk (setL m j y) :=
  ⟨h.group, h.epoch, h.blocks, h.block, by simp [Go.Proofs.YtcpngeiahgoacaaGreat.setL, h.last], fun x hx => by
    rcases List.mem_or_eq_of_mem_set hx with h3 | rfl
    · exact h.stamp x h3
    · exact ⟨h1, h2⟩, h.shut⟩
theorem VOk.setB {m : VM} (h : VOk m) {b : Nat} {d : List UInt8} (hd : d.length = 16) : VOk (setB m b d) :=
  ⟨h.group, h.epoch, by simp [Go.Proofs.YtcpngeiahgoacaaGreat.setB, h.blocks], fun x hx => by
    rcases List.mem_or_eq_of_mem_set hx with h3 | rfl
    · exact h.block x h3
    · exact hd, h.last, h.stamp, h.shut⟩
def sLast (S : VSl) (j : Nat) (A : Option Addr) (c : Nat) : VSl := ⟨S.bA, S.bC, fun i => if i = j then A else S.lA i, fun i => if i = j then c else S.lC i, S.sA, S.sC⟩
def sBlock (S : VSl) (b : Nat) (A : Option Addr) (c : Nat) : VSl := ⟨fun i => if i = b then A else S.bA i, fun i => if i = b then c else S.bC i, S.lA, S.lC, S.sA, S.sC⟩

theorem vC_last {cs : Array Value} {t : Option Addr} {m : VM} {S : VSl} {j st : Nat} {d : List UInt8} {A : Option Addr} {c : Nat} (hl : m.last.length = 4) (hj : j < 4) (hs : cs.size = 20)
    (h1 : cs[11 + j * 2]? = some (.int .i64 (st : Int))) (h2 : cs[11 + j * 2 + 1]? = some (.slice A d.length c)) (hr : ∀ i, i < 20 → i ≠ 11 + j * 2 → i ≠ 11 + j * 2 + 1 → cs[i]? = (vC t m S)[i]?) : cs = vC t (setL m j (st, d)) (sLast S j A c) := by
  refine vC_eq hs ?_ ?_ ?_ (fun i hi => ?_) (fun i hi => ?_) (fun i hi => ?_) ?_
  · rw [hr 0 (by omega) (by omega) (by omega), vC_tree]
  · rw [hr 1 (by omega) (by omega) (by omega), vC_group]; rfl
  · rw [hr 2 (by omega) (by omega) (by omega), vC_epoch]; rfl
  · rw [hr (3 + i) (by omega) (by omega) (by omega), vC_block _ _ _ _ hi]; rfl
  · rw [setL_last m j i _ hl hj]
    by_cases e : i = j
    · subst e; rw [if_pos rfl, h1]
    · rw [if_neg e, hr (11 + i * 2) (by omega) (by omega) (by omega), vC_stamp _ _ _ _ hi]
  · rw [setL_last m j i _ hl hj]
    by_cases e : i = j
    · subst e; rw [if_pos rfl, h2]; simp [sLast]
    · rw [if_neg e, hr (11 + i * 2 + 1) (by omega) (by omega) (by omega), vC_data _ _ _ _ hi]
      simp [sLast, e]
  · rw [hr 19 (by omega) (by omega) (by omega), vC_shut]; rfl
theorem vC_blk {cs : Array Value} {t : Option Addr} {m : VM} {S : VSl} {b : Nat} {d : List UInt8} {A : Option Addr} {c : Nat} (hl : m.blocks.length = 8) (hb : b < 8) (hs : cs.size = 20)
    (h1 : cs[3 + b]? = some (.slice A d.length c)) (hr : ∀ i, i < 20 → i ≠ 3 + b → cs[i]? = (vC t m S)[i]?) : cs = vC t (setB m b d) (sBlock S b A c) := by
  refine vC_eq hs ?_ ?_ ?_ (fun i hi => ?_) (fun i hi => ?_) (fun i hi => ?_) ?_
  · rw [hr 0 (by omega) (by omega), vC_tree]
  · rw [hr 1 (by omega) (by omega), vC_group]; rfl
  · rw [hr 2 (by omega) (by omega), vC_epoch]; rfl
  · rw [setB_block m b i _ hl hb]
    by_cases e : i = b
    · subst e; rw [if_pos rfl, h1]; simp [sBlock]
    · rw [if_neg e, hr (3 + i) (by omega) (by omega), vC_block _ _ _ _ hi]
      simp [sBlock, e]
  · rw [hr (11 + i * 2) (by omega) (by omega), vC_stamp _ _ _ _ hi]; rfl
  · rw [hr (11 + i * 2 + 1) (by omega) (by omega), vC_data _ _ _ _ hi]; rfl
  · rw [hr 19 (by omega) (by omega), vC_shut]; rfl
/-- a client's last wish is turned -/
theorem VDat.setL {w w' : World} {g : Nat} {t : Option Addr} {N : Nat → Prop} {m : VM} {S : VSl} {j st : Nat} {d : List UInt8} {A : Option Addr} {c : Nat} {cs : Array Value} (h : VDat w g t N m S) (hT : Turned g w w') (hN : N g) (hB : Blk w' g 73 cs) (hj : j < 4) (hs : cs.size = 20)
    (h1 : cs[11 + j * 2]? = some (.int .i64 (st : Int))) (h2 : cs[11 + j * 2 + 1]? = some (.slice A d.length c)) (hr : ∀ i, i < 20 → i ≠ 11 + j * 2 → i ≠ 11 + j * 2 + 1 → cs[i]? = (vC t m S)[i]?) (hf : Far w' N A c d) (hst : st ≤ maxN) (hd : d = [] ∨ d.length = 16 ∧ 0 < st) : VDat w' g t N (Go.Proofs.YtcpngeiahgoacaaGreat.setL m j (st, d)) (sLast S j A c) := by
  have ho : Only (fun b => b = g) w w' := Only.of_turned hT rfl
  refine ⟨by rw [← vC_last h.ok.last hj hs h1 h2 hr]; exact hB, fun i hi => ?_, fun i hi => ?_, ?_, h.ok.setL hst hd⟩
  · exact (h.block i hi).only ho (fun b e => e ▸ hN)
  · rw [setL_last m j i _ h.ok.last hj]
    by_cases e : i = j
    · subst e
      rw [if_pos rfl]
      simp only [sLast, if_true]
      exact hf
    · rw [if_neg e]
      simp only [sLast, if_neg e]
      exact (h.last i hi).only ho (fun b e => e ▸ hN)
  · exact h.shut.only ho (fun b e => e ▸ hN)
/-- a block is turned -/
theorem VDat.setB {w w' : World} {g : Nat} {t : Option Addr} {N : Nat → Prop} {m : VM} {S : VSl} {b : Nat} {d : List UInt8} {A : Option Addr} {c : Nat} {cs : Array Value} (h : VDat w g t N m S) (hT : Turned g w w') (hN : N g) (hB : Blk w' g 73 cs) (hb : b < 8) (hs : cs.size = 20)
    (h1 : cs[3 + b]? = some (.slice A d.length c)) (hr : ∀ i, i < 20 → i ≠ 3 + b → cs[i]? = (vC t m S)[i]?) (hf : Far w' N A c d) (hd : d.length = 16) : VDat w' g t N (Go.Proofs.YtcpngeiahgoacaaGreat.setB m b d) (sBlock S b A c) := by
  have ho : Only (fun b => b = g) w w' := Only.of_turned hT rfl
  refine ⟨by rw [← vC_blk h.ok.blocks hb hs h1 hr]; exact hB, fun i hi => ?_, fun i hi => ?_, ?_, h.ok.setB hd⟩
  · rw [setB_block m b i _ h.ok.blocks hb]
    by_cases e : i = b
    · subst e
      rw [if_pos rfl]
      simp only [sBlock, if_true]
      exact hf
    · rw [if_neg e]
      simp only [sBlock, if_neg e]
      exact (h.block i hi).only ho (fun b e => e ▸ hN)
  · exact (h.last i hi).only ho (fun b e => e ▸ hN)
  · exact h.shut.only ho (fun b e => e ▸ hN)
theorem leafV_setL {m : VM} {j : Nat} {y : Nat × List UInt8} (hl : m.last.length = 4) (hj : j < 4) (i : Nat) (hi : i ≠ 8 + j) : leafV (setL m j y) i = leafV m i := by
  unfold leafV
  by_cases h8 : i < 8
  · rw [if_pos h8, if_pos h8]; rfl
  · rw [if_neg h8, if_neg h8]
    by_cases h12 : i < 12
    · rw [if_pos h12, if_pos h12, setL_last m j _ _ hl hj, if_neg (by omega)]
    · rw [if_neg h12, if_neg h12]; rfl
theorem leafV_setB {m : VM} {b : Nat} {d : List UInt8} (hl : m.blocks.length = 8) (hb : b < 8) (i : Nat) (hi : i ≠ b) : leafV (setB m b d) i = leafV m i := by
  unfold leafV
  by_cases h8 : i < 8
  · rw [if_pos h8, if_pos h8, setB_block m b i _ hl hb, if_neg hi]
  · rw [if_neg h8, if_neg h8]; rfl
theorem ran_read {m : VM} {x : Wish} (hk : x.kind = 1) : (ranV m x).1 = setL m (x.client - 31).toNat (x.stamp.toNat, blockV m x.block.toNat) ∧ (ranV m x).2 = blockV m x.block.toNat := by
  unfold ranV setL
  simp only [hk, if_true, and_self]
theorem ran_write {m : VM} {x : Wish} (hk : x.kind ≠ 1) : (ranV m x).1 = setB (setL m (x.client - 31).toNat (x.stamp.toNat, [])) x.block.toNat x.data ∧ (ranV m x).2 = [] := by
  unfold ranV setL setB
  simp only [hk, if_false, and_self]
theorem setB_same {m : VM} {b : Nat} (hb : b < m.blocks.length) : setB m b (blockV m b) = m := by
  obtain ⟨q, e, bl, la, s⟩ := m
  unfold setB blockV
  simp only at hb ⊢
  congr 1
  rw [List.getD_eq_getElem?_getD, List.getElem?_eq_getElem hb]
  exact List.set_getElem_self hb

end Go.Proofs.YtcpngeiahgoacaaGreat

/- Contract of vault.client: what a leaf says of a client. -/
namespace Go.Proofs.YtcpngeiahgoacaaGreat
set_option linter.unusedVariables false
open Go.RowKit Go.Maps

attribute [local irreducible] wpList wpCalm
/-- a client's last wish, as a value -/
def LastVal (w : World) (B : Nat) (D : Array Value) (p : Nat × List UInt8) : Prop := ∃ A c, D = #[.int .i64 (p.1 : Int), .slice A p.2.length c] ∧ OwnB w B (.slice A p.2.length c) p.2
def ClientPost (w : World) (o : Option (Nat × List UInt8)) (e : Ending) (w' : World) : Prop := ∃ D, e = .returned (.tuple #[.agg D, .bool o.isSome]) ∧ LastVal w' w.heap.size D (o.getD (0, [])) ∧ Below w.heap.size w w'
def zLast : Array Value := #[.int .i64 0, .slice none 0 0]
theorem zLast_spl (a b : Value) : spl zLast 0 [a, b] = #[a, b] := rfl
def clBad (k e2 : Nat) (d r2 : List UInt8) : Prop := e2 ≠ 0 ∨ 0 < r2.length ∨ (0 < d.length ∧ (d.length ≠ 16 ∨ k = 0))
instance (k e2 : Nat) (d r2 : List UInt8) : Decidable (clBad k e2 d r2) := by unfold clBad; infer_instance

set_option maxRecDepth 100000 in
set_option maxHeartbeats 4000000 in
theorem vclient_any (A : Option Addr) (n c : Nat) (xs : List UInt8) (w : World) (B : Nat) (h : Reads w B 1 A n (xs.map vb)) (hB : B ≤ w.heap.size) (hc : n ≤ c) (hcm : n ≤ 140737488355328) :
    Calls Tryz.prog 64 #[.slice A n c] w (ClientPost w (clientOf xs)) := by
  have hX := below_lit w (.cells zLast 70)
  have hk0 : Blk (w.alloc (.cells zLast 70)) w.heap.size 70 zLast := Blk.newAt rfl
  have HTN := Lib.hid (takeNum_any A n c xs (w.alloc (.cells zLast 70)) B (h.below (hX.mono hB)) (by have := hX.size; omega) hc hcm)
  have hxn : xs.length = n := by have := h.1; simpa using this
  have hZ : zLast = #[.int .i64 0, .slice none 0 0] := rfl
  obtain ⟨o, ho⟩ : ∃ o, o = clientOf xs := ⟨_, rfl⟩
  have hoe : o = if (tn xs).2.2 ≠ 0 then none else if (ts (tn xs).2.1 16).2.2 ≠ 0 ∨ 0 < (ts (tn xs).2.1 16).2.1.length ∨ (0 < (ts (tn xs).2.1 16).1.length ∧ ((ts (tn xs).2.1 16).1.length ≠ 16 ∨ (tn xs).1 = 0)) then none else some ((tn xs).1, (ts (tn xs).2.1 16).1) := ho
  rw [← ho]
  have htl := tn_len xs
  have htm := tn_num xs
  obtain ⟨p, hp⟩ : ∃ p, p = tn xs := ⟨_, rfl⟩
  rw [← hp] at HTN hoe htl htm
  obtain ⟨k, r, e⟩ := p
  simp only at HTN hoe htl htm
  obtain ⟨q, hq⟩ : ∃ q, q = ts r 16 := ⟨_, rfl⟩
  rw [← hq] at hoe
  have HQ := Lib.hid hq
  have HOE := Lib.hid hoe
  have HX := Lib.hid hX
  have HK := Lib.hid hk0
  have HTL := Lib.hid htl
  obtain ⟨g2, hg2⟩ : ∃ g, g = w.heap.size := ⟨_, rfl⟩
  have hgw : w.heap.size ≤ g2 := by omega
  unfold maxN at htm
  clear h hX hk0 ho hoe hp hq htl
  go_enter Tryz.func64, Tryz.ntmps64
  go_upto_region 1 with fail
  rw [← hZ]
  generalize World.alloc w _ = w1 at HTN HX HK ⊢
  rw [← hg2] at HK ⊢
  have hl := HK.out.lt
  have hs1 := HX.out.size
  clear hg2 hZ
  go_wp2_with fail
  refine HTN.out.mono ?_
  rintro _ w2 ⟨v, rfl, ho, hb2⟩
  obtain ⟨A1, c1, hv, q1, q2, hr1, _⟩ := own_slice_b ho
  subst hv
  have HR1 := Lib.hid hr1
  have HK2 := Lib.hid (HK.out.below' hb2)
  have HX2 := Lib.hid (HX.out.trans (hb2.mono hs1))
  have hs2 := hb2.size
  clear ho hb2 hr1 HTN
  by_cases he : e = 0
  · have heb : ((e : Int) != 0) = false := by simp [he]
    have HTS := Lib.hid (takeStr_any A1 r.length c1 16 r w2 w2.heap.size HR1.out (Nat.le_refl _) q1 (by have := HTL.out; omega) (by omega))
    rw [← HQ.out] at HTS
    obtain ⟨d, r2, e2⟩ := q
    simp only at HTS HOE
    have HTS2 := Lib.hid (show Calls Tryz.prog 61 #[.slice A1 r.length c1, .int .i64 16] w2 _ from HTS.out)
    have hoe2 : o = if clBad k e2 d r2 then none else some (k, d) := by
      have := HOE.out
      rw [if_neg (by omega)] at this
      exact this
    have HOE2 := Lib.hid hoe2
    clear hoe2 HTS
    go_upto_region 4 with fail
    go_wp2_with fail
    refine HTS2.out.mono ?_
    rintro _ w3 ⟨v, v', rfl, hod, hor, hb3⟩
    obtain ⟨A3, c3, hv, q3, q4, hr3, hge3⟩ := own_slice_b hod
    obtain ⟨A4, c4, hv', _, _, _, _⟩ := own_slice_b hor
    subst hv hv'
    have HD3 := Lib.hid hod
    have HK3 := Lib.hid (HK2.out.below' hb3)
    have HX3 := Lib.hid (HX2.out.trans (hb3.mono (by omega)))
    have hs3 := hb3.size
    obtain ⟨dl, hdl⟩ : ∃ k, k = d.length := ⟨_, rfl⟩
    obtain ⟨rl, hrl⟩ : ∃ k, k = r2.length := ⟨_, rfl⟩
    rw [← hdl, ← hrl]
    have HDL := Lib.hid hdl
    have HRL := Lib.hid hrl
    clear hod hor hb3 hr3 HTS2 hdl hrl heb hge3
    by_cases h1 : e2 = 0
    · have h1b : ((e2 : Int) != 0) = false := by simp [h1]
      subst h1
      by_cases h2 : rl = 0
      · subst h2
        by_cases h3 : dl = 0
        · subst h3
          have ho : o = some (k, d) := by
            rw [HOE2.out, if_neg]
            unfold clBad
            rw [← HDL.out, ← HRL.out]
            omega
          subst ho
          go_wp2_with (refine wpList_store_part (o := ⟨none, _, _, _, _, _⟩) rfl 70 (.tmp 2) (.tmp 47) rfl g2 0 #[.int .i64 (k : Int), .slice A3 0 c3] rfl rfl 70 _ HK3.out (by kernel_rfl) (by simp [zLast]) (by simp [Value.oneCell']) ?_; intro w9 hT9 hD9)
          refine bodyPost_ret (results_part2 rfl _ _ g2 2 70 _ _ rfl hD9 Tryz.underlying70 rfl rfl rfl) rfl ⟨_, rfl, ⟨A3, c3, by show _ = #[Value.int .i64 (k : Int), Value.slice A3 d.length c3]; rw [← HDL.out]; exact zLast_spl _ _, ?_⟩, hT9.below HX3.out hgw⟩
          exact (HD3.out.more (by omega)).keep fun b hb => hT9.block b (fun e => by have := HD3.out.ge hb; omega)
        · have h3b : (0 : Int) < (dl : Int) := by omega
          by_cases h4 : dl = 16
          · subst h4
            by_cases h5 : k = 0
            · subst h5
              have ho : o = none := by
                rw [HOE2.out, if_pos]
                unfold clBad
                rw [← HDL.out, ← HRL.out]
                omega
              subst ho
              go_wp2_with (refine wpList_store_part (o := ⟨none, _, _, _, _, _⟩) rfl 70 (.tmp 2) (.tmp 44) rfl g2 0 zLast rfl rfl 70 _ HK3.out (by kernel_rfl) (by simp [zLast]) (by simp [zLast, Value.oneCell']) ?_; intro w9 hT9 hD9)
              refine bodyPost_ret (results_part2 rfl _ _ g2 2 70 _ _ rfl hD9 Tryz.underlying70 rfl rfl rfl) rfl ⟨_, rfl, ⟨none, 0, rfl, OwnB.nil _ _⟩, hT9.below HX3.out hgw⟩
            · have h5b : ((k : Int) == 0) = false := by simpa using h5
              have ho : o = some (k, d) := by
                rw [HOE2.out, if_neg]
                unfold clBad
                rw [← HDL.out, ← HRL.out]
                omega
              subst ho
              go_wp2_with (refine wpList_store_part (o := ⟨none, _, _, _, _, _⟩) rfl 70 (.tmp 2) (.tmp 47) rfl g2 0 #[.int .i64 (k : Int), .slice A3 16 c3] rfl rfl 70 _ HK3.out (by kernel_rfl) (by simp [zLast]) (by simp [Value.oneCell']) ?_; intro w9 hT9 hD9)
              refine bodyPost_ret (results_part2 rfl _ _ g2 2 70 _ _ rfl hD9 Tryz.underlying70 rfl rfl rfl) rfl ⟨_, rfl, ⟨A3, c3, by show _ = #[Value.int .i64 (k : Int), Value.slice A3 d.length c3]; rw [← HDL.out]; exact zLast_spl _ _, ?_⟩, hT9.below HX3.out hgw⟩
              exact (HD3.out.more (by omega)).keep fun b hb => hT9.block b (fun e => by have := HD3.out.ge hb; omega)
          · have h4b : ((dl : Int) != 16) = true := by simp; omega
            have ho : o = none := by
              rw [HOE2.out, if_pos]
              unfold clBad
              rw [← HDL.out, ← HRL.out]
              omega
            subst ho
            go_wp2_with (refine wpList_store_part (o := ⟨none, _, _, _, _, _⟩) rfl 70 (.tmp 2) (.tmp 44) rfl g2 0 zLast rfl rfl 70 _ HK3.out (by kernel_rfl) (by simp [zLast]) (by simp [zLast, Value.oneCell']) ?_; intro w9 hT9 hD9)
            refine bodyPost_ret (results_part2 rfl _ _ g2 2 70 _ _ rfl hD9 Tryz.underlying70 rfl rfl rfl) rfl ⟨_, rfl, ⟨none, 0, rfl, OwnB.nil _ _⟩, hT9.below HX3.out hgw⟩
      · have h2b : (0 : Int) < (rl : Int) := by omega
        have ho : o = none := by
          rw [HOE2.out, if_pos]
          unfold clBad
          rw [← HDL.out, ← HRL.out]
          omega
        subst ho
        go_wp2_with (refine wpList_store_part (o := ⟨none, _, _, _, _, _⟩) rfl 70 (.tmp 2) (.tmp 44) rfl g2 0 zLast rfl rfl 70 _ HK3.out (by kernel_rfl) (by simp [zLast]) (by simp [zLast, Value.oneCell']) ?_; intro w9 hT9 hD9)
        refine bodyPost_ret (results_part2 rfl _ _ g2 2 70 _ _ rfl hD9 Tryz.underlying70 rfl rfl rfl) rfl ⟨_, rfl, ⟨none, 0, rfl, OwnB.nil _ _⟩, hT9.below HX3.out hgw⟩
    · have h1b : ((e2 : Int) != 0) = true := by simpa using h1
      have ho : o = none := by
        rw [HOE2.out, if_pos]
        unfold clBad
        rw [← HDL.out, ← HRL.out]
        omega
      subst ho
      go_wp2_with (refine wpList_store_part (o := ⟨none, _, _, _, _, _⟩) rfl 70 (.tmp 2) (.tmp 44) rfl g2 0 zLast rfl rfl 70 _ HK3.out (by kernel_rfl) (by simp [zLast]) (by simp [zLast, Value.oneCell']) ?_; intro w9 hT9 hD9)
      refine bodyPost_ret (results_part2 rfl _ _ g2 2 70 _ _ rfl hD9 Tryz.underlying70 rfl rfl rfl) rfl ⟨_, rfl, ⟨none, 0, rfl, OwnB.nil _ _⟩, hT9.below HX3.out hgw⟩
  · have heb : ((e : Int) != 0) = true := by simpa using he
    have ho : o = none := by rw [HOE.out, if_pos he]
    subst ho
    go_wp2_with (refine wpList_store_part (o := ⟨none, _, _, _, _, _⟩) rfl 70 (.tmp 2) (.tmp 16) rfl g2 0 zLast rfl rfl 70 _ HK2.out (by kernel_rfl) (by simp [zLast]) (by simp [zLast, Value.oneCell']) ?_; intro w9 hT9 hD9)
    refine bodyPost_ret (results_part2 rfl _ _ g2 2 70 _ _ rfl hD9 Tryz.underlying70 rfl rfl rfl) rfl ⟨_, rfl, ⟨none, 0, rfl, OwnB.nil _ _⟩, hT9.below HX2.out hgw⟩

end Go.Proofs.YtcpngeiahgoacaaGreat

/- Lists of leaves in memory of their own; contracts of a vault's Leaves and of bastideref16.SameLeaves. -/
namespace Go.Proofs.YtcpngeiahgoacaaGreat
set_option linter.unusedVariables false
open Go.RowKit Go.Maps

attribute [local irreducible] wpList wpCalm
theorem sl8_info : (Tryz.prog.info? 22).map (fun i => (i.zero, i.size, i.bytes)) = some (some (.slice none 0 0), 1, 24) := by kernel_rfl
/-- slices of bytes in memory of their own, outer and inner -/
structure OwnL (w : World) (B0 : Nat) (v : Value) (xss : List (List UInt8)) (vs : List Value) : Prop where
  row : w.ownsRow B0 22 1 v xss.length vs
  at_ : ∀ (k : Nat) (x : List UInt8), xss[k]? = some x → ∃ u, vs[k]? = some u ∧ OwnB w B0 u x
theorem ownB_blk {w : World} {B : Nat} {u : Value} {x : List UInt8} (h : OwnB w B u x) {b : Nat} (hb : u.ownBlock = some b) : ∃ cur, Blk w b 5 cur := by
  rcases h.2 with ⟨rfl, _⟩ | ⟨g, cap, cur, rfl, hg, hh, _⟩
  · simp [Value.ownBlock] at hb
  · simp [Value.ownBlock] at hb; subst hb; exact ⟨cur, hh⟩
theorem OwnL.nil (w : World) (B0 : Nat) : OwnL w B0 (.slice none 0 0) [] [] := ⟨World.ownsRow_nil _ _ _ _, fun k x h => by simp at h⟩
theorem OwnL.keep {w w' : World} {B0 : Nat} {v : Value} {xss : List (List UInt8)} {vs : List Value} (h : OwnL w B0 v xss vs) (hk : ∀ b, B0 ≤ b → b < w.heap.size → w'.heap[b]? = w.heap[b]?) : OwnL w' B0 v xss vs :=
  ⟨rowD_keep h.row fun b hb => hk b (rowD_lt h.row hb).1 (rowD_lt h.row hb).2, fun k x hx => by
    obtain ⟨u, h1, h2⟩ := h.at_ k x hx
    exact ⟨u, h1, h2.keep fun b hb => hk b (h2.ge hb) (h2.lt hb)⟩⟩
theorem OwnL.below {w w' : World} {B0 : Nat} {v : Value} {xss : List (List UInt8)} {vs : List Value} (h : OwnL w B0 v xss vs) (hb : Below w.heap.size w w') : OwnL w' B0 v xss vs := h.keep fun b _ hl => hb.block b hl
theorem OwnL.only {w w' : World} {B0 : Nat} {v : Value} {xss : List (List UInt8)} {vs : List Value} {N : Nat → Prop} (h : OwnL w B0 v xss vs) (ho : Only N w w') (hN : ∀ b, N b → b < B0) : OwnL w' B0 v xss vs := h.keep fun b h0 hl => ho.block b hl fun hn => by have := hN b hn; omega
theorem OwnL.slice {w : World} {B0 : Nat} {v : Value} {xss : List (List UInt8)} {vs : List Value} (h : OwnL w B0 v xss vs) : ∃ A c, v = .slice A xss.length c ∧ xss.length ≤ c ∧ c ≤ maxLen ∧ RowsB w w.heap.size A xss.length xss ∧ (∀ a, A = some a → B0 ≤ a.block) := by
  have hr := fun A c (hv : v = .slice A xss.length c) => Reads.of_own (A := A) (c := c) (by rw [← hv]; exact h.row)
  have hrow : ∀ A, Reads w w.heap.size 1 A xss.length vs → RowsB w w.heap.size A xss.length xss := fun A hrd => ⟨rfl, fun h0 => by
    obtain ⟨ad, rfl, hlt, hc⟩ := hrd.2 h0
    refine ⟨ad, rfl, hlt, fun k x hx => ?_⟩
    obtain ⟨u, h1, h2⟩ := h.at_ k x hx
    obtain ⟨Ak, ck, rfl, _, _, h3, _⟩ := own_slice_b h2
    exact ⟨Ak, x.length, ck, hc k _ h1, h3⟩⟩
  rcases h.row.2 with ⟨rfl, h0⟩ | ⟨g, cap, cur, rfl, hg, _, h1, h2, _⟩
  · exact ⟨none, 0, by rw [h0], by omega, by unfold maxLen; omega, hrow _ (hr none 0 (by rw [h0])), fun _ h => by cases h⟩
  · exact ⟨_, cap, rfl, h1, h2, hrow _ (hr _ _ rfl), fun ad h => by injection h with h; subst h; exact hg⟩
/-- one more -/
theorem OwnL.push {w w3 w6 : World} {B0 : Nat} {v v6 u : Value} {xss : List (List UInt8)} {vs : List Value} {x : List UInt8} (h : OwnL w B0 v xss vs) (hb : Below w.heap.size w w3) (hu : OwnB w3 B0 u x) (hown : w6.ownsRow B0 22 1 v6 (xss.length + 1) (vs ++ [u])) (hg : (w3.alloc (.cells #[u] 22)).grownBy w6 v.ownBlock) : OwnL w6 B0 v6 (xss ++ [x]) (vs ++ [u]) := by
  have hl : vs.length = xss.length := by have := h.row.1; omega
  have hal : Below w3.heap.size w3 (w3.alloc (.cells #[u] 22)) := below_lit _ _
  have hkeep : ∀ y z, OwnB w3 B0 y z → OwnB w6 B0 y z := fun y z hy => (hy.below hal).keep fun b hb' => by
    obtain ⟨cur, hcur⟩ := ownB_blk hy hb'
    refine hg.block b (by have := hy.lt hb'; have := hal.size; omega) fun e => ?_
    have hr3 : w3.ownsRow B0 22 1 v xss.length vs := rowD_keep h.row fun b hb'' => hb.block b (rowD_lt h.row hb'').2
    exact own_blk_ne hr3 hcur (by decide) e.symm
  refine ⟨by rw [List.length_append]; exact hown, fun k z hz => ?_⟩
  rcases Nat.lt_or_ge k xss.length with hk | hk
  · rw [List.getElem?_append_left hk] at hz
    obtain ⟨y, h1, h2⟩ := h.at_ k z hz
    exact ⟨y, by rw [List.getElem?_append_left (by omega)]; exact h1, hkeep _ _ (h2.below hb)⟩
  · have hk2 : k = xss.length := by
      rcases Nat.lt_or_ge xss.length k with h1 | h1
      · rw [List.getElem?_eq_none (by simp; omega)] at hz; cases hz
      · omega
    subst hk2
    rw [List.getElem?_append_right (by omega), Nat.sub_self] at hz
    have hzx : x = z := Option.some.inj hz
    subst hzx
    exact ⟨u, by rw [List.getElem?_append_right (by omega), hl, Nat.sub_self]; rfl, hkeep _ _ hu⟩
theorem RowsB.take {w : World} {B n k : Nat} {A : Option Addr} {xss : List (List UInt8)} (h : RowsB w B A n xss) (hk : k ≤ n) (h0 : 0 < k) : RowsB w B A k (xss.take k) :=
  ⟨by rw [List.length_take, h.1]; omega, fun _ => by
    obtain ⟨ad, h1, h2, h3⟩ := h.2 (by omega)
    refine ⟨ad, h1, h2, fun j x hx => h3 j x ?_⟩
    rw [List.getElem?_take] at hx
    split at hx
    · exact hx
    · cases hx⟩

def LvPost (w : World) (m : VM) (e : Ending) (w' : World) : Prop := ∃ v vs, e = .returned v ∧ OwnL w' w.heap.size v (leavesV m) vs ∧ Below w.heap.size w w'
set_option maxRecDepth 100000 in
set_option maxHeartbeats 4000000 in
theorem vLeaves_any (w : World) (V : VLoc) (N : Nat → Prop) (m : VM) (h : VAt w V N m) :
    Calls Tryz.prog 26 #[.pointer (some ⟨V.g, 0, none⟩)] w (LvPost w m) := by
  obtain ⟨S, hd⟩ := h.dat
  have HN := Lib.hid (vNone_any w V.g V.T.t h.none_)
  have HL := Lib.hid (fun (i : Nat) (hi : i < 13) (W : World) (hb : Below w.heap.size w W) => vleaf_any W V.g i _ N m S (hd.below hb) hi)
  have hlen := leavesV_len m
  have HLN := Lib.hid hlen
  obtain ⟨i0, hi0, hz0, hz1, hz2⟩ := info_parts sl8_info
  clear h hd hlen
  go_enter Tryz.func26, Tryz.ntmps26
  go_wp2_with fail
  refine HN.out.mono ?_
  rintro _ _ ⟨rfl, rfl⟩
  go_wp2_with fail
  go_loopw [3, 7] (fun ov iv wr => ∃ (i : Nat) (vs : List Value), i ≤ 13 ∧ iv = .int .i64 i ∧ OwnL wr w.heap.size ov ((leavesV m).take i) vs ∧ Below w.heap.size w wr) (fun _ iv _ => 13 - (intOf iv).toNat)
  case atStart => exact ⟨0, [], by omega, rfl, OwnL.nil _ _, Below.refl _ _⟩
  case round =>
    obtain ⟨i, vs, hi, rfl, hov, hbel⟩ := hrel
    have HOV := Lib.hid hov
    have HB := Lib.hid hbel
    have hsz := hbel.size
    by_cases hin : i < 13
    · have hinI : (i : Int) < 13 := by omega
      have htl : ((leavesV m).take i).length = i := by rw [List.length_take, HLN.out]; omega
      have HTL := Lib.hid htl
      have HLF := Lib.hid (HL.out i hin wr hbel)
      have htk : (leavesV m).take (i + 1) = (leavesV m).take i ++ [leafV m i] := by
        have hl := HLN.out
        have hg := leavesV_get m i hin
        rw [List.getElem?_eq_getElem (by omega)] at hg
        rw [List.take_succ_eq_append_getElem (by omega), Option.some.inj hg]
      have HTK := Lib.hid htk
      clear hov hbel htl htk
      generalize leafV m i = x at HLF HTK
      go_wp2_with fail
      refine HLF.out.mono ?_
      rintro _ w3 ⟨u0, rfl, hu, hb3⟩
      obtain ⟨Au, cu, hue, _⟩ := own_slice_b hu
      subst hue
      obtain ⟨nu, hnu⟩ : ∃ k, k = x.length := ⟨_, rfl⟩
      rw [← hnu] at hu ⊢
      obtain ⟨u, hu0⟩ : ∃ u, u = Value.slice Au nu cu := ⟨_, rfl⟩
      rw [← hu0] at hu
      have HU := Lib.hid (hu.more hsz)
      have HB3 := Lib.hid hb3
      have hs3 := hb3.size
      have hr3 := reads_cells w3 #[u] 22
      have HR3 := Lib.hid hr3
      have HU0 := Lib.hid hu0
      have HW := Lib.hid (show (w3.alloc (.cells #[u] 22)).ownsRow w.heap.size 22 1 _ i vs from by
        have := (rowD_keep HOV.out.row (w' := w3) fun b hb'' => hb3.block b (rowD_lt HOV.out.row hb'').2).alloc (.cells #[u] 22)
        rw [HTL.out] at this
        exact this)
      rw [hu0] at HW HR3
      clear hu hb3 hr3 HLF hnu hu0
      go_wp2_with (at_builtin; go_must (refine wpList_append_any _ rfl (.tmp 10) (.tmp 14) 23 rfl w.heap.size 22 i0 _ 1 24 Tryz.underlying23 hi0 hz0 hz1 hz2 rfl (by omega) _ i vs rfl HW.out (w3.heap.size + 1) (some ⟨w3.heap.size, 0, none⟩) 1 1 [.slice Au nu cu] rfl HR3.out ?c1 ?c2 ?c3 ?c4 ?_))
      case c1 => intro z hz; rw [List.mem_singleton] at hz; subst hz; rfl
      case c2 => unfold maxLen; omega
      case c3 => omega
      case c4 => simp; omega
      intro v6 w6 hown6 hg6 hor6
      rw [← HU0.out] at hown6 hg6
      have ho6 : OwnL w6 w.heap.size v6 ((leavesV m).take (i + 1)) (vs ++ [u]) := by
        rw [HTK.out]
        exact HOV.out.push HB3.out HU.out (by rw [HTL.out]; exact hown6) hg6
      have hb6 : Below w.heap.size w w6 := grown_below ((HB.out.trans (HB3.out.mono hsz)).trans ((below_lit w3 (.cells #[u] 22)).mono (by omega))) (by simp; omega) hg6 (fun b hb => (rowD_lt HOV.out.row hb).1)
      have HO6 := Lib.hid ho6
      have HB6 := Lib.hid hb6
      clear hown6 hg6 hor6 ho6 hb6
      go_wp2_with fail
      go_roundw
      case rel => exact ⟨i + 1, _, by omega, by go_num, HO6.out, HB6.out⟩
      case measure => simp [intOf]; omega
    · obtain rfl : i = 13 := by omega
      have hinI : ¬ (13 : Int) < 13 := by omega
      have he : (leavesV m).take 13 = leavesV m := List.take_of_length_le (by rw [HLN.out]; omega)
      rw [he] at HOV
      clear hov hbel he
      go_wp2_with fail
      go_ret
      exact ⟨_, _, rfl, HOV.out, HB.out⟩

set_option maxRecDepth 100000 in
set_option maxHeartbeats 4000000 in
theorem sameLeaves_any (A A' : Option Addr) (n c n' c' : Nat) (xss yss : List (List UInt8)) (w : World) (B : Nat) (hx : RowsB w B A n xss) (hy : RowsB w B A' n' yss) (hB : B ≤ w.heap.size) (hn : n ≤ 1000000) (hn' : n' ≤ 1000000) (hlx : ∀ x, x ∈ xss → x.length ≤ maxLen) (hly : ∀ x, x ∈ yss → x.length ≤ maxLen) :
    Calls Tryz.prog 15 #[.slice A n c, .slice A' n' c'] w fun e w' => e = .returned (.bool (decide (xss = yss))) ∧ Below w.heap.size w w' := by
  have hxl := hx.1
  have hyl := hy.1
  by_cases hnn : n = n'
  · subst hnn
    have hne : ((n : Int) != (n : Int)) = false := by simp
    have HX := Lib.hid hx
    have HY := Lib.hid hy
    have HLX := Lib.hid hlx
    have HLY := Lib.hid hly
    have HXL := Lib.hid hxl
    have HYL := Lib.hid hyl
    clear hx hy hlx hly hxl hyl
    go_enter Tryz.func15, Tryz.ntmps15
    go_wp2_with fail
    go_loopw [5] (fun iv wr => ∃ i : Nat, i ≤ n ∧ iv = .int .i64 i ∧ xss.take i = yss.take i ∧ Below w.heap.size w wr) (fun iv _ => n - (intOf iv).toNat)
    case atStart => exact ⟨0, by omega, rfl, by simp, Below.refl _ _⟩
    case round =>
      obtain ⟨i, hi, rfl, heq, hbel⟩ := hrel
      have HE := Lib.hid heq
      have HB := Lib.hid hbel
      have hsz := hbel.size
      clear heq
      by_cases hin : i < n
      · have hinI : (i : Int) < (n : Int) := by omega
        have h0I : (0 : Int) ≤ (i : Int) := by omega
        have hix : i < xss.length := by have := HXL.out; omega
        have hiy : i < yss.length := by have := HYL.out; omega
        obtain ⟨ad, rfl, hb1, hc1⟩ := HX.out.2 (by omega)
        obtain ⟨bd, rfl, hb2, hc2⟩ := HY.out.2 (by omega)
        obtain ⟨Ak, mk, ck, q1, q2⟩ := hc1 i _ (List.getElem?_eq_getElem hix)
        obtain ⟨Bk, lk, dk, r1, r2⟩ := hc2 i _ (List.getElem?_eq_getElem hiy)
        have hmk : mk ≤ maxLen := by have := HLX.out _ (List.getElem_mem hix); have := q2.1; simp at this; omega
        have hlk : lk ≤ maxLen := by have := HLY.out _ (List.getElem_mem hiy); have := r2.1; simp at this; omega
        have C1 := Lib.hid (fun (W : World) (hb : Below wr.heap.size wr W) => ((hbel.trans (hb.mono hsz)).cell (show (ad.add i).block < w.heap.size by rw [block_of_add]; omega)).trans q1)
        have C2 := Lib.hid (fun (W : World) (hb : Below wr.heap.size wr W) => ((hbel.trans (hb.mono hsz)).cell (show (bd.add i).block < w.heap.size by rw [block_of_add]; omega)).trans r1)
        have hEq := fun (W : World) (hb : Below wr.heap.size wr W) => eqBytes_any Ak Bk mk lk ck dk xss[i] yss[i] W B B (q2.below ((hbel.trans (hb.mono hsz)).mono hB)) (r2.below ((hbel.trans (hb.mono hsz)).mono hB)) hmk hlk
        have hnx : ∀ (b : Bool), decide (xss[i] = yss[i]) = b → ∀ (W : World) (hb : Below wr.heap.size wr W), Calls Tryz.prog 14 #[.slice Ak mk ck, .slice Bk lk dk] W fun e w' => e = .returned (.bool b) ∧ Below W.heap.size W w' := fun b he W hb => (hEq W hb).mono fun e w' ⟨h1, k, h2⟩ => ⟨by rw [h1, he], by rw [h2]; exact below_drewN (Below.refl _ _) k⟩
        have HNX := Lib.hid hnx
        clear hbel hc1 hc2 q1 q2 r1 r2 hEq hnx
        go_upto_region 6 with fail
        by_cases hq : xss[i] = yss[i]
        · have HQ := Lib.hid hq
          have HCE := Lib.hid (HNX.out true (by rw [decide_eq_true hq]))
          clear hq
          refine wp_region_calm0 9 27 (by kernel_rfl) (by kernel_rfl) (by kernel_rfl) (by simp) ?_
          simp only [List.take_succ_cons, List.take_zero, List.drop_succ_cons, List.drop_zero]
          refine wpCalm_value rfl rfl (.slice (some ad) n c) (fun W _ => rfl) ?_
          try simp only [Act.put, List.setIfInBounds_toArray, List.set_cons_zero, List.set_cons_succ]
          refine wpCalm_value rfl rfl (.int .i64 (i : Int)) (fun W _ => rfl) ?_
          try simp only [Act.put, List.setIfInBounds_toArray, List.set_cons_zero, List.set_cons_succ]
          refine wpCalm_value rfl rfl (.pointer (some (ad.add i))) (fun W _ => by go_simp) ?_
          try simp only [Act.put, List.setIfInBounds_toArray, List.set_cons_zero, List.set_cons_succ]
          refine wpCalm_below rfl rfl (.slice Ak mk ck) (fun W hb => by have := C1.out W hb; go_simp) ?_
          try simp only [Act.put, List.setIfInBounds_toArray, List.set_cons_zero, List.set_cons_succ]
          refine wpCalm_value rfl rfl (.slice (some bd) n c') (fun W _ => rfl) ?_
          try simp only [Act.put, List.setIfInBounds_toArray, List.set_cons_zero, List.set_cons_succ]
          refine wpCalm_value rfl rfl (.int .i64 (i : Int)) (fun W _ => rfl) ?_
          try simp only [Act.put, List.setIfInBounds_toArray, List.set_cons_zero, List.set_cons_succ]
          refine wpCalm_value rfl rfl (.pointer (some (bd.add i))) (fun W _ => by go_simp) ?_
          try simp only [Act.put, List.setIfInBounds_toArray, List.set_cons_zero, List.set_cons_succ]
          refine wpCalm_below rfl rfl (.slice Bk lk dk) (fun W hb => by have := C2.out W hb; go_simp) ?_
          try simp only [Act.put, List.setIfInBounds_toArray, List.set_cons_zero, List.set_cons_succ]
          refine wpCalm_call rfl rfl 14 #[.slice Ak mk ck, .slice Bk lk dk] (fun W => by go_simp) (.bool true) (fun W hb => HCE.out W hb) ?_
          try simp only [Act.put, List.setIfInBounds_toArray, List.set_cons_zero, List.set_cons_succ]
          refine wpCalm_nil ?_
          intro w2 hb2
          have HB2 := Lib.hid (HB.out.trans (hb2.mono hsz))
          clear hb2
          go_wp2_with fail
          go_roundw
          case rel => exact ⟨i + 1, by omega, by go_num, by rw [List.take_succ_eq_append_getElem hix, List.take_succ_eq_append_getElem hiy, HE.out, HQ.out], HB2.out⟩
          case measure => simp [intOf]; omega
        · have HQ := Lib.hid hq
          have HCE := Lib.hid (HNX.out false (by rw [decide_eq_false hq]))
          clear hq
          refine wp_region_calm0 9 27 (by kernel_rfl) (by kernel_rfl) (by kernel_rfl) (by simp) ?_
          simp only [List.take_succ_cons, List.take_zero, List.drop_succ_cons, List.drop_zero]
          refine wpCalm_value rfl rfl (.slice (some ad) n c) (fun W _ => rfl) ?_
          try simp only [Act.put, List.setIfInBounds_toArray, List.set_cons_zero, List.set_cons_succ]
          refine wpCalm_value rfl rfl (.int .i64 (i : Int)) (fun W _ => rfl) ?_
          try simp only [Act.put, List.setIfInBounds_toArray, List.set_cons_zero, List.set_cons_succ]
          refine wpCalm_value rfl rfl (.pointer (some (ad.add i))) (fun W _ => by go_simp) ?_
          try simp only [Act.put, List.setIfInBounds_toArray, List.set_cons_zero, List.set_cons_succ]
          refine wpCalm_below rfl rfl (.slice Ak mk ck) (fun W hb => by have := C1.out W hb; go_simp) ?_
          try simp only [Act.put, List.setIfInBounds_toArray, List.set_cons_zero, List.set_cons_succ]
          refine wpCalm_value rfl rfl (.slice (some bd) n c') (fun W _ => rfl) ?_
          try simp only [Act.put, List.setIfInBounds_toArray, List.set_cons_zero, List.set_cons_succ]
          refine wpCalm_value rfl rfl (.int .i64 (i : Int)) (fun W _ => rfl) ?_
          try simp only [Act.put, List.setIfInBounds_toArray, List.set_cons_zero, List.set_cons_succ]
          refine wpCalm_value rfl rfl (.pointer (some (bd.add i))) (fun W _ => by go_simp) ?_
          try simp only [Act.put, List.setIfInBounds_toArray, List.set_cons_zero, List.set_cons_succ]
          refine wpCalm_below rfl rfl (.slice Bk lk dk) (fun W hb => by have := C2.out W hb; go_simp) ?_
          try simp only [Act.put, List.setIfInBounds_toArray, List.set_cons_zero, List.set_cons_succ]
          refine wpCalm_call rfl rfl 14 #[.slice Ak mk ck, .slice Bk lk dk] (fun W => by go_simp) (.bool false) (fun W hb => HCE.out W hb) ?_
          try simp only [Act.put, List.setIfInBounds_toArray, List.set_cons_zero, List.set_cons_succ]
          refine wpCalm_nil ?_
          intro w2 hb2
          have HB2 := Lib.hid (HB.out.trans (hb2.mono hsz))
          clear hb2
          go_wp2_with fail
          go_ret
          refine ⟨ret_bool ?_, HB2.out⟩
          symm
          rw [decide_eq_false_iff_not]
          rintro rfl
          exact HQ.out rfl
      · obtain rfl : i = n := by omega
        have hinI : ¬ (i : Int) < (i : Int) := by omega
        clear hbel
        go_wp2_with fail
        go_ret
        refine ⟨ret_bool ?_, HB.out⟩
        symm
        rw [decide_eq_true_iff]
        have h1 := HE.out
        rwa [List.take_of_length_le (by have := HXL.out; omega), List.take_of_length_le (by have := HYL.out; omega)] at h1
  · have hne : ((n : Int) != (n' : Int)) = true := by rw [bne_iff_ne]; omega
    have HN := Lib.hid (show xss ≠ yss by rintro rfl; omega)
    clear hnn hx hy hxl hyl hlx hly
    go_enter Tryz.func15, Tryz.ntmps15
    go_wp2_with fail
    go_ret
    exact ⟨ret_bool (by symm; rw [decide_eq_false_iff_not]; exact HN.out), Below.refl _ _⟩

end Go.Proofs.YtcpngeiahgoacaaGreat

/- A guarded load of a struct. -/
namespace Go.Proofs.YtcpngeiahgoacaaGreat
set_option linter.unusedVariables false
open Go.RowKit

theorem wpList_load_guarded {P : Program} {ops : Array Oper} {rest : List Oper} {o : Oper} {a : Act} {w : World} {Q : Exit → Act → World → Prop} (hw : Region.wanted o (yielded ops a.tmps) = true) (ty : TypeId) (x : Operand) (ho : o.op = .load ty x)
    (g off n : Nat) (hx : a.eval x = .pointer (some ⟨g, off, none⟩)) (t : TypeId) (cs vs : Array Value) (d : TypeDesc) (hB : Blk w g t cs)
    (hu : P.underlying ty = some d) (hd : (match d with | .struct _ | .array _ _ => true | _ => false) = true) (hi : (P.info? ty).map (·.size) = some n)
    (hn : vs.size = n) (hv : ∀ j, j < n → cs[off + j]? = vs[j]?)
    (h : wpList P ops Q rest (a.put o.dst (.agg vs)) w) : wpList P ops Q (o :: rest) a w := by
  unfold wpList
  rw [if_pos hw]
  exact .inl (wp_load_part ty x ho g off n hx t cs vs d hB hu hd hi hn hv h)
theorem wpList_exec_want {P : Program} {ops : Array Oper} {rest : List Oper} {o : Oper} {a : Act} {w : World} {Q : Exit → Act → World → Prop} (hw : Region.wanted o (yielded ops a.tmps) = true) (v : Value)
    (he : (execOp a.eval o).run P w = .ok (.value v) w) (h : wpList P ops Q rest (a.put o.dst v) w) : wpList P ops Q (o :: rest) a w := by
  unfold wpList
  rw [if_pos hw]
  refine .inl ?_
  unfold Oper.wp
  rw [he]
  exact h

end Go.Proofs.YtcpngeiahgoacaaGreat

/- Contract of vault.sealing (the parse): what the last leaf says. -/
namespace Go.Proofs.YtcpngeiahgoacaaGreat
set_option linter.unusedVariables false
open Go.RowKit Go.Maps

attribute [local irreducible] wpList wpCalm
def nI (l : List Nat) : List Int := l.map (fun n : Nat => (n : Int))
theorem nI_len (l : List Nat) : (nI l).length = l.length := by simp [nI]
def SealPost (w : World) (o : Option (List Nat)) (e : Ending) (w' : World) : Prop := ∃ v ys, e = .returned (.tuple #[v, .bool o.isSome]) ∧ OwnN w' w.heap.size v ys ∧ (∀ l, o = some l → ys = nI l) ∧ Below w.heap.size w w'
theorem OwnN.nil_ (w : World) (B : Nat) : OwnN w B (.slice none 0 0) [] := ⟨by simp, .inl ⟨rfl, by simp⟩⟩
theorem OwnN.keep_ {w w' : World} {B : Nat} {v : Value} {xs : List Int} (h : OwnN w B v xs) (hk : ∀ b, v.ownBlock = some b → w'.heap[b]? = w.heap[b]?) : OwnN w' B v xs := rowD_keep h hk
theorem OwnN.below_ {w w' : World} {B : Nat} {v : Value} {xs : List Int} (h : OwnN w B v xs) (hb : Below w.heap.size w w') : OwnN w' B v xs := h.keep_ fun b hb' => hb.block b (rowD_lt h hb').2
/-- how far the parse has come -/
structure PsSt (w : World) (xs : List UInt8) (n0 : Nat) (A : Option Addr) (n c : Nat) (lv : Value) (rest : List UInt8) (done : List Nat) (wr : World) : Prop where
  rd : Reads wr wr.heap.size 1 A n (rest.map vb)
  cap : n ≤ c
  own : OwnN wr w.heap.size lv (nI done)
  len : done.length + n ≤ n0
  num : numsV xs = (numsV rest).map (fun l => done ++ l)
  max : ∀ x, x ∈ done → x ≤ maxN
  low : Below w.heap.size w wr
/-- what is wrong with the numbers, but for the nodes -/
def badS (l : List Nat) : Prop := l.length < 3 ∨ l.getD 0 0 < 1 ∨ 2 < l.getD 0 0 ∨ 1048576 < l.getD 1 0 ∨ l.getD 2 0 + 3 ≠ l.length ∨ (l.getD 1 0 = 1048576 ∧ 0 < l.getD 2 0)
instance (l : List Nat) : Decidable (badS l) := by unfold badS; infer_instance
theorem badS_not {l : List Nat} (h : badS l) : ¬ goodSeal l := by
  unfold badS at h
  unfold goodSeal
  rintro ⟨h1, h2, h3, h4, h5, h6, h7⟩
  rcases h with e | e | e | e | e | e
  · omega
  · omega
  · omega
  · omega
  · omega
  · exact h6 e
theorem badS_good {l : List Nat} (h : ¬ badS l) : goodSeal l ↔ (l.length = 3 ∨ crewB (nI (l.drop 3)) = true) := by
  unfold badS at h
  unfold goodSeal nI
  constructor
  · exact fun hh => hh.2.2.2.2.2.2
  · intro h7
    refine ⟨by omega, by omega, by omega, by omega, by omega, fun e => h ?_, h7⟩
    exact .inr (.inr (.inr (.inr (.inr e))))
def parseWish (g : Nat) (l : List Int) : Wish := ⟨0, 0, (g : Int), 0, 5, 0, [], 0, 0, l⟩
theorem parseWish_may {g : Nat} (h1 : 1 ≤ g) (h2 : g ≤ 2) (l : List Int) : mayB (parseWish g l) = crewB l := by
  rw [Bool.eq_iff_iff]
  unfold mayB
  rw [decide_eq_true_eq]
  unfold MayP
  constructor
  · rintro ⟨_, _, h | h⟩
    · exact h.2.2.2.2.2.2.2.2.2
    · exact absurd rfl h.1
  · intro h
    exact ⟨show (0 : Int) ≤ 0 by decide, show (0 : Int) ≤ 1048576 by decide, .inl ⟨rfl, rfl, rfl, rfl, rfl, rfl, rfl, by show (1 : Int) ≤ (g : Int); omega, by show (g : Int) ≤ 2; omega, h⟩⟩

set_option maxRecDepth 100000 in
set_option maxHeartbeats 8000000 in
theorem vparse_any (A : Option Addr) (n c : Nat) (xs : List UInt8) (w : World) (B : Nat) (h : Reads w B 1 A n (xs.map vb)) (hB : B ≤ w.heap.size) (hc : n ≤ c) (hn : n ≤ 1000000000000) :
    Calls Tryz.prog 65 #[.slice A n c] w (SealPost w (sealOf xs)) := by
  obtain ⟨o, ho⟩ : ∃ o, o = sealOf xs := ⟨_, rfl⟩
  rw [← ho]
  have HO := Lib.hid ho
  have HST := Lib.hid (show PsSt w xs n A n c (.slice none 0 0) xs [] w from ⟨h.more hB, hc, OwnN.nil_ _ _, by simp, by cases numsV xs <;> rfl, fun x hx => by simp at hx, Below.refl _ _⟩)
  obtain ⟨i0, hi0, hz0, hz1, hz2⟩ := info_parts ci_info
  obtain ⟨n0, hn0⟩ : ∃ k, k = n := ⟨_, rfl⟩
  rw [← hn0] at hn
  have HST2 := Lib.hid (show PsSt w xs n0 A n c (.slice none 0 0) xs [] w from hn0 ▸ HST.out)
  clear h ho HST hc hn0
  go_enter Tryz.func65, Tryz.ntmps65
  go_wp2_with fail
  go_loopw [0, 2] (fun bv lv wr => ∃ (A : Option Addr) (n c : Nat) (rest : List UInt8) (done : List Nat), bv = .slice A n c ∧ PsSt w xs n0 A n c lv rest done wr) (fun bv _ _ => (match bv with | .slice _ n _ => n | _ => 0))
  case atStart => exact ⟨_, _, _, _, _, rfl, HST2.out⟩
  case round =>
    obtain ⟨A, n, c, rest, done, rfl, hps⟩ := hrel
    have HPS := Lib.hid hps
    have hrl : rest.length = n := by have := hps.rd.1; simpa using this
    have HRL := Lib.hid hrl
    have hsz := hps.low.size
    have hlen := hps.len
    clear hps hrl
    by_cases h0 : n = 0
    · subst h0
      have hre : rest = [] := List.eq_nil_of_length_eq_zero (by have := HRL.out; omega)
      have hnum : numsV xs = some done := by
        have := HPS.out.num
        rw [hre] at this
        rw [this]
        simp [numsV_nil]
      have hoe : o = if goodSeal done then some done else none := by
        rw [HO.out]; unfold sealOf; rw [hnum]
      have HOE := Lib.hid hoe
      have HOWN := Lib.hid HPS.out.own
      have HMAX := Lib.hid HPS.out.max
      have HLOW := Lib.hid HPS.out.low
      obtain ⟨m, hm⟩ : ∃ m, m = done.length := ⟨_, rfl⟩
      have HM := Lib.hid hm
      have hml : m ≤ n0 := by omega
      clear hre hnum hoe HPS HRL HO hlen hm
      by_cases h3 : m < 3
      · have h3b : (m : Int) < 3 := by omega
        have ho : o = none := by rw [HOE.out, if_neg (badS_not (.inl (by rw [← HM.out]; exact h3)))]
        obtain ⟨Al, cl, hlv, _⟩ := own_slice_n HOWN.out
        rw [nI_len, ← HM.out] at hlv
        subst hlv
        subst ho
        go_wp2_with fail
        go_ret2
        exact ⟨_, [], rfl, OwnN.nil_ _ _, (fun l hl => by cases hl), HLOW.out⟩
      · have h3b : ¬ (m : Int) < 3 := by omega
        obtain ⟨g, cl, hlv, hgw, hcl, hrd⟩ : ∃ g cl, u2 = .slice (some ⟨g, 0, none⟩) m cl ∧ w.heap.size ≤ g ∧ m ≤ cl ∧ Reads wr wr.heap.size 1 (some ⟨g, 0, none⟩) m ((nI done).map vn) := by
          have hown := HOWN.out
          obtain ⟨Al, cl, hlv, q1, _, q3, q4⟩ := own_slice_n hown
          rw [nI_len, ← HM.out] at hlv q1 q3
          rcases hown.2 with ⟨hv, h0'⟩ | ⟨g, cap, cur, hv, hg, _⟩
          · rw [nI_len, ← HM.out] at h0'; omega
          · rw [nI_len, ← HM.out] at hv
            rw [hv] at hlv
            injection hlv with e1 e2 e3
            exact ⟨g, cl, by rw [hv, e3], hg, q1, e1 ▸ q3⟩
        subst hlv
        have cell : ∀ j, j < m → wr.cell? ⟨g, j, none⟩ = some (.int .i64 ((done.getD j 0 : Nat) : Int)) := fun j hj => by
          obtain ⟨ad, hA, _, hc⟩ := hrd.2 (by omega)
          injection hA with hA
          subst hA
          have := hc j (.int .i64 ((done.getD j 0 : Nat) : Int)) (by
            have hjd : j < done.length := by rw [← HM.out]; exact hj
            unfold nI
            rw [List.getElem?_map, List.getElem?_map, List.getElem?_eq_getElem hjd, List.getD_eq_getElem?_getD, List.getElem?_eq_getElem hjd]; rfl)
          rw [add_off, Nat.zero_add] at this
          exact this
        have c0 := cell 0 (by omega)
        have c1 := cell 1 (by omega)
        have c2 := cell 2 (by omega)
        have HRD := Lib.hid hrd
        obtain ⟨l0, hl0⟩ : ∃ k, k = done.getD 0 0 := ⟨_, rfl⟩
        obtain ⟨l1, hl1⟩ : ∃ k, k = done.getD 1 0 := ⟨_, rfl⟩
        obtain ⟨l2, hl2⟩ : ∃ k, k = done.getD 2 0 := ⟨_, rfl⟩
        rw [← hl0] at c0
        rw [← hl1] at c1
        rw [← hl2] at c2
        have HBD := Lib.hid (show badS done ↔ (l0 < 1 ∨ 2 < l0 ∨ 1048576 < l1 ∨ l2 + 3 ≠ m ∨ (l1 = 1048576 ∧ 0 < l2)) from by
          unfold badS
          rw [← hl0, ← hl1, ← hl2, ← HM.out]
          omega)
        have HL0 := Lib.hid hl0
        have C0 := Lib.hid c0
        have hgc : 0 < m := by omega
        have hgc1 : 1 < m := by omega
        have hgc2 : 2 < m := by omega
        have hgcI : (0 : Int) < (m : Int) := by omega
        have hgc1I : (1 : Int) < (m : Int) := by omega
        have hgc2I : (2 : Int) < (m : Int) := by omega
        clear cell hrd hl0 hl1 hl2
        go_upto_region 7 with fail
        go_cut [65] (fun s65 wx => s65 = .bool (decide (badS done)) ∧ wx = wr)
        case first =>
          by_cases b0 : l0 < 1
          · have b0b : (l0 : Int) < 1 := by omega
            go_wp2_with fail
            go_meet
            exact ⟨by rw [decide_eq_true (HBD.out.2 (by omega))], rfl⟩
          · have b0b : ¬ (l0 : Int) < 1 := by omega
            by_cases b1 : 2 < l0
            · have b1b : (2 : Int) < (l0 : Int) := by omega
              go_wp2_with fail
              go_meet
              exact ⟨by rw [decide_eq_true (HBD.out.2 (by omega))], rfl⟩
            · have b1b : ¬ (2 : Int) < (l0 : Int) := by omega
              by_cases b2 : 1048576 < l1
              · have b2b : (1048576 : Int) < (l1 : Int) := by omega
                go_wp2_with fail
                go_meet
                exact ⟨by rw [decide_eq_true (HBD.out.2 (by omega))], rfl⟩
              · have b2b : ¬ (1048576 : Int) < (l1 : Int) := by omega
                by_cases b3 : l2 + 3 = m
                · have b3b : ((l2 : Int) != (m : Int) - 3) = false := by simp; omega
                  have B3 := Lib.hid b3
                  clear b3
                  by_cases b4 : l1 = 1048576
                  · have b4b : ((l1 : Int) == 1048576) = true := by simp [b4]
                    have B4 := Lib.hid b4
                    clear b4
                    by_cases b5 : 0 < l2
                    · have b5b : (0 : Int) < (l2 : Int) := by omega
                      go_wp2_with fail
                      go_meet
                      exact ⟨by rw [decide_eq_true (HBD.out.2 (by have := B3.out; have := B4.out; omega))], rfl⟩
                    · have b5b : ¬ (0 : Int) < (l2 : Int) := by omega
                      go_wp2_with fail
                      go_meet
                      exact ⟨by rw [decide_eq_false (fun hh => by have := HBD.out.1 hh; have := B3.out; omega)], rfl⟩
                  · have b4b : ((l1 : Int) == 1048576) = false := by simp; omega
                    go_wp2_with fail
                    go_meet
                    exact ⟨by rw [decide_eq_false (fun hh => by have := HBD.out.1 hh; have := B3.out; omega)], rfl⟩
                · have b3b : ((l2 : Int) != (m : Int) - 3) = true := by simp; omega
                  go_wp2_with fail
                  go_meet
                  exact ⟨by rw [decide_eq_true (HBD.out.2 (by omega))], rfl⟩
        case rest =>
          obtain ⟨rfl, rfl⟩ := hcut
          by_cases hbad : badS done
          · have ho : o = none := by rw [HOE.out, if_neg (badS_not hbad)]
            rw [decide_eq_true hbad]
            subst ho
            clear c0 c1 c2
            go_wp2_with fail
            go_ret2
            exact ⟨_, [], rfl, OwnN.nil_ _ _, (fun l hl => by cases hl), HLOW.out⟩
          · have hgs := badS_good hbad
            have hlb : ¬ (l0 < 1 ∨ 2 < l0 ∨ 1048576 < l1 ∨ l2 + 3 ≠ m ∨ (l1 = 1048576 ∧ 0 < l2)) := fun hh => hbad (HBD.out.2 hh)
            have hl01 : 1 ≤ l0 ∧ l0 ≤ 2 := by omega
            rw [decide_eq_false hbad]
            clear c0 c1 c2
            have HSF := Lib.hid (fun (W : World) => run_slice_from (P := Tryz.prog) (t := 42) (e := 3) Tryz.underlying42 (by kernel_rfl) (some ⟨g, 0, none⟩) m cl 3 3 rfl (by omega) W)
            obtain ⟨A7, hA7⟩ : ∃ A7, A7 = (if cl = 3 then (some (⟨g, 0, none⟩ : Addr)) else (some (⟨g, 0, none⟩ : Addr)).map (·.add 3)) := ⟨_, rfl⟩
            rw [← hA7] at HSF
            have hrdn : Reads wc wc.heap.size 1 A7 (m - 3) ((nI (done.drop 3)).map vn) := by
              have := HRD.out.sub (l := 3) (k := m) (cap := cl) (by omega) (Nat.le_refl _) hcl
              rw [Nat.mul_one, Nat.mul_one] at this
              rw [← hA7] at this
              have e : (((nI done).map vn).drop 3).take (m - 3) = (nI (done.drop 3)).map vn := by
                rw [List.take_of_length_le (by rw [List.length_drop, List.length_map, nI_len, ← HM.out]; omega)]
                unfold nI
                rw [List.map_drop, List.map_drop]
              rw [e] at this
              exact this
            have HRN := Lib.hid hrdn
            have hlow := HLOW.out.size
            have hdl3 : (nI (done.drop 3)).length = m - 3 := by rw [nI_len, List.length_drop, ← HM.out]
            have HDL3 := Lib.hid hdl3
            have HGS := Lib.hid hgs
            clear hrdn hdl3 hgs hbad hlb hA7
            obtain ⟨m3, hm3⟩ : ∃ k, k = m - 3 := ⟨_, rfl⟩
            by_cases h4 : m = 3
            · have ho : o = some done := by rw [HOE.out, if_pos (HGS.out.2 (.inl (by rw [← HM.out]; exact h4)))]
              subst ho
              rw [← hm3] at HSF HRN HDL3
              obtain rfl : m3 = 0 := by omega
              subst h4
              clear hm3
              go_wp2_with (refine wpList_exec_want (o := ⟨some 67, _, _, _, _, _⟩) rfl (.slice A7 0 (cl - 3)) (by have h := HSF.out wc; go_simp) ?_)
              go_ret2
              exact ⟨_, _, rfl, HOWN.out, (fun l hl => by rw [← Option.some.inj hl]), HLOW.out⟩
            · have HCK := Lib.hid (fun (W : World) (hb : Below wc.heap.size wc W) => check_any (parseWish l0 (nI (done.drop 3))) none 0 0 A7 (m - 3) (cl - 3) W wc.heap.size ⟨Reads.none_, by simp, by simp, HRN.out.below hb, by omega, by omega, ⟨by show I64 0; unfold I64; omega, by show I64 0; unfold I64; omega, by show I64 (l0 : Int); unfold I64; omega, by show I64 0; unfold I64; omega, by show I64 5; unfold I64; omega, by show I64 0; unfold I64; omega, by show I64 0; unfold I64; omega, by show I64 0; unfold I64; omega, fun z hz => by
                obtain ⟨k, hk, rfl⟩ := List.mem_map.1 hz
                have := HMAX.out k (List.mem_of_mem_drop hk)
                unfold maxN at this
                unfold I64; omega⟩⟩ hb.size)
              rw [parseWish_may hl01.1 hl01.2] at HCK
              obtain ⟨cb, hcb⟩ : ∃ b, b = crewB (nI (done.drop 3)) := ⟨_, rfl⟩
              rw [← hcb] at HCK
              have ho : o = if cb = true then some done else none := by
                rw [HOE.out]
                have : goodSeal done ↔ cb = true := by
                  rw [HGS.out, hcb]
                  constructor
                  · rintro (e | e)
                    · rw [← HM.out] at e; exact absurd e h4
                    · exact e
                  · exact fun e => .inr e
                by_cases hg : goodSeal done
                · rw [if_pos hg, if_pos (this.1 hg)]
                · rw [if_neg hg, if_neg (fun e => hg (this.2 e))]
              have HOF := Lib.hid ho
              rw [← hm3] at HSF HRN HDL3 HCK
              have hm30 : ((m3 : Int) == 0) = false := by simp; omega
              have HM3 := Lib.hid hm3
              have c0 := C0.out
              clear ho hcb hm3 h4
              unfold parseWish wCells at HCK
              go_wp2_with (refine wpList_exec_want (o := ⟨some 67, _, _, _, _, _⟩) rfl (.slice A7 m3 (cl - 3)) (by have h := HSF.out wc; go_simp) ?_)
              refine (HCK.out wc (Below.refl _ _)).mono ?_
              rintro _ w5 ⟨rfl, hb5⟩
              have HO5 := Lib.hid (HOWN.out.below_ hb5)
              have HL5 := Lib.hid (HLOW.out.trans (hb5.mono hlow))
              clear hb5 HCK c0
              cases cb with
              | true =>
                have ho : o = some done := HOF.out
                subst ho
                simp only [if_true]
                go_wp2_with fail
                go_ret2
                exact ⟨_, _, rfl, HO5.out, (fun l hl => by rw [← Option.some.inj hl]), HL5.out⟩
              | false =>
                have ho : o = none := HOF.out
                subst ho
                simp only [Bool.false_eq_true, if_false]
                go_wp2_with fail
                go_ret2
                exact ⟨_, _, rfl, HO5.out, (fun l hl => by cases hl), HL5.out⟩
    · have h0b : (0 : Int) < (n : Int) := by omega
      have hne : rest ≠ [] := by intro e; have := HRL.out; rw [e] at this; simp at this; omega
      have HTN := Lib.hid (takeNum_any A n c rest wr wr.heap.size HPS.out.rd (Nat.le_refl _) HPS.out.cap (by omega))
      have htm := tn_num rest
      have HBADN := Lib.hid (fun (he : (tn rest).2.2 ≠ 0) => numsV_bad hne he)
      have HNEXT := Lib.hid (fun (he : (tn rest).2.2 = 0) => numsV_next hne he)
      have HSHR := Lib.hid (fun (he : (tn rest).2.2 = 0) => tn_shrink he)
      obtain ⟨p, hp⟩ : ∃ p, p = tn rest := ⟨_, rfl⟩
      rw [← hp] at HTN htm HBADN HNEXT HSHR
      obtain ⟨k, r, e⟩ := p
      simp only at HTN htm HBADN HNEXT HSHR
      have HTM := Lib.hid htm
      clear hne hp htm
      obtain ⟨Al, cl, hlv, hlc, _, _, _⟩ := own_slice_n HPS.out.own
      rw [nI_len] at hlv hlc
      subst hlv
      go_wp2_with fail
      refine HTN.out.mono ?_
      rintro _ w2 ⟨v, rfl, ho2, hb2⟩
      obtain ⟨A1, c1, hv, q1, q2, hr1, _⟩ := own_slice_b ho2
      subst hv
      have HR1 := Lib.hid hr1
      have HOB := Lib.hid ho2
      have HL2 := Lib.hid (HPS.out.low.trans (hb2.mono hsz))
      have HOW2 := Lib.hid (HPS.out.own.below_ hb2)
      have hs2 := hb2.size
      clear ho2 hb2 hr1 HTN
      by_cases he : e = 0
      · have heb : ((e : Int) != 0) = false := by simp [he]
        have hshr := HSHR.out he
        have hnx := HNEXT.out he
        rw [HRL.out] at hshr
        have HNX := Lib.hid hnx
        have HW := Lib.hid (show (w2.alloc (.cells #[.int .i64 (k : Int)] 3)).ownsRow w.heap.size 3 1 (.slice Al done.length cl) done.length ((nI done).map vn) from by
          have := World.ownsRow.alloc HOW2.out (.cells #[.int .i64 (k : Int)] 3)
          rw [nI_len] at this
          exact this)
        have HR3 := Lib.hid (reads_cells w2 #[.int .i64 (k : Int)] 3)
        have HR1b := Lib.hid (HR1.out.below (below_lit w2 (.cells #[.int .i64 (k : Int)] 3)))
        obtain ⟨dn, hdn⟩ : ∃ d, d = done.length := ⟨_, rfl⟩
        rw [← hdn] at HW hlen ⊢
        have HDN := Lib.hid hdn
        obtain ⟨rl, hrl⟩ : ∃ d, d = r.length := ⟨_, rfl⟩
        rw [← hrl] at hshr HR1b q1 ⊢
        have HRLE := Lib.hid hrl
        clear hnx hdn hrl
        go_wp2_with (at_builtin; go_must (refine wpList_append_any _ rfl (.tmp 19) (.tmp 21) 42 rfl w.heap.size 3 i0 _ 1 8 Tryz.underlying42 hi0 hz0 hz1 hz2 rfl (by omega) _ dn ((nI done).map vn) rfl HW.out (w2.heap.size + 1) (some ⟨w2.heap.size, 0, none⟩) 1 1 [.int .i64 (k : Int)] rfl HR3.out ?c1 ?c2 ?c3 ?c4 ?_))
        case c1 => intro z hz; rw [List.mem_singleton] at hz; subst hz; rfl
        case c2 => unfold maxLen; omega
        case c3 => omega
        case c4 => simp; omega
        intro v6 w6 hown6 hg6 hor6
        have hps6 : PsSt w xs n0 A1 rl c1 v6 r (done ++ [k]) w6 := by
          have hge : ∀ b, (Value.slice Al dn cl).ownBlock = some b → w.heap.size ≤ b := fun b hb => (rowD_lt HW.out hb).1
          have hal := below_lit w2 (.cells #[.int .i64 (k : Int)] 3)
          have hsz2 := HL2.out.size
          refine ⟨?_, q1, ?_, ?_, ?_, ?_, ?_⟩
          · have hob := HOB.out.below hal
            have hk := hob.keep (w' := w6) fun b hb => by
              obtain ⟨cur, hcur⟩ := ownB_blk hob hb
              exact hg6.block b (hob.lt hb) (fun e => own_blk_ne HW.out hcur (by decide) e.symm)
            rw [HRLE.out]
            exact hk.reads.2.2.2.1
          · unfold OwnN
            rw [nI_len, List.length_append, ← HDN.out]
            have e2 : nI (done ++ [k]) = nI done ++ [(k : Int)] := by simp [nI]
            rw [e2, List.map_append]
            exact hown6
          · rw [List.length_append, ← HDN.out]
            simp only [List.length_cons, List.length_nil]
            omega
          · rw [HPS.out.num, HNX.out]
            cases numsV r with
            | none => rfl
            | some l => simp
          · intro x hx
            rcases List.mem_append.1 hx with hx | hx
            · exact HPS.out.max x hx
            · rw [List.mem_singleton] at hx; subst hx; exact HTM.out
          · exact grown_below (HL2.out.trans (hal.mono hsz2)) (by simp; omega) hg6 (fun b hb => hge b hb)
        have HPS6 := Lib.hid hps6
        clear hown6 hg6 hor6 hps6
        go_wp2_with fail
        go_roundw
        case rel => exact ⟨_, _, _, _, _, rfl, HPS6.out⟩
        case measure => simp; omega
      · have heb : ((e : Int) != 0) = true := by simpa using he
        have hbn : numsV xs = none := by rw [HPS.out.num, HBADN.out he]; rfl
        have ho : o = none := by rw [HO.out]; unfold sealOf; rw [hbn]
        subst ho
        clear hbn
        go_wp2_with fail
        go_ret2
        exact ⟨_, [], rfl, OwnN.nil_ _ _, (fun l hl => by cases hl), HL2.out⟩

end Go.Proofs.YtcpngeiahgoacaaGreat

/- What the two walks of 'numbers' answer. -/
namespace Go.Proofs.YtcpngeiahgoacaaGreat
set_option linter.unusedVariables false
open Go.RowKit Go.Maps

def NumsPost (w : World) (o : Option (List Nat)) (e : Ending) (w' : World) : Prop := ∃ v, e = .returned (.tuple #[v, .bool o.isSome]) ∧ OwnN w' w.heap.size v (nI (o.getD [])) ∧ (∀ x, x ∈ o.getD [] → x ≤ maxN) ∧ Below w.heap.size w w'

end Go.Proofs.YtcpngeiahgoacaaGreat
