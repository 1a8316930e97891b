/- Parts of the proof, in one text: VoB, CrG, AtA. -/
import Derived.Test.YtdpoedgjehofiaaGreatZ17
import Derived.Test.YtdpoedgjehofiaaGreatZ15
import Derived.Test.YtdpoedgjehofiaaGreatZ11
import Derived.Test.YtdpoedgjehofiaaGreatZ13

/- Contract of vault.sealing (the parse): what the last leaf says. -/
namespace Go.Proofs.YtdpoedgjehofiaaGreat
set_option linter.unusedVariables false
open Go.RowKit Go.Maps

attribute [local irreducible] wpList wpCalm
def nI (l : List Nat) : List Int := l.map (fun n : Nat => (n : Int))
theorem nI_len (l : List Nat) : (nI l).length = l.length := by simp [nI]
def SealPost (w : World) (o : Option (List Nat)) (e : Ending) (w' : World) : Prop := ∃ v ys, e = .returned (.tuple #[v, .bool o.isSome]) ∧ OwnN w' w.heap.size v ys ∧ (∀ l, o = some l → ys = nI l) ∧ Below w.heap.size w w'
theorem OwnN.nil_ (w : World) (B : Nat) : OwnN w B (.slice none 0 0) [] := ⟨by simp, .inl ⟨rfl, by simp⟩⟩
theorem OwnN.keep_ {w w' : World} {B : Nat} {v : Value} {xs : List Int} (h : OwnN w B v xs) (hk : ∀ b, v.ownBlock = some b → w'.heap[b]? = w.heap[b]?) : OwnN w' B v xs := rowD_keep h hk
theorem OwnN.below_ {w w' : World} {B : Nat} {v : Value} {xs : List Int} (h : OwnN w B v xs) (hb : Below w.heap.size w w') : OwnN w' B v xs := h.keep_ fun b hb' => hb.block b (rowD_lt h hb').2
/-- how far the parse has come -/
structure PsSt (w : World) (xs : List UInt8) (n0 : Nat) (A : Option Addr) (n c : Nat) (lv : Value) (rest : List UInt8) (done : List Nat) (wr : World) : Prop where
  rd : Reads wr wr.heap.size 1 A n (rest.map vb)
  cap : n ≤ c
  own : OwnN wr w.heap.size lv (nI done)
  len : done.length + n ≤ n0
  num : numsV xs = (numsV rest).map (fun l => done ++ l)
  max : ∀ x, x ∈ done → x ≤ maxN
  low : Below w.heap.size w wr
/-- what is wrong with the numbers, but for the nodes -/
def badS (l : List Nat) : Prop := l.length < 3 ∨ l.getD 0 0 < 1 ∨ 2 < l.getD 0 0 ∨ 1048576 < l.getD 1 0 ∨ l.getD 2 0 + 3 ≠ l.length ∨ (l.getD 1 0 = 1048576 ∧ 0 < l.getD 2 0)
instance (l : List Nat) : Decidable (badS l) := by unfold badS; infer_instance
theorem badS_not {l : List Nat} (h : badS l) : ¬ goodSeal l := by
  unfold badS at h
  unfold goodSeal
  rintro ⟨h1, h2, h3, h4, h5, h6, h7⟩
  rcases h with e | e | e | e | e | e
  · omega
  · omega
  · omega
  · omega
  · omega
  · exact h6 e
theorem badS_good {l : List Nat} (h : ¬ badS l) : goodSeal l ↔ (l.length = 3 ∨ crewB (nI (l.drop 3)) = true) := by
  unfold badS at h
  unfold goodSeal nI
  constructor
  · exact fun hh => hh.2.2.2.2.2.2
  · intro h7
    refine ⟨by omega, by omega, by omega, by omega, by omega, fun e => h ?_, h7⟩
    exact .inr (.inr (.inr (.inr (.inr e))))
def parseWish (g : Nat) (l : List Int) : Wish := ⟨0, 0, (g : Int), 0, 5, 0, [], 0, 0, l⟩
theorem parseWish_may {g : Nat} (h1 : 1 ≤ g) (h2 : g ≤ 2) (l : List Int) : mayB (parseWish g l) = crewB l := by
  rw [Bool.eq_iff_iff]
  unfold mayB
  rw [decide_eq_true_eq]
  unfold MayP
  constructor
  · rintro ⟨_, _, h | h⟩
    · exact h.2.2.2.2.2.2.2.2.2
    · exact absurd rfl h.1
  · intro h
    exact ⟨show (0 : Int) ≤ 0 by decide, show (0 : Int) ≤ 1048576 by decide, .inl ⟨rfl, rfl, rfl, rfl, rfl, rfl, rfl, by show (1 : Int) ≤ (g : Int); omega, by show (g : Int) ≤ 2; omega, h⟩⟩

set_option maxRecDepth 100000 in
set_option maxHeartbeats 8000000 in
theorem vparse_any (A : Option Addr) (n c : Nat) (xs : List UInt8) (w : World) (B : Nat) (h : Reads w B 1 A n (xs.map vb)) (hB : B ≤ w.heap.size) (hc : n ≤ c) (hn : n ≤ 1000000000000) :
    Calls Tryz.prog 77 #[.slice A n c] w (SealPost w (sealOf xs)) := by
  obtain ⟨o, ho⟩ : ∃ o, o = sealOf xs := ⟨_, rfl⟩
  rw [← ho]
  have HO := Lib.hid ho
  have HST := Lib.hid (show PsSt w xs n A n c (.slice none 0 0) xs [] w from ⟨h.more hB, hc, OwnN.nil_ _ _, by simp, by cases numsV xs <;> rfl, fun x hx => by simp at hx, Below.refl _ _⟩)
  obtain ⟨i0, hi0, hz0, hz1, hz2⟩ := info_parts ci_info
  obtain ⟨n0, hn0⟩ : ∃ k, k = n := ⟨_, rfl⟩
  rw [← hn0] at hn
  have HST2 := Lib.hid (show PsSt w xs n0 A n c (.slice none 0 0) xs [] w from hn0 ▸ HST.out)
  clear h ho HST hc hn0
  go_enter Tryz.func77, Tryz.ntmps77
  go_wp2_with fail
  go_loopw [0, 2] (fun bv lv wr => ∃ (A : Option Addr) (n c : Nat) (rest : List UInt8) (done : List Nat), bv = .slice A n c ∧ PsSt w xs n0 A n c lv rest done wr) (fun bv _ _ => (match bv with | .slice _ n _ => n | _ => 0))
  case atStart => exact ⟨_, _, _, _, _, rfl, HST2.out⟩
  case round =>
    obtain ⟨A, n, c, rest, done, rfl, hps⟩ := hrel
    have HPS := Lib.hid hps
    have hrl : rest.length = n := by have := hps.rd.1; simpa using this
    have HRL := Lib.hid hrl
    have hsz := hps.low.size
    have hlen := hps.len
    clear hps hrl
    by_cases h0 : n = 0
    · subst h0
      have hre : rest = [] := List.eq_nil_of_length_eq_zero (by have := HRL.out; omega)
      have hnum : numsV xs = some done := by
        have := HPS.out.num
        rw [hre] at this
        rw [this]
        simp [numsV_nil]
      have hoe : o = if goodSeal done then some done else none := by
        rw [HO.out]; unfold sealOf; rw [hnum]
      have HOE := Lib.hid hoe
      have HOWN := Lib.hid HPS.out.own
      have HMAX := Lib.hid HPS.out.max
      have HLOW := Lib.hid HPS.out.low
      obtain ⟨m, hm⟩ : ∃ m, m = done.length := ⟨_, rfl⟩
      have HM := Lib.hid hm
      have hml : m ≤ n0 := by omega
      clear hre hnum hoe HPS HRL HO hlen hm
      by_cases h3 : m < 3
      · have h3b : (m : Int) < 3 := by omega
        have ho : o = none := by rw [HOE.out, if_neg (badS_not (.inl (by rw [← HM.out]; exact h3)))]
        obtain ⟨Al, cl, hlv, _⟩ := own_slice_n HOWN.out
        rw [nI_len, ← HM.out] at hlv
        subst hlv
        subst ho
        go_wp2_with fail
        go_ret2
        exact ⟨_, [], rfl, OwnN.nil_ _ _, (fun l hl => by cases hl), HLOW.out⟩
      · have h3b : ¬ (m : Int) < 3 := by omega
        obtain ⟨g, cl, hlv, hgw, hcl, hrd⟩ : ∃ g cl, u2 = .slice (some ⟨g, 0, none⟩) m cl ∧ w.heap.size ≤ g ∧ m ≤ cl ∧ Reads wr wr.heap.size 1 (some ⟨g, 0, none⟩) m ((nI done).map vn) := by
          have hown := HOWN.out
          obtain ⟨Al, cl, hlv, q1, _, q3, q4⟩ := own_slice_n hown
          rw [nI_len, ← HM.out] at hlv q1 q3
          rcases hown.2 with ⟨hv, h0'⟩ | ⟨g, cap, cur, hv, hg, _⟩
          · rw [nI_len, ← HM.out] at h0'; omega
          · rw [nI_len, ← HM.out] at hv
            rw [hv] at hlv
            injection hlv with e1 e2 e3
            exact ⟨g, cl, by rw [hv, e3], hg, q1, e1 ▸ q3⟩
        subst hlv
        have cell : ∀ j, j < m → wr.cell? ⟨g, j, none⟩ = some (.int .i64 ((done.getD j 0 : Nat) : Int)) := fun j hj => by
          obtain ⟨ad, hA, _, hc⟩ := hrd.2 (by omega)
          injection hA with hA
          subst hA
          have := hc j (.int .i64 ((done.getD j 0 : Nat) : Int)) (by
            have hjd : j < done.length := by rw [← HM.out]; exact hj
            unfold nI
            rw [List.getElem?_map, List.getElem?_map, List.getElem?_eq_getElem hjd, List.getD_eq_getElem?_getD, List.getElem?_eq_getElem hjd]; rfl)
          rw [add_off, Nat.zero_add] at this
          exact this
        have c0 := cell 0 (by omega)
        have c1 := cell 1 (by omega)
        have c2 := cell 2 (by omega)
        have HRD := Lib.hid hrd
        obtain ⟨l0, hl0⟩ : ∃ k, k = done.getD 0 0 := ⟨_, rfl⟩
        obtain ⟨l1, hl1⟩ : ∃ k, k = done.getD 1 0 := ⟨_, rfl⟩
        obtain ⟨l2, hl2⟩ : ∃ k, k = done.getD 2 0 := ⟨_, rfl⟩
        rw [← hl0] at c0
        rw [← hl1] at c1
        rw [← hl2] at c2
        have HBD := Lib.hid (show badS done ↔ (l0 < 1 ∨ 2 < l0 ∨ 1048576 < l1 ∨ l2 + 3 ≠ m ∨ (l1 = 1048576 ∧ 0 < l2)) from by
          unfold badS
          rw [← hl0, ← hl1, ← hl2, ← HM.out]
          omega)
        have HL0 := Lib.hid hl0
        have C0 := Lib.hid c0
        have hgc : 0 < m := by omega
        have hgc1 : 1 < m := by omega
        have hgc2 : 2 < m := by omega
        have hgcI : (0 : Int) < (m : Int) := by omega
        have hgc1I : (1 : Int) < (m : Int) := by omega
        have hgc2I : (2 : Int) < (m : Int) := by omega
        clear cell hrd hl0 hl1 hl2
        go_upto_region 7 with fail
        go_cut [65] (fun s65 wx => s65 = .bool (decide (badS done)) ∧ wx = wr)
        case first =>
          by_cases b0 : l0 < 1
          · have b0b : (l0 : Int) < 1 := by omega
            go_wp2_with fail
            go_meet
            exact ⟨by rw [decide_eq_true (HBD.out.2 (by omega))], rfl⟩
          · have b0b : ¬ (l0 : Int) < 1 := by omega
            by_cases b1 : 2 < l0
            · have b1b : (2 : Int) < (l0 : Int) := by omega
              go_wp2_with fail
              go_meet
              exact ⟨by rw [decide_eq_true (HBD.out.2 (by omega))], rfl⟩
            · have b1b : ¬ (2 : Int) < (l0 : Int) := by omega
              by_cases b2 : 1048576 < l1
              · have b2b : (1048576 : Int) < (l1 : Int) := by omega
                go_wp2_with fail
                go_meet
                exact ⟨by rw [decide_eq_true (HBD.out.2 (by omega))], rfl⟩
              · have b2b : ¬ (1048576 : Int) < (l1 : Int) := by omega
                by_cases b3 : l2 + 3 = m
                · have b3b : ((l2 : Int) != (m : Int) - 3) = false := by simp; omega
                  have B3 := Lib.hid b3
                  clear b3
                  by_cases b4 : l1 = 1048576
                  · have b4b : ((l1 : Int) == 1048576) = true := by simp [b4]
                    have B4 := Lib.hid b4
                    clear b4
                    by_cases b5 : 0 < l2
                    · have b5b : (0 : Int) < (l2 : Int) := by omega
                      go_wp2_with fail
                      go_meet
                      exact ⟨by rw [decide_eq_true (HBD.out.2 (by have := B3.out; have := B4.out; omega))], rfl⟩
                    · have b5b : ¬ (0 : Int) < (l2 : Int) := by omega
                      go_wp2_with fail
                      go_meet
                      exact ⟨by rw [decide_eq_false (fun hh => by have := HBD.out.1 hh; have := B3.out; omega)], rfl⟩
                  · have b4b : ((l1 : Int) == 1048576) = false := by simp; omega
                    go_wp2_with fail
                    go_meet
                    exact ⟨by rw [decide_eq_false (fun hh => by have := HBD.out.1 hh; have := B3.out; omega)], rfl⟩
                · have b3b : ((l2 : Int) != (m : Int) - 3) = true := by simp; omega
                  go_wp2_with fail
                  go_meet
                  exact ⟨by rw [decide_eq_true (HBD.out.2 (by omega))], rfl⟩
        case rest =>
          obtain ⟨rfl, rfl⟩ := hcut
          by_cases hbad : badS done
          · have ho : o = none := by rw [HOE.out, if_neg (badS_not hbad)]
            rw [decide_eq_true hbad]
            subst ho
            clear c0 c1 c2
            go_wp2_with fail
            go_ret2
            exact ⟨_, [], rfl, OwnN.nil_ _ _, (fun l hl => by cases hl), HLOW.out⟩
          · have hgs := badS_good hbad
            have hlb : ¬ (l0 < 1 ∨ 2 < l0 ∨ 1048576 < l1 ∨ l2 + 3 ≠ m ∨ (l1 = 1048576 ∧ 0 < l2)) := fun hh => hbad (HBD.out.2 hh)
            have hl01 : 1 ≤ l0 ∧ l0 ≤ 2 := by omega
            rw [decide_eq_false hbad]
            clear c0 c1 c2
            have HSF := Lib.hid (fun (W : World) => run_slice_from (P := Tryz.prog) (t := 42) (e := 3) Tryz.underlying42 (by kernel_rfl) (some ⟨g, 0, none⟩) m cl 3 3 rfl (by omega) W)
            obtain ⟨A7, hA7⟩ : ∃ A7, A7 = (if cl = 3 then (some (⟨g, 0, none⟩ : Addr)) else (some (⟨g, 0, none⟩ : Addr)).map (·.add 3)) := ⟨_, rfl⟩
            rw [← hA7] at HSF
            have hrdn : Reads wc wc.heap.size 1 A7 (m - 3) ((nI (done.drop 3)).map vn) := by
              have := HRD.out.sub (l := 3) (k := m) (cap := cl) (by omega) (Nat.le_refl _) hcl
              rw [Nat.mul_one, Nat.mul_one] at this
              rw [← hA7] at this
              have e : (((nI done).map vn).drop 3).take (m - 3) = (nI (done.drop 3)).map vn := by
                rw [List.take_of_length_le (by rw [List.length_drop, List.length_map, nI_len, ← HM.out]; omega)]
                unfold nI
                rw [List.map_drop, List.map_drop]
              rw [e] at this
              exact this
            have HRN := Lib.hid hrdn
            have hlow := HLOW.out.size
            have hdl3 : (nI (done.drop 3)).length = m - 3 := by rw [nI_len, List.length_drop, ← HM.out]
            have HDL3 := Lib.hid hdl3
            have HGS := Lib.hid hgs
            clear hrdn hdl3 hgs hbad hlb hA7
            obtain ⟨m3, hm3⟩ : ∃ k, k = m - 3 := ⟨_, rfl⟩
            by_cases h4 : m = 3
            · have ho : o = some done := by rw [HOE.out, if_pos (HGS.out.2 (.inl (by rw [← HM.out]; exact h4)))]
              subst ho
              rw [← hm3] at HSF HRN HDL3
              obtain rfl : m3 = 0 := by omega
              subst h4
              clear hm3
              go_wp2_with (refine wpList_exec_want (o := ⟨some 67, _, _, _, _, _⟩) rfl (.slice A7 0 (cl - 3)) (by have h := HSF.out wc; go_simp) ?_)
              go_ret2
              exact ⟨_, _, rfl, HOWN.out, (fun l hl => by rw [← Option.some.inj hl]), HLOW.out⟩
            · have HCK := Lib.hid (fun (W : World) (hb : Below wc.heap.size wc W) => check_any (parseWish l0 (nI (done.drop 3))) none 0 0 A7 (m - 3) (cl - 3) W wc.heap.size ⟨Reads.none_, by simp, by simp, HRN.out.below hb, by omega, by omega, ⟨by show I64 0; unfold I64; omega, by show I64 0; unfold I64; omega, by show I64 (l0 : Int); unfold I64; omega, by show I64 0; unfold I64; omega, by show I64 5; unfold I64; omega, by show I64 0; unfold I64; omega, by show I64 0; unfold I64; omega, by show I64 0; unfold I64; omega, fun z hz => by
                obtain ⟨k, hk, rfl⟩ := List.mem_map.1 hz
                have := HMAX.out k (List.mem_of_mem_drop hk)
                unfold maxN at this
                unfold I64; omega⟩⟩ hb.size)
              rw [parseWish_may hl01.1 hl01.2] at HCK
              obtain ⟨cb, hcb⟩ : ∃ b, b = crewB (nI (done.drop 3)) := ⟨_, rfl⟩
              rw [← hcb] at HCK
              have ho : o = if cb = true then some done else none := by
                rw [HOE.out]
                have : goodSeal done ↔ cb = true := by
                  rw [HGS.out, hcb]
                  constructor
                  · rintro (e | e)
                    · rw [← HM.out] at e; exact absurd e h4
                    · exact e
                  · exact fun e => .inr e
                by_cases hg : goodSeal done
                · rw [if_pos hg, if_pos (this.1 hg)]
                · rw [if_neg hg, if_neg (fun e => hg (this.2 e))]
              have HOF := Lib.hid ho
              rw [← hm3] at HSF HRN HDL3 HCK
              have hm30 : ((m3 : Int) == 0) = false := by simp; omega
              have HM3 := Lib.hid hm3
              have c0 := C0.out
              clear ho hcb hm3 h4
              unfold parseWish wCells at HCK
              go_wp2_with (refine wpList_exec_want (o := ⟨some 67, _, _, _, _, _⟩) rfl (.slice A7 m3 (cl - 3)) (by have h := HSF.out wc; go_simp) ?_)
              refine (HCK.out wc (Below.refl _ _)).mono ?_
              rintro _ w5 ⟨rfl, hb5⟩
              have HO5 := Lib.hid (HOWN.out.below_ hb5)
              have HL5 := Lib.hid (HLOW.out.trans (hb5.mono hlow))
              clear hb5 HCK c0
              cases cb with
              | true =>
                have ho : o = some done := HOF.out
                subst ho
                simp only [if_true]
                go_wp2_with fail
                go_ret2
                exact ⟨_, _, rfl, HO5.out, (fun l hl => by rw [← Option.some.inj hl]), HL5.out⟩
              | false =>
                have ho : o = none := HOF.out
                subst ho
                simp only [Bool.false_eq_true, if_false]
                go_wp2_with fail
                go_ret2
                exact ⟨_, _, rfl, HO5.out, (fun l hl => by cases hl), HL5.out⟩
    · have h0b : (0 : Int) < (n : Int) := by omega
      have hne : rest ≠ [] := by intro e; have := HRL.out; rw [e] at this; simp at this; omega
      have HTN := Lib.hid (takeNum_any A n c rest wr wr.heap.size HPS.out.rd (Nat.le_refl _) HPS.out.cap (by omega))
      have htm := tn_num rest
      have HBADN := Lib.hid (fun (he : (tn rest).2.2 ≠ 0) => numsV_bad hne he)
      have HNEXT := Lib.hid (fun (he : (tn rest).2.2 = 0) => numsV_next hne he)
      have HSHR := Lib.hid (fun (he : (tn rest).2.2 = 0) => tn_shrink he)
      obtain ⟨p, hp⟩ : ∃ p, p = tn rest := ⟨_, rfl⟩
      rw [← hp] at HTN htm HBADN HNEXT HSHR
      obtain ⟨k, r, e⟩ := p
      simp only at HTN htm HBADN HNEXT HSHR
      have HTM := Lib.hid htm
      clear hne hp htm
      obtain ⟨Al, cl, hlv, hlc, _, _, _⟩ := own_slice_n HPS.out.own
      rw [nI_len] at hlv hlc
      subst hlv
      go_wp2_with fail
      refine HTN.out.mono ?_
      rintro _ w2 ⟨v, rfl, ho2, hb2⟩
      obtain ⟨A1, c1, hv, q1, q2, hr1, _⟩ := own_slice_b ho2
      subst hv
      have HR1 := Lib.hid hr1
      have HOB := Lib.hid ho2
      have HL2 := Lib.hid (HPS.out.low.trans (hb2.mono hsz))
      have HOW2 := Lib.hid (HPS.out.own.below_ hb2)
      have hs2 := hb2.size
      clear ho2 hb2 hr1 HTN
      by_cases he : e = 0
      · have heb : ((e : Int) != 0) = false := by simp [he]
        have hshr := HSHR.out he
        have hnx := HNEXT.out he
        rw [HRL.out] at hshr
        have HNX := Lib.hid hnx
        have HW := Lib.hid (show (w2.alloc (.cells #[.int .i64 (k : Int)] 3)).ownsRow w.heap.size 3 1 (.slice Al done.length cl) done.length ((nI done).map vn) from by
          have := World.ownsRow.alloc HOW2.out (.cells #[.int .i64 (k : Int)] 3)
          rw [nI_len] at this
          exact this)
        have HR3 := Lib.hid (reads_cells w2 #[.int .i64 (k : Int)] 3)
        have HR1b := Lib.hid (HR1.out.below (below_lit w2 (.cells #[.int .i64 (k : Int)] 3)))
        obtain ⟨dn, hdn⟩ : ∃ d, d = done.length := ⟨_, rfl⟩
        rw [← hdn] at HW hlen ⊢
        have HDN := Lib.hid hdn
        obtain ⟨rl, hrl⟩ : ∃ d, d = r.length := ⟨_, rfl⟩
        rw [← hrl] at hshr HR1b q1 ⊢
        have HRLE := Lib.hid hrl
        clear hnx hdn hrl
        go_wp2_with (at_builtin; go_must (refine wpList_append_any _ rfl (.tmp 19) (.tmp 21) 42 rfl w.heap.size 3 i0 _ 1 8 Tryz.underlying42 hi0 hz0 hz1 hz2 rfl (by omega) _ dn ((nI done).map vn) rfl HW.out (w2.heap.size + 1) (some ⟨w2.heap.size, 0, none⟩) 1 1 [.int .i64 (k : Int)] rfl HR3.out ?c1 ?c2 ?c3 ?c4 ?_))
        case c1 => intro z hz; rw [List.mem_singleton] at hz; subst hz; rfl
        case c2 => unfold maxLen; omega
        case c3 => omega
        case c4 => simp; omega
        intro v6 w6 hown6 hg6 hor6
        have hps6 : PsSt w xs n0 A1 rl c1 v6 r (done ++ [k]) w6 := by
          have hge : ∀ b, (Value.slice Al dn cl).ownBlock = some b → w.heap.size ≤ b := fun b hb => (rowD_lt HW.out hb).1
          have hal := below_lit w2 (.cells #[.int .i64 (k : Int)] 3)
          have hsz2 := HL2.out.size
          refine ⟨?_, q1, ?_, ?_, ?_, ?_, ?_⟩
          · have hob := HOB.out.below hal
            have hk := hob.keep (w' := w6) fun b hb => by
              obtain ⟨cur, hcur⟩ := ownB_blk hob hb
              exact hg6.block b (hob.lt hb) (fun e => own_blk_ne HW.out hcur (by decide) e.symm)
            rw [HRLE.out]
            exact hk.reads.2.2.2.1
          · unfold OwnN
            rw [nI_len, List.length_append, ← HDN.out]
            have e2 : nI (done ++ [k]) = nI done ++ [(k : Int)] := by simp [nI]
            rw [e2, List.map_append]
            exact hown6
          · rw [List.length_append, ← HDN.out]
            simp only [List.length_cons, List.length_nil]
            omega
          · rw [HPS.out.num, HNX.out]
            cases numsV r with
            | none => rfl
            | some l => simp
          · intro x hx
            rcases List.mem_append.1 hx with hx | hx
            · exact HPS.out.max x hx
            · rw [List.mem_singleton] at hx; subst hx; exact HTM.out
          · exact grown_below (HL2.out.trans (hal.mono hsz2)) (by simp; omega) hg6 (fun b hb => hge b hb)
        have HPS6 := Lib.hid hps6
        clear hown6 hg6 hor6 hps6
        go_wp2_with fail
        go_roundw
        case rel => exact ⟨_, _, _, _, _, rfl, HPS6.out⟩
        case measure => simp; omega
      · have heb : ((e : Int) != 0) = true := by simpa using he
        have hbn : numsV xs = none := by rw [HPS.out.num, HBADN.out he]; rfl
        have ho : o = none := by rw [HO.out]; unfold sealOf; rw [hbn]
        subst ho
        clear hbn
        go_wp2_with fail
        go_ret2
        exact ⟨_, [], rfl, OwnN.nil_ _ _, (fun l hl => by cases hl), HL2.out⟩

end Go.Proofs.YtdpoedgjehofiaaGreat

/- Contract of crew.Replace. -/
namespace Go.Proofs.YtdpoedgjehofiaaGreat
set_option linter.unusedVariables false
set_option linter.unusedSimpArgs false
open Go.RowKit Go.Maps

attribute [local irreducible] wpList wpCalm
theorem OwnN.ge_ {w : World} {B b : Nat} {v : Value} {xs : List Int} (h : OwnN w B v xs) (hb : v.ownBlock = some b) : B ≤ b := by
  rcases h.2 with ⟨rfl, _⟩ | ⟨g, cap, cur, rfl, hg, _⟩
  · cases hb
  · have : b = g := by simpa [Value.ownBlock] using hb.symm
    omega
theorem loud_exec {P : Program} {ops : Array Oper} {o : Oper} {a : Act} {w : World} {R : World → World → Prop} {J : World → Prop} {p : World → Value → Prop} (hw : Region.wanted o (yielded ops a.tmps) = true) (v : Value) (w' : World) (he : (execOp a.eval o).run P w = .ok (.value v) w') (hR : R w w') (hJ : J w') (hp : p w' v) : LoudOp P ops o a w R J p := fun K Q' hK => by
  rw [if_pos hw]
  unfold Oper.wp
  rw [he]
  exact hK v w' hR hJ hp
theorem exec_append {P : Program} {o : Oper} {a : Act} {w w' : World} {s x : Operand} {t : TypeId} {v vs vx : Value} (ho : o.op = .call { callee := .builtin .append, args := #[s, x], argTypes := #[t, t] }) (hs : a.eval s = vs) (hx : a.eval x = vx) (hrun : (Builtin.append_ #[t, t] o.type #[vs, vx]).run P w = .ok v w') : (execOp a.eval o).run P w = .ok (.value v) w' := by
  unfold execOp
  simp only [ho, resolve, invoke, builtin, Sem.run_bind, Sem.run_pure, Result.andThen_ok, List.map_toArray, List.map_cons, List.map_nil, hs, hx, hrun]
/-- one number more at a row's end, in place -/
def PutAt (l : List Int) (z : Int) (w w' : World) : Prop := ∃ g cap y, RowN w g cap (l ++ [y]) ∧ w' = w.setCell ⟨g, l.length, none⟩ (.int .i64 z)
theorem RowN.put {w w' : World} {g cap : Nat} {l : List Int} {y z : Int} (h : RowN w g cap (l ++ [y])) (hp : PutAt l z w w') : ∃ y', RowN w' g cap (l ++ [y']) := by
  obtain ⟨g', cap', y', hr, rfl⟩ := hp
  by_cases e : g' = g
  · subst e
    have := h.set_ (i := l.length) (by simp) z
    rw [List.set_append, if_neg (by omega), Nat.sub_self] at this
    exact ⟨z, this⟩
  · exact ⟨y, h.keep (Below.heap_setCell w ⟨g', l.length, none⟩ (.int .i64 z) g (fun q => e q.symm))⟩
theorem one_put {w w' : World} {g : Nat} {l : List Int} {z : Int} (h : Blk w g 3 #[.int .i64 z]) (hp : PutAt l z w w') : Blk w' g 3 #[.int .i64 z] := by
  obtain ⟨g', cap', y', hr, rfl⟩ := hp
  by_cases e : g' = g
  · subst e
    obtain ⟨cur, h1, h2, h3⟩ := hr.row
    have hc : cur = #[.int .i64 z] := by
      unfold Blk at h h1
      rw [h] at h1
      injection h1 with h1
      injection h1 with h1
      exact h1.symm
    have hl := hr.cap.1
    have hcs : cur.size = 1 := by rw [hc]; rfl
    rw [List.length_append, List.length_singleton] at hl
    have hl0 : l.length = 0 := by omega
    rw [hl0]
    exact h.set_ 0 (.int .i64 z)
  · exact Below.heap_setCell w ⟨g', l.length, none⟩ (.int .i64 z) g (fun q => e q.symm) |>.trans h
theorem RowN.putz {w w' : World} {g cap : Nat} {l : List Int} {z : Int} (h : RowN w g cap (l ++ [z])) (hp : PutAt l z w w') : RowN w' g cap (l ++ [z]) := by
  obtain ⟨g', cap', y', hr, rfl⟩ := hp
  by_cases e : g' = g
  · subst e
    have := h.set_ (i := l.length) (by simp) z
    rw [List.set_append, if_neg (by omega), Nat.sub_self] at this
    exact this
  · exact h.keep (Below.heap_setCell w ⟨g', l.length, none⟩ (.int .i64 z) g (fun q => e q.symm))
theorem own_put {w w' : World} {B : Nat} {v : Value} {l : List Int} {z : Int} (hz : ¬ z ∈ l) (h : OwnN w B v (insL z l)) (hp : PutAt l z w w') : OwnN w' B v (insL z l) := by
  obtain ⟨g, cap, rfl, hB, hr⟩ := RowN.of_own h (by rw [insL_len]; omega)
  obtain ⟨g', cap', y', hr', rfl⟩ := hp
  by_cases e : g' = g
  · subst e
    obtain ⟨cur, h1, h2, h3⟩ := hr.row
    obtain ⟨cur', k1, k2, k3⟩ := hr'.row
    have hc : cur' = cur := by
      unfold Blk at h1 k1
      rw [h1] at k1
      injection k1 with k1
      injection k1 with k1
      exact k1.symm
    subst hc
    have hl : (insL z l).length = (l ++ [y']).length := by rw [insL_len]; simp
    rw [hl, k3] at h3
    have he : l ++ [y'] = insL z l := (List.map_inj_right (fun a b q => by simpa [vn] using q)).1 h3
    have hm : z ∈ l ++ [y'] := by rw [he]; exact (insL_mem z z l).2 (.inl rfl)
    have hzy : z = y' := by
      rcases List.mem_append.1 hm with q | q
      · exact absurd q hz
      · exact List.mem_singleton.1 q
    have := hr'.set_ (i := l.length) (by simp) z
    rw [List.set_append, if_neg (by omega), Nat.sub_self] at this
    have h5 : RowN (w.setCell ⟨g', l.length, none⟩ (.int .i64 z)) g' cap (insL z l) := by
      rw [← he, ← hzy]
      obtain ⟨c3, q1, q2, q3⟩ := this.row
      exact ⟨⟨c3, q1, by omega, q3⟩, by have := hr.cap; rw [← he, ← hzy] at this; exact this⟩
    exact h5.own hB
  · exact (hr.keep (Below.heap_setCell w ⟨g', l.length, none⟩ (.int .i64 z) g (fun q => e q.symm))).own hB
/-- Replace's last statement under way -/
structure RpSt (w4 : World) (g6 f n : Nat) (r : List Int) (s : Nat) (W : World) : Prop where
  only : Only (fun b => b = g6) w4 W
  zero : s ≤ 1 → Blk W g6 85 (crC 0 none 0 0)
  done : s = 2 → ∃ A' c', Blk W g6 85 (crC f A' n c') ∧ OwnN W w4.heap.size (.slice A' n c') r
theorem RpSt.below {w4 W W' : World} {g6 f n s : Nat} {r : List Int} (h : RpSt w4 g6 f n r s W) (hb : Below W.heap.size W W') : RpSt w4 g6 f n r s W' :=
  ⟨h.only.trans (Only.of_below hb), fun e => (h.zero e).below' hb, fun e => by
    obtain ⟨A', c', h1, h2⟩ := h.done e
    exact ⟨A', c', h1.below' hb, h2.below_ hb⟩⟩
theorem RpSt.put {w4 W : World} {g6 f n s q k : Nat} {v : Value} {r : List Int} (h : RpSt w4 g6 f n r s W) (hq : w4.heap.size ≤ q) (hg : g6 < w4.heap.size) (hs : s = 0) : RpSt w4 g6 f n r (s + 1) (W.setCell ⟨q, k, none⟩ v) := by
  subst hs
  have ht := Turned.setCell W ⟨q, k, none⟩ v
  refine ⟨?_, fun _ => (ht.block g6 (fun e => by have e' : g6 = q := e; omega)).trans (h.zero (by omega)), fun e => by omega⟩
  have ho := h.only
  exact ⟨ho.os, ho.tape, ho.output, by simpa [World.setCell] using ho.size, fun i hi hn => (ht.block i (fun e => by have e' : i = q := e; omega)).trans (ho.block i hi hn)⟩
def goodR (l : List Int) (o n : Int) : Prop := o ∈ l ∧ ¬ n ∈ l ∧ 1 ≤ n ∧ n ≤ 28
def ReplPost (w : World) (f : Nat) (l : List Int) (o n : Int) (e : Ending) (w' : World) : Prop :=
  Below w.heap.size w w' ∧ (goodR l o n → ∃ A' k' c', e = .returned (.tuple #[.agg (crC f A' k' c'), .int .i64 0]) ∧ OwnN w' w.heap.size (.slice A' k' c') (replL l o n)) ∧ (¬ goodR l o n → ∃ er : Nat, er ≠ 0 ∧ e = .returned (.tuple #[.agg (crC 0 none 0 0), .int .i64 (er : Int)]))

set_option maxRecDepth 100000 in
set_option maxHeartbeats 1000000 in
theorem crReplace_any (f : Nat) (A : Option Addr) (n c : Nat) (l : List Int) (o z : Int) (w : World) (h : Reads w w.heap.size 1 A n (l.map vn)) (hok : OkC f l) :
    Calls Tryz.prog 105 #[.agg (crC f A n c), .int .i64 o, .int .i64 z] w (ReplPost w f l o z) := by
  have hzn : l.length = n := by have := h.1; simpa using this
  have hs := hok.short
  have hn7 : n ≤ 1000000 := by omega
  have hX := ((Below.refl w.heap.size w).alloc (Nat.le_refl _) (.cells (crC f A n c) 85)).alloc (by simp) (.cells (crC 0 none 0 0) 85)
  have HK := Lib.hid ((Blk.newAt rfl : Blk (w.alloc (.cells (crC f A n c) 85)) w.heap.size 85 (crC f A n c)).alloc (.cells (crC 0 none 0 0) 85))
  have HO := Lib.hid (Blk.newAt (by simp) : Blk ((w.alloc (.cells (crC f A n c) 85)).alloc (.cells (crC 0 none 0 0) 85)) (w.heap.size + 1) 85 (crC 0 none 0 0))
  have hr1 := h.below hX
  have hs1 : ((w.alloc (.cells (crC f A n c) 85)).alloc (.cells (crC 0 none 0 0) 85)).heap.size = w.heap.size + 2 := by simp
  have HC := Lib.hid (crCheck_any f A n c l _ (hr1.more hX.size) (by omega))
  rw [okCB_of hok, if_pos rfl] at HC
  have HX := Lib.hid hX
  have HR1 := Lib.hid hr1
  have HOK := Lib.hid hok
  have HZN := Lib.hid hzn
  obtain ⟨D, hD⟩ : ∃ D, D = crC f A n c := ⟨_, rfl⟩
  have hsz : D.size = 2 := by rw [hD]; rfl
  have c1 : D[0]? = some (.int .i64 (f : Int)) := by rw [hD]; rfl
  rw [← hD] at HX HK HO HC HR1 hs1 ⊢
  have C0 := Lib.hid c1
  have HDD := Lib.hid hD
  have HS1 := Lib.hid hs1
  clear h hr1 hok hX hzn hD c1 hs1
  obtain ⟨g, hg⟩ : ∃ g, g = w.heap.size := ⟨_, rfl⟩
  obtain ⟨g6, hg6⟩ : ∃ g, g = w.heap.size + 1 := ⟨_, rfl⟩
  go_enter Tryz.func105, Tryz.ntmps105
  go_upto_region 1 with fail
  rw [← crZ]
  generalize World.alloc (World.alloc w _) _ = w1 at HX HK HO HC HR1 HS1 ⊢
  rw [← hg6] at HO ⊢
  rw [← hg] at HK ⊢
  have hs1 := HS1.out
  have hgl : g < w1.heap.size := by omega
  have hgl6 : g6 < w1.heap.size := by omega
  have hgg : g ≠ g6 := by omega
  have hgw : w.heap.size ≤ g := by omega
  have hgw6 : w.heap.size ≤ g6 := by omega
  clear HS1 hs1 hg hg6
  go_wp2_with (refine wpList_load_part (o := ⟨some 9, _, _, _, _, _⟩) rfl 85 (.tmp 3) rfl g 0 2 rfl 85 _ D _ HK.out Tryz.underlying85 rfl rfl hsz (fun _ _ => by rw [Nat.zero_add]; try rfl) ?_)
  refine HC.out.mono ?_
  rintro _ w2 ⟨rfl, hb2⟩
  have hs2 := hb2.size
  have hx := HX.out.size
  have HB2 := Lib.hid (HX.out.trans (hb2.mono hx))
  have HK2 := Lib.hid (HK.out.below' hb2)
  have HO2 := Lib.hid (HO.out.below' hb2)
  have HR2 := Lib.hid (HR1.out.below (hb2.mono hx))
  clear hb2 HC HX HK HO HR1
  have HNO := Lib.hid (node_any z w2)
  by_cases hnode : 1 ≤ z ∧ z ≤ 28
  · rw [decide_eq_true hnode] at HNO
    have hs12 := HB2.out.size
    have HH := Lib.hid (crHas_any f A n c l o w2 (HR2.out.more hs12) HOK.out)
    rw [← HDD.out] at HH
    go_wp2_with fail
    refine HNO.out.mono ?_
    rintro _ _ ⟨rfl, rfl⟩
    go_wp2_with (refine wpList_load_part (o := ⟨some 21, _, _, _, _, _⟩) rfl 85 (.tmp 3) rfl g 0 2 rfl 85 _ D _ HK2.out Tryz.underlying85 rfl rfl hsz (fun _ _ => by rw [Nat.zero_add]; try rfl) ?_)
    refine HH.out.mono ?_
    rintro _ w3 ⟨rfl, hb3⟩
    have hs3 := hb3.size
    have HB3 := Lib.hid (HB2.out.trans (hb3.mono hs12))
    have HK3 := Lib.hid (HK2.out.below' hb3)
    have HO3 := Lib.hid (HO2.out.below' hb3)
    have HR3 := Lib.hid (HR2.out.below (hb3.mono hs12))
    clear hb3 HH HB2 HK2 HO2 HR2 HNO
    by_cases hin : o ∈ l
    · have hs13 := HB3.out.size
      have HH := Lib.hid (crHas_any f A n c l z w3 (HR3.out.more hs13) HOK.out)
      rw [← HDD.out] at HH
      rw [decide_eq_true hin]
      go_wp2_with (first
        | (refine wpList_load_part (o := ⟨some 26, _, _, _, _, _⟩) rfl 85 (.tmp 3) rfl g 0 2 rfl 85 _ D _ HK3.out Tryz.underlying85 rfl rfl hsz (fun _ _ => by rw [Nat.zero_add]; try rfl) ?_)
        | (refine wpList_load_guarded (o := ⟨some 26, _, _, _, _, _⟩) rfl 85 (.tmp 3) rfl g 0 2 rfl 85 _ D _ HK3.out Tryz.underlying85 rfl rfl hsz (fun _ _ => by rw [Nat.zero_add]; try rfl) ?_))
      refine HH.out.mono ?_
      rintro _ w4 ⟨rfl, hb4⟩
      have hs4 := hb4.size
      have HB4 := Lib.hid (HB3.out.trans (hb4.mono hs13))
      have HK4 := Lib.hid (HK3.out.below' hb4)
      have HO4 := Lib.hid (HO3.out.below' hb4)
      have HR4 := Lib.hid (HR3.out.below (hb4.mono hs13))
      clear hb4 HH HB3 HK3 HO3 HR3
      by_cases hzin : z ∈ l
      · rw [decide_eq_true hzin]
        have hbad : ¬ goodR l o z := fun h => h.2.1 hzin
        go_wp2_with (refine wpList_store_part (o := ⟨none, _, _, _, _, _⟩) rfl 85 (.tmp 6) (.tmp 30) rfl g6 0 (crC 0 none 0 0) rfl rfl 85 _ HO4.out (crC_info _ _ _ _) (by simp [crC]) (crC_one _ _ _ _) ?_; intro w7 hT7 hD7; rw [crC_spl] at hD7)
        refine bodyPost_ret (results_part2 rfl _ _ g6 2 85 _ _ rfl hD7 Tryz.underlying85 rfl rfl rfl) rfl ⟨hT7.below HB4.out hgw6, fun h => absurd h hbad, fun _ => ⟨110, by omega, rfl⟩⟩
      · rw [decide_eq_false hzin]
        have hgood : goodR l o z := ⟨hin, hzin, hnode.1, hnode.2⟩
        go_upto_region 8 with fail
        have hs14 := HB4.out.size
        have HOT := Lib.hid (fun (W : World) (hb : Only (fun b => b = g6) w4 W) => others_any f A n c l o W ((HR4.out.below (hb.below hs14 fun b hb' e => by omega)).more (by have := hb.size; omega)) HOK.out hin)
        rw [← HDD.out] at HOT
        have hbs : ∀ (ty : TypeId) (W : World), True := fun _ _ => trivial
        obtain ⟨i0, hi0, hz0, hz1, hz2⟩ := info_parts ci_info
        have hdl : (dropL l o).length + 1 = n := by have := dropL_len l o HOK.out.pair hin; have := HZN.out; omega
        have hok2 := HOK.out.repl hin hzin hnode.1 hnode.2
        have hpd := dropL_pair o HOK.out.pair
        have hnd : ¬ z ∈ dropL l o := fun hm => hzin (dropL_mem.1 hm).1
        have HOK2 := Lib.hid hok2
        have HPD := Lib.hid hpd
        have HND := Lib.hid hnd
        obtain ⟨dl, hdle⟩ : ∃ dl, dl = dropL l o := ⟨_, rfl⟩
        have HDLE := Lib.hid hdle
        unfold replL at HOK2
        rw [← hdle] at HOT hdl HPD HND HOK2
        obtain ⟨k, hk⟩ : ∃ k, k = dl.length := ⟨_, rfl⟩
        rw [← hk] at HOT hdl
        have HKK := Lib.hid hk
        have HDL := Lib.hid hdl
        clear hok2 hpd hnd hdle hk hdl
        refine wp_region_loud 13 42 (fun jx W v => match jx with
          | 0 => v = .pointer (some ⟨g, 0, none⟩)
          | 1 => v = .int .i64 (f : Int)
          | 2 => v = .agg D
          | 3 => v = .int .i64 o
          | 4 => ∃ g2 cap y, v = .slice (some ⟨g2, 0, none⟩) k cap ∧ w4.heap.size ≤ g2 ∧ RowN W g2 cap (dl ++ [y])
          | 5 => v = .int .i64 z
          | 6 => ∃ g9, v = .slice (some ⟨g9, 0, none⟩) 1 1 ∧ w4.heap.size ≤ g9 ∧ Blk W g9 3 #[.int .i64 z]
          | 7 => ∃ g2 cap, v = .slice (some ⟨g2, 0, none⟩) n cap ∧ w4.heap.size ≤ g2 ∧ RowN W g2 cap (dl ++ [z])
          | 8 => ∃ A' c', v = .tuple #[.agg (crC f A' n c'), .int .i64 0] ∧ OwnN W w4.heap.size (.slice A' n c') (insL z dl)
          | 9 => ∃ A' c', v = .agg (crC f A' n c') ∧ OwnN W w4.heap.size (.slice A' n c') (insL z dl)
          | 10 => v = .int .i64 0
          | 11 => True
          | _ => v = .int .i64 0) (RpSt w4 g6 f n (insL z dl)) (fun W W' => PutAt dl z W W' ∨ Turned g6 W W') [7, 11] [31, 32, 33, 34, 35, 36, 37, 38, 39, 40, 41, 7] (by kernel_rfl) (by kernel_rfl) (by kernel_rfl) (by kernel_rfl) (by simp) (by kernel_rfl) (fun jx => ?last) ?lastR (fun s W W' h1 h2 => h1.below h2) ⟨Only.refl _ _, fun _ => HO4.out, fun h => by omega⟩ ?heads ?_
        case last =>
          match jx with
          | 0 | 1 | 2 | 3 | 5 | 10 | 11 | jx + 12 => exact Lasts.pure _
          | 4 => exact fun W W' v ⟨g2, cap, y, h1, h2, h3⟩ hb => ⟨g2, cap, y, h1, h2, h3.below hb h3.lt⟩
          | 6 => exact fun W W' v ⟨g9, h1, h2, h3⟩ hb => ⟨g9, h1, h2, h3.below' hb⟩
          | 7 => exact fun W W' v ⟨g2, cap, h1, h2, h3⟩ hb => ⟨g2, cap, h1, h2, h3.below hb h3.lt⟩
          | 8 | 9 => exact fun W W' v ⟨A', c', h1, h2⟩ hb => ⟨A', c', h1, h2.below_ hb⟩
        case lastR =>
          intro s jx W W' v hsl hs hj hp hR
          have hg6w : g6 < w4.heap.size := HO4.out.lt
          match jx with
          | 0 | 1 | 2 | 3 | 5 | 10 | 11 | jx + 12 => exact hp
          | 4 =>
            obtain ⟨g2, cap, y, h1, h2, h3⟩ := hp
            rcases hR with hR | hR
            · obtain ⟨y', h4⟩ := h3.put hR
              exact ⟨g2, cap, y', h1, h2, h4⟩
            · exact ⟨g2, cap, y, h1, h2, h3.keep (hR.block g2 (by omega))⟩
          | 6 =>
            obtain ⟨g9, h1, h2, h3⟩ := hp
            rcases hR with hR | hR
            · exact ⟨g9, h1, h2, one_put h3 hR⟩
            · exact ⟨g9, h1, h2, (hR.block g9 (by omega)).trans h3⟩
          | 7 =>
            obtain ⟨g2, cap, h1, h2, h3⟩ := hp
            rcases hR with hR | hR
            · exact ⟨g2, cap, h1, h2, h3.putz hR⟩
            · exact ⟨g2, cap, h1, h2, h3.keep (hR.block g2 (by omega))⟩
          | 8 | 9 =>
            obtain ⟨A', c', h1, h2⟩ := hp
            rcases hR with hR | hR
            · exact ⟨A', c', h1, own_put HND.out h2 hR⟩
            · exact ⟨A', c', h1, h2.keep_ fun b hb => hR.block b (fun e => by have := h2.ge_ hb; omega)⟩
        case heads =>
          simp only [List.take_succ_cons, List.take_zero]
          refine ⟨?_, ?_, ?_, ?_, ?_, ?_, ?_, ?_, ?_, ?_, ?_, ?_, ?_, trivial⟩
          · rw [if_neg (by decide)]
            intro s a W hj hkp hd
            have e0 : a.tmps[3]?.getD undef = .pointer (some ⟨g, 0, none⟩) := hkp.get (by kernel_rfl) rfl
            exact rel_value rfl (.pointer (some ⟨g, 0, none⟩)) (by go_simp) rfl
          · rw [if_neg (by decide)]
            intro s a W hj hkp hd
            have e0 : a.tmps[31]?.getD undef = .pointer (some ⟨g, 0, none⟩) := (hd 0 (by kernel_rfl)).get 31 rfl rfl
            have cc : W.cell? ⟨g, 0, none⟩ = some (.int .i64 (f : Int)) := ((hj.only.blk HK4.out hgg).cell 0).trans C0.out
            exact rel_value rfl (.int .i64 (f : Int)) (by go_simp) rfl
          · rw [if_neg (by decide)]
            intro s a W hj hkp hd
            have e0 : a.eval (.tmp 3) = .pointer (some ⟨g, 0, none⟩) := by have := hkp.at_ (d := 3) (by kernel_rfl); rw [this]; rfl
            exact rel_value rfl (.agg D) (exec_load_part 85 (.tmp 3) rfl g 0 2 e0 85 _ D _ (hj.only.blk HK4.out hgg) Tryz.underlying85 rfl rfl hsz (fun _ _ => by rw [Nat.zero_add])) rfl
          · rw [if_neg (by decide)]
            intro s a W hj hkp hd
            have e0 : a.tmps[1]?.getD undef = .int .i64 o := hkp.get (by kernel_rfl) rfl
            exact rel_value rfl (.int .i64 o) (by go_simp) rfl
          · rw [if_neg (by decide)]
            intro s a W hj hkp hd
            have e0 : a.tmps[33]?.getD undef = .agg D := (hd 2 (by kernel_rfl)).get 33 rfl rfl
            have e1 : a.tmps[34]?.getD undef = .int .i64 o := (hd 3 (by kernel_rfl)).get 34 rfl rfl
            refine rel_call rfl 152 #[.agg D, .int .i64 o] (by go_simp) ((HOT.out W hj.only).mono ?_)
            rintro e w' ⟨v, rfl, ⟨g2, cap, rfl, hg2, hr⟩, hb⟩
            exact ⟨_, rfl, hb, g2, cap, 0, rfl, by have := hj.only.size; omega, hr⟩
          · rw [if_neg (by decide)]
            intro s a W hj hkp hd
            have e0 : a.tmps[2]?.getD undef = .int .i64 z := hkp.get (by kernel_rfl) rfl
            exact rel_value rfl (.int .i64 z) (by go_simp) rfl
          · rw [if_neg (by decide)]
            intro s a W hj hkp hd
            have e0 : a.tmps[36]?.getD undef = .int .i64 z := (hd 5 (by kernel_rfl)).get 36 rfl rfl
            exact rel_exec rfl (.slice (some ⟨W.heap.size, 0, none⟩) 1 1) (W.alloc (.cells #[.int .i64 z] 3)) (by go_simp) (below_lit _ _) ⟨W.heap.size, rfl, hj.only.size, Blk.new W _ _⟩
          · rw [if_pos (by decide)]
            intro s a W hs hj hkp hd
            obtain ⟨g2, cap, y, e35, hg2, hr2⟩ := (hd 4 (by kernel_rfl)).get 35 rfl rfl
            obtain ⟨g9, e37, hg9, hr9⟩ := (hd 6 (by kernel_rfl)).get 37 rfl rfl
            have e35' : a.eval (.tmp 35) = .slice (some ⟨g2, 0, none⟩) k cap := by simpa [Act.eval] using e35
            have e37' : a.eval (.tmp 37) = .slice (some ⟨g9, 0, none⟩) 1 1 := by simpa [Act.eval] using e37
            have hcp := hr2.cap.1
            rw [List.length_append, List.length_singleton, ← HKK.out] at hcp
            have hkn : k + 1 = n := HDL.out
            have hk2 : k < (dl ++ [y]).length := by rw [List.length_append, ← HKK.out]; simp
            have happ : ∀ ty, (Builtin.append_ #[42, 42] ty #[.slice (some ⟨g2, 0, none⟩) k cap, .slice (some ⟨g9, 0, none⟩) 1 1]).run Tryz.prog W = .ok (.slice (some ⟨g2, 0, none⟩) n cap) (W.setCell ⟨g2, k, none⟩ (.int .i64 z)) := fun ty => by
              have := run_append_room_cells (P := Tryz.prog) W 42 ty 3 i0 Tryz.underlying42 hi0 g2 0 k cap ⟨g9, 0, none⟩ 1 1 [.int .i64 z] (by rw [hz1]; rfl) (fun j u hu => by
                match j, hu with
                | 0, hu => rw [← hu]; exact (hr9.cell 0).trans rfl) (fun u hu => by rw [List.mem_singleton.1 hu]; rfl) (by omega) (fun j hj => by
                  obtain rfl : j = 0 := by simpa using hj
                  rw [hz1, Nat.zero_add, Nat.mul_one, Nat.add_zero, hr2.at_ hk2]; rfl) (fun j hj => hr2.frozen _)
              rw [hz1, Nat.zero_add, Nat.mul_one, hkn] at this
              simpa [World.setCells] using this
            have hput : PutAt dl z W (W.setCell ⟨g2, k, none⟩ (.int .i64 z)) := ⟨g2, cap, y, hr2, by rw [← HKK.out]⟩
            have hset := hr2.set_ hk2 z
            rw [List.set_append, if_neg (by rw [← HKK.out]; omega), ← HKK.out, Nat.sub_self] at hset
            exact loud_exec rfl (.slice (some ⟨g2, 0, none⟩) n cap) (W.setCell ⟨g2, k, none⟩ (.int .i64 z)) (exec_append (s := .tmp 35) (x := .tmp 37) rfl e35' e37' (happ _)) (.inl hput) (hj.put (by omega) (by have := HO4.out.lt; omega) (by have := (List.getElem?_eq_some_iff.1 hs).1; simp at this; match s, hs, this with | 0, _, _ => rfl | 1, hs, _ => cases hs)) ⟨g2, cap, rfl, hg2, hset⟩
          · rw [if_neg (by decide)]
            intro s a W hj hkp hd
            have e0 : a.tmps[32]?.getD undef = .int .i64 (f : Int) := (hd 1 (by kernel_rfl)).get 32 rfl rfl
            obtain ⟨g2, cap, e1, hg2, hr2⟩ := (hd 7 (by kernel_rfl)).get 38 rfl rfl
            have hlen : (dl ++ [z]).length = n := by rw [List.length_append, ← HKK.out]; exact HDL.out
            have hrd := hr2.reads
            rw [hlen] at hrd
            refine rel_call rfl 151 #[.int .i64 (f : Int), .slice (some ⟨g2, 0, none⟩) n cap] (by go_simp) ((crMake_any f (some ⟨g2, 0, none⟩) n cap dl z W W.heap.size hrd (Nat.le_refl _) HPD.out HND.out HOK2.out).mono ?_)
            rintro e w' ⟨A', c', rfl, how, hb⟩
            have hln : (insL z dl).length = n := by rw [insL_len, ← HKK.out]; exact HDL.out
            exact ⟨_, rfl, hb, A', c', by rfl, OwnN.more how hj.only.size⟩
          · rw [if_neg (by decide)]
            intro s a W hj hkp hd
            obtain ⟨A', c', e0, how⟩ := (hd 8 (by kernel_rfl)).get 39 rfl rfl
            exact rel_value rfl (.agg (crC f A' n c')) (by go_simp) ⟨A', c', rfl, how⟩
          · rw [if_neg (by decide)]
            intro s a W hj hkp hd
            obtain ⟨A', c', e0, how⟩ := (hd 8 (by kernel_rfl)).get 39 rfl rfl
            exact rel_value rfl (.int .i64 0) (by go_simp) rfl
          · rw [if_pos (by decide)]
            intro s a W hs hj hkp hd
            obtain ⟨A', c', e0, how⟩ := (hd 9 (by kernel_rfl)).get 40 rfl rfl
            have e6 : a.eval (.tmp 6) = .pointer (some ⟨g6, 0, none⟩) := by have := hkp.at_ (d := 6) (by kernel_rfl); rw [this]; rfl
            have e40 : a.eval (.tmp 40) = .agg (crC f A' n c') := by simpa [Act.eval] using e0
            obtain rfl : s = 1 := by
              have := (List.getElem?_eq_some_iff.1 hs).1
              simp at this
              match s, hs, this with
              | 0, hs, _ => cases hs
              | 1, _, _ => rfl
            refine loud_store rfl 85 (.tmp 6) (.tmp 40) rfl g6 0 (crC f A' n c') e6 e40 85 _ (hj.zero (by omega)) (crC_info _ _ _ _) (by simp [crC]) (crC_one _ _ _ _) (fun W' hT hD => ⟨.inr hT, ?_, trivial⟩)
            rw [crC_spl] at hD
            exact ⟨hj.only.trans (Only.of_turned hT rfl), fun h => by omega, fun _ => ⟨A', c', hD, how.keep_ fun b hb => hT.block b (fun e => by have := how.ge_ hb; have := HO4.out.lt; omega)⟩⟩
          · rw [if_neg (by decide)]
            intro s a W hj hkp hd
            have e0 : a.tmps[41]?.getD undef = .int .i64 0 := (hd 10 (by kernel_rfl)).get 41 rfl rfl
            exact rel_value rfl (.int .i64 0) (by go_simp) rfl
        intro fv W hj hd
        have h7 : fv 7 = .int .i64 0 := hd 12 (by omega) _ 7 rfl rfl
        obtain ⟨A', c', hB6, how⟩ := hj.done rfl
        have HBW := Lib.hid (HB4.out.trans (hj.only.below (B := w.heap.size) hs14 fun b hb e => by omega))
        have HRL := Lib.hid (show insL z dl = replL l o z by rw [HDLE.out]; rfl)
        obtain ⟨E, hE⟩ : ∃ E, E = crC f A' n c' := ⟨_, rfl⟩
        have hEs : E.size = 2 := by rw [hE]; rfl
        rw [← hE] at hB6
        have HB6 := Lib.hid hB6
        have HOW := Lib.hid how
        have HE := Lib.hid hE
        simp only [putAll, List.drop_succ_cons, List.drop_nil, List.drop_zero, h7]
        clear hd hj hB6 how h7 HOT HK4 HO4 HR4 hE
        try simp only [Act.put, List.setIfInBounds_toArray, List.set_cons_zero, List.set_cons_succ]
        go_wp2_with fail
        refine bodyPost_ret (results_part2 rfl _ _ g6 2 85 _ _ rfl HB6.out Tryz.underlying85 rfl rfl hEs) rfl ⟨HBW.out, fun _ => ⟨A', n, c', by rw [HE.out]; rfl, ?_⟩, fun h => absurd hgood h⟩
        have ho := HOW.out
        rw [HRL.out] at ho
        exact OwnN.more ho hs14
    · rw [decide_eq_false hin]
      have hbad : ¬ goodR l o z := fun h => hin h.1
      go_wp2_with (refine wpList_store_part (o := ⟨none, _, _, _, _, _⟩) rfl 85 (.tmp 6) (.tmp 30) rfl g6 0 (crC 0 none 0 0) rfl rfl 85 _ HO3.out (crC_info _ _ _ _) (by simp [crC]) (crC_one _ _ _ _) ?_; intro w7 hT7 hD7; rw [crC_spl] at hD7)
      refine bodyPost_ret (results_part2 rfl _ _ g6 2 85 _ _ rfl hD7 Tryz.underlying85 rfl rfl rfl) rfl ⟨hT7.below HB3.out hgw6, fun h => absurd h hbad, fun _ => ⟨110, by omega, rfl⟩⟩
  · rw [decide_eq_false hnode] at HNO
    have hbad : ¬ goodR l o z := fun h => hnode h.2.2
    go_wp2_with fail
    refine HNO.out.mono ?_
    rintro _ _ ⟨rfl, rfl⟩
    go_wp2_with (refine wpList_store_part (o := ⟨none, _, _, _, _, _⟩) rfl 85 (.tmp 6) (.tmp 19) rfl g6 0 (crC 0 none 0 0) rfl rfl 85 _ HO2.out (crC_info _ _ _ _) (by simp [crC]) (crC_one _ _ _ _) ?_; intro w7 hT7 hD7; rw [crC_spl] at hD7)
    refine bodyPost_ret (results_part2 rfl _ _ g6 2 85 _ _ rfl hD7 Tryz.underlying85 rfl rfl rfl) rfl ⟨hT7.below HB2.out hgw6, fun h => absurd h hbad, fun _ => ⟨2, by omega, rfl⟩⟩

end Go.Proofs.YtdpoedgjehofiaaGreat

/- An atlas in memory. -/
namespace Go.Proofs.YtdpoedgjehofiaaGreat
set_option linter.unusedVariables false
set_option linter.unusedSimpArgs false
open Go.RowKit Go.Maps

structure ALoc where
  g : Nat
  gc : Nat
  T : TreeLoc
  k : Book
/-- what an atlas's calls may turn, of what stays -/
def ALoc.has (V : ALoc) (b : Nat) : Prop := b = V.g ∨ b = V.gc ∨ V.T.mut b ∨ V.k.has b
def ALoc.all (V : ALoc) (b : Nat) : Prop := b = V.g ∨ b = V.gc ∨ V.k.has b ∨ V.T.has b
/-- .. and of all; what N has not may be its own -/
def ALoc.hasN (V : ALoc) (N : Nat → Prop) (b : Nat) : Prop := V.has b ∨ ¬ N b
structure ASl where
  arr : Array Value
  cap : Nat
  fA : Nat → Option Addr
  fC : Nat → Nat
  nA : Nat → Option Addr
  nC : Nat → Nat
  mA : Nat → Option Addr
  mC : Nat → Nat
  lA : Nat → Option Addr
  lC : Nat → Nat
def mvCells : List (Int × Int) → List Value
  | [] => []
  | m :: t => vn m.1 :: vn m.2 :: mvCells t
theorem mvCells_len : ∀ l : List (Int × Int), (mvCells l).length = l.length * 2
  | [] => rfl
  | m :: t => by
    show (mvCells t).length + 2 = (t.length + 1) * 2
    rw [mvCells_len t]; omega
theorem mvCells_app : ∀ (a b : List (Int × Int)), mvCells (a ++ b) = mvCells a ++ mvCells b
  | [], _ => rfl
  | m :: t, b => by
    show vn m.1 :: vn m.2 :: mvCells (t ++ b) = _
    rw [mvCells_app t b]; rfl
theorem mvCells_get : ∀ (l : List (Int × Int)) (i : Nat) (h : i < l.length), (mvCells l)[i * 2]? = some (vn l[i].1) ∧ (mvCells l)[i * 2 + 1]? = some (vn l[i].2)
  | m :: t, 0, _ => ⟨rfl, rfl⟩
  | m :: t, i + 1, h => by
    have := mvCells_get t i (by simpa using h)
    rw [show (i + 1) * 2 = i * 2 + 1 + 1 by omega]
    exact this
def srvC (s : Srv) (S : ASl) (i : Nat) : Array Value := #[.int .i64 (s.f : Int), .slice (S.fA i) s.first.length (S.fC i), .int .i64 (s.f : Int), .slice (S.nA i) s.now.length (S.nC i), .slice (S.mA i) s.moves.length (S.mC i)]
def lastCq (S : ASl) (m : AM) (i : Nat) : Array Value := #[.int .i64 ((lastQ m i).1 : Int), .int .i64 ((lastQ m i).2.err : Int), .slice none 0 0, .int .i64 ((lastQ m i).2.epoch : Int), .slice (S.lA i) (lastQ m i).2.nodes.length (S.lC i)]
def aF (t : Option Addr) (gc : Nat) (m : AM) (S : ASl) (j : Nat) : Value :=
  if j = 0 then .pointer t else if j = 1 then .slice (some ⟨gc, 0, none⟩) m.chunks.length S.cap else (lastCq S m ((j - 2) / 5)).getD ((j - 2) % 5) undef
def aCs (t : Option Addr) (gc : Nat) (m : AM) (S : ASl) : Array Value := rng 22 (aF t gc m S)
theorem aCs_size (t : Option Addr) (gc : Nat) (m : AM) (S : ASl) : (aCs t gc m S).size = 22 := rng_size _ _
theorem aCs_at (t : Option Addr) (gc : Nat) (m : AM) (S : ASl) (j : Nat) (h : j < 22) : (aCs t gc m S)[j]? = some (aF t gc m S j) := rng_get _ _ _ h
theorem aCs_last (t : Option Addr) (gc : Nat) (m : AM) (S : ASl) (i j : Nat) (hi : i < 4) (hj : j < 5) : (aCs t gc m S)[2 + i * 5 + j]? = (lastCq S m i)[j]? := by
  rw [aCs_at _ _ _ _ _ (by omega)]
  unfold aF
  rw [if_neg (by omega), if_neg (by omega), show (2 + i * 5 + j - 2) / 5 = i by omega, show (2 + i * 5 + j - 2) % 5 = j by omega]
  have hs : (lastCq S m i).size = 5 := rfl
  rw [Array.getElem?_eq_getElem (by omega)]
  simp [Array.getD, hs, hj]
def IsMv (S : ASl) (n b : Nat) : Prop := ∃ i a, i < n ∧ S.mA i = some a ∧ a.block = b
/-- an atlas's fields; what is data lies outside N and the rows of moves; these lie outside N -/
structure ADat (w : World) (g gc : Nat) (t : Option Addr) (N : Nat → Prop) (m : AM) (S : ASl) : Prop where
  blk : Blk w g 116 (aCs t gc m S)
  row : Blk w gc 161 S.arr
  cap : S.arr.size = S.cap * 5 ∧ m.chunks.length ≤ S.cap ∧ S.cap ≤ maxLen
  srv : ∀ i s, m.chunks[i]? = some s → ∀ j, j < 5 → S.arr[i * 5 + j]? = (srvC s S i)[j]?
  first : ∀ i s, m.chunks[i]? = some s → FarN w (fun b => N b ∨ IsMv S m.chunks.length b) (S.fA i) (S.fC i) s.first
  now : ∀ i s, m.chunks[i]? = some s → FarN w (fun b => N b ∨ IsMv S m.chunks.length b) (S.nA i) (S.nC i) s.now
  nodes : ∀ i, i < 4 → FarN w (fun b => N b ∨ IsMv S m.chunks.length b) (S.lA i) (S.lC i) (lastQ m i).2.nodes
  mv : ∀ i s, m.chunks[i]? = some s → w.ownsRow 0 163 2 (.slice (S.mA i) s.moves.length (S.mC i)) s.moves.length (mvCells s.moves)
  mvN : ∀ b, IsMv S m.chunks.length b → ¬ N b
  mvap : ∀ i j a b, i < m.chunks.length → j < m.chunks.length → i ≠ j → S.mA i = some a → S.mA j = some b → a.block ≠ b.block
  gN : N g ∧ N gc
  ok : AOk m
theorem ADat.mlt {w : World} {g gc : Nat} {t : Option Addr} {N : Nat → Prop} {m : AM} {S : ASl} (h : ADat w g gc t N m S) {b : Nat} (hb : IsMv S m.chunks.length b) : b < w.heap.size := by
  obtain ⟨i, a, hi, ha, rfl⟩ := hb
  have hm := h.mv i _ (List.getElem?_eq_getElem hi)
  rw [ha] at hm
  exact (rowD_lt hm (b := a.block) (by
    rcases hm.2 with ⟨e, _⟩ | ⟨g', cap', cur', e, _⟩
    · cases e
    · injection e with e1
      injection e1 with e1
      rw [e1]; rfl)).2
theorem ADat.only {w w' : World} {g gc : Nat} {t : Option Addr} {N M : Nat → Prop} {m : AM} {S : ASl} (h : ADat w g gc t N m S) (ho : Only M w w') (hM : ∀ b, M b → N b) (hg : ¬ M g) (hgc : ¬ M gc) : ADat w' g gc t N m S :=
  ⟨ho.blk h.blk hg, ho.blk h.row hgc, h.cap, h.srv, fun i s hs => (h.first i s hs).only ho (fun b hb => .inl (hM b hb)), fun i s hs => (h.now i s hs).only ho (fun b hb => .inl (hM b hb)), fun i hi => (h.nodes i hi).only ho (fun b hb => .inl (hM b hb)), fun i s hs => rowD_keep (h.mv i s hs) (fun b hb => by
    have hi : i < m.chunks.length := (List.getElem?_eq_some_iff.1 hs).1
    have hl := (rowD_lt (h.mv i s hs) hb).2
    refine ho.block b hl fun hmb => ?_
    have hmv : IsMv S m.chunks.length b := by
      rcases (h.mv i s hs).2 with ⟨e, _⟩ | ⟨g', cap', cur', e, _⟩
      · rw [e] at hb; cases hb
      · rw [e] at hb
        injection e with e1
        exact ⟨i, ⟨g', 0, none⟩, hi, e1, by simpa [Value.ownBlock] using hb⟩
    exact h.mvN b hmv (hM b hmb)), h.mvN, h.mvap, h.gN, h.ok⟩
theorem ADat.below {w w' : World} {g gc : Nat} {t : Option Addr} {N : Nat → Prop} {m : AM} {S : ASl} (h : ADat w g gc t N m S) (hb : Below w.heap.size w w') : ADat w' g gc t N m S :=
  h.only (M := fun _ => False) (Only.of_below hb) (fun _ h => h.elim) (fun h => h) (fun h => h)
theorem ADat.mono {w : World} {g gc : Nat} {t : Option Addr} {N N' : Nat → Prop} {m : AM} {S : ASl} (h : ADat w g gc t N m S) (hN : ∀ b, b < w.heap.size → N' b → N b) (hg : N' g ∧ N' gc) : ADat w g gc t N' m S :=
  ⟨h.blk, h.row, h.cap, h.srv, fun i s hs => (h.first i s hs).mono (fun b hb hn => hn.imp (hN b hb) id), fun i s hs => (h.now i s hs).mono (fun b hb hn => hn.imp (hN b hb) id), fun i hi => (h.nodes i hi).mono (fun b hb hn => hn.imp (hN b hb) id), h.mv, fun b hb hn => h.mvN b hb (hN b (h.mlt hb) hn), h.mvap, hg, h.ok⟩
/-- an atlas, its tree, its book -/
structure AAt (w : World) (V : ALoc) (N : Nat → Prop) (m : AM) : Prop where
  dat : ∃ S, ADat w V.g V.gc (some ⟨V.T.t, 0, none⟩) N m S
  tree : TreeAt w V.T V.k (leavesQ m)
  far : V.g ≠ V.gc ∧ ¬ V.T.has V.g ∧ ¬ V.T.has V.gc ∧ ¬ V.k.has V.g ∧ ¬ V.k.has V.gc
  all : ∀ b, V.all b → N b
theorem ADat.lt {w : World} {g gc : Nat} {t : Option Addr} {N : Nat → Prop} {m : AM} {S : ASl} (h : ADat w g gc t N m S) : g < w.heap.size ∧ gc < w.heap.size := ⟨h.blk.lt, h.row.lt⟩
theorem AAt.below {w w' : World} {V : ALoc} {N : Nat → Prop} {m : AM} (h : AAt w V N m) (hb : Below w.heap.size w w') : AAt w' V N m := by
  obtain ⟨S, hd⟩ := h.dat
  exact ⟨⟨S, hd.below hb⟩, h.tree.below hb, h.far, h.all⟩
theorem AAt.mono {w : World} {V : ALoc} {N N' : Nat → Prop} {m : AM} (h : AAt w V N m) (hN : ∀ b, b < w.heap.size → N' b → N b) (hall : ∀ b, V.all b → N' b) : AAt w V N' m := by
  obtain ⟨S, hd⟩ := h.dat
  exact ⟨⟨S, hd.mono hN ⟨hall _ (.inl rfl), hall _ (.inr (.inl rfl))⟩⟩, h.tree, h.far, hall⟩
theorem AAt.ok {w : World} {V : ALoc} {N : Nat → Prop} {m : AM} (h : AAt w V N m) : AOk m := by
  obtain ⟨S, hd⟩ := h.dat; exact hd.ok

end Go.Proofs.YtdpoedgjehofiaaGreat
