/-
  The document's book: is there a clash?
-/
import Derived.Test.YtmklppomcpimaaaNoteBook
import Derived.Test.YtmklppomcpimaaaClashMath
import Derived.Test.YtmklppomcpimaaaCalm
namespace Go.Proofs.Ytmklppomcpimaaa
set_option linter.unusedVariables false
open Go.RowKit Go.Maps
attribute [local irreducible] wpCalm

theorem addInk_nodup {l : List (List UInt8)} {x : List UInt8} (h : l.Nodup) : (addInk l x).Nodup := by
  unfold addInk
  split
  · exact h
  · rename_i hx
    rw [List.nodup_append]
    exact ⟨h, by simp, fun a ha b hb => by rw [List.mem_singleton] at hb; subst hb; exact fun e => hx (e ▸ ha)⟩
def clear_ (l : List (List UInt8)) (i : Nat) : Prop := ∀ (a : Nat) (x : List UInt8), a < i → l[a]? = some x → shaOf x ≠ List.replicate 32 0 ∧ ∀ (k : Nat) (y : List UInt8), k < a → l[k]? = some y → shaOf x ≠ shaOf y
theorem clash_false {l : List (List UInt8)} (h : clear_ l l.length) : clashB l = false := by
  cases hc : clashB l with
  | false => rfl
  | true =>
    exfalso
    rcases (clashB_iff l).1 hc with ⟨x, hx, hz⟩ | ⟨x, y, hx, hy, hne, he⟩
    · obtain ⟨a, ha, rfl⟩ := List.getElem_of_mem hx
      exact (h a _ ha (List.getElem?_eq_getElem ha)).1 hz
    · obtain ⟨a, ha, rfl⟩ := List.getElem_of_mem hx
      obtain ⟨b, hb, rfl⟩ := List.getElem_of_mem hy
      rcases Nat.lt_trichotomy a b with hab | hab | hab
      · exact (h b _ hb (List.getElem?_eq_getElem hb)).2 a _ hab (List.getElem?_eq_getElem ha) he.symm
      · subst hab; exact hne rfl
      · exact (h a _ ha (List.getElem?_eq_getElem ha)).2 b _ hab (List.getElem?_eq_getElem hb) he
theorem clash_true {l : List (List UInt8)} (hn : l.Nodup) {i : Nat} (hi : i < l.length) (h : shaOf l[i] = List.replicate 32 0 ∨ ∃ k, ∃ hk : k < i, shaOf l[i] = shaOf (l[k]'(by omega))) : clashB l = true := by
  rw [clashB_iff]
  rcases h with h | ⟨k, hk, h⟩
  · exact .inl ⟨_, List.getElem_mem hi, h⟩
  · refine .inr ⟨_, _, List.getElem_mem hi, List.getElem_mem (show k < l.length by omega), fun e => ?_, h⟩
    exact (List.pairwise_iff_getElem.1 hn) k i (by omega) hi hk e.symm

set_option maxRecDepth 100000 in
set_option maxHeartbeats 2000000 in
theorem noteClash_any (w : World) {r B many : Nat} {lv : Value} {vs : List Value} {l : List (List UInt8)} (h : NoteAt w r B lv vs l many) (hnd : l.Nodup) (hbig : ∀ x, x ∈ l → x.length ≤ 65536) (hl : l.length ≤ 1000000) :
    Calls Try.prog 21 #[.pointer (some ⟨r, 0, none⟩)] w fun e w' => e = .returned (.bool (clashB l)) ∧ Below w.heap.size w w' := by
  have HN := Lib.hid h
  have HND := Lib.hid hnd
  have HBG := Lib.hid hbig
  clear h hnd hbig
  go_enter Try.func21, Try.ntmps21
  go_wp2_with fail
  go_loopw [3] (fun iv wr => ∃ i : Nat, i ≤ l.length ∧ iv = .int .i64 i ∧ clear_ l i ∧ Below w.heap.size w wr) (fun iv _ => l.length - (intOf iv).toNat)
  case atStart => exact ⟨0, by omega, rfl, fun a x ha => by omega, Below.refl _ _⟩
  case round =>
    obtain ⟨i, hi, rfl, hcl, hE⟩ := hrel
    have HCL := Lib.hid hcl
    have HE := Lib.hid hE
    have hse := hE.size
    clear hE hcl
    have HNE := Lib.hid (HN.out.below HE.out)
    obtain ⟨LA, Lc, hlv⟩ := HNE.out.shape
    have c0 : wr.cell? ⟨r, 0, none⟩ = some (.slice LA l.length Lc) := by rw [← hlv]; exact (HNE.out.cells.cell 0).trans rfl
    by_cases hil : i < l.length
    · obtain ⟨ad, cap, Ai, mi, ci, hlv', hcell, hmc, hcm, hri, hadb⟩ := HNE.out.at_ (List.getElem?_eq_getElem hil)
      rw [hlv] at hlv'
      injection hlv' with h1 h2 h3
      subst h1
      subst h3
      have hmi : l[i].length = mi := by have := hri.1; simpa using this
      have hmb : l[i].length ≤ 65536 := HBG.out _ (List.getElem_mem hil)
      have HRI := Lib.hid hri
      have HMI := Lib.hid hmi
      have hz : bRow (List.replicate 32 0) = #[.int .u8 0, .int .u8 0, .int .u8 0, .int .u8 0, .int .u8 0, .int .u8 0, .int .u8 0, .int .u8 0, .int .u8 0, .int .u8 0, .int .u8 0, .int .u8 0, .int .u8 0, .int .u8 0, .int .u8 0, .int .u8 0, .int .u8 0, .int .u8 0, .int .u8 0, .int .u8 0, .int .u8 0, .int .u8 0, .int .u8 0, .int .u8 0, .int .u8 0, .int .u8 0, .int .u8 0, .int .u8 0, .int .u8 0, .int .u8 0, .int .u8 0, .int .u8 0] := by kernel_rfl
      have z1 := eql_digest (shaOf l[i]) (List.replicate 32 0) (shaOf_len _) (by simp)
      rw [hz] at z1
      have hct := clash_true HND.out hil
      have HCI0 := Lib.hid (fun (W : World) (hb : Below wr.heap.size wr W) => (hb.cell (show (ad.add i).block < wr.heap.size by rw [block_of_add]; exact hadb)).trans hcell)
      have HSI0 := Lib.hid (fun (W : World) (hb : Below wr.heap.size wr W) => refOf_any Ai mi ci l[i] W wr.heap.size (hri.below hb) hb.size (by omega))
      generalize hx : l[i] = x at HRI HMI z1 hct hmb HSI0
      have HCT := Lib.hid hct
      have HX := Lib.hid hx
      clear hri hmi hz hct hx
      go_wp2_with fail
      refine (refOf_any Ai mi ci _ wr _ HRI.out (Nat.le_refl _) (by have := HMI.out; omega)).mono ?_
      rintro _ W5 ⟨rfl, hb5⟩
      have HE5 := Lib.hid (HE.out.trans (hb5.mono hse))
      have HEr := Lib.hid hb5
      have hs5 := hb5.size
      clear hb5
      by_cases hz0 : shaOf x = List.replicate 32 0
      · have HC1 := Lib.hid (HCT.out (.inl hz0))
        have hz2 : (shaOf x == List.replicate 32 0) = true := by rw [beq_iff_eq]; exact hz0
        rw [hz2] at z1
        clear hz0 hz2
        go_wp2_with fail
        go_ret
        exact ⟨by rw [HC1.out]; rfl, HE5.out⟩
      · have hz2 : (shaOf x == List.replicate 32 0) = false := by rw [beq_eq_false_iff_ne]; exact hz0
        rw [hz2] at z1
        have HZ0 := Lib.hid hz0
        clear hz0 hz2
        go_wp2_with fail
        go_loopw [4] (fun kv wr => ∃ k : Nat, k ≤ i ∧ kv = .int .i64 k ∧ (∀ (b : Nat) (y : List UInt8), b < k → l[b]? = some y → shaOf x ≠ shaOf y) ∧ Below W5.heap.size W5 wr) (fun kv _ => i - (intOf kv).toNat)
        case atStart => exact ⟨0, by omega, rfl, fun b y hb => by omega, Below.refl _ _⟩
        case round =>
          obtain ⟨k, hk, rfl, hno, hF⟩ := hrel
          have HNO := Lib.hid hno
          have HF := Lib.hid hF
          have hsf := hF.size
          clear hF hno
          by_cases hki : k < i
          · have hkl : k < l.length := by omega
            have HG := Lib.hid (HEr.out.trans (HF.out.mono hs5))
            have HNF := Lib.hid (HNE.out.below HG.out)
            obtain ⟨ad', cap', Ak, mk, ck, hlv', hcellk, hmck, hcmk, hrk, hadbk⟩ := HNF.out.at_ (List.getElem?_eq_getElem hkl)
            rw [hlv] at hlv'
            injection hlv' with h1 h2 h3
            injection h1 with h1
            subst h1
            have hmk : l[k].length = mk := by have := hrk.1; simpa using this
            have hmbk : l[k].length ≤ 65536 := HBG.out _ (List.getElem_mem hkl)
            have HC0 := Lib.hid (fun (W : World) (hb : Below wr.heap.size wr W) => (show W.cell? ⟨r, 0, none⟩ = some (.slice (some ad) l.length Lc) from (((HNF.out.below hb).cells.cell 0).trans (hlv ▸ rfl))))
            have HCI := Lib.hid (fun (W : World) (hb : Below wr.heap.size wr W) => HCI0.out W (HG.out.trans (hb.mono (by have := HG.out.size; omega))))
            have HCK := Lib.hid (fun (W : World) (hb : Below wr.heap.size wr W) => (hb.cell (show (ad.add k).block < wr.heap.size by rw [block_of_add]; exact hadbk)).trans hcellk)
            have HSI := Lib.hid (fun (W : World) (hb : Below wr.heap.size wr W) => HSI0.out W (HG.out.trans (hb.mono (by have := HG.out.size; omega))))
            have HSK := Lib.hid (fun (W : World) (hb : Below wr.heap.size wr W) => refOf_any Ak mk ck l[k] W wr.heap.size (hrk.below hb) hb.size (by omega))
            have EQ := Lib.hid (eql_digest (shaOf x) (shaOf l[k]) (shaOf_len _) (shaOf_len _))
            have HCT2 := Lib.hid (fun (he : shaOf x = shaOf l[k]) => HCT.out (.inr ⟨k, hki, he⟩))
            generalize hy : l[k] = y at HSK EQ HCT2
            have HY := Lib.hid hy
            clear h2 h3 hcellk hmck hcmk hrk hadbk hmk hmbk hy
            go_upto_region 9 with fail
            refine wp_region_calm0 16 46 (by kernel_rfl) (by kernel_rfl) (by kernel_rfl) (by simp) ?_
            simp only [List.take_succ_cons, List.take_zero, List.drop_succ_cons, List.drop_zero]
            refine wpCalm_value rfl rfl (.pointer (some ⟨r, 0, none⟩)) (fun W _ => rfl) ?_
            try simp only [Act.put, List.setIfInBounds_toArray, List.set_cons_zero, List.set_cons_succ]
            refine wpCalm_value rfl rfl (.pointer (some ⟨r, 0, none⟩)) (fun W _ => by go_simp) ?_
            try simp only [Act.put, List.setIfInBounds_toArray, List.set_cons_zero, List.set_cons_succ]
            refine wpCalm_value rfl rfl (.pointer (some ⟨r, 0, none⟩)) (fun W _ => by go_simp) ?_
            try simp only [Act.put, List.setIfInBounds_toArray, List.set_cons_zero, List.set_cons_succ]
            refine wpCalm_below rfl rfl (.slice (some ad) l.length Lc) (fun W hb => exec_load_one 22 (.tmp 31) rfl ⟨r, 0, none⟩ rfl (by kernel_rfl) _ (HC0.out W hb)) ?_
            try simp only [Act.put, List.setIfInBounds_toArray, List.set_cons_zero, List.set_cons_succ]
            refine wpCalm_value rfl rfl (.int .i64 (i : Int)) (fun W _ => rfl) ?_
            try simp only [Act.put, List.setIfInBounds_toArray, List.set_cons_zero, List.set_cons_succ]
            refine wpCalm_value rfl rfl (.pointer (some (ad.add i))) (fun W _ => by go_simp) ?_
            try simp only [Act.put, List.setIfInBounds_toArray, List.set_cons_zero, List.set_cons_succ]
            refine wpCalm_below rfl rfl (.slice Ai mi ci) (fun W hb => exec_load_one 32 (.tmp 34) rfl (ad.add i) rfl (by kernel_rfl) _ (HCI.out W hb)) ?_
            try simp only [Act.put, List.setIfInBounds_toArray, List.set_cons_zero, List.set_cons_succ]
            refine wpCalm_call rfl rfl 28 #[.slice Ai mi ci] (fun W => by go_simp) (.agg (bRow (shaOf x))) (fun W hb => HSI.out W hb) ?_
            try simp only [Act.put, List.setIfInBounds_toArray, List.set_cons_zero, List.set_cons_succ]
            refine wpCalm_value rfl rfl (.pointer (some ⟨r, 0, none⟩)) (fun W _ => rfl) ?_
            try simp only [Act.put, List.setIfInBounds_toArray, List.set_cons_zero, List.set_cons_succ]
            refine wpCalm_value rfl rfl (.pointer (some ⟨r, 0, none⟩)) (fun W _ => by go_simp) ?_
            try simp only [Act.put, List.setIfInBounds_toArray, List.set_cons_zero, List.set_cons_succ]
            refine wpCalm_value rfl rfl (.pointer (some ⟨r, 0, none⟩)) (fun W _ => by go_simp) ?_
            try simp only [Act.put, List.setIfInBounds_toArray, List.set_cons_zero, List.set_cons_succ]
            refine wpCalm_below rfl rfl (.slice (some ad) l.length Lc) (fun W hb => exec_load_one 22 (.tmp 39) rfl ⟨r, 0, none⟩ rfl (by kernel_rfl) _ (HC0.out W hb)) ?_
            try simp only [Act.put, List.setIfInBounds_toArray, List.set_cons_zero, List.set_cons_succ]
            refine wpCalm_value rfl rfl (.int .i64 (k : Int)) (fun W _ => rfl) ?_
            try simp only [Act.put, List.setIfInBounds_toArray, List.set_cons_zero, List.set_cons_succ]
            refine wpCalm_value rfl rfl (.pointer (some (ad.add k))) (fun W _ => by go_simp) ?_
            try simp only [Act.put, List.setIfInBounds_toArray, List.set_cons_zero, List.set_cons_succ]
            refine wpCalm_below rfl rfl (.slice Ak mk ck) (fun W hb => exec_load_one 32 (.tmp 42) rfl (ad.add k) rfl (by kernel_rfl) _ (HCK.out W hb)) ?_
            try simp only [Act.put, List.setIfInBounds_toArray, List.set_cons_zero, List.set_cons_succ]
            refine wpCalm_call rfl rfl 28 #[.slice Ak mk ck] (fun W => by go_simp) (.agg (bRow (shaOf y))) (fun W hb => HSK.out W hb) ?_
            try simp only [Act.put, List.setIfInBounds_toArray, List.set_cons_zero, List.set_cons_succ]
            refine wpCalm_nil ?_
            intro W1 hb1
            have HF1 := Lib.hid (HF.out.trans (hb1.mono hsf))
            clear hb1
            have eq1 := EQ.out
            by_cases he : shaOf x = shaOf y
            · have HC1 := Lib.hid (HCT2.out he)
              have hz2 : (shaOf x == shaOf y) = true := by rw [beq_iff_eq]; exact he
              rw [hz2] at eq1
              clear he hz2
              go_wp2_with fail
              go_ret
              exact ⟨by rw [HC1.out]; rfl, HE5.out.trans (HF1.out.mono (by omega))⟩
            · have hz2 : (shaOf x == shaOf y) = false := by rw [beq_eq_false_iff_ne]; exact he
              rw [hz2] at eq1
              have HNE2 := Lib.hid he
              clear he hz2
              go_wp2_with fail
              go_roundw
              case rel =>
                refine ⟨k + 1, by omega, by go_num, fun b y' hb hy' => ?_, HF1.out⟩
                rcases Nat.lt_or_ge b k with h | h
                · exact HNO.out b y' h hy'
                · obtain rfl : b = k := by omega
                  rw [List.getElem?_eq_getElem hkl] at hy'
                  injection hy' with hy'
                  rw [HY.out] at hy'
                  exact hy' ▸ HNE2.out
              case measure => simp [intOf]; omega
          · obtain rfl : k = i := by omega
            have hl3 : decide ((k : Int) < (k : Int)) = false := by simp
            have HE6 := Lib.hid (HE5.out.trans (HF.out.mono (by omega)))
            go_wp2_with fail
            go_roundw
            case rel =>
              refine ⟨k + 1, by omega, by go_num, fun a x' ha hx' => ?_, HE6.out⟩
              rcases Nat.lt_or_ge a k with h | h
              · exact HCL.out a x' h hx'
              · obtain rfl : a = k := by omega
                rw [List.getElem?_eq_getElem hil, HX.out] at hx'
                injection hx' with hx'
                subst hx'
                exact ⟨HZ0.out, fun b y hb hy => HNO.out b y hb hy⟩
            case measure => simp [intOf]; omega
    · obtain rfl : i = l.length := by omega
      have HC1 := Lib.hid (clash_false HCL.out)
      go_wp2_with fail
      go_ret
      exact ⟨by rw [HC1.out]; rfl, HE.out⟩

end Go.Proofs.Ytmklppomcpimaaa
