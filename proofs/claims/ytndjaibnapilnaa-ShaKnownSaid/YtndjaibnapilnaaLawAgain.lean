/-
  ShaAgain: the law's walk.
-/
import Derived.Test.YtndjaibnapilnaaLawOnes
import Derived.Test.YtndjaibnapilnaaCopy
import Derived.Test.YtndjaibnapilnaaBeside
namespace Go.Proofs.Ytndjaibnapilnaa
set_option linter.unusedVariables false
open Go.RowKit

set_option maxRecDepth 100000 in
set_option maxHeartbeats 2000000 in
theorem again_law (A : Option Addr) (n c : Nat) (xs : List UInt8) (A2 : Option Addr) (n2 c2 : Nat) (xs2 : List UInt8) (w : World) (B : Nat) (h : Reads w B 1 A n (xs.map vb)) (h2 : Reads w B 1 A2 n2 (xs2.map vb)) (hB : B ≤ w.heap.size) (hc : n ≤ c) (hcm : c ≤ maxLen) (hc2 : n2 ≤ c2) (hcm2 : c2 ≤ maxLen) :
    Calls Try.prog 5 #[.slice A n c, .slice A2 n2 c2] w fun e w' => e = .returned (.bool true) ∧ Below w.heap.size w w' := by
  have hnot : ∀ (x : Bool) (w : World), (Op.unary .not (.bool x)).run Try.prog w = .ok (.bool (!x)) w := fun _ _ => rfl
  obtain ⟨m, hm⟩ : ∃ m, m = min n 2000 := ⟨_, rfl⟩
  have hm1 : m ≤ n := by omega
  have hm2 : m ≤ 2000 := by omega
  have hmc : m ≤ c := by omega
  obtain ⟨k, hk⟩ : ∃ k, k = min n2 2000 := ⟨_, rfl⟩
  have hk1 : k ≤ n2 := by omega
  have hk2 : k ≤ 2000 := by omega
  have hkc : k ≤ c2 := by omega
  have hr0 := h.to (cap := c) hm1 hc
  have hsl0 := fun W => run_slice_to (P := Try.prog) (t := 22) (e := 5) rfl rfl A n c m (m : Int) rfl (by omega) W
  generalize (if c = 0 then A else A.map (·.add 0)) = A0 at hr0 hsl0
  have hq0 := h2.to (cap := c2) hk1 hc2
  have hsl1 := fun W => run_slice_to (P := Try.prog) (t := 22) (e := 5) rfl rfl A2 n2 c2 k (k : Int) rfl (by omega) W
  generalize (if c2 = 0 then A2 else A2.map (·.add 0)) = A1 at hq0 hsl1
  have hmin1 : (if (2000 : Int) < (n : Int) then (2000 : Int) else (n : Int)) = (m : Int) := by split <;> omega
  have hmin2 : (if 2000 < n then (2000 : Int) else (n : Int)) = (m : Int) := by split <;> omega
  have hmin3 : (if (2000 : Int) < (n2 : Int) then (2000 : Int) else (n2 : Int)) = (k : Int) := by split <;> omega
  have hmin4 : (if 2000 < n2 then (2000 : Int) else (n2 : Int)) = (k : Int) := by split <;> omega
  clear hm hk
  rw [← List.map_take] at hr0 hq0
  generalize xs.take m = ys at hr0
  generalize xs2.take k = zs at hq0
  have hyl : ys.length = m := by have := hr0.1; simpa using this
  have hzl : zs.length = k := by have := hq0.1; simpa using this
  have HYL := Lib.hid hyl
  have HZL := Lib.hid hzl
  have HR0 := Lib.hid hr0
  have HQ0 := Lib.hid hq0
  unfold maxLen at hcm hcm2
  clear hyl hzl hr0 hq0
  go_enter Try.func5, Try.ntmps5
  go_wp2_with fail
  refine (works_any w).mono ?_
  rintro _ w1 ⟨rfl, hb1⟩
  have hs1 := hb1.size
  go_upto_region 3 with fail
  go_quiet (fail)
  obtain ⟨W1, hW1⟩ : ∃ W1, W1 = w1.drewN nq := ⟨_, rfl⟩
  have hb1' := below_drewN hb1 nq
  rw [← hW1] at hb1' ⊢
  clear hW1
  have hsW := hb1'.size
  clear hmin1 hmin2 hmin3 hmin4 hsl0 hsl1 hb1 hs1
  go_wp2_with fail
  refine (new_any W1).mono ?_
  rintro _ w2 ⟨rfl, hH2, hb2, hs2⟩
  go_wp2_with fail
  refine (new_any w2).mono ?_
  rintro _ w3 ⟨rfl, hH3, hb3, hs3⟩
  have hH2' := hH2.below' hb3
  obtain ⟨g, hg⟩ : ∃ g, g = W1.heap.size := ⟨_, rfl⟩
  obtain ⟨q, hq⟩ : ∃ q, q = w2.heap.size := ⟨_, rfl⟩
  have hb3' := hb1'.trans ((hb2.mono hsW).trans (hb3.mono (by omega)))
  rw [← hq] at hH3 hs2 ⊢
  rw [← hg] at hH2' hs2 hsW ⊢
  have hA2 : HashAt w3 g [] := .inr ⟨rfl, hH2'⟩
  have hA3 : HashAt w3 q [] := .inr ⟨rfl, hH3⟩
  have hgq : g ≠ q := by omega
  have hwg : w.heap.size ≤ g := by omega
  have hwq : w.heap.size ≤ q := by omega
  have HG := Lib.hid hA2
  have HQ := Lib.hid hA3
  have HBB := Lib.hid hb3'
  have hsz3 := hb3'.size
  clear hH2 hH2' hH3 hb2 hb3 hb3' hb1' hA2 hA3 hs2 hs3 hg hq hsW
  -- a's bytes into h
  have HS := Lib.hid (Src.of_below (g := g) (HR0.out.below (HBB.out.mono hB)) (by omega) (by omega))
  go_wp2_with fail
  refine (write_any g [] ys A0 m c w3 HG.out HS.out hmc (by unfold maxLen; omega) (by unfold maxLen; simp; omega)).mono ?_
  rintro _ w4 ⟨rfl, hH4, hg4⟩
  rw [List.nil_append] at hH4
  have HG := Lib.hid hH4
  have HQ := Lib.hid (HQ.out.beside hg4 (Ne.symm hgq))
  have HBB := Lib.hid (grown_below' HBB.out hsz3 hg4 hwg)
  have hs4 := HBB.out.size
  clear hH4 hg4 hsz3 HS
  -- first
  have hDs : ∀ l, (bRow (shaOf l)).size = 32 := fun l => by rw [bRow_size, shaOf_len]
  have DY := Lib.hid (hDs ys)
  have OY := Lib.hid (bRow_one (shaOf ys))
  have DZ := Lib.hid (hDs (ys ++ zs))
  have OZ := Lib.hid (bRow_one (shaOf (ys ++ zs)))
  have sY := fun W (h : HashAt W g ys) => summed_any g ys W h (by have := HYL.out; unfold maxLen; omega)
  have sZ := fun W (h : HashAt W g (ys ++ zs)) => summed_any g (ys ++ zs) W h (by have := HYL.out; have := HZL.out; unfold maxLen; simp; omega)
  have sQ := fun W (h : HashAt W q (ys ++ zs)) => summed_any q (ys ++ zs) W h (by have := HYL.out; have := HZL.out; unfold maxLen; simp; omega)
  have hof := fun W (h1 : Reads W B 1 A0 m (ys.map vb)) (h2 : B ≤ W.heap.size) => shaOf_any A0 m c ys W B h1 h2 hmc (by unfold maxLen; omega)
  have eY := eql_digest (shaOf ys) (shaOf ys) (shaOf_len _) (shaOf_len _)
  have eZ := eql_digest (shaOf (ys ++ zs)) (shaOf (ys ++ zs)) (shaOf_len _) (shaOf_len _)
  rw [beq_self_eq_true] at eY eZ
  have SY := Lib.hid sY
  have SZ := Lib.hid sZ
  have SQ := Lib.hid sQ
  have OF := Lib.hid hof
  have EY := Lib.hid eY
  have EZ := Lib.hid eZ
  clear hDs sY sZ sQ hof eY eZ
  generalize bRow (shaOf ys) = dy at DY OY SY OF EY
  generalize bRow (shaOf (ys ++ zs)) = dz at DZ OZ SZ SQ EZ
  go_wp2_with fail
  refine (SY.out w4 (.inl HG.out)).mono ?_
  rintro _ w5 ⟨rfl, hH5, hg5⟩
  have HG := Lib.hid hH5
  have HQ := Lib.hid (HQ.out.beside hg5 (Ne.symm hgq))
  have HBB := Lib.hid (grown_below' HBB.out hs4 hg5 hwg)
  have hs5 := HBB.out.size
  have hg5l : g < w5.heap.size := HashAt.lt (.inl HG.out)
  have hq5l := HQ.out.lt
  clear hH5 hg5 hs4
  go_wp2_with (first
    | (refine wpList_store_part rfl 25 (.tmp 7) (.tmp 35) rfl w5.heap.size 0 dy rfl rfl 25 _ (Blk.newAt rfl) (by rw [DY.out]; rfl) (by rw [DY.out]; simp) OY.out ?_; intro W6 hT6 hB6; rw [spl_self _ _ (by rw [DY.out]; simp)] at hB6)
    | fail)
  have hX6 : Below w5.heap.size w5 W6 := hT6.below ((Below.refl _ _).alloc (Nat.le_refl _) _) (Nat.le_refl _)
  have HG := Lib.hid (HashAt.below (.inl HG.out) hX6)
  have HQ := Lib.hid (HQ.out.below hX6)
  have HBB := Lib.hid (HBB.out.trans (hX6.mono hs5))
  have hs6 := HBB.out.size
  obtain ⟨e1, he1⟩ : ∃ e, e = w5.heap.size := ⟨_, rfl⟩
  rw [← he1] at hB6 hg5l hq5l hs5 ⊢
  have H1 := Lib.hid hB6
  clear hX6 hT6 hB6 he1
  -- again
  refine (SY.out W6 HG.out).mono ?_
  rintro _ w7 ⟨rfl, hH7, hg7⟩
  have HG := Lib.hid hH7
  have HQ := Lib.hid (HQ.out.beside hg7 (Ne.symm hgq))
  have H1 := Lib.hid (H1.out.beside hg7 (by omega))
  have HBB := Lib.hid (grown_below' HBB.out hs6 hg7 hwg)
  have hs7 := HBB.out.size
  have hl1 := H1.out.lt
  clear hH7 hg7 hs6
  go_wp2_with (first
    | (refine wpList_store_part rfl 25 (.tmp 9) (.tmp 40) rfl w7.heap.size 0 dy rfl rfl 25 _ (Blk.newAt rfl) (by rw [DY.out]; rfl) (by rw [DY.out]; simp) OY.out ?_; intro W8 hT8 hB8; rw [spl_self _ _ (by rw [DY.out]; simp)] at hB8)
    | fail)
  have hX8 : Below w7.heap.size w7 W8 := hT8.below ((Below.refl _ _).alloc (Nat.le_refl _) _) (Nat.le_refl _)
  have HG := Lib.hid (HashAt.below (.inl HG.out) hX8)
  have HQ := Lib.hid (HQ.out.below hX8)
  have H1 := Lib.hid (H1.out.below' hX8)
  have HBB := Lib.hid (HBB.out.trans (hX8.mono hs7))
  have hs8 := HBB.out.size
  obtain ⟨e2, he2⟩ : ∃ e, e = w7.heap.size := ⟨_, rfl⟩
  rw [← he2] at hB8 hl1 hs7 ⊢
  have H2 := Lib.hid hB8
  clear hX8 hT8 hB8 he2
  -- b's bytes into h
  have HS := Lib.hid (Src.of_below (g := g) (HQ0.out.below (HBB.out.mono hB)) (by omega) (by omega))
  refine (write_any g ys zs A1 k c2 W8 HG.out HS.out hkc (by unfold maxLen; omega) (by have := HYL.out; unfold maxLen; omega)).mono ?_
  rintro _ w9 ⟨rfl, hH9, hg9⟩
  have HG := Lib.hid hH9
  have HQ := Lib.hid (HQ.out.beside hg9 (Ne.symm hgq))
  have H1 := Lib.hid (H1.out.beside hg9 (by omega))
  have H2 := Lib.hid (H2.out.beside hg9 (by omega))
  have HBB := Lib.hid (grown_below' HBB.out hs8 hg9 hwg)
  have hs9 := HBB.out.size
  clear hH9 hg9 hs8 HS
  -- second
  go_wp2_with fail
  refine (SZ.out w9 (.inl HG.out)).mono ?_
  rintro _ wa ⟨rfl, hHa, hga⟩
  have HG := Lib.hid hHa
  have HQ := Lib.hid (HQ.out.beside hga (Ne.symm hgq))
  have H1 := Lib.hid (H1.out.beside hga (by omega))
  have H2 := Lib.hid (H2.out.beside hga (by omega))
  have HBB := Lib.hid (grown_below' HBB.out hs9 hga hwg)
  have hsa := HBB.out.size
  have hl2 := H2.out.lt
  clear hHa hga hs9
  go_wp2_with (first
    | (refine wpList_store_part rfl 25 (.tmp 11) (.tmp 48) rfl wa.heap.size 0 dz rfl rfl 25 _ (Blk.newAt rfl) (by rw [DZ.out]; rfl) (by rw [DZ.out]; simp) OZ.out ?_; intro Wb hTb hBb; rw [spl_self _ _ (by rw [DZ.out]; simp)] at hBb)
    | fail)
  have hXb : Below wa.heap.size wa Wb := hTb.below ((Below.refl _ _).alloc (Nat.le_refl _) _) (Nat.le_refl _)
  have HG := Lib.hid (HashAt.below (.inl HG.out) hXb)
  have HQ := Lib.hid (HQ.out.below hXb)
  have H1 := Lib.hid (H1.out.below' hXb)
  have H2 := Lib.hid (H2.out.below' hXb)
  have HBB := Lib.hid (HBB.out.trans (hXb.mono hsa))
  have hsb := HBB.out.size
  obtain ⟨e3, he3⟩ : ∃ e, e = wa.heap.size := ⟨_, rfl⟩
  rw [← he3] at hBb hl2 hsa ⊢
  have H3 := Lib.hid hBb
  clear hXb hTb hBb he3
  -- both at once into the other
  have hqlt := HQ.out.lt
  have hrA := HR0.out.below (HBB.out.mono hB)
  refine (copyBytes_any A0 m c ys Wb B hrA (by omega) (by omega)).mono ?_
  rintro _ wc ⟨v1, rfl, hO1, hbc⟩
  have hsc := hbc.size
  have HBC := Lib.hid hbc
  have HO1 := Lib.hid hO1
  have HRB := Lib.hid ((HQ0.out.below (HBB.out.mono hB)).below (hbc.mono (by omega)))
  clear hO1 hbc hrA
  obtain ⟨i0, hi0, hz0, hz1, hz2⟩ := info_parts u8_info
  have HI0 := Lib.hid hi0
  have HZ0 := Lib.hid hz0
  have HZ1 := Lib.hid hz1
  have HZ2 := Lib.hid hz2
  clear hi0 hz0 hz1 hz2
  go_wp2_with (first
    | (at_builtin; go_must (refine wpList_append_any _ rfl (.tmp 52) (.tmp 53) 22 rfl Wb.heap.size 5 i0 _ 1 1 Try.underlying22 HI0.out HZ0.out HZ1.out HZ2.out rfl (by omega) v1 ys.length (ys.map vb) rfl HO1.out B A1 k c2 (zs.map vb) rfl HRB.out ?c1 ?c2 ?c3 ?c4 ?_))
    | fail)
  case c1 => intro u hu; obtain ⟨x, _, rfl⟩ := List.mem_map.1 hu; rfl
  case c2 => have := HYL.out; unfold maxLen; omega
  case c3 => have := HYL.out; omega
  case c4 => omega
  intro v2 wd hown2 hgd hord
  have hOd : OwnB wd Wb.heap.size v2 (ys ++ zs) := by
    unfold OwnB
    rw [List.map_append, List.length_append, HZL.out]
    exact hown2
  have hbd : Below Wb.heap.size Wb wd := grown_below HBC.out hsc hgd (fun b hb => HO1.out.ge hb)
  have HQ := Lib.hid (HQ.out.below hbd)
  have H1 := Lib.hid (H1.out.below' hbd)
  have H2 := Lib.hid (H2.out.below' hbd)
  have H3 := Lib.hid (H3.out.below' hbd)
  have hql := Nat.lt_of_lt_of_le HQ.out.lt (Nat.le_refl wd.heap.size)
  have HBB := Lib.hid (HBB.out.trans (hbd.mono hsb))
  have hsd := HBB.out.size
  obtain ⟨Ad, cd, rfl, hcd, hcd2, hrd, hge⟩ := own_slice_b hOd
  have HS := Lib.hid (Src.of_reads (g := q) hrd (Nat.le_refl _) (fun ad e => by have := hge ad e; omega))
  unfold maxLen at hcd2
  clear hown2 hgd hord hOd hbd hrd hge HBC HO1 HRB
  have hlen : (ys ++ zs).length ≤ 4000 := by have := HYL.out; have := HZL.out; simp; omega
  obtain ⟨len, hlen2⟩ : ∃ len, len = (ys ++ zs).length := ⟨_, rfl⟩
  rw [← hlen2] at hcd HS hlen ⊢
  have HLEN := Lib.hid hlen2
  clear hlen2
  go_wp2_with fail
  refine (write_any q [] (ys ++ zs) Ad len cd wd HQ.out HS.out hcd (by unfold maxLen; omega) (by unfold maxLen; simp; omega)).mono ?_
  rintro _ we ⟨rfl, hHe, hge⟩
  rw [List.nil_append] at hHe
  have HQ := Lib.hid hHe
  have H1 := Lib.hid (H1.out.beside hge (by omega))
  have H2 := Lib.hid (H2.out.beside hge (by omega))
  have H3 := Lib.hid (H3.out.beside hge (by omega))
  have HBB := Lib.hid (grown_below' HBB.out hsd hge hwq)
  have hse := HBB.out.size
  clear hHe hge hsd HS
  go_wp2_with fail
  refine (SQ.out we (.inl HQ.out)).mono ?_
  rintro _ wf ⟨rfl, hHf, hgf⟩
  have H1 := Lib.hid (H1.out.beside hgf (by omega))
  have H2 := Lib.hid (H2.out.beside hgf (by omega))
  have H3 := Lib.hid (H3.out.beside hgf (by omega))
  have HBB := Lib.hid (grown_below' HBB.out hse hgf hwq)
  have hsf := HBB.out.size
  clear hHf hgf hse
  go_upto_region 12 with (refine wpList_store_part rfl 25 (.tmp 13) (.tmp 59) rfl wf.heap.size 0 dz rfl rfl 25 _ (Blk.newAt rfl) (by rw [DZ.out]; rfl) (by rw [DZ.out]; simp) OZ.out ?_; intro Wg hTg hBg; rw [spl_self _ _ (by rw [DZ.out]; simp)] at hBg)
  have hXg : Below wf.heap.size wf Wg := hTg.below ((Below.refl _ _).alloc (Nat.le_refl _) _) (Nat.le_refl _)
  have h1 := H1.out.below' hXg
  have h2' := H2.out.below' hXg
  have h3 := H3.out.below' hXg
  have hBB := HBB.out.trans (hXg.mono hsf)
  have hrA := HR0.out.below (hBB.mono hB)
  have hsg := hBB.size
  obtain ⟨e4, he4⟩ : ∃ e, e = wf.heap.size := ⟨_, rfl⟩
  rw [← he4] at hBg ⊢
  clear he4 hXg hTg
  refine wp_region_calm0 26 87 (by kernel_rfl) (by kernel_rfl) (by kernel_rfl) (by simp) ?_
  simp only [List.take_succ_cons, List.take_zero, List.drop_succ_cons, List.drop_zero]
  refine wpCalm_value rfl rfl (.bool true) (fun W _ => by go_simp) ?_
  try simp only [Act.put, List.setIfInBounds_toArray, List.set_cons_zero, List.set_cons_succ]
  refine wpCalm_value rfl rfl (.bool true) (fun W _ => by go_simp) ?_
  try simp only [Act.put, List.setIfInBounds_toArray, List.set_cons_zero, List.set_cons_succ]
  refine wpCalm_value rfl rfl (.bool true) (fun W _ => by go_simp) ?_
  try simp only [Act.put, List.setIfInBounds_toArray, List.set_cons_zero, List.set_cons_succ]
  refine wpCalm_value rfl rfl (.bool true) (fun W _ => by go_simp) ?_
  try simp only [Act.put, List.setIfInBounds_toArray, List.set_cons_zero, List.set_cons_succ]
  refine wpCalm_value rfl rfl (.bool true) (fun W _ => by go_simp) ?_
  try simp only [Act.put, List.setIfInBounds_toArray, List.set_cons_zero, List.set_cons_succ]
  refine wpCalm_value rfl rfl (.bool true) (fun W _ => by go_simp) ?_
  try simp only [Act.put, List.setIfInBounds_toArray, List.set_cons_zero, List.set_cons_succ]
  refine wpCalm_value rfl rfl (.bool true) (fun W _ => by go_simp) ?_
  try simp only [Act.put, List.setIfInBounds_toArray, List.set_cons_zero, List.set_cons_succ]
  refine wpCalm_value rfl rfl (.bool true) (fun W _ => by go_simp) ?_
  try simp only [Act.put, List.setIfInBounds_toArray, List.set_cons_zero, List.set_cons_succ]
  refine wpCalm_value rfl rfl (.bool true) (fun W _ => by go_simp) ?_
  try simp only [Act.put, List.setIfInBounds_toArray, List.set_cons_zero, List.set_cons_succ]
  refine wpCalm_value rfl rfl (.bool true) (fun W _ => by go_simp) ?_
  try simp only [Act.put, List.setIfInBounds_toArray, List.set_cons_zero, List.set_cons_succ]
  refine wpCalm_value rfl rfl (.bool true) (fun W _ => by go_simp) ?_
  try simp only [Act.put, List.setIfInBounds_toArray, List.set_cons_zero, List.set_cons_succ]
  refine wpCalm_load_part rfl 25 (.tmp 7) rfl e1 0 32 rfl 25 _ dy _ h1 Try.underlying25 rfl rfl DY.out (fun _ _ => by rw [Nat.zero_add]) ?_
  try simp only [Act.put, List.setIfInBounds_toArray, List.set_cons_zero, List.set_cons_succ]
  refine wpCalm_value rfl rfl (.slice A0 m c) (fun W _ => rfl) ?_
  try simp only [Act.put, List.setIfInBounds_toArray, List.set_cons_zero, List.set_cons_succ]
  refine wpCalm_call rfl rfl 14 #[.slice A0 m c] (fun W => by go_simp) (.agg dy) (fun W hb => OF.out W (hrA.below (hb.mono (by omega))) (by have := hb.size; omega)) ?_
  try simp only [Act.put, List.setIfInBounds_toArray, List.set_cons_zero, List.set_cons_succ]
  refine wpCalm_value rfl rfl (.bool true) (fun W _ => exec_eql_agg 25 (.tmp 72) (.tmp 74) _ rfl dy dy rfl rfl eqg_digest _ (EY.out W)) ?_
  try simp only [Act.put, List.setIfInBounds_toArray, List.set_cons_zero, List.set_cons_succ]
  refine wpCalm_value rfl rfl (.bool true) (fun W _ => by go_simp) ?_
  try simp only [Act.put, List.setIfInBounds_toArray, List.set_cons_zero, List.set_cons_succ]
  refine wpCalm_value rfl rfl (.bool true) (fun W _ => by go_simp) ?_
  try simp only [Act.put, List.setIfInBounds_toArray, List.set_cons_zero, List.set_cons_succ]
  refine wpCalm_load_part rfl 25 (.tmp 9) rfl e2 0 32 rfl 25 _ dy _ h2' Try.underlying25 rfl rfl DY.out (fun _ _ => by rw [Nat.zero_add]) ?_
  try simp only [Act.put, List.setIfInBounds_toArray, List.set_cons_zero, List.set_cons_succ]
  refine wpCalm_load_part rfl 25 (.tmp 7) rfl e1 0 32 rfl 25 _ dy _ h1 Try.underlying25 rfl rfl DY.out (fun _ _ => by rw [Nat.zero_add]) ?_
  try simp only [Act.put, List.setIfInBounds_toArray, List.set_cons_zero, List.set_cons_succ]
  refine wpCalm_value rfl rfl (.bool true) (fun W _ => exec_eql_agg 25 (.tmp 78) (.tmp 79) _ rfl dy dy rfl rfl eqg_digest _ (EY.out W)) ?_
  try simp only [Act.put, List.setIfInBounds_toArray, List.set_cons_zero, List.set_cons_succ]
  refine wpCalm_value rfl rfl (.bool true) (fun W _ => by go_simp) ?_
  try simp only [Act.put, List.setIfInBounds_toArray, List.set_cons_zero, List.set_cons_succ]
  refine wpCalm_value rfl rfl (.bool true) (fun W _ => by go_simp) ?_
  try simp only [Act.put, List.setIfInBounds_toArray, List.set_cons_zero, List.set_cons_succ]
  refine wpCalm_load_part rfl 25 (.tmp 11) rfl e3 0 32 rfl 25 _ dz _ h3 Try.underlying25 rfl rfl DZ.out (fun _ _ => by rw [Nat.zero_add]) ?_
  try simp only [Act.put, List.setIfInBounds_toArray, List.set_cons_zero, List.set_cons_succ]
  refine wpCalm_load_part rfl 25 (.tmp 13) rfl e4 0 32 rfl 25 _ dz _ hBg Try.underlying25 rfl rfl DZ.out (fun _ _ => by rw [Nat.zero_add]) ?_
  try simp only [Act.put, List.setIfInBounds_toArray, List.set_cons_zero, List.set_cons_succ]
  refine wpCalm_value rfl rfl (.bool true) (fun W _ => exec_eql_agg 25 (.tmp 83) (.tmp 84) _ rfl dz dz rfl rfl eqg_digest _ (EZ.out W)) ?_
  try simp only [Act.put, List.setIfInBounds_toArray, List.set_cons_zero, List.set_cons_succ]
  refine wpCalm_value rfl rfl (.bool true) (fun W _ => by go_simp) ?_
  try simp only [Act.put, List.setIfInBounds_toArray, List.set_cons_zero, List.set_cons_succ]
  refine wpCalm_nil ?_
  intro Wh hbh
  have HB1 := Lib.hid (hBB.trans (hbh.mono hsg))
  clear hbh hBB hBg hrA h1 h2' h3
  go_wp2_with fail
  go_ret
  exact ⟨rfl, HB1.out⟩

end Go.Proofs.Ytndjaibnapilnaa
