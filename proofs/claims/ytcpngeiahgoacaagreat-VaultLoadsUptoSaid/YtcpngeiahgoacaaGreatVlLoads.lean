/-
  VaultLoads: the law's walk.
-/
import Derived.Test.YtcpngeiahgoacaaGreatZ28
import Derived.Test.YtcpngeiahgoacaaGreatZ14
import Derived.Test.YtcpngeiahgoacaaGreatZ21
import Derived.BigRegion
namespace Go.Proofs.YtcpngeiahgoacaaGreat
set_option linter.unusedVariables false
set_option linter.unusedSimpArgs false
open Go.RowKit Go.Maps

attribute [local irreducible] wpList wpCalm

theorem exec_eql_nil {o : Oper} {a : Act} {W : World} (x : Operand) (u : TypeId) (ho : o.op = .binOp .eql 25 x (.const (.pointer none)) u) (P1 : Option Addr) (hx : a.eval x = .pointer P1) (b : Bool) (hb : P1.isNone = b) : (execOp a.eval o).run Tryz.prog W = .ok (.value (.bool b)) W := by
  subst hb
  have hc : a.eval (.const (.pointer none)) = .pointer none := rfl
  cases P1 <;> (unfold execOp; simp only [ho, hx, hc]; go_simp)

set_option maxRecDepth 100000 in
set_option maxHeartbeats 8000000 in
theorem vaultLoads_law (A : Option Addr) (n c : Nat) (xs : List UInt8) (A2 : Option Addr) (n2 c2 : Nat) (xss : List (List UInt8)) (w : World) (h : Reads w w.heap.size 1 A n (xs.map vb)) (hc : n ≤ c) (hn : n ≤ 1048576) (h2 : RowsC w w.heap.size A2 n2 xss) (hn2 : n2 ≤ 1048576) (hl : ∀ x, x ∈ xss → x.length ≤ 1048576) :
    Calls Tryz.prog 3 #[.slice A n c, .slice A2 n2 c2] w fun e w' => e = .returned (.bool true) ∧ Below w.heap.size w w' := by
  have HCB := Lib.hid (copyBytes_any A n c xs w w.heap.size h (Nat.le_refl _) (by omega))
  have H := Lib.hid h
  have H2 := Lib.hid h2
  have HL := Lib.hid hl
  have hxn : xs.length = n := by have := h.1; simpa using this
  have HXN := Lib.hid hxn
  have HXL := Lib.hid h2.1
  obtain ⟨i0, hi0, hz0, hz1, hz2⟩ := info_parts sl8_info
  clear h h2 hl hxn
  go_enter Tryz.func3, Tryz.ntmps3
  go_wp2_with fail
  refine HCB.out.mono ?_
  rintro _ w1 ⟨v, rfl, ho1, hb1⟩
  obtain ⟨A5, c5, rfl, hc5, _, _, _⟩ := own_slice_b ho1
  rw [HXN.out] at ho1 hc5 ⊢
  have HO1 := Lib.hid ho1
  have HB1 := Lib.hid hb1
  have hs1 := hb1.size
  clear ho1 hb1 HCB
  go_wp2_with fail
  go_loopw [6, 7] (fun pv iv wr => ∃ (i : Nat) (vs : List Value), i ≤ n2 ∧ iv = .int .i64 i ∧ OwnL wr w1.heap.size pv (xss.take i) vs ∧ Below w1.heap.size w1 wr) (fun _ iv _ => n2 - (intOf iv).toNat)
  case atStart => exact ⟨0, [], by omega, rfl, by rw [List.take_zero]; exact OwnL.nil _ _, Below.refl _ _⟩
  case round =>
    obtain ⟨i, vs, hi, rfl, hown, hbel⟩ := hrel
    have HB := Lib.hid hbel
    have HOW := Lib.hid hown
    have hsz := hbel.size
    by_cases hin : i < n2
    · skip
      --DONE-BEGIN
      have hinI : (i : Int) < (n2 : Int) := by omega
      have hil : i < xss.length := by have := HXL.out; omega
      have hx := List.getElem?_eq_getElem hil
      have hlm := HL.out _ (List.getElem_mem hil)
      obtain ⟨ad, hA, hadb, hcell⟩ := H2.out.2 (by omega)
      subst hA
      obtain ⟨Ak, mk, ck, hq, hrd, hmc⟩ := hcell i _ hx
      have htk : xss.take (i + 1) = xss.take i ++ [xss[i]] := List.take_succ_eq_append_getElem hil
      have htl : (xss.take i).length = i := by rw [List.length_take]; omega
      have HTK := Lib.hid htk
      have HTL := Lib.hid htl
      generalize xss[i] = x at hx hrd hlm HTK
      have hxm : x.length = mk := by have := hrd.1; simpa using this
      have hcx := (HB1.out.trans (hbel.mono hs1)).cell (show (ad.add i).block < w.heap.size by rw [block_of_add]; exact hadb) |>.trans hq
      have HCP := Lib.hid (copyBytes_any Ak mk ck x wr w.heap.size (hrd.below (HB1.out.trans (hbel.mono hs1))) (by omega) (by omega))
      have hvl : vs.length = i := by have := hown.row.1; omega
      obtain ⟨Ap, cp, hpv, hcp, hcpm, _, _⟩ := hown.slice
      rw [htl] at hpv hcp
      subst hpv
      have HVL := Lib.hid hvl
      have HXM := Lib.hid hxm
      clear hx hrd hlm hcell hq hown hbel htk htl hvl hxm
      go_wp2_with fail
      refine HCP.out.mono ?_
      rintro _ w3 ⟨u, rfl, hou, hb3⟩
      obtain ⟨Au, cu, hu, _⟩ := own_slice_b hou
      rw [HXM.out] at hu
      have hs3 := hb3.size
      have HOU := Lib.hid (hou.more (B' := w1.heap.size) hsz)
      have HB3 := Lib.hid hb3
      have HW := Lib.hid (show (w3.alloc (.cells #[u] 22)).ownsRow w1.heap.size 22 1 _ i vs from by
        have := (rowD_keep HOW.out.row (w' := w3) fun b hb'' => hb3.block b (rowD_lt HOW.out.row hb'').2).alloc (.cells #[u] 22)
        rw [HTL.out] at this
        exact this)
      have HR3 := Lib.hid (reads_cells w3 #[u] 22)
      rw [hu] at HW HR3 ⊢
      have HU := Lib.hid hu
      clear hb3 hu hou HCP
      go_wp2_with (at_builtin; go_must (refine wpList_append_any _ rfl (.tmp 27) (.tmp 33) 23 rfl w1.heap.size 22 i0 _ 1 24 Tryz.underlying23 hi0 hz0 hz1 hz2 rfl (by omega) _ i vs rfl HW.out (w3.heap.size + 1) (some ⟨w3.heap.size, 0, none⟩) 1 1 [.slice Au mk cu] rfl HR3.out ?c1 ?c2 ?c3 ?c4 ?_))
      case c1 => intro z hz; rw [List.mem_singleton] at hz; subst hz; rfl
      case c2 => unfold maxLen; omega
      case c3 => omega
      case c4 => simp; omega
      intro v6 w6 hown6 hg6 hor6
      rw [← HU.out] at hown6 hg6
      have ho6 : OwnL w6 w1.heap.size v6 (xss.take (i + 1)) (vs ++ [u]) := by
        rw [HTK.out]
        exact HOW.out.push HB3.out HOU.out (by rw [HTL.out]; exact hown6) hg6
      have hb6 : Below w1.heap.size w1 w6 := grown_below ((HB.out.trans (HB3.out.mono hsz)).trans ((below_lit w3 (.cells #[u] 22)).mono (by omega))) (by simp; omega) hg6 (fun b hb => (rowD_lt HOW.out.row hb).1)
      have HO6 := Lib.hid ho6
      have HB6 := Lib.hid hb6
      clear hown6 hg6 hor6 ho6 hb6
      go_wp2_with fail
      go_roundw
      case rel => exact ⟨i + 1, _, by omega, by go_num, HO6.out, HB6.out⟩
      case measure => simp [intOf]; omega
      --DONE-END
    · obtain rfl : i = n2 := by omega
      rw [List.take_of_length_le (by have := HXL.out; omega)] at hown
      obtain ⟨Ap, cp, hpv, hcp, hrows⟩ := hown.rowsC
      rw [HXL.out] at hpv hrows
      subst hpv
      have hvl : vs.length = i := by have := hown.row.1; have := HXL.out; omega
      obtain ⟨E, hE⟩ : ∃ x, x = wr.heap.size := ⟨_, rfl⟩
      have HE := Lib.hid hE
      have HOP := Lib.hid (hown.more (B' := w.heap.size) hs1)
      have HOI := Lib.hid (show OwnB wr w.heap.size (.slice A5 n c5) xs from HO1.out.below hbel)
      have HRP := Lib.hid hrows
      have HVL := Lib.hid hvl
      have HBR := Lib.hid (HB1.out.trans (hbel.mono hs1))
      have hrs := hbel.size
      clear hown hrows hbel hvl HO1 HB1 hE
      go_wp2_with fail
      refine (inkNew_any wr).mono ?_
      rintro _ w5 ⟨k, rfl, hbk, hkn, hb5⟩
      have hs5 := hb5.size
      have hri : Reads w5 w5.heap.size 1 A5 n (xs.map vb) := by
        have := (HOI.out.below hb5).reads.2.2.2.1
        exact this
      have HLD := Lib.hid (vLoad_any k [] 0 A5 n c5 xs w5 hbk (by omega) hri hc5 (by omega))
      obtain ⟨o1, ho1⟩ : ∃ o, o = (loadV xs).1 := ⟨_, rfl⟩
      obtain ⟨e1, he1⟩ : ∃ o, o = (loadV xs).2 := ⟨_, rfl⟩
      have hec := loadV_code xs
      rw [← ho1, ← he1] at hec
      have HEC := Lib.hid hec
      have HRL := fun (W : World) (hb : Below w.heap.size w W) => rLoad_any A n c xs W ((H.out.below hb).more hb.size) hc (by omega)
      rw [← ho1, ← he1] at HLD
      simp only [← ho1, ← he1] at HRL
      have HRL := Lib.hid HRL
      have HB5 := Lib.hid hb5
      have HKN := Lib.hid (show ∀ b, k.has b → wr.heap.size ≤ b by rintro b (e | e | e) <;> omega)
      clear hbk hkn hb5 hri ho1 he1 hec
      go_wp2_with fail
      refine HLD.out.mono ?_
      rintro e6 w6 h6
      obtain ⟨P1, rfl, hl1, hb6⟩ := LoadPost.gist (E := wr.heap.size) (B := wr.heap.size) h6 HEC.out hs5 HKN.out hs5
      have hs6 := hb6.size
      have HLA := Lib.hid hl1
      have HB6 := Lib.hid (HB5.out.trans hb6)
      have HRL1 := Lib.hid (HRL.out w6 (HBR.out.trans (HB6.out.mono (by omega))))
      clear h6 hl1 hb6 HLD HRL
      go_wp2_with fail
      refine HRL1.out.mono ?_
      rintro e7 w7 h7
      obtain ⟨P2, rfl, hl2, hb7⟩ := RLoadPost.gist (E := wr.heap.size) h7 HEC.out (by have := HB6.out.size; omega)
      have HLB := Lib.hid hl2
      have HLA7 := Lib.hid (HLA.out.below hb7)
      have hs67 := hb7.size
      have HB7 := Lib.hid (HB6.out.trans (hb7.mono (by have := HB6.out.size; omega)))
      clear h7 hl2 hb7 HRL1 HLA
      go_wp2_with fail
      refine (inkNew_any w7).mono ?_
      rintro _ w8 ⟨k2, rfl, hbk, hkn, hb8⟩
      have hs8 := hb8.size
      have hs7 := HB7.out.size
      have HB8 := Lib.hid (HB7.out.trans (hb8.mono hs7))
      have hrp : RowsC w8 w8.heap.size Ap i xss := (HRP.out.below (HB8.out)).more (by omega)
      have HOPN := Lib.hid (vOpen_any k2 [] 0 Ap i cp xss w8 hbk (by omega) hrp (by omega) (fun x hx => by have := HL.out x hx; omega))
      obtain ⟨o2, ho2⟩ : ∃ o, o = openV xss := ⟨_, rfl⟩
      have HRO := fun (W : World) (hb : Below w.heap.size w W) => rOpen_any A2 i c2 xss W ((H2.out.below hb).more hb.size) (fun x hx => by have := HL.out x hx; omega)
      rw [← ho2] at HOPN
      simp only [← ho2] at HRO
      have HRO := Lib.hid HRO
      have HKN2 := Lib.hid (show ∀ b, k2.has b → w7.heap.size ≤ b by rintro b (e | e | e) <;> omega)
      have HB78 := Lib.hid hb8
      clear hbk hkn hb8 hrp ho2
      go_wp2_with fail
      refine HOPN.out.mono ?_
      rintro e9 w9 h9
      obtain ⟨P3, rfl, hl3, hb9⟩ := OpenPost.gist (E := wr.heap.size) (B := w7.heap.size) h9 (by omega) HKN2.out hs8
      have hb79 := HB78.out.trans hb9
      have hs9 := hb79.size
      have HLA9 := Lib.hid (HLA7.out.below hb79)
      have HLB9 := Lib.hid (HLB.out.below hb79)
      have HLC9 := Lib.hid hl3
      have HB9 := Lib.hid (HB7.out.trans (hb79.mono hs7))
      have HRO9 := Lib.hid (HRO.out w9 (HBR.out.trans (HB9.out.mono (by omega))))
      clear h9 hl3 hb9 hb79 HOPN HRO HLA7 HLB
      go_wp2_with fail
      refine HRO9.out.mono ?_
      rintro e10 w10 h10
      obtain ⟨P4, rfl, hl4, hb10⟩ := ROpenPost.gist (E := wr.heap.size) h10 (by omega)
      have hs10 := hb10.size
      have HLA := Lib.hid (HLA9.out.below hb10)
      have HLB := Lib.hid (HLB9.out.below hb10)
      have HLC := Lib.hid (HLC9.out.below hb10)
      have HLD := Lib.hid hl4
      have HB10 := Lib.hid (HB9.out.trans (hb10.mono (by omega)))
      clear h10 hl4 hb10 HRO9 HLA9 HLB9 HLC9
      have hwr : w.heap.size ≤ wr.heap.size := HBR.out.size
      have hw10 : wr.heap.size ≤ w10.heap.size := HB10.out.size
      have hri : Reads w10 w10.heap.size 1 A5 n (xs.map vb) := by
        have := (HOI.out.below HB10.out).reads.2.2.2.1
        exact this
      have heb := eqBytes_any A5 A n n c5 c xs xs w10 _ _ hri ((H.out.below (HBR.out.trans (HB10.out.mono hwr))).more (B' := w10.heap.size) (by omega)) (by unfold maxLen; omega) (by unfold maxLen; omega)
      rw [decide_eq_true rfl] at heb
      have HEB := Lib.hid heb
      have HSL := Lib.hid (fun (W : World) (hb : Below w10.heap.size w10 W) => sameLeaves_all Ap A2 i cp i c2 xss xss W w10.heap.size ((HRP.out.below (HB10.out.trans (hb.mono hw10))).more (B' := w10.heap.size) hw10).rows ((H2.out.below (HBR.out.trans ((HB10.out.mono hwr).trans (hb.mono (by omega))))).more (B' := w10.heap.size) (by omega)).rows hb.size (by omega) (by omega) (fun x hx => by have := HL.out x hx; unfold maxLen; omega) (fun x hx => by have := HL.out x hx; unfold maxLen; omega))
      simp only [decide_true] at HSL
      have hn1 := HLA.out.none_
      have hn2' := HLC.out.none_
      have hec := HEC.out
      have hcd := codeV_ne o2
      obtain ⟨b1, hb1⟩ : ∃ b, b = o1.isNone := ⟨_, rfl⟩
      obtain ⟨b2, hb2⟩ : ∃ b, b = o2.isNone := ⟨_, rfl⟩
      rw [← hb1] at hn1 hec
      rw [← hb2] at hn2' hcd
      have HB1 := Lib.hid hb1
      have HB2 := Lib.hid hb2
      have HN1 := Lib.hid hn1
      have HN2 := Lib.hid hn2'
      obtain ⟨cd, hcde⟩ : ∃ x, x = codeV o2 := ⟨_, rfl⟩
      rw [← hcde] at hcd ⊢
      clear hri heb hn1 hn2' hb1 hb2 hcde
      go_upto_region 13 with (first
        | (refine wpList_exec_want (o := ⟨some 62, _, _, _, _, _⟩) (wanted_at (j := 3) (d := 60) (b := false) rfl rfl (by first | rfl | simp)) (.bool b1) (exec_eql_nil (.tmp 61) _ rfl P1 rfl b1 HN1.out) ?_)
        | (refine wpList_exec_want (o := ⟨some 74, _, _, _, _, _⟩) (wanted_at (j := 15) (d := 72) (b := false) rfl rfl (by first | rfl | simp)) (.bool b2) (exec_eql_nil (.tmp 73) _ rfl P3 rfl b2 HN2.out) ?_))
      refine HEB.out.mono ?_
      rintro _ w11 ⟨rfl, q, hq⟩
      have hb11 : Below w10.heap.size w10 w11 := hq ▸ below_drewN (Below.refl _ _) q
      have HSL1 := Lib.hid (HSL.out w11 hb11)
      have HB11 := Lib.hid hb11
      have hs11 := hb11.size
      clear hb11 hq HEB HSL
      go_wp2_with fail
      refine HSL1.out.mono ?_
      rintro _ w12 ⟨rfl, hb12⟩
      have HB12 := Lib.hid (HB11.out.trans (hb12.mono hs11))
      have hs12 := HB12.out.size
      have HBL := Lib.hid (HB10.out.trans (HB12.out.mono hw10))
      have hmut : MutSt w.heap.size E w12 w12 (.slice A5 n c5) n (.slice (Ap) i cp) vs := by
        have := MutSt.start HOI.out HOP.out HBL.out
        rw [HXN.out, ← HE.out] at this
        exact this
      have HMUT := Lib.hid hmut
      clear hb12 hmut HSL1
      go_wp2_with fail
      go_loopw [16] (fun jv W => ∃ j : Nat, j ≤ n ∧ jv = .int .i64 j ∧ MutSt w.heap.size E w12 W (.slice A5 n c5) n (.slice Ap i cp) vs) (fun jv _ => n - (intOf jv).toNat)
      case atStart => exact ⟨0, by omega, rfl, HMUT.out⟩
      case round =>
        obtain ⟨j, hj, rfl, hm⟩ := hrel
        have HM := Lib.hid hm
        by_cases hj1 : j < n
        · rcases hm.inb with h0 | ⟨gi, cap, cur, hv, hBk, hcur⟩
          · omega
          injection hv with hv1 _ hv3
          have hmid := hm.ib gi (by rw [hv1]; rfl)
          have HMID := Lib.hid hmid
          obtain ⟨u, hu⟩ := hcur j hj1
          have hcell := (hBk.cell j).trans hu
          have hfz := hBk.frozen j
          unfold vb at hcell
          have hv : (bi u + 1) % 256 = bi (u + 1) := bump_byte u
          have HBk := Lib.hid hBk
          have hA5 : A5 = some ⟨gi, 0, none⟩ := hv1
          clear hBk hcur hu hm hmid hv1 hv3
          subst hA5
          go_wp2_with fail
          go_roundw
          case rel => exact ⟨j + 1, by omega, by go_num, HM.out.put HMID.out HBk.out j (u + 1)⟩
          case measure => simp [intOf]; omega
        · obtain rfl : j = n := by omega
          clear hm
          go_wp2_with fail
          have HM0 := Lib.hid HM.out
          go_loopw [17] (fun qv W => ∃ q : Nat, q ≤ i ∧ qv = .int .i64 q ∧ MutSt w.heap.size E w12 W (.slice A5 j c5) j (.slice Ap i cp) vs) (fun qv _ => i - (intOf qv).toNat)
          case atStart => exact ⟨0, by omega, rfl, HM0.out⟩
          clear HM0 HM
          case round =>
            obtain ⟨q, hq, rfl, hm⟩ := hrel
            have HM := Lib.hid hm
            by_cases hq1 : q < i
            · have hqI : (q : Int) < (i : Int) := by omega
              obtain ⟨gp, hAp⟩ := hm.first HVL.out (by omega)
              subst hAp
              have hql : q < vs.length := by have := HVL.out; omega
              have hvq := List.getElem?_eq_getElem hql
              generalize vs[q] = uq at hvq
              obtain ⟨hc, A', m', c', hu, _, _, hmx⟩ := hm.at_ hvq HVL.out
              have hmx' : m' ≤ 9223372036854775807 := by unfold maxLen at hmx; omega
              subst hu
              have HVQ := Lib.hid hvq
              clear hm hvq hmx
              go_wp2_with fail
              go_loopw [18] (fun kv W => ∃ k : Nat, k ≤ m' ∧ kv = .int .i64 k ∧ MutSt w.heap.size E w12 W (.slice A5 j c5) j (.slice (some ⟨gp, 0, none⟩) i cp) vs) (fun kv _ => m' - (intOf kv).toNat)
              case atStart => exact ⟨0, by omega, rfl, HM.out⟩
              clear HM hc
              case round =>
                obtain ⟨k, hk, rfl, hm⟩ := hrel
                have HM := Lib.hid hm
                obtain ⟨hc, A'', m'', c'', hu, hI, hB, _⟩ := hm.at_ HVQ.out HVL.out
                injection hu with e1 e2 e3
                subst e1 e2 e3
                by_cases hk1 : k < m'
                · have hkI : (k : Int) < (m' : Int) := by omega
                  rcases hI with h0 | ⟨gi, cap, cur, hv, hBk, hcur⟩
                  · omega
                  injection hv with hv1 _ hv3
                  have hmid := hB gi (by rw [hv1]; rfl)
                  have HMID := Lib.hid hmid
                  obtain ⟨u, hu⟩ := hcur k hk1
                  have hcell := (hBk.cell k).trans hu
                  have hfz := hBk.frozen k
                  unfold vb at hcell
                  have hv : (bi u + 1) % 256 = bi (u + 1) := bump_byte u
                  have HBk := Lib.hid hBk
                  clear hBk hcur hu hm hmid hv3 hB
                  subst hv1
                  go_wp2_with fail
                  go_region
                  go_wp2_with fail
                  go_roundw
                  case rel => exact ⟨k + 1, by omega, by go_num, by first | exact HM.out.put HMID.out HBk.out k (u + 1) | exact (HM.out.put HMID.out HBk.out k (u + 1)).drewN _⟩
                  case measure => simp [intOf]; omega
                · obtain rfl : k = m' := by omega
                  have hkI : ¬ (k : Int) < (k : Int) := by omega
                  clear hm hI hB
                  go_wp2_with fail
                  go_roundw
                  case rel => exact ⟨q + 1, by omega, by go_num, HM.out⟩
                  case measure => simp [intOf]; omega
            · obtain rfl : q = i := by omega
              have hqI : ¬ (q : Int) < (q : Int) := by omega
              clear hm
              obtain ⟨WW, hWW⟩ : ∃ WW, WW = wr := ⟨_, rfl⟩
              rw [← hWW] at HM ⊢
              clear hWW
              have HLW := Lib.hid (HM.out.low ((HBR.out.trans (HBL.out.mono hwr))) (by omega))
              have HLA2 := Lib.hid ((HLA.out.below HB12.out).mut HM.out.only (by rw [HE.out]; exact Nat.le_refl _))
              have HLB2 := Lib.hid ((HLB.out.below HB12.out).mut HM.out.only (by rw [HE.out]; exact Nat.le_refl _))
              have HLC2 := Lib.hid ((HLC.out.below HB12.out).mut HM.out.only (by rw [HE.out]; exact Nat.le_refl _))
              have HLD2 := Lib.hid ((HLD.out.below HB12.out).mut HM.out.only (by rw [HE.out]; exact Nat.le_refl _))
              have hsw := HLW.out.size
              have hsame1 : b1 = false → ∀ W, Below WW.heap.size WW W → Calls Tryz.prog 16 #[.pointer P1, .pointer P2] W fun e w' => e = .returned (.bool true) ∧ Below W.heap.size W w' := fun hb W hbw => by
                cases hoo : o1 with
                | none => rw [hoo] at HB1; have := HB1.out; rw [hb] at this; cases this
                | some m =>
                  obtain ⟨V, q1, q2, _⟩ := HLA2.out.live m hoo
                  obtain ⟨g, S, q3, q4⟩ := HLB2.out.live m hoo
                  rw [q1, q3]
                  exact vsame_any W V _ m g S (q2.below hbw) (q4.at_.below hbw)
              have hsame2 : b2 = false → ∀ W, Below WW.heap.size WW W → Calls Tryz.prog 16 #[.pointer P3, .pointer P4] W fun e w' => e = .returned (.bool true) ∧ Below W.heap.size W w' := fun hb W hbw => by
                cases hoo : o2 with
                | none => rw [hoo] at HB2; have := HB2.out; rw [hb] at this; cases this
                | some m =>
                  obtain ⟨V, q1, q2, _⟩ := HLC2.out.live m hoo
                  obtain ⟨g, S, q3, q4⟩ := HLD2.out.live m hoo
                  rw [q1, q3]
                  exact vsame_any W V _ m g S (q2.below hbw) (q4.at_.below hbw)
              have HS1 := Lib.hid hsame1
              have HS2 := Lib.hid hsame2
              have HEC2 := Lib.hid hec
              clear HM HLA HLB HLC HLD HLA2 HLB2 HLC2 HLD2 hsame1 hsame2 hec
              have hec := HEC2.out
              cases b1 with
              | true =>
                cases b2 with
                | true =>
                  go_wp2_with fail
                  refine (vworks_any WW).mono ?_
                  rintro _ w20 ⟨rfl, hb20⟩
                  have HL20 := Lib.hid (HLW.out.trans (hb20.mono hsw))
                  clear hb20
                  go_wp2_with fail
                  go_ret
                  exact ⟨rfl, HL20.out⟩
                | false =>
                  go_wp2_with fail
                  refine (HS2.out (by first | trivial | rfl) WW (Below.refl _ _)).mono ?_
                  rintro _ w19 ⟨rfl, hb19⟩
                  have HL19 := Lib.hid (HLW.out.trans (hb19.mono hsw))
                  have hs19 := hb19.size
                  clear hb19
                  go_wp2_with fail
                  refine (vworks_any w19).mono ?_
                  rintro _ w20 ⟨rfl, hb20⟩
                  have HL20 := Lib.hid (HL19.out.trans (hb20.mono (by omega)))
                  clear hb20
                  go_wp2_with fail
                  go_ret
                  exact ⟨rfl, HL20.out⟩
              | false =>
                go_wp2_with fail
                refine (HS1.out (by first | trivial | rfl) WW (Below.refl _ _)).mono ?_
                rintro _ w18 ⟨rfl, hb18⟩
                have HL18 := Lib.hid (HLW.out.trans (hb18.mono hsw))
                have HB18 := Lib.hid hb18
                have hs18 := hb18.size
                clear hb18
                cases b2 with
                | true =>
                  go_wp2_with fail
                  refine (vworks_any w18).mono ?_
                  rintro _ w20 ⟨rfl, hb20⟩
                  have HL20 := Lib.hid (HL18.out.trans (hb20.mono (by omega)))
                  clear hb20
                  go_wp2_with fail
                  go_ret
                  exact ⟨rfl, HL20.out⟩
                | false =>
                  go_wp2_with fail
                  refine (HS2.out (by first | trivial | rfl) w18 HB18.out).mono ?_
                  rintro _ w19 ⟨rfl, hb19⟩
                  have HL19 := Lib.hid (HL18.out.trans (hb19.mono (by omega)))
                  have hs19 := hb19.size
                  clear hb19
                  go_wp2_with fail
                  refine (vworks_any w19).mono ?_
                  rintro _ w20 ⟨rfl, hb20⟩
                  have HL20 := Lib.hid (HL19.out.trans (hb20.mono (by omega)))
                  clear hb20
                  go_wp2_with fail
                  go_ret
                  exact ⟨rfl, HL20.out⟩

end Go.Proofs.YtcpngeiahgoacaaGreat
