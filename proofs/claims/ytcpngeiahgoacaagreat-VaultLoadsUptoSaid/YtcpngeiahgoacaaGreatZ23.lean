/- Parts of the proof, in one text: VoD, LoadH, VoE, VoF. -/
import Derived.Test.YtcpngeiahgoacaaGreatZ20
import Derived.Test.YtcpngeiahgoacaaGreatZ22
import Derived.Test.YtcpngeiahgoacaaGreatZ8
import Derived.Test.YtcpngeiahgoacaaGreatZ14

/- Contract of vault.Open. -/
namespace Go.Proofs.YtcpngeiahgoacaaGreat
set_option linter.unusedVariables false
open Go.RowKit Go.Maps

attribute [local irreducible] wpList wpCalm
theorem loud_skip {P : Program} {ops : Array Oper} {o : Oper} {a : Act} {w : World} {R : World → World → Prop} {J : World → Prop} {p : World → Value → Prop} (hw : Region.wanted o (yielded ops a.tmps) = true) (w' : World) (he : (execOp a.eval o).run P w = .ok .skip w') (hR : R w w') (hJ : J w') (hp : p w' undef) : LoudOp P ops o a w R J p := fun K Q' hK => by
  rw [if_pos hw]
  unfold Oper.wp
  rw [he]
  exact hK undef w' hR hJ hp
/-- the vault's head is turned, field by field -/
structure HdSt (w3 : World) (g : Nat) (cs : Array Value) (W : World) : Prop where
  only : Only (fun b => b = g) w3 W
  blk : Blk W g 73 cs
theorem HdSt.below {w3 W W' : World} {g : Nat} {cs : Array Value} (h : HdSt w3 g cs W) (hb : Below W.heap.size W W') : HdSt w3 g cs W' := ⟨h.only.trans (Only.of_below hb), h.blk.below' hb⟩
theorem HdSt.set_ {w3 W : World} {g : Nat} {cs : Array Value} (h : HdSt w3 g cs W) (i : Nat) (v : Value) : HdSt w3 g (cs.setIfInBounds i v) (W.setCell ⟨g, i, none⟩ v) := ⟨h.only.trans (Only.of_turned (N := fun b => b = g) (Turned.setCell W ⟨g, i, none⟩ v) rfl), h.blk.set_ i v⟩
def hdC (cs : Array Value) (q e : Nat) (v : Value) : Nat → Array Value
  | 0 => cs
  | 1 => cs.setIfInBounds 1 (.int .i64 (q : Int))
  | 2 => (cs.setIfInBounds 1 (.int .i64 (q : Int))).setIfInBounds 2 (.int .i64 (e : Int))
  | _ => ((cs.setIfInBounds 1 (.int .i64 (q : Int))).setIfInBounds 2 (.int .i64 (e : Int))).setIfInBounds 19 v
theorem hdC_size (cs : Array Value) (q e : Nat) (v : Value) (s : Nat) : (hdC cs q e v s).size = cs.size := by
  unfold hdC
  split <;> simp
def OpenPost (w : World) (k : Book) (L : List (List UInt8)) (asked : Nat) (o : Option VM) (e : Ending) (w' : World) : Prop :=
  (o = none → e = .returned (.tuple #[.pointer none, .int .i64 2]) ∧ Below w.heap.size w w') ∧ (∀ m, o = some m → ∃ V : VLoc, e = .returned (.tuple #[.pointer (some ⟨V.g, 0, none⟩), .int .i64 0]) ∧ NewAt w w' k V L asked m)
/-- Open under way -/
structure OpSt (w : World) (g : Nat) (k : Book) (xss : List (List UInt8)) (i j : Nat) (wr : World) : Prop where
  raw : ∃ S, VRaw wr g none (fun b => b = g ∨ k.has b ∨ b < g) (midO xss i j) S
  b16 : ∀ q, q < i → (xss.getD q []).length = 16
  cl : ∀ q, q < j → (clientOf (xss.getD (8 + q) [])).isSome = true
  low : Below w.heap.size w wr
theorem openV_none {xss : List (List UInt8)} (h : ¬ (xss.length = 13 ∧ (∀ i, i < 8 → (xss.getD i []).length = 16) ∧ (∀ i, i < 4 → (clientOf (xss.getD (8 + i) [])).isSome = true))) : openV xss = none := by
  unfold openV; rw [if_neg h]

set_option maxRecDepth 100000 in
set_option maxHeartbeats 16000000 in
theorem vOpen_any (k : Book) (L : List (List UInt8)) (asked : Nat) (A : Option Addr) (n c : Nat) (xss : List (List UInt8)) (w : World) (hbk : BookAt w k L asked) (has : asked ≤ 600000) (hr : RowsC w w.heap.size A n xss) (hn : n ≤ 1000000000000) (hlx : ∀ x, x ∈ xss → x.length ≤ 1000000000000) :
    Calls Tryz.prog 12 #[.pointer (some ⟨k.g, 0, none⟩), .slice A n c] w (OpenPost w k L asked (openV xss)) := by
  have hxl := hr.1
  obtain ⟨o, ho⟩ : ∃ o, o = openV xss := ⟨_, rfl⟩
  rw [← ho]
  have HO := Lib.hid ho
  clear ho
  by_cases h13 : n = 13
  · have h13b : ((n : Int) != 13) = false := by simp [h13]
    obtain ⟨ad, hA, hadb, hcell⟩ := hr.2 (by omega)
    subst hA
    have HXL := Lib.hid (show xss.length = 13 by omega)
    have HBK := Lib.hid hbk
    have hkl := hbk.lt
    have HLX := Lib.hid hlx
    have HCELL := Lib.hid (fun (W : World) (hb : Below w.heap.size w W) (q : Nat) (hq : q < 13) => (show ∃ Ak mk ck, W.cell? (ad.add q) = some (.slice Ak mk ck) ∧ Reads W w.heap.size 1 Ak mk ((xss.getD q []).map vb) ∧ mk ≤ ck ∧ mk = (xss.getD q []).length ∧ mk ≤ 1000000000000 from by
      have hqx : q < xss.length := by omega
      obtain ⟨Ak, mk, ck, h1, h2, h3⟩ := hcell q xss[q] (List.getElem?_eq_getElem hqx)
      have e : xss.getD q [] = xss[q] := by rw [List.getD_eq_getElem?_getD, List.getElem?_eq_getElem hqx]; rfl
      rw [e]
      have hmk : xss[q].length = mk := by have := h2.1; simpa using this
      exact ⟨Ak, mk, ck, (hb.cell (by rw [block_of_add]; exact hadb)).trans h1, h2.below hb, h3, hmk.symm, by have := hlx _ (List.getElem_mem hqx); omega⟩))
    obtain ⟨g, hg⟩ : ∃ g, g = w.heap.size := ⟨_, rfl⟩
    have hRC := rawC
    have HST := Lib.hid (show OpSt w g k xss 0 0 (w.alloc (.cells (vC none rawV rawS) 73)) from ⟨⟨rawS, by rw [midO_zero]; exact VRaw.new w _ hg⟩, fun q h => by omega, fun q h => by omega, below_lit _ _⟩)
    have HRC := Lib.hid hRC
    have hgw : w.heap.size ≤ g := by omega
    have hgw2 : g ≤ w.heap.size := by omega
    clear hr hbk hlx hcell hRC hxl
    subst h13
    go_enter Tryz.func12, Tryz.ntmps12
    go_upto_region 4 with fail
    rw [← HRC.out]
    generalize World.alloc w _ = w1 at HST ⊢
    rw [← hg]
    clear hg
    go_wp2_with fail
    go_loopw [18] (fun iv wr => ∃ i : Nat, i ≤ 8 ∧ iv = .int .i64 i ∧ OpSt w g k xss i 0 wr) (fun iv _ => 8 - (intOf iv).toNat)
    case atStart => exact ⟨0, by omega, rfl, HST.out⟩
    case round =>
      obtain ⟨i, hi, rfl, hst⟩ := hrel
      have HS := Lib.hid hst
      have hlow := hst.low.size
      clear hst
      by_cases hin : i < 8
      · have hinI : (i : Int) < 8 := by omega
        have hin13 : (i : Int) < 13 := by omega
        have h0I : (0 : Int) ≤ (i : Int) := by omega
        obtain ⟨Ak, mk, ck, h1, h2, h3, h4, h5⟩ := HCELL.out wr HS.out.low i (by omega)
        obtain ⟨x, hx⟩ : ∃ x, x = xss.getD i [] := ⟨_, rfl⟩
        rw [← hx] at h2 h4
        have HX := Lib.hid hx
        have H4 := Lib.hid h4
        by_cases h16 : mk = 16
        · have h16b : ((mk : Int) != 16) = false := by simp [h16]
          obtain ⟨S, hraw⟩ := HS.out.raw
          have hgl := hraw.blk.lt
          have C1 := Lib.hid (fun (W : World) (hb : Below wr.heap.size wr W) => (hb.cell (show (ad.add i).block < wr.heap.size by rw [block_of_add]; omega)).trans h1)
          have HCL := Lib.hid (fun (W : World) (hb : Below wr.heap.size wr W) => cloneB_any Ak mk ck x W w.heap.size (h2.below (hb.mono hlow)) (by have := hb.size; omega) (by omega))
          have HRW := Lib.hid hraw
          subst h16
          clear h2 hx h4 hraw
          go_upto_region 9 with fail
          clear h1
          refine wp_region_rel' 10 90 (fun jx W v => match jx with
            | 0 => v = .pointer (some ⟨g, 0, none⟩)
            | 1 => v = .int .i64 (i : Int)
            | 2 => v = .slice (some ad) 13 c
            | 3 => v = .int .i64 (i : Int)
            | 4 => v = .pointer (some (ad.add i))
            | 5 => v = .slice Ak 16 ck
            | 6 => ∃ A' c', v = .slice A' 16 c' ∧ OwnB W wr.heap.size (.slice A' 16 c') x
            | 7 => v = .pointer (some ⟨g, 0, none⟩)
            | 8 => v = .pointer (some ⟨g, 3, none⟩)
            | _ => v = .pointer (some ⟨g, 3 + i, none⟩)) [27, 28, 29, 30, 31, 32, 33, 34, 35, 36] (by kernel_rfl) (by kernel_rfl) (by kernel_rfl) (by simp) (by kernel_rfl) (fun jx => ?last) ?heads ?_
          case last =>
            match jx with
            | 0 | 1 | 2 | 3 | 4 | 5 | 7 | 8 | jx + 9 => exact Lasts.pure _
            | 6 => exact fun W W' v ⟨A', c', h1, h2⟩ hb => ⟨A', c', h1, h2.below hb⟩
          case heads =>
            simp only [List.take_succ_cons, List.take_zero]
            refine ⟨fun a W hb hkp hd => ?_, fun a W hb hkp hd => ?_, fun a W hb hkp hd => ?_, fun a W hb hkp hd => ?_, fun a W hb hkp hd => ?_, fun a W hb hkp hd => ?_, fun a W hb hkp hd => ?_, fun a W hb hkp hd => ?_, fun a W hb hkp hd => ?_, fun a W hb hkp hd => ?_, trivial⟩
            · have e0 : a.tmps[6]?.getD undef = .pointer (some ⟨g, 0, none⟩) := hkp.get (by kernel_rfl) rfl
              exact rel_value rfl (.pointer (some ⟨g, 0, none⟩)) (by go_simp) rfl
            · have e0 : a.tmps[7]?.getD undef = .int .i64 (i : Int) := hkp.get (by kernel_rfl) rfl
              exact rel_value rfl (.int .i64 (i : Int)) (by go_simp) rfl
            · have e0 : a.tmps[1]?.getD undef = .slice (some ad) 13 c := hkp.get (by kernel_rfl) rfl
              exact rel_value rfl (.slice (some ad) 13 c) (by go_simp) rfl
            · have e0 : a.tmps[7]?.getD undef = .int .i64 (i : Int) := hkp.get (by kernel_rfl) rfl
              exact rel_value rfl (.int .i64 (i : Int)) (by go_simp) rfl
            · have e0 : a.tmps[29]?.getD undef = .slice (some ad) 13 c := (hd 2 (by kernel_rfl)).get 29 rfl rfl
              have e1 : a.tmps[30]?.getD undef = .int .i64 (i : Int) := (hd 3 (by kernel_rfl)).get 30 rfl rfl
              exact rel_value rfl (.pointer (some (ad.add i))) (by go_simp) rfl
            · have e0 : a.tmps[31]?.getD undef = .pointer (some (ad.add i)) := (hd 4 (by kernel_rfl)).get 31 rfl rfl
              have cc := C1.out W hb
              exact rel_value rfl (.slice Ak 16 ck) (by go_simp) rfl
            · have e0 : a.tmps[32]?.getD undef = .slice Ak 16 ck := (hd 5 (by kernel_rfl)).get 32 rfl rfl
              refine rel_call rfl 63 #[.slice Ak 16 ck] (by go_simp) ((HCL.out W hb).mono ?_)
              rintro e w ⟨v, rfl, ho, hb'⟩
              obtain ⟨A1, c1, hv, _⟩ := own_slice_b ho
              rw [← H4.out] at hv
              subst hv
              exact ⟨_, rfl, hb', A1, c1, rfl, ho.more hb.size⟩
            · have e0 : a.tmps[27]?.getD undef = .pointer (some ⟨g, 0, none⟩) := (hd 0 (by kernel_rfl)).get 27 rfl rfl
              exact rel_value rfl (.pointer (some ⟨g, 0, none⟩)) (by go_simp) rfl
            · have e0 : a.tmps[34]?.getD undef = .pointer (some ⟨g, 0, none⟩) := (hd 7 (by kernel_rfl)).get 34 rfl rfl
              exact rel_value rfl (.pointer (some ⟨g, 3, none⟩)) (by go_simp) rfl
            · have e0 : a.tmps[35]?.getD undef = .pointer (some ⟨g, 3, none⟩) := (hd 8 (by kernel_rfl)).get 35 rfl rfl
              have e1 : a.tmps[28]?.getD undef = .int .i64 (i : Int) := (hd 1 (by kernel_rfl)).get 28 rfl rfl
              exact rel_value rfl (.pointer (some ⟨g, 3 + i, none⟩)) (by go_simp) rfl
          intro f W hbW hd
          obtain ⟨A', c', hf33, ho33⟩ : ∃ A' c', f 33 = .slice A' 16 c' ∧ OwnB W wr.heap.size (.slice A' 16 c') x := hd 6 (by omega) _ 33 rfl rfl
          have f36 : f 36 = .pointer (some ⟨g, 3 + i, none⟩) := hd 9 (by omega) _ 36 rfl rfl
          have hrw := HRW.out.below hbW
          have cb : W.cell? ⟨g, 3 + i, none⟩ = some (.slice (S.bA i) (blockV (midO xss i 0) i).length (S.bC i)) := (hrw.blk.cell _).trans (vC_block _ _ _ i hin)
          have fb := hrw.blk.frozen (3 + i)
          have hT := Turned.setCell W ⟨g, 3 + i, none⟩ (.slice A' 16 c')
          obtain ⟨q1, q2, q3, q4, q5⟩ := ho33.reads
          have hrs := hbW.size
          have hfar : Far (W.setCell ⟨g, 3 + i, none⟩ (.slice A' 16 c')) (fun b => b = g ∨ k.has b ∨ b < g) A' c' x := by
            have hf0 : Far W (fun b => b = g ∨ k.has b ∨ b < g) A' c' x := ⟨by rw [← q1]; exact q4, by omega, fun a h0 ha hN => by
              have := q5 a ha
              rcases hN with e | (e | e | e) | e <;> omega⟩
            exact hf0.only (Only.of_turned (N := fun b => b = g) hT rfl) (fun b e => .inl e)
          have hB2 := hrw.blk.set_ (3 + i) (.slice A' 16 c')
          have hnew := hrw.setB (b := i) (d := x) (A := A') (c := c') hT (.inl rfl) (by rw [← q1]; exact hB2) hin hfar
          rw [HX.out, midO_block (by rw [HXL.out]; omega) hin] at hnew
          have HNX := Lib.hid (show OpSt w g k xss (i + 1) 0 (W.setCell ⟨g, 3 + i, none⟩ (.slice A' 16 c')) from ⟨⟨_, hnew⟩, fun q hq => by
            rcases Nat.lt_or_ge q i with h | h
            · exact HS.out.b16 q h
            · obtain rfl : q = i := by omega
              rw [← HX.out]; exact H4.out.symm, fun q hq => by omega, hT.below (HS.out.low.trans (hbW.mono hlow)) hgw⟩)
          simp only [putAll, List.drop_succ_cons, List.drop_zero, hf33, f36]
          clear hd hrw hT hfar hB2 hnew hbW ho33 q1 q2 q3 q4 q5
          try simp only [Act.put, List.setIfInBounds_toArray, List.set_cons_zero, List.set_cons_succ]
          go_wp2_with fail
          go_roundw
          case rel => exact ⟨i + 1, by omega, by go_num, HNX.out⟩
          case measure => simp [intOf]; omega
        · have h16b : ((mk : Int) != 16) = true := by simp; omega
          have ho : o = none := by
            rw [HO.out]
            refine openV_none fun hh => ?_
            have := hh.2.1 i hin
            rw [← HX.out, ← H4.out] at this
            exact h16 this
          subst ho
          clear h2 hx h4
          go_wp2_with fail
          go_ret2
          exact ⟨fun _ => ⟨rfl, HS.out.low⟩, fun m hm => by cases hm⟩
      · obtain rfl : i = 8 := by omega
        have hinI : ¬ (8 : Int) < 8 := by omega
        go_wp2_with fail
        go_loopw [38] (fun jv wr => ∃ j : Nat, j ≤ 4 ∧ jv = .int .i64 j ∧ OpSt w g k xss 8 j wr) (fun jv _ => 4 - (intOf jv).toNat)
        case atStart => exact ⟨0, by omega, rfl, HS.out⟩
        case round =>
          obtain ⟨j, hj, rfl, hst⟩ := hrel
          have HJ := Lib.hid hst
          have hlow := hst.low.size
          clear hst HS
          by_cases hjn : j < 4
          · have hjI : (j : Int) < 4 := by omega
            have h0I : (0 : Int) ≤ (j : Int) := by omega
            obtain ⟨Ak, mk, ck, h1, h2, h3, h4, h5⟩ := HCELL.out wr HJ.out.low (8 + j) (by omega)
            obtain ⟨x, hx⟩ : ∃ x, x = xss.getD (8 + j) [] := ⟨_, rfl⟩
            rw [← hx] at h2 h4
            have HX := Lib.hid hx
            have HCL := Lib.hid (vclient_any Ak mk ck x wr w.heap.size h2 hlow h3 (by omega))
            obtain ⟨p, hp⟩ : ∃ p, p = clientOf x := ⟨_, rfl⟩
            rw [← hp] at HCL
            have HPP := Lib.hid hp
            have h1' : wr.cell? (ad.add (8 + j)) = some (.slice Ak mk ck) := h1
            clear h2 hx h4 hp h1
            go_wp2_with fail
            refine HCL.out.mono ?_
            rintro _ w3 ⟨D, rfl, ⟨A3, c3, hDe, ho3⟩, hb3⟩
            obtain ⟨D2, hD2⟩ : ∃ D2, D2 = D := ⟨_, rfl⟩
            rw [← hD2] at hDe ⊢
            have hDs : D2.size = 2 := by rw [hDe]; rfl
            have hDo : D2.all (·.oneCell') = true := by rw [hDe]; simp [Value.oneCell']
            have HDS := Lib.hid hDs
            have HDO := Lib.hid hDo
            have HDE := Lib.hid hDe
            have HO3 := Lib.hid ho3
            obtain ⟨S, hraw⟩ := HJ.out.raw
            have hgl := hraw.blk.lt
            have HRW := Lib.hid (hraw.below hb3)
            have HL3 := Lib.hid (HJ.out.low.trans (hb3.mono hlow))
            have hs3 := hb3.size
            clear hDs hDo hDe ho3 hb3 HCL hraw h1' hD2
            go_upto_region 15 with (refine wpList_store_part (o := ⟨none, _, _, _, _, _⟩) rfl 70 (.tmp 9) (.tmp 48) rfl w3.heap.size 0 D2 rfl rfl 70 zLast (Blk.newAt rfl) (by rw [HDS.out]; kernel_rfl) (by rw [HDS.out]; simp [zLast]) HDO.out ?_; intro w5 hT5 hD5; rw [spl_self _ _ (by rw [HDS.out]; rfl)] at hD5)
            have hb5 : Below w3.heap.size w3 w5 := hT5.below ((Below.refl _ _).alloc (Nat.le_refl _) _) (Nat.le_refl _)
            obtain ⟨g9, hg9⟩ : ∃ g, g = w3.heap.size := ⟨_, rfl⟩
            rw [← hg9] at hD5 ⊢
            have HD5 := Lib.hid hD5
            have HRW5 := Lib.hid (HRW.out.below hb5)
            have HO5 := Lib.hid (HO3.out.below hb5)
            have HL5 := Lib.hid (HL3.out.trans (hb5.mono (by have := HL3.out.size; omega)))
            have hs5 := hb5.size
            clear hT5 hb5 hD5 hg9
            cases hpc : p with
            | none =>
              have ho : o = none := by
                rw [HO.out]
                refine openV_none fun hh => ?_
                have := hh.2.2 j hjn
                rw [← HX.out, ← HPP.out, hpc] at this
                cases this
              subst ho
              simp only [Option.isSome_none]
              go_wp2_with fail
              go_ret2
              exact ⟨fun _ => ⟨rfl, HL5.out⟩, fun m hm => by cases hm⟩
            | some y =>
              have hpe : (clientOf (xss.getD (8 + j) [])).getD (0, []) = y := by rw [← HX.out, ← HPP.out, hpc]; rfl
              have hpi : (clientOf (xss.getD (8 + j) [])).isSome = true := by rw [← HX.out, ← HPP.out, hpc]; rfl
              have hde := HDE.out
              rw [hpc] at hde HO5
              simp only [Option.getD_some] at hde HO5
              have HPE := Lib.hid hpe
              have HPI := Lib.hid hpi
              have HDE2 := Lib.hid hde
              simp only [Option.isSome_some]
              clear hpe hpi hde
              go_upto_region 17 with fail
              refine wp_region_calm0 6 90 (by kernel_rfl) (by kernel_rfl) (by kernel_rfl) (by simp) ?_
              simp only [List.take_succ_cons, List.take_zero, List.drop_succ_cons, List.drop_zero]
              refine wpCalm_value rfl rfl (.pointer (some ⟨g, 0, none⟩)) (fun W _ => rfl) ?_
              try simp only [Act.put, List.setIfInBounds_toArray, List.set_cons_zero, List.set_cons_succ]
              refine wpCalm_value rfl rfl (.int .i64 (j : Int)) (fun W _ => rfl) ?_
              try simp only [Act.put, List.setIfInBounds_toArray, List.set_cons_zero, List.set_cons_succ]
              refine wpCalm_load_part rfl 70 (.tmp 9) rfl g9 0 2 rfl 70 _ D2 _ HD5.out Tryz.underlying70 rfl rfl HDS.out (fun _ _ => by rw [Nat.zero_add]) ?_
              try simp only [Act.put, List.setIfInBounds_toArray, List.set_cons_zero, List.set_cons_succ]
              refine wpCalm_value rfl rfl (.pointer (some ⟨g, 0, none⟩)) (fun W _ => by go_simp) ?_
              try simp only [Act.put, List.setIfInBounds_toArray, List.set_cons_zero, List.set_cons_succ]
              refine wpCalm_value rfl rfl (.pointer (some ⟨g, 11, none⟩)) (fun W _ => by go_simp) ?_
              try simp only [Act.put, List.setIfInBounds_toArray, List.set_cons_zero, List.set_cons_succ]
              refine wpCalm_value rfl rfl (.pointer (some ⟨g, 11 + j * 2, none⟩)) (fun W _ => by go_simp) ?_
              try simp only [Act.put, List.setIfInBounds_toArray, List.set_cons_zero, List.set_cons_succ]
              refine wpCalm_nil ?_
              intro W hbW
              have hrw := HRW5.out.below hbW
              have HRWW := Lib.hid hrw
              have HOW := Lib.hid (HO5.out.below hbW)
              have HLW := Lib.hid (HL5.out.trans (hbW.mono (by have := HL5.out.size; omega)))
              have hsW := hbW.size
              clear hbW hrw
              go_wp2_with (refine wpList_store_part (o := ⟨none, _, _, _, _, _⟩) rfl 70 (.tmp 57) (.tmp 54) rfl g (11 + j * 2) D2 rfl rfl 73 _ HRWW.out.blk (by rw [HDS.out]; kernel_rfl) (by rw [HDS.out, vC_size]; omega) HDO.out ?_; intro w7 hT7 hD7)
              rw [HDE2.out] at hD7
              obtain ⟨q1, q2, q3, q4, q5⟩ := HOW.out.reads
              have hfar : Far w7 (fun b => b = g ∨ k.has b ∨ b < g) A3 c3 y.2 := by
                have hf0 : Far W (fun b => b = g ∨ k.has b ∨ b < g) A3 c3 y.2 := ⟨q4, ⟨q2, q3⟩, fun a h0 ha hN => by
                  have := q5 a ha
                  rcases hN with e | (e | e | e) | e <;> omega⟩
                exact hf0.only (Only.of_turned (N := fun b => b = g) hT7 rfl) (fun b e => .inl e)
              have hnew := HRWW.out.setL (j := j) (st := y.1) (d := y.2) (A := A3) (c := c3) hT7 (.inl rfl) hD7 hjn hfar
              have hme := midO_client (ls := xss) (i := 8) (j := j) hjn
              rw [HPE.out] at hme
              rw [hme] at hnew
              have HNX := Lib.hid (show OpSt w g k xss 8 (j + 1) w7 from ⟨⟨_, hnew⟩, HJ.out.b16, fun q hq => by
                rcases Nat.lt_or_ge q j with h | h
                · exact HJ.out.cl q h
                · obtain rfl : q = j := by omega
                  exact HPI.out, hT7.below HLW.out hgw⟩)
              clear hT7 hD7 q1 q2 q3 q4 q5 hfar hnew hme
              go_roundw
              case rel => exact ⟨j + 1, by omega, by go_num, HNX.out⟩
              case measure => simp [intOf]; omega
          · obtain rfl : j = 4 := by omega
            have hjI : ¬ (4 : Int) < 4 := by omega
            obtain ⟨Ak, mk, ck, h1, h2, h3, h4, h5⟩ := HCELL.out wr HJ.out.low 12 (by omega)
            have HPS := Lib.hid (vparse_any Ak mk ck (xss.getD 12 []) wr w.heap.size h2 hlow h3 h5)
            have hoe : o = match sealOf (xss.getD 12 []) with | none => none | some l => some (openM xss l) := by
              rw [HO.out]
              unfold openV
              rw [if_pos ⟨HXL.out, HJ.out.b16, HJ.out.cl⟩]
              cases sealOf (xss.getD 12 []) <;> rfl
            obtain ⟨sl, hsl⟩ : ∃ s, s = sealOf (xss.getD 12 []) := ⟨_, rfl⟩
            rw [← hsl] at HPS hoe
            have HSL := Lib.hid hsl
            have HOE := Lib.hid hoe
            clear h2 h4 hoe hsl
            have c12 : wr.cell? ⟨ad.block, ad.off + 12, none⟩ = some (.slice Ak mk ck) := by rw [show (⟨ad.block, ad.off + 12, none⟩ : Addr) = ad.add 12 by simp [Addr.add]]; exact h1
            clear h1
            go_wp2_with fail
            refine HPS.out.mono ?_
            rintro _ w3 ⟨v, ys, rfl, hoy, hys, hb3⟩
            have HYS := Lib.hid hys
            have HOY := Lib.hid hoy
            obtain ⟨S, hraw⟩ := HJ.out.raw
            have hgl := hraw.blk.lt
            have HRW := Lib.hid (hraw.below hb3)
            have HL3 := Lib.hid (HJ.out.low.trans (hb3.mono hlow))
            have hs3 := hb3.size
            obtain ⟨Ay, cy, hvy, hcy1, hcy2, hry, hgy⟩ := own_slice_n hoy
            subst hvy
            have HRY := Lib.hid hry
            have HGY := Lib.hid hgy
            clear hys hoy hb3 hraw hry hgy HPS c12
            cases hsc : sl with
            | none =>
              have ho : o = none := by rw [HOE.out, hsc]
              subst ho
              simp only [Option.isSome_none]
              go_wp2_with fail
              go_ret2
              exact ⟨fun _ => ⟨rfl, HL3.out⟩, fun m hm => by cases hm⟩
            | some l =>
              have ho : o = some (openM xss l) := by rw [HOE.out, hsc]
              have hyl : ys = nI l := HYS.out l hsc
              have hgs : goodSeal l := by
                have := HSL.out
                rw [hsc] at this
                unfold sealOf at this
                cases hn : numsV (xss.getD 12 []) with
                | none => rw [hn] at this; cases this
                | some l' =>
                  rw [hn] at this
                  simp only at this
                  by_cases hg : goodSeal l'
                  · rw [if_pos hg] at this; rw [Option.some.inj this]; exact hg
                  · rw [if_neg hg] at this; cases this
              have hok := openM_ok HXL.out HJ.out.b16 HJ.out.cl hgs
              subst hyl
              subst ho
              have HOK := Lib.hid hok
              have HGS := Lib.hid hgs
              obtain ⟨ln, hln⟩ : ∃ k, k = l.length := ⟨_, rfl⟩
              have hl3 : 3 ≤ ln := by rw [hln]; exact hgs.1
              rw [nI_len, ← hln] at HRY hcy1 ⊢
              have HLN := Lib.hid hln
              obtain ⟨ay, hay, haylt, hcell⟩ := HRY.out.2 (by omega)
              subst hay
              have cell : ∀ W, Below w3.heap.size w3 W → ∀ q, q < ln → W.cell? (ay.add q) = some (.int .i64 ((l.getD q 0 : Nat) : Int)) := fun W hb q hq => (hb.cell (by rw [block_of_add]; exact haylt)).trans (hcell q _ (by
                have hqd : q < l.length := by rw [← hln]; exact hq
                unfold nI
                rw [List.getElem?_map, List.getElem?_map, List.getElem?_eq_getElem hqd, List.getD_eq_getElem?_getD, List.getElem?_eq_getElem hqd]; rfl))
              have cy0 : ∀ W, Below w3.heap.size w3 W → W.cell? ay = some (.int .i64 ((l.getD 0 0 : Nat) : Int)) := fun W hb => by
                have := cell W hb 0 (by omega)
                rw [show ay.add 0 = ay by simp [Addr.add]] at this
                exact this
              have cy1 : ∀ W, Below w3.heap.size w3 W → W.cell? ⟨ay.block, ay.off + 1, none⟩ = some (.int .i64 ((l.getD 1 0 : Nat) : Int)) := fun W hb => by
                have := cell W hb 1 (by omega)
                rw [show ay.add 1 = ⟨ay.block, ay.off + 1, none⟩ by simp [Addr.add]] at this
                exact this
              have hbg : ay.block ≠ g := fun e => by have := HGY.out ay rfl; omega
              have CY0 := Lib.hid (fun (W : World) (h : Only (fun b => b = g) w3 W) => (h.cell (p := ay) haylt hbg).trans (cy0 w3 (Below.refl _ _)))
              have CY1 := Lib.hid (fun (W : World) (h : Only (fun b => b = g) w3 W) => (h.cell (p := ⟨ay.block, ay.off + 1, none⟩) haylt hbg).trans (cy1 w3 (Below.refl _ _)))
              have hsf := fun (W : World) => run_slice_from (P := Tryz.prog) (t := 42) (e := 3) Tryz.underlying42 (by kernel_rfl) (some ay) ln cy 3 3 rfl (by omega) W
              obtain ⟨A7, hA7⟩ : ∃ A7, A7 = (if cy = 3 then (some ay : Option Addr) else (some ay : Option Addr).map (·.add 3)) := ⟨_, rfl⟩
              rw [← hA7] at hsf
              have HSF := Lib.hid hsf
              have hrn := HRY.out.sub (l := 3) (k := ln) (cap := cy) (by omega) (Nat.le_refl _) hcy1
              rw [Nat.mul_one, Nat.mul_one, ← hA7] at hrn
              have e7 : (((nI l).map vn).drop 3).take (ln - 3) = (nI (l.drop 3)).map vn := by
                rw [List.take_of_length_le (by rw [List.length_drop, List.length_map, nI_len, ← HLN.out]; omega)]
                unfold nI
                rw [List.map_drop, List.map_drop]
              rw [e7] at hrn
              have hfar3 : FarN w3 (fun b => b = g ∨ k.has b ∨ b < g) A7 (cy - 3) (nI (l.drop 3)) := by
                have hdl : (nI (l.drop 3)).length = ln - 3 := by rw [nI_len, List.length_drop, ← HLN.out]
                refine ⟨by rw [hdl]; exact hrn, ⟨by rw [hdl]; omega, by omega⟩, fun a h0 ha hN => ?_⟩
                have hba : a.block = ay.block := by
                  rw [hA7] at ha
                  split at ha
                  · injection ha with ha; rw [← ha]
                  · simp only [Option.map_some] at ha
                    injection ha with ha
                    rw [← ha, block_of_add]
                have := HGY.out ay rfl
                rw [hba] at hN
                rcases hN with e | (e | e | e) | e <;> omega
              have HF3 := Lib.hid hfar3
              have HDL3 := Lib.hid (show (nI (l.drop 3)).length = ln - 3 by rw [nI_len, List.length_drop, ← HLN.out])
              obtain ⟨m3, hm3⟩ : ∃ q, q = ln - 3 := ⟨_, rfl⟩
              rw [← hm3] at HSF HDL3
              obtain ⟨q0, hq0⟩ : ∃ q, q = l.getD 0 0 := ⟨_, rfl⟩
              obtain ⟨q1, hq1⟩ : ∃ q, q = l.getD 1 0 := ⟨_, rfl⟩
              rw [← hq0] at CY0
              rw [← hq1] at CY1
              have HQ0 := Lib.hid hq0
              have HQ1 := Lib.hid hq1
              obtain ⟨cs, hcs⟩ : ∃ cs, cs = vC none (midO xss 8 4) S := ⟨_, rfl⟩
              have HCS := Lib.hid hcs
              have hcz : cs.size = 20 := by rw [hcs]; exact vC_size _ _ _
              have HJ0 := Lib.hid (show HdSt w3 g cs w3 from ⟨Only.refl _ _, by rw [hcs]; exact HRW.out.blk⟩)
              have HCZ := Lib.hid hcz
              have hlnI : (0 : Int) < (ln : Int) := by omega
              have hlnI1 : (1 : Int) < (ln : Int) := by omega
              have hln0 : ¬ ln = 0 := by omega
              have hln1 : 0 < ln := by omega
              clear hsf hA7 hrn e7 hfar3 hm3 hq0 hq1 hcs hcz
              simp only [Option.isSome_some]
              clear hok hgs hln hcell cell cy0 cy1
              go_upto_region 22 with fail
              refine wp_region_loud 20 90 (fun jx W v => match jx with
                | 0 => v = .pointer (some ⟨g, 0, none⟩)
                | 1 => v = .pointer (some ⟨g, 0, none⟩)
                | 2 => v = .pointer (some ⟨g, 0, none⟩)
                | 3 => v = .slice (some ay) ln cy
                | 4 => v = .pointer (some ay)
                | 5 => v = .int .i64 (q0 : Int)
                | 6 => v = .slice (some ay) ln cy
                | 7 => v = .pointer (some ⟨ay.block, ay.off + 1, none⟩)
                | 8 => v = .int .i64 (q1 : Int)
                | 9 => v = .slice (some ay) ln cy
                | 10 => v = .slice A7 m3 (cy - 3)
                | 11 => v = .pointer (some ⟨g, 0, none⟩)
                | 12 => v = .pointer (some ⟨g, 1, none⟩)
                | 13 => True
                | 14 => v = .pointer (some ⟨g, 0, none⟩)
                | 15 => v = .pointer (some ⟨g, 2, none⟩)
                | 16 => True
                | 17 => v = .pointer (some ⟨g, 0, none⟩)
                | 18 => v = .pointer (some ⟨g, 19, none⟩)
                | _ => True) (fun s W => HdSt w3 g (hdC cs q0 q1 (.slice A7 m3 (cy - 3)) s) W) (fun _ _ => True) [13, 16, 19] [68, 69, 70, 71, 72, 73, 74, 75, 76, 77, 78, 79, 80, 81, 82, 83, 84] (by kernel_rfl) (by kernel_rfl) (by kernel_rfl) (by kernel_rfl) (by simp) (by kernel_rfl) (fun jx => ?last) ?lastR ?jay HJ0.out ?heads ?_
              case last =>
                match jx with
                | 0 | 1 | 2 | 3 | 4 | 5 | 6 | 7 | 8 | 9 | 10 | 11 | 12 | 14 | 15 | 17 | 18 => exact Lasts.pure _
                | 13 => exact fun _ _ _ h _ => h
                | 16 => exact fun _ _ _ h _ => h
                | jx + 19 => exact fun _ _ _ h _ => h
              case lastR =>
                intro s jx W W' v hsl hs hj hp hr
                match jx with
                | 0 | 1 | 2 | 3 | 4 | 5 | 6 | 7 | 8 | 9 | 10 | 11 | 12 | 14 | 15 | 17 | 18 => exact hp
                | 13 => trivial
                | 16 => trivial
                | jx + 19 => trivial
              case jay =>
                intro s W W' hj hb
                exact hj.below hb
              case heads =>
                simp only [List.take_succ_cons, List.take_zero]
                refine ⟨?_, ?_, ?_, ?_, ?_, ?_, ?_, ?_, ?_, ?_, ?_, ?_, ?_, ?_, ?_, ?_, ?_, ?_, ?_, ?_, trivial⟩
                · rw [if_neg (by decide)]
                  intro s a W hj hkp hd
                  have e0 : a.tmps[6]?.getD undef = .pointer (some ⟨g, 0, none⟩) := hkp.get (by kernel_rfl) rfl
                  exact rel_value rfl (.pointer (some ⟨g, 0, none⟩)) (by go_simp) rfl
                · rw [if_neg (by decide)]
                  intro s a W hj hkp hd
                  have e0 : a.tmps[6]?.getD undef = .pointer (some ⟨g, 0, none⟩) := hkp.get (by kernel_rfl) rfl
                  exact rel_value rfl (.pointer (some ⟨g, 0, none⟩)) (by go_simp) rfl
                · rw [if_neg (by decide)]
                  intro s a W hj hkp hd
                  have e0 : a.tmps[6]?.getD undef = .pointer (some ⟨g, 0, none⟩) := hkp.get (by kernel_rfl) rfl
                  exact rel_value rfl (.pointer (some ⟨g, 0, none⟩)) (by go_simp) rfl
                · rw [if_neg (by decide)]
                  intro s a W hj hkp hd
                  have e0 : a.tmps[11]?.getD undef = .slice (some ay) ln cy := hkp.get (by kernel_rfl) rfl
                  exact rel_value rfl (.slice (some ay) ln cy) (by go_simp) rfl
                · rw [if_neg (by decide)]
                  intro s a W hj hkp hd
                  have e0 : a.tmps[71]?.getD undef = .slice (some ay) ln cy := (hd 3 (by kernel_rfl)).get 71 rfl rfl
                  exact rel_value rfl (.pointer (some ay)) (by go_simp) rfl
                · rw [if_neg (by decide)]
                  intro s a W hj hkp hd
                  have e0 : a.tmps[72]?.getD undef = .pointer (some ay) := (hd 4 (by kernel_rfl)).get 72 rfl rfl
                  have cc := CY0.out W hj.only
                  exact rel_value rfl (.int .i64 (q0 : Int)) (by go_simp) rfl
                · rw [if_neg (by decide)]
                  intro s a W hj hkp hd
                  have e0 : a.tmps[11]?.getD undef = .slice (some ay) ln cy := hkp.get (by kernel_rfl) rfl
                  exact rel_value rfl (.slice (some ay) ln cy) (by go_simp) rfl
                · rw [if_neg (by decide)]
                  intro s a W hj hkp hd
                  have e0 : a.tmps[74]?.getD undef = .slice (some ay) ln cy := (hd 6 (by kernel_rfl)).get 74 rfl rfl
                  exact rel_value rfl (.pointer (some ⟨ay.block, ay.off + 1, none⟩)) (by go_simp) rfl
                · rw [if_neg (by decide)]
                  intro s a W hj hkp hd
                  have e0 : a.tmps[75]?.getD undef = .pointer (some ⟨ay.block, ay.off + 1, none⟩) := (hd 7 (by kernel_rfl)).get 75 rfl rfl
                  have cc := CY1.out W hj.only
                  exact rel_value rfl (.int .i64 (q1 : Int)) (by go_simp) rfl
                · rw [if_neg (by decide)]
                  intro s a W hj hkp hd
                  have e0 : a.tmps[11]?.getD undef = .slice (some ay) ln cy := hkp.get (by kernel_rfl) rfl
                  exact rel_value rfl (.slice (some ay) ln cy) (by go_simp) rfl
                · rw [if_neg (by decide)]
                  intro s a W hj hkp hd
                  have e0 : a.tmps[77]?.getD undef = .slice (some ay) ln cy := (hd 9 (by kernel_rfl)).get 77 rfl rfl
                  have hsl := HSF.out W
                  exact rel_value rfl (.slice A7 m3 (cy - 3)) (by go_simp) rfl
                · rw [if_neg (by decide)]
                  intro s a W hj hkp hd
                  have e0 : a.tmps[68]?.getD undef = .pointer (some ⟨g, 0, none⟩) := (hd 0 (by kernel_rfl)).get 68 rfl rfl
                  exact rel_value rfl (.pointer (some ⟨g, 0, none⟩)) (by go_simp) rfl
                · rw [if_neg (by decide)]
                  intro s a W hj hkp hd
                  have e0 : a.tmps[79]?.getD undef = .pointer (some ⟨g, 0, none⟩) := (hd 11 (by kernel_rfl)).get 79 rfl rfl
                  exact rel_value rfl (.pointer (some ⟨g, 1, none⟩)) (by go_simp) rfl
                · rw [if_pos (by decide)]
                  intro s a W hs hj hkp hd
                  have e0 : a.tmps[80]?.getD undef = .pointer (some ⟨g, 1, none⟩) := (hd 12 (by kernel_rfl)).get 80 rfl rfl
                  have e1 : a.tmps[73]?.getD undef = .int .i64 (q0 : Int) := (hd 5 (by kernel_rfl)).get 73 rfl rfl
                  obtain rfl : s = 0 := lo_at (by decide) rfl hs
                  have hk := hj.blk.lt
                  have cc : W.cell? ⟨g, 1, none⟩ = some ((hdC cs q0 q1 (.slice A7 m3 (cy - 3)) 0)[1]'(by rw [hdC_size, HCZ.out]; omega)) := (hj.blk.cell 1).trans (Array.getElem?_eq_getElem _)
                  have ff := hj.blk.frozen 1
                  exact loud_skip rfl (W.setCell ⟨g, 1, none⟩ (.int .i64 (q0 : Int))) (by go_simp) trivial (hj.set_ 1 (.int .i64 (q0 : Int))) trivial
                · rw [if_neg (by decide)]
                  intro s a W hj hkp hd
                  have e0 : a.tmps[69]?.getD undef = .pointer (some ⟨g, 0, none⟩) := (hd 1 (by kernel_rfl)).get 69 rfl rfl
                  exact rel_value rfl (.pointer (some ⟨g, 0, none⟩)) (by go_simp) rfl
                · rw [if_neg (by decide)]
                  intro s a W hj hkp hd
                  have e0 : a.tmps[81]?.getD undef = .pointer (some ⟨g, 0, none⟩) := (hd 14 (by kernel_rfl)).get 81 rfl rfl
                  exact rel_value rfl (.pointer (some ⟨g, 2, none⟩)) (by go_simp) rfl
                · rw [if_pos (by decide)]
                  intro s a W hs hj hkp hd
                  have e0 : a.tmps[82]?.getD undef = .pointer (some ⟨g, 2, none⟩) := (hd 15 (by kernel_rfl)).get 82 rfl rfl
                  have e1 : a.tmps[76]?.getD undef = .int .i64 (q1 : Int) := (hd 8 (by kernel_rfl)).get 76 rfl rfl
                  obtain rfl : s = 1 := lo_at (by decide) rfl hs
                  have hk := hj.blk.lt
                  have cc : W.cell? ⟨g, 2, none⟩ = some ((hdC cs q0 q1 (.slice A7 m3 (cy - 3)) 1)[2]'(by rw [hdC_size, HCZ.out]; omega)) := (hj.blk.cell 2).trans (Array.getElem?_eq_getElem _)
                  have ff := hj.blk.frozen 2
                  exact loud_skip rfl (W.setCell ⟨g, 2, none⟩ (.int .i64 (q1 : Int))) (by go_simp) trivial (hj.set_ 2 (.int .i64 (q1 : Int))) trivial
                · rw [if_neg (by decide)]
                  intro s a W hj hkp hd
                  have e0 : a.tmps[70]?.getD undef = .pointer (some ⟨g, 0, none⟩) := (hd 2 (by kernel_rfl)).get 70 rfl rfl
                  exact rel_value rfl (.pointer (some ⟨g, 0, none⟩)) (by go_simp) rfl
                · rw [if_neg (by decide)]
                  intro s a W hj hkp hd
                  have e0 : a.tmps[83]?.getD undef = .pointer (some ⟨g, 0, none⟩) := (hd 17 (by kernel_rfl)).get 83 rfl rfl
                  exact rel_value rfl (.pointer (some ⟨g, 19, none⟩)) (by go_simp) rfl
                · rw [if_pos (by decide)]
                  intro s a W hs hj hkp hd
                  have e0 : a.tmps[84]?.getD undef = .pointer (some ⟨g, 19, none⟩) := (hd 18 (by kernel_rfl)).get 84 rfl rfl
                  have e1 : a.tmps[78]?.getD undef = .slice A7 m3 (cy - 3) := (hd 10 (by kernel_rfl)).get 78 rfl rfl
                  obtain rfl : s = 2 := lo_at (by decide) rfl hs
                  have hk := hj.blk.lt
                  have cc : W.cell? ⟨g, 19, none⟩ = some ((hdC cs q0 q1 (.slice A7 m3 (cy - 3)) 2)[19]'(by rw [hdC_size, HCZ.out]; omega)) := (hj.blk.cell 19).trans (Array.getElem?_eq_getElem _)
                  have ff := hj.blk.frozen 19
                  exact loud_skip rfl (W.setCell ⟨g, 19, none⟩ (.slice A7 m3 (cy - 3))) (by go_simp) trivial (hj.set_ 19 (.slice A7 m3 (cy - 3))) trivial
              intro f W6 hj6 hd6
              have hh : HdSt w3 g (hdC cs q0 q1 (.slice A7 m3 (cy - 3)) 3) W6 := hj6
              have hbl : Blk W6 g 73 ((((vC none (midO xss 8 4) S).setIfInBounds 1 (.int .i64 (q0 : Int))).setIfInBounds 2 (.int .i64 (q1 : Int))).setIfInBounds 19 (.slice A7 (nI (l.drop 3)).length (cy - 3))) := by
                have := hh.blk
                unfold hdC at this
                rw [HCS.out] at this
                rw [HDL3.out]
                exact this
              have hraw := HRW.out.setH hh.only (.inl rfl) hbl (HF3.out.only hh.only (fun b e => .inl e))
              have hme := midO_end (l := l) HXL.out
              rw [← HQ0.out, ← HQ1.out] at hme
              rw [hme] at hraw
              have HRD := Lib.hid (hraw.done HOK.out)
              have hb6 : Below w.heap.size w W6 := HL3.out.trans (hh.only.below HL3.out.size fun b hb e => by omega) 
              have HB6 := Lib.hid hb6
              have hs6 := hb6.size
              have HMD := Lib.hid (made_any (fun b => b < g) k L asked g (openM xss l) _ W6 (HBK.out.below (hb6)) has HRD.out (by rintro (e | e | e) <;> omega))
              have hgl6 := HRD.out.blk.lt
              clear hd6 hj6 hh hbl hraw hme hb6
              simp only [putAll, List.drop_succ_cons, List.drop_zero]
              try simp only [Act.put, List.setIfInBounds_toArray, List.set_cons_zero, List.set_cons_succ]
              go_wp2_with fail
              refine HMD.out.mono ?_
              rintro _ w9 ⟨T, rfl, hms⟩
              have HMS := Lib.hid hms
              clear hms HMD
              go_wp2_with fail
              go_ret2
              refine ⟨(fun hm => by cases hm), fun m hm => ⟨⟨g, T, k⟩, rfl, ?_⟩⟩
              rw [← Option.some.inj hm]
              exact NewAt.of_made HMS.out HB6.out hkl hgw hgl6
  · have h13b : ((n : Int) != 13) = true := by simp; omega
    have ho : o = none := by
      rw [HO.out]
      exact openV_none fun hh => h13 (by rw [← hxl]; exact hh.1)
    subst ho
    clear hr hbk hxl hlx
    go_enter Tryz.func12, Tryz.ntmps12
    go_wp2_with fail
    go_ret2
    exact ⟨fun _ => ⟨rfl, Below.refl _ _⟩, fun m hm => by cases hm⟩

end Go.Proofs.YtcpngeiahgoacaaGreat

/- Small facts for Load: what is left of bytes, rows that grow. -/
namespace Go.Proofs.YtcpngeiahgoacaaGreat
set_option linter.unusedVariables false
open Go.RowKit Go.Maps

theorem loadGo_succ (f : Nat) (b : List UInt8) (acc : List (List UInt8)) : loadGo (f + 1) b acc = if (ts b 128).2.2 ≠ 0 then (acc, b, (ts b 128).2.2) else loadGo f (ts b 128).2.1 (acc ++ [(ts b 128).1]) := rfl
theorem OwnL.push_keep {w w3 w6 : World} {B0 : Nat} {v u y : Value} {xss : List (List UInt8)} {vs : List Value} {z : List UInt8} (h : OwnL w B0 v xss vs) (hb : Below w.heap.size w w3) (hg : (w3.alloc (.cells #[u] 22)).grownBy w6 v.ownBlock) (hy : OwnB w3 B0 y z) : OwnB w6 B0 y z := by
  have hal : Below w3.heap.size w3 (w3.alloc (.cells #[u] 22)) := below_lit _ _
  exact (hy.below hal).keep fun b hb' => by
    obtain ⟨cur, hcur⟩ := ownB_blk hy hb'
    refine hg.block b (by have := hy.lt hb'; have := hal.size; omega) fun e => ?_
    have hr3 : w3.ownsRow B0 22 1 v xss.length vs := rowD_keep h.row fun b hb'' => hb.block b (rowD_lt h.row hb'').2
    exact own_blk_ne hr3 hcur (by decide) e.symm
theorem ts_first (b : List UInt8) (most : Nat) : (ts b most).1.length ≤ b.length := by
  rw [ts_eq]
  have := tn_len b
  split
  · simp
  · split
    · simp
    · split
      · simp
      · show ((tn b).2.1.take (tn b).1).length ≤ _
        rw [List.length_take]; omega

end Go.Proofs.YtcpngeiahgoacaaGreat

/- Contracts of vault.Load and of a vault's Bytes. -/
namespace Go.Proofs.YtcpngeiahgoacaaGreat
set_option linter.unusedVariables false
open Go.RowKit Go.Maps

attribute [local irreducible] wpList wpCalm
theorem NewAt.before {w W w' : World} {k : Book} {V : VLoc} {L : List (List UInt8)} {asked : Nat} {m : VM} (hb : Below w.heap.size w W) (h : NewAt W w' k V L asked m) : NewAt w w' k V L asked m :=
  ⟨h.kk, h.vat, h.old, ⟨by have := h.new.1; have := hb.size; omega, fun b hb' => by have := h.new.2 b hb'; have := hb.size; omega⟩, h.book, (Only.of_below hb).trans h.only⟩
def LoadPost (w : World) (k : Book) (L : List (List UInt8)) (asked : Nat) (o : Option VM) (n : Nat) (e : Ending) (w' : World) : Prop :=
  (o = none → e = .returned (.tuple #[.pointer none, .int .i64 (n : Int)]) ∧ Below w.heap.size w w') ∧ (∀ m, o = some m → ∃ V : VLoc, e = .returned (.tuple #[.pointer (some ⟨V.g, 0, none⟩), .int .i64 0]) ∧ NewAt w w' k V L asked m)
/-- Load under way -/
structure LdSt (w : World) (xs : List UInt8) (A : Option Addr) (n c : Nat) (lv : Value) (rest : List UInt8) (acc : List (List UInt8)) (vs : List Value) (i : Nat) (wr : World) : Prop where
  rd : Reads wr wr.heap.size 1 A n (rest.map vb)
  cap : n ≤ c
  own : OwnL wr w.heap.size lv acc vs
  al : acc.length = i
  ax : ∀ x, x ∈ acc → x.length ≤ 1000000000000
  go : loadGo 13 xs [] = loadGo (13 - i) rest acc
  low : Below w.heap.size w wr

set_option maxRecDepth 100000 in
set_option maxHeartbeats 8000000 in
theorem vLoad_any (k : Book) (L : List (List UInt8)) (asked : Nat) (A : Option Addr) (n c : Nat) (xs : List UInt8) (w : World) (hbk : BookAt w k L asked) (has : asked ≤ 600000) (hr : Reads w w.heap.size 1 A n (xs.map vb)) (hc : n ≤ c) (hn : n ≤ 1000000000000) :
    Calls Tryz.prog 9 #[.pointer (some ⟨k.g, 0, none⟩), .slice A n c] w (LoadPost w k L asked (loadV xs).1 (loadV xs).2) := by
  obtain ⟨o, ho⟩ : ∃ o, o = (loadV xs).1 := ⟨_, rfl⟩
  obtain ⟨en, hen⟩ : ∃ o, o = (loadV xs).2 := ⟨_, rfl⟩
  rw [← ho, ← hen]
  have HO := Lib.hid ho
  have HEN := Lib.hid hen
  have HBK := Lib.hid hbk
  have HST := Lib.hid (show LdSt w xs A n c (.slice none 0 0) xs [] [] 0 w from ⟨hr, hc, OwnL.nil _ _, rfl, (fun x hx => by simp at hx), rfl, Below.refl _ _⟩)
  obtain ⟨i0, hi0, hz0, hz1, hz2⟩ := info_parts sl8_info
  clear hr hbk ho hen hc
  go_enter Tryz.func9, Tryz.ntmps9
  go_wp2_with fail
  go_loopw [1, 6, 10] (fun bv lv iv wr => ∃ (A : Option Addr) (n c : Nat) (rest : List UInt8) (acc : List (List UInt8)) (vs : List Value) (i : Nat), i ≤ 13 ∧ n ≤ 1000000000000 ∧ bv = .slice A n c ∧ iv = .int .i64 i ∧ LdSt w xs A n c lv rest acc vs i wr) (fun _ _ iv _ => 13 - (intOf iv).toNat)
  case atStart => exact ⟨_, _, _, _, _, _, 0, by omega, hn, rfl, rfl, HST.out⟩
  case round =>
    obtain ⟨A, n, c, rest, acc, vs, i, hi, hn, rfl, rfl, hst⟩ := hrel
    have HS := Lib.hid hst
    have hsz := hst.low.size
    have hrl : rest.length = n := by have := hst.rd.1; simpa using this
    have HRL := Lib.hid hrl
    clear hrl
    by_cases hin : i < 13
    · have hinI : (i : Int) < 13 := by omega
      have HT := Lib.hid (takeStr_any A n c 128 rest wr wr.heap.size hst.rd (Nat.le_refl _) hst.cap (by omega) (by omega))
      have hgo := HS.out.go.trans ((congrArg (fun q => loadGo q rest acc) (show 13 - i = (13 - (i + 1)) + 1 by omega)).trans (loadGo_succ _ rest acc))
      have hl1 := ts_len rest 128
      have hl2 := ts_first rest 128
      obtain ⟨q, hq⟩ : ∃ q, q = ts rest 128 := ⟨_, rfl⟩
      rw [← hq] at HT hgo hl1 hl2
      obtain ⟨d, r2, e2⟩ := q
      simp only at hgo hl1 hl2
      have HT2 := Lib.hid (show Calls Tryz.prog 61 #[.slice A n c, .int .i64 128] wr _ from HT.out)
      have HGO := Lib.hid hgo
      have HL1 := Lib.hid hl1
      have HL2 := Lib.hid hl2
      clear hst HT hq hgo hl1 hl2
      go_wp2_with fail
      refine HT2.out.mono ?_
      rintro _ w3 ⟨v, v', rfl, hod, hor, hb3⟩
      obtain ⟨Au, cu, hv, q1, q2, q3, q4⟩ := own_slice_b hod
      obtain ⟨A4, c4, hv', p1, p2, p3, p4⟩ := own_slice_b hor
      subst hv hv'
      have HP3 := Lib.hid p3
      have hs3 := hb3.size
      have hrn : r2.length ≤ 1000000000000 := by have := HL1.out; have := HRL.out; omega
      have hdn : d.length ≤ 1000000000000 := by have := HL2.out; have := HRL.out; omega
      obtain ⟨u, hu⟩ : ∃ u, u = Value.slice Au d.length cu := ⟨_, rfl⟩
      have HOR := Lib.hid (show OwnB w3 w.heap.size (.slice A4 r2.length c4) r2 from hor.more hsz)
      have HOD := Lib.hid (show OwnB w3 w.heap.size u d from by rw [hu]; exact hod.more hsz)
      have HB3 := Lib.hid hb3
      clear hod hor q1 q2 q3 q4 p2 p3 p4 HT2
      obtain ⟨nd, hnd⟩ : ∃ k, k = d.length := ⟨_, rfl⟩
      obtain ⟨nr, hnr⟩ : ∃ k, k = r2.length := ⟨_, rfl⟩
      rw [← hnd] at hu hdn ⊢
      rw [← hnr] at hrn p1 HP3 HOR ⊢
      have HND := Lib.hid hnd
      clear hnd hnr
      by_cases he : e2 = 0
      · subst he
        have HW := Lib.hid (show (w3.alloc (.cells #[u] 22)).ownsRow w.heap.size 22 1 _ i vs from by
          have := (rowD_keep HS.out.own.row (w' := w3) fun b hb'' => hb3.block b (rowD_lt HS.out.own.row hb'').2).alloc (.cells #[u] 22)
          rw [HS.out.al] at this
          exact this)
        have HR3 := Lib.hid (reads_cells w3 #[u] 22)
        rw [hu] at HW HR3
        have HU := Lib.hid hu
        clear hb3 hu
        go_wp2_with (at_builtin; go_must (refine wpList_append_any _ rfl (.tmp 21) (.tmp 23) 23 rfl w.heap.size 22 i0 _ 1 24 Tryz.underlying23 hi0 hz0 hz1 hz2 rfl (by omega) _ i vs rfl HW.out (w3.heap.size + 1) (some ⟨w3.heap.size, 0, none⟩) 1 1 [.slice Au nd cu] rfl HR3.out ?c1 ?c2 ?c3 ?c4 ?_))
        case c1 => intro z hz; rw [List.mem_singleton] at hz; subst hz; rfl
        case c2 => unfold maxLen; omega
        case c3 => omega
        case c4 => simp; omega
        intro v6 w6 hown6 hg6 hor6
        rw [← HU.out] at hown6 hg6
        have ho6 : OwnL w6 w.heap.size v6 (acc ++ [d]) (vs ++ [u]) := HS.out.own.push HB3.out HOD.out (by rw [HS.out.al]; exact hown6) hg6
        have hb6 : Below w.heap.size w w6 := grown_below ((HS.out.low.trans (HB3.out.mono hsz)).trans ((below_lit w3 (.cells #[u] 22)).mono (by omega))) (by simp; omega) hg6 (fun b hb => (rowD_lt HS.out.own.row hb).1)
        have hrd6 : Reads w6 w6.heap.size 1 A4 nr (r2.map vb) := (HS.out.own.push_keep HB3.out hg6 HOR.out).reads.2.2.2.1
        have hst6 : LdSt w xs A4 nr c4 v6 r2 (acc ++ [d]) (vs ++ [u]) (i + 1) w6 := ⟨hrd6, p1, ho6, by rw [List.length_append, HS.out.al]; rfl, (by
          intro x hx
          rcases List.mem_append.1 hx with hx | hx
          · exact HS.out.ax x hx
          · rw [List.mem_singleton] at hx; rw [hx, ← HND.out]; exact hdn), by rw [HGO.out, if_neg (by simp)], hb6⟩
        have HST6 := Lib.hid hst6
        clear hown6 hg6 hor6 ho6 hb6 hrd6 hst6
        go_wp2_with fail
        go_roundw
        case rel => exact ⟨_, _, _, _, _, _, i + 1, by omega, hrn, rfl, by go_num, HST6.out⟩
        case measure => simp [intOf]; omega
      · have heb : ((e2 : Int) != 0) = true := by simp; omega
        have hlo : loadV xs = (none, e2) := by
          unfold loadV
          rw [HGO.out, if_pos he]
          simp only
          rw [if_pos he]
        have ho : o = none := by rw [HO.out, hlo]
        have he2 : en = e2 := by rw [HEN.out, hlo]
        have HLOW := Lib.hid (HS.out.low.trans (hb3.mono hsz))
        subst ho he2
        clear hb3 hu hlo HO HEN HS
        go_wp2_with fail
        go_ret2
        exact ⟨fun _ => ⟨rfl, HLOW.out⟩, fun m hm => by cases hm⟩
    · obtain rfl : i = 13 := by omega
      have hinI : ¬ (13 : Int) < 13 := by omega
      have hlg : loadGo 13 xs [] = (acc, rest, 0) := by rw [HS.out.go]; rfl
      have HLG := Lib.hid hlg
      obtain ⟨Al, cl, hlv, hcl, hrows⟩ := HS.out.own.rowsC
      rw [HS.out.al] at hlv hrows
      subst hlv
      have HROWS := Lib.hid hrows
      clear hst hlg hrows hcl
      by_cases h0 : n = 0
      · have h0I : ¬ (0 : Int) < (n : Int) := by omega
        subst h0
        have hlo : loadV xs = match openV acc with | none => (none, 2) | some m => (some m, 0) := by
          unfold loadV
          rw [HLG.out]
          simp only
          rw [if_neg (by simp), if_neg (by rw [HRL.out]; omega)]
          cases openV acc <;> rfl
        have HBW := Lib.hid (HBK.out.below HS.out.low)
        have HOP := Lib.hid (vOpen_any k L asked Al 13 cl acc wr HBW.out has HROWS.out (by omega) (fun x hx => by have := HS.out.ax x hx; omega))
        have hoo : o = openV acc := by rw [HO.out, hlo]; cases openV acc <;> rfl
        have hee : o = none → en = 2 := fun h => by rw [HEN.out, hlo, ← hoo, h]
        rw [← hoo] at HOP
        have HEE := Lib.hid hee
        have HLOW := Lib.hid HS.out.low
        clear hlo hoo hee HO HEN HS HLG
        go_wp2_with fail
        refine HOP.out.mono ?_
        rintro _ w9 ⟨hno, hso⟩
        rcases Option.eq_none_or_eq_some o with hoc | ⟨m, hoc⟩
        · obtain ⟨rfl, hb9⟩ := hno hoc
          have HB9 := Lib.hid (HLOW.out.trans (hb9.mono hsz))
          have he2 : en = 2 := HEE.out hoc
          subst he2
          subst hoc
          clear hno hso hb9 HOP
          go_wp2_with fail
          go_ret2
          exact ⟨fun _ => ⟨rfl, HB9.out⟩, fun m hm => by cases hm⟩
        · obtain ⟨V, rfl, hnew⟩ := hso m hoc
          have HNEW := Lib.hid (NewAt.before HLOW.out hnew)
          subst hoc
          clear hno hso hnew HOP
          go_wp2_with fail
          go_ret2
          refine ⟨(fun hm => by cases hm), fun m' hm => ⟨V, rfl, ?_⟩⟩
          rw [← Option.some.inj hm]
          exact HNEW.out
      · have h0I : (0 : Int) < (n : Int) := by omega
        have hlo : loadV xs = (none, 4) := by
          unfold loadV
          rw [HLG.out]
          simp only
          rw [if_neg (by simp), if_pos (by rw [HRL.out]; omega)]
        have ho : o = none := by rw [HO.out, hlo]
        have he2 : en = 4 := by rw [HEN.out, hlo]
        have HLOW := Lib.hid HS.out.low
        subst ho he2
        clear hlo HO HEN HS
        go_wp2_with fail
        go_ret2
        exact ⟨fun _ => ⟨rfl, HLOW.out⟩, fun m hm => by cases hm⟩

end Go.Proofs.YtcpngeiahgoacaaGreat

/- Contract of a vault's Bytes. -/
namespace Go.Proofs.YtcpngeiahgoacaaGreat
set_option linter.unusedVariables false
open Go.RowKit Go.Maps

attribute [local irreducible] wpList wpCalm
def BytesPost (w : World) (m : VM) (e : Ending) (w' : World) : Prop := ∃ v, e = .returned (.tuple #[v, .int .i64 0]) ∧ OwnB w' w.heap.size v (bytesV m) ∧ Below w.heap.size w w'
theorem flatB_le : ∀ (l : List (List UInt8)), (∀ x, x ∈ l → x.length ≤ 120) → (l.map strB).flatten.length ≤ 128 * l.length
  | [], _ => by simp
  | x :: t, h => by
    rw [List.map_cons, List.flatten_cons, List.length_append, List.length_cons]
    have h1 := flatB_le t fun y hy => h y (List.mem_cons_of_mem _ hy)
    have h2 := h x (List.mem_cons_self ..)
    have h3 := (numB_len (n := x.length) (by unfold maxN; omega)).2
    have h4 : (strB x).length = (numB x.length).length + x.length := by unfold strB; rw [List.length_append]
    omega
set_option maxRecDepth 100000 in
set_option maxHeartbeats 4000000 in
theorem vBytes_any (w : World) (V : VLoc) (N : Nat → Prop) (m : VM) (h : VAt w V N m) :
    Calls Tryz.prog 28 #[.pointer (some ⟨V.g, 0, none⟩)] w (BytesPost w m) := by
  obtain ⟨S, hd⟩ := h.dat
  have hok := hd.ok
  have HN := Lib.hid (vNone_any w V.g V.T.t h.none_)
  have HLV := Lib.hid (vLeaves_any w V N m h)
  have hlen := leavesV_len m
  have hbl : ∀ x, x ∈ leavesV m → x.length ≤ 120 := fun x hx => by
    obtain ⟨i, _, rfl⟩ := List.mem_map.1 hx
    exact leafV_len hok i
  have hfl := flatB_le _ hbl
  rw [hlen] at hfl
  obtain ⟨ls, hls⟩ : ∃ ls, ls = leavesV m := ⟨_, rfl⟩
  unfold BytesPost bytesV
  unfold LvPost at HLV
  rw [← hls] at HLV hlen hbl hfl ⊢
  have HLN := Lib.hid hlen
  have HBL := Lib.hid hbl
  obtain ⟨i0, hi0, hz0, hz1, hz2⟩ := info_parts u8_info
  clear h hd hlen hbl hls hok
  go_enter Tryz.func28, Tryz.ntmps28
  go_wp2_with fail
  refine HN.out.mono ?_
  rintro _ _ ⟨rfl, rfl⟩
  go_wp2_with fail
  refine HLV.out.mono ?_
  rintro _ w1 ⟨v, vs, rfl, how, hb1⟩
  obtain ⟨A, c, rfl, hc, _, hrows, hge⟩ := how.slice
  rw [HLN.out] at hc hrows ⊢
  have HR := Lib.hid hrows
  have HB1 := Lib.hid hb1
  have hs1 := hb1.size
  clear how hrows hb1 hge HLV HN
  go_wp2_with fail
  go_loopw [4, 14] (fun ov iv wr => ∃ i : Nat, i ≤ 13 ∧ iv = .int .i64 i ∧ OwnB wr w1.heap.size ov ((ls.take i).map strB).flatten ∧ Below w1.heap.size w1 wr) (fun _ iv _ => 13 - (intOf iv).toNat)
  case atStart => exact ⟨0, by omega, rfl, OwnB.nil _ _, Below.refl _ _⟩
  case round =>
    obtain ⟨i, hi, rfl, hov, hbel⟩ := hrel
    have HOV := Lib.hid hov
    have HB := Lib.hid hbel
    have hsz := hbel.size
    clear hov hbel
    by_cases hin : i < 13
    · have hinI : (i : Int) < 13 := by omega
      have h0I : (0 : Int) ≤ (i : Int) := by omega
      obtain ⟨ad, hA, hadb, hcell⟩ := HR.out.2 (by omega)
      subst hA
      have hxi : i < ls.length := by have := HLN.out; omega
      obtain ⟨Ak, mk, ck, hck, hrk⟩ := hcell i ls[i] (List.getElem?_eq_getElem hxi)
      have hck' := (HB.out.cell (show (ad.add i).block < w1.heap.size by rw [block_of_add]; omega)).trans hck
      have hmk : ls[i].length = mk := by have := hrk.1; simpa using this
      have hm120 : mk ≤ 120 := by have := HBL.out _ (List.getElem_mem hxi); omega
      have HST := Lib.hid (str_any Ak mk ck ls[i] wr wr.heap.size ((hrk.below HB.out).more hsz) (Nat.le_refl _) (by omega))
      obtain ⟨ys, hys⟩ : ∃ ys, ys = ((ls.take i).map strB).flatten := ⟨_, rfl⟩
      have htk : ((ls.take (i + 1)).map strB).flatten = ((ls.take i).map strB).flatten ++ strB ls[i] := by rw [List.take_succ_eq_append_getElem hxi, List.map_append, List.flatten_append]; simp only [List.map_cons, List.map_nil, List.flatten_cons, List.flatten_nil, List.append_nil]
      have htl : ((ls.take (i + 1)).map strB).flatten.length ≤ (ls.map strB).flatten.length := by
        conv => rhs; rw [← List.take_append_drop (i + 1) ls, List.map_append, List.flatten_append, List.length_append]
        omega
      rw [htk, List.length_append] at htl
      rw [← hys] at HOV htk htl
      have HTK := Lib.hid htk
      clear hys
      generalize strB ls[i] = x at HTK HST htl
      clear hcell hck hrk hmk htk
      go_wp2_with fail
      refine HST.out.mono ?_
      rintro _ w2 ⟨v2, rfl, ho2, hb2⟩
      obtain ⟨A2, c2, rfl, p1, p2, p3, p4⟩ := own_slice_b ho2
      obtain ⟨nx, hnx⟩ : ∃ k, k = x.length := ⟨_, rfl⟩
      rw [← hnx] at p3 htl ⊢
      have HNX := Lib.hid hnx
      have HP3 := Lib.hid p3
      have HO2 := Lib.hid (HOV.out.below hb2)
      have HWN := Lib.hid HO2.out.row
      have HB2 := Lib.hid (HB.out.trans (hb2.mono hsz))
      have hs2 := hb2.size
      clear ho2 hb2 p1 p2 p3 p4 HST hnx
      go_wp2_with (at_builtin; go_must (refine wpList_append_any _ rfl (.tmp 26) (.tmp 27) 22 rfl w1.heap.size 5 i0 _ 1 1 Tryz.underlying22 hi0 hz0 hz1 hz2 rfl (by omega) _ _ _ rfl HWN.out w2.heap.size A2 nx c2 (x.map vb) rfl HP3.out ?c1 ?c2 ?c3 ?c4 ?_))
      case c1 => intro u hu; obtain ⟨y, _, rfl⟩ := List.mem_map.1 hu; rfl
      case c2 => unfold maxLen; omega
      case c3 => omega
      case c4 => omega
      intro v3 w3 hown3 hg3 hor3
      have HB3 := Lib.hid (grown_below HB2.out (by omega) hg3 (fun b hb => HO2.out.ge hb))
      have HO3 := Lib.hid (show OwnB w3 w1.heap.size v3 ((ls.take (i + 1)).map strB).flatten by
        unfold OwnB
        rw [HTK.out, List.length_append, List.map_append, ← HNX.out]
        exact hown3)
      clear hown3 hg3 hor3
      go_wp2_with fail
      go_roundw
      case rel => exact ⟨i + 1, by omega, by go_num, HO3.out, HB3.out⟩
      case measure => simp [intOf]; omega
    · obtain rfl : i = 13 := by omega
      have hinI : ¬ (13 : Int) < 13 := by omega
      go_wp2_with fail
      go_ret2
      refine ⟨_, rfl, ?_, HB1.out.trans (HB.out.mono hs1)⟩
      have := HOV.out
      rw [List.take_of_length_le (by have := HLN.out; omega)] at this
      exact this.more hs1

end Go.Proofs.YtcpngeiahgoacaaGreat
