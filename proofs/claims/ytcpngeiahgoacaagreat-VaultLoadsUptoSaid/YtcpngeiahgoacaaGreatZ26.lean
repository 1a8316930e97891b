/- Parts of the proof, in one text: RvH, RvJ. -/
import Derived.Test.YtcpngeiahgoacaaGreatZ24
import Derived.Test.YtcpngeiahgoacaaGreatZ25
import Derived.Test.YtcpngeiahgoacaaGreatZ14
import Derived.Test.YtcpngeiahgoacaaGreatZ21
import Derived.Test.YtcpngeiahgoacaaGreatZ23

/- the document's vault: the walk of Open. -/
namespace Go.Proofs.YtcpngeiahgoacaaGreat
set_option linter.unusedVariables false
set_option linter.unusedSimpArgs false
open Go.RowKit Go.Maps

attribute [local irreducible] wpList wpCalm
def ROpenPost (w : World) (o : Option VM) (e : Ending) (w' : World) : Prop := match o with
  | none => e = .returned (.tuple #[.pointer none, .int .i64 2]) ∧ Below w.heap.size w w'
  | some m => ∃ g' S', e = .returned (.tuple #[.pointer (some ⟨g', 0, none⟩), .int .i64 0]) ∧ RVOwn w' w.heap.size g' m S' ∧ Below w.heap.size w w'
def obs (ls : List (List UInt8)) (n q : Nat) : UInt8 := if q < n then (ls.getD (q / 16) []).getD (q % 16) 0 else 0
theorem obs_next (ls : List (List UInt8)) (n : Nat) (x : UInt8) (hx : (ls.getD (n / 16) []).getD (n % 16) 0 = x) : (fun j => if j = n then x else obs ls n j) = obs ls (n + 1) := by
  funext j
  unfold obs
  by_cases h : j = n
  · subst h
    rw [if_pos rfl, if_pos (by omega), hx]
  · rw [if_neg h]
    by_cases h2 : j < n
    · rw [if_pos h2, if_pos (by omega)]
    · rw [if_neg h2, if_neg (by omega)]
theorem obs_zero (ls : List (List UInt8)) : obs ls 0 = fun _ => 0 := by funext j; unfold obs; rw [if_neg (by omega)]

def clq (ls : List (List UInt8)) (q : Nat) : Nat × List UInt8 := (clientOf (ls.getD (8 + q) [])).getD (0, [])
def clSt (ls : List (List UInt8)) (i q : Nat) : Nat := if q < i then (clq ls q).1 else 0
theorem clSt_zero (ls : List (List UInt8)) : clSt ls 0 = fun _ => 0 := by funext j; unfold clSt; rw [if_neg (by omega)]
theorem clSt_next (ls : List (List UInt8)) (i : Nat) : (fun j => if j = i then (clq ls i).1 else clSt ls i j) = clSt ls (i + 1) := by
  funext j
  unfold clSt
  by_cases h : j = i
  · subst h
    rw [if_pos rfl, if_pos (by omega)]
  · rw [if_neg h]
    by_cases h2 : j < i
    · rw [if_pos h2, if_pos (by omega)]
    · rw [if_neg h2, if_neg (by omega)]

theorem exec_slice_of {P : Program} {o : Oper} {a : Act} {W : World} (t : TypeId) (x : Operand) (lo : Option Operand) (ho : o.op = .slice t x lo none none) (A : Option Addr) (len cap : Nat) (hx : a.eval x = .slice A len cap) (lv : Option Value) (hl : lo.map a.eval = lv) {e : TypeId} (hu : P.underlying t = some (.slice e)) (r : Value) (h : (Instr.slice t (.slice A len cap) lv none none).run P W = .ok r W) : (execOp a.eval o).run P W = .ok (.value r) W := by
  subst hl
  unfold execOp
  simp only [ho, hx, Option.map_none, Instr.sliceAt, Sem.run_bind, run_underlying hu, Result.andThen_ok, h]
  rfl
theorem RVOwn.more {w : World} {B B' g : Nat} {m : VM} {S : RVs} (h : RVOwn w B g m S) (hB : B' ≤ B) : RVOwn w B' g m S :=
  ⟨h.ok, by have := h.base; omega, h.cells, fun i hi => (h.data i hi).more hB, OwnN.more h.seal_ hB⟩
def sealW1 (l : List Int) : Wish := ⟨0, 0, 1, 0, 5, 0, [], 0, 0, l⟩
theorem sealW1_may (l : List Int) : mayB (sealW1 l) = crewB l := parseWish_may (g := 1) (Nat.le_refl _) (by omega) l
theorem numsGo_len : ∀ (f : Nat) (b : List UInt8) (l : List Nat), numsGo f b = some l → l.length ≤ b.length
  | 0, b, l, h => by
    unfold numsGo at h
    split at h
    · rw [← Option.some.inj h]; simp
    · cases h
  | f + 1, b, l, h => by
    unfold numsGo at h
    split at h
    · rw [← Option.some.inj h]; simp
    · split at h
      · cases h
      · rename_i h1 h2
        cases hr : numsGo f (tn b).2.1 with
        | none => rw [hr] at h; cases h
        | some l' =>
          rw [hr] at h
          have h3 := numsGo_len f _ l' hr
          have h4 := tn_shrink (b := b) (by omega)
          rw [← Option.some.inj h]
          simp only [List.length_cons]
          omega
theorem numsV_len {b : List UInt8} {l : List Nat} (h : numsV b = some l) : l.length ≤ b.length := numsGo_len _ _ _ h
theorem wpList_wanted_r {P : Program} {ops : Array Oper} {rest : List Oper} {o : Oper} {a : Act} {w : World} {Q : Exit → Act → World → Prop} (hw : Region.wanted o (yielded ops a.tmps) = true)
    (h : ∀ K : Act → World → Prop, (∀ a w, wpList P ops Q rest a w → K a w) → o.wp P a w K Q) : wpList P ops Q (o :: rest) a w :=
  wpList_step fun K hK => by
    rw [if_pos hw]
    exact h K hK
/-- a load of a piece, guarded or not -/
theorem wpList_load_part_w {P : Program} {ops : Array Oper} {rest : List Oper} {o : Oper} {a : Act} {w : World} {Q : Exit → Act → World → Prop} (hw : Region.wanted o (yielded ops a.tmps) = true) (ty : TypeId) (x : Operand) (ho : o.op = .load ty x)
    (g off n : Nat) (hx : a.eval x = .pointer (some ⟨g, off, none⟩)) (t : TypeId) (cs vs : Array Value) (d : TypeDesc) (hB : Blk w g t cs)
    (hu : P.underlying ty = some d) (hd : (match d with | .struct _ | .array _ _ => true | _ => false) = true) (hi : (P.info? ty).map (·.size) = some n)
    (hn : vs.size = n) (hv : ∀ j, j < n → cs[off + j]? = vs[j]?)
    (h : wpList P ops Q rest (a.put o.dst (.agg vs)) w) : wpList P ops Q (o :: rest) a w :=
  wpList_wanted_r hw fun _ hK => wp_load_part ty x ho g off n hx t cs vs d hB hu hd hi hn hv (hK _ _ h)
theorem lastV_open (ls : List (List UInt8)) (l : List Nat) (q : Nat) (hq : q < 4) : lastV (openM ls l) q = clq ls q := by
  unfold lastV openM clq
  simp only
  rw [List.getD_eq_getElem?_getD, List.getElem?_map, List.getElem?_range hq]
  rfl
theorem blockV_open (ls : List (List UInt8)) (l : List Nat) (h : ls.length = 13) (q : Nat) (hq : q < 8) : blockV (openM ls l) q = ls.getD q [] := by
  unfold blockV openM
  simp only
  rw [List.getD_eq_getElem?_getD, List.getElem?_take, if_pos hq, List.getD_eq_getElem?_getD]
theorem rvRow_open {g1 e1 g2 e2 : Int} {b1 b2 : Nat → UInt8} {s1 s2 : Nat → Nat} {d1 d2 : Nat → Value} {v1 v2 : Value} (hg : g1 = g2) (he : e1 = e2) (hb : ∀ q, q < 128 → b1 q = b2 q) (hs : ∀ q, q < 4 → s1 q = s2 q) (hd : ∀ q, q < 4 → d1 q = d2 q) (hv : v1 = v2) : rvRow g1 e1 b1 s1 d1 v1 = rvRow g2 e2 b2 s2 d2 v2 := by
  subst hg he hv
  unfold rvRow
  refine rng_ext fun j hj => ?_
  unfold rvG
  split
  · rfl
  · split
    · rfl
    · split
      · rw [hb _ (by omega)]
      · split
        · rw [hs _ (by omega)]
        · split
          · exact hd _ (by omega)
          · rfl
theorem rvCells_row (m : VM) (S : RVs) : rvCells m S = rvRow (m.group : Int) (m.epoch : Int) (fun q => (blockV m (q / 16)).getD (q % 16) 0) (fun i => (lastV m i).1) (fun i => .slice (S.dA i) (lastV m i).2.length (S.dC i)) (.slice S.sA m.shut.length S.sC) := rvRow_cells m S

set_option maxRecDepth 100000 in
set_option maxHeartbeats 4000000 in
theorem rOpen_any (A : Option Addr) (n c : Nat) (ls : List (List UInt8)) (w : World) (hr : RowsC w w.heap.size A n ls) (hlx : ∀ x, x ∈ ls → x.length ≤ 1000000000000) :
    Calls Tryz.prog 13 #[.slice A n c] w (ROpenPost w (openV ls)) := by
  have hxl := hr.1
  obtain ⟨o, ho⟩ : ∃ o, o = openV ls := ⟨_, rfl⟩
  rw [← ho]
  have HO := Lib.hid ho
  clear ho
  by_cases h13 : n = 13
  · subst h13
    obtain ⟨ad, hA, hadb, hcell⟩ := hr.2 (by omega)
    subst hA
    have HXL := Lib.hid hxl
    have HLX := Lib.hid hlx
    have HCL := Lib.hid hcell
    have hX := below_lit w (.cells (rvRow 0 0 (obs ls 0) (fun _ => 0) (fun _ => .slice none 0 0) (.slice none 0 0)) 128)
    have hk0 : Blk (w.alloc (.cells (rvRow 0 0 (obs ls 0) (fun _ => 0) (fun _ => .slice none 0 0) (.slice none 0 0)) 128)) w.heap.size 128 _ := Blk.newAt rfl
    rw [obs_zero] at hX hk0
    have HX := Lib.hid hX
    have HK := Lib.hid hk0
    have hZ := rvRow_zero
    have HZ := Lib.hid hZ
    obtain ⟨g2, hg2⟩ : ∃ x, x = w.heap.size := ⟨_, rfl⟩
    have hgw : w.heap.size ≤ g2 := by omega
    clear hr hxl hlx hcell hX hk0 hZ
    go_enter Tryz.func13, Tryz.ntmps13
    go_upto_region 4 with fail
    rw [HZ.out]
    generalize World.alloc w _ = w1 at HX HK ⊢
    rw [← hg2] at HK ⊢
    rw [← obs_zero ls] at HK
    have hs1 := HX.out.size
    have hl2 := HK.out.lt
    clear hg2
    go_wp2_with fail
    go_loopw [5] (fun iv wr => ∃ i : Nat, i ≤ 8 ∧ iv = .int .i64 i ∧ (∀ q, q < i → (ls.getD q []).length = 16) ∧ Blk wr g2 128 (rvRow 0 0 (obs ls (16 * i)) (fun _ => 0) (fun _ => .slice none 0 0) (.slice none 0 0)) ∧ Below w.heap.size w wr) (fun iv _ => 8 - (intOf iv).toNat)
    case atStart => exact ⟨0, by omega, rfl, fun q hq => by omega, HK.out, HX.out⟩
    case round =>
      obtain ⟨i, hi, rfl, hok, hblk, hbel⟩ := hrel
      have HOK := Lib.hid hok
      have HB := Lib.hid hbel
      have hsz := hbel.size
      have HBK := Lib.hid hblk
      by_cases hin : i < 8
      · skip
        --DONE-BEGIN
        have hinI : (i : Int) < 8 := by omega
        have hil : i < ls.length := by have := HXL.out; omega
        have hx := List.getElem?_eq_getElem hil
        have hgd : ls.getD i [] = ls[i] := by rw [List.getD_eq_getElem?_getD, hx, Option.getD_some]
        obtain ⟨Ak, mk, ck, hq, hrd, hmc⟩ := HCL.out i _ hx
        generalize ls[i] = x at hx hgd hrd
        have hxm : x.length = mk := by have := hrd.1; simpa using this
        have hcx := (hbel.cell (show (ad.add i).block < w.heap.size by rw [block_of_add]; omega)).trans hq
        by_cases h16 : mk = 16
        · subst h16
          obtain ⟨bd, hAk, hbd, hcb⟩ := hrd.2 (by omega)
          subst hAk
          have HCB := Lib.hid hcb
          have HCX := Lib.hid (fun (W : World) (hb : Below w.heap.size w W) => (hb.cell (show (ad.add i).block < w.heap.size by rw [block_of_add]; omega)).trans hq)
          have HGD := Lib.hid hgd
          have HXM := Lib.hid hxm
          clear hx hrd hcb hblk hbel hok hq hgd
          go_wp2_with fail
          go_loopw [6] (fun kv wr => ∃ k : Nat, k ≤ 16 ∧ kv = .int .i64 k ∧ Blk wr g2 128 (rvRow 0 0 (obs ls (16 * i + k)) (fun _ => 0) (fun _ => .slice none 0 0) (.slice none 0 0)) ∧ Below w.heap.size w wr) (fun kv _ => 16 - (intOf kv).toNat)
          case atStart => exact ⟨0, by omega, rfl, HBK.out, HB.out⟩
          case round =>
            obtain ⟨k, hk, rfl, hbk, hbw⟩ := hrel
            have HB2 := Lib.hid hbk
            have HW2 := Lib.hid hbw
            by_cases hkn : k < 16
            · have hkI : (k : Int) < 16 := by omega
              have hkl : k < x.length := by have := HXM.out; omega
              have hc1 := HCX.out _ hbw
              have hc2 := (hbw.cell (show (bd.add k).block < w.heap.size by rw [block_of_add]; omega)).trans (HCB.out k (vb x[k]) (by rw [List.getElem?_map, List.getElem?_eq_getElem hkl]; rfl))
              have hc3 := (hbk.cell (2 + i * 16 + k)).trans (rvRow_get _ _ _ _ _ _ _ (by omega))
              have hf3 := hbk.frozen (2 + i * 16 + k)
              have hnx := obs_next ls (16 * i + k) x[k] (by rw [show (16 * i + k) / 16 = i by omega, show (16 * i + k) % 16 = k by omega, HGD.out, List.getD_eq_getElem?_getD, List.getElem?_eq_getElem hkl]; rfl)
              generalize x[k] = u at hc2 hnx
              have HNX := Lib.hid hnx
              unfold vb at hc2
              generalize rvG 0 0 (obs ls (16 * i + k)) (fun _ => 0) (fun _ => .slice none 0 0) (.slice none 0 0) (2 + i * 16 + k) = old at hc3
              clear hbk hbw hnx
              go_wp2_with fail
              go_region
              go_wp2_with fail
              go_roundw
              case rel =>
                have hrow : (rvRow 0 0 (obs ls (16 * i + k)) (fun _ => 0) (fun _ => .slice none 0 0) (.slice none 0 0)).setIfInBounds (2 + i * 16 + k) (vb u) = rvRow 0 0 (obs ls (16 * i + (k + 1))) (fun _ => 0) (fun _ => .slice none 0 0) (.slice none 0 0) := by
                  rw [show 2 + i * 16 + k = 2 + (16 * i + k) by omega, rvRow_byte _ _ _ _ _ _ _ (by omega), HNX.out]; rfl
                have hset := HB2.out.set_ (2 + i * 16 + k) (vb u)
                rw [hrow] at hset
                have hT := Turned.setCell wr ⟨g2, 2 + i * 16 + k, none⟩ (vb u)
                have hlow := hT.below HW2.out hgw
                exact ⟨k + 1, by omega, by go_num, hset, by first | exact hlow | exact hlow.drewN _ | exact below_drewN hlow _⟩
              case measure => simp [intOf]; omega
            · obtain rfl : k = 16 := by omega
              have hkI : ¬ ((16 : Nat) : Int) < 16 := by omega
              clear hbk hbw
              go_wp2_with fail
              go_roundw
              case rel => exact ⟨i + 1, by omega, by go_num, fun q hq => by
                rcases Nat.lt_or_ge q i with h | h
                · exact HOK.out q h
                · obtain rfl : q = i := by omega
                  rw [HGD.out]; exact HXM.out, HB2.out, HW2.out⟩
              case measure => simp [intOf]; omega
        · have hne : ((mk : Int) != 16) = true := by simp; omega
          have ho : o = none := by
            rw [HO.out]
            unfold openV
            rw [if_neg]
            rintro ⟨_, h2, _⟩
            have := h2 i hin
            rw [hgd] at this
            omega
          subst ho
          clear hx hrd hblk hok hgd hq
          go_wp2_with fail
          go_ret2
          exact ⟨rfl, HB.out⟩
        --DONE-END
      · obtain rfl : i = 8 := by omega
        have hinI : ¬ ((8 : Nat) : Int) < 8 := by omega
        clear hok hblk hbel
        go_wp2_with fail
        go_loopw [7] (fun iv wr => ∃ (i : Nat) (dv : Nat → Value), i ≤ 4 ∧ iv = .int .i64 i ∧ (∀ q, q < i → (clientOf (ls.getD (8 + q) [])).isSome = true) ∧ Blk wr g2 128 (rvRow 0 0 (obs ls 128) (clSt ls i) dv (.slice none 0 0)) ∧ (∀ q, q < i → ∃ A c, dv q = .slice A (clq ls q).2.length c ∧ OwnB wr w.heap.size (.slice A (clq ls q).2.length c) (clq ls q).2) ∧ Below w.heap.size w wr) (fun iv _ => 4 - (intOf iv).toNat)
        case atStart => exact ⟨0, _, by omega, rfl, fun q hq => by omega, by rw [clSt_zero]; exact HBK.out, fun q hq => by omega, HB.out⟩
        clear HB HBK hsz
        case round =>
          obtain ⟨i, dv, hi, rfl, hcl, hblk, hdv, hbel⟩ := hrel
          have HCLI := Lib.hid hcl
          have HB := Lib.hid hbel
          have hsz := hbel.size
          have HBK := Lib.hid hblk
          have HDV := Lib.hid hdv
          by_cases hin : i < 4
          · skip
            --DONE-BEGIN
            have hinI : (i : Int) < 4 := by omega
            have hil : 8 + i < ls.length := by have := HXL.out; omega
            have hx := List.getElem?_eq_getElem hil
            have hgd : ls.getD (8 + i) [] = ls[8 + i] := by rw [List.getD_eq_getElem?_getD, hx, Option.getD_some]
            have hlm := HLX.out _ (List.getElem_mem hil)
            obtain ⟨Ak, mk, ck, hq, hrd, hmc⟩ := HCL.out (8 + i) _ hx
            generalize ls[8 + i] = x at hx hgd hrd hlm
            have hxm : x.length = mk := by have := hrd.1; simpa using this
            have hcx := (hbel.cell (show (ad.add (8 + i)).block < w.heap.size by rw [block_of_add]; omega)).trans hq
            have HCLN := Lib.hid (rclient_any Ak mk ck x wr w.heap.size (hrd.below hbel) hsz hmc (by omega))
            unfold RClientPost at HCLN
            obtain ⟨p, hp⟩ : ∃ p, p = clientOf x := ⟨_, rfl⟩
            rw [← hp] at HCLN
            have HP := Lib.hid hp
            have HGD := Lib.hid hgd
            clear hx hrd hcl hblk hdv hbel hgd hq hp
            go_wp2_with fail
            refine HCLN.out.mono ?_
            rintro _ w4 ⟨v, rfl, ho4, hb4⟩
            have hs4 := hb4.size
            have HO4 := Lib.hid (ho4.more hsz)
            have HB4 := Lib.hid (HB.out.trans (hb4.mono hsz))
            have hk4 := HBK.out.below' hb4
            have HK4 := Lib.hid hk4
            have HDV4 := Lib.hid (fun q hq => (by
              obtain ⟨A, c, h1, h2⟩ := HDV.out q hq
              exact ⟨A, c, h1, h2.below hb4⟩ : ∃ A c, dv q = .slice A (clq ls q).2.length c ∧ OwnB w4 w.heap.size (.slice A (clq ls q).2.length c) (clq ls q).2))
            clear hb4 HCLN
            cases p with
            | none =>
              have ho : o = none := by
                rw [HO.out]
                unfold openV
                rw [if_neg]
                rintro ⟨_, _, h3⟩
                have := h3 i hin
                rw [HGD.out, ← HP.out] at this
                cases this
              subst ho
              clear ho4 hk4
              go_wp2_with fail
              go_ret2
              exact ⟨rfl, HB4.out⟩
            | some p =>
              have hcq : clq ls i = p := by unfold clq; rw [HGD.out, ← HP.out]; rfl
              have hsome : (clientOf (ls.getD (8 + i) [])).isSome = true := by rw [HGD.out, ← HP.out]; rfl
              have HCQ := Lib.hid hcq
              have HSM := Lib.hid hsome
              obtain ⟨A4, c4, hv, _⟩ := own_slice_b ho4
              subst hv
              have hO4 : OwnB w4 w.heap.size (.slice A4 p.2.length c4) p.2 := HO4.out
              have HO5 := Lib.hid hO4
              simp only [Option.getD_some, Option.isSome_some]
              obtain ⟨dn, hdn⟩ : ∃ k, k = p.2.length := ⟨_, rfl⟩
              obtain ⟨sn, hsn⟩ : ∃ k, k = p.1 := ⟨_, rfl⟩
              rw [← hdn, ← hsn]
              have HDN := Lib.hid hdn
              have HSN := Lib.hid hsn
              have hc1 := (hk4.cell (130 + i)).trans (rvRow_get _ _ _ _ _ _ _ (by omega))
              have hf1 := hk4.frozen (130 + i)
              have hc2 := (hk4.cell (134 + i)).trans (rvRow_get _ _ _ _ _ _ _ (by omega))
              have hf2 := hk4.frozen (134 + i)
              generalize rvG _ _ _ _ _ _ (130 + i) = old1 at hc1
              generalize rvG _ _ _ _ _ _ (134 + i) = old2 at hc2
              clear ho4 hk4 hO4 hcq hsome hdn hsn HO4
              go_wp2_with fail
              go_roundw
              case rel =>
                have hset := (HK4.out.set_ (130 + i) (.int .i64 (sn : Int))).set_ (134 + i) (.slice A4 dn c4)
                have e : (fun j => if j = i then sn else clSt ls i j) = clSt ls (i + 1) := by rw [HSN.out, ← HCQ.out]; exact clSt_next ls i
                rw [rvRow_stamp _ _ _ _ _ _ i hin, e, rvRow_data _ _ _ _ _ _ i hin] at hset
                have hT := (Turned.setCell w4 ⟨g2, 130 + i, none⟩ (.int .i64 (sn : Int))).trans (Turned.setCell (w4.setCell ⟨g2, 130 + i, none⟩ (.int .i64 (sn : Int))) ⟨g2, 134 + i, none⟩ (.slice A4 dn c4))
                have hkeep : ∀ u x, OwnB w4 w.heap.size u x → OwnB ((w4.setCell ⟨g2, 130 + i, none⟩ (.int .i64 (sn : Int))).setCell ⟨g2, 134 + i, none⟩ (.slice A4 dn c4)) w.heap.size u x := fun u x hu => hu.keep fun b hb => hT.block b fun e => by
                  obtain ⟨cur, hcur⟩ := ownB_blk hu hb
                  exact Blk.ne_ hcur HK4.out (by decide) e
                refine ⟨i + 1, _, by omega, by go_num, fun q hq => ?_, hset, fun q hq => ?_, hT.below HB4.out hgw⟩
                · rcases Nat.lt_or_ge q i with h | h
                  · exact HCLI.out q h
                  · obtain rfl : q = i := by omega
                    exact HSM.out
                · by_cases hqi : q = i
                  · subst hqi
                    refine ⟨A4, c4, ?_, ?_⟩
                    · rw [if_pos rfl, HCQ.out, HDN.out]
                    · rw [HCQ.out]
                      exact hkeep _ _ HO5.out
                  · obtain ⟨A, c, h1, h2⟩ := HDV4.out q (by omega)
                    exact ⟨A, c, by rw [if_neg hqi]; exact h1, hkeep _ _ h2⟩
              case measure => simp [intOf]; omega
            --DONE-END
          · obtain rfl : i = 4 := by omega
            have hinI : ¬ ((4 : Nat) : Int) < 4 := by omega
            have hil : 12 < ls.length := by have := HXL.out; omega
            have hx := List.getElem?_eq_getElem hil
            have hgd : ls.getD 12 [] = ls[12] := by rw [List.getD_eq_getElem?_getD, hx, Option.getD_some]
            have hlm := HLX.out _ (List.getElem_mem hil)
            obtain ⟨Ak, mk, ck, hq, hrd, hmc⟩ := HCL.out 12 _ hx
            generalize ls[12] = x at hx hgd hrd hlm
            have hxm : x.length = mk := by have := hrd.1; simpa using this
            have hcx := (hbel.cell (show (ad.add 12).block < w.heap.size by rw [block_of_add]; omega)).trans hq
            have HLM := Lib.hid hlm
            have HNU := Lib.hid (rnumbers_any Ak mk ck x wr w.heap.size (hrd.below hbel) hsz hmc (by omega))
            unfold NumsPost at HNU
            obtain ⟨p, hp⟩ : ∃ p, p = numsV x := ⟨_, rfl⟩
            rw [← hp] at HNU
            have HP := Lib.hid hp
            have HGD := Lib.hid hgd
            have hcx2 : wr.cell? { block := ad.block, off := ad.off + 12 } = some (.slice Ak mk ck) := hcx
            clear hx hrd hcl hblk hdv hbel hgd hq hp
            go_wp2_with fail
            refine HNU.out.mono ?_
            rintro _ w4 ⟨v, rfl, ho4, hmx, hb4⟩
            have hs4 := hb4.size
            have HB4 := Lib.hid (HB.out.trans (hb4.mono hsz))
            have HK4 := Lib.hid (HBK.out.below' hb4)
            have HO4 := Lib.hid ho4
            have HMX := Lib.hid hmx
            have HDV4 := Lib.hid (fun q hq => (by
              obtain ⟨A, c, h1, h2⟩ := HDV.out q hq
              exact ⟨A, c, h1, h2.below hb4⟩ : ∃ A c, dv q = .slice A (clq ls q).2.length c ∧ OwnB w4 w.heap.size (.slice A (clq ls q).2.length c) (clq ls q).2))
            obtain ⟨An, cn, hv, _⟩ := own_slice_n ho4
            subst hv
            clear hb4 HNU ho4 hmx
            cases p with
            | none =>
              have ho : o = none := by
                rw [HO.out]
                unfold openV
                by_cases hc : ls.length = 13 ∧ (∀ i, i < 8 → (ls.getD i []).length = 16) ∧ (∀ i, i < 4 → (clientOf (ls.getD (8 + i) [])).isSome = true)
                · rw [if_pos hc]
                  unfold sealOf
                  rw [HGD.out, ← HP.out]
                · rw [if_neg hc]
              subst ho
              simp only [Option.isSome_none]
              go_wp2_with fail
              go_ret2
              exact ⟨rfl, HB4.out⟩
            | some l =>
              have hoe : o = if goodSeal l then some (openM ls l) else none := by
                rw [HO.out]
                unfold openV
                rw [if_pos ⟨HXL.out, HOK.out, HCLI.out⟩]
                unfold sealOf
                rw [HGD.out, ← HP.out]
                by_cases hgs : goodSeal l
                · simp only [if_pos hgs]
                · simp only [if_neg hgs]
              have HOE := Lib.hid hoe
              clear hoe
              simp only [Option.getD_some, Option.isSome_some] at HO4 HMX ⊢
              have hnl := nI_len l
              rw [hnl]
              have HO5 := Lib.hid (show OwnN w4 wr.heap.size (.slice An l.length cn) (nI l) by rw [← hnl]; exact HO4.out)
              obtain ⟨ln, hln⟩ : ∃ k, k = l.length := ⟨_, rfl⟩
              rw [← hln]
              have HLN := Lib.hid hln
              have hbad : ¬ goodSeal l → o = none := fun hb => by rw [HOE.out, if_neg hb]
              have HBAD := Lib.hid hbad
              clear hnl HO4 hln hbad
              by_cases h3 : ln < 3
              · have h3I : (ln : Int) < 3 := by omega
                have ho : o = none := HBAD.out (by rintro ⟨h, _⟩; have := HLN.out; omega)
                subst ho
                go_wp2_with fail
                go_ret2
                exact ⟨rfl, HB4.out⟩
              · have h3I : ¬ (ln : Int) < 3 := by omega
                obtain ⟨A', c', hve, hcl3, hcm, hrn, hgen⟩ := own_slice_n HO5.out
                injection hve with e1 e2 e3
                subst e1 e3
                rw [nI_len] at hrn hcl3
                rw [← HLN.out] at hcl3
                have HRN := Lib.hid hrn
                obtain ⟨nd, hAn, hnd, hcn⟩ := hrn.2 (by have := HLN.out; omega)
                subst hAn
                have hndb : nd.block ≠ g2 := by have := hgen nd rfl; have := HBK.out.lt; omega
                have hget : ∀ j, j < ln → w4.cell? (nd.add j) = some (.int .i64 ((l.getD j 0 : Nat) : Int)) := fun j hj => by
                  have hjl : j < l.length := by have := HLN.out; omega
                  refine hcn j _ ?_
                  rw [List.getD_eq_getElem?_getD, List.getElem?_eq_getElem hjl]
                  simp [nI, hjl, vn]
                have hd0 : w4.cell? nd = some (.int .i64 ((l.getD 0 0 : Nat) : Int)) := hget 0 (by omega)
                have hd1 : w4.cell? { block := nd.block, off := nd.off + 1 } = some (.int .i64 ((l.getD 1 0 : Nat) : Int)) := hget 1 (by omega)
                have hd2 : w4.cell? { block := nd.block, off := nd.off + 2 } = some (.int .i64 ((l.getD 2 0 : Nat) : Int)) := hget 2 (by omega)
                have hlm : ln ≤ 9223372036854775807 := by have := HLN.out; have := hcm; have := hrn; unfold maxLen at *; omega
                have hgsd : goodSeal l ↔ (3 ≤ l.length ∧ 1 ≤ l.getD 0 0 ∧ l.getD 0 0 ≤ 2 ∧ l.getD 1 0 ≤ 1048576 ∧ l.getD 2 0 + 3 = l.length ∧ ¬ (l.getD 1 0 = 1048576 ∧ 0 < l.getD 2 0) ∧ (l.length = 3 ∨ crewB ((l.drop 3).map (fun n : Nat => (n : Int))) = true)) := Iff.rfl
                have HGSD := Lib.hid hgsd
                rw [hgsd] at HBAD
                clear hget hcn hrn hgsd hgen
                obtain ⟨a0, ha0⟩ : ∃ x, x = l.getD 0 0 := ⟨_, rfl⟩
                obtain ⟨a1, ha1⟩ : ∃ x, x = l.getD 1 0 := ⟨_, rfl⟩
                obtain ⟨a2, ha2⟩ : ∃ x, x = l.getD 2 0 := ⟨_, rfl⟩
                rw [← ha0] at hd0 HBAD HGSD
                rw [← ha1] at hd1 HBAD HGSD
                rw [← ha2] at hd2 HBAD HGSD
                have HA0 := Lib.hid ha0
                have HA1 := Lib.hid ha1
                clear ha0 ha1 ha2
                by_cases z1 : a0 < 1
                · have z1I : (a0 : Int) < 1 := by omega
                  have ho : o = none := HBAD.out (by rintro ⟨_, q1, q2, q3, q4, q5, _⟩; have := HLN.out; omega)
                  subst ho
                  go_wp2_with fail
                  go_ret2
                  exact ⟨rfl, HB4.out⟩
                · have z1I : ¬ (a0 : Int) < 1 := by omega
                  by_cases z2 : 2 < a0
                  · have z2I : (2 : Int) < (a0 : Int) := by omega
                    have ho : o = none := HBAD.out (by rintro ⟨_, q1, q2, q3, q4, q5, _⟩; have := HLN.out; omega)
                    subst ho
                    go_wp2_with fail
                    go_ret2
                    exact ⟨rfl, HB4.out⟩
                  · have z2I : ¬ (2 : Int) < (a0 : Int) := by omega
                    by_cases z3 : 1048576 < a1
                    · have z3I : (1048576 : Int) < (a1 : Int) := by omega
                      have ho : o = none := HBAD.out (by rintro ⟨_, q1, q2, q3, q4, q5, _⟩; have := HLN.out; omega)
                      subst ho
                      go_wp2_with fail
                      go_ret2
                      exact ⟨rfl, HB4.out⟩
                    · have z3I : ¬ (1048576 : Int) < (a1 : Int) := by omega
                      by_cases z4 : a2 + 3 = ln
                      · have z4I : ((a2 : Int) != (ln : Int) - 3) = false := by
                          have : (a2 : Int) = (ln : Int) - 3 := by omega
                          simp [this]
                        by_cases z56 : a1 = 1048576 ∧ 0 < a2
                        · have z5I : ((a1 : Int) == 1048576) = true := by simp [z56.1]
                          have z6I : (0 : Int) < (a2 : Int) := by omega
                          have ho : o = none := HBAD.out (by rintro ⟨_, q1, q2, q3, q4, q5, _⟩; exact q5 z56)
                          subst ho
                          go_wp2_with fail
                          go_ret2
                          exact ⟨rfl, HB4.out⟩
                        · have hz : (((a1 : Int) == 1048576) = true ∧ ¬ (0 : Int) < (a2 : Int)) ∨ ((a1 : Int) == 1048576) = false := by
                            by_cases e : a1 = 1048576
                            · exact .inl ⟨by simp [e], by omega⟩
                            · exact .inr (by simp; omega)
                          have hgood : goodSeal l ↔ (ln = 3 ∨ crewB (nI (l.drop 3)) = true) := by
                            rw [HGSD.out, ← HLN.out]
                            constructor
                            · exact fun hh => hh.2.2.2.2.2.2
                            · exact fun hh => ⟨by omega, by omega, by omega, by omega, by omega, z56, hh⟩
                          have hok := fun (hg : goodSeal l) => openM_ok HXL.out HOK.out HCLI.out hg
                          have HOKM := Lib.hid hok
                          have HGOOD := Lib.hid hgood
                          have hc0 := (HK4.out.cell 0).trans (rvRow_get _ _ _ _ _ _ 0 (by omega))
                          have hf0 := HK4.out.frozen 0
                          have hc1 := (HK4.out.cell 1).trans (rvRow_get _ _ _ _ _ _ 1 (by omega))
                          have hf1 := HK4.out.frozen 1
                          have hc138 := (HK4.out.cell 138).trans (rvRow_get _ _ _ _ _ _ 138 (by omega))
                          have hf138 := HK4.out.frozen 138
                          generalize rvG _ _ _ _ _ _ 0 = old0 at hc0
                          generalize rvG _ _ _ _ _ _ 1 = old1 at hc1
                          generalize rvG _ _ _ _ _ _ 138 = old2 at hc138
                          have hd1' : ∀ v, (w4.setCell ⟨g2, 0, none⟩ v).cell? { block := nd.block, off := nd.off + 1 } = some (.int .i64 (a1 : Int)) := fun v => ((Turned.setCell w4 ⟨g2, 0, none⟩ v).cell (p := { block := nd.block, off := nd.off + 1 }) hndb).trans hd1
                          have hln0 : (0 : Int) < (ln : Int) := by omega
                          have hln1 : (1 : Int) < (ln : Int) := by omega
                          have hw5a := HK4.out.set_ 0 (.int .i64 (a0 : Int))
                          rw [rvRow_group] at hw5a
                          have hw5 := hw5a.set_ 1 (.int .i64 (a1 : Int))
                          rw [rvRow_epoch] at hw5
                          have hT5 : Turned g2 w4 ((w4.setCell ⟨g2, 0, none⟩ (.int .i64 (a0 : Int))).setCell ⟨g2, 1, none⟩ (.int .i64 (a1 : Int))) := (Turned.setCell w4 ⟨g2, 0, none⟩ (.int .i64 (a0 : Int))).trans (Turned.setCell (w4.setCell ⟨g2, 0, none⟩ (.int .i64 (a0 : Int))) ⟨g2, 1, none⟩ (.int .i64 (a1 : Int)))
                          have HK5 := Lib.hid hw5
                          have HT5 := Lib.hid hT5
                          have HSF := Lib.hid (fun (W : World) => run_slice_from (P := Tryz.prog) (t := 42) (e := 3) Tryz.underlying42 (by kernel_rfl) (some nd) ln cn 3 3 rfl (by omega) W)
                          obtain ⟨A7, hA7⟩ : ∃ A7, A7 = (if cn = 3 then (some nd : Option Addr) else (some nd : Option Addr).map (·.add 3)) := ⟨_, rfl⟩
                          rw [← hA7] at HSF
                          have hrdn : Reads w4 w4.heap.size 1 A7 (ln - 3) ((nI (l.drop 3)).map vn) := by
                            have := HRN.out
                            rw [← HLN.out] at this
                            have := this.sub (l := 3) (k := ln) (cap := cn) (by omega) (Nat.le_refl _) hcl3
                            rw [Nat.mul_one, Nat.mul_one] at this
                            rw [← hA7] at this
                            have e : (((nI l).map vn).drop 3).take (ln - 3) = (nI (l.drop 3)).map vn := by
                              rw [List.take_of_length_le (by rw [List.length_drop, List.length_map, nI_len, ← HLN.out]; omega)]
                              unfold nI
                              rw [List.map_drop, List.map_drop]
                            rw [e] at this
                            exact this
                          have hA7b : ∀ a, A7 = some a → a.block ≠ g2 := fun a ha => by
                            rw [hA7] at ha
                            split at ha
                            · injection ha with ha; rw [← ha]; exact hndb
                            · simp only [Option.map_some] at ha
                              injection ha with ha
                              rw [← ha, block_of_add]; exact hndb
                          have HA7B := Lib.hid hA7b
                          have HRDN := Lib.hid hrdn
                          have hdl3 : (nI (l.drop 3)).length = ln - 3 := by rw [nI_len, List.length_drop, ← HLN.out]
                          obtain ⟨m3, hm3⟩ : ∃ k, k = ln - 3 := ⟨_, rfl⟩
                          rw [← hm3] at HSF HRDN hdl3
                          have HDL3 := Lib.hid hdl3
                          have HM3 := Lib.hid hm3
                          have hcm3 : m3 ≤ cn - 3 := by omega
                          clear hok hgood hrdn hdl3 hm3 hA7 hA7b z56 hw5a hw5 hT5
                          have HZ4 := Lib.hid z4
                          clear z4
                          rcases hz with ⟨z5I, z6I⟩ | z5I
                          all_goals
                            go_upto_region 26 with fail
                            generalize World.setCell (World.setCell w4 _ _) _ _ = w5 at HK5 HT5 ⊢
                            have hk138 := (HK5.out.cell 138).trans (rvRow_get _ _ _ _ _ _ 138 (by omega))
                            have hk138f := HK5.out.frozen 138
                            clear hc0 hf0 hc1 hf1 hc138 hf138 hd0 hd1 hd2 hd1'
                            go_upto_region 27 with (refine wpList_exec_want (o := ⟨some 142, _, _, _, _, _⟩) rfl (.slice A7 m3 (cn - 3)) (exec_slice_of 42 (.tmp 141) (some (.const (.int .i64 3))) rfl (some nd) ln cn rfl (some (.int .i64 3)) rfl Tryz.underlying42 _ (HSF.out w5)) ?_)
                            have hw6 := HK5.out.set_ 138 (.slice A7 m3 (cn - 3))
                            rw [rvRow_shut] at hw6
                            have HT6 := Lib.hid (HT5.out.trans (Turned.setCell w5 ⟨g2, 138, none⟩ (.slice A7 m3 (cn - 3))))
                            have HK6 := Lib.hid hw6
                            generalize World.setCell w5 _ _ = w6 at HK6 HT6 ⊢
                            have hl6 : (rvRow (a0 : Int) (a1 : Int) (obs ls 128) (clSt ls 4) dv (.slice A7 m3 (cn - 3))).size = 139 := rvRow_size _ _ _ _ _ _
                            have hc6 : w6.cell? ⟨g2, 138, none⟩ = some (.slice A7 m3 (cn - 3)) := (HK6.out.cell 138).trans (rvRow_get _ _ _ _ _ _ 138 (by omega))
                            have hc6' : ∀ o, (w6.alloc o).cell? ⟨g2, 138, none⟩ = some (.slice A7 m3 (cn - 3)) := fun o => (World.cell?_alloc_lt w6 o ⟨g2, 138, none⟩ HK6.out.lt).trans hc6
                            have hg26 := HK6.out.lt
                            have hs6 : w6.heap.size = w4.heap.size := HT6.out.size
                            have HS6 := Lib.hid hs6
                            clear hw6 hk138 hk138f hl6 HK5 HT5 hs6
                            go_upto_region 28 with (refine wpList_store_part (o := ⟨none, _, _, _, _, _⟩) rfl 44 (.tmp 13) (.tmp 149) rfl w6.heap.size 0 (wCells (sealW1 (nI (l.drop 3))) none 0 0 A7 m3 (cn - 3)) rfl rfl 44 (wCells zeroW none 0 0 none 0 0) (Blk.newAt rfl) (wCells_info _ _ _ _ _ _ _) (by simp [wCells]) (wCells_one _ _ _ _ _ _ _) ?_; intro w7 hT7 hD7; rw [wC_spl] at hD7)
                            have hb7 : Below w6.heap.size w6 w7 := hT7.below ((Below.refl _ _).alloc (Nat.le_refl _) _) (Nat.le_refl _)
                            have HD7 := Lib.hid hD7
                            have HB7 := Lib.hid hb7
                            obtain ⟨g7, hg7⟩ : ∃ x, x = w6.heap.size := ⟨_, rfl⟩
                            rw [← hg7] at HD7 ⊢
                            have hs67 := hb7.size
                            have hc7 : w7.cell? ⟨g2, 138, none⟩ = some (.slice A7 m3 (cn - 3)) := (hb7.cell (p := ⟨g2, 138, none⟩) hg26).trans hc6
                            have HG7 := Lib.hid (show w4.heap.size ≤ g7 by rw [hg7, HS6.out]; exact Nat.le_refl _)
                            clear hT7 hD7 hb7 hg7 hc6 hc6'
                            have hrd7 : Reads w7 w7.heap.size 1 A7 m3 ((nI (l.drop 3)).map vn) := ⟨HRDN.out.1, fun h0 => by
                              obtain ⟨ad7, e1, e2, e3⟩ := HRDN.out.2 h0
                              refine ⟨ad7, e1, by have := HS6.out; omega, fun j u hu => ?_⟩
                              rw [← e3 j u hu, HB7.out.cell (by rw [block_of_add]; have := HS6.out; omega)]
                              exact HT6.out.cell (by rw [block_of_add]; exact HA7B.out _ e1)⟩
                            have hrow : ∃ S, S = RVs.mk (fun q => (match dv q with | .slice A _ _ => A | _ => none)) (fun q => (match dv q with | .slice _ _ c => c | _ => 0)) A7 (cn - 3) := ⟨_, rfl⟩
                            obtain ⟨S, hS⟩ := hrow
                            have hrv : goodSeal l → RVAt w7 g2 (openM ls l) S := fun hg => by
                              have hcl : ∀ q, q < 4 → lastV (openM ls l) q = clq ls q := fun q hq => lastV_open ls l q hq
                              have hbl : ∀ q, q < 8 → blockV (openM ls l) q = ls.getD q [] := fun q hq => blockV_open ls l HXL.out q hq
                              have hdv : ∀ q, q < 4 → dv q = .slice (S.dA q) (lastV (openM ls l) q).2.length (S.dC q) := fun q hq => by
                                obtain ⟨A, c, e1, e2⟩ := HDV4.out q hq
                                rw [hS, hcl q hq]
                                simp only [e1]
                              have hsl : (openM ls l).shut.length = m3 := HDL3.out
                              refine ⟨HOKM.out hg, ?_, fun q hq => ?_, ?_⟩
                              · have hk : Blk w7 g2 128 (rvRow (a0 : Int) (a1 : Int) (obs ls 128) (clSt ls 4) dv (.slice A7 m3 (cn - 3))) := HK6.out.below' HB7.out
                                have e : rvCells (openM ls l) S = rvRow (a0 : Int) (a1 : Int) (obs ls 128) (clSt ls 4) dv (.slice A7 m3 (cn - 3)) := by
                                  rw [rvCells_row]
                                  exact rvRow_open (by rw [HA0.out]; rfl) (by rw [HA1.out]; rfl) (fun q hq => by rw [hbl _ (by omega)]; unfold obs; rw [if_pos hq]) (fun q hq => by rw [hcl q hq]; unfold clSt; rw [if_pos hq]) (fun q hq => (hdv q hq).symm) (by rw [hsl, hS])
                                rw [e]
                                exact hk
                              · obtain ⟨A, c, e1, e2⟩ := HDV4.out q hq
                                have e2' : OwnB w7 w.heap.size (.slice A (clq ls q).2.length c) (clq ls q).2 := (e2.keep fun b hb => HT6.out.block b fun e => by
                                  obtain ⟨cur, hcur⟩ := ownB_blk e2 hb
                                  exact Blk.ne_ hcur HK4.out (by decide) e).below HB7.out
                                have e3 := e2'.reads
                                have e4 := hdv q hq
                                rw [e1] at e4
                                injection e4 with q1 q2 q3
                                rw [← q1, ← q3, hcl q hq]
                                exact ⟨e3.2.2.2.1, e3.2.1⟩
                              · rw [hsl, hS]
                                exact ⟨hrd7, hcm3⟩
                            have HRV := Lib.hid hrv
                            have HRD7 := Lib.hid hrd7
                            have hbw7 : Below w.heap.size w w7 := (HT6.out.below HB4.out hgw).trans (HB7.out.mono (by have := HS6.out; have := HB4.out.size; omega))
                            have HBW7 := Lib.hid hbw7
                            have hsw7 := hbw7.size
                            clear hrv hrd7 hS hbw7
                            by_cases h0 : m3 = 0
                            · have h0I : ¬ (0 : Int) < (m3 : Int) := by omega
                              have hgs : goodSeal l := HGOOD.out.2 (.inl (by have := HM3.out; omega))
                              have ho : o = some (openM ls l) := by rw [HOE.out, if_pos hgs]
                              have HCPY := Lib.hid (rCopy_any w7 g2 (openM ls l) S (HRV.out hgs))
                              subst ho
                              clear hgs
                              go_wp2_with fail
                              refine HCPY.out.mono ?_
                              rintro _ w8 ⟨g8, S8, rfl, hown, hb8⟩
                              have HW8 := Lib.hid (hown.more hsw7)
                              have HB8 := Lib.hid (HBW7.out.trans (hb8.mono hsw7))
                              clear hown hb8 HCPY
                              go_wp2_with fail
                              go_ret2
                              exact ⟨g8, S8, rfl, HW8.out, HB8.out⟩
                            · have h0I : (0 : Int) < (m3 : Int) := by omega
                              have HCK := Lib.hid (refCheck_any (sealW1 (nI (l.drop 3))) none 0 0 A7 m3 (cn - 3) w7 w7.heap.size ⟨Reads.none_, by simp, by simp, HRD7.out, hcm3, by have := numsV_len HP.out.symm; have := HLM.out; have := HM3.out; have := HLN.out; omega, ⟨by show I64 0; unfold I64; omega, by show I64 0; unfold I64; omega, by show I64 1; unfold I64; omega, by show I64 0; unfold I64; omega, by show I64 5; unfold I64; omega, by show I64 0; unfold I64; omega, by show I64 0; unfold I64; omega, by show I64 0; unfold I64; omega, fun z hz => by
                                obtain ⟨k, hk, rfl⟩ := List.mem_map.1 hz
                                have := HMX.out k (List.mem_of_mem_drop hk)
                                unfold maxN at this
                                unfold I64; omega⟩⟩ (Nat.le_refl _))
                              rw [sealW1_may] at HCK
                              obtain ⟨cb, hcb⟩ : ∃ b, b = crewB (nI (l.drop 3)) := ⟨_, rfl⟩
                              rw [← hcb] at HCK
                              have hgc : goodSeal l ↔ cb = true := by
                                rw [HGOOD.out, ← hcb]
                                constructor
                                · rintro (e | e)
                                  · have := HM3.out; omega
                                  · exact e
                                · exact fun e => .inr e
                              have HGC := Lib.hid hgc
                              clear hgc hcb
                              go_wp2_with (refine wpList_load_part_w (o := ⟨some 157, _, _, _, _, _⟩) (wanted_at (j := 6) (d := 156) (b := true) rfl rfl (by first | rfl | (simp; omega))) 44 (.tmp 13) rfl g7 0 10 rfl 44 _ (wCells (sealW1 (nI (l.drop 3))) none 0 0 A7 m3 (cn - 3)) _ HD7.out Tryz.underlying44 rfl rfl rfl (fun _ _ => by rw [Nat.zero_add]) ?_)
                              refine HCK.out.mono ?_
                              rintro _ w8 ⟨rfl, hb8⟩
                              have HB78 := Lib.hid hb8
                              have HB8 := Lib.hid (HBW7.out.trans (hb8.mono hsw7))
                              have hs78 := hb8.size
                              clear hb8 HCK
                              cases cb with
                              | false =>
                                have ho : o = none := by rw [HOE.out, if_neg (fun e => by have := HGC.out.1 e; cases this)]
                                subst ho
                                simp only [Bool.false_eq_true, if_false]
                                go_wp2_with fail
                                go_ret2
                                exact ⟨rfl, HB8.out⟩
                              | true =>
                                have hgs : goodSeal l := HGC.out.2 rfl
                                have ho : o = some (openM ls l) := by rw [HOE.out, if_pos hgs]
                                have HCPY := Lib.hid (rCopy_any w8 g2 (openM ls l) S ((HRV.out hgs).below HB78.out))
                                subst ho
                                clear hgs
                                simp only [if_true]
                                go_wp2_with fail
                                refine HCPY.out.mono ?_
                                rintro _ w9 ⟨g9, S9, rfl, hown, hb9⟩
                                have HW9 := Lib.hid (hown.more (B' := w.heap.size) (by omega))
                                have HB9 := Lib.hid (HB8.out.trans (hb9.mono (by omega)))
                                clear hown hb9 HCPY
                                go_wp2_with fail
                                go_ret2
                                exact ⟨g9, S9, rfl, HW9.out, HB9.out⟩
                      · have z4I : ((a2 : Int) != (ln : Int) - 3) = true := by simp; omega
                        have ho : o = none := HBAD.out (by rintro ⟨_, q1, q2, q3, q4, q5, _⟩; have := HLN.out; omega)
                        subst ho
                        go_wp2_with fail
                        go_ret2
                        exact ⟨rfl, HB4.out⟩
  · have h13b : ((n : Int) != 13) = true := by simp; omega
    have ho : o = none := by
      rw [HO.out]
      unfold openV
      rw [if_neg]
      rintro ⟨h1, _⟩
      omega
    subst ho
    clear hr hlx
    go_enter Tryz.func13, Tryz.ntmps13
    go_wp2_with fail
    go_ret2
    exact ⟨rfl, Below.refl _ _⟩

end Go.Proofs.YtcpngeiahgoacaaGreat

/- the document's vault: the walk of Load (genrvj.py, out of VoE). -/
namespace Go.Proofs.YtcpngeiahgoacaaGreat
set_option linter.unusedVariables false
set_option linter.unusedSimpArgs false
open Go.RowKit Go.Maps

attribute [local irreducible] wpList wpCalm
def RLoadPost (w : World) (o : Option VM) (n : Nat) (e : Ending) (w' : World) : Prop := match o with
  | none => e = .returned (.tuple #[.pointer none, .int .i64 (n : Int)]) ∧ Below w.heap.size w w'
  | some m => ∃ g' S', e = .returned (.tuple #[.pointer (some ⟨g', 0, none⟩), .int .i64 0]) ∧ RVOwn w' w.heap.size g' m S' ∧ Below w.heap.size w w'
/-- Load under way -/
structure RLdSt (w : World) (xs : List UInt8) (A : Option Addr) (n c : Nat) (lv : Value) (rest : List UInt8) (acc : List (List UInt8)) (vs : List Value) (i : Nat) (wr : World) : Prop where
  rd : Reads wr wr.heap.size 1 A n (rest.map vb)
  cap : n ≤ c
  own : OwnL wr w.heap.size lv acc vs
  al : acc.length = i
  ax : ∀ x, x ∈ acc → x.length ≤ 1000000000000
  go : loadGo 13 xs [] = loadGo (13 - i) rest acc
  low : Below w.heap.size w wr

set_option maxRecDepth 100000 in
set_option maxHeartbeats 8000000 in
theorem rLoad_any (A : Option Addr) (n c : Nat) (xs : List UInt8) (w : World) (hr : Reads w w.heap.size 1 A n (xs.map vb)) (hc : n ≤ c) (hn : n ≤ 1000000000000) :
    Calls Tryz.prog 11 #[.slice A n c] w (RLoadPost w (loadV xs).1 (loadV xs).2) := by
  obtain ⟨o, ho⟩ : ∃ o, o = (loadV xs).1 := ⟨_, rfl⟩
  obtain ⟨en, hen⟩ : ∃ o, o = (loadV xs).2 := ⟨_, rfl⟩
  rw [← ho, ← hen]
  have HO := Lib.hid ho
  have HEN := Lib.hid hen
  have HST := Lib.hid (show RLdSt w xs A n c (.slice none 0 0) xs [] [] 0 w from ⟨hr, hc, OwnL.nil _ _, rfl, (fun x hx => by simp at hx), rfl, Below.refl _ _⟩)
  obtain ⟨i0, hi0, hz0, hz1, hz2⟩ := info_parts sl8_info
  clear hr ho hen hc
  go_enter Tryz.func11, Tryz.ntmps11
  go_wp2_with fail
  go_loopw [0, 4, 5] (fun bv lv iv wr => ∃ (A : Option Addr) (n c : Nat) (rest : List UInt8) (acc : List (List UInt8)) (vs : List Value) (i : Nat), i ≤ 13 ∧ n ≤ 1000000000000 ∧ bv = .slice A n c ∧ iv = .int .i64 i ∧ RLdSt w xs A n c lv rest acc vs i wr) (fun _ _ iv _ => 13 - (intOf iv).toNat)
  case atStart => exact ⟨_, _, _, _, _, _, 0, by omega, hn, rfl, rfl, HST.out⟩
  case round =>
    obtain ⟨A, n, c, rest, acc, vs, i, hi, hn, rfl, rfl, hst⟩ := hrel
    have HS := Lib.hid hst
    have hsz := hst.low.size
    have hrl : rest.length = n := by have := hst.rd.1; simpa using this
    have HRL := Lib.hid hrl
    clear hrl
    by_cases hin : i < 13
    · have hinI : (i : Int) < 13 := by omega
      have HT := Lib.hid (refTakeStr_any A n c 128 rest wr wr.heap.size hst.rd (Nat.le_refl _) hst.cap (by omega) (by omega))
      have hgo := HS.out.go.trans ((congrArg (fun q => loadGo q rest acc) (show 13 - i = (13 - (i + 1)) + 1 by omega)).trans (loadGo_succ _ rest acc))
      have hl1 := ts_len rest 128
      have hl2 := ts_first rest 128
      obtain ⟨q, hq⟩ : ∃ q, q = ts rest 128 := ⟨_, rfl⟩
      rw [← hq] at HT hgo hl1 hl2
      obtain ⟨d, r2, e2⟩ := q
      simp only at hgo hl1 hl2
      have HT2 := Lib.hid (show Calls Tryz.prog 62 #[.slice A n c, .int .i64 128] wr _ from HT.out)
      have HGO := Lib.hid hgo
      have HL1 := Lib.hid hl1
      have HL2 := Lib.hid hl2
      clear hst HT hq hgo hl1 hl2
      go_wp2_with fail
      refine HT2.out.mono ?_
      rintro _ w3 ⟨v, v', rfl, hod, hor, hb3⟩
      obtain ⟨Au, cu, hv, q1, q2, q3, q4⟩ := own_slice_b hod
      obtain ⟨A4, c4, hv', p1, p2, p3, p4⟩ := own_slice_b hor
      subst hv hv'
      have HP3 := Lib.hid p3
      have hs3 := hb3.size
      have hrn : r2.length ≤ 1000000000000 := by have := HL1.out; have := HRL.out; omega
      have hdn : d.length ≤ 1000000000000 := by have := HL2.out; have := HRL.out; omega
      obtain ⟨u, hu⟩ : ∃ u, u = Value.slice Au d.length cu := ⟨_, rfl⟩
      have HOR := Lib.hid (show OwnB w3 w.heap.size (.slice A4 r2.length c4) r2 from hor.more hsz)
      have HOD := Lib.hid (show OwnB w3 w.heap.size u d from by rw [hu]; exact hod.more hsz)
      have HB3 := Lib.hid hb3
      clear hod hor q1 q2 q3 q4 p2 p3 p4 HT2
      obtain ⟨nd, hnd⟩ : ∃ k, k = d.length := ⟨_, rfl⟩
      obtain ⟨nr, hnr⟩ : ∃ k, k = r2.length := ⟨_, rfl⟩
      rw [← hnd] at hu hdn ⊢
      rw [← hnr] at hrn p1 HP3 HOR ⊢
      have HND := Lib.hid hnd
      clear hnd hnr
      by_cases he : e2 = 0
      · subst he
        have HW := Lib.hid (show (w3.alloc (.cells #[u] 22)).ownsRow w.heap.size 22 1 _ i vs from by
          have := (rowD_keep HS.out.own.row (w' := w3) fun b hb'' => hb3.block b (rowD_lt HS.out.own.row hb'').2).alloc (.cells #[u] 22)
          rw [HS.out.al] at this
          exact this)
        have HR3 := Lib.hid (reads_cells w3 #[u] 22)
        rw [hu] at HW HR3
        have HU := Lib.hid hu
        clear hb3 hu
        go_wp2_with (at_builtin; go_must (refine wpList_append_any _ rfl (.tmp 22) (.tmp 24) 23 rfl w.heap.size 22 i0 _ 1 24 Tryz.underlying23 hi0 hz0 hz1 hz2 rfl (by omega) _ i vs rfl HW.out (w3.heap.size + 1) (some ⟨w3.heap.size, 0, none⟩) 1 1 [.slice Au nd cu] rfl HR3.out ?c1 ?c2 ?c3 ?c4 ?_))
        case c1 => intro z hz; rw [List.mem_singleton] at hz; subst hz; rfl
        case c2 => unfold maxLen; omega
        case c3 => omega
        case c4 => simp; omega
        intro v6 w6 hown6 hg6 hor6
        rw [← HU.out] at hown6 hg6
        have ho6 : OwnL w6 w.heap.size v6 (acc ++ [d]) (vs ++ [u]) := HS.out.own.push HB3.out HOD.out (by rw [HS.out.al]; exact hown6) hg6
        have hb6 : Below w.heap.size w w6 := grown_below ((HS.out.low.trans (HB3.out.mono hsz)).trans ((below_lit w3 (.cells #[u] 22)).mono (by omega))) (by simp; omega) hg6 (fun b hb => (rowD_lt HS.out.own.row hb).1)
        have hrd6 : Reads w6 w6.heap.size 1 A4 nr (r2.map vb) := (HS.out.own.push_keep HB3.out hg6 HOR.out).reads.2.2.2.1
        have hst6 : RLdSt w xs A4 nr c4 v6 r2 (acc ++ [d]) (vs ++ [u]) (i + 1) w6 := ⟨hrd6, p1, ho6, by rw [List.length_append, HS.out.al]; rfl, (by
          intro x hx
          rcases List.mem_append.1 hx with hx | hx
          · exact HS.out.ax x hx
          · rw [List.mem_singleton] at hx; rw [hx, ← HND.out]; exact hdn), by rw [HGO.out, if_neg (by simp)], hb6⟩
        have HST6 := Lib.hid hst6
        clear hown6 hg6 hor6 ho6 hb6 hrd6 hst6
        go_wp2_with fail
        go_roundw
        case rel => exact ⟨_, _, _, _, _, _, i + 1, by omega, hrn, rfl, by go_num, HST6.out⟩
        case measure => simp [intOf]; omega
      · have heb : ((e2 : Int) != 0) = true := by simp; omega
        have hlo : loadV xs = (none, e2) := by
          unfold loadV
          rw [HGO.out, if_pos he]
          simp only
          rw [if_pos he]
        have ho : o = none := by rw [HO.out, hlo]
        have he2 : en = e2 := by rw [HEN.out, hlo]
        have HLOW := Lib.hid (HS.out.low.trans (hb3.mono hsz))
        subst ho he2
        clear hb3 hu hlo HO HEN HS
        go_wp2_with fail
        go_ret2
        exact ⟨rfl, HLOW.out⟩
    · obtain rfl : i = 13 := by omega
      have hinI : ¬ (13 : Int) < 13 := by omega
      have hlg : loadGo 13 xs [] = (acc, rest, 0) := by rw [HS.out.go]; rfl
      have HLG := Lib.hid hlg
      obtain ⟨Al, cl, hlv, hcl, hrows⟩ := HS.out.own.rowsC
      rw [HS.out.al] at hlv hrows
      subst hlv
      have HROWS := Lib.hid hrows
      clear hst hlg hrows hcl
      by_cases h0 : n = 0
      · have h0I : ¬ (0 : Int) < (n : Int) := by omega
        subst h0
        have hlo : loadV xs = match openV acc with | none => (none, 2) | some m => (some m, 0) := by
          unfold loadV
          rw [HLG.out]
          simp only
          rw [if_neg (by simp), if_neg (by rw [HRL.out]; omega)]
          cases openV acc <;> rfl
        have HOP := Lib.hid (rOpen_any Al 13 cl acc wr HROWS.out (fun x hx => by have := HS.out.ax x hx; omega))
        have hoo : o = openV acc := by rw [HO.out, hlo]; cases openV acc <;> rfl
        have hee : o = none → en = 2 := fun h => by rw [HEN.out, hlo, ← hoo, h]
        rw [← hoo] at HOP
        have HEE := Lib.hid hee
        have HLOW := Lib.hid HS.out.low
        clear hlo hoo hee HO HEN HS HLG
        go_wp2_with fail
        refine HOP.out.mono ?_
        rintro e9 w9 h9
        rcases Option.eq_none_or_eq_some o with hoc | ⟨m, hoc⟩
        · subst hoc
          obtain ⟨rfl, hb9⟩ := h9
          have HB9 := Lib.hid (HLOW.out.trans (hb9.mono hsz))
          have he2 : en = 2 := HEE.out rfl
          subst he2
          clear hb9 HOP
          go_wp2_with fail
          go_ret2
          exact ⟨rfl, HB9.out⟩
        · subst hoc
          obtain ⟨g9, S9, rfl, hown9, hb9⟩ := h9
          have HB9 := Lib.hid (HLOW.out.trans (hb9.mono hsz))
          have HO9 := Lib.hid (hown9.more hsz)
          clear hown9 hb9 HOP
          go_wp2_with fail
          go_ret2
          exact ⟨g9, S9, rfl, HO9.out, HB9.out⟩
      · have h0I : (0 : Int) < (n : Int) := by omega
        have hlo : loadV xs = (none, 4) := by
          unfold loadV
          rw [HLG.out]
          simp only
          rw [if_neg (by simp), if_pos (by rw [HRL.out]; omega)]
        have ho : o = none := by rw [HO.out, hlo]
        have he2 : en = 4 := by rw [HEN.out, hlo]
        have HLOW := Lib.hid HS.out.low
        subst ho he2
        clear hlo HO HEN HS
        go_wp2_with fail
        go_ret2
        exact ⟨rfl, HLOW.out⟩

end Go.Proofs.YtcpngeiahgoacaaGreat
