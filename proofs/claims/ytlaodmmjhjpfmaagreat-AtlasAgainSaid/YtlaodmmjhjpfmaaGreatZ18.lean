/- Parts of the proof, in one text: AtL, AtP, VaultP, VaultO, VaultN, VaultQ, AtQ. -/
import Derived.Test.YtlaodmmjhjpfmaaGreatZ17
import Derived.Test.YtlaodmmjhjpfmaaGreatZ14
import Derived.BigRegion
import Derived.Deep.DeepCutAuto
import Derived.Test.YtlaodmmjhjpfmaaGreatZ13

/- An atlas with a replacement more, in memory. -/
namespace Go.Proofs.YtlaodmmjhjpfmaaGreat
set_option linter.unusedVariables false
set_option linter.unusedSimpArgs false
open Go.RowKit Go.Maps

attribute [local irreducible] wpList wpCalm
def upd {α : Type} (f : Nat → α) (c : Nat) (a : α) : Nat → α := fun i => if i = c then a else f i
theorem upd_at {α : Type} (f : Nat → α) (c : Nat) (a : α) : upd f c a c = a := if_pos rfl
theorem upd_ne {α : Type} (f : Nat → α) (c : Nat) (a : α) {i : Nat} (h : i ≠ c) : upd f c a i = f i := if_neg h
/-- the addresses behind a move -/
def mvS (S : ASl) (c : Nat) (arr : Array Value) (nA : Option Addr) (nC : Nat) (mA : Option Addr) (mC : Nat) : ASl :=
  { S with arr := arr, nA := upd S.nA c nA, nC := upd S.nC c nC, mA := upd S.mA c mA, mC := upd S.mC c mC }
def mvQ (m : AM) (c : Nat) (s : Srv) (o z : Int) : AM := ⟨m.chunks.set c (movedS s o z), m.last⟩
theorem mvQ_get {m : AM} {c : Nat} {s : Srv} {o z : Int} {i : Nat} {q : Srv} (h : (mvQ m c s o z).chunks[i]? = some q) (hc : c < m.chunks.length) : (i = c ∧ q = movedS s o z) ∨ (i ≠ c ∧ m.chunks[i]? = some q) := by
  unfold mvQ at h
  simp only [List.getElem?_set] at h
  by_cases e : c = i
  · subst e
    rw [if_pos rfl, if_pos hc] at h
    exact .inl ⟨rfl, (Option.some.inj h).symm⟩
  · rw [if_neg e] at h
    exact .inr ⟨fun q => e q.symm, h⟩
theorem movedS_now (s : Srv) (o z : Int) : (movedS s o z).now = replL s.now o z := nowL_append s.first s.moves o z
theorem aCs_mv (t : Option Addr) (gc : Nat) (m : AM) (S : ASl) (c : Nat) (s : Srv) (o z : Int) (arr : Array Value) (nA : Option Addr) (nC : Nat) (mA : Option Addr) (mC : Nat) : aCs t gc (mvQ m c s o z) (mvS S c arr nA nC mA mC) = aCs t gc m S := by
  unfold aCs
  congr 1
  funext j
  unfold aF
  split
  · rfl
  · split
    · show Value.slice (some ⟨gc, 0, none⟩) (m.chunks.set c _).length S.cap = _
      rw [List.length_set]
    · rfl
/-- the row of a chunk's moves -/
def MvC (S : ASl) (c b : Nat) : Prop := ∃ a, S.mA c = some a ∧ a.block = b
theorem ADat.moved {w w' : World} {g gc c : Nat} {t : Option Addr} {N : Nat → Prop} {m : AM} {S : ASl} {s : Srv} {o z : Int} (h : ADat w g gc t N m S) (hs : m.chunks[c]? = some s) (hN : ∀ b, N b → b < w.heap.size) (hg : g ≠ gc)
    (ho0 : Only (fun b => b = gc ∨ MvC S c b) w w') {arr : Array Value} (hb : Blk w' gc 150 arr) (hsz : arr.size = S.cap * 5)
    {nA : Option Addr} {nC : Nat} {mA : Option Addr} {mC : Nat}
    (h0 : ∀ i j, i < m.chunks.length → i ≠ c → j < 5 → arr[i * 5 + j]? = S.arr[i * 5 + j]?)
    (h1 : ∀ j, j < 2 → arr[c * 5 + j]? = S.arr[c * 5 + j]?) (h2 : arr[c * 5 + 2]? = some (.int .i64 (s.f : Int))) (h3 : arr[c * 5 + 3]? = some (.slice nA (replL s.now o z).length nC)) (h4 : arr[c * 5 + 4]? = some (.slice mA (s.moves.length + 1) mC))
    (hn : OwnN w' w.heap.size (.slice nA (replL s.now o z).length nC) (replL s.now o z))
    (hm : w'.ownsRow 0 153 2 (.slice mA (s.moves.length + 1) mC) (s.moves.length + 1) (mvCells (s.moves ++ [(o, z)])))
    (hmb : ∀ a, mA = some a → S.mA c = some ⟨a.block, 0, none⟩ ∨ w.heap.size ≤ a.block) (hok : COk (m.chunks.set c (movedS s o z))) :
    ADat w' g gc t N (mvQ m c s o z) (mvS S c arr nA nC mA mC) := by
  have hcl : c < m.chunks.length := (List.getElem?_eq_some_iff.1 hs).1
  have hlen : (mvQ m c s o z).chunks.length = m.chunks.length := by unfold mvQ; simp
  have hlt := h.lt
  have ho : Only (fun b => b = gc ∨ IsMv S m.chunks.length b) w w' := ho0.mono fun b _ e => by
    rcases e with e | ⟨a, e1, e2⟩
    · exact .inl e
    · exact .inr ⟨c, a, hcl, e1, e2⟩
  have hgN : ¬ (g = gc ∨ IsMv S m.chunks.length g) := fun e => by
    rcases e with e | e
    · exact hg e
    · exact h.mvN g e h.gN.1
  -- what is a row of moves now
  have hmv : ∀ b, IsMv (mvS S c arr nA nC mA mC) (mvQ m c s o z).chunks.length b → IsMv S m.chunks.length b ∨ w.heap.size ≤ b := fun b hb => by
    obtain ⟨i, a, hi, ha, rfl⟩ := hb
    rw [hlen] at hi
    have ha' : upd S.mA c mA i = some a := ha
    by_cases e : i = c
    · subst e
      rw [upd_at] at ha'
      rcases hmb a ha' with e2 | e2
      · exact .inl ⟨i, _, hi, e2, rfl⟩
      · exact .inr e2
    · rw [upd_ne _ _ _ e] at ha'
      exact .inl ⟨i, a, hi, ha', rfl⟩
  have hfar : ∀ {A : Option Addr} {C : Nat} {xs : List Int}, FarN w (fun b => N b ∨ IsMv S m.chunks.length b) A C xs → FarN w' (fun b => N b ∨ IsMv (mvS S c arr nA nC mA mC) (mvQ m c s o z).chunks.length b) A C xs := fun {A C xs} hf => by
    have h1 := hf.only ho (fun b hb => by
      rcases hb with e | e
      · exact .inl (e ▸ h.gN.2)
      · exact .inr e)
    refine ⟨h1.rd, h1.cap, fun a h0 ha hb => ?_⟩
    obtain ⟨ad, e, hbl, _⟩ := hf.rd.2 h0
    rw [ha] at e
    injection e with e
    subst e
    rcases hb with hb | hb
    · exact hf.far a h0 ha (.inl hb)
    · rcases hmv _ hb with e | e
      · exact hf.far a h0 ha (.inr e)
      · omega
  refine ⟨?_, hb, ⟨hsz, by rw [hlen]; exact h.cap.2.1, h.cap.2.2⟩, ?_, ?_, ?_, ?_, ?_, ?_, ?_, h.gN, ?_⟩
  · rw [aCs_mv]
    exact (ho.block g hlt.1 hgN).trans h.blk
  · intro i q hq j hj
    rcases mvQ_get hq hcl with ⟨rfl, rfl⟩ | ⟨hne, hq⟩
    · have e : srvC (movedS s o z) (mvS S i arr nA nC mA mC) i = #[.int .i64 (s.f : Int), .slice (S.fA i) s.first.length (S.fC i), .int .i64 (s.f : Int), .slice nA (replL s.now o z).length nC, .slice mA (s.moves.length + 1) mC] := by
        unfold srvC
        rw [movedS_now]
        show #[_, _, _, Value.slice (upd S.nA i nA i) _ (upd S.nC i nC i), Value.slice (upd S.mA i mA i) (s.moves ++ [(o, z)]).length (upd S.mC i mC i)] = _
        rw [upd_at, upd_at, upd_at, upd_at, List.length_append]
        rfl
      rw [e]
      have hq0 := h.srv i s hs
      obtain rfl | rfl | rfl | rfl | rfl : j = 0 ∨ j = 1 ∨ j = 2 ∨ j = 3 ∨ j = 4 := by omega
      · exact (h1 0 (by omega)).trans (hq0 0 (by omega))
      · exact (h1 1 (by omega)).trans (hq0 1 (by omega))
      · exact h2
      · exact h3
      · exact h4
    · have hil : i < m.chunks.length := (List.getElem?_eq_some_iff.1 hq).1
      have e : srvC q (mvS S c arr nA nC mA mC) i = srvC q S i := by
        unfold srvC
        show #[_, _, _, Value.slice (upd S.nA c nA i) _ (upd S.nC c nC i), Value.slice (upd S.mA c mA i) _ (upd S.mC c mC i)] = _
        rw [upd_ne _ _ _ hne, upd_ne _ _ _ hne, upd_ne _ _ _ hne, upd_ne _ _ _ hne]
        rfl
      rw [e]
      exact (h0 i j hil hne hj).trans (h.srv i q hq j hj)
  · intro i q hq
    rcases mvQ_get hq hcl with ⟨rfl, rfl⟩ | ⟨hne, hq⟩
    · exact hfar (h.first i s hs)
    · exact hfar (h.first i q hq)
  · intro i q hq
    rcases mvQ_get hq hcl with ⟨rfl, rfl⟩ | ⟨hne, hq⟩
    · rw [movedS_now]
      show FarN w' _ (upd S.nA i nA i) (upd S.nC i nC i) _
      rw [upd_at, upd_at]
      obtain ⟨A', c', e, q1, q2, q3, q4⟩ := own_slice_n hn
      injection e with e1 _ e2
      subst e1 e2
      refine ⟨q3, ⟨q1, q2⟩, fun a h0 ha hb => ?_⟩
      have hge := q4 a ha
      rcases hb with hb | hb
      · have := hN _ hb; omega
      · obtain ⟨i', a', hi', ha', hbb⟩ := hb
        have ha2 : upd S.mA i mA i' = some a' := ha'
        -- a row of moves is no row of numbers
        have hmi : ∃ cs, Blk w' a'.block 153 cs := by
          by_cases e : i' = i
          · subst e
            rw [upd_at] at ha2
            rcases hm.2 with ⟨e1, _⟩ | ⟨g', cap', cur', e1, _, e3, _⟩
            · injection e1 with e1; rw [ha2] at e1; cases e1
            · injection e1 with e1
              rw [ha2] at e1
              injection e1 with e1
              rw [e1]
              exact ⟨_, e3⟩
          · rw [upd_ne _ _ _ e] at ha2
            have hi2 : i' < m.chunks.length := by rw [hlen] at hi'; exact hi'
            have := h.mlt (b := a'.block) ⟨i', a', hi2, ha2, rfl⟩
            omega
        obtain ⟨cs, hcs⟩ := hmi
        exact own_far hn hcs (by decide) a ha hbb.symm
    · show FarN w' _ (upd S.nA c nA i) (upd S.nC c nC i) _
      rw [upd_ne _ _ _ hne, upd_ne _ _ _ hne]
      exact hfar (h.now i q hq)
  · intro i hi
    exact hfar (h.nodes i hi)
  · intro i q hq
    rcases mvQ_get hq hcl with ⟨rfl, rfl⟩ | ⟨hne, hq⟩
    · show w'.ownsRow 0 _ 2 (.slice (upd S.mA i mA i) (s.moves ++ [(o, z)]).length (upd S.mC i mC i)) (s.moves ++ [(o, z)]).length (mvCells (s.moves ++ [(o, z)]))
      rw [upd_at, upd_at, List.length_append]
      exact hm
    · show w'.ownsRow 0 _ 2 (.slice (upd S.mA c mA i) q.moves.length (upd S.mC c mC i)) q.moves.length (mvCells q.moves)
      rw [upd_ne _ _ _ hne, upd_ne _ _ _ hne]
      have hil : i < m.chunks.length := (List.getElem?_eq_some_iff.1 hq).1
      refine rowD_keep (h.mv i q hq) fun b hb => ho0.block b (rowD_lt (h.mv i q hq) hb).2 fun e => ?_
      rcases (h.mv i q hq).2 with ⟨e1, _⟩ | ⟨g', cap', cur', e1, _, e3, _⟩
      · rw [e1] at hb; cases hb
      · have hmi : S.mA i = some ⟨g', 0, none⟩ := by injection e1
        rw [e1] at hb
        have hbb : b = g' := by simpa [Value.ownBlock] using hb.symm
        subst hbb
        rcases e with e | ⟨a, e4, e5⟩
        · have hB : Blk w b 153 cur' := e3
          exact Blk.ne_ hB h.row (by decide) e
        · exact h.mvap i c ⟨b, 0, none⟩ a hil hcl hne hmi e4 e5.symm
  · intro b hb hn'
    rcases hmv b hb with e | e
    · exact h.mvN b e hn'
    · have := hN b hn'; omega
  · intro i j a b hi hj hne ha hb'
    rw [hlen] at hi hj
    have ha2 : upd S.mA c mA i = some a := ha
    have hb2 : upd S.mA c mA j = some b := hb'
    by_cases e1 : i = c
    · subst e1
      rw [upd_at] at ha2
      rw [upd_ne _ _ _ (fun e => hne e.symm)] at hb2
      rcases hmb a ha2 with q | q
      · exact h.mvap i j ⟨a.block, 0, none⟩ b hi hj hne q hb2
      · have := h.mlt (b := b.block) ⟨j, b, hj, hb2, rfl⟩
        omega
    · rw [upd_ne _ _ _ e1] at ha2
      by_cases e2 : j = c
      · subst e2
        rw [upd_at] at hb2
        rcases hmb b hb2 with q | q
        · exact h.mvap i j a ⟨b.block, 0, none⟩ hi hj hne ha2 q
        · have := h.mlt (b := a.block) ⟨i, a, hi, ha2, rfl⟩
          omega
      · rw [upd_ne _ _ _ e2] at hb2
        exact h.mvap i j a b hi hj hne ha2 hb2
  · have hk := h.ok
    exact ⟨hok.one, hok.srv, hok.same, hok.apart, hok.high, hk.last, hk.ans⟩

end Go.Proofs.YtlaodmmjhjpfmaaGreat

/- Contract of (*Atlas).move. -/
namespace Go.Proofs.YtlaodmmjhjpfmaaGreat
set_option linter.unusedVariables false
set_option linter.unusedSimpArgs false
open Go.RowKit Go.Maps

attribute [local irreducible] wpList wpCalm
def MvPost (w : World) (g gc c : Nat) (t : Option Addr) (N : Nat → Prop) (m : AM) (S : ASl) (s : Srv) (o z : Int) (e : Ending) (w' : World) : Prop :=
  (usedA m.chunks s.f z = false ∧ goodR s.now o z → e = .returned (.bool true) ∧ ∃ S', ADat w' g gc t N (mvQ m c s o z) S' ∧ Only (fun b => b = gc ∨ MvC S c b) w w') ∧
  (¬ (usedA m.chunks s.f z = false ∧ goodR s.now o z) → e = .returned (.bool false) ∧ Below w.heap.size w w')
theorem mv_info : (Tryz.prog.info? 153).map (fun i => (i.zero, i.size, i.bytes)) = some (some (.agg #[.int .i64 0, .int .i64 0]), 2, 16) := by kernel_rfl

theorem reads2 (w : World) (o z : Int) : Reads (w.alloc (.cells #[.int .i64 o, .int .i64 z] 153)) (w.alloc (.cells #[.int .i64 o, .int .i64 z] 153)).heap.size 2 (some ⟨w.heap.size, 0, none⟩) 1 [.int .i64 o, .int .i64 z] := by
  have hk : Blk (w.alloc (.cells #[.int .i64 o, .int .i64 z] 153)) w.heap.size 153 #[.int .i64 o, .int .i64 z] := Blk.newAt rfl
  exact ⟨rfl, fun _ => ⟨⟨w.heap.size, 0, none⟩, rfl, hk.lt, fun j u hu => by rw [add_off, Nat.zero_add, hk.cell, ← Array.getElem?_toList]; exact hu⟩⟩

set_option maxRecDepth 100000 in
set_option maxHeartbeats 1000000 in
theorem aMove_any (w : World) (g gc c : Nat) (t : Option Addr) (N : Nat → Prop) (m : AM) (S : ASl) (s : Srv) (o z : Int) (h : ADat w g gc t N m S) (hs : m.chunks[c]? = some s) (hN : ∀ b, N b → b < w.heap.size) (hg : g ≠ gc) (hl : s.moves.length ≤ 20) :
    Calls Tryz.prog 106 #[.pointer (some ⟨g, 0, none⟩), .int .i64 (c : Int), .int .i64 o, .int .i64 z] w (MvPost w g gc c t N m S s o z) := by
  have hcl : c < m.chunks.length := (List.getElem?_eq_some_iff.1 hs).1
  have h2 := h.ok.one
  have hsk := h.ok.srv s (List.mem_of_getElem? hs)
  have hnow := hsk.now_ok
  have hlt := h.lt
  have hcap := h.cap
  have hc1 : w.cell? ⟨g, 1, none⟩ = some (.slice (some ⟨gc, 0, none⟩) m.chunks.length S.cap) := (h.blk.cell 1).trans (aCs_at _ _ _ _ 1 (by omega))
  have hsrv := h.srv c s hs
  have hcf : w.cell? ⟨gc, c * 5 + 2, none⟩ = some (.int .i64 (s.f : Int)) := (h.row.cell _).trans ((hsrv 2 (by omega)).trans rfl)
  have HU := Lib.hid (used_any w g gc s.f t N m S z h hnow.faults)
  have HMK := Lib.hid (fun (ho : o ∈ s.now) (hu : usedA m.chunks s.f z = false) (h1 : 1 ≤ z) (h2 : z ≤ 28) => h.ok.cok.moved hs ho hu h1 h2 hl)
  obtain ⟨n, hn⟩ : ∃ n, n = m.chunks.length := ⟨_, rfl⟩
  have hcn : c < n := by omega
  rw [← hn] at hc1
  have hcI : (c : Int) < (n : Int) := by omega
  have HD := Lib.hid h
  have HS := Lib.hid hs
  have HNN := Lib.hid hN
  have HNOW := Lib.hid hnow
  have HSRV := Lib.hid hsrv
  have HRW := Lib.hid (h.now c s hs).rd
  have HMV := Lib.hid (h.mv c s hs)
  obtain ⟨u, hu⟩ : ∃ u, u = usedA m.chunks s.f z := ⟨_, rfl⟩
  rw [← hu] at HU
  have HUE := Lib.hid hu
  obtain ⟨f, hf⟩ : ∃ f, f = s.f := ⟨_, rfl⟩
  rw [← hf] at hcf HU
  have HF := Lib.hid hf
  have hl1 := hlt.1
  have hl2 := hlt.2
  have hcap1 := hcap.1
  have hcap2 := hcap.2.1
  obtain ⟨P, hP⟩ : ∃ P, P = MvPost w g gc c t N m S s o z := ⟨_, rfl⟩
  rw [← hP]
  have HPF := Lib.hid (show ∀ w', ¬ (usedA m.chunks s.f z = false ∧ goodR s.now o z) → Below w.heap.size w w' → P (.returned (.bool false)) w' from fun w' hb hbl => by rw [hP]; exact ⟨fun h => absurd h hb, fun _ => ⟨rfl, hbl⟩⟩)
  have HPT := Lib.hid (show ∀ w' S', (usedA m.chunks s.f z = false ∧ goodR s.now o z) → ADat w' g gc t N (mvQ m c s o z) S' → Only (fun b => b = gc ∨ MvC S c b) w w' → P (.returned (.bool true)) w' from fun w' S' hb hd ho => by rw [hP]; exact ⟨fun _ => ⟨rfl, S', hd, ho⟩, fun h => absurd hb h⟩)
  clear h hs hN hsk hnow hlt hcap hsrv hu hf hn hP h2
  go_enter Tryz.func106, Tryz.ntmps106
  go_wp2_with fail
  refine HU.out.mono ?_
  rintro _ w2 ⟨rfl, hb2⟩
  have hs2 := hb2.size
  have HB2 := Lib.hid hb2
  clear hb2 HU
  cases u with
  | true =>
    have hbad : ¬ (usedA m.chunks s.f z = false ∧ goodR s.now o z) := fun h => by rw [← HUE.out] at h; cases h.1
    have HBAD := Lib.hid hbad
    clear hbad
    go_wp2_with fail
    exact HPF.out _ HBAD.out HB2.out
  | false =>
    obtain ⟨A, hA⟩ : ∃ A, A = S.nA c := ⟨_, rfl⟩
    obtain ⟨nn, hnn⟩ : ∃ k, k = s.now.length := ⟨_, rfl⟩
    obtain ⟨cn, hcn2⟩ : ∃ k, k = S.nC c := ⟨_, rfl⟩
    have HRW2 := Lib.hid (HRW.out.below HB2.out)
    rw [← hA, ← hnn] at HRW2
    have HRP := Lib.hid (crReplace_any f A nn cn s.now o z w2 (HRW2.out.more hs2) (by rw [HF.out]; exact HNOW.out))
    obtain ⟨C, hC⟩ : ∃ C, C = crC f A nn cn := ⟨_, rfl⟩
    rw [← hC] at HRP
    have hcs : C.size = 2 := by rw [hC]; rfl
    have hcd : ∀ j, j < 2 → S.arr[c * 5 + 2 + j]? = C[j]? := fun j hj => by
      rw [hC, hA, hnn, hcn2]
      obtain rfl | rfl : j = 0 ∨ j = 1 := by omega
      · rw [HF.out]; exact HSRV.out 2 (by omega)
      · exact HSRV.out 3 (by omega)
    have HCD := Lib.hid hcd
    have HROW2 := Lib.hid (HD.out.row.below' HB2.out)
    clear hA hnn hcn2 hC hcd
    go_wp2_with (refine wpList_load_part (o := ⟨some 30, _, _, _, _, _⟩) rfl 57 (.tmp 29) rfl gc (c * 5 + 2) 2 rfl 150 _ C _ HROW2.out Tryz.underlying57 rfl rfl hcs HCD.out ?_)
    refine HRP.out.mono ?_
    rintro _ w3 ⟨hb3, hgd, hbd⟩
    have hs3 := hb3.size
    by_cases hgood : goodR s.now o z
    · obtain ⟨A3, k3, c3, rfl, ho3⟩ := hgd hgood
      have hk3 : k3 = (replL s.now o z).length := by
        obtain ⟨A', c', e, _⟩ := own_slice_n ho3
        injection e
      have hbt := Lib.hid (show usedA m.chunks s.f z = false ∧ goodR s.now o z from ⟨HUE.out.symm, hgood⟩)
      have hmk := HMK.out hgood.1 HUE.out.symm hgood.2.2.1 hgood.2.2.2
      have HCOK := Lib.hid hmk
      have HB3 := Lib.hid (HB2.out.trans (hb3.mono hs2))
      have HO3 := Lib.hid (OwnN.more ho3 hs2)
      obtain ⟨E, hE⟩ : ∃ E, E = crC f A3 k3 c3 := ⟨_, rfl⟩
      rw [← hE]
      have hes : E.size = 2 := by rw [hE]; rfl
      have heo : E.all (·.oneCell') = true := by rw [hE]; exact crC_one _ _ _ _
      have HE := Lib.hid hE
      have HK3 := Lib.hid hk3
      clear hb3 hgd hbd hgood HRP ho3 hmk hE hk3
      go_upto_region 7 with (refine wpList_store_part (o := ⟨none, _, _, _, _, _⟩) rfl 57 (.tmp 10) (.tmp 34) rfl w3.heap.size 0 E rfl rfl 57 (crC 0 none 0 0) (by rw [crZ]; exact Blk.newAt rfl) (by rw [hes]; exact crC_info 0 none 0 0) (by rw [hes]; simp [crC]) heo ?_; intro w4 hT4 hD4; rw [spl_self _ _ (by rw [hes]; rfl)] at hD4)
      have hb4 : Below w3.heap.size w3 w4 := hT4.below (below_lit w3 _) (Nat.le_refl _)
      obtain ⟨g10, hg10⟩ : ∃ g, g = w3.heap.size := ⟨_, rfl⟩
      rw [← hg10] at hD4 ⊢
      have HD4 := Lib.hid hD4
      have HB4 := Lib.hid (HB3.out.trans (hb4.mono HB3.out.size))
      have HO4 := Lib.hid (HO3.out.below_ hb4)
      have HROW4 := Lib.hid (HD.out.row.below' HB4.out)
      have HMV4 := Lib.hid (rowD_keep HMV.out (fun b hb => HB4.out.block b (rowD_lt HMV.out hb).2) : w4.ownsRow 0 153 2 (.slice (S.mA c) s.moves.length (S.mC c)) s.moves.length (mvCells s.moves))
      clear hT4 hD4 hb4 HO3 HROW2
      have hidx : c * 5 + 2 + 2 ≤ S.arr.size := by omega
      go_upto_region 8 with (first
        | (refine wpList_load_part (o := ⟨some 39, _, _, _, _, _⟩) rfl 57 (.tmp 10) rfl g10 0 2 rfl 57 _ E _ HD4.out Tryz.underlying57 rfl rfl hes (fun _ _ => by rw [Nat.zero_add]; try rfl) ?_)
        | (refine wpList_store_part (o := ⟨none, _, _, _, _, _⟩) rfl 57 (.tmp 41) (.tmp 39) rfl gc (c * 5 + 2) E rfl rfl 150 S.arr HROW4.out (by rw [hes]; exact crC_info 0 none 0 0) (by rw [hes]; exact hidx) heo ?_; intro w5 hT5 hD5))
      have hmvg : (Value.slice (S.mA c) s.moves.length (S.mC c)).ownBlock ≠ some gc := own_blk_ne HMV4.out HROW4.out (by decide)
      have HMV5 := Lib.hid (rowD_keep HMV4.out (fun b hb => hT5.block b (fun e => hmvg (by rw [hb, e]))) : w5.ownsRow 0 153 2 (.slice (S.mA c) s.moves.length (S.mC c)) s.moves.length (mvCells s.moves))
      have HO5 := Lib.hid (HO4.out.keep_ fun b hb => hT5.block b (fun e => own_blk_ne HO4.out HROW4.out (by decide) (by rw [hb, e])) : OwnN w5 w.heap.size (.slice A3 k3 c3) (replL s.now o z))
      have hsp := hes
      have hg4 : ∀ j, (spl S.arr (c * 5 + 2) E.toList)[j]? = if c * 5 + 2 ≤ j ∧ j < c * 5 + 2 + 2 then E[j - (c * 5 + 2)]? else S.arr[j]? := fun j => by
        rw [spl_get (by rw [Array.length_toList, hes]; exact hidx), Array.length_toList, hes]
        split
        · rw [Array.getElem?_toList]
        · rfl
      have hmc : w5.cell? ⟨gc, c * 5 + 4, none⟩ = some (.slice (S.mA c) s.moves.length (S.mC c)) := by
        rw [hD5.cell, hg4, if_neg (by omega)]
        exact HSRV.out 4 (by omega)
      have hfzc := hD5.frozen (c * 5 + 4)
      have HG4 := Lib.hid hg4
      have HD5 := Lib.hid hD5
      have HT5 := Lib.hid hT5
      obtain ⟨mn, hmn⟩ : ∃ k, k = s.moves.length := ⟨_, rfl⟩
      rw [← hmn] at hmc HMV5 hl
      have HMN := Lib.hid hmn
      obtain ⟨i0, hi0, hz0, hz1, hz2⟩ := info_parts mv_info
      have hb6 := below_lit w5 (.cells #[.int .i64 o, .int .i64 z] 153)
      have HMV6 := Lib.hid (rowD_keep HMV5.out (fun b hb => hb6.block b (rowD_lt HMV5.out hb).2) : (w5.alloc (.cells #[.int .i64 o, .int .i64 z] 153)).ownsRow 0 153 2 (.slice (S.mA c) mn (S.mC c)) mn (mvCells s.moves))
      have HRD6 := Lib.hid (reads2 w5 o z)
      clear hT5 hD5 hg4 hmn hsp hmvg HROW4 HMV4 HO4 HD4 hb6
      go_wp2_with (at_builtin; go_must (refine wpList_append_any _ rfl (.tmp 46) (.tmp 50) 148 rfl 0 153 i0 _ 2 16 Tryz.underlying148 hi0 hz0 hz1 hz2 rfl (by omega) _ _ _ rfl HMV6.out _ (some ⟨w5.heap.size, 0, none⟩) 1 1 [.int .i64 o, .int .i64 z] rfl HRD6.out ?d1 ?d2 ?d3 ?d4 ?_))
      case d1 => first | (intro u hu; simp only [List.mem_cons, List.not_mem_nil, or_false] at hu; rcases hu with rfl | rfl <;> rfl) | simp [Value.oneCell']
      case d2 => unfold maxLen; omega
      case d3 => omega
      case d4 => omega
      intro v6 w6 hown6 hg6 hor6
      obtain ⟨A8, c8, hv6, _⟩ := own_slice hown6
      subst hv6
      obtain ⟨arr, harr⟩ : ∃ arr, arr = spl S.arr (c * 5 + 2) E.toList := ⟨_, rfl⟩
      rw [← harr] at HD5 HG4
      have hD6a := HD5.out.alloc (.cells #[.int .i64 o, .int .i64 z] 153)
      have hmg : (Value.slice (S.mA c) mn (S.mC c)).ownBlock ≠ some gc := own_blk_ne HMV6.out hD6a (by decide)
      have hD6 := hD6a.grown hg6 (fun e => hmg e.symm)
      have hO6a : OwnN (w5.alloc (.cells #[.int .i64 o, .int .i64 z] 153)) w.heap.size (.slice A3 k3 c3) (replL s.now o z) := HO5.out.below_ (below_lit w5 _)
      have hO6 : OwnN w6 w.heap.size (.slice A3 k3 c3) (replL s.now o z) := hO6a.keep_ fun b hb => hg6.block b (rowD_lt hO6a hb).2 (fun e => by
        rcases HMV6.out.2 with ⟨e1, _⟩ | ⟨g', cap', cur', e1, _, e3, _⟩
        · rw [e1] at e; cases e
        · have hB : Blk (w5.alloc (.cells #[.int .i64 o, .int .i64 z] 153)) g' 153 cur' := e3
          rw [e1] at e
          have e' : b = g' := by simpa [Value.ownBlock] using e
          exact own_blk_ne hO6a hB (by decide) (by rw [hb, e']))
      have hcm6 : w6.cell? ⟨gc, c * 5 + 4, none⟩ = some (.slice (S.mA c) mn (S.mC c)) := by
        rw [hD6.cell, HG4.out, if_neg (by omega), HMN.out]
        exact HSRV.out 4 (by omega)
      have hfz6 := hD6.frozen (c * 5 + 4)
      have hT7 := Turned.setCell w6 ⟨gc, c * 5 + 4, none⟩ (.slice A8 (mn + 1) c8)
      have hD7 := hD6.set_ (c * 5 + 4) (.slice A8 (mn + 1) c8)
      have hO7 : OwnN (w6.setCell ⟨gc, c * 5 + 4, none⟩ (.slice A8 (mn + 1) c8)) w.heap.size (.slice A3 k3 c3) (replL s.now o z) := hO6.keep_ fun b hb => hT7.block b (fun e => own_blk_ne hO6 hD6 (by decide) (by have e' : b = gc := e; rw [hb, e']))
      have hM7 : (w6.setCell ⟨gc, c * 5 + 4, none⟩ (.slice A8 (mn + 1) c8)).ownsRow 0 153 2 (.slice A8 (mn + 1) c8) (mn + 1) (mvCells (s.moves ++ [(o, z)])) := by
        have : mvCells (s.moves ++ [(o, z)]) = mvCells s.moves ++ [.int .i64 o, .int .i64 z] := by rw [mvCells_app]; rfl
        rw [this]
        exact rowD_keep hown6 (fun b hb => hT7.block b (fun e => own_blk_ne hown6 hD6 (by decide) (by have e' : b = gc := e; rw [hb, e'])))
      have hasz : arr.size = S.cap * 5 := by rw [harr, spl_size (by rw [Array.length_toList, hes]; exact hidx)]; exact hcap1
      have hobk : ∀ b, (Value.slice (S.mA c) mn (S.mC c)).ownBlock = some b → MvC S c b := fun b hb => by
        cases hma : S.mA c with
        | none => rw [hma] at hb; cases hb
        | some a => rw [hma] at hb; exact ⟨a, hma, by simpa [Value.ownBlock] using hb⟩
      have hz5 : (w5.alloc (.cells #[.int .i64 o, .int .i64 z] 153)).heap.size = w5.heap.size + 1 := by simp
      have hs4 := HB4.out.size
      have ho7 : Only (fun b => b = gc ∨ MvC S c b) w (w6.setCell ⟨gc, c * 5 + 4, none⟩ (.slice A8 (mn + 1) c8)) := by
        have h4 : Only (fun b => b = gc ∨ MvC S c b) w w4 := Only.of_below HB4.out
        have h5 : Only (fun b => b = gc ∨ MvC S c b) w4 w5 := Only.of_turned HT5.out (.inl rfl)
        have h6 : Only (fun b => b = gc ∨ MvC S c b) w5 (w5.alloc (.cells #[.int .i64 o, .int .i64 z] 153)) := Only.of_below (below_lit w5 _)
        have h7 : Only (fun b => b = gc ∨ MvC S c b) (w5.alloc (.cells #[.int .i64 o, .int .i64 z] 153)) w6 := ⟨hg6.os, hg6.tape, hg6.output, hg6.size, fun b hb hn => hg6.block b hb (fun e => hn (.inr (hobk b e.symm)))⟩
        have h8 : Only (fun b => b = gc ∨ MvC S c b) w6 (w6.setCell ⟨gc, c * 5 + 4, none⟩ (.slice A8 (mn + 1) c8)) := Only.of_turned hT7 (.inl rfl)
        exact (((h4.trans h5).trans h6).trans h7).trans h8
      have hdat := ADat.moved HD.out HS.out HNN.out hg ho7 (arr := arr.setIfInBounds (c * 5 + 4) (.slice A8 (mn + 1) c8)) hD7 (by simp [hasz]) (nA := A3) (nC := c3) (mA := A8) (mC := c8)
        (fun i j hi hne hj => by
          rw [Array.getElem?_setIfInBounds, if_neg (by omega), HG4.out, if_neg (by omega)])
        (fun j hj => by rw [Array.getElem?_setIfInBounds, if_neg (by omega), HG4.out, if_neg (by omega)])
        (by rw [Array.getElem?_setIfInBounds, if_neg (by omega), HG4.out, if_pos (by omega), HE.out, show c * 5 + 2 - (c * 5 + 2) = 0 by omega, HF.out]; rfl)
        (by rw [Array.getElem?_setIfInBounds, if_neg (by omega), HG4.out, if_pos (by omega), HE.out, show c * 5 + 3 - (c * 5 + 2) = 1 by omega, ← HK3.out]; rfl)
        (by rw [Array.getElem?_setIfInBounds, if_pos rfl, if_pos (by omega), HMN.out])
        (by rw [← HK3.out]; exact hO7) (by rw [← HMN.out]; exact hM7)
        (fun a ha => by
          rcases hor6 with e | e
          · left
            have e2 : (Value.slice (S.mA c) mn (S.mC c)).ownBlock = some a.block := by rw [← e, ha]; rfl
            rcases HMV6.out.2 with ⟨e1, _⟩ | ⟨g', cap', cur', e1, _, e3, _⟩
            · rw [e1] at e2; cases e2
            · rw [e1] at e2
              have e' : a.block = g' := by simpa [Value.ownBlock] using e2.symm
              injection e1 with e1
              rw [e', e1]
          · right
            rw [ha] at e
            have e' : a.block = w5.heap.size + 1 := by simpa [Value.ownBlock] using e
            have := HT5.out.size
            omega) HCOK.out
      have HDD := Lib.hid hdat
      have HOO := Lib.hid ho7
      clear hdat ho7 hM7 hO7 hD7 hT7 hO6 hO6a hD6 hD6a hown6 hg6 hor6 hobk hasz harr HMV5 HMV6 HRD6 HO5 HD5 hmc
      go_wp2_with fail
      exact HPT.out _ _ hbt.out HDD.out HOO.out
    · obtain ⟨er, her, rfl⟩ := hbd hgood
      have HB3 := Lib.hid (HB2.out.trans (hb3.mono hs2))
      have hb : ¬ (usedA m.chunks s.f z = false ∧ goodR s.now o z) := fun h => hgood h.2
      have HBAD := Lib.hid hb
      have heb : ((er : Int) != 0) = true := by simp; omega
      have HOO := Lib.hid (Blk.newAt rfl : Blk (w3.alloc (.cells (crC 0 none 0 0) 57)) w3.heap.size 57 (crC 0 none 0 0))
      clear hb3 hgd hbd hgood hb HRP
      go_wp2_with (refine wpList_store_part (o := ⟨none, _, _, _, _, _⟩) rfl 57 (.tmp 10) (.tmp 34) rfl w3.heap.size 0 (crC 0 none 0 0) rfl rfl 57 (crC 0 none 0 0) (Blk.newAt rfl) (crC_info _ _ _ _) (by simp [crC]) (crC_one _ _ _ _) ?_; intro w4 hT4 hD4; rw [crC_spl] at hD4)
      have hb4 : Below w3.heap.size w3 w4 := hT4.below (below_lit w3 _) (Nat.le_refl _)
      exact HPF.out _ HBAD.out (HB3.out.trans (hb4.mono HB3.out.size))

end Go.Proofs.YtlaodmmjhjpfmaaGreat

/- What a vault's Do hands back, and the state ahead of its last leaf's turn: plain lemmas. -/
namespace Go.Proofs.YtlaodmmjhjpfmaaGreat
set_option linter.unusedVariables false
open Go.RowKit Go.Maps

theorem VDone.more {w w' : World} {V : VLoc} {N : Nat → Prop} {m : VM} {L : List (List UInt8)} {asked q q' : Nat} (h : VDone w w' V N m L asked q) (hq : q ≤ q') : VDone w w' V N m L asked q' := by
  obtain ⟨L', a', h1, h2, h3, h4⟩ := h.book
  exact ⟨h.vat, ⟨L', a', h1, by omega, h3, h4⟩, h.only⟩

theorem VAt.mono {w : World} {V : VLoc} {N N' : Nat → Prop} {m : VM} (h : VAt w V N m) (hN : ∀ b, b < w.heap.size → N' b → N b) (ha : ∀ b, V.has b → N' b) : VAt w V N' m := by
  obtain ⟨S, hd⟩ := h.dat
  exact ⟨⟨S, hd.mono hN⟩, h.tree, h.far, ha⟩
/-- a call's own variable is laid behind -/
theorem VDone.last {w w2 w5 w9 : World} {V : VLoc} {N : Nat → Prop} {m m' : VM} {L : List (List UInt8)} {asked q g4 : Nat} (h0 : VAt w V N m) (hN : ∀ b, N b → b < w.heap.size) (hb : Below w.heap.size w w2) (h : VDone w2 w5 V (fun b => N b ∨ b = g4) m' L asked q) (hT : Turned g4 w5 w9) (hg : w.heap.size ≤ g4) : VDone w w9 V N m' L asked q := by
  have ho : Only (fun b => b = g4) w5 w9 := Only.of_turned hT rfl
  have hlt : ∀ b, V.has b → b ≠ g4 := fun b hb e => by have := hN b (h0.all b hb); omega
  obtain ⟨L', a', q1, q2, q3, q4⟩ := h.book
  refine ⟨(h.vat.only ho (fun b e => .inr e) (hlt _ (.inl rfl)) (fun b hb e => by have := h0.tree.lt hb; omega)).mono (fun b _ hn => .inl hn) h0.all, ⟨L', a', q1.only ho (hlt _ (.inr (.inr (.inl rfl)))) (hlt _ (.inr (.inr (.inr (.inl rfl))))) (hlt _ (.inr (.inr (.inr (.inr rfl))))), q2, q3, q4⟩, ?_⟩
  have h1 := (Only.of_below hb : Only V.has w w2).trans h.only
  exact ⟨hT.os.trans h1.os, hT.tape.trans h1.tape, hT.output.trans h1.output, by have := hT.size; have := h1.size; omega, fun b hb hn => (hT.block b (by omega)).trans (h1.block b hb hn)⟩

/-- the vault ahead of its last leaf's turn -/
structure TailSt (w : World) (V : VLoc) (N : Nat → Prop) (m' : VM) (L : List (List UInt8)) (asked q i : Nat) (wx : World) : Prop where
  dat : ∃ S, VDat wx V.g (some ⟨V.T.t, 0, none⟩) N m' S
  tree : ∃ ls, TreeAt wx V.T V.k ls ∧ ls.length = 13 ∧ ls.set i (leafV m' i) = leavesV m' ∧ ∃ L' a', BookAt wx V.k L' a' ∧ a' ≤ asked + q ∧ (∀ x, x ∈ L → x ∈ L') ∧ InBook L' ls
  only : Only V.has w wx
/-- only the vault's own block was turned -/
theorem TailSt.start {w w' : World} {V : VLoc} {N N' : Nat → Prop} {m m' : VM} {L : List (List UInt8)} {asked q i : Nat} {S : VSl} (h : VAt w V N m) (hbk : BookAt w V.k L asked) (hin : InBook L (leavesV m)) (ho : Only (fun b => b = V.g) w w') (hd : VDat w' V.g (some ⟨V.T.t, 0, none⟩) N' m' S) (hi : i < 13) (hl : ∀ j, j < 13 → j ≠ i → leafV m' j = leafV m j) : TailSt w V N' m' L asked q i w' :=
  ⟨⟨S, hd⟩, ⟨leavesV m, h.tree.only ho (fun b hb e => h.far.1 (e ▸ hb)), leavesV_len m, leaves_set1 hi hl, L, asked, hbk.only ho (fun e => h.far.2 (.inl e.symm)) (fun e => h.far.2 (.inr (.inl e.symm))) (fun e => h.far.2 (.inr (.inr e.symm))), by omega, fun _ h => h, hin⟩, ho.mono fun b _ e => .inl e⟩
/-- the last leaf is turned -/
theorem TailSt.done {w w0 w' wx : World} {V : VLoc} {N N' : Nat → Prop} {m m' : VM} {L : List (List UInt8)} {asked q i : Nat} (h0 : VAt w0 V N m) (hN : ∀ b, V.has b → N' b) (h : TailSt w V N' m' L asked q i wx) {ls : List (List UInt8)} {L1 : List (List UInt8)} {a1 : Nat} (hls : ls.set i (leafV m' i) = leavesV m') (h1 : a1 ≤ asked + q) (h2 : ∀ x, x ∈ L → x ∈ L1) (h3 : InBook L1 ls) (hs : SetBy wx w' V.T V.k ls (ls.set i (leafV m' i)) L1 a1 3) : VDone w w' V N' m' L asked (q + 3) := by
  obtain ⟨S, hd⟩ := h.dat
  obtain ⟨L', a', p1, p2, p3, p4⟩ := hs.book
  have hfar := h0.far
  refine ⟨⟨⟨S, hd.only hs.only (fun b hb => hN b (.inr hb)) ?_⟩, hls ▸ hs.tree, hfar, hN⟩, ⟨L', a', p1, by omega, fun x hx => p3 x (h2 x hx), hls ▸ p4 L1 (fun _ h => h) h3⟩, h.only.trans (hs.only.mono fun b _ e => .inr e)⟩
  rintro (e | e)
  · exact hfar.1 (.inr (.inr e))
  · exact hfar.2 e
theorem VDone.below {w w' w'' : World} {V : VLoc} {N : Nat → Prop} {m : VM} {L : List (List UInt8)} {asked q : Nat} (h : VDone w w' V N m L asked q) (hb : Below w'.heap.size w' w'') : VDone w w'' V N m L asked q := by
  obtain ⟨L', a', h1, h2, h3, h4⟩ := h.book
  exact ⟨h.vat.below hb, ⟨L', a', h1.below hb, h2, h3, h4⟩, h.only.trans (Only.of_below hb)⟩
end Go.Proofs.YtlaodmmjhjpfmaaGreat

/- Contract of a vault's Do, where a wish is new: it is answered elsewhere, or it is done. -/


/- Contract of a vault's Do. -/


/- Contracts of bastideref16.SameAnswer and of the laws' does. -/
namespace Go.Proofs.YtlaodmmjhjpfmaaGreat
set_option linter.unusedVariables false
open Go.RowKit Go.Maps

attribute [local irreducible] wpList
def anC (err : Int) (A : Option Addr) (n c : Nat) (ep : Int) (A' : Option Addr) (n' c' : Nat) : Array Value := #[.int .i64 err, .slice A n c, .int .i64 ep, .slice A' n' c']

set_option maxRecDepth 100000 in
set_option maxHeartbeats 4000000 in
theorem sameAnswer_any (e1 e2 p1 p2 : Int) (A : Option Addr) (n c : Nat) (A' : Option Addr) (n' c' : Nat) (D : Option Addr) (m d : Nat) (D' : Option Addr) (m' d' : Nat) (xs ys : List UInt8) (xt yt : List Int) (w : World) (B : Nat)
    (hx : Reads w B 1 A n (xs.map vb)) (hx' : Reads w B 1 A' n' (xt.map vn)) (hy : Reads w B 1 D m (ys.map vb)) (hy' : Reads w B 1 D' m' (yt.map vn)) (hB : B ≤ w.heap.size) (hn : n ≤ maxLen) (hn' : n' ≤ maxLen) (hm : m ≤ maxLen) (hm' : m' ≤ maxLen) :
    Calls Tryz.prog 37 #[.agg (anC e1 A n c p1 A' n' c'), .agg (anC e2 D m d p2 D' m' d')] w fun e w' => e = .returned (.bool (decide (e1 = e2 ∧ xs = ys ∧ p1 = p2 ∧ xt = yt))) ∧ Below w.heap.size w w' := by
  have HEB := Lib.hid (fun W (hb : Below w.heap.size w W) => eqBytes_any A D n m c d xs ys W B B (hx.below (hb.mono hB)) (hy.below (hb.mono hB)) hn hm)
  have HEI := Lib.hid (fun W (hb : Below w.heap.size w W) => eqInts_any A' D' n' m' c' d' xt yt W B B (hx'.below (hb.mono hB)) (hy'.below (hb.mono hB)) hn' hm')
  clear hx hy hx' hy'
  unfold anC
  go_enter Tryz.func37, Tryz.ntmps37
  go_upto_region 1 with fail
  have hX : Below w.heap.size w ((w.alloc (.cells #[.int .i64 e1, .slice A n c, .int .i64 p1, .slice A' n' c'] 52)).alloc (.cells #[.int .i64 e2, .slice D m d, .int .i64 p2, .slice D' m' d'] 52)) := ((Below.refl _ _).alloc (Nat.le_refl _) _).alloc (by simp) _
  have k1 : Blk ((w.alloc (.cells #[.int .i64 e1, .slice A n c, .int .i64 p1, .slice A' n' c'] 52)).alloc (.cells #[.int .i64 e2, .slice D m d, .int .i64 p2, .slice D' m' d'] 52)) w.heap.size 52 #[.int .i64 e1, .slice A n c, .int .i64 p1, .slice A' n' c'] := (Blk.newAt rfl).alloc _
  have k2 : Blk ((w.alloc (.cells #[.int .i64 e1, .slice A n c, .int .i64 p1, .slice A' n' c'] 52)).alloc (.cells #[.int .i64 e2, .slice D m d, .int .i64 p2, .slice D' m' d'] 52)) (w.heap.size + 1) 52 #[.int .i64 e2, .slice D m d, .int .i64 p2, .slice D' m' d'] := Blk.newAt (by simp)
  generalize World.alloc _ _ = w1 at hX k1 k2 ⊢
  have c0 := k1.cell 0
  have c1 := k1.cell 1
  have c2 := k1.cell 2
  have c3 := k1.cell 3
  have d0 := k2.cell 0
  have d1 := k2.cell 1
  have d2 := k2.cell 2
  have d3 := k2.cell 3
  simp only [List.getElem?_toArray, List.getElem?_cons_zero, List.getElem?_cons_succ] at c0 c1 c2 c3 d0 d1 d2 d3
  have HB := Lib.hid hX
  have HE1 := Lib.hid (HEB.out w1 hX)
  have HE2 := Lib.hid (fun q => HEI.out (w1.drewN q) (below_drewN HB.out q))
  clear k1 k2 hX HEB HEI
  obtain ⟨g1, hg1⟩ : ∃ g, g = w.heap.size := ⟨_, rfl⟩
  obtain ⟨g3, hg3⟩ : ∃ g, g = w.heap.size + 1 := ⟨_, rfl⟩
  rw [← hg1] at c0 c1 c2 c3
  rw [← hg3] at d0 d1 d2 d3 ⊢
  rw [← hg1]
  clear hg1 hg3
  go_wp2_with (first
    | (go_at_call 15; refine HE1.out.mono ?_; rintro _ _ ⟨rfl, q, rfl⟩)
    | (go_at_call 64; refine (HE2.out _).mono ?_; rintro _ _ ⟨rfl, q2, rfl⟩))
  all_goals go_ret
  all_goals refine ⟨ret_bool ?_, by first | exact HB.out | exact below_drewN HB.out _ | exact below_drewN (below_drewN HB.out _) _⟩
  all_goals clear HB HE1 HE2 c0 c1 c2 c3 d0 d1 d2 d3
  all_goals rw [Bool.eq_iff_iff]
  all_goals simp_all

theorem VDone.under {w w1 w' : World} {V : VLoc} {N : Nat → Prop} {m : VM} {L : List (List UInt8)} {asked q : Nat} (hb : Below w.heap.size w w1) (h : VDone w1 w' V N m L asked q) : VDone w w' V N m L asked q := ⟨h.vat, h.book, (Only.of_below hb).trans h.only⟩
theorem doV_len {m : VM} (h : VOk m) (x : Wish) : (doV m x).2.1.data.length ≤ 16 := by
  unfold doV
  split
  · rename_i hi
    unfold inV at hi
    simp only [Bool.and_eq_true, decide_eq_true_eq] at hi
    split
    · unfold sealV
      cases hel : elseV m x.epoch with
      | some a => obtain ⟨q, rfl⟩ := else_some hel; simp [errA]
      | none => simp only; split <;> simp [errA, okA]
    · rename_i hk
      have hc := may_client hi.1 hk
      have hb := may_group hi.1 hk (by have := h.group; omega)
      cases ho : oldV m x with
      | some a =>
        simp only
        unfold oldV at ho
        simp only at ho
        split at ho
        · rw [← Option.some.inj ho]
          rcases (h.lst (i := (x.client - 31).toNat) (by omega)).2 with e | e
          · simp [dataA, e]
          · simp [dataA, e.1]
        · split at ho
          · rw [← Option.some.inj ho]; simp [errA]
          · cases ho
      | none =>
        simp only
        cases hel : elseV m x.epoch with
        | some a => obtain ⟨q, rfl⟩ := else_some hel; simp [errA]
        | none =>
          simp only [dataA, ranV]
          split
          · rw [h.blk (by omega)]; omega
          · simp
  · simp [okA]

end Go.Proofs.YtlaodmmjhjpfmaaGreat

/- Contract of (*Atlas).old. -/
namespace Go.Proofs.YtlaodmmjhjpfmaaGreat
set_option linter.unusedVariables false
set_option linter.unusedSimpArgs false
open Go.RowKit Go.Maps

attribute [local irreducible] wpList wpCalm
theorem anC_info (err : Int) (A : Option Addr) (n c : Nat) (ep : Int) (A' : Option Addr) (n' c' : Nat) : (Tryz.prog.info? 52).map (·.size) = some (anC err A n c ep A' n' c').size := by kernel_rfl
theorem anC_one (err : Int) (A : Option Addr) (n c : Nat) (ep : Int) (A' : Option Addr) (n' c' : Nat) : (anC err A n c ep A' n' c').all (·.oneCell') = true := by simp [anC, Value.oneCell']
theorem anC_spl (D : Array Value) (h : D.size = 4) (err : Int) (A : Option Addr) (n c : Nat) (ep : Int) (A' : Option Addr) (n' c' : Nat) : spl D 0 (anC err A n c ep A' n' c').toList = anC err A n c ep A' n' c' := spl_self _ _ (by rw [h]; rfl)
def AnsN (w : World) (B : Nat) (D : Array Value) (x : Ans) : Prop := ∃ A c, D = anC x.err none 0 0 x.epoch A x.nodes.length c ∧ OwnN w B (.slice A x.nodes.length c) x.nodes
theorem AnsN.more {w : World} {B B' : Nat} {D : Array Value} {x : Ans} (h : AnsN w B D x) (hB : B' ≤ B) : AnsN w B' D x := by
  obtain ⟨A, c, h1, h2⟩ := h
  exact ⟨A, c, h1, OwnN.more h2 hB⟩
theorem AnsN.below {w w' : World} {B : Nat} {D : Array Value} {x : Ans} (h : AnsN w B D x) (hb : Below w.heap.size w w') : AnsN w' B D x := by
  obtain ⟨A, c, h1, h2⟩ := h
  exact ⟨A, c, h1, h2.below_ hb⟩
theorem AnsN.bare (w : World) (B : Nat) (e p : Nat) : AnsN w B (anC (e : Int) none 0 0 (p : Int) none 0 0) (errA e p) := ⟨none, 0, rfl, OwnN.nil_ _ _⟩

set_option maxRecDepth 100000 in
set_option maxHeartbeats 2000000 in
theorem aOld_any (w : World) (g gc : Nat) (t : Option Addr) (N : Nat → Prop) (m : AM) (S : ASl) (h : ADat w g gc t N m S) (x : Wish) (A : Option Addr) (n c : Nat) (A' : Option Addr) (n' c' : Nat) (hc : 31 ≤ x.client ∧ x.client ≤ 34) :
    Calls Tryz.prog 87 #[.pointer (some ⟨g, 0, none⟩), .agg (wCells x A n c A' n' c')] w fun r w' => ∃ D, r = .returned (.tuple #[.agg D, .bool (oldQ m x).2]) ∧ AnsN w' w.heap.size D (oldQ m x).1 ∧ Below w.heap.size w w' := by
  obtain ⟨j, hj⟩ : ∃ j, j = (x.client - 31).toNat := ⟨_, rfl⟩
  have hj4 : j < 4 := by omega
  have hjc : x.client - 31 = (j : Int) := by omega
  have hjI : (j : Int) < 4 := by omega
  have lg := h.lt.1
  have hlc := fun q hq => aCs_last t gc m S j q hj4 hq
  have hlo := h.ok.lst j
  have hf := (h.nodes j hj4).rd
  have hnb := hlo.2.1.bound
  have hX : Below w.heap.size w ((w.alloc (.cells (wCells x A n c A' n' c') 48)).alloc (.cells (anC 0 none 0 0 0 none 0 0) 52)) := ((Below.refl _ _).alloc (Nat.le_refl _) _).alloc (by simp) _
  have k3 : Blk ((w.alloc (.cells (wCells x A n c A' n' c') 48)).alloc (.cells (anC 0 none 0 0 0 none 0 0) 52)) w.heap.size 48 (wCells x A n c A' n' c') := (Blk.newAt rfl).alloc _
  have k4 : Blk ((w.alloc (.cells (wCells x A n c A' n' c') 48)).alloc (.cells (anC 0 none 0 0 0 none 0 0) 52)) (w.heap.size + 1) 52 (anC 0 none 0 0 0 none 0 0) := Blk.newAt (by simp)
  have hz1 : ((w.alloc (.cells (wCells x A n c A' n' c') 48)).alloc (.cells (anC 0 none 0 0 0 none 0 0) 52)).heap.size = w.heap.size + 2 := by simp
  have hO : oldQ m x = if x.stamp < ((lastQ m j).1 : Int) then (errA 172 0, true) else if ((lastQ m j).1 : Int) < x.stamp then (okA, false) else ((lastQ m j).2, true) := by
    unfold oldQ; rw [← hj]
  have hsz : (lastCq S m j).size = 5 := rfl
  have hon := lastCq_one S m j
  have e0 : lastCq S m j = #[.int .i64 ((lastQ m j).1 : Int), .int .i64 ((lastQ m j).2.err : Int), .slice none 0 0, .int .i64 ((lastQ m j).2.epoch : Int), .slice (S.lA j) (lastQ m j).2.nodes.length (S.lC j)] := rfl
  generalize lastQ m j = y at hO hlo hf e0 hnb
  obtain ⟨st, an⟩ := y
  simp only at hO hlo hf e0 hnb
  generalize lastCq S m j = D at hlc hsz hon e0
  have HB := Lib.hid (fun (W : World) (hb : Below w.heap.size w W) => h.blk.below' hb)
  have HF := Lib.hid (fun (W : World) (hb : Below w.heap.size w W) => hf.below hb)
  have HLC := Lib.hid hlc
  have HSZ := Lib.hid hsz
  have HON := Lib.hid hon
  have HAN := Lib.hid hlo.2.1
  have HE := Lib.hid e0
  have HO := Lib.hid hO
  have HX := Lib.hid hX
  have K3 := Lib.hid k3
  have K4 := Lib.hid k4
  have HZ1 := Lib.hid hz1
  have hZ : anC 0 none 0 0 0 none 0 0 = #[.int .i64 0, .slice none 0 0, .int .i64 0, .slice none 0 0] := rfl
  obtain ⟨g3, hg3⟩ : ∃ b, b = w.heap.size := ⟨_, rfl⟩
  obtain ⟨g4, hg4⟩ : ∃ b, b = w.heap.size + 1 := ⟨_, rfl⟩
  generalize oldQ m x = ov at HO ⊢
  obtain ⟨nn, hnn⟩ : ∃ k, k = an.nodes.length := ⟨_, rfl⟩
  rw [← hnn] at HE HF hnb
  have HNN := Lib.hid hnn
  clear h hlc hlo hf hX k3 k4 hz1 hO hsz hon e0 hj hnn
  go_enter Tryz.func87, Tryz.ntmps87
  go_upto_region 1 with fail
  rw [← hZ]
  generalize World.alloc (World.alloc w _) _ = w1 at HX K3 K4 HZ1 ⊢
  rw [← hg4] at K4 ⊢
  rw [← hg3] at K3 ⊢
  have hz1 := HZ1.out
  have hgw3 : w.heap.size ≤ g3 := by omega
  have hgw4 : w.heap.size ≤ g4 := by omega
  have hg34 : g3 ≠ g4 := by omega
  have hw1 : w.heap.size ≤ w1.heap.size := by omega
  have hl3 := K3.out.lt
  have hl4 := K4.out.lt
  clear hg3 hg4 HZ1 hz1 hZ
  refine wp_region_rel' 9 37 (fun jx W v => match jx with
    | 0 => v = .pointer (some ⟨g, 0, none⟩)
    | 1 => v = .pointer (some ⟨g3, 0, none⟩)
    | 2 => v = .int .i64 x.client
    | 3 => v = .int .i64 (j : Int)
    | 4 => v = .pointer (some ⟨g, 0, none⟩)
    | 5 => v = .pointer (some ⟨g, 2, none⟩)
    | 6 => v = .pointer (some ⟨g, 2 + j * 5, none⟩)
    | 7 => v = .agg D
    | _ => ∃ g6, v = .pointer (some ⟨g6, 0, none⟩) ∧ w1.heap.size ≤ g6 ∧ Blk W g6 144 zLastA) [7, 8, 9, 10, 11, 12, 13, 14, 6] (by kernel_rfl) (by kernel_rfl) (by kernel_rfl) (by simp) (by kernel_rfl) (fun jx => ?last) ?heads ?_
  case last =>
    match jx with
    | 0 | 1 | 2 | 3 | 4 | 5 | 6 | 7 => exact Lasts.pure _
    | jx + 8 => exact fun W W' v ⟨g3, h1, h2, h3⟩ hb => ⟨g3, h1, h2, h3.below' hb⟩
  case heads =>
    simp only [List.take_succ_cons, List.take_zero]
    refine ⟨fun a W hb hkp hd => ?_, fun a W hb hkp hd => ?_, fun a W hb hkp hd => ?_, fun a W hb hkp hd => ?_, fun a W hb hkp hd => ?_, fun a W hb hkp hd => ?_, fun a W hb hkp hd => ?_, fun a W hb hkp hd => ?_, fun a W hb hkp hd => ?_, trivial⟩
    · have e0 : a.tmps[0]?.getD undef = .pointer (some ⟨g, 0, none⟩) := hkp.get (by kernel_rfl) rfl
      exact rel_value rfl (.pointer (some ⟨g, 0, none⟩)) (by go_simp) rfl
    · have e0 : a.tmps[3]?.getD undef = .pointer (some ⟨g3, 0, none⟩) := hkp.get (by kernel_rfl) rfl
      exact rel_value rfl (.pointer (some ⟨g3, 0, none⟩)) (by go_simp) rfl
    · have e0 : a.tmps[8]?.getD undef = .pointer (some ⟨g3, 0, none⟩) := (hd 1 (by kernel_rfl)).get 8 rfl rfl
      have cc : W.cell? ⟨g3, 0, none⟩ = some (.int .i64 x.client) := ((K3.out.below' hb).cell 0).trans rfl
      exact rel_value rfl (.int .i64 x.client) (by go_simp) rfl
    · have e0 : a.tmps[9]?.getD undef = .int .i64 x.client := (hd 2 (by kernel_rfl)).get 9 rfl rfl
      exact rel_value rfl (.int .i64 (j : Int)) (by go_simp; rw [IntKind.wrap_i64]; omega) rfl
    · have e0 : a.tmps[7]?.getD undef = .pointer (some ⟨g, 0, none⟩) := (hd 0 (by kernel_rfl)).get 7 rfl rfl
      exact rel_value rfl (.pointer (some ⟨g, 0, none⟩)) (by go_simp) rfl
    · have e0 : a.tmps[11]?.getD undef = .pointer (some ⟨g, 0, none⟩) := (hd 4 (by kernel_rfl)).get 11 rfl rfl
      exact rel_value rfl (.pointer (some ⟨g, 2, none⟩)) (by go_simp) rfl
    · have e0 : a.tmps[12]?.getD undef = .pointer (some ⟨g, 2, none⟩) := (hd 5 (by kernel_rfl)).get 12 rfl rfl
      have e1 : a.tmps[10]?.getD undef = .int .i64 (j : Int) := (hd 3 (by kernel_rfl)).get 10 rfl rfl
      exact rel_value rfl (.pointer (some ⟨g, 2 + j * 5, none⟩)) (by go_simp) rfl
    · have e0 : a.eval (.tmp 13) = .pointer (some ⟨g, 2 + j * 5, none⟩) := (hd 6 (by kernel_rfl)) _ 13 rfl rfl
      exact rel_value rfl (.agg D) (exec_load_part 144 (.tmp 13) rfl g (2 + j * 5) 5 e0 147 _ D _ (HB.out W (HX.out.trans (hb.mono hw1))) Tryz.underlying144 rfl rfl HSZ.out HLC.out) rfl
    · refine rel_exec rfl (.pointer (some ⟨W.heap.size, 0, none⟩)) (W.alloc (.cells zLastA 144)) (by unfold zLastA; go_simp) ((Below.refl _ _).alloc (Nat.le_refl _) _) ⟨W.heap.size, rfl, hb.size, Blk.new W _ _⟩
  intro f W hb hd
  have h14 : f 14 = .agg D := hd 7 (by omega) _ 14 rfl rfl
  obtain ⟨g6, h6, hg6, hB6⟩ : ∃ g6, f 6 = .pointer (some ⟨g6, 0, none⟩) ∧ w1.heap.size ≤ g6 ∧ Blk W g6 144 zLastA := hd 8 (by omega) _ 6 rfl rfl
  have HB6 := Lib.hid hB6
  have HBW := Lib.hid hb
  simp only [putAll, List.drop_succ_cons, List.drop_zero, h14, h6]
  clear hd hB6 hb
  try simp only [Act.put, List.setIfInBounds_toArray, List.set_cons_zero, List.set_cons_succ]
  go_upto_region 2 with (refine wpList_store_part (o := ⟨none, _, _, _, _, _⟩) rfl 144 (.tmp 6) (.tmp 14) rfl g6 0 D rfl rfl 144 _ HB6.out (by rw [HSZ.out]; exact atlasLast_info) (by rw [HSZ.out]; simp [zLastA]) HON.out ?_; intro w5 hT5 hD5; rw [spl_self _ _ (by rw [HSZ.out]; rfl)] at hD5)
  have hb5 : Below w1.heap.size w1 w5 := hT5.below HBW.out hg6
  rw [HE.out] at hD5
  have c60 : w5.cell? ⟨g6, 0, none⟩ = some (.int .i64 (st : Int)) := (hD5.cell 0).trans rfl
  have c64 : w5.cell? ⟨g6, 4, none⟩ = some (.slice (S.lA j) nn (S.lC j)) := (hD5.cell 4).trans rfl
  have HD5 := Lib.hid hD5
  have K35 := Lib.hid (K3.out.below' hb5)
  have K45 := Lib.hid (K4.out.below' hb5)
  have c31 : w5.cell? ⟨g3, 1, none⟩ = some (.int .i64 x.stamp) := (K35.out.cell 1).trans rfl
  have HB5 := Lib.hid (HX.out.trans (hb5.mono hw1))
  have hs5 := HB5.out.size
  have hs15 := hb5.size
  have hgw6 : w.heap.size ≤ g6 := by omega
  have hg46 : g4 ≠ g6 := by omega
  have hg6l := hD5.lt
  have hg4l := K45.out.lt
  have hF5 := (HF.out w5 HB5.out).more hs5
  have HCL := Lib.hid (cloneN_any (S.lA j) nn (S.lC j) an.nodes w5 w5.heap.size hF5 (Nat.le_refl _) (by omega))
  clear hT5 hD5 hb5 hF5 HB6 HBW HF HB K3 K4 HX
  by_cases h1 : x.stamp < (st : Int)
  · have hov : ov = (errA 172 0, true) := by rw [HO.out, if_pos h1]
    subst hov
    go_wp2_with (refine wpList_store_part (o := ⟨none, _, _, _, _, _⟩) rfl 52 (.tmp 4) (.tmp 21) rfl g4 0 (anC 172 none 0 0 0 none 0 0) rfl rfl 52 _ K45.out (anC_info _ _ _ _ _ _ _ _) (by simp [anC]) (anC_one _ _ _ _ _ _ _ _) ?_; intro w7 hT7 hD7; rw [anC_spl _ rfl] at hD7)
    exact bodyPost_ret (results_part2 rfl _ _ g4 4 52 _ _ rfl hD7 Tryz.underlying52 rfl rfl rfl) rfl ⟨anC 172 none 0 0 0 none 0 0, rfl, AnsN.bare _ _ 172 0, hT7.below HB5.out hgw4⟩
  · by_cases h2 : (st : Int) < x.stamp
    · have hov : ov = (okA, false) := by rw [HO.out, if_neg h1, if_pos h2]
      subst hov
      go_wp2_with (refine wpList_store_part (o := ⟨none, _, _, _, _, _⟩) rfl 52 (.tmp 4) (.tmp 28) rfl g4 0 (anC 0 none 0 0 0 none 0 0) rfl rfl 52 _ K45.out (anC_info _ _ _ _ _ _ _ _) (by simp [anC]) (anC_one _ _ _ _ _ _ _ _) ?_; intro w7 hT7 hD7; rw [anC_spl _ rfl] at hD7)
      exact bodyPost_ret (results_part2 rfl _ _ g4 4 52 _ _ rfl hD7 Tryz.underlying52 rfl rfl rfl) rfl ⟨anC 0 none 0 0 0 none 0 0, rfl, AnsN.bare _ _ 0 0, hT7.below HB5.out hgw4⟩
    · have hov : ov = (an, true) := by rw [HO.out, if_neg h1, if_neg h2]
      subst hov
      go_wp2_with fail
      refine HCL.out.mono ?_
      rintro _ w6 ⟨v, rfl, ho6, hb6⟩
      obtain ⟨A6, k6, hv6, q1, q2, r6, q3⟩ := own_slice_n ho6
      rw [← HNN.out] at hv6
      subst hv6
      have hs6 := hb6.size
      have HB6 := Lib.hid (HB5.out.trans (hb6.mono hs5))
      have hD6 := HD5.out.below' hb6
      have K46 := Lib.hid (K45.out.below' hb6)
      have f64 := hD6.frozen 4
      have c66 : w6.cell? ⟨g6, 4, none⟩ = some (.slice (S.lA j) nn (S.lC j)) := (hD6.cell 4).trans rfl
      have hD7 := hD6.set_ 4 (.slice A6 nn k6)
      have hT7 := Turned.setCell w6 ⟨g6, 4, none⟩ (.slice A6 nn k6)
      have HD7 := Lib.hid (show Blk (w6.setCell ⟨g6, 4, none⟩ (.slice A6 nn k6)) g6 144 #[.int .i64 (st : Int), .int .i64 (an.err : Int), .slice none 0 0, .int .i64 (an.epoch : Int), .slice A6 nn k6] from hD7)
      have HO7 := Lib.hid (ho6.keep_ (w' := w6.setCell ⟨g6, 4, none⟩ (.slice A6 nn k6)) fun b hb => hT7.block b (fun e => by have := ho6.ge_ hb; have e' : b = g6 := e; omega))
      have K47 := Lib.hid ((hT7.block g4 hg46).trans K46.out : Blk (w6.setCell ⟨g6, 4, none⟩ (.slice A6 nn k6)) g4 52 (anC 0 none 0 0 0 none 0 0))
      have HB7 := Lib.hid (HB6.out.setCell (p := ⟨g6, 4, none⟩) hgw6 (.slice A6 nn k6))
      clear hD6 hD7 hT7 ho6 hb6 r6 q3 HCL K45 K46 c60 c64
      go_upto_region 7 with fail
      generalize w6.setCell ⟨g6, 4, none⟩ (.slice A6 nn k6) = w7 at HD7 HO7 K47 HB7 ⊢
      clear f64 c66
      obtain ⟨C, hC⟩ : ∃ C, C = anC (an.err : Int) none 0 0 (an.epoch : Int) A6 nn k6 := ⟨_, rfl⟩
      have hcs : C.size = 4 := by rw [hC]; rfl
      have hco : C.all (·.oneCell') = true := by rw [hC]; exact anC_one _ _ _ _ _ _ _ _
      obtain ⟨E, hE⟩ : ∃ E : Array Value, E = #[.int .i64 (st : Int), .int .i64 (an.err : Int), .slice none 0 0, .int .i64 (an.epoch : Int), .slice A6 nn k6] := ⟨_, rfl⟩
      rw [← hE] at HD7
      have hec : ∀ q, q < 4 → E[1 + q]? = C[q]? := fun q hq => by
        rw [hE, hC]
        obtain rfl | rfl | rfl | rfl : q = 0 ∨ q = 1 ∨ q = 2 ∨ q = 3 := by omega
        · rfl
        · rfl
        · rfl
        · rfl
      have HEC := Lib.hid hec
      have HC := Lib.hid hC
      clear hC hE hec
      go_wp2_with (first
        | (refine wpList_load_part (o := ⟨some 36, _, _, _, _, _⟩) rfl 52 (.tmp 35) rfl g6 1 4 rfl 144 _ C _ HD7.out Tryz.underlying52 rfl rfl hcs HEC.out ?_)
        | (refine wpList_store_part (o := ⟨none, _, _, _, _, _⟩) rfl 52 (.tmp 4) (.tmp 36) rfl g4 0 C rfl rfl 52 _ K47.out (by rw [hcs]; exact anC_info 0 none 0 0 0 none 0 0) (by rw [hcs]; simp [anC]) hco ?_; intro w8 hT8 hD8; rw [spl_self _ _ (by rw [hcs]; rfl)] at hD8))
      refine bodyPost_ret (results_part2 rfl _ _ g4 4 52 _ _ rfl hD8 Tryz.underlying52 rfl rfl hcs) rfl ⟨C, rfl, ⟨A6, k6, by rw [HC.out, HNN.out], ?_⟩, hT8.below HB7.out hgw4⟩
      rw [← HNN.out]
      exact OwnN.more (HO7.out.keep_ fun b hb => hT8.block b (fun e => by have := HO7.out.ge_ hb; omega)) hs5

end Go.Proofs.YtlaodmmjhjpfmaaGreat
