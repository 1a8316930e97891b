/-
  Contract of bastideref11.Parse, with what is told of its memory.
-/
import Derived.Test.YtcmbmimmfgfefaaRefReader
import Derived.Test.YtcmbmimmfgfefaaRefCheck
namespace Go.Proofs.Ytcmbmimmfgfefaa
set_option linter.unusedVariables false
open Go.RowKit

structure PSf (w0 w : World) (gr gw g2 : Nat) (s : RdS) (cells : Array Value) (f : Nat → Nat) (dv : Value) (D : List UInt8) : Prop where
  rd : RfAt w gr (fun b => b = gr ∨ b = gw) s
  kw : Blk w gw 26 cells
  k2 : Blk w g2 26 (cellsAt f 0)
  bl : Below w0.heap.size w0 w
  dat : OwnB w w0.heap.size dv D
  dne : ∀ b, dv.ownBlock = some b → b ≠ gr ∧ b ≠ gw ∧ b ≠ g2
theorem PSf.num {w0 w w' : World} {gr gw g2 : Nat} {s s' : RdS} {cells : Array Value} {f : Nat → Nat} {dv : Value} {D : List UInt8} (h : PSf w0 w gr gw g2 s cells f dv D) (hr : RfAt w' gr (fun b => b = gr ∨ b = gw) s') (ho : OnlyAt gr w w') (h1 : gw ≠ gr) (h2 : g2 ≠ gr) (h3 : w0.heap.size ≤ gr) : PSf w0 w' gr gw g2 s' cells f dv D :=
  ⟨hr, h.kw.only ho h1, h.k2.only ho h2, ho.below h.bl h.bl.size h3, h.dat.keep fun b hb => ho.block b (h.dat.lt hb) (h.dne b hb).1, h.dne⟩
theorem PSf.set {w0 w : World} {gr gw g2 : Nat} {s : RdS} {cells : Array Value} {f : Nat → Nat} {dv : Value} {D : List UInt8} (h : PSf w0 w gr gw g2 s cells f dv D) (i : Nat) (u : Value) (h1 : gr ≠ gw) (h2 : g2 ≠ gw) (h3 : w0.heap.size ≤ gw) : PSf w0 (w.setCell ⟨gw, i, none⟩ u) gr gw g2 s (cells.setIfInBounds i u) f dv D :=
  ⟨h.rd.set h1 (.inr rfl), h.kw.set_ i u, h.k2.only (OnlyAt.of_set w i u) h2, (OnlyAt.of_set w i u).below h.bl h.bl.size h3, h.dat.keep fun b hb => (OnlyAt.of_set w i u).block b (h.dat.lt hb) (h.dne b hb).2.1, h.dne⟩

theorem PSf.push {w0 w6 w8 : World} {gr gw g2 B2 : Nat} {s : RdS} {cells : Array Value} {f : Nat → Nat} {dv v v8 : Value} {D : List UInt8} {o : Obj} (h : PSf w0 w6 gr gw g2 s cells f dv D) (hr : RfAt w6 gr (fun b => (b = gr ∨ b = gw) ∨ v.ownBlock = some b) s)
    (hg : (w6.alloc o).grownBy w8 v.ownBlock) (hor : v8.ownBlock = v.ownBlock ∨ v8.ownBlock = some (w6.alloc o).heap.size) (hvB : ∀ b, v.ownBlock = some b → B2 ≤ b) (hF : PFar w0 gr gw g2 B2 dv) (hne : gr ≠ gw ∧ g2 ≠ gw) :
    PSf w0 (w8.setCell ⟨gw, 9, none⟩ v8) gr gw g2 s (cells.setIfInBounds 9 v8) f dv D ∧ RfAt (w8.setCell ⟨gw, 9, none⟩ v8) gr (fun b => (b = gr ∨ b = gw) ∨ v8.ownBlock = some b) s := by
  have hsa : (w6.alloc o).heap.size = w6.heap.size + 1 := by simp
  have hgs := hg.size
  have hk : ∀ b, b < w6.heap.size → v.ownBlock ≠ some b → w8.heap[b]? = w6.heap[b]? := fun b hb hn => (hg.block b (by omega) (fun e => hn e.symm)).trans (Below.heap_alloc w6 o b (by omega))
  have hnv : ∀ b, b < B2 → v.ownBlock ≠ some b := fun b hb e => by have := hvB b e; omega
  have hset : ∀ b, b ≠ gw → (w8.setCell ⟨gw, 9, none⟩ v8).heap[b]? = w8.heap[b]? := fun b hb => Below.heap_setCell w8 ⟨gw, 9, none⟩ v8 b hb
  have hss : (w8.setCell ⟨gw, 9, none⟩ v8).heap.size = w8.heap.size := by simp [World.setCell]
  have hr3 : RfAt w6 gr (fun b => ((b = gr ∨ b = gw) ∨ v.ownBlock = some b) ∨ v8.ownBlock = some b) s := hr.mono fun b hb => by
    rcases hb with hb | hb
    · exact .inl hb
    · rcases hor with e | e
      · exact .inl (.inr (e ▸ hb))
      · rw [e, hsa] at hb; injection hb with hb; exact .inr (by omega)
  have hr4 : RfAt (w8.setCell ⟨gw, 9, none⟩ v8) gr (fun b => ((b = gr ∨ b = gw) ∨ v.ownBlock = some b) ∨ v8.ownBlock = some b) s :=
    hr3.keep ((hset gr hne.1).trans (hk gr hr.lt (hnv gr hF.r))) (by omega) fun b hb hn => (hset b (fun e => hn (.inl (.inl (.inr e))))).trans (hk b hb (fun e => hn (.inl (.inr e))))
  refine ⟨⟨hr4.mono fun b hb => .inl (.inl (.inl hb)), ?_, ?_, ?_, ?_, h.dne⟩, hr4.mono fun b hb => .inl (by
    rcases hb with hb | hb
    · exact .inl (.inl hb)
    · exact .inr hb)⟩
  · exact Blk.set_ ((hk gw h.kw.lt (hnv gw hF.w)).trans h.kw : Blk w8 gw _ _) 9 v8
  · exact (hset g2 hne.2).trans ((hk g2 h.k2.lt (hnv g2 hF.z)).trans h.k2)
  · have h1 := h.bl.size
    exact h.bl.trans ⟨hg.os, hg.tape, hg.output, by omega, fun i hi => (hset i (by have := hF.wo; omega)).trans (hk i (by omega) (hnv i (by have := hF.o; omega)))⟩
  · exact h.dat.keep fun b hb => (hset b (h.dne b hb).2.1).trans (hk b (h.dat.lt hb) (hnv b (hF.d b hb)))


set_option maxRecDepth 100000 in
set_option maxHeartbeats 8000000 in
theorem refParse_fresh (A : Option Addr) (n c : Nat) (xs : List UInt8) (w : World) (B : Nat) (h : Reads w B 1 A n (xs.map vb)) (hB : B ≤ w.heap.size) (hc : n ≤ c) (hn : n ≤ 140737488355328) :
    Calls Try.prog 9 #[.slice A n c] w fun e w' => ∃ A1 n1 c1 A2 n2 c2, e = .returned (.tuple #[.agg (wCells (parse xs).1 A1 n1 c1 A2 n2 c2), .int .i64 ((parse xs).2 : Int)]) ∧ WishIn w' w'.heap.size (parse xs).1 A1 n1 c1 A2 n2 c2 ∧ Below w.heap.size w w' ∧ (∀ a, 0 < n1 → A1 = some a → w.heap.size ≤ a.block) ∧ (∀ a, 0 < n2 → A2 = some a → w.heap.size ≤ a.block) := by
  have H := Lib.hid h
  clear h
  obtain ⟨f, hf⟩ : ∃ f, f = vlN (xs, 0) := ⟨_, rfl⟩
  have HF := Lib.hid hf
  clear hf
  have hz0 : cellsAt f 0 = wCells zeroW none 0 0 none 0 0 := rfl
  go_enter Try.func9, Try.ntmps9
  go_upto_region 2 with fail
  have hb0 : Below w.heap.size w ((w.alloc (.cells (cellsAt f 0) 26)).alloc (.cells (rdCells A n c 0) 71)) := ((Below.refl _ _).alloc (Nat.le_refl _) _).alloc (by simp) _
  have k2 : Blk ((w.alloc (.cells (cellsAt f 0) 26)).alloc (.cells (rdCells A n c 0) 71)) w.heap.size 26 (cellsAt f 0) := (Blk.new w _ _).alloc _
  have kr : Blk ((w.alloc (.cells (cellsAt f 0) 26)).alloc (.cells (rdCells A n c 0) 71)) (w.heap.size + 1) 71 (rdCells A n c 0) := Blk.newAt (by simp)
  have hs0 : ((w.alloc (.cells (cellsAt f 0) 26)).alloc (.cells (rdCells A n c 0) 71)).heap.size = w.heap.size + 2 := by simp
  generalize hW : World.alloc (World.alloc w _) _ = W
  have hW' : ((w.alloc (.cells (cellsAt f 0) 26)).alloc (.cells (rdCells A n c 0) 71)) = W := hW
  rw [hW'] at hb0 k2 kr hs0
  clear hW hW'
  obtain ⟨g2, hg2⟩ : ∃ g, g = w.heap.size := ⟨_, rfl⟩
  rw [← hg2] at k2 kr ⊢
  obtain ⟨gr, hgr⟩ : ∃ g, g = g2 + 1 := ⟨_, rfl⟩
  rw [← hgr] at kr ⊢
  have K2 := Lib.hid k2
  have KR := Lib.hid kr
  have HB := Lib.hid hb0
  have ho1 : g2 < gr := by omega
  have ho5 : w.heap.size ≤ g2 := by omega
  have hgrl : gr < W.heap.size := by omega
  have hw0 := hb0.size
  clear k2 kr hb0 hs0 hg2 hgr
  go_upto_region 3 with (refine wpList_store_part (o := ⟨none, _, _, _, _, _⟩) rfl 26 (.tmp 5) (.tmp 12) rfl W.heap.size 0 (wCells zeroW none 0 0 none 0 0) rfl rfl 26 (wCells zeroW none 0 0 none 0 0) (Blk.newAt rfl) (wCells_info _ _ _ _ _ _ _) (by simp [wCells]) (wCells_one _ _ _ _ _ _ _) ?_; intro v0 hT0 hD0; rw [spl_self _ _ (by simp [wCells])] at hD0)
  have hb1 : Below W.heap.size W v0 := hT0.below ((Below.refl _ _).alloc (Nat.le_refl _) _) (Nat.le_refl _)
  obtain ⟨gw, hgw⟩ : ∃ g, g = W.heap.size := ⟨_, rfl⟩
  rw [← hgw] at hD0 ⊢
  have hlt := hD0.lt
  have ho2 : gr < gw := by omega
  have hb01 := HB.out.trans (hb1.mono hw0)
  have hP := Lib.hid (show PSf w v0 gr gw g2 (stN (xs, 0) 0) (cellsAt f 0) f (.slice none 0 0) [] from
    ⟨⟨by show 0 < 10; omega, A, n, c, KR.out.under hb1, fun _ => ⟨hc, hn, (H.out.below (hb01.mono hB)).more (by have := hb01.size; omega), fun a h0 ha hor => by
      obtain ⟨ad, hA, hb, _⟩ := H.out.2 h0
      rw [hA] at ha
      injection ha with ha
      subst ha
      rcases hor with e | e <;> omega⟩⟩, hz0 ▸ hD0, K2.out.under hb1, hb01, OwnB.nil _ _, fun b hb => by simp [Value.ownBlock] at hb⟩)
  clear hT0 hD0 hb1 hb01 K2 KR HB H hz0 hw0
  have hgw0 : gw < v0.heap.size := hlt
  clear hgw hgrl
  go_wp2_with fail
  refine (rfNum_any gr _ _ v0 hP.out.rd (by rintro b (rfl | rfl) <;> omega) (.inl rfl)).mono ?_
  rintro _ u0 ⟨rfl, hr2, ho2⟩
  rw [show (rdN (stN (xs, 0) 0)).1 = f 0 by rw [HF.out]; rfl]
  have hPa := Lib.hid (hP.out.num (s' := stN (xs, 0) 1) hr2 ho2 (by omega) (by omega) (by omega))
  have cw : u0.cell? ⟨gw, 4, none⟩ = some (.int .i64 0) := (hPa.out.kw.cell 4).trans (cellsAt_at f 0 (by omega))
  have fw := hPa.out.kw.frozen 4
  have hPb := hPa.out.set 4 (.int .i64 (f 0 : Int)) (by omega) (by omega) (by omega)
  rw [show (cellsAt f 0).setIfInBounds 4 (.int .i64 (f 0 : Int)) = cellsAt f 1 from cellsAt_next f 0 (by omega)] at hPb
  replace hP := Lib.hid hPb
  have hs2 := ho2.size
  have hsz2 : (u0.setCell ⟨gw, 4, none⟩ (.int .i64 (f 0 : Int))).heap.size = u0.heap.size := by simp [World.setCell]
  have HSZ := Lib.hid hsz2
  clear hr2 ho2 hPa hPb hsz2
  go_upto_region 4 with fail
  generalize hW1 : u0.setCell _ _ = v1 at hP HSZ ⊢
  clear hW1 cw fw
  have hsz3 : v0.heap.size ≤ v1.heap.size := by have := HSZ.out; omega
  replace hlt := Nat.lt_of_lt_of_le hlt hsz3
  clear HSZ hs2 hsz3
  go_wp2_with fail
  refine (rfNum_any gr _ _ v1 hP.out.rd (by rintro b (rfl | rfl) <;> omega) (.inl rfl)).mono ?_
  rintro _ u1 ⟨rfl, hr2, ho2⟩
  rw [show (rdN (stN (xs, 0) 1)).1 = f 1 by rw [HF.out]; rfl]
  have hPa := Lib.hid (hP.out.num (s' := stN (xs, 0) 2) hr2 ho2 (by omega) (by omega) (by omega))
  have cw : u1.cell? ⟨gw, 0, none⟩ = some (.int .i64 0) := (hPa.out.kw.cell 0).trans (cellsAt_at f 1 (by omega))
  have fw := hPa.out.kw.frozen 0
  have hPb := hPa.out.set 0 (.int .i64 (f 1 : Int)) (by omega) (by omega) (by omega)
  rw [show (cellsAt f 1).setIfInBounds 0 (.int .i64 (f 1 : Int)) = cellsAt f 2 from cellsAt_next f 1 (by omega)] at hPb
  replace hP := Lib.hid hPb
  have hs2 := ho2.size
  have hsz2 : (u1.setCell ⟨gw, 0, none⟩ (.int .i64 (f 1 : Int))).heap.size = u1.heap.size := by simp [World.setCell]
  have HSZ := Lib.hid hsz2
  clear hr2 ho2 hPa hPb hsz2
  go_upto_region 5 with fail
  generalize hW1 : u1.setCell _ _ = v2 at hP HSZ ⊢
  clear hW1 cw fw
  have hsz3 : v1.heap.size ≤ v2.heap.size := by have := HSZ.out; omega
  replace hlt := Nat.lt_of_lt_of_le hlt hsz3
  clear HSZ hs2 hsz3
  go_wp2_with fail
  refine (rfNum_any gr _ _ v2 hP.out.rd (by rintro b (rfl | rfl) <;> omega) (.inl rfl)).mono ?_
  rintro _ u2 ⟨rfl, hr2, ho2⟩
  rw [show (rdN (stN (xs, 0) 2)).1 = f 2 by rw [HF.out]; rfl]
  have hPa := Lib.hid (hP.out.num (s' := stN (xs, 0) 3) hr2 ho2 (by omega) (by omega) (by omega))
  have cw : u2.cell? ⟨gw, 1, none⟩ = some (.int .i64 0) := (hPa.out.kw.cell 1).trans (cellsAt_at f 2 (by omega))
  have fw := hPa.out.kw.frozen 1
  have hPb := hPa.out.set 1 (.int .i64 (f 2 : Int)) (by omega) (by omega) (by omega)
  rw [show (cellsAt f 2).setIfInBounds 1 (.int .i64 (f 2 : Int)) = cellsAt f 3 from cellsAt_next f 2 (by omega)] at hPb
  replace hP := Lib.hid hPb
  have hs2 := ho2.size
  have hsz2 : (u2.setCell ⟨gw, 1, none⟩ (.int .i64 (f 2 : Int))).heap.size = u2.heap.size := by simp [World.setCell]
  have HSZ := Lib.hid hsz2
  clear hr2 ho2 hPa hPb hsz2
  go_upto_region 6 with fail
  generalize hW1 : u2.setCell _ _ = v3 at hP HSZ ⊢
  clear hW1 cw fw
  have hsz3 : v2.heap.size ≤ v3.heap.size := by have := HSZ.out; omega
  replace hlt := Nat.lt_of_lt_of_le hlt hsz3
  clear HSZ hs2 hsz3
  go_wp2_with fail
  refine (rfNum_any gr _ _ v3 hP.out.rd (by rintro b (rfl | rfl) <;> omega) (.inl rfl)).mono ?_
  rintro _ u3 ⟨rfl, hr2, ho2⟩
  rw [show (rdN (stN (xs, 0) 3)).1 = f 3 by rw [HF.out]; rfl]
  have hPa := Lib.hid (hP.out.num (s' := stN (xs, 0) 4) hr2 ho2 (by omega) (by omega) (by omega))
  have cw : u3.cell? ⟨gw, 2, none⟩ = some (.int .i64 0) := (hPa.out.kw.cell 2).trans (cellsAt_at f 3 (by omega))
  have fw := hPa.out.kw.frozen 2
  have hPb := hPa.out.set 2 (.int .i64 (f 3 : Int)) (by omega) (by omega) (by omega)
  rw [show (cellsAt f 3).setIfInBounds 2 (.int .i64 (f 3 : Int)) = cellsAt f 4 from cellsAt_next f 3 (by omega)] at hPb
  replace hP := Lib.hid hPb
  have hs2 := ho2.size
  have hsz2 : (u3.setCell ⟨gw, 2, none⟩ (.int .i64 (f 3 : Int))).heap.size = u3.heap.size := by simp [World.setCell]
  have HSZ := Lib.hid hsz2
  clear hr2 ho2 hPa hPb hsz2
  go_upto_region 7 with fail
  generalize hW1 : u3.setCell _ _ = v4 at hP HSZ ⊢
  clear hW1 cw fw
  have hsz3 : v3.heap.size ≤ v4.heap.size := by have := HSZ.out; omega
  replace hlt := Nat.lt_of_lt_of_le hlt hsz3
  clear HSZ hs2 hsz3
  go_wp2_with fail
  refine (rfNum_any gr _ _ v4 hP.out.rd (by rintro b (rfl | rfl) <;> omega) (.inl rfl)).mono ?_
  rintro _ u4 ⟨rfl, hr2, ho2⟩
  rw [show (rdN (stN (xs, 0) 4)).1 = f 4 by rw [HF.out]; rfl]
  have hPa := Lib.hid (hP.out.num (s' := stN (xs, 0) 5) hr2 ho2 (by omega) (by omega) (by omega))
  have cw : u4.cell? ⟨gw, 3, none⟩ = some (.int .i64 0) := (hPa.out.kw.cell 3).trans (cellsAt_at f 4 (by omega))
  have fw := hPa.out.kw.frozen 3
  have hPb := hPa.out.set 3 (.int .i64 (f 4 : Int)) (by omega) (by omega) (by omega)
  rw [show (cellsAt f 4).setIfInBounds 3 (.int .i64 (f 4 : Int)) = cellsAt f 5 from cellsAt_next f 4 (by omega)] at hPb
  replace hP := Lib.hid hPb
  have hs2 := ho2.size
  have hsz2 : (u4.setCell ⟨gw, 3, none⟩ (.int .i64 (f 4 : Int))).heap.size = u4.heap.size := by simp [World.setCell]
  have HSZ := Lib.hid hsz2
  clear hr2 ho2 hPa hPb hsz2
  go_upto_region 8 with fail
  generalize hW1 : u4.setCell _ _ = v5 at hP HSZ ⊢
  clear hW1 cw fw
  have hsz3 : v4.heap.size ≤ v5.heap.size := by have := HSZ.out; omega
  replace hlt := Nat.lt_of_lt_of_le hlt hsz3
  clear HSZ hs2 hsz3
  go_wp2_with fail
  refine (rfNum_any gr _ _ v5 hP.out.rd (by rintro b (rfl | rfl) <;> omega) (.inl rfl)).mono ?_
  rintro _ u5 ⟨rfl, hr2, ho2⟩
  rw [show (rdN (stN (xs, 0) 5)).1 = f 5 by rw [HF.out]; rfl]
  have hPa := Lib.hid (hP.out.num (s' := stN (xs, 0) 6) hr2 ho2 (by omega) (by omega) (by omega))
  have cw : u5.cell? ⟨gw, 5, none⟩ = some (.int .i64 0) := (hPa.out.kw.cell 5).trans (cellsAt_at f 5 (by omega))
  have fw := hPa.out.kw.frozen 5
  have hPb := hPa.out.set 5 (.int .i64 (f 5 : Int)) (by omega) (by omega) (by omega)
  rw [show (cellsAt f 5).setIfInBounds 5 (.int .i64 (f 5 : Int)) = cellsAt f 6 from cellsAt_next f 5 (by omega)] at hPb
  replace hP := Lib.hid hPb
  have hs2 := ho2.size
  have hsz2 : (u5.setCell ⟨gw, 5, none⟩ (.int .i64 (f 5 : Int))).heap.size = u5.heap.size := by simp [World.setCell]
  have HSZ := Lib.hid hsz2
  clear hr2 ho2 hPa hPb hsz2
  go_upto_region 9 with fail
  generalize hW1 : u5.setCell _ _ = v6 at hP HSZ ⊢
  clear hW1 cw fw
  have hsz3 : v5.heap.size ≤ v6.heap.size := by have := HSZ.out; omega
  replace hlt := Nat.lt_of_lt_of_le hlt hsz3
  clear HSZ hs2 hsz3

  have hwl6 := hP.out.bl.size
  have hq : pD xs = rdT (stN (xs, 0) 6) 16 := rfl
  go_wp2_with fail
  refine (rfStr_any gr 16 _ _ v6 hP.out.rd (by rintro b (rfl | rfl) <;> omega) (.inl rfl) (by omega)).mono ?_
  rw [← hq]
  rintro _ w2 ⟨dv, rfl, hdv, hr2, ho⟩
  have HDV := Lib.hid hdv
  obtain ⟨Ad, cd, rfl, hcd, hcdm, _, _⟩ := own_slice_b hdv
  have kw2 := hP.out.kw.only ho (by omega)
  have cw : w2.cell? ⟨gw, 6, none⟩ = some (.slice none 0 0) := (kw2.cell 6).trans rfl
  have fw := kw2.frozen 6
  have hoA := OnlyAt.of_set (g := gw) w2 6 (.slice Ad (pD xs).1.length cd)
  replace hP := Lib.hid (show PSf w (w2.setCell ⟨gw, 6, none⟩ (.slice Ad (pD xs).1.length cd)) gr gw g2 (pD xs).2 (cellsW f (.slice Ad (pD xs).1.length cd) 0 0 (.slice none 0 0)) f (.slice Ad (pD xs).1.length cd) (pD xs).1 from
    ⟨hr2.set (by omega) (.inr rfl), kw2.set_ 6 _, (hP.out.k2.only ho (by omega)).only hoA (by omega), hoA.below (ho.below hP.out.bl hwl6 (by omega)) (by have := ho.size; omega) (by omega),
      (HDV.out.keep fun b hb => hoA.block b (HDV.out.lt hb) (by have := HDV.out.ge hb; omega)).more hwl6, fun b hb => by have := HDV.out.ge hb; omega⟩)
  clear hr2 ho kw2 hdv hq hoA HDV
  obtain ⟨dl, hdl⟩ : ∃ dl, dl = (pD xs).1.length := ⟨_, rfl⟩
  rw [← hdl] at hP hcd ⊢
  have HDLN := Lib.hid hdl
  clear hdl
  go_upto_region 10 with fail
  generalize w2.setCell _ _ = w3 at hP ⊢
  clear cw fw
  have hs3 := hP.out.bl.size
  have hlr := hP.out.rd.lt
  have hlw := hP.out.kw.lt
  go_wp2_with fail
  refine (rfNum_any gr _ _ w3 hP.out.rd (by rintro b (rfl | rfl) <;> omega) (.inl rfl)).mono ?_
  rintro _ w4 ⟨rfl, hr4, ho4⟩
  have hP4 := Lib.hid (hP.out.num hr4 ho4 (by omega) (by omega) (by omega))
  have cw : w4.cell? ⟨gw, 7, none⟩ = some (.int .i64 ((0 : Nat) : Int)) := (hP4.out.kw.cell 7).trans rfl
  have fw := hP4.out.kw.frozen 7
  clear hr4 ho4
  rw [show (rdN (pD xs).2).1 = vlN (pD xs).2 0 from rfl]
  have hP5 := Lib.hid (hP4.out.set 7 (.int .i64 (vlN (pD xs).2 0 : Int)) (by omega) (by omega) (by omega))
  go_upto_region 11 with fail
  generalize w4.setCell _ _ = w5 at hP5 ⊢
  have hs5 := hP5.out.bl.size
  have hlr5 := hP5.out.rd.lt
  have hlw5 := hP5.out.kw.lt
  clear cw fw
  go_wp2_with fail
  refine (rfNum_any gr _ _ w5 hP5.out.rd (by rintro b (rfl | rfl) <;> omega) (.inl rfl)).mono ?_
  rintro _ w6 ⟨rfl, hr6, ho6⟩
  have hP6 := Lib.hid (hP5.out.num hr6 ho6 (by omega) (by omega) (by omega))
  have cw : w6.cell? ⟨gw, 8, none⟩ = some (.int .i64 ((0 : Nat) : Int)) := (hP6.out.kw.cell 8).trans rfl
  have fw := hP6.out.kw.frozen 8
  clear hr6 ho6
  rw [show (rdN (rdN (pD xs).2).2).1 = vlN (pD xs).2 1 from rfl]
  have hP7 := Lib.hid (hP6.out.set 8 (.int .i64 (vlN (pD xs).2 1 : Int)) (by omega) (by omega) (by omega))
  go_upto_region 12 with fail
  generalize w6.setCell _ _ = w7 at hP7 ⊢
  have hP7' := Lib.hid (show PSf w w7 gr gw g2 (stN (pD xs).2 2) (cellsW f (.slice Ad dl cd) (vlN (pD xs).2 0) (vlN (pD xs).2 1) (.slice none 0 0)) f (.slice Ad dl cd) (pD xs).1 from hP7.out)
  have hs7 := hP7.out.bl.size
  have hlr7 := hP7.out.rd.lt
  have hlw7 := hP7.out.kw.lt
  clear cw fw hP hP4 hP5 hP6 hP7
  go_wp2_with fail
  refine (rfMany_any gr 7 _ _ w7 hP7'.out.rd (by rintro b (rfl | rfl) <;> omega) (.inl rfl) (by omega)).mono ?_
  rw [show rdM (stN (pD xs).2 2) 7 = pM xs from rfl]
  rintro _ w8 ⟨rfl, hr8, ho8⟩
  have hP8 := Lib.hid (hP7'.out.num hr8 ho8 (by omega) (by omega) (by omega))
  clear hr8 ho8 hP7'
  have hs8 := hP8.out.bl.size
  obtain ⟨B2, hB2⟩ : ∃ B2, B2 = w8.heap.size := ⟨_, rfl⟩
  have hm7 : (pM xs).1 ≤ 7 := rdM_le _ 7
  have hfar : PFar w gr gw g2 B2 (.slice Ad dl cd) := ⟨by rw [hB2]; exact hP8.out.rd.lt, by rw [hB2]; exact hP8.out.kw.lt, by rw [hB2]; exact hP8.out.k2.lt, fun b hb => by rw [hB2]; exact hP8.out.dat.lt hb, by omega, by omega⟩
  have HFR := Lib.hid hfar
  have hB2l : B2 ≤ w8.heap.size := by omega
  have HBE := Lib.hid hB2
  clear hfar hB2
  obtain ⟨m, hm⟩ : ∃ m, m = (pM xs).1 := ⟨_, rfl⟩
  rw [← hm] at hm7 ⊢
  have HM := Lib.hid hm
  clear hm
  go_wp2_with fail
  go_loopw [7] (fun iv wr => ∃ (i : Nat) (v : Value), i ≤ m ∧ iv = .int .i64 i ∧ PSf w wr gr gw g2 (stN (pM xs).2 i) (cellsW f (.slice Ad dl cd) (vlN (pD xs).2 0) (vlN (pD xs).2 1) v) f (.slice Ad dl cd) (pD xs).1 ∧ OwnN wr B2 v ((List.range i).map fun j => (vlN (pM xs).2 j : Int)) ∧ RfAt wr gr (fun b => (b = gr ∨ b = gw) ∨ v.ownBlock = some b) (stN (pM xs).2 i) ∧ B2 ≤ wr.heap.size) (fun iv _ => m - (intOf iv).toNat)
  case atStart => exact ⟨0, .slice none 0 0, by omega, rfl, hP8.out, ⟨rfl, .inl ⟨rfl, rfl⟩⟩, hP8.out.rd.mono (fun b hb => .inl (by rcases hb with h | h; exact h; cases h)), hB2l⟩
  case round =>
    obtain ⟨i, v, hi, rfl, hp, hov, hrd, hBl⟩ := hrel
    have HP := Lib.hid hp
    have HOV := Lib.hid hov
    have HRD2 := Lib.hid hrd
    have hlr9 := hp.rd.lt
    have hlw9 := hp.kw.lt
    clear hp hov hrd
    by_cases him : i < m
    · obtain ⟨LA, Lc, hlv⟩ := own_shape HOV.out
      have hlen : ((List.range i).map fun j => (vlN (pM xs).2 j : Int)).length = i := by simp
      rw [hlen] at hlv
      have c0 : wr.cell? ⟨gw, 9, none⟩ = some (.slice LA i Lc) := by rw [← hlv]; exact (HP.out.kw.cell 9).trans rfl
      have HNM := Lib.hid (rfNum_any gr _ _ wr.drew (HRD2.out.below (Below.refl _ wr).drew) (by
        show ∀ b, ((b = gr ∨ b = gw) ∨ v.ownBlock = some b) → b < wr.heap.size
        rintro b ((rfl | rfl) | hb)
        · omega
        · omega
        · exact own_lt HOV.out hb) (.inl (.inl rfl)))
      rw [show (rdN (stN (pM xs).2 i)).1 = vlN (pM xs).2 i from rfl] at HNM
      obtain ⟨i0, hi0, hz0, hz1, hz2⟩ := info_parts (show (Try.prog.info? 3).map (fun i => (i.zero, i.size, i.bytes)) = some (some (.int .i64 0), 1, 8) by kernel_rfl)
      go_upto_region 16 with fail
      obtain ⟨zs, hzs⟩ : ∃ zs, zs = (List.range i).map fun j => (vlN (pM xs).2 j : Int) := ⟨_, rfl⟩
      rw [← hzs] at HOV hlen
      obtain ⟨z, hz⟩ : ∃ z, z = vlN (pM xs).2 i := ⟨_, rfl⟩
      rw [← hz] at HNM
      have hnx : ((List.range (i + 1)).map fun j => (vlN (pM xs).2 j : Int)) = zs ++ [(z : Int)] := by rw [List.range_succ, List.map_append, hzs, hz]; rfl
      have HNX := Lib.hid hnx
      have HZS := Lib.hid hzs
      have HLEN := Lib.hid hlen
      have HLV := Lib.hid hlv
      have HVN := Lib.hid (fun b (hb : v.ownBlock = some b) => (⟨own_lt HOV.out hb, by have := own_ge HOV.out hb; have := HFR.out.r; omega, by have := own_ge HOV.out hb; have := HFR.out.w; omega⟩ : b < wr.heap.size ∧ b ≠ gr ∧ b ≠ gw))
      clear hzs hz hnx hlen hlv
      go_region_law (first
        | (go_simp; go_at_call 30; refine HNM.out.mono ?_; rintro _ w6 ⟨rfl, hr6, ho6⟩; have hk6 := Blk.only (w := wr.drew) HP.out.kw ho6 (by omega); have c6 : w6.cell? ⟨gw, 9, none⟩ = some (.slice LA i Lc) := (by rw [← HLV.out]; exact (hk6.cell 9).trans rfl); have c7 := fun o => (World.cell?_alloc_lt w6 o ⟨gw, 9, none⟩ hk6.lt).trans c6)
        | (refine step_append_any _ rfl (.tmp 48) (.tmp 51) 24 rfl B2 3 i0 _ 1 8 Try.underlying24 hi0 hz0 hz1 hz2 rfl (by omega) (.slice LA i Lc) i (zs.map vn) rfl (own_later HOV.out HLV.out HLEN.out (fun b hb => (ho6.block b (HVN.out b hb).1 (HVN.out b hb).2.1)) ho6.size (fun b hb => (HVN.out b hb).1)) (w6.heap.size + 1) (some ⟨w6.heap.size, 0, none⟩) 1 1 [.int .i64 (z : Int)] rfl (reads_first _ _ _) (by simp [Value.oneCell']) (by unfold maxLen; omega) (by omega) (by have h5 := ho6.size; have h6 : wr.drew.heap.size = wr.heap.size := rfl; simp; omega) ?_; intro v8 w8' hown8 hg8 hor8; obtain ⟨A8, C8, rfl⟩ := own_shape' hown8; have HB8 := (hk6.alloc _).grown hg8 (by rw [← HLV.out]; exact fun e => (HVN.out gw e.symm).2.2 rfl); have c8 : w8'.cell? ⟨gw, 9, none⟩ = some v := (HB8.cell 9).trans rfl; have f8 := HB8.frozen 9))
      all_goals
        have hP6 := PSf.num (w := wr.drew) (w' := w6) (h := ⟨HP.out.rd.below (Below.refl _ wr).drew, HP.out.kw, HP.out.k2, HP.out.bl.drew, HP.out.dat, HP.out.dne⟩) (hr6.mono (fun b hb => .inl (.inl hb))) ho6 (by omega) (by omega) (by omega)
        have hpu := PSf.push (B2 := B2) hP6 hr6 (HLV.out ▸ hg8) (v8 := .slice A8 (i + 1) C8) (HLV.out ▸ hor8) (fun b hb => own_ge HOV.out hb) HFR.out (by omega)
        have HPU := Lib.hid hpu
        have HO8 := Lib.hid (show OwnN (w8'.setCell ⟨gw, 9, none⟩ (.slice A8 (i + 1) C8)) B2 (.slice A8 (i + 1) C8) ((List.range (i + 1)).map fun j => (vlN (pM xs).2 j : Int)) from by
          rw [HNX.out]
          have h1 : OwnN w8' B2 (.slice A8 (i + 1) C8) (zs ++ [(z : Int)]) := by
            unfold OwnN
            rw [List.length_append, List.map_append, HLEN.out]
            exact hown8
          exact own_keep h1 fun b hb => Below.heap_setCell w8' ⟨gw, 9, none⟩ _ b (by have := own_ge h1 hb; have := HFR.out.w; show b ≠ gw; omega))
        have hsz8 : B2 ≤ w8'.heap.size := by have h1 := hg8.size; have h2 := ho6.size; have h3 : wr.drew.heap.size = wr.heap.size := rfl; simp at h1; omega
        clear hP6 hpu hown8 hg8 hor8 HB8 c8 f8 c6 c7 hk6 hr6 ho6 c0
        generalize hW9 : w8'.setCell _ _ = w9 at HPU HO8 ⊢
        have hsz9 : B2 ≤ w9.heap.size := by rw [← hW9]; simpa [World.setCell] using hsz8
        clear hW9 hsz8
        go_wp2_with fail
        go_roundw
        case rel => exact ⟨i + 1, _, by omega, by go_num, HPU.out.1, HO8.out, HPU.out.2, hsz9⟩
        case measure => simp [intOf]; omega
    · obtain rfl : i = m := by omega
      clear HRD2
      have hpe : rdE (stN (pM xs).2 i) = parseE xs := by unfold parseE; rw [← HM.out]
      have hE := rfEnd_any gr _ (stN (pM xs).2 i) wr HP.out.rd
      rw [hpe] at hE
      obtain ⟨ec, hec⟩ : ∃ ec, ec = parseE xs := ⟨_, rfl⟩
      have hpa := parse_ways xs
      obtain ⟨A2, c2, hv2⟩ := own_shape HOV.out
      have hl2 : ((List.range i).map fun j => (vlN (pM xs).2 j : Int)).length = i := by simp
      rw [hl2] at hv2
      have hcl : cellsW f (.slice Ad dl cd) (vlN (pD xs).2 0) (vlN (pD xs).2 1) (.slice A2 i c2) = wCells (parseW xs) Ad dl cd A2 i c2 := parse_cells xs f _ _ _ _ _ _ HF.out
      have hdt : (parseW xs).data = (pD xs).1 := parse_data xs
      have hnt : (parseW xs).next = (List.range i).map fun j => (vlN (pM xs).2 j : Int) := parse_next xs i HM.out
      have hrg := parse_rng xs
      rw [hv2, ← hnt] at HOV
      rw [hv2, hcl, ← hdt] at HP
      rw [← hdt] at HDLN
      obtain ⟨PW, hPW⟩ : ∃ PW, PW = parseW xs := ⟨_, rfl⟩
      rw [← hec] at hE hpa
      rw [← hPW] at hpa HOV HP HDLN hrg
      have HRG := Lib.hid hrg
      have HE := Lib.hid hE
      have HPA := Lib.hid hpa
      clear hpe hE hec hpa hcl hdt hnt hrg hPW hv2 hl2
      go_wp2_with fail
      refine HE.out.mono ?_
      rintro _ w9 ⟨rfl, rfl⟩
      have HP9 := HP
      have HO9 := HOV
      by_cases hec : ec = 0
      · subst hec
        obtain ⟨mb, hmb⟩ : ∃ mb, mb = mayB PW := ⟨_, rfl⟩
        have hwi : WishIn wr wr.heap.size PW Ad dl cd A2 i c2 := wishIn_own HP9.out.dat HO9.out HRG.out.2 HRG.out.1
        have hck := refCheck_any PW Ad dl cd A2 i c2 wr wr.heap.size hwi (Nat.le_refl _)
        rw [← hmb] at hck
        have HCK := Lib.hid hck
        have HMB := Lib.hid (fun (_ : Unit) => hmb)
        have hwz : (wCells PW Ad dl cd A2 i c2).size = 10 := rfl
        clear hck hwi hmb
        go_wp2_with (refine wpList_load_part rfl 26 (.tmp 5) rfl gw 0 10 rfl 26 _ (wCells PW Ad dl cd A2 i c2) _ HP9.out.kw Try.underlying26 rfl rfl rfl (fun _ _ => by rw [Nat.zero_add]) ?_)
        refine HCK.out.mono ?_
        rintro _ w10 ⟨rfl, hb10⟩
        have K10 := Lib.hid (HP9.out.kw.under hb10)
        have K2' := Lib.hid (HP9.out.k2.under hb10)
        have HB10 := Lib.hid (HP9.out.bl.trans (hb10.mono HP9.out.bl.size))
        have HD10 := Lib.hid (HP9.out.dat.below hb10)
        have HO10 := Lib.hid (own_keep (w' := w10) HO9.out fun b hb => hb10.block b (own_lt HO9.out hb))
        have HNE := Lib.hid (HP9.out.dne)
        clear hb10 HP9 HO9 HE
        cases mb with
        | false =>
          go_wp2_with (refine wpList_store_part rfl 26 (.tmp 2) (.tmp 62) rfl g2 0 (wCells zeroW none 0 0 none 0 0) rfl rfl 26 _ K2'.out (wCells_info _ _ _ _ _ _ _) (by simp [wCells, cellsAt]) (wCells_one _ _ _ _ _ _ _) ?_; intro w11 hT10 hD10; rw [spl_self _ _ (by simp [wCells, cellsAt])] at hD10)
          have hpq := (HPA.out ()).2.2 trivial (HMB.out ()).symm
          refine bodyPost_ret (results_part2 rfl _ _ g2 10 26 _ _ rfl hD10 Try.underlying26 rfl rfl rfl) rfl ⟨none, 0, 0, none, 0, 0, by rw [hpq]; rfl, by rw [hpq]; exact wishIn_zero _ _, ?_⟩
          exact ⟨hT10.below HB10.out (by omega), fun a h => absurd h (by omega), fun a h => absurd h (by omega)⟩
        | true =>
          go_wp2_with (first
            | (refine wpList_load_part rfl 26 (.tmp 5) rfl gw 0 10 rfl 26 _ (wCells PW Ad dl cd A2 i c2) _ K10.out Try.underlying26 rfl rfl rfl (fun _ _ => by rw [Nat.zero_add]) ?_)
            | (refine wpList_store_part rfl 26 (.tmp 2) (.tmp 64) rfl g2 0 (wCells PW Ad dl cd A2 i c2) rfl rfl 26 _ K2'.out (wCells_info _ _ _ _ _ _ _) (by simp [wCells, cellsAt]) (wCells_one _ _ _ _ _ _ _) ?_; intro w11 hT10 hD10; rw [spl_self _ _ (by simp [wCells, cellsAt])] at hD10))
          have hpq := (HPA.out ()).2.1 trivial (HMB.out ()).symm
          refine bodyPost_ret (results_part2 rfl _ _ g2 10 26 _ _ rfl hD10 Try.underlying26 rfl rfl rfl) rfl ⟨Ad, dl, cd, A2, i, c2, by rw [hpq]; rfl, ?_, hT10.below HB10.out (by omega), fun a _ ha => HD10.out.ge (by rw [ha]; rfl), fun a _ ha => by have := own_ge HO10.out (b := a.block) (by rw [ha]; rfl); have := HFR.out.o; omega⟩
          rw [hpq]
          exact wishIn_own (HD10.out.keep fun b hb => hT10.block b (HNE.out b hb).2.2) (own_keep HO10.out fun b hb => hT10.block b (by have := own_ge HO10.out hb; have := HFR.out.z; omega)) HRG.out.2 HRG.out.1
      · have hec' : ¬ (ec : Int) = 0 := by omega
        go_wp2_with (refine wpList_store_part rfl 26 (.tmp 2) (.tmp 62) rfl g2 0 (wCells zeroW none 0 0 none 0 0) rfl rfl 26 _ HP9.out.k2 (wCells_info _ _ _ _ _ _ _) (by simp [wCells, cellsAt]) (wCells_one _ _ _ _ _ _ _) ?_; intro w10 hT10 hD10; rw [spl_self _ _ (by simp [wCells, cellsAt])] at hD10)
        refine bodyPost_ret (results_part2 rfl _ _ g2 10 26 _ _ rfl hD10 Try.underlying26 rfl rfl rfl) rfl ⟨none, 0, 0, none, 0, 0, by rw [(HPA.out ()).1 hec]; rfl, by rw [(HPA.out ()).1 hec]; exact wishIn_zero _ _, ?_⟩
        exact ⟨hT10.below HP9.out.bl (by omega), fun a h => absurd h (by omega), fun a h => absurd h (by omega)⟩


end Go.Proofs.Ytcmbmimmfgfefaa
