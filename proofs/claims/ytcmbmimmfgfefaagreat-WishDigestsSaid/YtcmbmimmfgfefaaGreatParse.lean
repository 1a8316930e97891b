/-
  Contract of wish.Parse.
-/
import Derived.Test.YtcmbmimmfgfefaaGreatReader
import Derived.Laws.OwnMore
import Derived.Deep.RegionLaw
namespace Go.Proofs.YtcmbmimmfgfefaaGreat
set_option linter.unusedVariables false
open Go.RowKit

def stN (s : RdS) : Nat → RdS
  | 0 => s
  | i + 1 => (rdN (stN s i)).2
def vlN (s : RdS) (i : Nat) : Nat := (rdN (stN s i)).1
def zeroW : Wish := ⟨0, 0, 0, 0, 0, 0, [], 0, 0, []⟩
def pD (b : List UInt8) : List UInt8 × RdS := rdT (stN (b, 0) 6) 16
def pM (b : List UInt8) : Nat × RdS := rdM (stN (pD b).2 2) 7
def parseW (b : List UInt8) : Wish where
  kind := (vlN (b, 0) 0 : Int)
  client := (vlN (b, 0) 1 : Int)
  stamp := (vlN (b, 0) 2 : Int)
  group := (vlN (b, 0) 3 : Int)
  epoch := (vlN (b, 0) 4 : Int)
  block := (vlN (b, 0) 5 : Int)
  data := (pD b).1
  old := (vlN (pD b).2 0 : Int)
  new := (vlN (pD b).2 1 : Int)
  next := (List.range (pM b).1).map fun i => (vlN (pM b).2 i : Int)
def parseE (b : List UInt8) : Nat := rdE (stN (pM b).2 (pM b).1)
def parse (b : List UInt8) : Wish × Nat := if parseE b = 0 then (if mayB (parseW b) = true then (parseW b, 0) else (zeroW, 2)) else (zeroW, parseE b)

/-- the wish as it stands behind so many numbers -/
def cellsAt (f : Nat → Nat) (i : Nat) : Array Value :=
  #[.int .i64 (if 1 < i then (f 1 : Int) else 0), .int .i64 (if 2 < i then (f 2 : Int) else 0), .int .i64 (if 3 < i then (f 3 : Int) else 0), .int .i64 (if 4 < i then (f 4 : Int) else 0), .int .i64 (if 0 < i then (f 0 : Int) else 0), .int .i64 (if 5 < i then (f 5 : Int) else 0), .slice none 0 0, .int .i64 0, .int .i64 0, .slice none 0 0]
def offAt (i : Nat) : Nat := [4, 0, 1, 2, 3, 5].getD i 0
theorem cellsAt_next (f : Nat → Nat) (i : Nat) (h : i < 6) : (cellsAt f i).setIfInBounds (offAt i) (.int .i64 (f i : Int)) = cellsAt f (i + 1) := by
  match i, h with
  | 0, _ => rfl
  | 1, _ => rfl
  | 2, _ => rfl
  | 3, _ => rfl
  | 4, _ => rfl
  | 5, _ => rfl
theorem cellsAt_at (f : Nat → Nat) (i : Nat) (h : i < 6) : (cellsAt f i)[offAt i]? = some (.int .i64 0) := by
  match i, h with
  | 0, _ => rfl
  | 1, _ => rfl
  | 2, _ => rfl
  | 3, _ => rfl
  | 4, _ => rfl
  | 5, _ => rfl
def ptrsAt (g : Nat) : Array Value := #[.pointer (some ⟨g, 4, none⟩), .pointer (some ⟨g, 0, none⟩), .pointer (some ⟨g, 1, none⟩), .pointer (some ⟨g, 2, none⟩), .pointer (some ⟨g, 3, none⟩), .pointer (some ⟨g, 5, none⟩)]
def cellsW (f : Nat → Nat) (dv : Value) (o nw : Nat) (nv : Value) : Array Value :=
  #[.int .i64 (f 1 : Int), .int .i64 (f 2 : Int), .int .i64 (f 3 : Int), .int .i64 (f 4 : Int), .int .i64 (f 0 : Int), .int .i64 (f 5 : Int), dv, .int .i64 (o : Int), .int .i64 (nw : Int), nv]
theorem ptrsAt_at (g i : Nat) (h : i < 6) : (ptrsAt g)[i]? = some (.pointer (some ⟨g, offAt i, none⟩)) := by
  match i, h with
  | 0, _ => rfl
  | 1, _ => rfl
  | 2, _ => rfl
  | 3, _ => rfl
  | 4, _ => rfl
  | 5, _ => rfl

theorem four_new (w : World) (a b c d : Obj) : ((((w.alloc a).alloc b).alloc c).alloc d).heap[w.heap.size]? = some a ∧ ((((w.alloc a).alloc b).alloc c).alloc d).heap[w.heap.size + 1]? = some b ∧ ((((w.alloc a).alloc b).alloc c).alloc d).heap[w.heap.size + 1 + 1]? = some c ∧
    ((((w.alloc a).alloc b).alloc c).alloc d).heap[w.heap.size + 1 + 1 + 1]? = some d ∧ ((((w.alloc a).alloc b).alloc c).alloc d).heap.size = w.heap.size + 4 ∧ Below w.heap.size w ((((w.alloc a).alloc b).alloc c).alloc d) := by
  have h1 : (w.alloc a).heap.size = w.heap.size + 1 := by simp
  have h2 : ((w.alloc a).alloc b).heap.size = w.heap.size + 1 + 1 := by simp
  have h3 : (((w.alloc a).alloc b).alloc c).heap.size = w.heap.size + 1 + 1 + 1 := by simp
  refine ⟨?_, ?_, ?_, ?_, by simp, ((((Below.refl _ w).alloc (Nat.le_refl _) a).alloc (by omega) b).alloc (by omega) c).alloc (by omega) d⟩
  · rw [Below.heap_alloc _ d _ (by omega), Below.heap_alloc _ c _ (by omega), Below.heap_alloc _ b _ (by omega)]; exact heap_alloc_new w a
  · rw [Below.heap_alloc _ d _ (by omega), Below.heap_alloc _ c _ (by omega), ← h1]; exact heap_alloc_new _ b
  · rw [Below.heap_alloc _ d _ (by omega), ← h2]; exact heap_alloc_new _ c
  · rw [← h3]; exact heap_alloc_new _ d
theorem RdAt.mono {w : World} {g : Nat} {N N' : Nat → Prop} {s : RdS} (h : RdAt w g N s) (hN : ∀ b, N' b → N b ∨ w.heap.size ≤ b) : RdAt w g N' s := by
  obtain ⟨A, n, c, h1, h2, h3, h4, h5⟩ := h.has
  refine ⟨h.err, A, n, c, h1, h2, h3, h4, fun a h0 ha hn => ?_⟩
  obtain ⟨ad, hA, hb, _⟩ := h4.2 h0
  rw [hA] at ha
  injection ha with ha
  subst ha
  rcases hN _ hn with h | h
  · exact h5 ad h0 hA h
  · omega
theorem OnlyAt.of_set {g : Nat} (w : World) (i : Nat) (u : Value) : OnlyAt g w (w.setCell ⟨g, i, none⟩ u) := (OnlyAt.refl g w).set i u
theorem Blk.only {w w' : World} {g k : Nat} {t : TypeId} {cs : Array Value} (h : Blk w g t cs) (ho : OnlyAt k w w') (hne : g ≠ k) : Blk w' g t cs := (ho.block g h.lt hne).trans h
/-- the reader where another block of N turns -/
theorem RdAt.beside {w w' : World} {g k : Nat} {N : Nat → Prop} {s : RdS} (h : RdAt w g N s) (ho : OnlyAt k w w') (hk : N k) (hne : g ≠ k) : RdAt w' g N s :=
  h.keep (ho.block g h.lt hne) ho.size fun i hi hn => ho.block i hi (fun e => hn (e ▸ hk))

structure PSt (w0 w : World) (gr gw g2 : Nat) (s : RdS) (cells : Array Value) (f : Nat → Nat) (dv : Value) (D : List UInt8) : Prop where
  rd : RdAt w gr (fun b => b = gr ∨ b = gw) s
  kw : Blk w gw 25 cells
  k2 : Blk w g2 25 (cellsAt f 0)
  bl : Below w0.heap.size w0 w
  dat : OwnB w w0.heap.size dv D
  dne : ∀ b, dv.ownBlock = some b → b ≠ gr ∧ b ≠ gw ∧ b ≠ g2
theorem PSt.num {w0 w w' : World} {gr gw g2 : Nat} {s s' : RdS} {cells : Array Value} {f : Nat → Nat} {dv : Value} {D : List UInt8} (h : PSt w0 w gr gw g2 s cells f dv D) (hr : RdAt w' gr (fun b => b = gr ∨ b = gw) s') (ho : OnlyAt gr w w') (h1 : gw ≠ gr) (h2 : g2 ≠ gr) (h3 : w0.heap.size ≤ gr) : PSt w0 w' gr gw g2 s' cells f dv D :=
  ⟨hr, h.kw.only ho h1, h.k2.only ho h2, ho.below h.bl h.bl.size h3, h.dat.keep fun b hb => ho.block b (h.dat.lt hb) (h.dne b hb).1, h.dne⟩
theorem PSt.set {w0 w : World} {gr gw g2 : Nat} {s : RdS} {cells : Array Value} {f : Nat → Nat} {dv : Value} {D : List UInt8} (h : PSt w0 w gr gw g2 s cells f dv D) (i : Nat) (u : Value) (h1 : gr ≠ gw) (h2 : g2 ≠ gw) (h3 : w0.heap.size ≤ gw) : PSt w0 (w.setCell ⟨gw, i, none⟩ u) gr gw g2 s (cells.setIfInBounds i u) f dv D :=
  ⟨h.rd.beside (OnlyAt.of_set w i u) (.inr rfl) h1, h.kw.set_ i u, h.k2.only (OnlyAt.of_set w i u) h2, (OnlyAt.of_set w i u).below h.bl h.bl.size h3, h.dat.keep fun b hb => (OnlyAt.of_set w i u).block b (h.dat.lt hb) (h.dne b hb).2.1, h.dne⟩

theorem rdM_le (s : RdS) (most : Nat) : (rdM s most).1 ≤ most := by
  unfold rdM
  split
  · split
    · simp
    · show (rdN s).1 ≤ most; omega
  · simp
def OwnN (w : World) (base : Nat) (v : Value) (zs : List Int) : Prop := w.ownsRow base 3 1 v zs.length (zs.map vn)
theorem own_shape {w : World} {base : Nat} {v : Value} {zs : List Int} (h : OwnN w base v zs) : ∃ A c, v = .slice A zs.length c := by
  rcases h.2 with ⟨rfl, h0⟩ | ⟨g, cap, cur, rfl, _⟩
  · exact ⟨none, 0, by rw [h0]⟩
  · exact ⟨_, cap, rfl⟩
theorem own_lt {w : World} {base b : Nat} {v : Value} {zs : List Int} (h : OwnN w base v zs) (hb : v.ownBlock = some b) : b < w.heap.size := by
  rcases h.2 with ⟨rfl, _⟩ | ⟨g, cap, cur, rfl, hg, hh, _⟩
  · simp [Value.ownBlock] at hb
  · simp [Value.ownBlock] at hb; subst hb
    rcases Nat.lt_or_ge g w.heap.size with h | h
    · exact h
    · rw [Array.getElem?_eq_none h] at hh; cases hh
theorem own_ge {w : World} {base b : Nat} {v : Value} {zs : List Int} (h : OwnN w base v zs) (hb : v.ownBlock = some b) : base ≤ b := by
  rcases h.2 with ⟨rfl, _⟩ | ⟨g, cap, cur, rfl, hg, hh, _⟩
  · simp [Value.ownBlock] at hb
  · simp [Value.ownBlock] at hb; omega
theorem own_keep {w w' : World} {base : Nat} {v : Value} {zs : List Int} (h : OwnN w base v zs) (hk : ∀ b, v.ownBlock = some b → w'.heap[b]? = w.heap[b]?) : OwnN w' base v zs := by
  refine ⟨h.1, ?_⟩
  rcases h.2 with h0 | ⟨g, cap, cur, rfl, hg, hh, h1⟩
  · exact .inl h0
  · exact .inr ⟨g, cap, cur, rfl, hg, (hk g rfl).trans hh, h1⟩
theorem own_later {w w' : World} {base : Nat} {v : Value} {zs : List Int} {A : Option Addr} {n c : Nat} {o : Obj} (h : OwnN w base v zs) (hv : v = .slice A n c) (hl : zs.length = n) (hk : ∀ b, v.ownBlock = some b → w'.heap[b]? = w.heap[b]?) (hs : w.heap.size ≤ w'.heap.size) (hlt : ∀ b, v.ownBlock = some b → b < w.heap.size) :
    (w'.alloc o).ownsRow base 3 1 (.slice A n c) n (zs.map vn) := by
  subst hv
  subst hl
  exact own_keep h fun b hb => (Below.heap_alloc w' o b (by have := hlt b hb; omega)).trans (hk b hb)
theorem own_shape' {w : World} {B : Nat} {e : TypeId} {s n : Nat} {v : Value} {vs : List Value} (h : w.ownsRow B e s v n vs) : ∃ A c, v = .slice A n c := by
  rcases h.2 with ⟨rfl, h0⟩ | ⟨g, cap, cur, rfl, _⟩
  · exact ⟨none, 0, by rw [h0]⟩
  · exact ⟨_, cap, rfl⟩
structure PFar (w0 : World) (gr gw g2 B2 : Nat) (dv : Value) : Prop where
  r : gr < B2
  w : gw < B2
  z : g2 < B2
  d : ∀ b, dv.ownBlock = some b → b < B2
  o : w0.heap.size ≤ B2
  wo : w0.heap.size ≤ gw

theorem PSt.push {w0 w6 w8 : World} {gr gw g2 B2 : Nat} {s : RdS} {cells : Array Value} {f : Nat → Nat} {dv v v8 : Value} {D : List UInt8} {o : Obj} (h : PSt w0 w6 gr gw g2 s cells f dv D) (hr : RdAt w6 gr (fun b => (b = gr ∨ b = gw) ∨ v.ownBlock = some b) s)
    (hg : (w6.alloc o).grownBy w8 v.ownBlock) (hor : v8.ownBlock = v.ownBlock ∨ v8.ownBlock = some (w6.alloc o).heap.size) (hvB : ∀ b, v.ownBlock = some b → B2 ≤ b) (hF : PFar w0 gr gw g2 B2 dv) (hne : gr ≠ gw ∧ g2 ≠ gw) :
    PSt w0 (w8.setCell ⟨gw, 9, none⟩ v8) gr gw g2 s (cells.setIfInBounds 9 v8) f dv D ∧ RdAt (w8.setCell ⟨gw, 9, none⟩ v8) gr (fun b => (b = gr ∨ b = gw) ∨ v8.ownBlock = some b) s := by
  have hsa : (w6.alloc o).heap.size = w6.heap.size + 1 := by simp
  have hgs := hg.size
  have hk : ∀ b, b < w6.heap.size → v.ownBlock ≠ some b → w8.heap[b]? = w6.heap[b]? := fun b hb hn => (hg.block b (by omega) (fun e => hn e.symm)).trans (Below.heap_alloc w6 o b (by omega))
  have hnv : ∀ b, b < B2 → v.ownBlock ≠ some b := fun b hb e => by have := hvB b e; omega
  have hset : ∀ b, b ≠ gw → (w8.setCell ⟨gw, 9, none⟩ v8).heap[b]? = w8.heap[b]? := fun b hb => Below.heap_setCell w8 ⟨gw, 9, none⟩ v8 b hb
  have hss : (w8.setCell ⟨gw, 9, none⟩ v8).heap.size = w8.heap.size := by simp [World.setCell]
  have hr3 : RdAt w6 gr (fun b => ((b = gr ∨ b = gw) ∨ v.ownBlock = some b) ∨ v8.ownBlock = some b) s := hr.mono fun b hb => by
    rcases hb with hb | hb
    · exact .inl hb
    · rcases hor with e | e
      · exact .inl (.inr (e ▸ hb))
      · rw [e, hsa] at hb; injection hb with hb; exact .inr (by omega)
  have hr4 : RdAt (w8.setCell ⟨gw, 9, none⟩ v8) gr (fun b => ((b = gr ∨ b = gw) ∨ v.ownBlock = some b) ∨ v8.ownBlock = some b) s :=
    hr3.keep ((hset gr hne.1).trans (hk gr hr.lt (hnv gr hF.r))) (by omega) fun b hb hn => (hset b (fun e => hn (.inl (.inl (.inr e))))).trans (hk b hb (fun e => hn (.inl (.inr e))))
  refine ⟨⟨hr4.mono fun b hb => .inl (.inl (.inl hb)), ?_, ?_, ?_, ?_, h.dne⟩, hr4.mono fun b hb => .inl (by
    rcases hb with hb | hb
    · exact .inl (.inl hb)
    · exact .inr hb)⟩
  · exact Blk.set_ ((hk gw h.kw.lt (hnv gw hF.w)).trans h.kw : Blk w8 gw _ _) 9 v8
  · exact (hset g2 hne.2).trans ((hk g2 h.k2.lt (hnv g2 hF.z)).trans h.k2)
  · have h1 := h.bl.size
    exact h.bl.trans ⟨hg.os, hg.tape, hg.output, by omega, fun i hi => (hset i (by have := hF.wo; omega)).trans (hk i (by omega) (hnv i (by have := hF.o; omega)))⟩
  · exact h.dat.keep fun b hb => (hset b (h.dne b hb).2.1).trans (hk b (h.dat.lt hb) (hnv b (hF.d b hb)))

theorem wCells_one (x : Wish) (A : Option Addr) (n c : Nat) (A' : Option Addr) (n' c' : Nat) : (wCells x A n c A' n' c').all (·.oneCell') = true := by simp [wCells, Value.oneCell']
theorem wCells_info (x : Wish) (A : Option Addr) (n c : Nat) (A' : Option Addr) (n' c' : Nat) : (Tryz.prog.info? 25).map (·.size) = some (wCells x A n c A' n' c').size := by kernel_rfl
theorem wishIn_zero (w : World) (B : Nat) : WishIn w B zeroW none 0 0 none 0 0 :=
  ⟨Reads.none_, Nat.le_refl _, by omega, Reads.none_, Nat.le_refl _, by omega, by unfold I64 zeroW; simp⟩
theorem wishIn_own {w : World} {B1 B2 : Nat} {x : Wish} {A1 A2 : Option Addr} {n1 c1 n2 c2 : Nat} (h1 : OwnB w B1 (.slice A1 n1 c1) x.data) (h2 : OwnN w B2 (.slice A2 n2 c2) x.next) (hl : x.data.length ≤ 140737488355328 ∧ x.next.length ≤ 7)
    (hr : I64 x.client ∧ I64 x.stamp ∧ I64 x.group ∧ I64 x.epoch ∧ I64 x.kind ∧ I64 x.block ∧ I64 x.old ∧ I64 x.new ∧ ∀ z, z ∈ x.next → I64 z) : WishIn w w.heap.size x A1 n1 c1 A2 n2 c2 := by
  obtain ⟨e1, h3, h4, h5, _⟩ := h1.reads
  have hn2 : n2 = x.next.length := by
    obtain ⟨A, c, e⟩ := own_shape h2
    injection e
  have hc2 : n2 ≤ c2 := by
    rcases h2.2 with ⟨e, h0⟩ | ⟨g, cap, cur, e, _, _, h6, _⟩
    · injection e with _ e1 e2; omega
    · injection e with _ e1 e2; omega
  refine ⟨h5, h3, by omega, ?_, hc2, by omega, hr⟩
  subst hn2
  exact Reads.of_own h2
theorem vlN_i64 (s : RdS) (i : Nat) : I64 (vlN s i : Int) := by
  unfold I64 vlN rdN
  split
  · have := tn_num (stN s i).1
    unfold maxN at this
    show -9223372036854775808 ≤ (((tn (stN s i).1).1 : Nat) : Int) ∧ _
    omega
  · simp
theorem ts_len1 (b : List UInt8) (most : Nat) : (ts b most).1.length ≤ most := by
  rw [ts_eq]
  split
  · simp
  · split
    · simp
    · split
      · simp
      · simp; omega
theorem pD_len (b : List UInt8) : (pD b).1.length ≤ 140737488355328 := by
  unfold pD rdT
  split
  · have := ts_len1 (stN (b, 0) 6).1 16
    show (ts _ 16).1.length ≤ _
    omega
  · simp
theorem pM_le (b : List UInt8) : (pM b).1 ≤ 7 := rdM_le _ 7
section
attribute [local irreducible] pD pM vlN stN
theorem parse_cells (b : List UInt8) (f : Nat → Nat) (A1 : Option Addr) (n1 c1 : Nat) (A2 : Option Addr) (n2 c2 : Nat) (hf : f = vlN (b, 0)) :
    cellsW f (.slice A1 n1 c1) (vlN (pD b).2 0) (vlN (pD b).2 1) (.slice A2 n2 c2) = wCells (parseW b) A1 n1 c1 A2 n2 c2 := by
  subst hf
  rfl
theorem parse_data (b : List UInt8) : (parseW b).data = (pD b).1 := rfl
theorem parse_next (b : List UInt8) (i : Nat) (h : i = (pM b).1) : (parseW b).next = (List.range i).map fun j => (vlN (pM b).2 j : Int) := by subst h; rfl
theorem parse_rng (b : List UInt8) : (I64 (parseW b).client ∧ I64 (parseW b).stamp ∧ I64 (parseW b).group ∧ I64 (parseW b).epoch ∧ I64 (parseW b).kind ∧ I64 (parseW b).block ∧ I64 (parseW b).old ∧ I64 (parseW b).new ∧ ∀ z, z ∈ (parseW b).next → I64 z) ∧ ((parseW b).data.length ≤ 140737488355328 ∧ (parseW b).next.length ≤ 7) := by
  refine ⟨⟨vlN_i64 _ _, vlN_i64 _ _, vlN_i64 _ _, vlN_i64 _ _, vlN_i64 _ _, vlN_i64 _ _, vlN_i64 _ _, vlN_i64 _ _, fun z hz => ?_⟩, ?_, ?_⟩
  · rw [parse_next b _ rfl] at hz
    obtain ⟨j, _, rfl⟩ := List.mem_map.1 hz
    exact vlN_i64 _ _
  · rw [parse_data]
    exact pD_len b
  · rw [parse_next b _ rfl, List.length_map, List.length_range]
    exact pM_le b
end
theorem parse_ways (b : List UInt8) : ∀ (u : Unit), (parseE b ≠ 0 → parse b = (zeroW, parseE b)) ∧ (parseE b = 0 → mayB (parseW b) = true → parse b = (parseW b, 0)) ∧ (parseE b = 0 → mayB (parseW b) = false → parse b = (zeroW, 2)) := fun _ => by
  unfold parse
  refine ⟨fun h => by rw [if_neg h], fun h hm => by rw [if_pos h, if_pos hm], fun h hm => by rw [if_pos h, if_neg (by rw [hm]; exact Bool.false_ne_true)]⟩

set_option maxRecDepth 100000 in
set_option maxHeartbeats 4000000 in
theorem parse_any (A : Option Addr) (n c : Nat) (xs : List UInt8) (w : World) (B : Nat) (h : Reads w B 1 A n (xs.map vb)) (hB : B ≤ w.heap.size) (hc : n ≤ c) (hn : n ≤ 140737488355328) :
    Calls Tryz.prog 43 #[.slice A n c] w fun e w' => ∃ A1 n1 c1 A2 n2 c2, e = .returned (.tuple #[.agg (wCells (parse xs).1 A1 n1 c1 A2 n2 c2), .int .i64 ((parse xs).2 : Int)]) ∧ WishIn w' w'.heap.size (parse xs).1 A1 n1 c1 A2 n2 c2 ∧ Below w.heap.size w w' := by
  have H := Lib.hid h
  clear h
  go_enter Tryz.func43, Tryz.ntmps43
  go_upto_region 4 with fail
  generalize hW : World.alloc _ _ = W
  obtain ⟨f, hf⟩ : ∃ f, f = vlN (xs, 0) := ⟨_, rfl⟩
  have h4 : W.heap[w.heap.size]? = some (.cells (cellsAt f 0) 25) ∧ W.heap[w.heap.size + 1]? = some (.cells (rdCells A n c 0) 78) ∧ W.heap[w.heap.size + 1 + 1]? = some (.cells (cellsAt f 0) 25) ∧ W.heap[w.heap.size + 1 + 1 + 1]? = some (.cells (ptrsAt (w.heap.size + 1 + 1)) 101) ∧ W.heap.size = w.heap.size + 4 ∧ Below w.heap.size w W := by
    rw [← hW]
    exact four_new w _ _ _ _
  obtain ⟨b2, br, bw, bp, hsz, hbl⟩ := h4
  obtain ⟨g2, hg2⟩ : ∃ g, g = w.heap.size := ⟨_, rfl⟩
  rw [← hg2] at b2 br bw bp ⊢
  obtain ⟨gr, hgr⟩ : ∃ g, g = g2 + 1 := ⟨_, rfl⟩
  rw [← hgr] at br bw bp ⊢
  obtain ⟨gw, hgw⟩ : ∃ g, g = gr + 1 := ⟨_, rfl⟩
  rw [← hgw] at bw bp ⊢
  obtain ⟨gp, hgp⟩ : ∃ g, g = gw + 1 := ⟨_, rfl⟩
  rw [← hgp] at bp ⊢
  have hrd : RdAt W gr (fun b => b = gr ∨ b = gw) (xs, 0) := ⟨by omega, A, n, c, br, hc, hn, (H.out.below (hbl.mono hB)).more (by omega), fun a h0 ha hor => by
    obtain ⟨ad, hA, hb, _⟩ := H.out.2 h0
    rw [hA] at ha
    injection ha with ha
    subst ha
    rcases hor with e | e <;> omega⟩
  have HF := Lib.hid hf
  have K2 := Lib.hid (show Blk W g2 25 (cellsAt f 0) from b2)
  have KW := Lib.hid (show Blk W gw 25 (cellsAt f 0) from bw)
  have KP := Lib.hid (show Blk W gp 101 (ptrsAt gw) from bp)
  have HB := Lib.hid hbl
  have HRD := Lib.hid hrd
  have ho1 : g2 < gr := by omega
  have ho2 : gr < gw := by omega
  have ho3 : gw < gp := by omega
  have ho4 : gp < W.heap.size := by omega
  have ho5 : w.heap.size ≤ g2 := by omega
  clear hf hW b2 br bw bp hbl hrd hg2 hgr hgw hgp hsz
  go_loopw [20] (fun iv wr => ∃ i : Nat, i ≤ 6 ∧ iv = .int .i64 i ∧ Blk wr gw 25 (cellsAt f i) ∧ Blk wr gp 101 (ptrsAt gw) ∧ Blk wr g2 25 (cellsAt f 0) ∧ RdAt wr gr (fun b => b = gr ∨ b = gw) (stN (xs, 0) i) ∧ Below w.heap.size w wr) (fun iv _ => 6 - (intOf iv).toNat)
  case atStart => exact ⟨0, by omega, rfl, KW.out, KP.out, K2.out, HRD.out, HB.out⟩
  case round =>
    obtain ⟨i, hi, rfl, kw, kp, k2, hrd, hbl⟩ := hrel
    have KW1 := Lib.hid kw
    have KP1 := Lib.hid kp
    have K21 := Lib.hid k2
    have HR1 := Lib.hid hrd
    have HB1 := Lib.hid hbl
    have hgpl := kp.lt
    have hwl := hbl.size
    by_cases hi6 : i < 6
    · have cp : wr.cell? ⟨gp, i, none⟩ = some (.pointer (some ⟨gw, offAt i, none⟩)) := (kp.cell i).trans (ptrsAt_at gw i hi6)
      clear kw kp k2 hrd hbl
      go_wp2_with fail
      refine (rdNum_any gr _ _ wr HR1.out (by rintro b (rfl | rfl) <;> omega) (.inl rfl)).mono ?_
      rintro _ w2 ⟨rfl, hr2, ho⟩
      have kw2 := KW1.out.only ho (by omega)
      have cw : w2.cell? ⟨gw, offAt i, none⟩ = some (.int .i64 0) := (kw2.cell _).trans (cellsAt_at f i hi6)
      have fw := kw2.frozen (offAt i)
      have hfi : f i = (rdN (stN (xs, 0) i)).1 := by rw [HF.out]; rfl
      rw [← hfi]
      have HR2 := Lib.hid (hr2.beside (OnlyAt.of_set (g := gw) w2 (offAt i) (.int .i64 (f i : Int))) (.inr rfl) (by omega))
      have KW2 := Lib.hid (kw2.set_ (offAt i) (.int .i64 (f i : Int)))
      rw [cellsAt_next f i hi6] at KW2
      have KP2 := Lib.hid ((KP1.out.only ho (by omega)).only (OnlyAt.of_set (g := gw) w2 (offAt i) (.int .i64 (f i : Int))) (by omega))
      have K22 := Lib.hid ((K21.out.only ho (by omega)).only (OnlyAt.of_set (g := gw) w2 (offAt i) (.int .i64 (f i : Int))) (by omega))
      have HB2 := Lib.hid ((OnlyAt.of_set (g := gw) w2 (offAt i) (.int .i64 (f i : Int))).below (ho.below HB1.out hwl (by omega)) (by have := ho.size; omega) (by omega))
      clear hr2 ho kw2 hfi
      go_wp2_with fail
      go_roundw
      case rel => exact ⟨i + 1, by omega, by go_num, KW2.out, KP2.out, K22.out, HR2.out, HB2.out⟩
      case measure => simp [intOf]; omega
    · obtain rfl : i = 6 := by omega
      clear kw kp k2 hrd hbl
      have hq : pD xs = rdT (stN (xs, 0) 6) 16 := rfl
      go_wp2_with fail
      refine (rdStr_any gr 16 _ _ wr HR1.out (by rintro b (rfl | rfl) <;> omega) (.inl rfl) (by omega)).mono ?_
      rw [← hq]
      rintro _ w2 ⟨dv, rfl, hdv, hr2, ho⟩
      have HDV := Lib.hid hdv
      obtain ⟨Ad, cd, rfl, hcd, hcdm, _, _⟩ := own_slice_b hdv
      have kw2 := KW1.out.only ho (by omega)
      have cw : w2.cell? ⟨gw, 6, none⟩ = some (.slice none 0 0) := (kw2.cell 6).trans rfl
      have fw := kw2.frozen 6
      have hoA := OnlyAt.of_set (g := gw) w2 6 (.slice Ad (pD xs).1.length cd)
      have hP := Lib.hid (show PSt w (w2.setCell ⟨gw, 6, none⟩ (.slice Ad (pD xs).1.length cd)) gr gw g2 (pD xs).2 (cellsW f (.slice Ad (pD xs).1.length cd) 0 0 (.slice none 0 0)) f (.slice Ad (pD xs).1.length cd) (pD xs).1 from
        ⟨hr2.beside hoA (.inr rfl) (by omega), kw2.set_ 6 _, (K21.out.only ho (by omega)).only hoA (by omega), hoA.below (ho.below HB1.out hwl (by omega)) (by have := ho.size; omega) (by omega),
          (HDV.out.keep fun b hb => hoA.block b (HDV.out.lt hb) (by have := HDV.out.ge hb; omega)).more hwl, fun b hb => by have := HDV.out.ge hb; omega⟩)
      clear hr2 ho kw2 hdv hq hoA HDV
      obtain ⟨dl, hdl⟩ : ∃ dl, dl = (pD xs).1.length := ⟨_, rfl⟩
      rw [← hdl] at hP hcd ⊢
      have HDLN := Lib.hid hdl
      clear hdl
      go_upto_region 9 with fail
      generalize w2.setCell _ _ = w3 at hP ⊢
      clear cw fw
      have hs3 := hP.out.bl.size
      have hlr := hP.out.rd.lt
      have hlw := hP.out.kw.lt
      go_wp2_with fail
      refine (rdNum_any gr _ _ w3 hP.out.rd (by rintro b (rfl | rfl) <;> omega) (.inl rfl)).mono ?_
      rintro _ w4 ⟨rfl, hr4, ho4⟩
      have hP4 := Lib.hid (hP.out.num hr4 ho4 (by omega) (by omega) (by omega))
      have cw : w4.cell? ⟨gw, 7, none⟩ = some (.int .i64 ((0 : Nat) : Int)) := (hP4.out.kw.cell 7).trans rfl
      have fw := hP4.out.kw.frozen 7
      clear hr4 ho4
      rw [show (rdN (pD xs).2).1 = vlN (pD xs).2 0 from rfl]
      have hP5 := Lib.hid (hP4.out.set 7 (.int .i64 (vlN (pD xs).2 0 : Int)) (by omega) (by omega) (by omega))
      go_upto_region 10 with fail
      generalize w4.setCell _ _ = w5 at hP5 ⊢
      have hs5 := hP5.out.bl.size
      have hlr5 := hP5.out.rd.lt
      have hlw5 := hP5.out.kw.lt
      clear cw fw
      go_wp2_with fail
      refine (rdNum_any gr _ _ w5 hP5.out.rd (by rintro b (rfl | rfl) <;> omega) (.inl rfl)).mono ?_
      rintro _ w6 ⟨rfl, hr6, ho6⟩
      have hP6 := Lib.hid (hP5.out.num hr6 ho6 (by omega) (by omega) (by omega))
      have cw : w6.cell? ⟨gw, 8, none⟩ = some (.int .i64 ((0 : Nat) : Int)) := (hP6.out.kw.cell 8).trans rfl
      have fw := hP6.out.kw.frozen 8
      clear hr6 ho6
      rw [show (rdN (rdN (pD xs).2).2).1 = vlN (pD xs).2 1 from rfl]
      have hP7 := Lib.hid (hP6.out.set 8 (.int .i64 (vlN (pD xs).2 1 : Int)) (by omega) (by omega) (by omega))
      go_upto_region 11 with fail
      generalize w6.setCell _ _ = w7 at hP7 ⊢
      have hP7' := Lib.hid (show PSt w w7 gr gw g2 (stN (pD xs).2 2) (cellsW f (.slice Ad dl cd) (vlN (pD xs).2 0) (vlN (pD xs).2 1) (.slice none 0 0)) f (.slice Ad dl cd) (pD xs).1 from hP7.out)
      have hs7 := hP7.out.bl.size
      have hlr7 := hP7.out.rd.lt
      have hlw7 := hP7.out.kw.lt
      clear cw fw hP hP4 hP5 hP6 hP7
      go_wp2_with fail
      refine (rdMany_any gr 7 _ _ w7 hP7'.out.rd (by rintro b (rfl | rfl) <;> omega) (.inl rfl) (by omega)).mono ?_
      rw [show rdM (stN (pD xs).2 2) 7 = pM xs from rfl]
      rintro _ w8 ⟨rfl, hr8, ho8⟩
      have hP8 := Lib.hid (hP7'.out.num hr8 ho8 (by omega) (by omega) (by omega))
      clear hr8 ho8 hP7'
      have hs8 := hP8.out.bl.size
      obtain ⟨B2, hB2⟩ : ∃ B2, B2 = w8.heap.size := ⟨_, rfl⟩
      have hm7 : (pM xs).1 ≤ 7 := rdM_le _ 7
      have hfar : PFar w gr gw g2 B2 (.slice Ad dl cd) := ⟨by rw [hB2]; exact hP8.out.rd.lt, by rw [hB2]; exact hP8.out.kw.lt, by rw [hB2]; exact hP8.out.k2.lt, fun b hb => by rw [hB2]; exact hP8.out.dat.lt hb, by omega, by omega⟩
      have HFR := Lib.hid hfar
      have hB2l : B2 ≤ w8.heap.size := by omega
      have HBE := Lib.hid hB2
      clear hfar hB2
      obtain ⟨m, hm⟩ : ∃ m, m = (pM xs).1 := ⟨_, rfl⟩
      rw [← hm] at hm7 ⊢
      have HM := Lib.hid hm
      clear hm
      go_wp2_with fail
      go_loopw [40] (fun iv wr => ∃ (i : Nat) (v : Value), i ≤ m ∧ iv = .int .i64 i ∧ PSt w wr gr gw g2 (stN (pM xs).2 i) (cellsW f (.slice Ad dl cd) (vlN (pD xs).2 0) (vlN (pD xs).2 1) v) f (.slice Ad dl cd) (pD xs).1 ∧ OwnN wr B2 v ((List.range i).map fun j => (vlN (pM xs).2 j : Int)) ∧ RdAt wr gr (fun b => (b = gr ∨ b = gw) ∨ v.ownBlock = some b) (stN (pM xs).2 i) ∧ B2 ≤ wr.heap.size) (fun iv _ => m - (intOf iv).toNat)
      case atStart => exact ⟨0, .slice none 0 0, by omega, rfl, hP8.out, ⟨rfl, .inl ⟨rfl, rfl⟩⟩, hP8.out.rd.mono (fun b hb => .inl (by rcases hb with h | h; exact h; cases h)), hB2l⟩
      case round =>
        obtain ⟨i, v, hi, rfl, hp, hov, hrd, hBl⟩ := hrel
        have HP := Lib.hid hp
        have HOV := Lib.hid hov
        have HRD2 := Lib.hid hrd
        have hlr9 := hp.rd.lt
        have hlw9 := hp.kw.lt
        clear hp hov hrd
        by_cases him : i < m
        · obtain ⟨LA, Lc, hlv⟩ := own_shape HOV.out
          have hlen : ((List.range i).map fun j => (vlN (pM xs).2 j : Int)).length = i := by simp
          rw [hlen] at hlv
          have c0 : wr.cell? ⟨gw, 9, none⟩ = some (.slice LA i Lc) := by rw [← hlv]; exact (HP.out.kw.cell 9).trans rfl
          have HNM := Lib.hid (rdNum_any gr _ _ wr.drew (HRD2.out.below (Below.refl _ wr).drew) (by
            show ∀ b, ((b = gr ∨ b = gw) ∨ v.ownBlock = some b) → b < wr.heap.size
            rintro b ((rfl | rfl) | hb)
            · omega
            · omega
            · exact own_lt HOV.out hb) (.inl (.inl rfl)))
          rw [show (rdN (stN (pM xs).2 i)).1 = vlN (pM xs).2 i from rfl] at HNM
          obtain ⟨i0, hi0, hz0, hz1, hz2⟩ := info_parts (show (Tryz.prog.info? 3).map (fun i => (i.zero, i.size, i.bytes)) = some (some (.int .i64 0), 1, 8) by kernel_rfl)
          go_upto_region 13 with fail
          obtain ⟨zs, hzs⟩ : ∃ zs, zs = (List.range i).map fun j => (vlN (pM xs).2 j : Int) := ⟨_, rfl⟩
          rw [← hzs] at HOV hlen
          obtain ⟨z, hz⟩ : ∃ z, z = vlN (pM xs).2 i := ⟨_, rfl⟩
          rw [← hz] at HNM
          have hnx : ((List.range (i + 1)).map fun j => (vlN (pM xs).2 j : Int)) = zs ++ [(z : Int)] := by rw [List.range_succ, List.map_append, hzs, hz]; rfl
          have HNX := Lib.hid hnx
          have HZS := Lib.hid hzs
          have HLEN := Lib.hid hlen
          have HLV := Lib.hid hlv
          have HVN := Lib.hid (fun b (hb : v.ownBlock = some b) => (⟨own_lt HOV.out hb, by have := own_ge HOV.out hb; have := HFR.out.r; omega, by have := own_ge HOV.out hb; have := HFR.out.w; omega⟩ : b < wr.heap.size ∧ b ≠ gr ∧ b ≠ gw))
          clear hzs hz hnx hlen hlv
          go_region_law (first
            | (go_simp; go_at_call 60; refine HNM.out.mono ?_; rintro _ w6 ⟨rfl, hr6, ho6⟩; have hk6 := Blk.only (w := wr.drew) HP.out.kw ho6 (by omega); have c6 : w6.cell? ⟨gw, 9, none⟩ = some (.slice LA i Lc) := (by rw [← HLV.out]; exact (hk6.cell 9).trans rfl); have c7 := fun o => (World.cell?_alloc_lt w6 o ⟨gw, 9, none⟩ hk6.lt).trans c6)
            | (refine step_append_any _ rfl (.tmp 43) (.tmp 46) 23 rfl B2 3 i0 _ 1 8 Tryz.underlying23 hi0 hz0 hz1 hz2 rfl (by omega) (.slice LA i Lc) i (zs.map vn) rfl (own_later HOV.out HLV.out HLEN.out (fun b hb => (ho6.block b (HVN.out b hb).1 (HVN.out b hb).2.1)) ho6.size (fun b hb => (HVN.out b hb).1)) (w6.heap.size + 1) (some ⟨w6.heap.size, 0, none⟩) 1 1 [.int .i64 (z : Int)] rfl (reads_first _ _ _) (by simp [Value.oneCell']) (by unfold maxLen; omega) (by omega) (by have h5 := ho6.size; have h6 : wr.drew.heap.size = wr.heap.size := rfl; simp; omega) ?_; intro v8 w8' hown8 hg8 hor8; obtain ⟨A8, C8, rfl⟩ := own_shape' hown8; have HB8 := (hk6.alloc _).grown hg8 (by rw [← HLV.out]; exact fun e => (HVN.out gw e.symm).2.2 rfl); have c8 : w8'.cell? ⟨gw, 9, none⟩ = some v := (HB8.cell 9).trans rfl; have f8 := HB8.frozen 9))
          all_goals
            have hP6 := PSt.num (w := wr.drew) (w' := w6) (h := ⟨HP.out.rd.below (Below.refl _ wr).drew, HP.out.kw, HP.out.k2, HP.out.bl.drew, HP.out.dat, HP.out.dne⟩) (hr6.mono (fun b hb => .inl (.inl hb))) ho6 (by omega) (by omega) (by omega)
            have hpu := PSt.push (B2 := B2) hP6 hr6 (HLV.out ▸ hg8) (v8 := .slice A8 (i + 1) C8) (HLV.out ▸ hor8) (fun b hb => own_ge HOV.out hb) HFR.out (by omega)
            have HPU := Lib.hid hpu
            have HO8 := Lib.hid (show OwnN (w8'.setCell ⟨gw, 9, none⟩ (.slice A8 (i + 1) C8)) B2 (.slice A8 (i + 1) C8) ((List.range (i + 1)).map fun j => (vlN (pM xs).2 j : Int)) from by
              rw [HNX.out]
              have h1 : OwnN w8' B2 (.slice A8 (i + 1) C8) (zs ++ [(z : Int)]) := by
                unfold OwnN
                rw [List.length_append, List.map_append, HLEN.out]
                exact hown8
              exact own_keep h1 fun b hb => Below.heap_setCell w8' ⟨gw, 9, none⟩ _ b (by have := own_ge h1 hb; have := HFR.out.w; show b ≠ gw; omega))
            have hsz8 : B2 ≤ w8'.heap.size := by have h1 := hg8.size; have h2 := ho6.size; have h3 : wr.drew.heap.size = wr.heap.size := rfl; simp at h1; omega
            clear hP6 hpu hown8 hg8 hor8 HB8 c8 f8 c6 c7 hk6 hr6 ho6 c0
            generalize hW9 : w8'.setCell _ _ = w9 at HPU HO8 ⊢
            have hsz9 : B2 ≤ w9.heap.size := by rw [← hW9]; simpa [World.setCell] using hsz8
            clear hW9 hsz8
            go_wp2_with fail
            go_roundw
            case rel => exact ⟨i + 1, _, by omega, by go_num, HPU.out.1, HO8.out, HPU.out.2, hsz9⟩
            case measure => simp [intOf]; omega
        · obtain rfl : i = m := by omega
          clear HRD2
          have hpe : rdE (stN (pM xs).2 i) = parseE xs := by unfold parseE; rw [← HM.out]
          have hE := rdEnd_any gr _ (stN (pM xs).2 i) wr HP.out.rd (.inl rfl)
          rw [hpe] at hE
          obtain ⟨ec, hec⟩ : ∃ ec, ec = parseE xs := ⟨_, rfl⟩
          have hpa := parse_ways xs
          obtain ⟨A2, c2, hv2⟩ := own_shape HOV.out
          have hl2 : ((List.range i).map fun j => (vlN (pM xs).2 j : Int)).length = i := by simp
          rw [hl2] at hv2
          have hcl : cellsW f (.slice Ad dl cd) (vlN (pD xs).2 0) (vlN (pD xs).2 1) (.slice A2 i c2) = wCells (parseW xs) Ad dl cd A2 i c2 := parse_cells xs f _ _ _ _ _ _ HF.out
          have hdt : (parseW xs).data = (pD xs).1 := parse_data xs
          have hnt : (parseW xs).next = (List.range i).map fun j => (vlN (pM xs).2 j : Int) := parse_next xs i HM.out
          have hrg := parse_rng xs
          rw [hv2, ← hnt] at HOV
          rw [hv2, hcl, ← hdt] at HP
          rw [← hdt] at HDLN
          obtain ⟨PW, hPW⟩ : ∃ PW, PW = parseW xs := ⟨_, rfl⟩
          rw [← hec] at hE hpa
          rw [← hPW] at hpa HOV HP HDLN hrg
          have HRG := Lib.hid hrg
          have HE := Lib.hid hE
          have HPA := Lib.hid hpa
          clear hpe hE hec hpa hcl hdt hnt hrg hPW hv2 hl2
          go_wp2_with fail
          refine HE.out.mono ?_
          rintro _ w9 ⟨rfl, hr9, ho9⟩
          have HP9 := Lib.hid (HP.out.num hr9 ho9 (by omega) (by omega) (by omega))
          have HO9 := Lib.hid (own_keep (w' := w9) HOV.out fun b hb => ho9.block b (own_lt HOV.out hb) (by have := own_ge HOV.out hb; have := HFR.out.r; omega))
          clear hr9 ho9
          by_cases hec : ec = 0
          · subst hec
            obtain ⟨mb, hmb⟩ : ∃ mb, mb = mayB PW := ⟨_, rfl⟩
            have hwi : WishIn w9 w9.heap.size PW Ad dl cd A2 i c2 := wishIn_own HP9.out.dat HO9.out HRG.out.2 HRG.out.1
            have hck := check_any PW Ad dl cd A2 i c2 w9 w9.heap.size hwi (Nat.le_refl _)
            rw [← hmb] at hck
            have HCK := Lib.hid hck
            have HMB := Lib.hid (fun (_ : Unit) => hmb)
            have hwz : (wCells PW Ad dl cd A2 i c2).size = 10 := rfl
            clear hck hwi hmb
            go_wp2_with (refine wpList_load_part rfl 25 (.tmp 5) rfl gw 0 10 rfl 25 _ (wCells PW Ad dl cd A2 i c2) _ HP9.out.kw Tryz.underlying25 rfl rfl rfl (fun _ _ => by rw [Nat.zero_add]) ?_)
            refine HCK.out.mono ?_
            rintro _ w10 ⟨rfl, hb10⟩
            have K10 := Lib.hid (HP9.out.kw.under hb10)
            have K2' := Lib.hid (HP9.out.k2.under hb10)
            have HB10 := Lib.hid (HP9.out.bl.trans (hb10.mono HP9.out.bl.size))
            have HD10 := Lib.hid (HP9.out.dat.below hb10)
            have HO10 := Lib.hid (own_keep (w' := w10) HO9.out fun b hb => hb10.block b (own_lt HO9.out hb))
            have HNE := Lib.hid (HP9.out.dne)
            clear hb10 HP9 HO9 HE
            cases mb with
            | false =>
              go_wp2_with (refine wpList_store_part rfl 25 (.tmp 2) (.tmp 58) rfl g2 0 (wCells zeroW none 0 0 none 0 0) rfl rfl 25 _ K2'.out (wCells_info _ _ _ _ _ _ _) (by simp [wCells, cellsAt]) (wCells_one _ _ _ _ _ _ _) ?_; intro w11 hT10 hD10; rw [spl_self _ _ (by simp [wCells, cellsAt])] at hD10)
              have hpq := (HPA.out ()).2.2 trivial (HMB.out ()).symm
              refine bodyPost_ret (results_part2 rfl _ _ g2 10 25 _ _ rfl hD10 Tryz.underlying25 rfl rfl rfl) rfl ⟨none, 0, 0, none, 0, 0, by rw [hpq]; rfl, by rw [hpq]; exact wishIn_zero _ _, ?_⟩
              exact hT10.below HB10.out (by omega)
            | true =>
              go_wp2_with (first
                | (refine wpList_load_part rfl 25 (.tmp 5) rfl gw 0 10 rfl 25 _ (wCells PW Ad dl cd A2 i c2) _ K10.out Tryz.underlying25 rfl rfl rfl (fun _ _ => by rw [Nat.zero_add]) ?_)
                | (refine wpList_store_part rfl 25 (.tmp 2) (.tmp 60) rfl g2 0 (wCells PW Ad dl cd A2 i c2) rfl rfl 25 _ K2'.out (wCells_info _ _ _ _ _ _ _) (by simp [wCells, cellsAt]) (wCells_one _ _ _ _ _ _ _) ?_; intro w11 hT10 hD10; rw [spl_self _ _ (by simp [wCells, cellsAt])] at hD10))
              have hpq := (HPA.out ()).2.1 trivial (HMB.out ()).symm
              refine bodyPost_ret (results_part2 rfl _ _ g2 10 25 _ _ rfl hD10 Tryz.underlying25 rfl rfl rfl) rfl ⟨Ad, dl, cd, A2, i, c2, by rw [hpq]; rfl, ?_, hT10.below HB10.out (by omega)⟩
              rw [hpq]
              exact wishIn_own (HD10.out.keep fun b hb => hT10.block b (HNE.out b hb).2.2) (own_keep HO10.out fun b hb => hT10.block b (by have := own_ge HO10.out hb; have := HFR.out.z; omega)) HRG.out.2 HRG.out.1
          · have hec' : ¬ (ec : Int) = 0 := by omega
            go_wp2_with (refine wpList_store_part rfl 25 (.tmp 2) (.tmp 58) rfl g2 0 (wCells zeroW none 0 0 none 0 0) rfl rfl 25 _ HP9.out.k2 (wCells_info _ _ _ _ _ _ _) (by simp [wCells, cellsAt]) (wCells_one _ _ _ _ _ _ _) ?_; intro w10 hT10 hD10; rw [spl_self _ _ (by simp [wCells, cellsAt])] at hD10)
            refine bodyPost_ret (results_part2 rfl _ _ g2 10 25 _ _ rfl hD10 Tryz.underlying25 rfl rfl rfl) rfl ⟨none, 0, 0, none, 0, 0, by rw [(HPA.out ()).1 hec]; rfl, by rw [(HPA.out ()).1 hec]; exact wishIn_zero _ _, ?_⟩
            exact hT10.below HP9.out.bl (by omega)

end Go.Proofs.YtcmbmimmfgfefaaGreat
