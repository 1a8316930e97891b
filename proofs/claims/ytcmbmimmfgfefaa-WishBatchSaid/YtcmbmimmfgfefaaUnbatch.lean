/-
  Contract of wish.Unbatch.
-/
import Derived.Test.YtcmbmimmfgfefaaBatch
import Derived.Test.YtcmbmimmfgfefaaParseF
namespace Go.Proofs.Ytcmbmimmfgfefaa
set_option linter.unusedVariables false
open Go.RowKit

def ubGo : Nat → RdS → List Wish → List Wish × Nat
  | 0, s, acc => if rdE s = 0 then (acc, 0) else ([], rdE s)
  | k + 1, s, acc =>
    if (rdT s 256).2.2 = 0 then (if (parse (rdT s 256).1).2 = 0 then ubGo k (rdT s 256).2 (acc ++ [(parse (rdT s 256).1).1]) else ([], (parse (rdT s 256).1).2)) else ([], (rdT s 256).2.2)
def unbatch (b : List UInt8) : List Wish × Nat := ubGo (rdM (b, 0) 4).1 (rdM (b, 0) 4).2 []

/-- a wish whose memory is apart -/
structure WishApart (w : World) (N : Nat → Prop) (x : Wish) (A : Option Addr) (n c : Nat) (A' : Option Addr) (n' c' : Nat) : Prop where
  is : WishIn w w.heap.size x A n c A' n' c'
  one : ∀ a, 0 < n → A = some a → ¬ N a.block
  two : ∀ a, 0 < n' → A' = some a → ¬ N a.block
theorem reads_keep {w w' : World} {size n : Nat} {A : Option Addr} {xs : List Value} {N : Nat → Prop} (h : Reads w w.heap.size size A n xs) (hs : w.heap.size ≤ w'.heap.size) (ha : ∀ a, 0 < n → A = some a → ¬ N a.block) (hk : ∀ i, i < w.heap.size → ¬ N i → w'.heap[i]? = w.heap[i]?) : Reads w' w'.heap.size size A n xs :=
  ⟨h.1, fun h0 => by
    obtain ⟨ad, hA, hb, hc⟩ := h.2 h0
    exact ⟨ad, hA, by omega, fun j u hu => (World.cell?_of_block (hk _ (by rw [block_of_add]; exact hb) (by rw [block_of_add]; exact ha ad h0 hA))).trans (hc j u hu)⟩⟩
theorem WishApart.keep {w w' : World} {N : Nat → Prop} {x : Wish} {A : Option Addr} {n c : Nat} {A' : Option Addr} {n' c' : Nat} (h : WishApart w N x A n c A' n' c') (hs : w.heap.size ≤ w'.heap.size) (hk : ∀ i, i < w.heap.size → ¬ N i → w'.heap[i]? = w.heap[i]?) : WishApart w' N x A n c A' n' c' :=
  ⟨⟨reads_keep h.is.data hs h.one hk, h.is.dc, h.is.dm, reads_keep h.is.next hs h.two hk, h.is.nc, h.is.nm, h.is.rng⟩, h.one, h.two⟩
theorem WishApart.mono {w : World} {N N' : Nat → Prop} {x : Wish} {A : Option Addr} {n c : Nat} {A' : Option Addr} {n' c' : Nat} (h : WishApart w N x A n c A' n' c') (hN : ∀ b, N' b → N b ∨ w.heap.size ≤ b) : WishApart w N' x A n c A' n' c' := by
  refine ⟨h.is, fun a h0 ha hn => ?_, fun a h0 ha hn => ?_⟩
  · obtain ⟨ad, hA, hb, _⟩ := h.is.data.2 h0
    rw [hA] at ha; injection ha with ha; subst ha
    rcases hN _ hn with e | e
    · exact h.one ad h0 hA e
    · omega
  · obtain ⟨ad, hA, hb, _⟩ := h.is.next.2 h0
    rw [hA] at ha; injection ha with ha; subst ha
    rcases hN _ hn with e | e
    · exact h.two ad h0 hA e
    · omega

structure OwnW (w : World) (B2 : Nat) (N : Nat → Prop) (v : Value) (l : List Wish) (es : List (Array Value)) : Prop where
  len : es.length = l.length
  row : w.ownsRow B2 26 10 v l.length (es.map (·.toList)).flatten
  each : ∀ (k : Nat) (x : Wish), l[k]? = some x → ∃ A n c A' n' c', es[k]? = some (wCells x A n c A' n' c') ∧ WishApart w N x A n c A' n' c'
theorem rowW_lt {w : World} {B b n s : Nat} {e : TypeId} {v : Value} {vs : List Value} (h : w.ownsRow B e s v n vs) (hb : v.ownBlock = some b) : B ≤ b ∧ b < w.heap.size := by
  rcases h.2 with ⟨rfl, _⟩ | ⟨g, cap, cur, rfl, hg, hh, _⟩
  · simp [Value.ownBlock] at hb
  · simp [Value.ownBlock] at hb; subst hb
    refine ⟨hg, ?_⟩
    rcases Nat.lt_or_ge g w.heap.size with h | h
    · exact h
    · rw [Array.getElem?_eq_none h] at hh; cases hh
theorem rowW_keep {w w' : World} {B : Nat} {e : TypeId} {s n : Nat} {lv : Value} {vs : List Value} (h : w.ownsRow B e s lv n vs) (hk : ∀ b, lv.ownBlock = some b → w'.heap[b]? = w.heap[b]?) : w'.ownsRow B e s lv n vs := by
  refine ⟨h.1, ?_⟩
  rcases h.2 with h0 | ⟨g, cap, cur, rfl, hg, hh, h1⟩
  · exact .inl h0
  · exact .inr ⟨g, cap, cur, rfl, hg, (hk g rfl).trans hh, h1⟩
theorem OwnW.keep {w w' : World} {B2 : Nat} {N : Nat → Prop} {v : Value} {l : List Wish} {es : List (Array Value)} (h : OwnW w B2 N v l es) (hs : w.heap.size ≤ w'.heap.size) (hk : ∀ i, i < w.heap.size → ¬ N i → w'.heap[i]? = w.heap[i]?) (hv : ∀ b, v.ownBlock = some b → w'.heap[b]? = w.heap[b]?) : OwnW w' B2 N v l es :=
  ⟨h.len, rowW_keep h.row hv, fun k x hx => by
    obtain ⟨A, n, c, A', n', c', h1, h2⟩ := h.each k x hx
    exact ⟨A, n, c, A', n', c', h1, h2.keep hs hk⟩⟩
theorem flat_get : ∀ (es : List (Array Value)) (k j : Nat) (a : Array Value) (v : Value), (∀ e, e ∈ es → e.size = 10) → es[k]? = some a → a[j]? = some v → (es.map (·.toList)).flatten[10 * k + j]? = some v
  | [], k, j, a, v, _, hk, _ => by simp at hk
  | e :: es, 0, j, a, v, hs, hk, hj => by
    simp at hk
    subst hk
    have hlt : j < e.size := by
      rcases Nat.lt_or_ge j e.size with h | h
      · exact h
      · rw [Array.getElem?_eq_none h] at hj; cases hj
    rw [List.map_cons, List.flatten_cons, Nat.mul_zero, Nat.zero_add, List.getElem?_append_left (by simpa using hlt), Array.getElem?_toList]
    exact hj
  | e :: es, k + 1, j, a, v, hs, hk, hj => by
    have h10 := hs e (by simp)
    rw [List.map_cons, List.flatten_cons, List.getElem?_append_right (by rw [Array.length_toList]; omega), Array.length_toList, show 10 * (k + 1) + j - e.size = 10 * k + j by omega]
    exact flat_get es k j a v (fun e' he => hs e' (by simp [he])) (by simpa using hk) hj
theorem OwnW.wishes {w : World} {B2 : Nat} {N : Nat → Prop} {l : List Wish} {es : List (Array Value)} {A : Option Addr} {n c : Nat} (h : OwnW w B2 N (.slice A n c) l es) : n = l.length ∧ n ≤ c ∧ WishesIn w w.heap.size A n l := by
  have hsz : ∀ e, e ∈ es → e.size = 10 := fun e he => by
    obtain ⟨k, hk, hk2⟩ := List.getElem_of_mem he
    have hl := h.len
    obtain ⟨A1, n1, c1, A2, n2, c2, h1, _⟩ := h.each k l[k] (List.getElem?_eq_getElem (by omega))
    rw [List.getElem?_eq_getElem hk, hk2] at h1
    injection h1 with h1
    rw [h1]; rfl
  rcases h.row.2 with ⟨e, h0⟩ | ⟨g, cap, cur, e, hg, hh, hnc, hcm, hcs, htk⟩
  · injection e with e1 e2 e3
    exact ⟨by omega, by omega, by omega, fun hp => by omega⟩
  · injection e with e1 e2 e3
    subst e1 e2 e3
    refine ⟨rfl, hnc, rfl, fun hp => ⟨_, rfl, ?_, fun k x hx => ?_⟩⟩
    · rcases Nat.lt_or_ge g w.heap.size with h | h
      · exact h
      · rw [Array.getElem?_eq_none h] at hh; cases hh
    · obtain ⟨A1, n1, c1, A2, n2, c2, h1, h2⟩ := h.each k x hx
      refine ⟨A1, n1, c1, A2, n2, c2, fun j v hv => ?_, h2.is⟩
      have := flat_get es k j _ v hsz h1 hv
      exact h.row.cells (g := g) rfl _ v this


theorem fill_cells (x : Wish) (A : Option Addr) (n c : Nat) (A' : Option Addr) (n' c' : Nat) :
    Array.foldl (fun (cs : Array Value) (x : Value × Nat) => cs.setIfInBounds x.2 x.1) #[.int .i64 0, .int .i64 0, .int .i64 0, .int .i64 0, .int .i64 0, .int .i64 0, .slice none 0 0, .int .i64 0, .int .i64 0, .slice none 0 0]
      (wCells x A n c A' n' c').zipIdx 0 10 = wCells x A n c A' n' c' := by
  unfold wCells
  simp [List.zipIdx]
theorem wish_info : (Try.prog.info? 26).map (fun i => (i.zero, i.size, i.bytes)) = some (some (.agg (wCells zeroW none 0 0 none 0 0)), 10, 112) := by kernel_rfl
theorem reads_struct (w : World) (cs : Array Value) (t : TypeId) (h : cs.size = 10) : Reads (w.alloc (.cells cs t)) (w.heap.size + 1) 10 (some ⟨w.heap.size, 0, none⟩) 1 cs.toList := by
  obtain ⟨_, h2⟩ := reads_cells w cs t
  refine ⟨by simp [h], fun _ => ?_⟩
  obtain ⟨ad, h3, h4, h5⟩ := h2 (by omega)
  exact ⟨ad, h3, h4, h5⟩
theorem wCells_size (x : Wish) (A : Option Addr) (n c : Nat) (A' : Option Addr) (n' c' : Nat) : (wCells x A n c A' n' c').size = 10 := rfl
theorem WishApart.carry {w w' : World} {N N' : Nat → Prop} {x : Wish} {A : Option Addr} {n c : Nat} {A' : Option Addr} {n' c' : Nat} (h : WishApart w N x A n c A' n' c') (hN : ∀ b, N' b → N b ∨ w.heap.size ≤ b) (hs : w.heap.size ≤ w'.heap.size) (hk : ∀ i, i < w.heap.size → ¬ N i → w'.heap[i]? = w.heap[i]?) : WishApart w' N' x A n c A' n' c' := by
  have h1 : WishApart w (fun b => N b ∨ N' b) x A n c A' n' c' := h.mono fun b hb => hb.elim .inl (hN b)
  have h2 := h1.keep hs fun i hi hn => hk i hi fun e => hn (.inl e)
  exact ⟨h2.is, fun a h0 ha e => h2.one a h0 ha (.inr e), fun a h0 ha e => h2.two a h0 ha (.inr e)⟩
theorem RdAt.carry {w w' : World} {g : Nat} {N N' : Nat → Prop} {s : RdS} (h : RdAt w g N s) (hN : ∀ b, N' b → N b ∨ w.heap.size ≤ b) (hs : w.heap.size ≤ w'.heap.size) (hg : w'.heap[g]? = w.heap[g]?) (hk : ∀ i, i < w.heap.size → ¬ N i → w'.heap[i]? = w.heap[i]?) : RdAt w' g N' s := by
  have h1 : RdAt w g (fun b => N b ∨ N' b) s := h.mono fun b hb => hb.elim .inl (hN b)
  obtain ⟨he, A, n, c, k1, k2, k3, k4, k5⟩ := h1.keep hg hs fun i hi hn => hk i hi fun e => hn (.inl e)
  exact ⟨he, A, n, c, k1, k2, k3, k4, fun a h0 ha e => k5 a h0 ha (.inr e)⟩
theorem OwnW.push {w w' : World} {B2 : Nat} {N N' : Nat → Prop} {v v' : Value} {acc : List Wish} {es : List (Array Value)} {x : Wish} {A : Option Addr} {n c : Nat} {A' : Option Addr} {n' c' : Nat} (h : OwnW w B2 N v acc es) (hx : WishApart w N x A n c A' n' c')
    (hrow : w'.ownsRow B2 26 10 v' (acc.length + 1) ((es.map (·.toList)).flatten ++ (wCells x A n c A' n' c').toList)) (hg : w.grownBy w' v.ownBlock) (hN : ∀ b, v.ownBlock = some b → N b) (hN' : ∀ b, N' b → N b ∨ w.heap.size ≤ b) : OwnW w' B2 N' v' (acc ++ [x]) (es ++ [wCells x A n c A' n' c']) := by
  have hk : ∀ i, i < w.heap.size → ¬ N i → w'.heap[i]? = w.heap[i]? := fun i hi hn => hg.block i hi (fun e => hn (hN i e.symm))
  refine ⟨by simp [h.len], ?_, fun k y hy => ?_⟩
  · rw [List.length_append, List.length_singleton, List.map_append, List.flatten_append]
    simpa using hrow
  · rcases Nat.lt_or_ge k acc.length with hlt | hge
    · rw [List.getElem?_append_left hlt] at hy
      obtain ⟨A1, n1, c1, A2, n2, c2, h1, h2⟩ := h.each k y hy
      refine ⟨A1, n1, c1, A2, n2, c2, ?_, h2.carry hN' hg.size hk⟩
      rw [List.getElem?_append_left (by rw [h.len]; exact hlt)]; exact h1
    · rw [List.getElem?_append_right hge] at hy
      have hk0 : k - acc.length = 0 := by
        rcases Nat.eq_zero_or_pos (k - acc.length) with h | h
        · exact h
        · rw [List.getElem?_eq_none (by simp; omega)] at hy; cases hy
      rw [hk0] at hy
      injection hy with hy
      subst hy
      refine ⟨A, n, c, A', n', c', ?_, hx.carry hN' hg.size hk⟩
      rw [List.getElem?_append_right (by rw [h.len]; exact hge), h.len, hk0]; rfl

theorem rdT_len (s : RdS) (most : Nat) : (rdT s most).1.length ≤ most := by
  unfold rdT
  split
  · exact ts_len1 _ _
  · simp
theorem ub_bad1 {k : Nat} {s : RdS} {acc : List Wish} (h : (rdT s 256).2.2 ≠ 0) : ubGo (k + 1) s acc = ([], (rdT s 256).2.2) := by
  unfold ubGo; rw [if_neg h]
theorem ub_bad2 {k : Nat} {s : RdS} {acc : List Wish} (h : (rdT s 256).2.2 = 0) (hp : (parse (rdT s 256).1).2 ≠ 0) : ubGo (k + 1) s acc = ([], (parse (rdT s 256).1).2) := by
  unfold ubGo; rw [if_pos h, if_neg hp]
theorem ub_next {k : Nat} {s : RdS} {acc : List Wish} (h : (rdT s 256).2.2 = 0) (hp : (parse (rdT s 256).1).2 = 0) : ubGo (k + 1) s acc = ubGo k (rdT s 256).2 (acc ++ [(parse (rdT s 256).1).1]) := by
  show (if _ then _ else _) = _
  rw [if_pos h, if_pos hp]
/-- wishes in memory of their own: they stand as long as the blocks from g on do -/
def Keeps (w : World) (g : Nat) (A : Option Addr) (n : Nat) (l : List Wish) : Prop :=
  ∀ W : World, w.heap.size ≤ W.heap.size → (∀ i, i < w.heap.size → g ≤ i → W.heap[i]? = w.heap[i]?) → WishesIn W W.heap.size A n l
theorem keeps_nil (w : World) (g : Nat) (A : Option Addr) : Keeps w g A 0 [] := fun _ _ _ => ⟨rfl, fun h => absurd h (by omega)⟩

theorem rdE_err (s : RdS) (h : s.2 < 10) : rdE s < 10 := by
  unfold rdE
  split
  · omega
  · exact h
theorem OwnW.keeps {w : World} {B2 g : Nat} {l : List Wish} {es : List (Array Value)} {A : Option Addr} {n c : Nat} (h : OwnW w B2 (fun b => b ≤ g ∨ (Value.slice A n c).ownBlock = some b) (.slice A n c) l es) (hg : g ≤ B2) : Keeps w g A n l := fun W hs hk =>
  (h.keep hs (fun i hi hn => hk i hi (by rcases Nat.lt_or_ge i g with h1 | h1; exact absurd (.inl (by omega)) hn; exact h1)) (fun b hb => hk b (rowW_lt h.row hb).2 (by have := (rowW_lt h.row hb).1; omega))).wishes.2.2

section
attribute [local irreducible] parse rdT rdM rdE ubGo
set_option maxRecDepth 100000 in
set_option maxHeartbeats 4000000 in
theorem unbatch_any (A : Option Addr) (n c : Nat) (xs : List UInt8) (w : World) (B : Nat) (h : Reads w B 1 A n (xs.map vb)) (hB : B ≤ w.heap.size) (hc : n ≤ c) (hn : n ≤ 140737488355328) :
    Calls Try.prog 16 #[.slice A n c] w fun e w' => ∃ A1 n1 c1, e = .returned (.tuple #[.slice A1 n1 c1, .int .i64 ((unbatch xs).2 : Int)]) ∧ n1 = (unbatch xs).1.length ∧ n1 ≤ c1 ∧ Keeps w' w.heap.size A1 n1 (unbatch xs).1 ∧ Below w.heap.size w w' := by
  have H := Lib.hid h
  clear h
  obtain ⟨ub, hub⟩ : ∃ ub, ub = unbatch xs := ⟨_, rfl⟩
  rw [← hub]
  have HUB := Lib.hid (fun (_ : Unit) => hub)
  clear hub
  go_enter Try.func16, Try.ntmps16
  go_upto_region 3 with fail
  generalize hW : World.alloc _ _ = w1
  have hb1 : Below w.heap.size w w1 := by rw [← hW]; exact (Below.refl _ _).alloc (Nat.le_refl _) _
  have k1 : Blk w1 w.heap.size 62 (rdCells A n c 0) := by rw [← hW]; exact Blk.newAt rfl
  have hs1 : w1.heap.size = w.heap.size + 1 := by rw [← hW]; simp
  clear hW
  have hrd : RdAt w1 w.heap.size (fun b => b = w.heap.size) (xs, 0) := ⟨by omega, A, n, c, k1, hc, hn, (H.out.below (hb1.mono hB)).more (by omega), fun a h0 ha hor => by
    obtain ⟨ad, hA, hb, _⟩ := H.out.2 h0
    rw [hA] at ha
    injection ha with ha
    subst ha
    omega⟩
  have HRD := Lib.hid hrd
  have HB1 := Lib.hid hb1
  clear hb1 k1 hrd
  go_wp2_with fail
  refine (rdMany_any w.heap.size 4 (fun b => b = w.heap.size) (xs, 0) w1 HRD.out (fun b (hb : b = w.heap.size) => by omega) rfl (by omega)).mono ?_
  rintro _ w2 ⟨rfl, hr2, ho2⟩
  have HB2 := Lib.hid (ho2.below HB1.out (by omega) (by omega))
  have HR2 := Lib.hid hr2
  have hlt2 := hr2.lt
  have hs2 := HB2.out.size
  have hub2 : ub = ubGo (rdM (xs, 0) 4).1 (rdM (xs, 0) 4).2 [] := by rw [HUB.out ()]; unfold unbatch; rfl
  have hm4 := rdM_le (xs, 0) 4
  obtain ⟨m, hm⟩ : ∃ m, m = (rdM (xs, 0) 4).1 := ⟨_, rfl⟩
  obtain ⟨s0, hs0⟩ : ∃ s0, s0 = (rdM (xs, 0) 4).2 := ⟨_, rfl⟩
  rw [← hm] at hub2 hm4 ⊢
  rw [← hs0] at hub2 HR2
  have HU2 := Lib.hid (fun (_ : Unit) => hub2)
  obtain ⟨B2, hB2⟩ : ∃ B, B = w2.heap.size := ⟨_, rfl⟩
  have hB2a : B2 ≤ w2.heap.size := by omega
  have hB2b : w2.heap.size ≤ B2 := by omega
  clear hr2 ho2 hub2 hm hs0 HUB HRD HB1 hB2
  go_wp2_with fail
  go_loopw [5, 15] (fun ov iv wr => ∃ (i : Nat) (st : RdS) (acc : List Wish) (es : List (Array Value)) (v : Value), v = ov ∧ i ≤ m ∧ iv = .int .i64 i ∧ acc.length = i ∧ (∀ _ : Unit, ub = ubGo (m - i) st acc) ∧ RdAt wr w.heap.size (fun b => b = w.heap.size ∨ ov.ownBlock = some b) st ∧ OwnW wr B2 (fun b => b ≤ w.heap.size ∨ ov.ownBlock = some b) ov acc es ∧ Below w.heap.size w wr ∧ B2 ≤ wr.heap.size) (fun _ iv _ => m - (intOf iv).toNat)
  case atStart => exact ⟨0, s0, [], [], _, rfl, by omega, rfl, rfl, HU2.out, HR2.out.mono (fun b hb => .inl (by rcases hb with h | h; exact h; cases h)), ⟨rfl, ⟨rfl, .inl ⟨rfl, rfl⟩⟩, fun k x hx => by simp at hx⟩, HB2.out, by omega⟩
  case round =>
    obtain ⟨i, st, acc, es, ov, rfl, hi, rfl, hac, hu, hr, how, hb, hBl⟩ := hrel
    have HU := Lib.hid hu
    have HR := Lib.hid hr
    have HOW := Lib.hid how
    have HB := Lib.hid hb
    have hlt := hr.lt
    have hs := hb.size
    clear hu hr how hb
    by_cases him : i < m
    · have hst := rdStr_any w.heap.size 256 _ _ wr HR.out (by
        rintro b (rfl | hb)
        · exact hlt
        · exact (rowW_lt HOW.out.row hb).2) (.inl rfl) (by omega)
      obtain ⟨k, hk⟩ : ∃ k, m - i = k + 1 := ⟨m - i - 1, by omega⟩
      have hu1 : ∀ _ : Unit, ub = ubGo (k + 1) st acc := fun u => by rw [HU.out u, hk]
      have hw1 : (rdT st 256).2.2 ≠ 0 → ∀ _ : Unit, ub = ([], (rdT st 256).2.2) := fun h u => by rw [hu1 u, ub_bad1 h]
      have hw2 : (rdT st 256).2.2 = 0 → (parse (rdT st 256).1).2 ≠ 0 → ∀ _ : Unit, ub = ([], (parse (rdT st 256).1).2) := fun h hp u => by rw [hu1 u, ub_bad2 h hp]
      have hw3 : (rdT st 256).2.2 = 0 → (parse (rdT st 256).1).2 = 0 → ∀ _ : Unit, ub = ubGo k (rdT st 256).2 (acc ++ [(parse (rdT st 256).1).1]) := fun h hp u => by rw [hu1 u, ub_next h hp]
      have hsl := rdT_len st 256
      generalize rdT st 256 = t at hst hw1 hw2 hw3 hsl
      obtain ⟨s, st2⟩ := t
      simp only at hst hw1 hw2 hw3 hsl
      have HST := Lib.hid hst
      have HW1 := Lib.hid hw1
      have HW2 := Lib.hid hw2
      have HW3 := Lib.hid hw3
      clear hst hu1 hw1 hw2 hw3
      go_wp2_with fail
      refine HST.out.mono ?_
      rintro _ w3 ⟨dv, rfl, hdv, hr3, ho3⟩
      have HR3 := Lib.hid hr3
      have HO3 := Lib.hid (HOW.out.keep ho3.size (fun i hi hn => ho3.block i hi (fun e => hn (.inl (by omega)))) (fun b hb => ho3.block b (rowW_lt HOW.out.row hb).2 (by have := (rowW_lt HOW.out.row hb).1; omega)))
      have HB3 := Lib.hid (ho3.below HB.out hs (by omega))
      have hs3 := ho3.size
      obtain ⟨RA, Rn, Rc, hrk, _⟩ := hr3.has
      have c1 : w3.cell? ⟨w.heap.size, 1, none⟩ = some (.int .i64 (st2.2 : Int)) := (hrk.cell 1).trans rfl
      obtain ⟨Ad, cd, rfl, hcd, hcdm, hdr, hdB⟩ := own_slice_b hdv
      have HDR := Lib.hid hdr
      clear hdv hr3 ho3 hrk hdr HR HOW HB HST
      by_cases he : st2.2 = 0
      · have he' : (st2.2 : Int) = 0 := by omega
        have hpa := parse_fresh Ad s.length cd s w3 _ HDR.out (Nat.le_refl _) hcd (by omega)
        have hw2 := HW2.out he
        have hw3 := HW3.out he
        generalize parse s = p at hpa hw2 hw3
        obtain ⟨x, e⟩ := p
        simp only at hpa hw2 hw3
        have HPA := Lib.hid hpa
        have HV2 := Lib.hid hw2
        have HV3 := Lib.hid hw3
        clear hpa hw2 hw3 HW1 HW2 HW3
        go_wp2_with fail
        refine HPA.out.mono ?_
        rintro _ w4 ⟨A1, n1, c1', A2, n2, c2', rfl, hwi, hb4, hf1, hf2⟩
        have HWI := Lib.hid hwi
        have HB4 := Lib.hid hb4
        have HF1 := Lib.hid hf1
        have HF2 := Lib.hid hf2
        clear hwi hb4 hf1 hf2 c1
        go_upto_region 9 with (refine wpList_store_part rfl 26 (.tmp 7) (.tmp 31) rfl w4.heap.size 0 (wCells x A1 n1 c1' A2 n2 c2') rfl rfl 26 (wCells zeroW none 0 0 none 0 0) (Blk.newAt rfl) (wCells_info _ _ _ _ _ _ _) (by simp [wCells]) (wCells_one _ _ _ _ _ _ _) ?_; intro w5 hT5 hD5; rw [spl_self _ _ (by simp [wCells])] at hD5)
        have hb5 : Below w4.heap.size w4 w5 := hT5.below ((Below.refl _ _).alloc (Nat.le_refl _) _) (Nat.le_refl _)
        have hb35 := HB4.out.trans (hb5.mono HB4.out.size)
        have HB5 := Lib.hid (HB3.out.trans (hb35.mono (by omega)))
        have HR5 := Lib.hid (HR3.out.below hb35)
        have HO5 := Lib.hid (HO3.out.keep hb35.size (fun i hi _ => hb35.block i hi) (fun b hb => hb35.block b (rowW_lt HO3.out.row hb).2))
        have HW5 := Lib.hid (show WishApart w5 (fun b => b ≤ w.heap.size ∨ ov.ownBlock = some b) x A1 n1 c1' A2 n2 c2' from ⟨(HWI.out.below hb5).more hb5.size, fun a h0 ha hn => by
          have h1 := HF1.out a h0 ha
          rcases hn with h2 | h2
          · omega
          · have := (rowW_lt HO3.out.row h2).2; omega, fun a h0 ha hn => by
          have h1 := HF2.out a h0 ha
          rcases hn with h2 | h2
          · omega
          · have := (rowW_lt HO3.out.row h2).2; omega⟩)
        have HD5 := Lib.hid hD5
        have hs5 := hb35.size
        clear hT5 hD5 hb5 hb35 HWI HF1 HF2 HB4 HPA HR3 HO3 HB3
        by_cases hep : e = 0
        · subst hep
          have hq := HV3.out rfl
          have HQ := Lib.hid hq
          have HRW := Lib.hid (show w5.ownsRow B2 26 10 ov i (es.map (·.toList)).flatten from hac ▸ HO5.out.row)
          clear hq HV2 HV3
          obtain ⟨i0, hi0, hz0, hz1, hz2⟩ := info_parts wish_info
          have hwz : (wCells x A1 n1 c1' A2 n2 c2').size = 10 := rfl
          go_wp2_with (first
            | (at_builtin; (rw [fill_cells]; refine wpList_append_any _ rfl (.tmp 36) (.tmp 38) 34 rfl B2 26 i0 _ 10 112 Try.underlying34 hi0 hz0 hz1 hz2 rfl (by omega) ov i (es.map (·.toList)).flatten rfl ?row (w5.heap.size + 1) (some ⟨w5.heap.size, 0, none⟩) 1 1 (wCells x A1 n1 c1' A2 n2 c2').toList rfl ?rd ?c1 ?c2 ?c3 ?c4 ?_))
            | (refine wpList_load_part (o := ⟨some 37, _, _, _, _, _⟩) rfl 26 (.tmp 7) rfl w4.heap.size 0 10 rfl 26 _ (wCells x A1 n1 c1' A2 n2 c2') _ HD5.out Try.underlying26 rfl rfl rfl (fun _ _ => by rw [Nat.zero_add]) ?_))
          case row => exact rowW_keep HRW.out (fun b hb => Below.heap_alloc _ _ b (rowW_lt HRW.out hb).2)
          case rd => exact reads_struct _ _ _ rfl
          case c1 => exact fun u hu => List.all_eq_true.1 (by have := wCells_one x A1 n1 c1' A2 n2 c2'; rw [← Array.all_toList] at this; exact this) u hu
          case c2 => unfold maxLen; omega
          case c3 => omega
          case c4 => simp; omega
          intro v6 w6 hown6 hg6 hor6
          obtain ⟨o6, ho6⟩ : ∃ o, o = Obj.cells (wCells x A1 n1 c1' A2 n2 c2') 26 := ⟨_, rfl⟩
          rw [← ho6] at hg6
          have hsz6 : (w5.alloc o6).heap.size = w5.heap.size + 1 := by simp
          rw [← hsz6] at hor6
          have hal : Below w5.heap.size w5 (w5.alloc o6) := (Below.refl _ _).alloc (Nat.le_refl _) _
          have hN : ∀ b, ov.ownBlock = some b → (b ≤ w.heap.size ∨ ov.ownBlock = some b) := fun b hb => .inr hb
          have hN' : ∀ b, (b ≤ w.heap.size ∨ v6.ownBlock = some b) → (b ≤ w.heap.size ∨ ov.ownBlock = some b) ∨ (w5.alloc o6).heap.size ≤ b := fun b hb => by
            rcases hb with hb | hb
            · exact .inl (.inl hb)
            · rcases hor6 with e | e
              · exact .inl (.inr (e ▸ hb))
              · rw [e] at hb; injection hb with hb; exact .inr (by omega)
          have hN2 : ∀ b, (b = w.heap.size ∨ v6.ownBlock = some b) → (b = w.heap.size ∨ ov.ownBlock = some b) ∨ (w5.alloc o6).heap.size ≤ b := fun b hb => by
            rcases hb with hb | hb
            · exact .inl (.inl hb)
            · rcases hor6 with e | e
              · exact .inl (.inr (e ▸ hb))
              · rw [e] at hb; injection hb with hb; exact .inr (by omega)
          have hge6 : ∀ b, ov.ownBlock = some b → B2 ≤ b := fun b hb => (rowW_lt HRW.out hb).1
          have hgs6 := hg6.size
          have HO6 := Lib.hid (OwnW.push (N' := fun b => b ≤ w.heap.size ∨ v6.ownBlock = some b) (HO5.out.keep hal.size (fun i hi _ => hal.block i hi) (fun b hb => hal.block b (rowW_lt HO5.out.row hb).2)) (HW5.out.keep hal.size (fun i hi _ => hal.block i hi)) (hac ▸ hown6) hg6 hN hN')
          have hkeep6 : ∀ i, i < (w5.alloc o6).heap.size → ¬ (i = w.heap.size ∨ ov.ownBlock = some i) → w6.heap[i]? = (w5.alloc o6).heap[i]? := fun i hi hn => hg6.block i hi (fun e => hn (.inr e.symm))
          have HR6 := Lib.hid (RdAt.carry (N' := fun b => b = w.heap.size ∨ v6.ownBlock = some b) (HR5.out.below hal) hN2 hgs6 (hg6.block _ (by omega) (fun e => by have := hge6 _ e.symm; omega)) hkeep6)
          have HB6 := Lib.hid (grown_below ((HB5.out.trans (hal.mono (by omega)))) (by omega) hg6 (fun b hb => by have := hge6 b hb; omega))
          have hlast : B2 ≤ w6.heap.size := by omega
          clear hown6 hg6 hor6 hal hN hN' hN2 hkeep6
          go_wp2_with fail
          go_roundw
          case rel => exact ⟨i + 1, st2, acc ++ [x], es ++ [wCells x A1 n1 c1' A2 n2 c2'], v6, rfl, by omega, by go_num, by simp [hac], fun u => by rw [HQ.out u, show m - (i + 1) = k by omega], HR6.out, HO6.out, HB6.out, hlast⟩
          case measure => simp [intOf]; omega
        · have he'' : ¬ (e : Int) = 0 := by omega
          have hq := HV2.out hep ()
          subst hq
          go_wp2_with fail
          go_ret2
          exact ⟨none, 0, 0, rfl, rfl, Nat.le_refl _, keeps_nil _ _ _, HB5.out⟩
      · have he' : ¬ (st2.2 : Int) = 0 := by omega
        have hq := HW1.out he ()
        subst hq
        go_wp2_with fail
        go_quiet (fail)
        go_wp2_with fail
        go_ret2
        exact ⟨none, 0, 0, rfl, rfl, Nat.le_refl _, keeps_nil _ _ _, below_drewN HB3.out _⟩
    · obtain rfl : i = m := by omega
      have hu0 : ∀ _ : Unit, ub = if rdE st = 0 then (acc, 0) else ([], rdE st) := fun u => by rw [HU.out u, Nat.sub_self]; unfold ubGo; rfl
      have HU0 := Lib.hid hu0
      have hend := rdEnd_any w.heap.size _ st wr HR.out (.inl rfl)
      have hec := rdE_err st HR.out.err
      generalize rdE st = ec at hend HU0 hec
      clear hu0 HU HR
      go_wp2_with fail
      refine hend.mono ?_
      rintro _ w3 ⟨rfl, hr3, ho3⟩
      have HB3 := Lib.hid (ho3.below HB.out hs (by omega))
      have HO3 := Lib.hid (HOW.out.keep ho3.size (fun i hi hn => ho3.block i hi (fun e => hn (.inl (by omega)))) (fun b hb => ho3.block b (rowW_lt HOW.out.row hb).2 (by have := (rowW_lt HOW.out.row hb).1; omega)))
      clear hend hr3 ho3 HOW HB
      by_cases he : ec = 0
      · have hq := HU0.out ()
        rw [if_pos he] at hq
        subst hq
        subst he
        obtain ⟨A1, c1, rfl⟩ := own_shape' HO3.out.row
        go_wp2_with fail
        go_ret2
        have hx1 := HO3.out.wishes.2.1
        have hx2 := HO3.out.keeps (g := w.heap.size) (by omega)
        rw [hac] at hx1 hx2
        exact ⟨A1, _, c1, rfl, rfl, hx1, hx2, HB3.out⟩
      · have he' : ¬ (ec : Int) = 0 := by omega
        have hq := HU0.out ()
        rw [if_neg he] at hq
        subst hq
        go_wp2_with fail
        go_ret2
        exact ⟨none, 0, 0, rfl, rfl, Nat.le_refl _, keeps_nil _ _ _, HB3.out⟩
end

end Go.Proofs.Ytcmbmimmfgfefaa
