/-
  Arguments, opened: bytes, numbers, arrays of numbers, lists of bytes, as lists that memory reads as. No program is named.
-/
import Derived.Test.YtcmbmimmfgfefaaGreatWord
import Derived.ProofKit
import Derived.OpenShut
import Derived.ChangeOld
import Derived.ChangeSlices
import Derived.Deep.Slices
import Derived.SizedLaws
namespace Go.Proofs.YtcmbmimmfgfefaaGreat
set_option linter.unusedVariables false
open Go.RowKit Go.WideShapes Go.ChangeShapes

/-- each slice of a datum takes no more bytes than a process can have -/
def Light {H : Type} (P : Program) (t : TypeId) (d : DataW H) : Prop := ∀ n ∈ d.weights P t, n ≤ reachBytes
theorem light_of {H : Type} {P : Program} {ts : List TypeId} {ds : List (DataW H)} (h : (DataW.weightsEach P ts ds).all (· ≤ reachBytes) = true) (j : Nat) {t : TypeId} {d : DataW H} (ht : ts[j]? = some t) (hd : ds[j]? = some d) : Light P t d := fun n hn => by
  have := List.all_eq_true.1 h n (DataW.weights_mem_each ht hd n hn)
  simpa using this
theorem weightsAll_mem {H : Type} {P : Program} {e : TypeId} : ∀ {l : List (DataW H)} {d : DataW H}, d ∈ l → ∀ n ∈ d.weights P e, n ∈ DataW.weightsAll P e l
  | d0 :: l, d, hd, n, hn => by
    simp only [DataW.weightsAll, List.mem_append]
    rcases List.mem_cons.1 hd with rfl | hd
    · exact .inl hn
    · exact .inr (weightsAll_mem hd n hn)
  | [], _, hd, _, _ => by simp at hd
theorem light_slice {H : Type} {P : Program} {t e : TypeId} {l s : List (DataW H)} (ht : P.underlying t = some (.slice e)) (h : Light P t (.slice l s)) : (l.length + s.length) * P.bytesOf e ≤ reachBytes ∧ ∀ d, d ∈ l ∨ d ∈ s → Light P e d := by
  unfold Light at h
  rw [DataW.weights] at h
  simp only [ht] at h
  refine ⟨h _ (List.mem_cons_self ..), fun d hd n hn => h n ?_⟩
  refine List.mem_cons_of_mem _ (List.mem_append.2 ?_)
  rcases hd with hd | hd
  · exact .inl (weightsAll_mem hd n hn)
  · exact .inr (weightsAll_mem hd n hn)

section
variable {H : Type} {enc : TypeId × Value → H} {P : Program} {w : World} {held : Bool}

theorem u8_of_wf {z : Int} (h : (Lit.int .u8 z).wf = true) : Value.int .u8 z = vb (UInt8.ofNat z.toNat) := by
  have hb := bounds_u8 h
  unfold vb bi
  congr 1
  rw [UInt8.toNat_ofNat']
  omega

theorem open_bytes {t e : TypeId} (ht : P.underlying t = some (.slice e)) (he : P.underlying e = some (.int .u8)) (hc : P.cellsOf e = 1) (hby : P.bytesOf e = 1) {fuel : Nat} {cs : List Value} {x : DataW H × List MemPlace}
    (h : DataW.trod enc P w 0 (fun _ => true) held fuel t cs = some x) (hw : Light P t x.1) :
    ∃ (A : Option Addr) (n c : Nat) (xs : List UInt8), cs = [.slice A n c] ∧ Reads w w.heap.size 1 A n (xs.map vb) ∧ n ≤ c ∧ c ≤ reachBytes := by
  rcases open_ints ht he hc h with ⟨rfl, rfl⟩ | ⟨a, len, cap, zs, rfl, _, hl, hm, hz, rfl, hcell, hwf⟩
  · exact ⟨none, 0, 0, [], rfl, Reads.none_, Nat.le_refl _, Nat.zero_le _⟩
  · have hz' : zs.length = cap := by simpa using hz
    have hlight := (light_slice ht hw).1
    rw [hby] at hlight
    simp only [lits, List.length_map, List.length_take, List.length_drop] at hlight
    refine ⟨some a, len, cap, (zs.take len).map (fun z => UInt8.ofNat z.toNat), rfl, ⟨by simp; omega, fun hn => ⟨a, rfl, ?_, ?_⟩⟩, hl, by omega⟩
    · have := hcell 0 (by omega)
      have hb := World.block_lt_of_cell? _ _ this
      rwa [block_of_add] at hb
    · intro j u hu
      obtain ⟨hj, rfl⟩ := getElem?_vb hu
      have hjl : j < zs.length := by simp at hj; omega
      rw [hcell j hjl]
      have hz : zs.getD j 0 = zs[j] := by rw [List.getD_eq_getElem?_getD, List.getElem?_eq_getElem hjl]; rfl
      rw [hz, u8_of_wf (hwf zs[j] (List.getElem_mem hjl)), List.getElem_map, List.getElem_take]
      rfl

/-- numbers as cells -/
def vn (z : Int) : Value := .int .i64 z
theorem open_nums {t e : TypeId} (ht : P.underlying t = some (.slice e)) (he : P.underlying e = some (.int .i64)) (hc : P.cellsOf e = 1) (hby : P.bytesOf e = 8) {fuel : Nat} {cs : List Value} {x : DataW H × List MemPlace}
    (h : DataW.trod enc P w 0 (fun _ => true) held fuel t cs = some x) (hw : Light P t x.1) :
    ∃ (A : Option Addr) (n c : Nat) (xs : List Int), cs = [.slice A n c] ∧ Reads w w.heap.size 1 A n (xs.map vn) ∧ n ≤ c ∧ 8 * c ≤ reachBytes ∧ ∀ z ∈ xs, -9223372036854775808 ≤ z ∧ z ≤ 9223372036854775807 := by
  rcases open_ints ht he hc h with ⟨rfl, rfl⟩ | ⟨a, len, cap, zs, rfl, _, hl, hm, hz, rfl, hcell, hwf⟩
  · exact ⟨none, 0, 0, [], rfl, Reads.none_, Nat.le_refl _, Nat.zero_le _, by simp⟩
  · have hz' : zs.length = cap := by simpa using hz
    have hlight := (light_slice ht hw).1
    rw [hby] at hlight
    simp only [lits, List.length_map, List.length_take, List.length_drop] at hlight
    refine ⟨some a, len, cap, zs.take len, rfl, ⟨by simp; omega, fun hn => ⟨a, rfl, ?_, ?_⟩⟩, hl, by omega, fun z hz' => bounds_i64 (hwf z (List.mem_of_mem_take hz'))⟩
    · have := hcell 0 (by omega)
      have hb := World.block_lt_of_cell? _ _ this
      rwa [block_of_add] at hb
    · intro j u hu
      rw [List.getElem?_map, List.getElem?_take] at hu
      split at hu
      · rename_i hj
        have hjl : j < zs.length := by omega
        rw [List.getElem?_eq_getElem hjl] at hu
        rw [hcell j hjl, List.getD_eq_getElem?_getD, List.getElem?_eq_getElem hjl]
        exact hu
      · cases hu

theorem okWide_arr {t e : TypeId} {n : Nat} {r : Reach} {base : Nat} {v : Value} (ht : P.underlying t = some (.array n e)) (h : Value.okWide P w r base t v) : ∃ cs, v = .agg cs ∧ cs.size = P.cellsOf t := by
  unfold Value.okWide at h
  rw [ht] at h
  obtain ⟨cs, h1, h2, _⟩ := h
  exact ⟨cs, h1, h2⟩
theorem okWide_str {t : TypeId} {fs : Array Field} {r : Reach} {base : Nat} {v : Value} (ht : P.underlying t = some (.struct fs)) (h : Value.okWide P w r base t v) : ∃ cs, v = .agg cs ∧ cs.size = P.cellsOf t := by
  unfold Value.okWide at h
  rw [ht] at h
  obtain ⟨cs, h1, h2, _⟩ := h
  exact ⟨cs, h1, h2⟩
/-- an array of numbers -/
theorem open_array {t e : TypeId} {n : Nat} {k : IntKind} (ht : P.underlying t = some (.array n e)) (he : P.underlying e = some (.int k)) (hc : P.cellsOf e = 1) (ht1 : P.cellsOf t = n) {fuel : Nat} {cs : List Value} {x : DataW H × List MemPlace}
    (h : DataW.trod enc P w 0 (fun _ => true) held fuel t cs = some x) : cs.length = n ∧ ∀ j, j < n → ∃ z, cs[j]? = some (.int k z) ∧ (Lit.int k z).wf = true := by
  obtain ⟨xs, m, rfl, rfl, hl, hxl, hx⟩ := DataW.trod_array ht h
  rw [ht1] at hl
  refine ⟨hl, fun j hj => ?_⟩
  have hy := hx j hj
  rw [hc, Nat.mul_one, List.getElem?_eq_getElem (by omega)] at hy
  have hcj : (cs.drop j).take 1 = [cs[j]'(by omega)] := by
    rw [List.take_one, List.head?_drop, List.getElem?_eq_getElem (by omega)]; rfl
  rw [hcj] at hy
  obtain ⟨z, hz, _, hwf⟩ := DataW.trod_int he hy
  exact ⟨z, by rw [List.getElem?_eq_getElem (by omega)]; congr 1; simpa using hz, hwf⟩

/-- lists of bytes, as memory reads -/
def Rows2 (w : World) (A : Option Addr) (n : Nat) (xss : List (List UInt8)) : Prop :=
  xss.length = n ∧ (0 < n → ∃ ad, A = some ad ∧ ad.block < w.heap.size ∧ ∀ j xs, xss[j]? = some xs → ∃ B m c, w.cell? (ad.add j) = some (.slice B m c) ∧ Reads w w.heap.size 1 B m (xs.map vb) ∧ m ≤ c ∧ c ≤ reachBytes)
theorem open_rows {t e q : TypeId} (ht : P.underlying t = some (.slice e)) (he : P.underlying e = some (.slice q)) (hq : P.underlying q = some (.int .u8)) (hce : P.cellsOf e = 1) (hcq : P.cellsOf q = 1) (hbe : P.bytesOf e = 24) (hbq : P.bytesOf q = 1) {fuel : Nat} {cs : List Value} {x : DataW H × List MemPlace}
    (h : DataW.trod enc P w 0 (fun _ => true) held fuel t cs = some x) (hw : Light P t x.1) :
    ∃ (A : Option Addr) (n c : Nat) (xss : List (List UInt8)), cs = [.slice A n c] ∧ Rows2 w A n xss ∧ n ≤ c ∧ 24 * c ≤ reachBytes := by
  rcases Deep.open_slice1 ht hce h with ⟨rfl, rfl⟩ | ⟨a, len, cap, m, n, V, D, Pl, rfl, _, hl, hm, hmm, rfl, hx⟩
  · exact ⟨none, 0, 0, [], rfl, ⟨rfl, fun h => absurd h (by omega)⟩, Nat.le_refl _, Nat.zero_le _⟩
  · simp only [if_true] at hmm
    subst hmm
    have hlight := light_slice ht hw
    have hlt := hlight.1
    rw [hbe] at hlt
    simp only [List.length_map, List.length_range] at hlt
    have each : ∀ i, i < len → ∃ y : Option Addr × Nat × Nat × List UInt8, V i = .slice y.1 y.2.1 y.2.2.1 ∧ Reads w w.heap.size 1 y.1 y.2.1 (y.2.2.2.map vb) ∧ y.2.1 ≤ y.2.2.1 ∧ y.2.2.1 ≤ reachBytes := by
      intro i hi
      obtain ⟨A, k, c, xs, hcs, hr, h1, h2⟩ := open_bytes he hq hcq hbq (hx i (by omega)).2 (hlight.2 _ (.inl (List.mem_map.2 ⟨i, List.mem_range.2 hi, rfl⟩)))
      exact ⟨(A, k, c, xs), by simpa using hcs, hr, h1, h2⟩
    obtain ⟨y, hy⟩ := Go.Deep.choose_lt (α := Option Addr × Nat × Nat × List UInt8) (p := fun i y => V i = .slice y.1 y.2.1 y.2.2.1 ∧ Reads w w.heap.size 1 y.1 y.2.1 (y.2.2.2.map vb) ∧ y.2.1 ≤ y.2.2.1 ∧ y.2.2.1 ≤ reachBytes) each
    refine ⟨some a, len, m, (List.range len).map fun i => (y i).2.2.2, rfl, ⟨by simp, fun hn => ⟨a, rfl, ?_, fun j xs hj => ?_⟩⟩, hl, by omega⟩
    · have := (hx 0 (by omega)).1
      have hb := World.block_lt_of_cell? _ _ this
      rwa [block_of_add] at hb
    · rw [List.getElem?_map] at hj
      rcases Nat.lt_or_ge j len with hjl | hjl
      · rw [List.getElem?_range hjl] at hj
        simp only [Option.map_some, Option.some.injEq] at hj
        subst hj
        obtain ⟨h1, h2, h3, h4⟩ := hy j hjl
        exact ⟨_, _, _, by rw [(hx j (by omega)).1, h1], h2, h3, h4⟩
      · rw [List.getElem?_eq_none (by simpa using hjl)] at hj
        simp at hj
end

end Go.Proofs.YtcmbmimmfgfefaaGreat
