/-
  Words of 32 bits and bytes as values; the model's integer operations on them, folded back into words. No program is named.
-/
import Derived.Test.YtcmbmimmfgfefaaGreatBase
import Derived.StillTailTactics
namespace Go.Proofs.YtcmbmimmfgfefaaGreat
set_option linter.unusedVariables false
open Go.RowKit

abbrev W32 := BitVec 32
/-- a word as an integer: kept closed, so that the walk does not open it -/
def wi (x : W32) : Int := (x.toNat : Int)
/-- a byte as an integer -/
def bi (b : UInt8) : Int := (b.toNat : Int)
/-- as values -/
def vw (x : W32) : Value := .int .u32 (wi x)
def vb (b : UInt8) : Value := .int .u8 (bi b)
/-- a byte as a word, a word's lowest byte -/
def b32 (b : UInt8) : W32 := BitVec.ofNat 32 b.toNat
def w8 (x : W32) : UInt8 := UInt8.ofNat x.toNat

theorem wi_lo (x : W32) : 0 ≤ wi x := by unfold wi; omega
theorem wi_hi (x : W32) : wi x < 4294967296 := by unfold wi; have := x.isLt; omega
theorem bi_lo (b : UInt8) : 0 ≤ bi b := by unfold bi; omega
theorem bi_hi (b : UInt8) : bi b < 256 := by unfold bi; have := b.toNat_lt; omega
theorem wi_inj {x y : W32} (h : wi x = wi y) : x = y := by unfold wi at h; exact BitVec.eq_of_toNat_eq (by omega)
theorem bi_inj {x y : UInt8} (h : bi x = bi y) : x = y := by unfold bi at h; exact UInt8.toNat_inj.1 (by omega)
theorem vb_inj {x y : UInt8} (h : vb x = vb y) : x = y := by unfold vb at h; injection h with _ h; exact bi_inj h
theorem vw_inj {x y : W32} (h : vw x = vw y) : x = y := by unfold vw at h; injection h with _ h; exact wi_inj h

theorem ofInt_wi (x : W32) : BitVec.ofInt 32 (wi x) = x := by
  apply BitVec.eq_of_toNat_eq
  unfold wi
  rw [BitVec.ofInt_natCast, BitVec.toNat_ofNat, Nat.mod_eq_of_lt x.isLt]
theorem wrap_wi (x : W32) : IntKind.u32.wrap (wi x) = wi x := by
  rw [IntKind.wrap_u32']; have := wi_lo x; have := wi_hi x; omega
theorem wrap_wi' (x : W32) : wi x % 4294967296 = wi x := by
  have := wi_lo x; have := wi_hi x; omega
theorem w_add (x y : W32) : IntKind.u32.wrap (wi x + wi y) = wi (x + y) := by
  unfold wi
  rw [IntKind.wrap_u32', BitVec.toNat_add]; have := x.isLt; have := y.isLt; omega
theorem w_sub (x y : W32) : IntKind.u32.wrap (wi x - wi y) = wi (x - y) := by
  unfold wi
  rw [IntKind.wrap_u32', BitVec.toNat_sub]; have := x.isLt; have := y.isLt; omega
theorem w_and (x y : W32) : bits .and .u32 (wi x) (wi y) = wi (x &&& y) := by
  show IntKind.u32.wrap ((BitVec.ofInt 32 (wi x) &&& BitVec.ofInt 32 (wi y)).toNat : Int) = _
  rw [ofInt_wi, ofInt_wi]; exact wrap_wi _
theorem w_or (x y : W32) : bits .or .u32 (wi x) (wi y) = wi (x ||| y) := by
  show IntKind.u32.wrap ((BitVec.ofInt 32 (wi x) ||| BitVec.ofInt 32 (wi y)).toNat : Int) = _
  rw [ofInt_wi, ofInt_wi]; exact wrap_wi _
theorem w_xor (x y : W32) : bits .xor .u32 (wi x) (wi y) = wi (x ^^^ y) := by
  show IntKind.u32.wrap ((BitVec.ofInt 32 (wi x) ^^^ BitVec.ofInt 32 (wi y)).toNat : Int) = _
  rw [ofInt_wi, ofInt_wi]; exact wrap_wi _
theorem w_not (x : W32) : bits .xor .u32 (4294967295 : Int) (wi x) = wi (~~~x) := by
  have h : (4294967295 : Int) = wi (BitVec.allOnes 32) := by decide
  rw [h, w_xor, BitVec.allOnes_xor]
theorem w_shr (x : W32) (n : Nat) : wi x / 2 ^ n = wi (x >>> n) := by
  unfold wi
  rw [BitVec.toNat_ushiftRight, Nat.shiftRight_eq_div_pow]
  norm_cast
theorem w_shl (x : W32) (n : Nat) : IntKind.u32.wrap (wi x * 2 ^ n) = wi (x <<< n) := by
  unfold wi
  rw [IntKind.wrap_u32', BitVec.toNat_shiftLeft, Nat.shiftLeft_eq, Int.natCast_emod, Int.natCast_mul, Int.natCast_pow]
  rfl
theorem w_add' (x y : W32) : (wi x + wi y) % 4294967296 = wi (x + y) := by rw [← IntKind.wrap_u32', w_add]
theorem w_sub' (x y : W32) : (wi x - wi y) % 4294967296 = wi (x - y) := by rw [← IntKind.wrap_u32', w_sub]
theorem w_shl' (x : W32) (n : Nat) : (wi x * 2 ^ n) % 4294967296 = wi (x <<< n) := by rw [← IntKind.wrap_u32', w_shl]
-- shifts by literals, as the walk leaves them
theorem w_shl8 (x : W32) : (wi x * (256 : Int)) % 4294967296 = wi (x <<< 8) := w_shl' x 8
theorem w_shl8' (x : W32) : IntKind.u32.wrap (wi x * (256 : Int)) = wi (x <<< 8) := w_shl x 8
theorem w_shr3 (x : W32) : wi x / (8 : Int) = wi (x >>> 3) := w_shr x 3
theorem w_shr10 (x : W32) : wi x / (1024 : Int) = wi (x >>> 10) := w_shr x 10
theorem b32_wrap (b : UInt8) : IntKind.u32.wrap (bi b) = wi (b32 b) := by
  rw [IntKind.wrap_u32']; unfold wi b32 bi; rw [BitVec.toNat_ofNat]; have := b.toNat_lt; omega
theorem b32_wrap' (b : UInt8) : bi b % 4294967296 = wi (b32 b) := by rw [← IntKind.wrap_u32', b32_wrap]
theorem w8_wrap (x : W32) : IntKind.u8.wrap (wi x) = bi (w8 x) := by
  rw [IntKind.wrap_u8']; unfold wi w8 bi; rw [UInt8.toNat_ofNat']; omega
theorem w8_wrap' (x : W32) : wi x % 256 = bi (w8 x) := by rw [← IntKind.wrap_u8', w8_wrap]
theorem bi_ne (x y : UInt8) : (bi x != bi y) = (x != y) := by
  by_cases h : x = y
  · subst h; simp
  · have : ¬ bi x = bi y := fun e => h (bi_inj e)
    rw [bne_iff_ne.2 h, bne_iff_ne.2 this]
theorem bi_eq (x y : UInt8) : (bi x == bi y) = (x == y) := by
  by_cases h : x = y
  · subst h; simp
  · have : ¬ bi x = bi y := fun e => h (bi_inj e)
    rw [beq_eq_false_iff_ne.2 h, beq_eq_false_iff_ne.2 this]

theorem rot_and (n : Nat) (h : 0 < n) (h' : n < 32) : bits .and .u64 (IntKind.u64.wrap (-(n : Int))) 31 = ((32 - n : Nat) : Int) := by
  have e1 : IntKind.u64.wrap (-(n : Int)) = ((18446744073709551616 - n : Nat) : Int) := by
    rw [IntKind.wrap_u64]; omega
  rw [e1, show (31 : Int) = ((31 : Nat) : Int) from rfl, u64_and_nat _ _ (by omega) (by omega)]
  congr 1
  rw [show (31 : Nat) = 2 ^ 5 - 1 from rfl, Nat.and_two_pow_sub_one_eq_mod]
  omega
theorem ror_or' (x : W32) (n : Nat) (h' : n < 32) : (x >>> n) ||| (x <<< (32 - n)) = x.rotateRight n := by
  rw [BitVec.rotateRight_def, Nat.mod_eq_of_lt h']
theorem sub_sub_ (n : Nat) (h' : n < 32) : 32 - (32 - n) = n := by omega
theorem ror_or (x : W32) (n : Nat) (h' : n < 32) : (x <<< (32 - n)) ||| (x >>> n) = x.rotateRight n := by
  rw [BitVec.rotateRight_def, Nat.mod_eq_of_lt h', BitVec.or_comm]

theorem ret_int {k : IntKind} {a b : Int} (h : a = b) : Ending.returned (.int k a) = .returned (.int k b) := by rw [h]
theorem ret_bool {a b : Bool} (h : a = b) : Ending.returned (.bool a) = .returned (.bool b) := by rw [h]
theorem getElem?_vb {xs : List UInt8} {k : Nat} {u : Value} (h : (xs.map vb)[k]? = some u) : ∃ (hk : k < xs.length), u = .int .u8 (bi xs[k]) := by
  rw [List.getElem?_map] at h
  rcases Nat.lt_or_ge k xs.length with hk | hk
  · refine ⟨hk, ?_⟩
    rw [List.getElem?_eq_getElem hk] at h
    simp only [Option.map_some, Option.some.injEq] at h
    rw [← h]; rfl
  · rw [List.getElem?_eq_none hk] at h
    simp at h

/-- a row of n cells, cell j holding f j -/
def rng (n : Nat) (f : Nat → Value) : Array Value := ((List.range n).map f).toArray
theorem rng_size (n : Nat) (f : Nat → Value) : (rng n f).size = n := by simp [rng]
theorem rng_get (n : Nat) (f : Nat → Value) (j : Nat) (h : j < n) : (rng n f)[j]? = some (f j) := by
  simp [rng, List.getElem?_range h]
theorem rng_ext {n : Nat} {f g : Nat → Value} (h : ∀ j, j < n → f j = g j) : rng n f = rng n g := by
  unfold rng; congr 1; exact List.map_congr_left fun j hj => h j (List.mem_range.1 hj)
theorem rng_of {n : Nat} {f : Nat → Value} {a : Array Value} (hs : a.size = n) (h : ∀ j, j < n → a[j]? = some (f j)) : a = rng n f := by
  apply Array.ext_getElem?
  intro i
  rcases Nat.lt_or_ge i n with hi | hi
  · rw [h i hi, rng_get n f i hi]
  · rw [Array.getElem?_eq_none (by omega), Array.getElem?_eq_none (by rw [rng_size]; omega)]
theorem rng_set (n : Nat) (f : Nat → Value) (t : Nat) (v : Value) : (rng n f).setIfInBounds t v = rng n (fun j => if j = t then v else f j) := by
  refine rng_of (by simp [rng]) fun j hj => ?_
  rw [Array.getElem?_setIfInBounds]
  by_cases e : t = j
  · subst e; rw [if_pos rfl, if_pos (by rw [rng_size]; exact hj), if_pos rfl]
  · rw [if_neg e, rng_get n f j hj, if_neg (fun h => e h.symm)]

/-- the kit's law on a region of reads and still calls ahead of a tail, its world spelled as a draw -/
theorem wp_region_still_drew {P : Program} {id : Nat} {Q : Exit → Act → World → Prop} {a : Act} {w : World} {l : List Oper} (n : Nat) (hm : P.follows .mixedOrders = true) (hB : Region.lexTailB .any l.toArray n = true)
    (h : wpStill P l.toArray w.drew (fun a' => wpList P l.toArray Q (l.drop n) a' w.drew) (l.take n) a) : (Code.region id l.toArray true).wp P Q a w :=
  wp_region_still_tail n hm hB h

theorem u32_signed : IntKind.u32.signed = false := rfl
theorem u32_max : IntKind.u32.max = 4294967295 := rfl
theorem unary_wnot (x : W32) : Op.unary .xor (.int .u32 (wi x)) = pure (.int .u32 (wi (~~~x))) := by
  have h := w_not x
  simp only [Op.unary, IntKind.signed, IntKind.max, intBits_xor]
  rw [← h]; rfl

/-- an array value's k-th element, one cell an element -/
theorem run_index_arr {P : Program} {t e : TypeId} {n : Nat} (ht : P.underlying t = some (.array n e)) (hs : (P.info? e).map (·.size) = some 1) (hagg : ∀ w, (isAgg e).run P w = .ok false w) (cs : Array Value) (k : Nat) (v : Value) (hk : k < n) (hv : cs[k]? = some v) (w : World) :
    (Instr.index t (.agg cs) (.int .i64 (k : Int))).run P w = .ok v w := by
  obtain ⟨i, hi, hsz⟩ : ∃ i, P.info? e = some i ∧ i.size = 1 := by
    cases hh : P.info? e with
    | none => rw [hh] at hs; cases hs
    | some i => rw [hh] at hs; exact ⟨i, rfl, by simpa using hs⟩
  simp [Instr.index, run_underlying ht, sizeOf, typeInfo, hi, hsz, part, hagg, hv, asIntOf, hk]

end Go.Proofs.YtcmbmimmfgfefaaGreat
