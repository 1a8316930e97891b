/-
  Contracts of math/bits.Mul64, sha.within, sha.root, sha.primes, sha.roots, sha.start.
-/
import Derived.Test.YtcmbmimmfgfefaaGreatRows
import Derived.Test.YtcmbmimmfgfefaaGreatShaMath
import Derived.Lib.Mul64
import Derived.Laws.Bits64b
import Derived.Laws.Externs
import Derived.Shelf.Spec.BitsCarry
namespace Go.Proofs.YtcmbmimmfgfefaaGreat
set_option linter.unusedVariables false
open Go.RowKit Go.Lib

theorem maskN (a : Nat) (ha : a < 18446744073709551616) : bits .and .u64 (a : Int) 4294967295 = ((a % 4294967296 : Nat) : Int) := by
  have h := bits_and_u64_nat a 4294967295 ha (by omega)
  have e : a &&& 4294967295 = a % 4294967296 := Nat.and_two_pow_sub_one_eq_mod a 32
  rw [e] at h
  exact h
theorem divN (a : Nat) : (a : Int) / 4294967296 = ((a / 4294967296 : Nat) : Int) := by omega
theorem mulN (a b : Nat) : (a : Int) * (b : Int) = ((a * b : Nat) : Int) := (Int.natCast_mul a b).symm
theorem addN (a b : Nat) : (a : Int) + (b : Int) = ((a + b : Nat) : Int) := (Int.natCast_add a b).symm
theorem wrapN (a : Nat) (ha : a < 18446744073709551616) : IntKind.u64.wrap (a : Int) = (a : Int) := by rw [IntKind.wrap_u64]; omega
theorem wrapM (a : Nat) : IntKind.u64.wrap (a : Int) = ((a % 18446744073709551616 : Nat) : Int) := by rw [IntKind.wrap_u64]; omega

set_option maxHeartbeats 1000000 in
theorem mul64_any (x y : Nat) (hx : x < 18446744073709551616) (hy : y < 18446744073709551616) (w : World) :
    Calls Tryz.prog 93 #[.int .u64 x, .int .u64 y] w fun e w' => e = .returned (.tuple #[.int .u64 ((x * y / 18446744073709551616 : Nat) : Int), .int .u64 ((x * y % 18446744073709551616 : Nat) : Int)]) ∧ w = w' := by
  obtain ⟨bd, bt, bw, hhi⟩ := Lib.mul64_hi x y hx hy
  have ba := Lib.half_mul_le (a := x / 4294967296) (b := y / 4294967296) (by omega) (by omega)
  have bb := Lib.half_mul_le (a := x / 4294967296) (b := y % 4294967296) (by omega) (by omega)
  have bc := Lib.half_mul_le (a := x % 4294967296) (b := y / 4294967296) (by omega) (by omega)
  have ba' : x / 4294967296 * (y / 4294967296) < 18446744073709551616 := by omega
  have bb' : x / 4294967296 * (y % 4294967296) < 18446744073709551616 := by omega
  have bc' : x % 4294967296 * (y / 4294967296) < 18446744073709551616 := by omega
  have bh1 : x / 4294967296 * (y / 4294967296) + (x / 4294967296 * (y % 4294967296) + x % 4294967296 * (y % 4294967296) / 4294967296) / 4294967296 < 18446744073709551616 := by omega
  have bh : x / 4294967296 * (y / 4294967296) + (x / 4294967296 * (y % 4294967296) + x % 4294967296 * (y % 4294967296) / 4294967296) / 4294967296 + ((x / 4294967296 * (y % 4294967296) + x % 4294967296 * (y % 4294967296) / 4294967296) % 4294967296 + x % 4294967296 * (y / 4294967296)) / 4294967296 < 18446744073709551616 := by omega
  go_enter Tryz.func93, Tryz.ntmps93
  go_wp2
  simp only [maskN x hx, maskN y hy, divN, mulN, addN, wrapN _ bd, wrapN _ bb', wrapN _ bt, maskN _ bt, wrapN _ bc', wrapN _ bw, wrapN _ ba', wrapN _ bh1, wrapN _ bh, wrapM (x * y)]
  rw [hhi]
  go_ret2
  exact ⟨rfl, rfl⟩

theorem add64_run (x y : Nat) (w : World) :
    (callFunc 94 #[.int .u64 x, .int .u64 y, .int .u64 0]).run Tryz.prog w =
      .ok (.value (.tuple #[.int .u64 (((x + y) % 18446744073709551616 : Nat) : Int), .int .u64 (((x + y) / 18446744073709551616 : Nat) : Int)])) w := by
  rw [run_callFunc_extern Tryz.func94 (by kernel_rfl) (by kernel_rfl) (by kernel_rfl) (e := add64Entry) (by kernel_rfl)]
  have h := run_add64 (P := Tryz.prog) x y 0 (by omega) (by omega) (by omega) (by omega) w
  rw [h]
  simp only [Result.andThen]
  congr 5 <;> omega

theorem mul64_as (x y h l : Nat) (hx : x < 18446744073709551616) (hy : y < 18446744073709551616) (eh : x * y / 18446744073709551616 = h) (el : x * y % 18446744073709551616 = l) (w : World) :
    Calls Tryz.prog 93 #[.int .u64 x, .int .u64 y] w fun e w' => e = .returned (.tuple #[.int .u64 (h : Int), .int .u64 (l : Int)]) ∧ w = w' := by
  subst eh el; exact mul64_any x y hx hy w
theorem add64_as (x y s c : Nat) (es : (x + y) % 18446744073709551616 = s) (ec : (x + y) / 18446744073709551616 = c) (w : World) :
    (callFunc 94 #[.int .u64 x, .int .u64 y, .int .u64 0]).run Tryz.prog w = .ok (.value (.tuple #[.int .u64 (s : Int), .int .u64 (c : Int)])) w := by
  subst es ec; exact add64_run x y w

def less128 (h l p : Nat) : Bool := decide (h < p ∨ (h = p ∧ l = 0))
def within2 (x p : Nat) : Bool := less128 (x * x / 18446744073709551616) (x * x % 18446744073709551616) p
def within3 (x p : Nat) : Bool :=
  decide ((x * x / 18446744073709551616 * x % 18446744073709551616 + x * x % 18446744073709551616 * x / 18446744073709551616) / 18446744073709551616 = 0) &&
    less128 ((x * x / 18446744073709551616 * x % 18446744073709551616 + x * x % 18446744073709551616 * x / 18446744073709551616) % 18446744073709551616)
      (x * x % 18446744073709551616 * x % 18446744073709551616) (p * 4294967296 % 18446744073709551616)

set_option maxHeartbeats 400000 in
theorem within2_any (x p : Nat) (hx : x < 18446744073709551616) (w : World) :
    Calls Tryz.prog 88 #[.int .u64 x, .int .u64 p, .int .i64 2] w fun e w' => e = .returned (.bool (within2 x p)) ∧ w = w' := by
  unfold within2
  obtain ⟨h, eh⟩ : ∃ h, x * x / 18446744073709551616 = h := ⟨_, rfl⟩
  obtain ⟨l, el⟩ : ∃ l, x * x % 18446744073709551616 = l := ⟨_, rfl⟩
  rw [eh, el]
  have hm := mul64_as x x h l hx hx eh el
  clear eh el
  have HM := Lib.hid hm
  clear hm
  go_enter Tryz.func88, Tryz.ntmps88
  go_wp2_with (go_at_call 93; refine (HM.out _).mono ?_; rintro _ _ ⟨rfl, rfl⟩)
  all_goals go_ret
  · exact ⟨ret_bool (by unfold less128; rw [Bool.eq_iff_iff]; simp; omega), rfl⟩
  · exact ⟨ret_bool (by unfold less128; rw [Bool.eq_iff_iff]; simp; omega), rfl⟩
  · exact ⟨ret_bool (by unfold less128; rw [Bool.eq_iff_iff]; simp; omega), rfl⟩

set_option maxHeartbeats 400000 in
theorem within3_any (x p : Nat) (hx : x < 18446744073709551616) (hp : p < 18446744073709551616) (w : World) :
    Calls Tryz.prog 88 #[.int .u64 x, .int .u64 p, .int .i64 3] w fun e w' => e = .returned (.bool (within3 x p)) ∧ w = w' := by
  unfold within3
  obtain ⟨h, eh⟩ : ∃ h, x * x / 18446744073709551616 = h := ⟨_, rfl⟩
  obtain ⟨l, el⟩ : ∃ l, x * x % 18446744073709551616 = l := ⟨_, rfl⟩
  rw [eh, el]
  have hl : l < 18446744073709551616 := by rw [← el]; exact Nat.mod_lt _ (by omega)
  obtain ⟨h2, eh2⟩ : ∃ h2, l * x / 18446744073709551616 = h2 := ⟨_, rfl⟩
  obtain ⟨l2, el2⟩ : ∃ l2, l * x % 18446744073709551616 = l2 := ⟨_, rfl⟩
  obtain ⟨m, em⟩ : ∃ m, h * x % 18446744073709551616 = m := ⟨_, rfl⟩
  obtain ⟨q, eq⟩ : ∃ q, p * 4294967296 % 18446744073709551616 = q := ⟨_, rfl⟩
  rw [eh2, el2, em, eq]
  obtain ⟨s, es⟩ : ∃ s, (m + h2) % 18446744073709551616 = s := ⟨_, rfl⟩
  obtain ⟨c, ec⟩ : ∃ c, (m + h2) / 18446744073709551616 = c := ⟨_, rfl⟩
  rw [es, ec]
  have HM := Lib.hid (mul64_as x x h l hx hx eh el)
  have HM2 := Lib.hid (mul64_as l x h2 l2 hl hx eh2 el2)
  have hadd := add64_as m h2 s c es ec
  have hmm : IntKind.u64.wrap ((h : Int) * (x : Int)) = (m : Int) := by rw [IntKind.wrap_u64, ← em, Int.natCast_emod, Int.natCast_mul]; rfl
  have hqq : IntKind.u64.wrap ((p : Int) * 4294967296) = (q : Int) := by rw [IntKind.wrap_u64, ← eq]; omega
  have hmm' : ((h : Int) * (x : Int)) % 18446744073709551616 = (m : Int) := by rw [← em, Int.natCast_emod, Int.natCast_mul]; rfl
  have hqq' : ((p : Int) * 4294967296) % 18446744073709551616 = (q : Int) := by rw [← eq]; omega
  clear eh el eh2 el2 em eq es ec
  go_enter Tryz.func88, Tryz.ntmps88
  go_wp2_with fail
  refine (HM.out _).mono ?_
  rintro _ _ ⟨rfl, rfl⟩
  go_wp2_with fail
  refine (HM2.out _).mono ?_
  rintro _ _ ⟨rfl, rfl⟩
  go_wp2_with fail
  all_goals go_ret
  all_goals exact ⟨ret_bool (by unfold less128; rw [Bool.eq_iff_iff]; simp; omega), rfl⟩

/-- the root's bits, from the one at 'b' on, 'n' of them -/
def rootGo (f : Nat → Bool) : Nat → Nat → Nat → Nat
  | 0, _, x => x
  | n + 1, b, x => rootGo f n (b / 2) (if f (x ||| b) then x ||| b else x)
def rootF (f : Nat → Bool) : Nat := rootGo f 37 68719476736 0 % 4294967296

theorem or_lt37 {x b : Nat} (hx : x < 137438953472) (hb : b < 137438953472) : x ||| b < 137438953472 := Nat.or_lt_two_pow (n := 37) hx hb

set_option maxHeartbeats 400000 in
theorem root_any (f : Nat → Bool) (p : Nat) (pw : Int) (hf : ∀ (x : Nat) (W : World), x < 137438953472 → Calls Tryz.prog 88 #[.int .u64 (x : Int), .int .u64 (p : Int), .int .i64 pw] W fun e w' => e = .returned (.bool (f x)) ∧ W = w') (w : World) :
    Calls Tryz.prog 82 #[.int .u64 (p : Int), .int .i64 pw] w fun e w' => e = .returned (.int .u32 (rootF f : Nat)) ∧ w = w' := by
  have HF := Lib.hid hf
  clear hf
  go_enter Tryz.func82, Tryz.ntmps82
  go_wp2
  go_loop [5, 6] (fun vx vb => ∃ (n x b : Nat), n ≤ 37 ∧ b = 2 ^ n / 2 ∧ x < 137438953472 ∧ vx = .int .u64 (x : Int) ∧ vb = .int .u64 (b : Int) ∧ rootGo f n b x = rootGo f 37 68719476736 0) (fun _ vb => (intOf vb).toNat)
  case atStart => exact ⟨37, 0, 68719476736, by omega, by decide, by omega, rfl, rfl, rfl⟩
  case round =>
    obtain ⟨n, x, b, hn, hb, hx, rfl, rfl, hr⟩ := hrel
    have hb37 : b < 137438953472 := by
      rw [hb]
      have h1 : 2 ^ n ≤ 2 ^ 37 := Nat.pow_le_pow_right (by omega) hn
      have h2 : 2 ^ n / 2 ≤ 2 ^ 37 / 2 := Nat.div_le_div_right h1
      omega
    by_cases hb0 : b = 0
    · subst hb0
      have HR := Lib.hid (And.intro hb hr)
      clear hb hr
      go_wp2
      go_ret
      obtain ⟨hb, hr⟩ := HR.out
      have hn0 : n = 0 := by
        rcases Nat.eq_zero_or_pos n with h | h
        · exact h
        · obtain ⟨m, rfl⟩ : ∃ m, n = m + 1 := ⟨n - 1, by omega⟩
          rw [Nat.pow_succ, Nat.mul_div_cancel _ (by omega)] at hb
          have := Nat.two_pow_pos m
          omega
      subst hn0
      rw [rootGo] at hr
      exact ⟨ret_int (by unfold rootF; rw [← hr]; first | (rw [IntKind.wrap_u32']; omega) | omega), rfl⟩
    · obtain ⟨m, rfl⟩ : ∃ m, n = m + 1 := by
        rcases Nat.eq_zero_or_pos n with h | h
        · subst h; exact absurd hb hb0
        · exact ⟨n - 1, by omega⟩
      have hbm : b / 2 = 2 ^ m / 2 := by
        rw [hb, Nat.pow_succ, Nat.mul_div_cancel _ (by omega)]
      rw [rootGo] at hr
      have hxb := or_lt37 hx hb37
      have hor : bits .or .u64 (x : Int) (b : Int) = ((x ||| b : Nat) : Int) := u64_or_nat x b (by omega) (by omega)
      have hbp : 0 < b := by omega
      have hlt : b / 2 < b := by omega
      by_cases hfx : f (x ||| b) = true
      · rw [if_pos hfx] at hr
        have HR := Lib.hid (And.intro hb (And.intro hr hbm))
        clear hb hr hbm
        go_wp2_with (go_at_call 88; refine (HF.out _ _ hxb).mono ?_; rintro _ _ ⟨rfl, rfl⟩)
        go_round
        case rel => exact ⟨m, x ||| b, b / 2, by omega, HR.out.2.2, hxb, rfl, by go_num, HR.out.2.1⟩
        case measure => simp [intOf]; omega
      · rw [if_neg hfx] at hr
        have hff : f (x ||| b) = false := by simpa using hfx
        clear hfx
        have HR := Lib.hid (And.intro hb (And.intro hr hbm))
        clear hb hr hbm
        go_wp2_with (go_at_call 88; refine (HF.out _ _ hxb).mono ?_; rintro _ _ ⟨rfl, rfl⟩)
        go_round
        case rel => exact ⟨m, x, b / 2, by omega, HR.out.2.2, hx, rfl, by go_num, HR.out.2.1⟩
        case measure => simp [intOf]; omega

end Go.Proofs.YtcmbmimmfgfefaaGreat
