/-
  Contracts of sha.primes, sha.roots, sha.start.
-/
import Derived.Test.YtcmbmimmfgfefaaGreatRoots
import Derived.Deep.LoopGhost
namespace Go.Proofs.YtcmbmimmfgfefaaGreat
set_option linter.unusedVariables false
open Go.RowKit Go.Lib

theorem mod2_cast (k q : Nat) : (((k + 2) % q : Nat) : Int) = ((k : Int) + 2) % (q : Int) := by rw [Int.natCast_emod]; rfl
def vu64 (n : Nat) : Value := .int .u64 (n : Int)
theorem u64_info : (Tryz.prog.info? 119).map (fun i => (i.zero, i.size, i.bytes)) = some (some (.int .u64 0), 1, 8) := by kernel_rfl

/-- the primes below k + 2 -/
def pstep (out : List Nat) (n : Nat) : List Nat := if out.any (fun p => n % p == 0) then out else out ++ [n]
def pl : Nat → List Nat
  | 0 => []
  | k + 1 => pstep (pl k) (k + 2)
theorem pstep_len (out : List Nat) (n : Nat) : out.length ≤ (pstep out n).length := by unfold pstep; split <;> simp
theorem pl_mono {a b : Nat} (h : a ≤ b) : (pl a).length ≤ (pl b).length := by
  induction b with
  | zero => rw [show a = 0 by omega]; exact Nat.le_refl _
  | succ b ih =>
    rcases Nat.lt_or_ge a (b + 1) with h1 | h1
    · exact Nat.le_trans (ih (by omega)) (pstep_len _ _)
    · rw [show a = b + 1 by omega]; exact Nat.le_refl _
theorem pl_le (k : Nat) : (pl k).length ≤ k := by
  induction k with
  | zero => simp [pl]
  | succ k ih =>
    simp only [pl, pstep]
    split
    · omega
    · rw [List.length_append]; simp; omega
theorem pl_bd (k : Nat) : ∀ p ∈ pl k, 2 ≤ p ∧ p < k + 2 := by
  induction k with
  | zero => intro p hp; simp [pl] at hp
  | succ k ih =>
    intro p hp
    simp only [pl, pstep] at hp
    split at hp
    · have := ih p hp; omega
    · rcases List.mem_append.1 hp with h | h
      · have := ih p h; omega
      · simp at h; omega

theorem own_slice {w : World} {B e size n : Nat} {v : Value} {xs : List Value} (h : w.ownsRow B e size v n xs) : ∃ A c, v = .slice A n c ∧ n ≤ c ∧ c ≤ maxLen := by
  rcases h.2 with ⟨rfl, rfl⟩ | ⟨g, cap, cur, rfl, _, _, h1, h2, _⟩
  · exact ⟨none, 0, rfl, Nat.le_refl _, by unfold maxLen; omega⟩
  · exact ⟨_, cap, rfl, h1, h2⟩

set_option maxHeartbeats 400000 in
theorem primes_any (many K : Nat) (hK : (pl K).length = many) (hlt : ∀ k, k < K → (pl k).length < many) (hsm : K < 1000) (w : World) :
    Calls Tryz.prog 81 #[.int .i64 (many : Int)] w fun e w' => ∃ v, e = .returned v ∧ w'.ownsRow w.heap.size 119 1 v many ((pl K).map vu64) ∧ Below w.heap.size w w' := by
  have hm := pl_le K
  rw [hK] at hm
  have HL := Lib.hid (And.intro hK hlt)
  clear hK hlt
  go_enter Tryz.func81, Tryz.ntmps81
  go_wp2
  go_step3
  go_wp2
  go_step3
  go_wp2
  go_loopg [3, 4] K (fun g v n wr => ∃ k, k + g = K ∧ n = .int .u64 ((k : Int) + 2) ∧ wr.ownsRow w.heap.size 119 1 v (pl k).length ((pl k).map vu64) ∧ Below w.heap.size w wr)
  case atStart => exact ⟨0, by omega, rfl, ⟨by simp [pl], .inl ⟨rfl, by simp [pl]⟩⟩, Below.refl _ _⟩
  case round =>
    obtain ⟨k, hk, rfl, hown, hbel⟩ := hrel
    obtain ⟨A, c, rfl, hc1, hc2⟩ := own_slice hown
    have hl := pl_le k
    unfold maxLen at hc2
    have HK := Lib.hid hk
    have hkK : k ≤ K := by omega
    clear hk
    by_cases hlt : (pl k).length < many
    · have hkg : 0 < gk := by
        have := HK.out
        rcases Nat.eq_zero_or_pos gk with h | h
        · have hkk : k = K := by omega
          rw [hkk, HL.out.1] at hlt; omega
        · exact h
      have hrd := Reads.of_own hown
      have hpb := pl_bd k
      generalize hps : pl k = ps at *
      have HPS := Lib.hid hps
      clear hps
      have HPB := Lib.hid hpb
      clear hpb
      go_wp2
      obtain ⟨wo, rfl⟩ : ∃ wo : World, wo = wr := ⟨_, rfl⟩
      obtain ⟨gO, hgO⟩ : ∃ g, g = gk := ⟨_, rfl⟩
      have HGO := Lib.hid hgO
      clear hgO
      go_loopg [15] ps.length (fun g i wr' => ∃ j, j + g = ps.length ∧ i = .int .i64 (j : Int) ∧ Hid (∀ q, q < j → (k + 2) % ps.getD q 0 ≠ 0) ∧ wo = wr')
      case atStart => exact ⟨0, by omega, rfl, by intro q hq; omega, rfl⟩
      case round =>
        obtain ⟨j, hj, rfl, HJ, rfl⟩ := hrel
        have HJJ := Lib.hid hj
        have hjl : j ≤ ps.length := by omega
        clear hj
        by_cases hjlt : j < ps.length
        · obtain ⟨ad, u, hAd, _, hx, hcx⟩ := hrd.at_ (k := j) hjlt
          obtain ⟨q, hq, rfl⟩ : ∃ q, ps.getD j 0 = q ∧ u = .int .u64 (q : Int) := by
            rw [List.getElem?_map, List.getElem?_eq_getElem hjlt] at hx
            refine ⟨ps[j], by rw [List.getD_eq_getElem?_getD, List.getElem?_eq_getElem hjlt]; rfl, ?_⟩
            simpa [vu64] using hx.symm
          have hqb : 2 ≤ q ∧ q < k + 2 := by
            refine HPB.out q ?_
            rw [← hq, List.getD_eq_getElem?_getD, List.getElem?_eq_getElem hjlt]
            exact List.getElem_mem hjlt
          have hq2 := hqb.1
          have hqk := hqb.2
          subst hAd
          have HQ := Lib.hid hq
          clear hq hx hqb
          by_cases hdv : (k + 2) % q = 0
          · have hz : ((((k : Int) + 2) % (q : Int)) == 0) = true := by
              rw [beq_iff_eq, ← mod2_cast, hdv]; rfl
            have HDV := Lib.hid hdv
            clear hdv
            go_wp2
            go_roundg (gO - 1)
            case measure => have := HGO.out; omega
            case rel =>
              have hg := HGO.out
              have hk := HK.out
              have hps := HPS.out
              have hany : ps.any (fun p => (k + 2) % p == 0) = true := by
                rw [List.any_eq_true]
                refine ⟨q, ?_, by rw [HDV.out]; rfl⟩
                rw [← HQ.out, List.getD_eq_getElem?_getD, List.getElem?_eq_getElem hjlt]
                exact List.getElem_mem hjlt
              have hpl : pl (k + 1) = ps := by rw [pl, pstep, hps, if_pos hany]
              exact ⟨k + 1, by omega, by go_num, by rw [hpl]; exact hown, hbel⟩
          · have hz : ((((k : Int) + 2) % (q : Int)) == 0) = false := by
              rw [beq_eq_false_iff_ne, ← mod2_cast]; omega
            have HDV := Lib.hid hdv
            clear hdv
            go_wp2
            go_roundg (gk - 1)
            case measure => have := HJJ.out; omega
            case rel =>
              have hj := HJJ.out
              refine ⟨j + 1, by omega, by go_num, ?_, rfl⟩
              intro r hr
              rcases Nat.lt_or_ge r j with h | h
              · exact HJ.out r h
              · rw [show r = j by omega, HQ.out]; exact HDV.out
        · obtain rfl : j = ps.length := by omega
          obtain ⟨i0, hi0, hz0, hz1, hz2⟩ := info_parts u64_info
          go_wp2_with (at_builtin; go_must (refine wpList_append_own _ rfl (.tmp 24) (.tmp 26) _ rfl w.heap.size 119 i0 _ 1 8 Tryz.underlying128 hi0 hz0 hz1 hz2 rfl (by omega) _ _ _ rfl (hown.alloc _) ⟨wo.heap.size, 0, none⟩ 1 1 [.int .u64 ((k : Int) + 2)] rfl rfl ?c1 ?c2 ?c3 ?c4 ?c5 ?_))
          case c1 => exact cell_one_new _ _ _
          case c2 => intro u hu; simp at hu; subst hu; rfl
          case c3 => unfold maxLen; omega
          case c4 => omega
          case c5 => have := hbel.size; simp; omega
          intro v1 w1 hown1 hg1 _
          go_wp2
          go_roundg (gO - 1)
          case measure => have := HGO.out; omega
          case rel =>
            have hg := HGO.out
            have hk := HK.out
            have hps := HPS.out
            have hany : ps.any (fun p => (k + 2) % p == 0) = false := by
              rw [List.any_eq_false]
              intro q hq h
              obtain ⟨r, hr, rfl⟩ := List.getElem_of_mem hq
              have h2 := HJ.out r hr
              rw [List.getD_eq_getElem?_getD, List.getElem?_eq_getElem hr] at h2
              exact h2 (by simpa using h)
            have hpl : pl (k + 1) = ps ++ [k + 2] := by rw [pl, pstep, hps, if_neg (by rw [hany]; simp)]
            refine ⟨k + 1, by omega, by go_num, ?_, (hbel.alloc hbel.size _).grown hg1 (by have := hbel.size; simp; omega) ?_⟩
            · rw [hpl, List.map_append, List.length_append]
              exact hown1
            · intro b hb
              rcases hown.2 with ⟨h1, _⟩ | ⟨g, cap, cur, h1, h2, _⟩
              · injection h1 with h1; subst h1; simp [Value.ownBlock] at hb
              · injection h1 with h1; subst h1; simp [Value.ownBlock] at hb; omega
    · have hkk : k = K := by
        rcases Nat.lt_or_ge k K with h | h
        · exact absurd (HL.out.2 k h) hlt
        · omega
      have HKK := Lib.hid hkk
      clear hkk
      go_wp2
      try rw [Exit.noGoto_ret]
      go_ret
      obtain rfl := HKK.out
      exact ⟨_, rfl, by rw [← HL.out.1]; exact hown, hbel⟩

end Go.Proofs.YtcmbmimmfgfefaaGreat
