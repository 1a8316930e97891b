/- Parts of the proof, in one text: VaultU, RowsC. -/
import Derived.Test.YtcpngeiahgoacaaGreatZ21
import Derived.Test.YtcpngeiahgoacaaGreatZ14
import Derived.Test.YtcpngeiahgoacaaGreatZ19
import Derived.Test.YtcpngeiahgoacaaGreatZ10

/- Contract of the laws' works: the chapter's vault. -/
namespace Go.Proofs.YtcpngeiahgoacaaGreat
set_option linter.unusedVariables false
open Go.RowKit Go.Maps

attribute [local irreducible] wpList wpCalm
theorem lo_at {l : List Nat} {s k x : Nat} (hn : l.Nodup) (hk : l[k]? = some x) (hs : l[s]? = some x) : s = k :=
  (List.getElem?_inj (List.getElem?_eq_some_iff.1 hs).1 hn).1 (hs.trans hk.symm)
theorem own_keepV {W W' : World} {V : VLoc} {B : Nat} {v : Value} {xs : List UInt8} (h : OwnB W B v xs) (ho : Only V.has W W') (hB : ∀ b, V.has b → b < B) : OwnB W' B v xs := h.keep fun b hb => ho.block b (h.lt hb) fun hv => by have := h.ge hb; have := hB _ hv; omega
/-- a vault under way -/
structure WkSt (w0 : World) (V : VLoc) (N : Nat → Prop) (m : VM) (a : Nat) (W : World) : Prop where
  vat : VAt W V N m
  book : ∃ L a', BookAt W V.k L a' ∧ a' ≤ a ∧ InBook L (leavesV m)
  only : Only V.has w0 W
theorem WkSt.below {w0 W W' : World} {V : VLoc} {N : Nat → Prop} {m : VM} {a : Nat} (h : WkSt w0 V N m a W) (hb : Below W.heap.size W W') : WkSt w0 V N m a W' := by
  obtain ⟨L, a', h1, h2, h3⟩ := h.book
  exact ⟨h.vat.below hb, ⟨L, a', h1.below hb, h2, h3⟩, h.only.trans (Only.of_below hb)⟩
theorem WkSt.of_done {w0 W W' : World} {V : VLoc} {N : Nat → Prop} {m : VM} {a q asked : Nat} {L : List (List UInt8)} (h : Only V.has w0 W) (hd : VDone W W' V N m L asked q) (hq : asked + q ≤ a) : WkSt w0 V N m a W' := by
  obtain ⟨L', a', h1, h2, h3, h4⟩ := hd.book
  exact ⟨hd.vat, ⟨L', a', h1, by omega, h4⟩, h.trans hd.only⟩
theorem WkSt.does_ {w0 W : World} {V : VLoc} {N : Nat → Prop} {m : VM} {a : Nat} (h : WkSt w0 V N m a W) (hN : ∀ b, N b → b < w0.heap.size) (ha : a ≤ 700000)
    (x : Wish) (A : Option Addr) (n c : Nat) (A' : Option Addr) (n' c' : Nat) (hx : WishIn W W.heap.size x A n c A' n' c') (hap : ∀ a, 0 < n → A = some a → w0.heap.size ≤ a.block)
    (y : Ans) (D : Option Addr) (k d : Nat) (hy : Reads W W.heap.size 1 D k (y.data.map vb)) (hyp : ∀ a, 0 < k → D = some a → ¬ V.has a.block) (hk : k ≤ 1000000)
    (hres : ((doV m x).2.2 = 0 ∧ (doV m x).2.1.err = y.err ∧ (doV m x).2.1.data = y.data ∧ (doV m x).2.1.epoch = y.epoch)) (m' : VM) (hm' : (doV m x).1 = m') (args : Array Value) (hargs : args = #[.pointer (some ⟨V.g, 0, none⟩), .agg (wCells x A n c A' n' c'), .agg (aC y.err D k d y.epoch)]) :
    Calls Tryz.prog 22 args W fun e W' => ∃ v, e = .returned v ∧ Only V.has W W' ∧ WkSt w0 V N m' (a + 6) W' ∧ v = .bool true := by
  obtain ⟨L, a', h1, h2, h3⟩ := h.book
  subst hargs
  have hg : V.g < w0.heap.size := hN _ (h.vat.all _ (.inl rfl))
  refine (vdoes_any W V N m L a' h.vat (fun b hb => by have := hN b hb; have := h.only.size; omega) h1 h3 (by omega) x A n c A' n' c' _ hx (Nat.le_refl _) (fun ad h0 hA => by have := hap ad h0 hA; omega) y D k d hy hyp hk).mono ?_
  rintro e W' ⟨rfl, hd⟩
  exact ⟨_, rfl, hd.only, hm' ▸ WkSt.of_done h.only hd (by omega), by rw [decide_eq_true hres]⟩
theorem WkSt.turn_ {w0 W : World} {V : VLoc} {N : Nat → Prop} {m : VM} {a : Nat} (h : WkSt w0 V N m a W) (ha : a ≤ 700000) (m' : VM) (q : Nat) (hm' : turnV m = (m', q)) :
    Calls Tryz.prog 31 #[.pointer (some ⟨V.g, 0, none⟩)] W fun e W' => ∃ v, e = .returned v ∧ Only V.has W W' ∧ WkSt w0 V N m' (a + 6) W' ∧ v = .int .i64 (q : Int) := by
  obtain ⟨L, a', h1, h2, h3⟩ := h.book
  refine (vTurn_any W V N m L a' h.vat h1 h3 (by omega)).mono ?_
  rintro e W' ⟨rfl, hd⟩
  rw [hm'] at hd ⊢
  exact ⟨_, rfl, hd.only, WkSt.of_done h.only hd (by omega), rfl⟩

/-- a vault that New or Open made -/
def VLoc.all (V : VLoc) (b : Nat) : Prop := b = V.g ∨ V.k.has b ∨ V.T.has b
structure NewAt (w w' : World) (k : Book) (V : VLoc) (L : List (List UInt8)) (asked : Nat) (m : VM) : Prop where
  kk : V.k = k
  vat : VAt w' V V.all m
  old : VAt w' V (fun b => V.all b ∨ b < V.g) m
  new : w.heap.size ≤ V.g ∧ ∀ b, V.T.has b → w.heap.size ≤ b
  book : ∃ L' a', BookAt w' k L' a' ∧ a' ≤ asked + 48 ∧ (∀ x, x ∈ L → x ∈ L') ∧ InBook L' (leavesV m)
  only : Only k.has w w'
theorem VLoc.all_lt {w : World} {V : VLoc} {N : Nat → Prop} {m : VM} {L : List (List UInt8)} {a : Nat} (h : VAt w V N m) (hb : BookAt w V.k L a) : ∀ b, V.all b → b < w.heap.size := fun b hb' => by
  obtain ⟨S, hd⟩ := h.dat
  have hl := hb.lt
  rcases hb' with e | e | e
  · rw [e]; exact hd.blk.lt
  · rcases e with e | e | e <;> rw [e]
    · exact hl.1
    · exact hl.2.1
    · exact hl.2.2
  · exact h.tree.lt e
theorem NewAt.of_made {w w1 w' : World} {g : Nat} {T : TreeLoc} {k : Book} {L : List (List UInt8)} {asked : Nat} {m : VM} (h : MadeSt (fun b => b < g) w1 w' g T k L asked m 13) (hb : Below w.heap.size w w1) (hk : k.g < w.heap.size ∧ k.b1 < w.heap.size ∧ k.b2 < w.heap.size) (hg : w.heap.size ≤ g) (hgl : g < w1.heap.size) : NewAt w w' k ⟨g, T, k⟩ L asked m := by
  have hgk : ¬ k.has g := by rintro (e | e | e) <;> omega
  have e : (leavesV m).take 13 ++ List.replicate (13 - 13) ([] : List UInt8) = leavesV m := by rw [List.take_of_length_le (by rw [leavesV_len]; exact Nat.le_refl _)]; simp
  obtain ⟨L', a', q1, q2, q3, q4⟩ := h.book
  rw [e] at q4
  have hs := hb.size
  have hva := VAt.of_made h hgk hgl
  have hold : VAt w' ⟨g, T, k⟩ (fun b => (VLoc.mk g T k).all b ∨ b < g) m := hva.mono (fun b _ hn => by
    rcases hn with (e | e | e) | e
    · exact .inl e
    · exact .inr (.inl e)
    · exact .inr (.inr (.inl e))
    · exact .inr (.inr (.inr e))) (fun b hb => by
    rcases hb with e | e | e
    · exact .inl (.inl e)
    · exact .inl (.inr (.inr (.inr (.inr e))))
    · exact .inl (.inr (.inl e)))
  refine ⟨rfl, hold.mono (fun b _ hn => .inl hn) (fun b hb => by
    rcases hb with e | e | e
    · exact .inl e
    · exact .inr (.inr (.inr (.inr e)))
    · exact .inr (.inl e)), hold, ⟨hg, fun b hb' => by have := h.new b hb'; omega⟩, ⟨L', a', q1, by omega, q3, q4⟩, ?_⟩
  have ho := h.only
  exact ⟨ho.os.trans hb.os, ho.tape.trans hb.tape, ho.output.trans hb.output, by have := ho.size; omega, fun b hb' hn => (ho.block b (by omega) (by rintro (e | e); omega; exact hn e)).trans (hb.block b hb')⟩
theorem vNew_at (k : Book) (L : List (List UInt8)) (asked q : Nat) (w : World) (hbk : BookAt w k L asked) (has : asked ≤ 600000) (hq : 1 ≤ q ∧ q ≤ 2) (z : Int) (hz : z = (q : Int)) :
    Calls Tryz.prog 18 #[.pointer (some ⟨k.g, 0, none⟩), .int .i64 z] w fun e w' => ∃ V : VLoc, e = .returned (.tuple #[.pointer (some ⟨V.g, 0, none⟩), .int .i64 0]) ∧ NewAt w w' k V L asked (newV q) := by
  subst hz
  refine (vNew_any k L asked q w hbk has hq).mono ?_
  rintro e w' ⟨g, T, w1, rfl, h1, h2, h3, h4⟩
  exact ⟨⟨g, T, k⟩, rfl, NewAt.of_made h4 h3 hbk.lt h1 h2⟩

def wk0 : VM := newV 1
def wk1 : VM := (doV wk0 (writeV 31 1 0 3 7)).1
def wk2 : VM := (doV wk1 (readV 32 5 0 3)).1
def wk3 : VM := (doV wk2 (readV 32 5 0 0)).1
def wk4 : VM := (doV wk3 (readV 32 4 0 3)).1
def wk5 : VM := (doV wk4 (readV 31 2 1 3)).1
def wk6 : VM := (doV wk5 (shutV 0)).1
def wk7 : VM := (doV wk6 (readV 31 2 0 3)).1
def wk8 : VM := (turnV wk7).1
def wk9 : VM := (doV wk8 (readV 31 2 1 3)).1
def wk : Nat → VM
  | 0 => wk0
  | 1 => wk1
  | 2 => wk2
  | 3 => wk3
  | 4 => wk4
  | 5 => wk5
  | 6 => wk6
  | 7 => wk7
  | 8 => wk8
  | _ => wk9
def AnsIs (m : VM) (x : Wish) (y : Ans) : Prop := (doV m x).2.2 = 0 ∧ (doV m x).2.1.err = y.err ∧ (doV m x).2.1.data = y.data ∧ (doV m x).2.1.epoch = y.epoch
instance (m : VM) (x : Wish) (y : Ans) : Decidable (AnsIs m x y) := by unfold AnsIs; infer_instance
theorem wk_0 : AnsIs (wk 0) (writeV 31 1 0 3 7) okA := by decide +kernel
theorem wk_1 : AnsIs (wk 1) (readV 32 5 0 3) (dataA (rep16 7)) := by decide +kernel
theorem wk_2 : AnsIs (wk 2) (readV 32 5 0 0) (dataA (rep16 7)) := by decide +kernel
theorem wk_3 : AnsIs (wk 3) (readV 32 4 0 3) (errA 172 0) := by decide +kernel
theorem wk_4 : AnsIs (wk 4) (readV 31 2 1 3) (errA 171 0) := by decide +kernel
theorem wk_5 : AnsIs (wk 5) (shutV 0) okA := by decide +kernel
theorem wk_6 : AnsIs (wk 6) (readV 31 2 0 3) (errA 171 1) := by decide +kernel
theorem wk_7 : turnV (wk 7) = (wk 8, 0) := by
  have h : (turnV wk7).2 = 0 := by decide +kernel
  show turnV wk7 = ((turnV wk7).1, 0)
  rw [← h]
theorem wk_8 : AnsIs (wk 8) (readV 31 2 1 3) (dataA (rep16 7)) := by decide +kernel
theorem wk_9 : (wk 9).epoch = 1 ∧ (wk 9).group = 1 := by decide +kernel
theorem shutIn {w : World} {A : Option Addr} {q : Nat} (hr : Reads w w.heap.size 1 A 4 ([1, 2, 3, 4].map vn)) (hq : 4 ≤ q) {e : Int} (he : I64 e) : WishIn w w.heap.size (shutV e) none 0 0 A 4 q :=
  ⟨Reads.none_, by simp, by simp, hr, hq, by simp, ⟨by show I64 0; unfold I64; omega, by show I64 0; unfold I64; omega, by show I64 1; unfold I64; omega, he, by show I64 5; unfold I64; omega, by show I64 0; unfold I64; omega, by show I64 0; unfold I64; omega, by show I64 0; unfold I64; omega, fun z hz => by simp [shutV] at hz; unfold I64; omega⟩⟩
theorem writeIn {w : World} {B : Nat} {A : Option Addr} {q : Nat} {c s e k : Int} {b : UInt8} (ho : OwnB w B (.slice A 16 q) (rep16 b)) (h : I64 c ∧ I64 s ∧ I64 e ∧ I64 k) : WishIn w w.heap.size (writeV c s e k b) A 16 q none 0 0 := by
  obtain ⟨q1, q2, q3, q4, q5⟩ := ho.reads
  exact ⟨q4, q2, by omega, Reads.none_, by simp, by simp, ⟨h.1, h.2.1, by show I64 1; unfold I64; omega, h.2.2.1, by show I64 2; unfold I64; omega, h.2.2.2, by show I64 0; unfold I64; omega, by show I64 0; unfold I64; omega, fun z hz => by simp [writeV] at hz⟩⟩
theorem readIn {w : World} {c s e b : Int} (h : I64 c ∧ I64 s ∧ I64 e ∧ I64 b) : WishIn w w.heap.size (readV c s e b) none 0 0 none 0 0 := wishIn_read h

set_option maxRecDepth 100000 in
set_option maxHeartbeats 16000000 in
theorem vworks_any (w : World) :
    Calls Tryz.prog 17 #[] w fun e w' => e = .returned (.bool true) ∧ Below w.heap.size w w' := by
  go_enter Tryz.func17, Tryz.ntmps17
  go_wp2_with fail
  refine (inkNew_any w).mono ?_
  rintro _ w1 ⟨k, rfl, hbk, hkn, hb1⟩
  have HNW := Lib.hid (vNew_at k [] 0 1 w1 hbk (by omega) (by omega))
  have HB1 := Lib.hid hb1
  have HKN := Lib.hid hkn
  have hs1 := hb1.size
  clear hb1 hkn hbk
  go_wp2_with fail
  refine (HNW.out _ rfl).mono ?_
  rintro _ w2 ⟨V, rfl, hna⟩
  have hkk := hna.kk
  subst hkk
  obtain ⟨L2, a2, hbk2, ha2, _, hin2⟩ := hna.book
  have HAL := Lib.hid (VLoc.all_lt hna.vat hbk2)
  have HNA := Lib.hid hna
  have HBK2 := Lib.hid hbk2
  have HIN2 := Lib.hid hin2
  have hs2 := hna.only.size
  have HVN := Lib.hid (show ∀ b, V.has b → w.heap.size ≤ b from fun b hb => by
    have hk := HKN.out
    rcases hb with e | e | e
    · have := hna.new.1; omega
    · have := hna.new.2 b (.inr (.inr e)); omega
    · rcases e with e | e | e <;> omega)
  have HB2 := Lib.hid (HB1.out.trans (hna.only.below (B := w.heap.size) (by omega) (fun b hb hn => by have hk := HKN.out; rcases hn with e | e | e <;> omega)))
  clear hna hbk2 hin2 HNW
  go_wp2_with fail
  refine (sixteen_any 7 w2).mono ?_
  rintro _ w3 ⟨v, rfl, ho3, hb3⟩
  obtain ⟨A7, q7, hv, q1, q2, hr7, hge⟩ := own_slice_b ho3
  have e16 : (rep16 7).length = 16 := by simp [rep16]
  rw [e16] at hv hr7
  subst hv
  have HWS := Lib.hid (show WkSt w2 V V.all (wk 0) 48 w3 from ⟨(HNA.out.vat.below hb3), ⟨L2, a2, HBK2.out.below hb3, by omega, HIN2.out⟩, Only.of_below hb3⟩)
  have HR7 := Lib.hid hr7
  have HGE := Lib.hid hge
  have hs3 := hb3.size
  have hb23 := hb3
  clear ho3 hb3 q1 q2 hr7 hge e16 HBK2 HIN2
  go_upto_region 5 with (refine wpList_store_part (o := ⟨none, _, _, _, _, _⟩) rfl 47 (.tmp 3) (.tmp 14) rfl w3.heap.size 0 (aC 0 A7 16 q7 0) rfl rfl 47 (aC 0 none 0 0 0) (Blk.newAt rfl) (aC_info _ _ _ _ _) (by simp [aC]) (aC_one _ _ _ _ _) ?_; intro w5 hT5 hD5; rw [aC_spl] at hD5)
  have hb5 : Below w3.heap.size w3 w5 := hT5.below ((Below.refl _ _).alloc (Nat.le_refl _) _) (Nat.le_refl _)
  have hs5 := hb5.size
  obtain ⟨g3, hg3⟩ : ∃ g, g = w3.heap.size := ⟨_, rfl⟩
  rw [← hg3] at hD5 ⊢
  have hg3l := hD5.lt
  have HAT := Lib.hid (fun b (hb : V.has b) => show b < w2.heap.size from HAL.out b (by rcases hb with e | e | e; exact .inl e; exact .inr (.inr (.inr (.inr e))); exact .inr (.inl e)))
  have hat7 : ∀ a, A7 = some a → w2.heap.size ≤ a.block := HGE.out
  have HR5 := Lib.hid ((HR7.out.below hb5).more hs5)
  have HS5 := Lib.hid (show WkSt w5 V V.all (wk 0) 48 w5 from by
    have h := HWS.out.below hb5
    exact ⟨h.vat, h.book, Only.refl _ _⟩)
  have HNL := Lib.hid (show ∀ b, V.all b → b < w5.heap.size from fun b hb => by have := HAL.out b hb; omega)
  have HC3 := Lib.hid (fun (W : World) (h : Only V.has w5 W) => h.blk hD5 (fun hb => by have := HAT.out _ hb; omega))
  have HRC := Lib.hid (fun (W : World) (h : Only V.has w5 W) => h.reads HR5.out (fun a _ ha hb => by have := HAT.out _ hb; have := hat7 a ha; omega))
  have HW5 := Lib.hid (show ∀ b, V.has b → b < w5.heap.size from fun b hb => by have := HAT.out b hb; omega)
  have HA7 := Lib.hid (fun a (_ : 0 < 16) (ha : A7 = some a) (hb : V.has a.block) => show False by have := HAT.out _ hb; have := hat7 a ha; omega)
  have HB5 := Lib.hid (HB2.out.trans ((show Below w2.heap.size w2 w5 from hb23.trans (hb5.mono (by omega))).mono (by omega)))
  clear hT5 hD5 hb5 hg3 hat7
  simp only [Act.put]
  refine wp_region_loud 28 84 (fun jx W v => match jx with
    | 0 => v = .pointer (some ⟨V.g, 0, none⟩)
    | 1 => ∃ A q, v = .agg (wCells (writeV 31 1 0 3 7) A 16 q none 0 0) ∧ OwnB W w5.heap.size (.slice A 16 q) (rep16 7)
    | 2 => v = .agg #[.int .i64 0, .slice none 0 0, .int .i64 0, .slice none 0 0]
    | 3 => v = .bool true
    | 4 => v = .bool true
    | 5 => v = .pointer (some ⟨V.g, 0, none⟩)
    | 6 => v = .agg (wCells (readV 32 5 0 3) none 0 0 none 0 0)
    | 7 => v = .agg (aC 0 A7 16 q7 0)
    | 8 => v = .bool true
    | 9 => v = .bool true
    | 10 => v = .bool true
    | 11 => v = .pointer (some ⟨V.g, 0, none⟩)
    | 12 => v = .agg (wCells (readV 32 5 0 0) none 0 0 none 0 0)
    | 13 => v = .agg (aC 0 A7 16 q7 0)
    | 14 => v = .bool true
    | 15 => v = .bool true
    | 16 => v = .bool true
    | 17 => v = .pointer (some ⟨V.g, 0, none⟩)
    | 18 => v = .agg (wCells (readV 32 4 0 3) none 0 0 none 0 0)
    | 19 => v = .agg #[.int .i64 172, .slice none 0 0, .int .i64 0, .slice none 0 0]
    | 20 => v = .bool true
    | 21 => v = .bool true
    | 22 => v = .bool true
    | 23 => v = .pointer (some ⟨V.g, 0, none⟩)
    | 24 => v = .agg (wCells (readV 31 2 1 3) none 0 0 none 0 0)
    | 25 => v = .agg #[.int .i64 171, .slice none 0 0, .int .i64 0, .slice none 0 0]
    | 26 => v = .bool true
    | _ => v = .bool true) (fun s W => WkSt w5 V V.all (wk s) (48 + 6 * s) W) (Only V.has) [3, 8, 14, 20, 26] [15, 16, 17, 18, 19, 20, 21, 22, 23, 24, 25, 26, 27, 28, 29, 30, 31, 32, 33, 34, 35, 36, 37, 38, 39, 40, 41, 42] (by kernel_rfl) (by kernel_rfl) (by kernel_rfl) (by kernel_rfl) (by simp) (by kernel_rfl) (fun jx => ?last) ?lastR ?jay HS5.out ?heads ?_
  case last =>
    match jx with
    | 0 | 2 | 3 | 4 | 5 | 6 | 7 | 8 | 9 | 10 | 11 | 12 | 13 | 14 | 15 | 16 | 17 | 18 | 19 | 20 | 21 | 22 | 23 | 24 | 25 | 26 | jx + 27 => exact Lasts.pure _
    | 1 => exact fun W W' v ⟨A, q, h1, h2⟩ hb => ⟨A, q, h1, h2.below hb⟩
  case lastR =>
    intro s jx W W' v hsl hs hj hp hr
    match jx with
    | 0 | 2 | 3 | 4 | 5 | 6 | 7 | 8 | 9 | 10 | 11 | 12 | 13 | 14 | 15 | 16 | 17 | 18 | 19 | 20 | 21 | 22 | 23 | 24 | 25 | 26 | jx + 27 => exact hp
    | 1 => (obtain ⟨A, q, h1, h2⟩ := hp; exact ⟨A, q, h1, own_keepV h2 hr HW5.out⟩)
  case jay =>
    intro s W W' hj hb
    exact hj.below hb
  case heads =>
    simp only [List.take_succ_cons, List.take_zero]
    refine ⟨?_, ?_, ?_, ?_, ?_, ?_, ?_, ?_, ?_, ?_, ?_, ?_, ?_, ?_, ?_, ?_, ?_, ?_, ?_, ?_, ?_, ?_, ?_, ?_, ?_, ?_, ?_, ?_, trivial⟩
    · rw [if_neg (by decide)]
      intro s a W hj hkp hd
      have e0 : a.tmps[1]?.getD undef = .pointer (some ⟨V.g, 0, none⟩) := hkp.get (by kernel_rfl) rfl
      exact rel_value rfl (.pointer (some ⟨V.g, 0, none⟩)) (by go_simp) rfl
    · rw [if_neg (by decide)]
      intro s a W hj hkp hd
      have hz := hj.only.size
      exact rel_call rfl 24 #[.int .i64 31, .int .i64 1, .int .i64 0, .int .i64 3, .int .u8 7] (by go_simp) ((vwrite_any 31 1 0 3 7 W).mono fun e w ⟨A, q, h1, h2, h3⟩ => ⟨_, h1, h3, A, q, rfl, h2.more hz⟩)
    · rw [if_neg (by decide)]
      intro s a W hj hkp hd
      exact rel_value rfl (.agg #[.int .i64 0, .slice none 0 0, .int .i64 0, .slice none 0 0]) (by go_simp) rfl
    · rw [if_pos (by decide)]
      intro s a W hs hj hkp hd
      have e0 : a.tmps[15]?.getD undef = .pointer (some ⟨V.g, 0, none⟩) := (hd 0 (by kernel_rfl)).get 15 rfl rfl
      obtain ⟨A, q, e1, ho⟩ := (hd 1 (by kernel_rfl)).get 16 rfl rfl
      have e2 : a.tmps[17]?.getD undef = .agg #[.int .i64 0, .slice none 0 0, .int .i64 0, .slice none 0 0] := (hd 2 (by kernel_rfl)).get 17 rfl rfl
      obtain rfl : s = 0 := lo_at (by decide) rfl hs
      exact loud_call rfl 22 #[.pointer (some ⟨V.g, 0, none⟩), .agg (wCells (writeV 31 1 0 3 7) A 16 q none 0 0), .agg #[.int .i64 0, .slice none 0 0, .int .i64 0, .slice none 0 0]] (by go_simp) (hj.does_ HNL.out (by omega) (writeV 31 1 0 3 7) A 16 q none 0 0 (writeIn ho ⟨by unfold I64; omega, by unfold I64; omega, by unfold I64; omega, by unfold I64; omega⟩) (fun a h0 ha => by subst ha; exact ho.ge rfl) (okA) none 0 0 Reads.none_ (by intro a h0; omega) (by omega) wk_0 (wk 1) rfl _ rfl)
    · rw [if_neg (by decide)]
      intro s a W hj hkp hd
      have e0 : a.tmps[18]?.getD undef = .bool true := (hd 3 (by kernel_rfl)).get 18 rfl rfl
      exact rel_value rfl (.bool true) (by go_simp) rfl
    · rw [if_neg (by decide)]
      intro s a W hj hkp hd
      have e0 : a.tmps[1]?.getD undef = .pointer (some ⟨V.g, 0, none⟩) := hkp.get (by kernel_rfl) rfl
      have eg : a.tmps[19]?.getD undef = .bool true := (hd 4 (by kernel_rfl)).get 19 rfl rfl
      exact rel_value (wanted_at rfl rfl eg) (.pointer (some ⟨V.g, 0, none⟩)) (by go_simp) rfl
    · rw [if_neg (by decide)]
      intro s a W hj hkp hd
      have eg : a.tmps[19]?.getD undef = .bool true := (hd 4 (by kernel_rfl)).get 19 rfl rfl
      exact rel_call (wanted_at rfl rfl eg) 19 #[.int .i64 32, .int .i64 5, .int .i64 0, .int .i64 3] (by go_simp) ((vread_any _ _ _ _ W).mono fun e w h => ⟨_, h.1, h.2, rfl⟩)
    · rw [if_neg (by decide)]
      intro s a W hj hkp hd
      have e0 : a.eval (.tmp 3) = .pointer (some ⟨g3, 0, none⟩) := hkp.at_ (by kernel_rfl)
      have eg : a.tmps[19]?.getD undef = .bool true := (hd 4 (by kernel_rfl)).get 19 rfl rfl
      exact rel_value (wanted_at rfl rfl eg) (.agg (aC 0 A7 16 q7 0)) (exec_load_part 47 (.tmp 3) rfl g3 0 4 e0 47 _ (aC 0 A7 16 q7 0) _ (HC3.out W hj.only) Tryz.underlying47 rfl rfl rfl (fun _ _ => by rw [Nat.zero_add])) rfl
    · rw [if_pos (by decide)]
      intro s a W hs hj hkp hd
      have e0 : a.tmps[20]?.getD undef = .pointer (some ⟨V.g, 0, none⟩) := (hd 5 (by kernel_rfl)).get 20 rfl rfl
      have e1 : a.tmps[21]?.getD undef = .agg (wCells (readV 32 5 0 3) none 0 0 none 0 0) := (hd 6 (by kernel_rfl)).get 21 rfl rfl
      have e2 : a.tmps[22]?.getD undef = .agg (aC 0 A7 16 q7 0) := (hd 7 (by kernel_rfl)).get 22 rfl rfl
      have eg : a.tmps[19]?.getD undef = .bool true := (hd 4 (by kernel_rfl)).get 19 rfl rfl
      obtain rfl : s = 1 := lo_at (by decide) rfl hs
      exact loud_call (wanted_at rfl rfl eg) 22 #[.pointer (some ⟨V.g, 0, none⟩), .agg (wCells (readV 32 5 0 3) none 0 0 none 0 0), .agg (aC 0 A7 16 q7 0)] (by go_simp) (hj.does_ HNL.out (by omega) (readV 32 5 0 3) none 0 0 none 0 0 (readIn ⟨by unfold I64; omega, by unfold I64; omega, by unfold I64; omega, by unfold I64; omega⟩) (by intro a h0; omega) (dataA (rep16 7)) A7 16 q7 (HRC.out W hj.only) HA7.out (by omega) wk_1 (wk 2) rfl _ rfl)
    · rw [if_neg (by decide)]
      intro s a W hj hkp hd
      have e0 : a.tmps[19]?.getD undef = .bool true := (hd 4 (by kernel_rfl)).get 19 rfl rfl
      have e1 : a.tmps[23]?.getD undef = .bool true := (hd 8 (by kernel_rfl)).get 23 rfl rfl
      exact rel_value rfl (.bool true) (by go_simp) rfl
    · rw [if_neg (by decide)]
      intro s a W hj hkp hd
      have e0 : a.tmps[24]?.getD undef = .bool true := (hd 9 (by kernel_rfl)).get 24 rfl rfl
      exact rel_value rfl (.bool true) (by go_simp) rfl
    · rw [if_neg (by decide)]
      intro s a W hj hkp hd
      have e0 : a.tmps[1]?.getD undef = .pointer (some ⟨V.g, 0, none⟩) := hkp.get (by kernel_rfl) rfl
      have eg : a.tmps[25]?.getD undef = .bool true := (hd 10 (by kernel_rfl)).get 25 rfl rfl
      exact rel_value (wanted_at rfl rfl eg) (.pointer (some ⟨V.g, 0, none⟩)) (by go_simp) rfl
    · rw [if_neg (by decide)]
      intro s a W hj hkp hd
      have eg : a.tmps[25]?.getD undef = .bool true := (hd 10 (by kernel_rfl)).get 25 rfl rfl
      exact rel_call (wanted_at rfl rfl eg) 19 #[.int .i64 32, .int .i64 5, .int .i64 0, .int .i64 0] (by go_simp) ((vread_any _ _ _ _ W).mono fun e w h => ⟨_, h.1, h.2, rfl⟩)
    · rw [if_neg (by decide)]
      intro s a W hj hkp hd
      have e0 : a.eval (.tmp 3) = .pointer (some ⟨g3, 0, none⟩) := hkp.at_ (by kernel_rfl)
      have eg : a.tmps[25]?.getD undef = .bool true := (hd 10 (by kernel_rfl)).get 25 rfl rfl
      exact rel_value (wanted_at rfl rfl eg) (.agg (aC 0 A7 16 q7 0)) (exec_load_part 47 (.tmp 3) rfl g3 0 4 e0 47 _ (aC 0 A7 16 q7 0) _ (HC3.out W hj.only) Tryz.underlying47 rfl rfl rfl (fun _ _ => by rw [Nat.zero_add])) rfl
    · rw [if_pos (by decide)]
      intro s a W hs hj hkp hd
      have e0 : a.tmps[26]?.getD undef = .pointer (some ⟨V.g, 0, none⟩) := (hd 11 (by kernel_rfl)).get 26 rfl rfl
      have e1 : a.tmps[27]?.getD undef = .agg (wCells (readV 32 5 0 0) none 0 0 none 0 0) := (hd 12 (by kernel_rfl)).get 27 rfl rfl
      have e2 : a.tmps[28]?.getD undef = .agg (aC 0 A7 16 q7 0) := (hd 13 (by kernel_rfl)).get 28 rfl rfl
      have eg : a.tmps[25]?.getD undef = .bool true := (hd 10 (by kernel_rfl)).get 25 rfl rfl
      obtain rfl : s = 2 := lo_at (by decide) rfl hs
      exact loud_call (wanted_at rfl rfl eg) 22 #[.pointer (some ⟨V.g, 0, none⟩), .agg (wCells (readV 32 5 0 0) none 0 0 none 0 0), .agg (aC 0 A7 16 q7 0)] (by go_simp) (hj.does_ HNL.out (by omega) (readV 32 5 0 0) none 0 0 none 0 0 (readIn ⟨by unfold I64; omega, by unfold I64; omega, by unfold I64; omega, by unfold I64; omega⟩) (by intro a h0; omega) (dataA (rep16 7)) A7 16 q7 (HRC.out W hj.only) HA7.out (by omega) wk_2 (wk 3) rfl _ rfl)
    · rw [if_neg (by decide)]
      intro s a W hj hkp hd
      have e0 : a.tmps[25]?.getD undef = .bool true := (hd 10 (by kernel_rfl)).get 25 rfl rfl
      have e1 : a.tmps[29]?.getD undef = .bool true := (hd 14 (by kernel_rfl)).get 29 rfl rfl
      exact rel_value rfl (.bool true) (by go_simp) rfl
    · rw [if_neg (by decide)]
      intro s a W hj hkp hd
      have e0 : a.tmps[30]?.getD undef = .bool true := (hd 15 (by kernel_rfl)).get 30 rfl rfl
      exact rel_value rfl (.bool true) (by go_simp) rfl
    · rw [if_neg (by decide)]
      intro s a W hj hkp hd
      have e0 : a.tmps[1]?.getD undef = .pointer (some ⟨V.g, 0, none⟩) := hkp.get (by kernel_rfl) rfl
      have eg : a.tmps[31]?.getD undef = .bool true := (hd 16 (by kernel_rfl)).get 31 rfl rfl
      exact rel_value (wanted_at rfl rfl eg) (.pointer (some ⟨V.g, 0, none⟩)) (by go_simp) rfl
    · rw [if_neg (by decide)]
      intro s a W hj hkp hd
      have eg : a.tmps[31]?.getD undef = .bool true := (hd 16 (by kernel_rfl)).get 31 rfl rfl
      exact rel_call (wanted_at rfl rfl eg) 19 #[.int .i64 32, .int .i64 4, .int .i64 0, .int .i64 3] (by go_simp) ((vread_any _ _ _ _ W).mono fun e w h => ⟨_, h.1, h.2, rfl⟩)
    · rw [if_neg (by decide)]
      intro s a W hj hkp hd
      have eg : a.tmps[31]?.getD undef = .bool true := (hd 16 (by kernel_rfl)).get 31 rfl rfl
      exact rel_value (wanted_at rfl rfl eg) (.agg #[.int .i64 172, .slice none 0 0, .int .i64 0, .slice none 0 0]) (by go_simp) rfl
    · rw [if_pos (by decide)]
      intro s a W hs hj hkp hd
      have e0 : a.tmps[32]?.getD undef = .pointer (some ⟨V.g, 0, none⟩) := (hd 17 (by kernel_rfl)).get 32 rfl rfl
      have e1 : a.tmps[33]?.getD undef = .agg (wCells (readV 32 4 0 3) none 0 0 none 0 0) := (hd 18 (by kernel_rfl)).get 33 rfl rfl
      have e2 : a.tmps[34]?.getD undef = .agg #[.int .i64 172, .slice none 0 0, .int .i64 0, .slice none 0 0] := (hd 19 (by kernel_rfl)).get 34 rfl rfl
      have eg : a.tmps[31]?.getD undef = .bool true := (hd 16 (by kernel_rfl)).get 31 rfl rfl
      obtain rfl : s = 3 := lo_at (by decide) rfl hs
      exact loud_call (wanted_at rfl rfl eg) 22 #[.pointer (some ⟨V.g, 0, none⟩), .agg (wCells (readV 32 4 0 3) none 0 0 none 0 0), .agg #[.int .i64 172, .slice none 0 0, .int .i64 0, .slice none 0 0]] (by go_simp) (hj.does_ HNL.out (by omega) (readV 32 4 0 3) none 0 0 none 0 0 (readIn ⟨by unfold I64; omega, by unfold I64; omega, by unfold I64; omega, by unfold I64; omega⟩) (by intro a h0; omega) (errA 172 0) none 0 0 Reads.none_ (by intro a h0; omega) (by omega) wk_3 (wk 4) rfl _ rfl)
    · rw [if_neg (by decide)]
      intro s a W hj hkp hd
      have e0 : a.tmps[31]?.getD undef = .bool true := (hd 16 (by kernel_rfl)).get 31 rfl rfl
      have e1 : a.tmps[35]?.getD undef = .bool true := (hd 20 (by kernel_rfl)).get 35 rfl rfl
      exact rel_value rfl (.bool true) (by go_simp) rfl
    · rw [if_neg (by decide)]
      intro s a W hj hkp hd
      have e0 : a.tmps[36]?.getD undef = .bool true := (hd 21 (by kernel_rfl)).get 36 rfl rfl
      exact rel_value rfl (.bool true) (by go_simp) rfl
    · rw [if_neg (by decide)]
      intro s a W hj hkp hd
      have e0 : a.tmps[1]?.getD undef = .pointer (some ⟨V.g, 0, none⟩) := hkp.get (by kernel_rfl) rfl
      have eg : a.tmps[37]?.getD undef = .bool true := (hd 22 (by kernel_rfl)).get 37 rfl rfl
      exact rel_value (wanted_at rfl rfl eg) (.pointer (some ⟨V.g, 0, none⟩)) (by go_simp) rfl
    · rw [if_neg (by decide)]
      intro s a W hj hkp hd
      have eg : a.tmps[37]?.getD undef = .bool true := (hd 22 (by kernel_rfl)).get 37 rfl rfl
      exact rel_call (wanted_at rfl rfl eg) 19 #[.int .i64 31, .int .i64 2, .int .i64 1, .int .i64 3] (by go_simp) ((vread_any _ _ _ _ W).mono fun e w h => ⟨_, h.1, h.2, rfl⟩)
    · rw [if_neg (by decide)]
      intro s a W hj hkp hd
      have eg : a.tmps[37]?.getD undef = .bool true := (hd 22 (by kernel_rfl)).get 37 rfl rfl
      exact rel_value (wanted_at rfl rfl eg) (.agg #[.int .i64 171, .slice none 0 0, .int .i64 0, .slice none 0 0]) (by go_simp) rfl
    · rw [if_pos (by decide)]
      intro s a W hs hj hkp hd
      have e0 : a.tmps[38]?.getD undef = .pointer (some ⟨V.g, 0, none⟩) := (hd 23 (by kernel_rfl)).get 38 rfl rfl
      have e1 : a.tmps[39]?.getD undef = .agg (wCells (readV 31 2 1 3) none 0 0 none 0 0) := (hd 24 (by kernel_rfl)).get 39 rfl rfl
      have e2 : a.tmps[40]?.getD undef = .agg #[.int .i64 171, .slice none 0 0, .int .i64 0, .slice none 0 0] := (hd 25 (by kernel_rfl)).get 40 rfl rfl
      have eg : a.tmps[37]?.getD undef = .bool true := (hd 22 (by kernel_rfl)).get 37 rfl rfl
      obtain rfl : s = 4 := lo_at (by decide) rfl hs
      exact loud_call (wanted_at rfl rfl eg) 22 #[.pointer (some ⟨V.g, 0, none⟩), .agg (wCells (readV 31 2 1 3) none 0 0 none 0 0), .agg #[.int .i64 171, .slice none 0 0, .int .i64 0, .slice none 0 0]] (by go_simp) (hj.does_ HNL.out (by omega) (readV 31 2 1 3) none 0 0 none 0 0 (readIn ⟨by unfold I64; omega, by unfold I64; omega, by unfold I64; omega, by unfold I64; omega⟩) (by intro a h0; omega) (errA 171 0) none 0 0 Reads.none_ (by intro a h0; omega) (by omega) wk_4 (wk 5) rfl _ rfl)
    · rw [if_neg (by decide)]
      intro s a W hj hkp hd
      have e0 : a.tmps[37]?.getD undef = .bool true := (hd 22 (by kernel_rfl)).get 37 rfl rfl
      have e1 : a.tmps[41]?.getD undef = .bool true := (hd 26 (by kernel_rfl)).get 41 rfl rfl
      exact rel_value rfl (.bool true) (by go_simp) rfl
  intro f W6 hj6 hd6
  have f42 : f 42 = .bool true := hd6 27 (by omega) _ 42 rfl rfl
  have HS6 := Lib.hid (show WkSt w5 V V.all (wk 5) 78 W6 from hj6)
  clear hd6 hj6
  simp only [putAll, List.drop_succ_cons, List.drop_zero, f42]
  try simp only [Act.put, List.setIfInBounds_toArray, List.set_cons_zero, List.set_cons_succ]
  have HT6 := Lib.hid (show WkSt W6 V V.all (wk 5) 78 W6 from ⟨HS6.out.vat, HS6.out.book, Only.refl _ _⟩)
  have hs6 := HS6.out.only.size
  have HNL6 := Lib.hid (show ∀ b, V.all b → b < W6.heap.size from fun b hb => by have := HAL.out b hb; omega)
  have HW6 := Lib.hid (show ∀ b, V.has b → b < W6.heap.size from fun b hb => by have := HAT.out b hb; omega)
  go_upto_region 6 with fail
  try simp only [Act.put, List.setIfInBounds_toArray, List.set_cons_zero, List.set_cons_succ]
  refine wp_region_loud 21 84 (fun jx W v => match jx with
    | 0 => v = .pointer (some ⟨V.g, 0, none⟩)
    | 1 => ∃ A q, v = .agg (wCells (shutV 0) none 0 0 A 4 q) ∧ Reads W W.heap.size 1 A 4 ([1, 2, 3, 4].map vn) ∧ 4 ≤ q ∧ ∀ a, A = some a → W6.heap.size ≤ a.block
    | 2 => v = .agg #[.int .i64 0, .slice none 0 0, .int .i64 0, .slice none 0 0]
    | 3 => v = .bool true
    | 4 => v = .bool true
    | 5 => v = .pointer (some ⟨V.g, 0, none⟩)
    | 6 => v = .agg (wCells (readV 31 2 0 3) none 0 0 none 0 0)
    | 7 => v = .agg #[.int .i64 171, .slice none 0 0, .int .i64 1, .slice none 0 0]
    | 8 => v = .bool true
    | 9 => v = .bool true
    | 10 => v = .bool true
    | 11 => v = .pointer (some ⟨V.g, 0, none⟩)
    | 12 => v = .int .i64 0
    | 13 => v = .bool true
    | 14 => v = .bool true
    | 15 => v = .bool true
    | 16 => v = .pointer (some ⟨V.g, 0, none⟩)
    | 17 => v = .agg (wCells (readV 31 2 1 3) none 0 0 none 0 0)
    | 18 => v = .agg (aC 0 A7 16 q7 0)
    | 19 => v = .bool true
    | _ => v = .bool true) (fun s W => WkSt W6 V V.all (wk (5 + s)) (78 + 6 * s) W) (Only V.has) [3, 8, 12, 19] [43, 44, 45, 46, 47, 48, 49, 50, 51, 52, 53, 54, 55, 56, 57, 58, 59, 60, 61, 62, 63] (by kernel_rfl) (by kernel_rfl) (by kernel_rfl) (by kernel_rfl) (by simp) (by kernel_rfl) (fun jx => ?last) ?lastR ?jay HT6.out ?heads ?_
  case last =>
    match jx with
    | 0 | 2 | 3 | 4 | 5 | 6 | 7 | 8 | 9 | 10 | 11 | 12 | 13 | 14 | 15 | 16 | 17 | 18 | 19 | jx + 20 => exact Lasts.pure _
    | 1 => exact fun W W' v ⟨A, q, h1, h2, h3⟩ hb => ⟨A, q, h1, (h2.below hb).more hb.size, h3⟩
  case lastR =>
    intro s jx W W' v hsl hs hj hp hr
    match jx with
    | 0 | 2 | 3 | 4 | 5 | 6 | 7 | 8 | 9 | 10 | 11 | 12 | 13 | 14 | 15 | 16 | 17 | 18 | 19 | jx + 20 => exact hp
    | 1 => (obtain ⟨A, q, h1, h2, h3, h4⟩ := hp; exact ⟨A, q, h1, hr.reads h2 (fun a _ ha hv => by have := h4 a ha; have := HW6.out _ hv; omega), h3, h4⟩)
  case jay =>
    intro s W W' hj hb
    exact hj.below hb
  case heads =>
    simp only [List.take_succ_cons, List.take_zero]
    refine ⟨?_, ?_, ?_, ?_, ?_, ?_, ?_, ?_, ?_, ?_, ?_, ?_, ?_, ?_, ?_, ?_, ?_, ?_, ?_, ?_, ?_, trivial⟩
    · rw [if_neg (by decide)]
      intro s a W hj hkp hd
      have e0 : a.tmps[1]?.getD undef = .pointer (some ⟨V.g, 0, none⟩) := hkp.get (by kernel_rfl) rfl
      exact rel_value rfl (.pointer (some ⟨V.g, 0, none⟩)) (by go_simp) rfl
    · rw [if_neg (by decide)]
      intro s a W hj hkp hd
      have hz := hj.only.size
      exact rel_call rfl 25 #[.int .i64 0] (by go_simp) ((vshut_any 0 W).mono fun e w ⟨A, q, h1, h2, h3, h4, h5⟩ => ⟨_, h1, h5, A, q, rfl, h2, h4, fun a ha => by have := h3 a ha; omega⟩)
    · rw [if_neg (by decide)]
      intro s a W hj hkp hd
      exact rel_value rfl (.agg #[.int .i64 0, .slice none 0 0, .int .i64 0, .slice none 0 0]) (by go_simp) rfl
    · rw [if_pos (by decide)]
      intro s a W hs hj hkp hd
      have e0 : a.tmps[43]?.getD undef = .pointer (some ⟨V.g, 0, none⟩) := (hd 0 (by kernel_rfl)).get 43 rfl rfl
      obtain ⟨A, q, e1, h4, h5, h6⟩ := (hd 1 (by kernel_rfl)).get 44 rfl rfl
      have e2 : a.tmps[45]?.getD undef = .agg #[.int .i64 0, .slice none 0 0, .int .i64 0, .slice none 0 0] := (hd 2 (by kernel_rfl)).get 45 rfl rfl
      obtain rfl : s = 0 := lo_at (by decide) rfl hs
      exact loud_call rfl 22 #[.pointer (some ⟨V.g, 0, none⟩), .agg (wCells (shutV 0) none 0 0 A 4 q), .agg #[.int .i64 0, .slice none 0 0, .int .i64 0, .slice none 0 0]] (by go_simp) (hj.does_ HNL6.out (by omega) (shutV 0) none 0 0 A 4 q (shutIn h4 h5 (by unfold I64; omega)) (by intro a h0; omega) (okA) none 0 0 Reads.none_ (by intro a h0; omega) (by omega) wk_5 (wk 6) rfl _ rfl)
    · rw [if_neg (by decide)]
      intro s a W hj hkp hd
      have e0 : a.tmps[46]?.getD undef = .bool true := (hd 3 (by kernel_rfl)).get 46 rfl rfl
      exact rel_value rfl (.bool true) (by go_simp) rfl
    · rw [if_neg (by decide)]
      intro s a W hj hkp hd
      have e0 : a.tmps[1]?.getD undef = .pointer (some ⟨V.g, 0, none⟩) := hkp.get (by kernel_rfl) rfl
      have eg : a.tmps[47]?.getD undef = .bool true := (hd 4 (by kernel_rfl)).get 47 rfl rfl
      exact rel_value (wanted_at rfl rfl eg) (.pointer (some ⟨V.g, 0, none⟩)) (by go_simp) rfl
    · rw [if_neg (by decide)]
      intro s a W hj hkp hd
      have eg : a.tmps[47]?.getD undef = .bool true := (hd 4 (by kernel_rfl)).get 47 rfl rfl
      exact rel_call (wanted_at rfl rfl eg) 19 #[.int .i64 31, .int .i64 2, .int .i64 0, .int .i64 3] (by go_simp) ((vread_any _ _ _ _ W).mono fun e w h => ⟨_, h.1, h.2, rfl⟩)
    · rw [if_neg (by decide)]
      intro s a W hj hkp hd
      have eg : a.tmps[47]?.getD undef = .bool true := (hd 4 (by kernel_rfl)).get 47 rfl rfl
      exact rel_value (wanted_at rfl rfl eg) (.agg #[.int .i64 171, .slice none 0 0, .int .i64 1, .slice none 0 0]) (by go_simp) rfl
    · rw [if_pos (by decide)]
      intro s a W hs hj hkp hd
      have e0 : a.tmps[48]?.getD undef = .pointer (some ⟨V.g, 0, none⟩) := (hd 5 (by kernel_rfl)).get 48 rfl rfl
      have e1 : a.tmps[49]?.getD undef = .agg (wCells (readV 31 2 0 3) none 0 0 none 0 0) := (hd 6 (by kernel_rfl)).get 49 rfl rfl
      have e2 : a.tmps[50]?.getD undef = .agg #[.int .i64 171, .slice none 0 0, .int .i64 1, .slice none 0 0] := (hd 7 (by kernel_rfl)).get 50 rfl rfl
      have eg : a.tmps[47]?.getD undef = .bool true := (hd 4 (by kernel_rfl)).get 47 rfl rfl
      obtain rfl : s = 1 := lo_at (by decide) rfl hs
      exact loud_call (wanted_at rfl rfl eg) 22 #[.pointer (some ⟨V.g, 0, none⟩), .agg (wCells (readV 31 2 0 3) none 0 0 none 0 0), .agg #[.int .i64 171, .slice none 0 0, .int .i64 1, .slice none 0 0]] (by go_simp) (hj.does_ HNL6.out (by omega) (readV 31 2 0 3) none 0 0 none 0 0 (readIn ⟨by unfold I64; omega, by unfold I64; omega, by unfold I64; omega, by unfold I64; omega⟩) (by intro a h0; omega) (errA 171 1) none 0 0 Reads.none_ (by intro a h0; omega) (by omega) wk_6 (wk 7) rfl _ rfl)
    · rw [if_neg (by decide)]
      intro s a W hj hkp hd
      have e0 : a.tmps[47]?.getD undef = .bool true := (hd 4 (by kernel_rfl)).get 47 rfl rfl
      have e1 : a.tmps[51]?.getD undef = .bool true := (hd 8 (by kernel_rfl)).get 51 rfl rfl
      exact rel_value rfl (.bool true) (by go_simp) rfl
    · rw [if_neg (by decide)]
      intro s a W hj hkp hd
      have e0 : a.tmps[52]?.getD undef = .bool true := (hd 9 (by kernel_rfl)).get 52 rfl rfl
      exact rel_value rfl (.bool true) (by go_simp) rfl
    · rw [if_neg (by decide)]
      intro s a W hj hkp hd
      have e0 : a.tmps[1]?.getD undef = .pointer (some ⟨V.g, 0, none⟩) := hkp.get (by kernel_rfl) rfl
      have eg : a.tmps[53]?.getD undef = .bool true := (hd 10 (by kernel_rfl)).get 53 rfl rfl
      exact rel_value (wanted_at rfl rfl eg) (.pointer (some ⟨V.g, 0, none⟩)) (by go_simp) rfl
    · rw [if_pos (by decide)]
      intro s a W hs hj hkp hd
      have e0 : a.tmps[54]?.getD undef = .pointer (some ⟨V.g, 0, none⟩) := (hd 11 (by kernel_rfl)).get 54 rfl rfl
      have eg : a.tmps[53]?.getD undef = .bool true := (hd 10 (by kernel_rfl)).get 53 rfl rfl
      obtain rfl : s = 2 := lo_at (by decide) rfl hs
      exact loud_call (wanted_at rfl rfl eg) 31 #[.pointer (some ⟨V.g, 0, none⟩)] (by go_simp) (hj.turn_ (by omega) (wk 8) 0 wk_7)
    · rw [if_neg (by decide)]
      intro s a W hj hkp hd
      have e0 : a.tmps[55]?.getD undef = .int .i64 0 := (hd 12 (by kernel_rfl)).get 55 rfl rfl
      have eg : a.tmps[53]?.getD undef = .bool true := (hd 10 (by kernel_rfl)).get 53 rfl rfl
      exact rel_value (wanted_at rfl rfl eg) (.bool true) (by go_simp) rfl
    · rw [if_neg (by decide)]
      intro s a W hj hkp hd
      have e0 : a.tmps[53]?.getD undef = .bool true := (hd 10 (by kernel_rfl)).get 53 rfl rfl
      have e1 : a.tmps[56]?.getD undef = .bool true := (hd 13 (by kernel_rfl)).get 56 rfl rfl
      exact rel_value rfl (.bool true) (by go_simp) rfl
    · rw [if_neg (by decide)]
      intro s a W hj hkp hd
      have e0 : a.tmps[57]?.getD undef = .bool true := (hd 14 (by kernel_rfl)).get 57 rfl rfl
      exact rel_value rfl (.bool true) (by go_simp) rfl
    · rw [if_neg (by decide)]
      intro s a W hj hkp hd
      have e0 : a.tmps[1]?.getD undef = .pointer (some ⟨V.g, 0, none⟩) := hkp.get (by kernel_rfl) rfl
      have eg : a.tmps[58]?.getD undef = .bool true := (hd 15 (by kernel_rfl)).get 58 rfl rfl
      exact rel_value (wanted_at rfl rfl eg) (.pointer (some ⟨V.g, 0, none⟩)) (by go_simp) rfl
    · rw [if_neg (by decide)]
      intro s a W hj hkp hd
      have eg : a.tmps[58]?.getD undef = .bool true := (hd 15 (by kernel_rfl)).get 58 rfl rfl
      exact rel_call (wanted_at rfl rfl eg) 19 #[.int .i64 31, .int .i64 2, .int .i64 1, .int .i64 3] (by go_simp) ((vread_any _ _ _ _ W).mono fun e w h => ⟨_, h.1, h.2, rfl⟩)
    · rw [if_neg (by decide)]
      intro s a W hj hkp hd
      have e0 : a.eval (.tmp 3) = .pointer (some ⟨g3, 0, none⟩) := hkp.at_ (by kernel_rfl)
      have eg : a.tmps[58]?.getD undef = .bool true := (hd 15 (by kernel_rfl)).get 58 rfl rfl
      exact rel_value (wanted_at rfl rfl eg) (.agg (aC 0 A7 16 q7 0)) (exec_load_part 47 (.tmp 3) rfl g3 0 4 e0 47 _ (aC 0 A7 16 q7 0) _ (HC3.out W (HS6.out.only.trans hj.only)) Tryz.underlying47 rfl rfl rfl (fun _ _ => by rw [Nat.zero_add])) rfl
    · rw [if_pos (by decide)]
      intro s a W hs hj hkp hd
      have e0 : a.tmps[59]?.getD undef = .pointer (some ⟨V.g, 0, none⟩) := (hd 16 (by kernel_rfl)).get 59 rfl rfl
      have e1 : a.tmps[60]?.getD undef = .agg (wCells (readV 31 2 1 3) none 0 0 none 0 0) := (hd 17 (by kernel_rfl)).get 60 rfl rfl
      have e2 : a.tmps[61]?.getD undef = .agg (aC 0 A7 16 q7 0) := (hd 18 (by kernel_rfl)).get 61 rfl rfl
      have eg : a.tmps[58]?.getD undef = .bool true := (hd 15 (by kernel_rfl)).get 58 rfl rfl
      obtain rfl : s = 3 := lo_at (by decide) rfl hs
      exact loud_call (wanted_at rfl rfl eg) 22 #[.pointer (some ⟨V.g, 0, none⟩), .agg (wCells (readV 31 2 1 3) none 0 0 none 0 0), .agg (aC 0 A7 16 q7 0)] (by go_simp) (hj.does_ HNL6.out (by omega) (readV 31 2 1 3) none 0 0 none 0 0 (readIn ⟨by unfold I64; omega, by unfold I64; omega, by unfold I64; omega, by unfold I64; omega⟩) (by intro a h0; omega) (dataA (rep16 7)) A7 16 q7 (HRC.out W (HS6.out.only.trans hj.only)) HA7.out (by omega) wk_8 (wk 9) rfl _ rfl)
    · rw [if_neg (by decide)]
      intro s a W hj hkp hd
      have e0 : a.tmps[58]?.getD undef = .bool true := (hd 15 (by kernel_rfl)).get 58 rfl rfl
      have e1 : a.tmps[62]?.getD undef = .bool true := (hd 19 (by kernel_rfl)).get 62 rfl rfl
      exact rel_value rfl (.bool true) (by go_simp) rfl
  intro f7 W7 hj7 hd7
  have f63 : f7 63 = .bool true := hd7 20 (by omega) _ 63 rfl rfl
  have HS7 := Lib.hid (show WkSt W6 V V.all (wk 9) 102 W7 from hj7)
  clear hd7 hj7
  simp only [putAll, List.drop_succ_cons, List.drop_zero, f63]
  try simp only [Act.put, List.setIfInBounds_toArray, List.set_cons_zero, List.set_cons_succ]
  have HEP := Lib.hid (vEpoch_any W7 V V.all (wk 9) HS7.out.vat)
  have HGR := Lib.hid (vGroup_any W7 V V.all (wk 9) HS7.out.vat)
  have HLV := Lib.hid (vLeaves_any W7 V V.all (wk 9) HS7.out.vat)
  rw [wk_9.1] at HEP
  rw [wk_9.2] at HGR
  have HBE := Lib.hid (show Below w.heap.size w W7 from by
    have h5 := HB5.out
    have h6 := (HS6.out.only.trans HS7.out.only).below (B := w.heap.size) h5.size (fun b hb hv => by have := HVN.out b hv; omega)
    exact h5.trans h6)
  go_wp2_with fail
  refine HEP.out.mono ?_
  rintro _ _ ⟨rfl, rfl⟩
  go_wp2_with fail
  refine HGR.out.mono ?_
  rintro _ _ ⟨rfl, rfl⟩
  go_wp2_with fail
  refine HLV.out.mono ?_
  rintro _ W8 ⟨v, vs, rfl, hov, hb8⟩
  obtain ⟨A8, c8, hv8, _⟩ := hov.slice
  rw [leavesV_len] at hv8
  subst hv8
  have HBF := Lib.hid (HBE.out.trans (hb8.mono (by have := HBE.out.size; omega)))
  clear hov hb8
  go_wp2_with fail
  go_ret
  exact ⟨rfl, HBF.out⟩

end Go.Proofs.YtcpngeiahgoacaaGreat

/- Lists of byte slices in memory, with their room. -/
namespace Go.Proofs.YtcpngeiahgoacaaGreat
set_option linter.unusedVariables false
open Go.RowKit Go.Maps

/-- slices of bytes, with their room -/
def RowsC (w : World) (B : Nat) (A : Option Addr) (n : Nat) (xss : List (List UInt8)) : Prop :=
  xss.length = n ∧ (0 < n → ∃ ad, A = some ad ∧ ad.block < B ∧ ∀ (k : Nat) (x : List UInt8), xss[k]? = some x → ∃ Ak mk ck, w.cell? (ad.add k) = some (.slice Ak mk ck) ∧ Reads w B 1 Ak mk (x.map vb) ∧ mk ≤ ck)
theorem RowsC.below {w w' : World} {B n : Nat} {A : Option Addr} {xss : List (List UInt8)} (h : RowsC w B A n xss) (hb : Below B w w') : RowsC w' B A n xss :=
  ⟨h.1, fun h0 => by
    obtain ⟨ad, hA, hB, hc⟩ := h.2 h0
    exact ⟨ad, hA, hB, fun k x hx => by
      obtain ⟨Ak, mk, ck, h1, h2, h3⟩ := hc k x hx
      exact ⟨Ak, mk, ck, (hb.cell (by rw [block_of_add]; exact hB)).trans h1, h2.below hb, h3⟩⟩⟩
theorem RowsC.more {w : World} {B B' n : Nat} {A : Option Addr} {xss : List (List UInt8)} (h : RowsC w B A n xss) (hB : B ≤ B') : RowsC w B' A n xss :=
  ⟨h.1, fun h0 => by
    obtain ⟨ad, h1, h2, h3⟩ := h.2 h0
    exact ⟨ad, h1, by omega, fun k x hx => by
      obtain ⟨Ak, mk, ck, q1, q2, q3⟩ := h3 k x hx
      exact ⟨Ak, mk, ck, q1, q2.more hB, q3⟩⟩⟩
theorem RowsC.rows {w : World} {B n : Nat} {A : Option Addr} {xss : List (List UInt8)} (h : RowsC w B A n xss) : RowsB w B A n xss :=
  ⟨h.1, fun h0 => by
    obtain ⟨ad, h1, h2, h3⟩ := h.2 h0
    exact ⟨ad, h1, h2, fun k x hx => by
      obtain ⟨Ak, mk, ck, q1, q2, q3⟩ := h3 k x hx
      exact ⟨Ak, mk, ck, q1, q2⟩⟩⟩
theorem OwnL.rowsC {w : World} {B0 : Nat} {v : Value} {xss : List (List UInt8)} {vs : List Value} (h : OwnL w B0 v xss vs) : ∃ A c, v = .slice A xss.length c ∧ xss.length ≤ c ∧ RowsC w w.heap.size A xss.length xss := by
  have hr := fun A c (hv : v = .slice A xss.length c) => Reads.of_own (A := A) (c := c) (by rw [← hv]; exact h.row)
  have hrow : ∀ A, Reads w w.heap.size 1 A xss.length vs → RowsC w w.heap.size A xss.length xss := fun A hrd => ⟨rfl, fun h0 => by
    obtain ⟨ad, rfl, hlt, hc⟩ := hrd.2 h0
    refine ⟨ad, rfl, hlt, fun k x hx => ?_⟩
    obtain ⟨u, h1, h2⟩ := h.at_ k x hx
    obtain ⟨Ak, ck, rfl, h5, _, h3, _⟩ := own_slice_b h2
    exact ⟨Ak, x.length, ck, hc k _ h1, h3, h5⟩⟩
  rcases h.row.2 with ⟨rfl, h0⟩ | ⟨g, cap, cur, rfl, hg, _, h1, h2, _⟩
  · exact ⟨none, 0, by rw [h0], by omega, hrow _ (hr none 0 (by rw [h0]))⟩
  · exact ⟨_, cap, rfl, h1, hrow _ (hr _ _ rfl)⟩

end Go.Proofs.YtcpngeiahgoacaaGreat
