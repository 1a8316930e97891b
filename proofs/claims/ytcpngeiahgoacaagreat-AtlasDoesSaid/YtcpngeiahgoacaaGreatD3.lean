/- Parts of the proof, in one text: SumPlain, Sum, EqDig, Copy, InkMap, ShaOf, Beside, QuietTail. -/
import Derived.Test.YtcpngeiahgoacaaGreatD2
import Derived.Deep.DeepCutAuto
import Derived.Stop.BytesEq
import Derived.Laws.StructEq
import Derived.Test.YtcpngeiahgoacaaGreatRows
import Derived.Test.YtcpngeiahgoacaaGreatD1
import Derived.Deep.LoopGhost
import Derived.WideKeyArr
import Derived.Maps.Own
import Derived.Maps.OwnSet
import Derived.Maps.Views
import Derived.Maps.StringElems
import Derived.StillTail
import Derived.Deep.QuietTactic
import Derived.BigQuiet
import Derived.Lib.QuietBelow
namespace Go.Proofs.YtcpngeiahgoacaaGreat
set_option linter.unusedVariables false
set_option linter.unusedSimpArgs false
set_option maxRecDepth 100000
set_option maxHeartbeats 16000000
section
def Q2O (f:Nat->UInt8):List UInt8:=(List.range 64).map f
theorem Q3t (f:Nat->UInt8):(Q2O f).length=64:=by simp [Q2O]
theorem Q6I (f:Nat->UInt8) (j:Nat) (h:j<(Q2O f).length):(Q2O f)[j]=f j:=by simp [Q2O]
theorem Q8h (f:Nat->UInt8) (l:List UInt8) (hl:l.length=64) (h:∀ j,j<64->l[j]?=some (f j)):l=Q2O f:=by
 apply List.ext_getElem?
 intro i;rcases Nat.lt_or_ge i 64 with hi | hi
 ·rw [h i hi,List.getElem?_eq_getElem (by rw [Q3t]; exact hi),Q6I]
 ·rw [List.getElem?_eq_none (by omega),List.getElem?_eq_none (by rw [Q3t]; exact hi)]
def padF (p:List UInt8) (j:Nat):UInt8:=if j<p.length then p.getD j 0 else if j=p.length then 128 else 0
def lenF (base:Nat->UInt8) (n j:Nat):UInt8:=if 56<=j then(be8 n).getD (j - 56) 0 else base j
theorem pad_eq (p:List UInt8) (h:p.length<64):p++[128]++List.replicate (63 - p.length) 0=Q2O (padF p):=by
 refine Q8h _ _ (by simp; omega) fun j hj=>?_
 unfold padF;by_cases h1:j<p.length
 ·rw [if_pos h1,List.append_assoc,List.getElem?_append_left h1,List.getD_eq_getElem?_getD,List.getElem?_eq_getElem h1]; rfl
 ·rw [if_neg h1,List.append_assoc,List.getElem?_append_right (by omega)];by_cases h2:j=p.length
  ·subst h2; simp
  ·rw [if_neg h2,List.getElem?_append_right (by simp; omega),List.getElem?_replicate,if_pos (by simp; omega)]
theorem Q1Q (l:List UInt8) (j:Nat) (h:j<l.length):l[j]?=some (l.getD j 0):=by
 rw [List.getD_eq_getElem?_getD,List.getElem?_eq_getElem h]; rfl
theorem len_eq0 (n:Nat):List.replicate 56 0++be8 n=Q2O (lenF (fun _=>0) n):=by
 refine Q8h _ _ (by simp [Q2D]) fun j hj=>?_
 unfold lenF;by_cases h1:56<=j
 ·rw [if_pos h1,List.getElem?_append_right (by simpa using h1),List.length_replicate];exact Q1Q _ _ (by rw [Q2D]; omega)
 ·rw [if_neg h1,List.getElem?_append_left (by simp; omega),List.getElem?_replicate,if_pos (by omega)]
theorem len_eq1 (p:List UInt8) (n:Nat) (h:p.length<56):p++[128]++List.replicate (55 - p.length) 0++be8 n=Q2O (lenF (padF p) n):=by
 refine Q8h _ _ (by simp [Q2D]; omega) fun j hj=>?_
 unfold lenF;have hl:(p++[128]++List.replicate (55 - p.length) 0).length=56:=by simp; omega
 by_cases h1:56<=j
 ·rw [if_pos h1,List.getElem?_append_right (by rw [hl]; exact h1),hl];exact Q1Q _ _ (by rw [Q2D]; omega)
 ·rw [if_neg h1,List.getElem?_append_left (by rw [hl]; omega)];unfold padF;by_cases h1:j<p.length
  ·rw [if_pos h1,List.append_assoc,List.getElem?_append_left h1,List.getD_eq_getElem?_getD,List.getElem?_eq_getElem h1]; rfl
  ·rw [if_neg h1,List.append_assoc,List.getElem?_append_right (by omega)];by_cases h2:j=p.length
   ·subst h2; simp
   ·rw [if_neg h2,List.getElem?_append_right (by simp; omega),List.getElem?_replicate,if_pos (by simp; omega)]
theorem last_hi (s:St) (p:List UInt8) (n:Nat) (h:56<=p.length) (h':p.length<64) :
 Q29 s p n=Q0x (Q0x s (Q2O (padF p))) (Q2O (lenF (fun _=>0) n)):=by
 rw [Q29,if_pos h,pad_eq p h',len_eq0]
theorem last_lo (s:St) (p:List UInt8) (n:Nat) (h:p.length<56) :
 Q29 s p n=Q0x s (Q2O (lenF (padF p) n)):=by
 rw [Q29,if_neg (by omega),len_eq1 p n h]
theorem be8_get (n i:Nat) (h:i<8):(be8 n).getD (7 - i) 0=UInt8.ofNat (8*n / 2 ^ (8*i)):=by
 unfold be8;rw [List.getD_eq_getElem?_getD,List.getElem?_map,List.getElem?_range (by omega)];simp only [Option.map_some,Option.getD_some];rw [show 7 - (7 - i)=i by omega]
theorem Qbh (s:St) (i:Nat) (h:i<32):(outB s).getD i 0=w8 (s.list.getD (i / 4) 0 >>> (24 - 8*(i % 4))):=by
 unfold outB;rw [List.getD_eq_getElem?_getD,List.getElem?_map,List.getElem?_range h]; rfl
end
section
open Go.RowKit
attribute [local irreducible] wpList
attribute [local go_sem] Q8x Q5X Q8V Q63 Q9G w_or Q8j Q96 Q7n Q66 Q4e Q85 Q5A Q7u Q5s Q3S Q3n Q4S Q4r
def bRow (l:List UInt8):Array Value:=(l.map vb).toArray
theorem clr_eq (b:Nat->UInt8) (k m:Nat) (h:k+(m+1)=64):spl (rng 64 (fun j=>vb (b j))) k (List.replicate (m+1) (.int .u8 0))=rng 64 (fun j=>vb (if j<k then b j else 0)):=by
 rw [Q6R (m:=m+1) (g:=fun _=>.int .u8 0) (by simp) (fun j hj=>by rw [List.getElem?_replicate,if_pos hj]) (by omega)];refine Q1n fun j hj=>?_
 by_cases h1:j<k
 ·rw [if_neg (by omega),if_pos h1]
 ·rw [if_pos (by omega),if_neg h1]; rfl
theorem pad_set (b:Nat->UInt8) (p:List UInt8) (hb:∀ j,j<p.length->b j=p.getD j 0):(rng 64 (fun j=>vb (if j<p.length then b j else 0))).setIfInBounds p.length (.int .u8 128)=rng 64 (fun j=>vb (padF p j)):=by
 rw [Q2f];refine Q1n fun j _=>?_
 unfold padF;by_cases h1:j<p.length
 ·rw [if_neg (by omega),if_pos h1,if_pos h1,hb j h1]
 ·by_cases h2:j=p.length
  ·rw [if_pos h2,if_neg h1,if_pos h2]; rfl
  ·rw [if_neg h2,if_neg h1,if_neg h1,if_neg h2]
def Q9Y (base:Nat->UInt8) (n k j:Nat):UInt8:=if 64 - k<=j then(be8 n).getD (j - 56) 0 else base j
theorem QbH (base:Nat->UInt8) (n:Nat):rng 64 (fun j=>vb (Q9Y base n 0 j))=rng 64 (fun j=>vb (base j)):=Q1n fun j hj=>by unfold Q9Y; rw [if_neg (by omega)]
theorem lenTo_8 (base:Nat->UInt8) (n:Nat):rng 64 (fun j=>vb (Q9Y base n 8 j))=rng 64 (fun j=>vb (lenF base n j)):=rfl
theorem QbE (base:Nat->UInt8) (n k:Nat) (h:k<8):(rng 64 (fun j=>vb (Q9Y base n k j))).setIfInBounds (63 - k) (vb (UInt8.ofNat (8*n / 2 ^ (8*k))))=rng 64 (fun j=>vb (Q9Y base n (k+1) j)):=by
 rw [Q2f];refine Q1n fun j hj=>?_
 unfold Q9Y;by_cases h1:j=63 - k
 ·rw [if_pos h1,if_pos (by omega),h1,show 63 - k - 56=7 - k by omega,be8_get n k h]
 ·rw [if_neg h1];by_cases h2:64 - k<=j
  ·rw [if_pos h2,if_pos (by omega)]
  ·rw [if_neg h2,if_neg (by omega)]
theorem Qdf (n k:Nat) (h:k<8):IntKind.u64.wrap (8*(n:Int)) / 2 ^ (8*k) % 256=bi (UInt8.ofNat (8*n / 2 ^ (8*k))):=by
 unfold bi;rw [UInt8.toNat_ofNat',IntKind.wrap_u64];match k,h with
 | 0,_ | 1,_ | 2,_ | 3,_ | 4,_ | 5,_ | 6,_ | 7,_=>simp only [Nat.reduceMul,Nat.reducePow,Int.reducePow]; omega
theorem Qb1 (R:St) (j:Nat) (h:j<8):R.vals[j]?=some (.int .u32 (wi (R.list.getD j 0))):=by
 match j,h with
 | 0,_ | 1,_ | 2,_ | 3,_ | 4,_ | 5,_ | 6,_ | 7,_=>rfl
theorem Q1j (l:List UInt8):(bRow l).size=l.length:=by simp [bRow]
theorem Q0K (l:List UInt8):(bRow l).all (·.oneCell')=true:=by simp [bRow,vb,Value.oneCell']
theorem dig_next (l:List UInt8) (k:Nat):(rng 32 (fun j=>if j<k then vb (l.getD j 0) else .int .u8 0)).setIfInBounds k (vb (l.getD k 0))=rng 32 (fun j=>if j<k+1 then vb (l.getD j 0) else .int .u8 0):=by
 rw [Q2f];refine Q1n fun j hj=>?_
 by_cases h1:j=k
 ·subst h1; rw [if_pos rfl,if_pos (by omega)]
 ·rw [if_neg h1];by_cases h2:j<k
  ·rw [if_pos h2,if_pos (by omega)]
  ·rw [if_neg h2,if_neg (by omega)]
theorem dig_full (s:St):bRow (outB s)=rng 32 (fun j=>if j<32 then vb ((outB s).getD j 0) else .int .u8 0):=by
 refine Q40 (by rw [Q1j,Q55]) fun j hj=>?_
 have hl:=Q55 s;rw [if_pos hj,bRow,List.getElem?_toArray,List.getElem?_map,Q1Q _ _ (by omega)]; rfl
theorem Q7K {W:World} {g:Nat} {t:TypeId} {d m x y:Int} {s b:Nat->Value} (hB:Blk W g t (Q0n d m kF s b x y)):Q6w W ⟨g,4,none⟩ kc:=by
 intro j hj;have hj':j<64:=hj;rw [Q13,hB.cell,hash_k _ _ _ _ _ _ _ _ hj',kF,List.getD_eq_getElem?_getD,List.getElem?_eq_getElem hj]; rfl
theorem Q5x {W:World} {g:Nat} {t:TypeId} {S:St} (hB:Blk W g t S.vals) :
 (W.cell? ⟨g,0,none⟩=some (.int .u32 (wi S.a))/\W.cell? ⟨g,1,none⟩=some (.int .u32 (wi S.b))/\W.cell? ⟨g,2,none⟩=some (.int .u32 (wi S.c))/\W.cell? ⟨g,3,none⟩=some (.int .u32 (wi S.d)) /\
  W.cell? ⟨g,4,none⟩=some (.int .u32 (wi S.e))/\W.cell? ⟨g,5,none⟩=some (.int .u32 (wi S.f))/\W.cell? ⟨g,6,none⟩=some (.int .u32 (wi S.g))/\W.cell? ⟨g,7,none⟩=some (.int .u32 (wi S.h)))/\∀ j,W.frozen? ⟨g,j,none⟩=false :=
 ⟨⟨(hB.cell 0).trans rfl,(hB.cell 1).trans rfl,(hB.cell 2).trans rfl,(hB.cell 3).trans rfl,(hB.cell 4).trans rfl,(hB.cell 5).trans rfl,(hB.cell 6).trans rfl,(hB.cell 7).trans rfl⟩,hB.frozen⟩
theorem Q7M {P:Program} (R:St) {W:World} {g:Nat} {t:TypeId} {S:St} (hB:Blk W g t S.vals) :
 (storeCells ⟨g,0,none⟩ R.vals.toList 0).run P W=.ok () (W.setCells g 0 R.vals.toList) :=
 run_storeCells_cells (P:=P) g 0 R.vals.toList 0 W (fun j hj=>((hB.there 0 8 (by rw [Q0X]; omega)) j hj).1) (fun j hj=>((hB.there 0 8 (by rw [Q0X]; omega)) j hj).2) (Q8l R)
theorem QaR {W:World} {g:Nat} {t:TypeId} {S:St} (R:St) (hB:Blk W g t S.vals) :
 Blk (W.setCells g 0 R.vals.toList) g t R.vals/\Q0c g W (W.setCells g 0 R.vals.toList):=by
 have h:=hB.setCells 0 R.vals.toList (by rw [Q8w,Q0X]; omega);rw [Q08 _ _ (by rw [Q0X,Q0X])] at h;exact h
theorem sum_any (g:Nat) (l:List UInt8) (w:World) (h:Q4A w g l) (hlen:l.length<=maxLen) :
 Calls Tryz.prog 207 #[.pointer (some ⟨g,0,none⟩)] w fun e w'=>e=.returned (.tuple #[.agg (bRow (Q14 l)),.int .i64 0])/\Q3E w' g l/\w.grownBy w' (some g):=by
 unfold maxLen at hlen;have hgl:=h.lt;have c0:w.cell? ⟨g,0,none⟩=some (.bool true):=by
  rcases h with⟨b,h1,_⟩ | ⟨_,h1⟩ <;> exact(h1.cell 0).trans (Q2e _ _ _ _ _ _ _ 0 (by omega))
 have hnot:∀ (x:Bool) (w:World),(Op.unary .not (.bool x)).run Tryz.prog w=.ok (.bool (!x)) w:=fun _ _=>rfl
 have HH:=Lib.hid h;clear h;go_enter Tryz.func207,Tryz.ntmps207
 go_wp2_with fail
 have hWB:=Blk.new w 60 (rng 32 z8);have hR:rng 32 z8=Array.replicate 32 (.int .u8 0):=(Q40 (by simp) fun j hj=>by simp [z8,hj]).symm;rw [hR] at hWB;have hWs:(w.alloc (.cells (Array.replicate 32 (.int .u8 0)) 60)).heap.size=w.heap.size+1:=by simp
 have hWh:=HH.out.keep (Below.heap_alloc w (.cells (Array.replicate 32 (.int .u8 0)) 60) g hgl);have hWg:=Q4p (World.grownBy.refl w (some g)) (.cells (Array.replicate 32 (.int .u8 0)) 60);have hlit:Array.replicate 32 (Value.int .u8 0)=#[.int .u8 0,.int .u8 0,.int .u8 0,.int .u8 0,.int .u8 0,.int .u8 0,.int .u8 0,.int .u8 0,.int .u8 0,.int .u8 0,.int .u8 0,.int .u8 0,.int .u8 0,.int .u8 0,.int .u8 0,.int .u8 0,.int .u8 0,.int .u8 0,.int .u8 0,.int .u8 0,.int .u8 0,.int .u8 0,.int .u8 0,.int .u8 0,.int .u8 0,.int .u8 0,.int .u8 0,.int .u8 0,.int .u8 0,.int .u8 0,.int .u8 0,.int .u8 0]:=rfl;rw [hlit] at hWB hWs hWh hWg;generalize w.alloc _=W at hWB hWs hWh hWg ⊢;refine(Q9y g l W hWh).mono ?_;rintro _ w1 ⟨rfl,⟨b,hB,hbb⟩,hg1⟩;clear hlit hR;have hRB:=hWB.grown hg1 (by intro e; injection e with e; omega);have hsz1:=hg1.size;rw [hWs] at hsz1;have hg2:=hWg.trans hg1;have hpl:=Qb2 l;have hll:=Qde l;clear hWB hWs hWh hWg hg1 c0;generalize hA:acc l=SP at *;obtain⟨S,p⟩:=SP;simp only at hpl hll hB hbb;have HA:=Lib.hid hA;have HB:=Lib.hid hB;have HBB:=Lib.hid hbb;have HRB:=Lib.hid hRB;have HLL:=Lib.hid hll;clear hA hbb hRB hll;have hgl1:=hB.lt;have q:=(Q6y hB).1;clear hB;go_upto_region 4 with fail
 go_cut [4,5] (fun s4 s5 wx=>∃ gs gb:Nat,s4=.pointer (some ⟨gs,0,none⟩)/\s5=.pointer (some ⟨gb,0,none⟩)/\w1.heap.size<=gs/\w1.heap.size<=gb/\Blk wx gs 274 S.vals/\Blk wx gb 275 (rng 64 (fun j=>vb (b j)))/\Below w1.heap.size w1 wx)
 case first =>
  have hB:=HB.out;refine wp_region_held_drew (S:=fun w'=>Blk w' g 277 (Q0n 1 0 kF (sF S) (fun j=>vb (b j)) (p.length:Nat) (l.length:Nat))) (by kernel_rfl) hB.drew (fun hS0=>?_);refine wpAnyH_take (i:=0) (oi:=_) (v:=_) rfl (by kernel_rfl) (by kernel_rfl) (by kernel_rfl) (fun _ _ _ h=>h) (Or.inl ⟨rfl,fun w hS=>by first | (go_simp; done) | (go_simp; rfl)⟩) hS0 ?_;simp only [Act.put,List.setIfInBounds_toArray];refine wpAnyH_take (i:=1) (oi:=_) (v:=_) rfl (by kernel_rfl) (by kernel_rfl) (by kernel_rfl) (fun _ _ _ h=>h) (Or.inl ⟨rfl,fun w hS=>by first | (go_simp; done) | (go_simp; rfl)⟩) hS0 ?_;simp only [Act.put];refine wpAnyH_take (i:=2) (oi:=_) (v:=_) rfl (by kernel_rfl) (by kernel_rfl) (by kernel_rfl) (fun _ _ _ h=>h) (Or.inl ⟨rfl,fun w hS=>by first | (go_simp; done) | (go_simp; rfl)⟩) hS0 ?_;simp only [Act.put];refine wpAnyH_take (i:=3) (oi:=_) (v:=_) rfl (by kernel_rfl) (by kernel_rfl) (by kernel_rfl) (fun _ _ _ h=>h) (Or.inl ⟨rfl,fun w hS=>Q0m 274 _ rfl g 68 8 rfl 277 _ S.vals _ hS Tryz.underlying274 rfl rfl rfl (fun j hj=>by rw [Q4Y _ _ _ _ _ _ _ _ hj]; rw [<- Array.getElem?_toList]; exact(Qdk S j hj).symm)⟩) hS0 ?_;simp only [Act.put];refine wpAnyH_take (i:=4) (oi:=_) (v:=_) rfl (by kernel_rfl) (by kernel_rfl) (by kernel_rfl) (fun _ _ _ h=>h) (Or.inl ⟨rfl,fun w hS=>by first | (go_simp; done) | (go_simp; rfl)⟩) hS0 ?_;simp only [Act.put];refine wpAnyH_take (i:=5) (oi:=_) (v:=_) rfl (by kernel_rfl) (by kernel_rfl) (by kernel_rfl) (fun _ _ _ h=>h) (Or.inl ⟨rfl,fun w hS=>by first | (go_simp; done) | (go_simp; rfl)⟩) hS0 ?_;simp only [Act.put];refine wpAnyH_take (i:=6) (oi:=_) (v:=_) rfl (by kernel_rfl) (by kernel_rfl) (by kernel_rfl) (fun _ _ _ h=>h) (Or.inl ⟨rfl,fun w hS=>by first | (go_simp; done) | (go_simp; rfl)⟩) hS0 ?_;simp only [Act.put];refine wpAnyH_take (i:=7) (oi:=_) (v:=_) rfl (by kernel_rfl) (by kernel_rfl) (by kernel_rfl) (fun _ _ _ h=>h) (Or.inl ⟨rfl,fun w hS=>Q0m 275 _ rfl g 76 64 rfl 277 _ (rng 64 (fun j=>vb (b j))) _ hS Tryz.underlying275 rfl rfl (Q0C _ _) (fun j hj=>by rw [hash_b _ _ _ _ _ _ _ _ hj,Q1z _ _ _ hj])⟩) hS0 ?_;simp only [Act.put];refine wpAnyH_ready (rs:=[8,9]) (by kernel_rfl) (by simp) ?_;refine AllReadyH.cons rfl (fun K hK=>?_) (AllReadyH.cons rfl (fun K hK=>?_) AllReadyH.nil)
  ·go_simp
   refine hK.out _ _ (hB.alloc _).drew (fun _=>?_);clear hK K;refine wpAnyH_ready (rs:=[9]) (by kernel_rfl) (by simp) ?_;refine AllReadyH.cons rfl (fun K hK=>?_) AllReadyH.nil
   go_simp
   refine hK.out _ _ ((hB.alloc _).alloc _).drew (fun _=>?_);clear hK K;refine wpAnyH_ready (rs:=[10]) (by kernel_rfl) (by simp) ?_;refine AllReadyH.cons rfl (fun K hK=>?_) AllReadyH.nil;refine Q2d rfl 274 _ _ rfl w1.heap.size 0 S.vals rfl rfl 274 _ ((Blk.newAt rfl).alloc _).drew rfl (by simp [St.vals]) (Q39 S) ?_;intro W5 hT5 hB5;have hh5:=hT5.blk ((hB.alloc _).alloc _).drew (by omega);have hb5:=hT5.blk (k:=(w1.heap.size+1)) (t:=275) (Blk.newAt (by simp)).drew (by omega);have hbe5:=hT5.below (((Below.refl w1.heap.size w1).alloc (Nat.le_refl _) _).alloc (by simp) _).drew (by omega);refine hK.out _ _ hh5 (fun _=>?_);clear hK K;refine wpAnyH_ready (rs:=[11]) (by kernel_rfl) (by simp) ?_;refine AllReadyH.cons rfl (fun K hK=>?_) AllReadyH.nil;refine Q2d rfl 275 _ _ rfl (w1.heap.size+1) 0 (rng 64 (fun j=>vb (b j))) rfl rfl 275 _ hb5 (by rw [Q0C]; rfl) (by rw [Q0C]; simp) (by simp [rng,vb,Value.oneCell']) ?_;intro W6 hT6 hB6;refine hK.out _ _ (hT6.blk hh5 (by omega)) (fun _=>?_);refine wpAnyH_done (by kernel_rfl) ?_ _;rw [Q08 _ _ (by simp [St.vals])] at hB5;rw [Q08 _ _ (by rw [Q0C]; simp)] at hB6;go_wp2_with fail
   go_meet
   exact⟨w1.heap.size,(w1.heap.size+1),rfl,rfl,by omega,by omega,hT6.blk hB5 (by omega),hB6,hT6.below hbe5 (by omega)⟩
  ·go_simp
   refine hK.out _ _ (hB.alloc _).drew (fun _=>?_);clear hK K;refine wpAnyH_ready (rs:=[8]) (by kernel_rfl) (by simp) ?_;refine AllReadyH.cons rfl (fun K hK=>?_) AllReadyH.nil
   go_simp
   refine hK.out _ _ ((hB.alloc _).alloc _).drew (fun _=>?_);clear hK K;refine wpAnyH_ready (rs:=[10]) (by kernel_rfl) (by simp) ?_;refine AllReadyH.cons rfl (fun K hK=>?_) AllReadyH.nil;refine Q2d rfl 274 _ _ rfl (w1.heap.size+1) 0 S.vals rfl rfl 274 _ (Blk.newAt (by simp)).drew rfl (by simp [St.vals]) (Q39 S) ?_;intro W5 hT5 hB5;have hh5:=hT5.blk ((hB.alloc _).alloc _).drew (by omega);have hb5:=hT5.blk (k:=w1.heap.size) (t:=275) ((Blk.newAt rfl).alloc _).drew (by omega);have hbe5:=hT5.below (((Below.refl w1.heap.size w1).alloc (Nat.le_refl _) _).alloc (by simp) _).drew (by omega);refine hK.out _ _ hh5 (fun _=>?_);clear hK K;refine wpAnyH_ready (rs:=[11]) (by kernel_rfl) (by simp) ?_;refine AllReadyH.cons rfl (fun K hK=>?_) AllReadyH.nil;refine Q2d rfl 275 _ _ rfl w1.heap.size 0 (rng 64 (fun j=>vb (b j))) rfl rfl 275 _ hb5 (by rw [Q0C]; rfl) (by rw [Q0C]; simp) (by simp [rng,vb,Value.oneCell']) ?_;intro W6 hT6 hB6;refine hK.out _ _ (hT6.blk hh5 (by omega)) (fun _=>?_);refine wpAnyH_done (by kernel_rfl) ?_ _;rw [Q08 _ _ (by simp [St.vals])] at hB5;rw [Q08 _ _ (by rw [Q0C]; simp)] at hB6;go_wp2_with fail
   go_meet
   exact⟨(w1.heap.size+1),w1.heap.size,rfl,rfl,by omega,by omega,hT6.blk hB5 (by omega),hB6,hT6.below hbe5 (by omega)⟩
 case rest =>
  obtain⟨gs,gb,rfl,rfl,hgs,hgb,hBs,hBb,hbel⟩:=hcut;have hBh:=HB.out.below hbel (by omega);have hBr:=HRB.out.below hbel (by omega);have c140:=(hBh.cell 140).trans (Q48 _ _ _ _ _ _ _);have hnsb:=hBs.ne_ hBb (by decide);have hr1:=fun W=>Q4E (P:=Tryz.prog) (t:=275) (e:=5) (n:=64) rfl rfl ⟨gb,0,none⟩ p.length (p.length:Int) rfl hpl W
  rw [Q13,Nat.zero_add] at hr1;obtain⟨m,hm⟩:∃ m,64 - p.length=m+1:=⟨63 - p.length,by omega⟩;rw [hm] at hr1;have HM:=Lib.hid hm;have HBs:=Lib.hid hBs;have HBb:=Lib.hid hBb;have HBh:=Lib.hid hBh;have HBr:=Lib.hid hBr;have HBE:=Lib.hid hbel;clear hBs hBb hBh hBr hbel hm
  go_upto_if 43 with(refine Q3x rfl (.tmp 33) 22 5 rfl gb p.length m (m+1) 275 _ (.int .u8 0) rfl Tryz.underlying22 (Tryz.zeroValue5 _) rfl rfl HBb.out (by rw [Q0C]; have:=HM.out; omega) ?_; intro W2 hT2 hB2; rw [clr_eq b p.length m (by have:=HM.out; omega)] at hB2; have c140b:=((hT2.blk HBh.out (by omega)).cell 140).trans (Q48 _ _ _ _ _ _ _); have cz:=(hB2.cell p.length).trans (Q1z _ _ _ hpl); have fz:=hB2.frozen p.length; have HB2:=Lib.hid hB2; clear hB2)
  have hB3:=HB2.out.set_ p.length (.int .u8 128);rw [pad_set b p HBB.out] at hB3;have hT3:=hT2.trans (Q0c.setCell W2 ⟨gb,p.length,none⟩ (.int .u8 128));generalize W2.setCell ⟨gb,p.length,none⟩ (.int .u8 128)=W3 at hB3 hT3 ⊢;have hBe3:=hT3.below HBE.out hgb;have hBh3:=hT3.blk HBh.out (by omega);have hBs3:=hT3.blk HBs.out hnsb;clear c140 c140b cz fz hr1 HB2 hT2
  go_cut [50] (fun _s50 wx=>∃ (S':St) (base:Nat->UInt8),Blk wx gs 274 S'.vals/\Blk wx gb 275 (rng 64 (fun j=>vb (base j)))/\Q29 S p l.length=Q0x S' (Q2O (lenF base l.length))/\Below w1.heap.size w1 wx)
  case first =>
   by_cases h56:56<=p.length
   ·have hby:Q4L W3 ⟨gb,0,none⟩ (Q2O (padF p)):=by
     intro j hj;have hj':j<64:=by rw [Q3t] at hj; exact hj
     rw [Q13,Nat.zero_add,hB3.cell,Q1z _ _ _ hj',Q6I]
    have hwk:=Q7K hBh3;have HT:=Lib.hid (Q8E S _ ⟨gb,0,none⟩ ⟨g,4,none⟩ W3.drew (Q3t _) hby hwk hB3.lt hBh3.lt);have hq:=(Q5x hBs3).1;have hvs:=Q0X (Q0x S (Q2O (padF p)));have hgsl:=hBs3.lt;have hgbl:=hB3.lt;have HBs3:=Lib.hid hBs3;have HB3:=Lib.hid hB3;have HBe3:=Lib.hid hBe3;have HT3:=Lib.hid hT3;clear hBs3 hB3 hby hwk hBh3 hBe3 hT3
    go_wp2
    go_region_law (go_simp; go_at_call 219; refine HT.out.mono ?_; rintro _ w4 ⟨rfl,hb4⟩; have hst4:=(Q7M (P:=Tryz.prog) (Q0x S (Q2O (padF p))) (HBs3.out.drew.below hb4 hgsl)))
    have h5:=QaR (Q0x S (Q2O (padF p))) (HBs3.out.drew.below hb4 hgsl);have hB5:=h5.2.blk (HB3.out.drew.below hb4 hgbl) (Ne.symm hnsb);have hE5:=h5.2.below (HBe3.out.trans ((Below.refl _ W3).drew.trans (hb4.mono (by have:=HBe3.out.size; exact this)))) hgs;generalize (w4.setCells gs 0 (Q0x S (Q2O (padF p))).vals.toList)=W5 at h5 hB5 hE5 ⊢;have h50:=h5.1;clear h5 hst4 hq hvs;have HB5:=Lib.hid hB5;clear hB5;go_wp2_with (refine Q3x rfl (.tmp 49) 22 5 rfl gb 0 63 64 275 _ (.int .u8 0) rfl Tryz.underlying22 (Tryz.zeroValue5 _) rfl rfl HB5.out (by rw [Q0C]; omega) ?_; intro W6 hT6 hB6)
    rw [clr_eq (padF p) 0 63 (by omega)] at hB6;go_meet
    exact⟨Q0x S (Q2O (padF p)),fun _=>0,hT6.blk h50 hnsb,hB6,last_hi S p l.length h56 hpl,hT6.below hE5 hgb⟩
   ·go_wp2_with fail
    go_meet
    exact⟨S,padF p,hBs3,hB3,last_lo S p l.length (by omega),hBe3⟩
  case rest =>
   obtain⟨S',base,hBs,hBb,hlast,hbe⟩:=hcut;clear hBs3 hB3 hBe3 hBh3 hT3;have hBh:=HB.out.below hbe (by omega);have hBr:=HRB.out.below hbe (by omega);have HLA:=Lib.hid hlast;clear hlast;go_wp2_with fail
   go_loopw [50] (fun i wr=>∃ k:Nat,k<=8/\i=.int .i64 k/\Blk wr gb 275 (rng 64 (fun j=>vb (Q9Y base l.length k j)))/\Q0c gb wc wr) (fun i _=>8 - (intOf i).toNat)
   case atStart=>exact⟨0,by omega,rfl,by rw [QbH]; exact hBb,Q0c.refl _ _⟩
   case round =>
    obtain⟨k,hk,rfl,hBk,hTk⟩:=hrel;by_cases hk8:k<8
    ·have c141:=((hTk.blk hBh (by omega)).cell 141).trans (Q9v _ _ _ _ _ _ _);have e1:((63:Int) - (k:Int)).toNat=63 - k:=by omega
     have cz:=(hBk.cell (63 - k)).trans (Q1z _ _ _ (by omega));have fz:=hBk.frozen (63 - k);unfold vb at cz;have HBk:=Lib.hid hBk;have HTk:=Lib.hid hTk;clear hBk hTk hBb hBs hBh hBr
     go_wp2
     go_roundw
     case measure=>simp [intOf]; omega
     case rel =>
      have h2:=HBk.out.set_ (63 - k) (vb (UInt8.ofNat (8*l.length / 2 ^ (8*k))));rw [QbE base l.length k hk8] at h2;rw [Qdf l.length k hk8];exact⟨k+1,by omega,by go_num,h2,HTk.out.trans (Q0c.setCell wr ⟨gb,63 - k,none⟩ _)⟩
    ·obtain rfl:k=8:=by omega
     rw [lenTo_8] at hBk;have hB3:=hBk;have hBs3:=hTk.blk hBs hnsb;have hBh3:=hTk.blk hBh (by omega);have hBr3:=hTk.blk hBr (by omega);have hBe3:=hTk.below hbe hgb;clear hBk hBs hBh hBr hbe hBb;have hby:Q4L wr ⟨gb,0,none⟩ (Q2O (lenF base l.length)):=by
      intro j hj;have hj':j<64:=by rw [Q3t] at hj; exact hj
      rw [Q13,Nat.zero_add,hB3.cell,Q1z _ _ _ hj',Q6I]
     have hwk:=Q7K hBh3;have HT:=Lib.hid (Q8E S' _ ⟨gb,0,none⟩ ⟨g,4,none⟩ wr.drew (Q3t _) hby hwk hB3.lt hBh3.lt);have hq:=(Q5x hBs3).1;have hvs:=Q0X (Q0x S' (Q2O (lenF base l.length)));have hgsl:=hBs3.lt;have hghl:=hBh3.lt;have hgrl:=hBr3.lt;have HBs3:=Lib.hid hBs3;have HBh3:=Lib.hid hBh3;have HBr3:=Lib.hid hBr3;have HBe3:=Lib.hid hBe3;clear hBs3 hB3 hby hwk hBh3 hBe3 hBr3 hTk
     go_wp2
     go_region_law (go_simp; go_at_call 219; refine HT.out.mono ?_; rintro _ w4 ⟨rfl,hb4⟩; have hst4:=(Q7M (P:=Tryz.prog) (Q0x S' (Q2O (lenF base l.length))) (HBs3.out.drew.below hb4 hgsl)))
     have h5:=QaR (Q0x S' (Q2O (lenF base l.length))) (HBs3.out.drew.below hb4 hgsl);have hB5:=h5.2.blk (HBh3.out.drew.below hb4 hghl) (by omega);have hR5:=h5.2.blk (HBr3.out.drew.below hb4 hgrl) (by omega);have hE5:=h5.2.below (HBe3.out.trans ((Below.refl _ wr).drew.trans (hb4.mono (by have:=HBe3.out.size; exact this)))) hgs;have h50:=h5.1;clear h5 hst4 hq hvs;generalize (w4.setCells gs 0 (Q0x S' (Q2O (lenF base l.length))).vals.toList)=W5 at h50 hB5 hR5 hE5 ⊢;rw [<- HLA.out] at h50;have h50L:=Lib.hid h50;have hB5L:=Lib.hid hB5;have hR5L:=Lib.hid hR5;have hE5L:=Lib.hid hE5;clear h50 hB5 hR5 hE5
     go_wp2
     have hD:=Blk.newAt (w:=W5) (t:=60) (cs:=rng 32 z8) rfl;have hh6:=(hB5L.out).alloc (.cells (rng 32 z8) 60);have hs6:=(h50L.out).alloc (.cells (rng 32 z8) 60);have hr6:=(hR5L.out).alloc (.cells (rng 32 z8) 60);have hE6:=(hE5L.out).alloc hE5L.out.size (.cells (rng 32 z8) 60);have hR:rng 32 z8=Array.replicate 32 (.int .u8 0):=(Q40 (by simp) fun j hj=>by simp [z8,hj]).symm;have hlit:Array.replicate 32 (Value.int .u8 0)=#[.int .u8 0,.int .u8 0,.int .u8 0,.int .u8 0,.int .u8 0,.int .u8 0,.int .u8 0,.int .u8 0,.int .u8 0,.int .u8 0,.int .u8 0,.int .u8 0,.int .u8 0,.int .u8 0,.int .u8 0,.int .u8 0,.int .u8 0,.int .u8 0,.int .u8 0,.int .u8 0,.int .u8 0,.int .u8 0,.int .u8 0,.int .u8 0,.int .u8 0,.int .u8 0,.int .u8 0,.int .u8 0,.int .u8 0,.int .u8 0,.int .u8 0,.int .u8 0]:=rfl;rw [hR,hlit] at hD hh6 hs6 hr6 hE6;have hsz5:=hE5L.out.size;obtain⟨gd,hgd⟩:∃ gd,gd=W5.heap.size:=⟨_,rfl⟩;rw [<- hgd] at hD hsz5 ⊢;have hgs5:=h50L.out.lt;have hgg5:=hB5L.out.lt;have hgr5:=hR5L.out.lt;rw [<- hgd] at hgs5 hgg5 hgr5;have HGD:=Lib.hid hgd;clear hgd;generalize W5.alloc _=W6 at hD hh6 hs6 hr6 hE6 ⊢;rw [<- hlit,<- hR] at hD;clear hR hlit;go_loopw [72] (fun i wr=>∃ k:Nat,k<=32/\i=.int .i64 k/\Blk wr gd 60 (rng 32 (fun j=>if j<k then vb ((outB (Q29 S p l.length)).getD j 0) else .int .u8 0))/\Q0c gd W6 wr) (fun i _=>32 - (intOf i).toNat)
     case atStart=>exact⟨0,by omega,rfl,by rw [show rng 32 (fun j=>if j<0 then vb ((outB (Q29 S p l.length)).getD j 0) else .int .u8 0)=rng 32 z8 from Q1n fun j _=>by rw [if_neg (by omega)]; rfl]; exact hD,Q0c.refl _ _⟩
     case round =>
      obtain⟨k,hk,rfl,hBk,hTk⟩:=hrel;by_cases hk8:k<32
      ·have e1:((k:Int) / 4).toNat=k / 4:=by omega
       have e2:((24:Int) - 8*((k:Int) % 4)).toNat=24 - 8*(k % 4):=by omega
       have cs0:=((hTk.blk hs6 (by omega)).cell (k / 4)).trans (Qb1 (Q29 S p l.length) (k / 4) (by omega));have cd0:=(hBk.cell k).trans (Q1z _ _ _ hk8);have fd0:=hBk.frozen k;rw [if_neg (by omega)] at cd0;have HBk:=Lib.hid hBk;have HTk:=Lib.hid hTk;clear hBk hTk hD hh6 hs6 hr6 hE6
       go_wp2
       go_roundw
       case rel =>
        have h2:=HBk.out.set_ k (vb ((outB (Q29 S p l.length)).getD k 0));rw [dig_next _ k] at h2;rw [Qbh _ k hk8] at h2;exact⟨k+1,by omega,by go_num,h2,HTk.out.trans (Q0c.setCell wr ⟨gd,k,none⟩ _)⟩
       case measure=>simp [intOf]; omega
      ·obtain rfl:k=32:=by omega
       have hBk2:Blk wr gd 60 (bRow (outB (Q29 S p l.length))):=by rw [dig_full]; exact hBk
       have hr7:=hTk.blk hr6 (by omega);have hh7:=hTk.blk hh6 (by omega);have hE7:=hTk.below hE6 hsz5;have hbs:=Q1j (outB (Q29 S p l.length));rw [Q55] at hbs;have hall:=Q0K (outB (Q29 S p l.length));have HD:=Lib.hid (show outB (Q29 S p l.length)=Q14 l by rw [Q14,HA.out]);have HBk:=Lib.hid hBk2;have HHr7:=Lib.hid hr7;have HHh7:=Lib.hid hh7;have HE7:=Lib.hid hE7;have HHall:=Lib.hid hall;have HBS:=Lib.hid hbs;clear hBk hTk hD hh6 hs6 hr6 hE6 hBk2 hr7 hh7 hE7 hall hbs;go_wp2_with (first | (refine Q03 rfl 60 _ rfl gd 0 32 rfl 60 _ (bRow (outB (Q29 S p l.length))) _ HBk.out Tryz.underlying60 rfl rfl HBS.out (fun _ _=>by rw [Nat.zero_add]) ?_) | (refine Q01 rfl 60 _ _ rfl w.heap.size 0 (bRow (outB (Q29 S p l.length))) rfl rfl 60 _ HHr7.out (by rw [HBS.out]; rfl) (by rw [HBS.out]; simp) HHall.out ?_; intro W8 hT8 hB8))
       rw [Q08 _ _ (by rw [HBS.out]; simp)] at hB8;refine bodyPost_ret (Q0b rfl _ _ w.heap.size 32 60 _ _ rfl hB8 Tryz.underlying60 rfl rfl HBS.out) rfl ⟨?_,?_,?_⟩
       ·rw [HD.out]; rfl
       ·have h9:=hT8.blk HHh7.out (by omega);have ha:=HA.out;refine⟨b,?_,?_⟩
        ·rw [ha]; exact h9
        ·rw [ha]; exact HBB.out
       ·exact Q60 (hg2.trans (Q0O HE7.out (some g))) hT8 (Nat.le_refl _)
end
section
open Go.RowKit
theorem QbG (xs ys:List UInt8) (hx:xs.length=32) (hy:ys.length=32) (w:World) :
 (binOp .eql 60 (.agg (bRow xs)) (.agg (bRow ys))).run Tryz.prog w=.ok (.bool (xs == ys)) w :=
 run_eql_bytes (P:=Tryz.prog) w 60 5 32 Tryz.underlying60 Tryz.underlying5 (fun _=>by kernel_rfl) xs ys hx hy
theorem Qc1 (xs ys:List UInt8) (hx:xs.length=32) (hy:ys.length=32) (w:World) :
 (binOp .neq 60 (.agg (bRow xs)) (.agg (bRow ys))).run Tryz.prog w=.ok (.bool (xs != ys)) w:=by
 have h:=QbG xs ys hx hy w;rw [run_eql_struct] at h;rw [run_neq_struct];cases hh:(Op.equalIn 10000 60 (.agg (bRow xs)) (.agg (bRow ys))).run Tryz.prog w with
 | ok b w' =>
  rw [hh] at h;simp at h;simp [h,bne]
 | halt x w'=>rw [hh] at h; cases h
theorem Qc2:Tryz.prog.eqGuardType Tryz.prog.depth 60=false:=by kernel_rfl
end
section
open Go.RowKit
theorem Q1O:(Tryz.prog.info? 5).map (fun i=>(i.zero,i.size,i.bytes))=some (some (.int .u8 0),1,1):=by kernel_rfl
def OwnB (w:World) (base:Nat) (v:Value) (xs:List UInt8):Prop:=w.ownsRow base 5 1 v xs.length (xs.map vb)
theorem Q0p {w:World} {B:Nat} {v:Value} {xs:List UInt8} (h:OwnB w B v xs):∃ A c,v=.slice A xs.length c/\xs.length<=c/\c<=maxLen/\Q0d w w.heap.size 1 A xs.length (xs.map vb)/\(∀ ad,A=some ad->B<=ad.block):=by
 have hr:=fun A c (hv:v=.slice A xs.length c)=>Q0d.of_own (A:=A) (c:=c) (by rw [<- hv]; exact h)
 rcases h.2 with⟨rfl,h0⟩ | ⟨g,cap,cur,rfl,hg,_,h1,h2,_⟩
 ·exact⟨none,0,by rw [h0],by omega,by unfold maxLen; omega,hr none 0 (by rw [h0]),fun _ h=>by cases h⟩
 ·exact⟨_,cap,rfl,h1,h2,hr _ _ rfl,fun ad h=>by injection h with h; subst h; exact hg⟩
theorem OwnB.reads {w:World} {B:Nat} {A:Option Addr} {n c:Nat} {xs:List UInt8} (h:OwnB w B (.slice A n c) xs):n=xs.length/\n<=c/\c<=maxLen/\Q0d w w.heap.size 1 A n (xs.map vb)/\(∀ ad,A=some ad->B<=ad.block):=by
 obtain⟨A',c',e,h1,h2,h3,h4⟩:=Q0p h;injection e with e1 e2 e3
 subst e1 e2 e3;exact⟨rfl,h1,h2,h3,h4⟩
theorem OwnB.nil (w:World) (B:Nat):OwnB w B (.slice none 0 0) []:=⟨by simp,.inl ⟨rfl,by simp⟩⟩
theorem OwnB.ge {w:World} {B b:Nat} {v:Value} {xs:List UInt8} (h:OwnB w B v xs) (hb:v.ownBlock=some b):B<=b:=by
 rcases h.2 with⟨rfl,_⟩ | ⟨g,cap,cur,rfl,hg,_⟩
 ·simp [Value.ownBlock] at hb
 ·simp [Value.ownBlock] at hb; omega
theorem OwnB.lt {w:World} {B b:Nat} {v:Value} {xs:List UInt8} (h:OwnB w B v xs) (hb:v.ownBlock=some b):b<w.heap.size:=by
 rcases h.2 with⟨rfl,_⟩ | ⟨g,cap,cur,rfl,hg,hh,_⟩
 ·simp [Value.ownBlock] at hb
 ·simp [Value.ownBlock] at hb; subst hb;rcases Nat.lt_or_ge g w.heap.size with h | h
  ·exact h
  ·rw [Array.getElem?_eq_none h] at hh; cases hh
theorem OwnB.keep {w w':World} {B:Nat} {v:Value} {xs:List UInt8} (h:OwnB w B v xs) (hk:∀ b,v.ownBlock=some b->w'.heap[b]?=w.heap[b]?):OwnB w' B v xs:=by
 refine⟨h.1,?_⟩;rcases h.2 with h0 | ⟨g,cap,cur,rfl,hg,hh,h1⟩
 ·exact .inl h0
 ·exact .inr ⟨g,cap,cur,rfl,hg,(hk g rfl).trans hh,h1⟩
theorem OwnB.below {w w':World} {B:Nat} {v:Value} {xs:List UInt8} (h:OwnB w B v xs) (hb:Below w.heap.size w w'):OwnB w' B v xs:=h.keep fun b hv=>hb.block b (h.lt hv)
theorem OwnB.more {w:World} {B B':Nat} {v:Value} {xs:List UInt8} (h:OwnB w B v xs) (hB:B'<=B):OwnB w B' v xs:=by
 refine⟨h.1,?_⟩;rcases h.2 with h0 | ⟨g,cap,cur,rfl,hg,hh,h1⟩
 ·exact .inl h0
 ·exact .inr ⟨g,cap,cur,rfl,by omega,hh,h1⟩
theorem Q0k {B:Nat} {w0 w w':World} {row:Option Nat} (hb:Below B w0 w) (hB:B<=w.heap.size) (hg:w.grownBy w' row) (hr:∀ b,row=some b->B<=b):Below B w0 w' :=
 hb.trans ((Below.refl B w).grown hg hB hr)
theorem Q3W (A:Option Addr) (n c:Nat) (xs:List UInt8) (w:World) (B:Nat) (h:Q0d w B 1 A n (xs.map vb)) (hB:B<=w.heap.size) (hn:n<=140737488355328) :
 Calls Tryz.prog 8 #[.slice A n c] w fun e w'=>∃ v,e=.returned v/\OwnB w' w.heap.size v xs/\Below w.heap.size w w':=by
 have hxn:xs.length=n:=by have:=h.1; simpa using this
 have HXN:=Lib.hid hxn;clear hxn;go_enter Tryz.func8,Tryz.ntmps8
 obtain⟨i0,hi0,hz0,hz1,hz2⟩:=info_parts Q1O;go_wp2_with (at_builtin; go_must (refine Q06 _ rfl (.tmp 4) (.tmp 5) 22 rfl w.heap.size 5 i0 _ 1 1 Tryz.underlying22 hi0 hz0 hz1 hz2 rfl (by omega) (.slice none 0 0) 0 [] rfl ⟨by simp,.inl ⟨rfl,rfl⟩⟩ B A n c (xs.map vb) rfl h ?c1 ?c2 ?c3 ?c4 ?_))
 case c1=>intro u hu; obtain⟨x,_,rfl⟩:=List.mem_map.1 hu; rfl
 case c2=>unfold maxLen; omega
 case c3=>omega
 case c4=>omega
 intro v1 w1 hown1 hg1 hor
 go_wp2
 go_ret
 refine⟨v1,rfl,?_,(Below.refl _ _).grown hg1 (Nat.le_refl _) (fun b hb=>by simp [Value.ownBlock] at hb)⟩;unfold OwnB;rw [HXN.out];simpa using hown1
end
section
open Go.RowKit Go.Maps
def klit (d:List UInt8):Lit:=.string (keyBytes (d.map fun b=>.int .u8 (bi b)))
theorem Q8X:WideMaps.ArrKey Tryz.prog 60 5 32:=⟨Tryz.underlying60,by kernel_rfl,by kernel_rfl,by kernel_rfl⟩
theorem Q6c:Keyed Tryz.prog 60:=Keyed.of_law Q8X.law
theorem Qb9:Keyed Tryz.prog 9:=string_keyed Tryz.underlying9
theorem Q9O:∃ m,Tryz.prog.types.size=m+1:=⟨Tryz.prog.types.size - 1,by have:0<Tryz.prog.types.size:=of_decide_eq_true (by kernel_rfl); omega⟩
theorem Q6M (d:List UInt8) (D:Nat):∀ (L:List Nat),(∀ i∈L,i<d.length) ->
 L.mapM (fun i=>Tryz.prog.keyLits (D+1) 5 (((d.map vb).drop (i*1)).take 1))=some (L.map fun i=>[Lit.int .u8 (bi (d.getD i 0))])
 | [],_=>rfl
 | i :: L,h=>by
  have hi:=h i (List.mem_cons_self ..);have ih:=Q6M d D L (fun j hj=>h j (List.mem_cons_of_mem _ hj));rw [List.mapM_cons,ih];have e:((d.map vb).drop (i*1)).take 1=[vb (d.getD i 0)]:=by
   rw [Nat.mul_one,List.take_one,List.head?_drop,List.getElem?_map,Q1Q _ _ hi]; rfl
  rw [e];simp only [List.map_cons];generalize d.getD i 0=b;have hw:(Lit.int .u8 (bi b)).wf=true:=by
   have h1:=bi_lo b;have h2:=bi_hi b;simp [Lit.wf,IntKind.min,IntKind.max,IntKind.signed,IntKind.bits]; omega
  simp [Program.keyLits,Tryz.underlying5,vb,hw]
theorem Q5a (d:List UInt8) (h:d.length=32):keyOf Tryz.prog 60 (.agg (bRow d))=some (klit d):=by
 have hk:=Q8X.keyType Q9O;have hf:Value.formed Tryz.prog 60 (.agg (bRow d))=true:=by
  simp only [Value.formed,Tryz.underlying60];rw [Q1j,h,Q8X.size]; rfl
 obtain⟨m,hm⟩:=Q9O;have hl:(bRow d).toList.length=Tryz.prog.cellsOf 60:=by rw [Q8X.size]; simp [bRow,h]
 unfold keyOf;simp only [Tryz.underlying60,hk,hf,Bool.and_self,if_true,Value.cells];rw [hm];unfold Program.keyLits;simp only [Tryz.underlying60,Q8X.one];rw [if_pos hl,show (bRow d).toList=d.map vb from rfl,Q6M d m (List.range 32) (fun i hi=>by rw [h]; exact List.mem_range.1 hi)];simp only [Option.map_some,klit];have hfl:∀ (L:List Nat),(L.map fun i=>[Lit.int .u8 (bi (d.getD i 0))]).flatten=L.map fun i=>Lit.int .u8 (bi (d.getD i 0)):=by
  intro L
  induction L with
  | nil=>rfl
  | cons a l ih=>rw [List.map_cons,List.flatten_cons,ih]; rfl
 rw [hfl];refine congrArg some (congrArg Lit.string (congrArg keyBytes ?_));apply List.ext_getElem?
 intro i;rcases Nat.lt_or_ge i 32 with hi | hi
 ·rw [List.getElem?_map,List.getElem?_range hi,List.getElem?_map,Q1Q _ _ (by omega)]; rfl
 ·rw [List.getElem?_eq_none (by simpa using hi),List.getElem?_eq_none (by simp; omega)]
theorem QaX {d e:List UInt8} (hd:d.length=32) (he:e.length=32) (h:klit d=klit e):d=e:=by
 have h1:=Q5a d hd;have h2:=Q5a e he;rw [h] at h1;have h3:bRow d=bRow e:=Value.agg.inj (Q6c.inj h1 h2);have h4:d.map vb=e.map vb:=by
  have:=congrArg Array.toList h3;simpa [bRow] using this
 exact List.map_inj_right (fun a b=>vb_inj) |>.1 h4
theorem QcE (l:List UInt8) (h:l.length<=maxLen):keyOf Tryz.prog 9 (.string ⟨l.toArray⟩)=some (.string l):=by
 unfold keyOf;simp only [Tryz.underlying9,mapKey];rw [if_pos (by simpa [ByteArray.size] using h)]
theorem Qbd (d:List UInt8):WideAt.IsKeyLit (klit d):=trivial
def Q17 (l:List (List UInt8)) (d:List UInt8):Option (List UInt8):=l.find? (fun y=>Q14 y == d)
def Q3r (l:List (List UInt8)):List (List UInt8):=l.filter (fun x=>Q17 l (Q14 x) != some x)
def Q10 (l:List (List UInt8)) (x:List UInt8):List (List UInt8):=if x∈l then l else l++[x]
theorem Q4v (l:List (List UInt8)) (x:List UInt8):(Q10 l x).length<=l.length+1:=by
 unfold Q10; split <;> simp
theorem Q9a {l:List (List UInt8)} {d y:List UInt8} (h:Q17 l d=some y):y∈l/\Q14 y=d:=by
 unfold Q17 at h;exact⟨List.mem_of_find?_eq_some h,by have:=List.find?_some h; simpa using this⟩
theorem Q6r {l:List (List UInt8)} {x:List UInt8} (h:x∈l):∃ y,Q17 l (Q14 x)=some y:=by
 unfold Q17;cases hf:l.find? (fun y=>Q14 y == Q14 x) with
 | some y=>exact⟨y,rfl⟩
 | none =>
  have:=List.find?_eq_none.1 hf x h;simp at this
theorem Q2z (l:List (List UInt8)) (x d:List UInt8):Q17 (l++[x]) d=(Q17 l d).or (if Q14 x=d then some x else none):=by
 unfold Q17;rw [List.find?_append];congr 1
 by_cases h:Q14 x=d <;> simp [h]
theorem Q9L {l:List (List UInt8)} {x:List UInt8} (h:Q17 l (Q14 x)=none):x∉l:=fun hx=>by
 obtain⟨y,hy⟩:=Q6r hx;rw [h] at hy;cases hy
structure Q38 (l:List (List UInt8)) (D1 D2:DataW Unit):Prop where
 nodup:l.Nodup
 has1:∀ d,d.length=32->Maps.has D1 (klit d)=(Q17 l d).isSome
 at1:∀ d y z,d.length=32->Q17 l d=some y->D1.atKey (klit d) z=.lit (.string y)
 has2:∀ x,Maps.has D2 (.string x)=decide (x∈Q3r l)
 size2:Maps.size D2=(Q3r l).length
 size:Maps.size D1+Maps.size D2=l.length
theorem Q38.start:Q38 [] (.map []) (.map []) where
 nodup:=List.nodup_nil
 has1:=fun d _=>rfl
 at1:=fun d y z _ h=>by simp [Q17] at h
 has2:=fun x=>rfl
 size2:=rfl
 size:=rfl
theorem Q38.fresh {l:List (List UInt8)} {D1 D2:DataW Unit} (h:Q38 l D1 D2) (t1:Tidy D1) (x:List UInt8) (hx:Q17 l (Q14 x)=none) :
 Q38 (Q10 l x) (D1.put (klit (Q14 x)) (.lit (.string x))) D2:=by
 have hn:=Q9L hx;have hadd:Q10 l x=l++[x]:=by unfold Q10; rw [if_neg hn]
 have hmore:Q3r (l++[x])=Q3r l:=by
  unfold Q3r;rw [List.filter_append];have e1:[x].filter (fun y=>Q17 (l++[x]) (Q14 y) != some y)=[]:=by
   rw [List.filter_cons,Q2z,hx]; simp
  rw [e1,List.append_nil];apply List.filter_congr
  intro y hy;obtain⟨z,hz⟩:=Q6r hy;rw [Q2z,hz]; simp
 have hl:=Q2A x;rw [hadd];refine⟨?_,fun d hd=>?_,fun d y z hd hy=>?_,fun y=>?_,?_,?_⟩
 ·rw [List.nodup_append];refine⟨h.nodup,by simp,fun a ha b hb=>?_⟩;have:b=x:=by simpa using hb
  subst this;exact fun e=>hn (e▸ha)
 ·rw [Q2z];by_cases e:d=Q14 x
  ·subst e;rw [has_put_same t1.isMap (Qbd _),hx,if_pos rfl]; rfl
  ·rw [has_put_other (fun k=>e (QaX hd hl k)),h.has1 d hd,if_neg (fun k=>e k.symm),Option.or_none]
 ·rw [Q2z] at hy;by_cases e:d=Q14 x
  ·subst e;rw [hx,if_pos rfl] at hy;have:x=y:=by simpa using hy
   subst this;exact atKey_put_same t1.isMap (Qbd _) _ _
  ·rw [if_neg (fun k=>e k.symm),Option.or_none] at hy;rw [atKey_put_other (fun k=>e (QaX hd hl k))];exact h.at1 d y z hd hy
 ·rw [hmore]; exact h.has2 y
 ·rw [hmore]; exact h.size2
 ·have hs:=size_put (k:=klit (Q14 x)) t1 (DataW.lit (.string x));rw [h.has1 _ hl,hx] at hs;simp only [Option.isSome_none,Bool.false_eq_true,if_false] at hs;rw [hs,List.length_append];have:=h.size
  simp; omega
theorem Q38.same {l:List (List UInt8)} {D1 D2:DataW Unit} (h:Q38 l D1 D2) (x:List UInt8) (hx:Q17 l (Q14 x)=some x):Q38 (Q10 l x) D1 D2:=by
 have:=(Q9a hx).1;unfold Q10;rw [if_pos this];exact h
theorem Q38.other {l:List (List UInt8)} {D1 D2:DataW Unit} (h:Q38 l D1 D2) (t2:Tidy D2) (x y:List UInt8) (hx:Q17 l (Q14 x)=some y) (hne:y≠x) :
 Q38 (Q10 l x) D1 (D2.put (.string x) (.lit (.bool true))):=by
 have hk:WideAt.IsKeyLit (.string x):=trivial;have hs:=size_put (k:=.string x) t2 (DataW.lit (H:=Unit) (.bool true));have hh:∀ z,Maps.has (D2.put (.string x) (.lit (.bool true))) (.string z)=(decide (z=x) || decide (z∈Q3r l)):=fun z=>by
  by_cases e:z=x
  ·subst e; rw [has_put_same t2.isMap hk]; simp
  ·rw [has_put_other (fun k=>e (by injection k)),h.has2]; simp [e]
 by_cases hm:x∈l
 ·have hmo:x∈Q3r l:=by
   unfold Q3r;rw [List.mem_filter];exact⟨hm,by rw [hx]; simpa using hne⟩
  have hadd:Q10 l x=l:=by unfold Q10; rw [if_pos hm]
  rw [hadd];rw [h.has2,decide_eq_true hmo] at hs;simp only [if_true] at hs;refine⟨h.nodup,h.has1,h.at1,fun z=>?_,by rw [hs]; exact h.size2,by rw [hs]; exact h.size⟩;rw [hh];by_cases e:z=x
  ·subst e; simp [hmo]
  ·simp [e]
 ·have hadd:Q10 l x=l++[x]:=by unfold Q10; rw [if_neg hm]
  have hfirst:∀ d,Q17 (l++[x]) d=Q17 l d:=fun d=>by
   rw [Q2z];by_cases e:Q14 x=d
   ·subst e; rw [hx]; rfl
   ·rw [if_neg e,Option.or_none]
  have hmore:Q3r (l++[x])=Q3r l++[x]:=by
   unfold Q3r;rw [List.filter_append];congr 1
   ·apply List.filter_congr
    intro z _;rw [hfirst]
   ·rw [List.filter_cons,hfirst,hx];have:(some y != some x)=true:=by simpa using hne
    rw [this]; rfl
  have hno:x∉Q3r l:=fun hmo=>hm (by unfold Q3r at hmo; exact(List.mem_filter.1 hmo).1)
  rw [h.has2,decide_eq_false hno] at hs;simp only [Bool.false_eq_true,if_false] at hs;rw [hadd];refine⟨?_,fun d hd=>by rw [hfirst]; exact h.has1 d hd,fun d y z hd hy=>by rw [hfirst] at hy; exact h.at1 d y z hd hy,fun z=>?_,?_,?_⟩
  ·rw [List.nodup_append];refine⟨h.nodup,by simp,fun a ha b hb=>?_⟩;have:b=x:=by simpa using hb
   subst this;exact fun e=>hm (e▸ha)
  ·rw [hh,hmore];by_cases e:z=x
   ·subst e; simp
   ·simp [e]
  ·rw [hs,hmore,List.length_append,h.size2]; rfl
  ·rw [hs,List.length_append];have:=h.size
   simp; omega
end
section
open Go.RowKit
theorem zeros32:rng 32 z8=#[.int .u8 0,.int .u8 0,.int .u8 0,.int .u8 0,.int .u8 0,.int .u8 0,.int .u8 0,.int .u8 0,.int .u8 0,.int .u8 0,.int .u8 0,.int .u8 0,.int .u8 0,.int .u8 0,.int .u8 0,.int .u8 0,.int .u8 0,.int .u8 0,.int .u8 0,.int .u8 0,.int .u8 0,.int .u8 0,.int .u8 0,.int .u8 0,.int .u8 0,.int .u8 0,.int .u8 0,.int .u8 0,.int .u8 0,.int .u8 0,.int .u8 0,.int .u8 0]:=rfl
theorem Qcv (A:Option Addr) (n c:Nat) (xs:List UInt8) (w:World) (B:Nat) (h:Q0d w B 1 A n (xs.map vb)) (hB:B<=w.heap.size) (hc:n<=c) (hcm:c<=maxLen) :
 Calls Tryz.prog 187 #[.slice A n c] w fun e w'=>e=.returned (.agg (bRow (Q14 xs)))/\Below w.heap.size w w':=by
 have hxn:xs.length=n:=by have:=h.1; simpa using this
 have h1:Q0d w w.heap.size 1 A n (xs.map vb):=h.more hB;go_enter Tryz.func187,Tryz.ntmps187
 go_wp2_with fail
 have hWb:Below w.heap.size w (w.alloc (.cells (rng 32 z8) 60)):=(Below.refl _ _).alloc (Nat.le_refl _) _;have hWr:=Blk.new w 60 (rng 32 z8);have hWs:(w.alloc (.cells (rng 32 z8) 60)).heap.size=w.heap.size+1:=by simp
 rw [zeros32] at hWb hWr hWs;generalize w.alloc _=W at hWb hWr hWs ⊢;refine(new_any W).mono ?_;rintro _ w1 ⟨rfl,hH1,hb1,hs1⟩;obtain⟨g,hg⟩:∃ g,g=W.heap.size:=⟨_,rfl⟩;rw [<- hg] at hH1 hb1 hs1 hWs ⊢;have hsz:w.heap.size<g/\g<w1.heap.size:=by omega
 obtain⟨hsz1,hsz2⟩:=hsz;have hn1:Q4A w1 g []:=.inr ⟨rfl,hH1⟩;have hR1:=(h1.below hWb).below (hb1.mono (by omega));have hS1:Src w1 g A n xs:=Src.of_below hR1 (by omega) (by omega);have hbb1:=hWb.trans (hb1.mono (by omega));have hWr1:=hWr.below hb1 (by omega);have HN:=Lib.hid hn1;have HS:=Lib.hid hS1;have HBB:=Lib.hid hbb1;have HR:=Lib.hid hWr1;clear hH1 hn1 hR1 hS1 hbb1 hWr1 hWb hWr hb1 h h1 hs1 hWs hg;have HXN:=Lib.hid hxn;clear hxn;go_wp2_with fail
 refine(Qcy g [] xs A n c w1 HN.out HS.out hc hcm (by unfold maxLen at hcm ⊢; simp; omega)).mono ?_;rintro _ w2 ⟨rfl,hH2,hg2⟩;rw [List.nil_append] at hH2;have hR2:=HR.out.grown hg2 (by intro e; injection e with e; omega);have hb2:=(HBB.out).trans ((Below.refl w.heap.size w1).grown hg2 (by omega) (fun k hk=>by injection hk with hk; omega));have hs2:=hg2.size;have HH2:=Lib.hid (Q4A.lt (.inl hH2));have HN:=Lib.hid hH2;have HR:=Lib.hid hR2;have HBB:=Lib.hid hb2;clear hH2 hR2 hb2 hg2;go_wp2_with fail
 refine(sum_any g xs w2 (.inl HN.out) (by rw [HXN.out]; omega)).mono ?_;rintro _ w3 ⟨rfl,hH3,hg3⟩;have hR3:=HR.out.grown hg3 (by intro e; injection e with e; omega);have hb3:=(HBB.out).trans ((Below.refl w.heap.size w2).grown hg3 (by omega) (fun k hk=>by injection hk with hk; omega));have hs3:=hg3.size;have HR:=Lib.hid hR3;have HBB:=Lib.hid hb3;clear hH3 hR3 hb3 hg3;have hbs:=Q1j (Q14 xs);rw [Q2A] at hbs;have HBS:=Lib.hid hbs;have HON:=Lib.hid (Q0K (Q14 xs));clear hbs;go_wp2_with (first
  | (refine Q01 rfl 60 (.tmp 4) (.tmp 15) rfl w3.heap.size 0 (bRow (Q14 xs)) rfl rfl 60 _ (Blk.newAt rfl) (by rw [HBS.out]; rfl) (by rw [HBS.out]; simp) HON.out ?_; intro W4 hT4 hB4; rw [Q08 _ _ (by rw [HBS.out]; simp)] at hB4; have hR4:=hT4.blk (HR.out.alloc _) (by omega); have hE4:=hT4.below (HBB.out.alloc (by omega) _) (by omega))
  | (refine Q03 rfl 60 (.tmp 4) rfl w3.heap.size 0 32 rfl 60 _ (bRow (Q14 xs)) _ hB4 Tryz.underlying60 rfl rfl HBS.out (fun _ _=>by rw [Nat.zero_add]) ?_)
  | (refine Q01 rfl 60 (.tmp 2) (.tmp 17) rfl w.heap.size 0 (bRow (Q14 xs)) rfl rfl 60 _ hR4 (by rw [HBS.out]; rfl) (by rw [HBS.out]; simp) HON.out ?_; intro W5 hT5 hB5; rw [Q08 _ _ (by rw [HBS.out]; simp)] at hB5))
 refine bodyPost_ret (Q0h rfl _ _ w.heap.size 32 60 _ _ rfl hB5 Tryz.underlying60 rfl rfl HBS.out) rfl ⟨rfl,hT5.below hE4 (by omega)⟩
theorem zeros8r:rng 8 z32=#[.int .u32 0,.int .u32 0,.int .u32 0,.int .u32 0,.int .u32 0,.int .u32 0,.int .u32 0,.int .u32 0]:=rfl
theorem Q9T {W:World} {g:Nat} {t:TypeId} {l:List UInt8} (hB:Blk W g t (bRow l)):Q4L W ⟨g,0,none⟩ l:=by
 intro j hj;rw [Q13,Nat.zero_add,hB.cell,bRow,List.getElem?_toArray,List.getElem?_map,List.getElem?_eq_getElem hj]; rfl
end
section
open Go.RowKit
theorem Blk.beside {w w':World} {g k:Nat} {t:TypeId} {cs:Array Value} (h:Blk w g t cs) (hg:w.grownBy w' (some k)) (hne:g≠k):Blk w' g t cs:=(hg.block g h.lt (fun e=>hne (by injection e))).trans h
theorem Blk.below' {w w':World} {g:Nat} {t:TypeId} {cs:Array Value} (h:Blk w g t cs) (hb:Below w.heap.size w w'):Blk w' g t cs:=h.below hb h.lt
end
section
open Go.RowKit
section
variable {P:Program} {ops:Array Oper} {md:Region.Mode} {C:World->Prop}
def Q6i (P:Program) (md:Region.Mode) (ops:Array Oper) (C:World->Prop) (n:Nat) (L:Array Bool->Act->Prop):Nat->Array Bool->Act->Prop
 | 0,listed,a=>L listed a
 | f+1,listed,a =>
  Region.ready md ops listed≠[]/\∀ i∈Region.ready md ops listed,i<n/\qOp P ops C i (Q6i P md ops C n L f (listed.setIfInBounds i true)) a
theorem Q4F {n g:Nat} {L:Array Bool->Act->Prop} {Q':Exit->Act->World->Prop} (hL:∀ listed a w,C w->L listed a->wpAny P md ops Q' g listed a w) :
 ∀ (f:Nat) (listed:Array Bool) (a:Act) (w:World),C w->Q6i P md ops C n L f listed a->wpAny P md ops Q' (f+g) listed a w
 | 0,listed,a,w,hw,h=>by rw [Nat.zero_add]; exact hL _ _ _ hw h
 | f+1,listed,a,w,hw,h=>by
  rw [show f+1+g=(f+g)+1 by omega];exact⟨fun h0=>absurd h0 h.1,fun i hi=>wpOp_of_qOp hw (fun a' w' hw' h'=>Q4F hL f _ a' w' hw' h') (h.2 i hi).2⟩
theorem Q8p {n i:Nat} {oi:Oper} {v:Value} {L:Array Bool->Act->Prop} (hi:ops[i]?=some oi) (hsel:∀ (j:Nat) (o:Oper) cs b,ops[j]?=some o->o.op≠.select cs b)
 (hs:Region.sinkB md ops n=true) (hc:Region.chainB md ops n=true) (hn:n<ops.size) (hin:i<n)
 (hdone:∀ listed a,L listed a->∀ j∈Region.ready md ops listed,n<=j) :
 ∀ (f:Nat) (listed:Array Bool) (a:Act),HeadInv md ops n listed ->
  (∀ j oj,ops[j]?=some oj->j≠i->listed.getD j true=false->(∀ e∈oj.after,Region.binds md e=true->e.on≠i)->oi.apart ops oj=true) ->
  i∈Region.ready md ops listed->YieldsIn P ops C oi v a ->
  Q6i P md ops C n L f (listed.setIfInBounds i true) (a.put oi.dst v)->Q6i P md ops C n L (f+1) listed a:=by
 intro f
 induction f with
 | zero =>
  intro listed a inv _ hr hy H;have hun:=(mem_ready.1 hr).1;refine⟨fun h=>(by rw [h] at hr; cases hr),fun j hj=>?_⟩;have hjn:j<n:=by
   rcases Nat.lt_or_ge j n with h | h
   ·exact h
   ·exact absurd hj (tail_waits hs hc hn inv _ i rfl hin hun j h)
  refine⟨hjn,?_⟩;by_cases hji:j=i
  ·subst hji; exact hy.qOp hi H
  ·have:=hdone _ _ H j (ready_mono hj hji);omega
 | succ f ih =>
  intro listed a inv hfree hr hy H;have hun:=(mem_ready.1 hr).1;refine⟨fun h=>(by rw [h] at hr; cases hr),fun j hj=>?_⟩;have hjn:j<n:=by
   rcases Nat.lt_or_ge j n with h | h
   ·exact h
   ·exact absurd hj (tail_waits hs hc hn inv _ i rfl hin hun j h)
  refine⟨hjn,?_⟩;by_cases hji:j=i
  ·subst hji; exact hy.qOp hi H
  ·have h1:=(H.2 j (ready_mono hj hji)).2;obtain⟨hjun,oj,hoj,hall⟩:=mem_ready.1 hj;have hnot:∀ e∈oj.after,Region.binds md e=true->e.on≠i:=fun e he hb heq=>by
    have h1:=hall e he hb;rw [heq,getD_both hun] at h1;cases h1
   have h2:=qOp_put hoj (hfree j oj hoj hji hjun hnot) (fun cs b=>hsel i oi cs b hi) (fun cs b=>hsel j oj cs b hoj) hy h1;have hfree':∀ k ok,ops[k]?=some ok->k≠i->(listed.setIfInBounds j true).getD k true=false ->
    (∀ e∈ok.after,Region.binds md e=true->e.on≠i)->oi.apart ops ok=true:=fun k ok hk hki hun hno=>by
    refine hfree k ok hk hki ?_ hno;by_cases hjk:j=k
    ·subst hjk; exact hjun
    ·rw [getD_set_ne true hjk] at hun; exact hun
   refine qOp_mono (fun a' h3=>ih (listed.setIfInBounds j true) a' (inv.set hj hjn) hfree' (ready_mono hr (Ne.symm hji)) h3.1 ?_) h2;rw [Array.setIfInBounds_comm _ _ hji];exact h3.2
theorem Q6m {n g:Nat} {Lq:Act->Prop} (hsel:Region.noSelect ops=true) (hs:Region.sinkB md ops n=true) (hc:Region.chainB md ops n=true) (hn:n<ops.size) :
 ∀ (l:List Oper) (k:Nat) (listed:Array Bool) (a:Act),(∀ j,j<l.length->l[j]?=ops[k+j]?)->k+l.length=n->HeadInv md ops n listed ->
 Region.lexHead md ops g l.length k listed=true->wpQuiet P ops C Lq l a ->
 Q6i P md ops C n (fun listed' a'=>Region.seqB md ops g n listed'=true/\Lq a') l.length listed a
 | [],k,listed,a,_,hk,_,hB,h=>by
  have:k=n:=by simpa using hk
  subst this;exact⟨by simpa [Region.lexHead] using hB,h⟩
 | o :: l,k,listed,a,hl,hk,inv,hB,h=>by
  have h0:ops[k]?=some o:=by simpa using (hl 0 (by simp)).symm
  simp only [List.length_cons,Region.lexHead,Bool.and_eq_true] at hB;obtain⟨⟨hr,hf⟩,hB'⟩:=hB;have hkn:k<n:=by simp only [List.length_cons] at hk; omega
  have hr':k∈Region.ready md ops listed:=by simpa using hr
  have hst:qOp P ops C k (wpQuiet P ops C Lq l) a:=by unfold qOp; simp only [h0]; exact h
  obtain⟨v,hy,hK⟩:=yieldsIn_of_qOp h0 hst;exact Q8p h0 (Region.noSelect_spec hsel) hs hc hn hkn (fun listed' a' hL=>seqB_ready hL.1) l.length listed a inv (Region.free_spec h0 hf) hr' hy
   (Q6m hsel hs hc hn l (k+1) _ _ (fun j hj=>by have:=hl (j+1) (by simp; omega); simpa [Nat.add_assoc,Nat.add_comm 1 j] using this) (by simp only [List.length_cons] at hk; omega) (inv.set hr' hkn) hB' hK)
theorem Q4x {id:Nat} {Q:Exit->Act->World->Prop} {a:Act} {w:World} {l:List Oper} (n:Nat) (hm:P.follows .mixedOrders=true) (hB:Region.lexTailB .any l.toArray n=true) (hC:C w.drew)
 (h:wpQuiet P l.toArray C (fun a'=>∀ w',C w'->wpList P l.toArray Q (l.drop n) a' w') (l.take n) a):(Code.region id l.toArray true).wp P Q a w:=by
 simp only [Region.lexTailB,Bool.and_eq_true,decide_eq_true_eq] at hB;obtain⟨⟨⟨⟨hsel,hn⟩,hs⟩,hc⟩,hlex⟩:=hB;have hn':n<l.length:=by simpa using hn
 have htl:(l.take n).length=n:=by simp; omega
 have hdl:(l.drop n).length=l.toArray.size - n:=by simp
 have inv0:HeadInv .any l.toArray n (Array.replicate l.toArray.size false) :=
  ⟨by simp,fun j oj _ hl=>(by rw [getD_replicate_false] at hl; cases hl),fun t _ ht=>getD_in (by simpa using ht) (getD_replicate_false _ _)⟩
 have H:=Q6m (md:=.any) (C:=C) (g:=l.toArray.size - n) hsel hs hc hn (l.take n) 0 _ a (fun j hj=>by
  have hj':j<n:=by rw [htl] at hj; exact hj
  simp [hj']) (by simpa using htl) inv0 (by rw [htl]; exact hlex) h
 refine wp_region_any hm ?_;have:=Q4F (Q':=Q) (g:=l.toArray.size - n) (fun listed a' w' hw' hL=>by
  have:=wpAny_of_seq (md:=.any) (Q':=Q) (l.drop n) n listed a' w' (fun j=>by simp [List.getElem?_drop]) (by rw [hdl]; exact hL.1) (hL.2 w' hw')
  rwa [hdl] at this) _ _ _ w.drew hC H
 rw [htl,show n+(l.toArray.size - n)=l.toArray.size by omega] at this;exact this
theorem Q3h {id:Nat} {Q:Exit->Act->World->Prop} {a:Act} {w:World} {l:List Oper} (n:Nat) (hm:P.follows .mixedOrders=true) (hB:Region.lexTailB .any l.toArray n=true)
 (h:wpQuiet P l.toArray (fun w'=>∃ n,w'=w.drewN n) (fun a'=>∀ w',(∃ n,w'=w.drewN n)->wpList P l.toArray Q (l.drop n) a' w') (l.take n) a):(Code.region id l.toArray true).wp P Q a w :=
 Q4x (C:=fun w'=>∃ n,w'=w.drewN n) n hm hB ⟨1,rfl⟩ h
end
end
end Go.Proofs.YtcpngeiahgoacaaGreat
