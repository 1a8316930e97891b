/- Parts of the proof, in one text: RootsB, Hash, ShaPlain, Ready, Ror, Take, Write. -/
import Derived.Test.YtcpngeiahgoacaaGreatD1
import Derived.Defers
import Derived.Laws.Pointers
import Derived.Laws.LoneSync
import Derived.Laws.NewBlocks
import Derived.RegionCalls
import Derived.Deep.RegionHeld3
import Derived.Test.YtcpngeiahgoacaaGreatRows
import Derived.StillTailTactics
import Derived.Deep.LoopGhost
import Derived.Deep.RegionLaw
namespace Go.Proofs.YtcpngeiahgoacaaGreat
set_option linter.unusedVariables false
set_option linter.unusedSimpArgs false
set_option maxRecDepth 100000
set_option maxHeartbeats 16000000
section
open Go.RowKit Go.Lib
theorem pl_310:(pl 310).length=64:=by decide +kernel
theorem pl_309:(pl 309).length=63:=by decide +kernel
theorem pl_18:(pl 18).length=8:=by decide +kernel
theorem pl_17:(pl 17).length=7:=by decide +kernel
theorem roots_eq:(pl 310).map (fun p=>rootF (fun x=>Q8B x p))=kc.map (·.toNat):=by decide +kernel
theorem start_eq:(pl 18).map (fun p=>rootF (fun x=>Q8c x p))=h0.list.map (·.toNat):=by decide +kernel
theorem Qdp (k:Nat) (h:k<310):(pl k).length<64:=by
 have:=QcG (a:=k) (b:=309) (by omega);rw [pl_309] at this; omega
theorem pl_18_lt (k:Nat) (h:k<18):(pl k).length<8:=by
 have:=QcG (a:=k) (b:=17) (by omega);rw [pl_17] at this; omega
theorem Q4D (l:List W32) (j:Nat):(l.map (·.toNat)).getD j 0=(l.getD j 0).toNat:=by
 simp only [List.getD_eq_getElem?_getD,List.getElem?_map];cases l[j]? <;> rfl
theorem Q4T (l:List Nat) (f:Nat->Nat) (j:Nat) (h:j<l.length):(l.map f).getD j 0=f (l.getD j 0):=by
 simp only [List.getD_eq_getElem?_getD,List.getElem?_map,List.getElem?_eq_getElem h]; rfl
theorem pl_small (k j:Nat) (hk:k<1000):(pl k).getD j 0<18446744073709551616:=by
 rcases Nat.lt_or_ge j (pl k).length with h | h
 ·have:=pl_bd k ((pl k).getD j 0) (by rw [List.getD_eq_getElem?_getD,List.getElem?_eq_getElem h]; exact List.getElem_mem h);omega
 ·rw [List.getD_eq_getElem?_getD,List.getElem?_eq_none h]; simp
theorem QcQ (j:Nat) (hj:j<64) (w:World):Calls Tryz.prog 244 #[.int .u64 (((pl 310).getD j 0:Nat):Int),.int .i64 3] w fun e w'=>e=.returned (.int .u32 (wi (kc.getD j 0)))/\w=w':=by
 have h:=QaT (fun x=>Q8B x ((pl 310).getD j 0)) ((pl 310).getD j 0) 3 (fun x W hx=>Qaz x _ (by omega) (pl_small 310 j (by omega)) W) w;refine h.mono fun e w' ⟨h1,h2⟩=>⟨?_,h2⟩
 rw [h1];have e1:=Q4D kc j;rw [<- roots_eq,Q4T _ _ j (by rw [pl_310]; exact hj)] at e1;unfold wi;rw [<- e1]
theorem QcL (j:Nat) (hj:j<8) (w:World):Calls Tryz.prog 244 #[.int .u64 (((pl 18).getD j 0:Nat):Int),.int .i64 2] w fun e w'=>e=.returned (.int .u32 (wi (h0.list.getD j 0)))/\w=w':=by
 have h:=QaT (fun x=>Q8c x ((pl 18).getD j 0)) ((pl 18).getD j 0) 2 (fun x W hx=>Qao x _ (by omega) W) w;refine h.mono fun e w' ⟨h1,h2⟩=>⟨?_,h2⟩
 rw [h1];have e1:=Q4D h0.list j;rw [<- start_eq,Q4T _ _ j (by rw [pl_18]; exact hj)] at e1;unfold wi;rw [<- e1]
theorem Q9r {w:World} {B n:Nat} {e:TypeId} {v:Value} {l:List Nat} (h:w.ownsRow B e 1 v n (l.map vu64)) (hn:0<n) :
 ∃ g c,v=.slice (some ⟨g,0,none⟩) n c/\B<=g/\g<w.heap.size/\n<=c/\c<=maxLen/\∀ j,j<n->w.cell? ⟨g,j,none⟩=some (.int .u64 ((l.getD j 0:Nat):Int)):=by
 have hlen:=h.1;have hc:=fun g hv=>h.cells (g:=g) hv
 rcases h.2 with⟨_,h0⟩ | ⟨g,cap,cur,rfl,hb,hh,h1,h2,_⟩
 ·omega
 ·refine⟨g,cap,rfl,hb,Blk.lt (cs:=cur) hh,h1,h2,fun j hj=>?_⟩;have hj':j<l.length:=by simp at hlen; omega
  have:=hc g rfl j (vu64 (l.getD j 0)) (by rw [List.getElem?_map,List.getD_eq_getElem?_getD,List.getElem?_eq_getElem hj']; rfl);rw [Q13,Nat.zero_add] at this;exact this
def Q9W:List Value:=(List.range 64).map (fun j=>vw (kc.getD j 0))
def Qad:List Value:=(List.range 8).map (fun j=>vw (h0.list.getD j 0))
def kRow:Array Value:=rng 64 (fun j=>vw (kc.getD j 0))
def hRow:Array Value:=rng 8 (fun j=>vw (h0.list.getD j 0))
theorem Q93:Q9W.length=64:=by simp [Q9W]
theorem Q9n:Qad.length=8:=by simp [Qad]
theorem Qcp:∀ v∈Q9W,v.oneCell'=true:=by intro v hv; obtain⟨j,_,rfl⟩:=List.mem_map.1 hv; rfl
theorem Qcc:∀ v∈Qad,v.oneCell'=true:=by intro v hv; obtain⟨j,_,rfl⟩:=List.mem_map.1 hv; rfl
theorem Q9m:kRow.size=64:=Q0C _ _
theorem Qbc:kRow.all (·.oneCell')=true:=Qai 64 kc
def Q2W (n:Nat) (l:List W32) (j:Nat):Array Value:=rng n (fun q=>if q<j then vw (l.getD q 0) else .int .u32 0)
theorem Q5W (n:Nat) (l:List W32):Q2W n l 0=Array.replicate n (.int .u32 0):=by
 refine(Q40 (by simp) fun j hj=>?_).symm;simp [hj]
theorem Q5Y (n:Nat) (l:List W32) (j:Nat):(Q2W n l j).setIfInBounds j (vw (l.getD j 0))=Q2W n l (j+1):=by
 unfold Q2W;rw [Q2f];refine Q1n fun q hq=>?_
 by_cases h1:q=j
 ·subst h1; rw [if_pos rfl,if_pos (by omega)]
 ·rw [if_neg h1];by_cases h2:q<j
  ·rw [if_pos h2,if_pos (by omega)]
  ·rw [if_neg h2,if_neg (by omega)]
theorem Q84 (n:Nat) (l:List W32) (j:Nat) (h:j<n):(Q2W n l j)[j]?=some (.int .u32 0):=by
 unfold Q2W; rw [Q1z _ _ _ h,if_neg (by omega)]
theorem Q61 (n:Nat) (l:List W32):Q2W n l n=rng n (fun j=>vw (l.getD j 0)):=Q1n fun j hj=>by rw [if_pos hj]
theorem Qce (w:World):Calls Tryz.prog 229 #[] w fun e w'=>e=.returned (.agg kRow)/\Below w.heap.size w w':=by
 go_enter Tryz.func229,Tryz.ntmps229
 go_wp2_with fail
 generalize hW:w.alloc _=W;have hB:Blk W w.heap.size 273 (Q2W 64 kc 0):=by rw [Q5W,<- hW]; exact Blk.newAt rfl
 have hbel:Below w.heap.size w W:=by rw [<- hW]; exact(Below.refl _ _).alloc (Nat.le_refl _) _
 have hsz:W.heap.size=w.heap.size+1:=by rw [<- hW]; simp
 clear hW;refine(Q7D 64 310 pl_310 Qdp (by omega) W).mono ?_;rintro _ w1 ⟨v,rfl,hown,hbel1⟩;obtain⟨g,c,rfl,hg,hg2,_,hcm,hcl⟩:=Q9r hown (by omega);have hB1:=hB.below hbel1 (by omega);have hbel2:=hbel.trans (hbel1.mono (by omega:w.heap.size<=W.heap.size));clear hB hbel hbel1 hown;unfold maxLen at hcm;have HC:=Lib.hid hcl;have HS:=Lib.hid hsz;clear hsz hcl
 go_wp2
 go_loopw [5] (fun i wr=>∃ j:Nat,j<=64/\i=.int .i64 j/\Blk wr w.heap.size 273 (Q2W 64 kc j)/\Q0c w.heap.size w1 wr) (fun i _=>64 - (intOf i).toNat)
 case atStart=>exact⟨0,by omega,rfl,hB1,Q0c.refl _ _⟩
 case round =>
  obtain⟨j,hj,rfl,hBr,ht⟩:=hrel;clear hB1;by_cases hjl:j<64
  ·have hsrc:wr.cell? ⟨g,j,none⟩=some (.int .u64 (((pl 310).getD j 0:Nat):Int)):=(ht.cell (p:=⟨g,j,none⟩) (by have:=HS.out; simp; omega)).trans (HC.out j hjl);have hdst:=(hBr.cell j).trans (Q84 64 kc j hjl);have hfz:=hBr.frozen j;have HR:=Lib.hid (QcQ j hjl);generalize hp:(pl 310).getD j 0=pv at hsrc HR;clear hp;go_wp2_with (go_at_call 244; refine(HR.out _).mono ?_; rintro _ _ ⟨rfl,rfl⟩)
   go_roundw
   case rel =>
    have h2:=hBr.set_ j (vw (kc.getD j 0));rw [Q5Y] at h2;exact⟨j+1,by omega,by go_num,h2,ht.trans (Q0c.setCell wr ⟨w.heap.size,j,none⟩ _)⟩
   case measure=>simp [intOf]; omega
  ·obtain rfl:j=64:=by omega
   rw [Q61] at hBr;clear HC;have hu:=Tryz.underlying273;have hall:=Qai 64 kc;go_wp2_with (first | (refine Q03 rfl 273 _ rfl w.heap.size 0 64 rfl 273 _ (rng 64 (fun j=>vw (kc.getD j 0))) _ hBr hu rfl rfl (Q0C _ _) (fun _ _=>by rw [Nat.zero_add]) ?_) | (refine Q01 rfl 273 _ _ rfl w.heap.size 0 (rng 64 (fun j=>vw (kc.getD j 0))) rfl rfl 273 _ hBr (by rw [Q0C]; rfl) (by omega) hall ?_; intro W2 hT2 hB2; rw [Q08 _ _ rfl] at hB2))
   refine bodyPost_ret (Q0h rfl _ _ w.heap.size 64 273 _ _ rfl hB2 hu rfl rfl (Q0C _ _)) rfl ⟨rfl,hT2.below (ht.below hbel2 (Nat.le_refl _)) (Nat.le_refl _)⟩
theorem Qd0 (w:World):Calls Tryz.prog 230 #[] w fun e w'=>e=.returned (.agg hRow)/\Below w.heap.size w w':=by
 go_enter Tryz.func230,Tryz.ntmps230
 go_wp2_with fail
 generalize hW:w.alloc _=W;have hB:Blk W w.heap.size 274 (Q2W 8 h0.list 0):=by rw [Q5W,<- hW]; exact Blk.newAt rfl
 have hbel:Below w.heap.size w W:=by rw [<- hW]; exact(Below.refl _ _).alloc (Nat.le_refl _) _
 have hsz:W.heap.size=w.heap.size+1:=by rw [<- hW]; simp
 clear hW;refine(Q7D 8 18 pl_18 pl_18_lt (by omega) W).mono ?_;rintro _ w1 ⟨v,rfl,hown,hbel1⟩;obtain⟨g,c,rfl,hg,hg2,_,hcm,hcl⟩:=Q9r hown (by omega);have hB1:=hB.below hbel1 (by omega);have hbel2:=hbel.trans (hbel1.mono (by omega:w.heap.size<=W.heap.size));clear hB hbel hbel1 hown;unfold maxLen at hcm;have HC:=Lib.hid hcl;have HS:=Lib.hid hsz;clear hsz hcl
 go_wp2
 go_loopw [5] (fun i wr=>∃ j:Nat,j<=8/\i=.int .i64 j/\Blk wr w.heap.size 274 (Q2W 8 h0.list j)/\Q0c w.heap.size w1 wr) (fun i _=>8 - (intOf i).toNat)
 case atStart=>exact⟨0,by omega,rfl,hB1,Q0c.refl _ _⟩
 case round =>
  obtain⟨j,hj,rfl,hBr,ht⟩:=hrel;clear hB1;by_cases hjl:j<8
  ·have hsrc:wr.cell? ⟨g,j,none⟩=some (.int .u64 (((pl 18).getD j 0:Nat):Int)):=(ht.cell (p:=⟨g,j,none⟩) (by have:=HS.out; simp; omega)).trans (HC.out j hjl);have hdst:=(hBr.cell j).trans (Q84 8 h0.list j hjl);have hfz:=hBr.frozen j;have HR:=Lib.hid (QcL j hjl);generalize hp:(pl 18).getD j 0=pv at hsrc HR;clear hp;go_wp2_with (go_at_call 244; refine(HR.out _).mono ?_; rintro _ _ ⟨rfl,rfl⟩)
   go_roundw
   case rel =>
    have h2:=hBr.set_ j (vw (h0.list.getD j 0));rw [Q5Y] at h2;exact⟨j+1,by omega,by go_num,h2,ht.trans (Q0c.setCell wr ⟨w.heap.size,j,none⟩ _)⟩
   case measure=>simp [intOf]; omega
  ·obtain rfl:j=8:=by omega
   rw [Q61] at hBr;clear HC;have hu:=Tryz.underlying274;have hall:=Qai 8 h0.list;go_wp2_with (first | (refine Q03 rfl 274 _ rfl w.heap.size 0 8 rfl 274 _ (rng 8 (fun j=>vw (h0.list.getD j 0))) _ hBr hu rfl rfl (Q0C _ _) (fun _ _=>by rw [Nat.zero_add]) ?_) | (refine Q01 rfl 274 _ _ rfl w.heap.size 0 (rng 8 (fun j=>vw (h0.list.getD j 0))) rfl rfl 274 _ hBr (by rw [Q0C]; rfl) (by omega) hall ?_; intro W2 hT2 hB2; rw [Q08 _ _ rfl] at hB2))
   refine bodyPost_ret (Q0h rfl _ _ w.heap.size 8 274 _ _ rfl hB2 hu rfl rfl (Q0C _ _)) rfl ⟨rfl,hT2.below (ht.below hbel2 (Nat.le_refl _)) (Nat.le_refl _)⟩
end
section
open Go.RowKit
attribute [local irreducible] wpList
def Q57 (done mu:Int) (k s b:Nat->Value) (held all:Int) (j:Nat):Value :=
 if j=0 then .bool true else if j=1 then .int .u32 done else if j=2 then .int .i32 mu else if j=3 then .int .u32 0 else if j<68 then k (j - 4) else if j<76 then s (j - 68) else if j<140 then b (j - 76) else if j=140 then .int .i64 held else .int .i64 all
def Q0n (done mu:Int) (k s b:Nat->Value) (held all:Int):Array Value:=rng 142 (Q57 done mu k s b held all)
def z32:Nat->Value:=fun _=>.int .u32 0
def z8:Nat->Value:=fun _=>.int .u8 0
def kF:Nat->Value:=fun j=>vw (kc.getD j 0)
def sF (s:St):Nat->Value:=fun j=>vw (s.list.getD j 0)
theorem Q49 (d m:Int) (k s b:Nat->Value) (x y:Int):(Q0n d m k s b x y).size=142:=Q0C _ _
theorem Q2e (d m:Int) (k s b:Nat->Value) (x y:Int) (j:Nat) (h:j<142):(Q0n d m k s b x y)[j]?=some (Q57 d m k s b x y j):=Q1z _ _ _ h
theorem Q48 (d m:Int) (k s b:Nat->Value) (x y:Int):(Q0n d m k s b x y)[140]?=some (.int .i64 x):=Q2e _ _ _ _ _ _ _ 140 (by omega)
theorem Q9v (d m:Int) (k s b:Nat->Value) (x y:Int):(Q0n d m k s b x y)[141]?=some (.int .i64 y):=Q2e _ _ _ _ _ _ _ 141 (by omega)
theorem hash_k (d m:Int) (k s b:Nat->Value) (x y:Int) (j:Nat) (h:j<64):(Q0n d m k s b x y)[4+j]?=some (k j):=by
 rw [Q2e _ _ _ _ _ _ _ _ (by omega)]; unfold Q57;rw [if_neg (by omega),if_neg (by omega),if_neg (by omega),if_neg (by omega),if_pos (by omega),show 4+j - 4=j by omega]
theorem Q4Y (d m:Int) (k s b:Nat->Value) (x y:Int) (j:Nat) (h:j<8):(Q0n d m k s b x y)[68+j]?=some (s j):=by
 rw [Q2e _ _ _ _ _ _ _ _ (by omega)]; unfold Q57;rw [if_neg (by omega),if_neg (by omega),if_neg (by omega),if_neg (by omega),if_neg (by omega),if_pos (by omega),show 68+j - 68=j by omega]
theorem hash_b (d m:Int) (k s b:Nat->Value) (x y:Int) (j:Nat) (h:j<64):(Q0n d m k s b x y)[76+j]?=some (b j):=by
 rw [Q2e _ _ _ _ _ _ _ _ (by omega)]; unfold Q57;rw [if_neg (by omega),if_neg (by omega),if_neg (by omega),if_neg (by omega),if_neg (by omega),if_neg (by omega),if_pos (by omega),show 76+j - 76=j by omega]
def putB (b:Nat->UInt8) (o:Nat) (vs:List UInt8) (j:Nat):UInt8:=if o<=j/\j<o+vs.length then vs.getD (j - o) 0 else b j
theorem Qdq (d m:Int) (k s:Nat->Value) (b:Nat->UInt8) (x y:Int) (o:Nat) (vs:List UInt8) (h:o+vs.length<=64) :
 spl (Q0n d m k s (fun j=>vb (b j)) x y) (76+o) (vs.map vb)=Q0n d m k s (fun j=>vb (putB b o vs j)) x y:=by
 unfold putB;unfold Q0n;rw [Q6R (m:=vs.length) (g:=fun j=>vb (vs.getD j 0)) (by simp) (fun j hj=>by rw [List.getElem?_map,List.getD_eq_getElem?_getD,List.getElem?_eq_getElem hj]; rfl) (by omega)];refine Q1n fun j hj=>?_
 by_cases h1:76+o<=j/\j<76+o+vs.length
 ·rw [if_pos h1]; unfold Q57;rw [if_neg (by omega),if_neg (by omega),if_neg (by omega),if_neg (by omega),if_neg (by omega),if_neg (by omega),if_pos (by omega)];show vb _=vb (if o<=j - 76/\j - 76<o+vs.length then _ else _);rw [if_pos (by omega),show j - 76 - o=j - (76+o) by omega]
 ·rw [if_neg h1]; unfold Q57;by_cases h2:j<76
  ·repeat (first | rfl | (split <;> try omega))
  ·by_cases h3:j<140
   ·simp only [show ¬ j=0 by omega,show ¬ j=1 by omega,show ¬ j=2 by omega,show ¬ j=3 by omega,show ¬ j<68 by omega,h2,h3,if_true,if_false];show vb _=vb (if o<=j - 76/\j - 76<o+vs.length then _ else _);rw [if_neg (by omega)]
   ·repeat (first | rfl | (split <;> try omega))
theorem Qcq (d m:Int) (k s s' b:Nat->Value) (x y:Int) (vs:List Value) (hl:vs.length=8) (hv:∀ j,j<8->vs[j]?=some (s' j)) :
 spl (Q0n d m k s b x y) 68 vs=Q0n d m k s' b x y:=by
 unfold Q0n;rw [Q6R (m:=8) (g:=s') hl hv (by omega)];refine Q1n fun j hj=>?_
 by_cases h1:68<=j/\j<68+8
 ·rw [if_pos h1]; unfold Q57;rw [if_neg (by omega),if_neg (by omega),if_neg (by omega),if_neg (by omega),if_neg (by omega),if_pos (by omega)]
 ·rw [if_neg h1]; unfold Q57;by_cases h2:j<68
  ·repeat (first | rfl | (split <;> try omega))
  ·simp only [show ¬ j=0 by omega,show ¬ j=1 by omega,show ¬ j=2 by omega,show ¬ j=3 by omega,show ¬ j<68 by omega,show ¬ j<76 by omega,if_false]
theorem Qdb (d d' m:Int) (k s b:Nat->Value) (x y:Int):(Q0n d m k s b x y).setIfInBounds 1 (.int .u32 d')=Q0n d' m k s b x y:=by
 unfold Q0n; rw [Q2f]; refine Q1n fun j _=>?_
 by_cases h:j=1
 ·subst h; rfl
 ·rw [if_neg h]; simp [Q57,h]
theorem Q9z (d m m':Int) (k s b:Nat->Value) (x y:Int):(Q0n d m k s b x y).setIfInBounds 2 (.int .i32 m')=Q0n d m' k s b x y:=by
 unfold Q0n; rw [Q2f]; refine Q1n fun j _=>?_
 by_cases h:j=2
 ·subst h; rfl
 ·rw [if_neg h]; simp [Q57,h]
theorem Q4Q (d m:Int) (k s b:Nat->Value) (x x' y:Int):(Q0n d m k s b x y).setIfInBounds 140 (.int .i64 x')=Q0n d m k s b x' y:=by
 unfold Q0n; rw [Q2f]; refine Q1n fun j _=>?_
 by_cases h:j=140
 ·subst h; rfl
 ·rw [if_neg h]; simp [Q57,h]
theorem Qav (d m:Int) (k s b:Nat->Value) (x y y':Int):(Q0n d m k s b x y).setIfInBounds 141 (.int .i64 y')=Q0n d m k s b x y':=by
 unfold Q0n; rw [Q2f]; refine Q1n fun j hj=>?_
 by_cases h:j=141
 ·subst h; rfl
 ·rw [if_neg h]; unfold Q57
  repeat (first | rfl | (split <;> try omega))
theorem new_any (w:World):Calls Tryz.prog 205 #[] w fun e w'=>e=.returned (.pointer (some ⟨w.heap.size,0,none⟩))/\Blk w' w.heap.size 277 (Q0n 0 0 z32 z32 z8 0 0)/\Below w.heap.size w w'/\w'.heap.size=w.heap.size+1:=by
 go_enter Tryz.func205,Tryz.ntmps205
 go_wp2
 go_ret
 exact⟨rfl,Blk.newAt (by simp),(Below.refl _ _).alloc (Nat.le_refl _) _,by simp⟩
theorem Q6q (w:World):(callFunc 232 #[]).run Tryz.prog w=.ok (.value (.tuple #[])) w:=run_call_mark0 Tryz.func232 (by kernel_rfl) (by kernel_rfl) (by kernel_rfl) .disable (by kernel_rfl) w
theorem Q7Q (w:World):(callFunc 234 #[]).run Tryz.prog w=.ok (.value (.tuple #[])) w:=run_call_mark0 Tryz.func234 (by kernel_rfl) (by kernel_rfl) (by kernel_rfl) .enable (by kernel_rfl) w
theorem Qaf (a:Addr) (w:World):(callFunc 235 #[.pointer (some a)]).run Tryz.prog w=.ok (.value (.tuple #[])) w:=run_call_marked Tryz.func235 (by kernel_rfl) (by kernel_rfl) (by kernel_rfl) .acquire (by kernel_rfl) a w
theorem Q68 (a:Addr) (w:World):(callFunc 237 #[.pointer (some a)]).run Tryz.prog w=.ok (.value (.tuple #[])) w:=run_call_marked Tryz.func237 (by kernel_rfl) (by kernel_rfl) (by kernel_rfl) .releaseMerge (by kernel_rfl) a w
theorem Q4z (a:Addr) (x:Value) (u:FrameMode) (w:World) (hc:w.cell? a=some x) (hz:w.frozen? a=false) :
 CallsD Tryz.prog 211 #[.pointer (some a),.bool true] u w fun e u' w'=>u'=u/\(e=.returned (.tuple #[])/\w'=w.drew.setCell a (.int .u32 1)):=by
 have hc':w.drew.cell? a=some x:=by go_simp
 have hz':w.drew.frozen? a=false:=by go_simp
 have hst:=run_call_store (P:=Tryz.prog) Tryz.func222 (by kernel_rfl) (by kernel_rfl) (by kernel_rfl) (by kernel_rfl) (k:=.u32) (y:=1) hc' hz'
 go_enter_d Tryz.func211,Tryz.ntmps211
 go_wp2
 go_region_calls
 all_goals (go_end0; exact⟨rfl,rfl⟩)
theorem Q46 (a:Addr) (u:FrameMode) (w:World) (hc:w.cell? a=some (.int .i32 1)) (hz:w.frozen? a=false) :
 CallsD Tryz.prog 210 #[.pointer (some a)] u w fun e u' w'=>u'=u/\(e=.returned (.tuple #[])/\w'=w.setCell a (.int .i32 0)):=by
 have hd:=Q6q;have he:=Q7Q;have hr:=Q68;have hadd:=run_call_add (P:=Tryz.prog) Tryz.func238 (by kernel_rfl) (by kernel_rfl) (by kernel_rfl) .i32 (by kernel_rfl) (y:=-1) (s:=0) hc hz (by simp [go_sem]; rfl);have hcv:=run_convert_to_unsafe (P:=Tryz.prog) (src:=291) (dst:=295) Tryz.underlying291 Tryz.underlying295 (by kernel_rfl) hc
 go_enter_d Tryz.func210,Tryz.ntmps210
 go_wp2
 go_end0
 go_wp2
 go_end0
 exact⟨rfl,rfl⟩
theorem Q9J (a:Addr) (w:World) (hc:w.cell? a=some (.int .i32 0)) (hz:w.frozen? a=false) :
 Calls Tryz.prog 209 #[.pointer (some a)] w fun e w'=>e=.returned (.tuple #[])/\w'=w.setCell a (.int .i32 1):=by
 have hd:=Q6q;have he:=Q7Q;have ha:=Qaf;have hcas:=run_call_cas_hit (P:=Tryz.prog) Tryz.func233 (by kernel_rfl) (by kernel_rfl) (by kernel_rfl) .i32 (by kernel_rfl) (y:=1) hc hz;have hc':(w.setCell a (.int .i32 1)).cell? a=some (.int .i32 1):=World.cell?_setCell_same w a _ hc;have hcv:=run_convert_to_unsafe (P:=Tryz.prog) (src:=291) (dst:=295) Tryz.underlying291 Tryz.underlying295 (by kernel_rfl) hc';go_enter Tryz.func209,Tryz.ntmps209
 go_wp2
 first | go_end0 | (simp only [Exit.inBlock,Exit.then]; refine bodyPost_ret (results_none rfl _ _ _) rfl ?_) | refine bodyPost_ret (results_none rfl _ _ _) rfl ?_
 go_wp2
 go_end0
 exact⟨rfl,rfl⟩
end
section
def Q8g (a:St×List UInt8) (c:UInt8):St×List UInt8 :=
 if a.2.length+1=64 then(Q0x a.1 (a.2++[c]),[]) else(a.1,a.2++[c])
def feed (a:St×List UInt8) (l:List UInt8):St×List UInt8:=l.foldl Q8g a
def acc (l:List UInt8):St×List UInt8:=feed (h0,[]) l
theorem Q4M (a:St×List UInt8) (x y:List UInt8):feed a (x++y)=feed (feed a x) y:=by simp [feed]
theorem Q5z (x y:List UInt8):acc (x++y)=feed (acc x) y:=Q4M _ _ _
theorem Qbe (a:St×List UInt8) (c:UInt8) (h:a.2.length<64):(Q8g a c).2.length<64:=by
 unfold Q8g; split <;> simp <;> omega
theorem feed_lt (a:St×List UInt8) (l:List UInt8) (h:a.2.length<64):(feed a l).2.length<64:=by
 induction l generalizing a with
 | nil=>exact h
 | cons c l ih=>exact ih (Q8g a c) (Qbe a c h)
theorem Qb2 (l:List UInt8):(acc l).2.length<64:=feed_lt _ _ (by simp)
theorem Q7w (s:St) (p l:List UInt8) (h:p.length+l.length<64):feed (s,p) l=(s,p++l):=by
 induction l generalizing p with
 | nil=>simp [feed]
 | cons c l ih =>
  simp only [feed,List.foldl_cons];have h1:Q8g (s,p) c=(s,p++[c]):=by unfold Q8g; rw [if_neg (by simp at h ⊢; omega)]
  rw [h1];have:=ih (p++[c]) (by simp at h ⊢; omega);rw [feed] at this;rw [this]; simp
theorem Q4g (s:St) (p l:List UInt8) (h:p.length+l.length=64) (h0:p.length<64):feed (s,p) l=(Q0x s (p++l),[]):=by
 have hl:l≠[]:=by rintro rfl; simp at h; omega
 obtain⟨m,c,rfl⟩:∃ m c,l=m++[c]:=⟨l.dropLast,l.getLast hl,(List.dropLast_concat_getLast hl).symm⟩;rw [Q4M,Q7w s p m (by simp at h; omega)];simp only [feed,List.foldl_cons,List.foldl_nil,Q8g];rw [if_pos (by simp at h ⊢; omega)]
 simp
def be8 (n:Nat):List UInt8:=(List.range 8).map fun i=>UInt8.ofNat (8*n / 2 ^ (8*(7 - i)))
theorem Q2D (n:Nat):(be8 n).length=8:=by simp [be8]
def outB (s:St):List UInt8:=(List.range 32).map fun i=>w8 (s.list.getD (i / 4) 0 >>> (24 - 8*(i % 4)))
theorem Q55 (s:St):(outB s).length=32:=by simp [outB]
def Q29 (s:St) (p:List UInt8) (n:Nat):St :=
 if 56<=p.length then Q0x (Q0x s (p++[128]++List.replicate (63 - p.length) 0)) (List.replicate 56 0++be8 n)
 else Q0x s (p++[128]++List.replicate (55 - p.length) 0++be8 n)
def Q14 (l:List UInt8):List UInt8:=outB (Q29 (acc l).1 (acc l).2 l.length)
theorem Q2A (l:List UInt8):(Q14 l).length=32:=Q55 _
def padN (n:Nat):Nat:=(119 - n % 64) % 64
def Q4h (l:List UInt8):List UInt8:=l++[128]++List.replicate (padN l.length) 0++be8 l.length
theorem Qde (l:List UInt8):(acc l).2.length=l.length % 64:=by
 have key:∀ (l:List UInt8) (a:St×List UInt8),a.2.length<64->(feed a l).2.length=(a.2.length+l.length) % 64:=by
  intro l
  induction l with
  | nil=>intro a h; simp [feed]; omega
  | cons c l ih =>
   intro a h;have h1:=ih (Q8g a c) (Qbe a c h);simp only [feed,List.foldl_cons] at h1 ⊢;rw [h1];unfold Q8g;split
   ·simp; omega
   ·simp; congr 1; omega
 have:=key l (h0,[]) (by simp);simpa [acc] using this
theorem Qbv (l:List UInt8):acc (Q4h l)=(Q29 (acc l).1 (acc l).2 l.length,[]):=by
 have hlen:=Qde l;have hlt:=Qb2 l;have hm:l.length % 64<64:=Nat.mod_lt _ (by omega);unfold Q4h;rw [List.append_assoc,List.append_assoc,Q5z];generalize hA:acc l=A at *;obtain⟨s,p⟩:=A;simp only at hlen hlt ⊢;unfold Q29 padN;by_cases h:56<=p.length
 ·rw [if_pos h];have e1:List.replicate ((119 - l.length % 64) % 64) (0:UInt8)=List.replicate (63 - p.length) 0++List.replicate 56 0:=by
   rw [List.replicate_append_replicate]; congr 1; omega
  rw [e1,show [128]++(List.replicate (63 - p.length) (0:UInt8)++List.replicate 56 0++be8 l.length)=([128]++List.replicate (63 - p.length) 0)++(List.replicate 56 0++be8 l.length) by simp,Q4M,
   Q4g s p _ (by simp; omega) hlt,Q4g _ [] _ (by simp [Q2D]) (by simp)]
  simp
 ·rw [if_neg h];have e1:(119 - l.length % 64) % 64=55 - p.length:=by omega
  rw [e1,Q4g s p _ (by simp [Q2D]; omega) hlt]
  simp
theorem Qc4 (l:List UInt8):(Q4h l).length % 64=0:=by
 have:(Q4h l).length=l.length+1+(119 - l.length % 64) % 64+8:=by simp [Q4h,padN,Q2D]; omega
 omega
end
section
open Go.RowKit
theorem QbZ (mu:Int) (b:Nat->Value) (held all:Int) (k s:Nat->Value) :
 spl (spl (Q0n 0 mu k s b held all) 4 Q9W) 68 Qad=Q0n 0 mu kF (sF h0) b held all:=by
 unfold Q0n;rw [Q6R (m:=64) (g:=kF) Q93 (fun j hj=>by rw [Q9W,List.getElem?_map,List.getElem?_range hj]; rfl) (by omega),
  Q6R (m:=8) (g:=sF h0) Q9n (fun j hj=>by rw [Qad,List.getElem?_map,List.getElem?_range hj]; rfl) (by omega)]
 refine Q1n fun j hj=>?_
 unfold Q57;by_cases h1:j<4
 ·rw [if_neg (by omega),if_neg (by omega)]
  repeat (first | rfl | (split <;> try omega))
 ·by_cases h2:j<68
  ·rw [if_neg (by omega),if_pos (by omega)];simp only [show ¬ j=0 by omega,show ¬ j=1 by omega,show ¬ j=2 by omega,show ¬ j=3 by omega,h2,if_true,if_false]
  ·by_cases h3:j<76
   ·rw [if_pos (by omega)];simp only [show ¬ j=0 by omega,show ¬ j=1 by omega,show ¬ j=2 by omega,show ¬ j=3 by omega,h2,h3,if_true,if_false]
   ·rw [if_neg (by omega),if_neg (by omega)];simp only [show ¬ j=0 by omega,show ¬ j=1 by omega,show ¬ j=2 by omega,show ¬ j=3 by omega,h2,h3,if_false]
theorem Qbu (g:Nat) (pl:Addr) (hpg:pl.block≠g) (cs:Array Value) (hcs:cs.size=142) (w:World) (hB:Blk w g 277 cs) (hp:w.cell? pl=some (.pointer (some ⟨g,0,none⟩))) :
 Calls Tryz.prog 228 #[.pointer (some pl)] w fun e w'=>e=.returned (.tuple #[])/\Blk w' g 277 (spl (spl cs 4 Q9W) 68 Qad)/\w.grownBy w' (some g):=by
 have hpl:=World.block_lt_of_cell? _ _ hp;have hgl:=hB.lt;obtain⟨kl,ekl⟩:∃ kl,kl=Q9W:=⟨_,rfl⟩;obtain⟨hl,ehl⟩:∃ hl,hl=Qad:=⟨_,rfl⟩;have hr:∀ W,Calls Tryz.prog 229 #[] W fun e w'=>e=.returned (.agg kl.toArray)/\Below W.heap.size W w':=by subst ekl; exact fun W=>Qce W
 have hs:∀ W,Calls Tryz.prog 230 #[] W fun e w'=>e=.returned (.agg hl.toArray)/\Below W.heap.size W w':=by subst ehl; exact fun W=>Qd0 W
 have HR:=Lib.hid hr;have HS:=Lib.hid hs;clear hr hs;have hkl:kl.length=64:=by rw [ekl]; exact Q93
 have hhl:hl.length=8:=by rw [ehl]; exact Q9n
 have hk1:∀ v∈kl,v.oneCell'=true:=by rw [ekl]; exact Qcp
 have hh1:∀ v∈hl,v.oneCell'=true:=by rw [ehl]; exact Qcc
 have hi64:(Tryz.prog.info? 273).map (·.size)=some 64:=rfl;have hst2:∀ W:World,W.there g 68 8->(storeCells ⟨g,68,none⟩ hl 0).run Tryz.prog W=.ok () (W.setCells g 68 hl):=fun W hW =>
  run_storeCells_cells (P:=Tryz.prog) g 68 hl 0 W (fun j hj=>(hW j (by omega)).1) (fun j hj=>(hW j (by omega)).2) hh1
 have HST:=Lib.hid hst2;clear hst2;rw [<- ekl,<- ehl];have HKL:=Lib.hid (And.intro hkl hhl);clear ekl ehl hh1;have hS:∀ W:World,Below w.heap.size w W->W.cell? pl=some (.pointer (some ⟨g,0,none⟩))/\W.there g 4 64/\W.there g 68 8:=fun W hb =>
  ⟨(hb.cell hpl).trans hp,(hB.below hb hgl).there 4 64 (by omega),(hB.below hb hgl).there 68 8 (by omega)⟩
 have hS2:∀ W1 W2:World,Below w.drew.heap.size w.drew W1->Below W1.heap.size W1 W2->W2.cell? pl=some (.pointer (some ⟨g,0,none⟩))/\W2.there g 4 64/\W2.there g 68 8:=fun W1 W2 h1 h2 =>
  hS W2 (((Below.refl _ w).drew.trans h1).trans (h2.mono h1.size))
 have hS3:∀ (W:World) (o:Nat) (vs:List Value),(W.cell? pl=some (.pointer (some ⟨g,0,none⟩))/\W.there g 4 64/\W.there g 68 8)->(W.setCells g o vs).cell? pl=some (.pointer (some ⟨g,0,none⟩))/\(W.setCells g o vs).there g 4 64/\(W.setCells g o vs).there g 68 8:=fun W o vs h =>
  ⟨(World.cell?_setCells_out g _ _ _ _ (fun e=>absurd e hpg)).trans h.1,World.there_setCells h.2.1 g _ _,World.there_setCells h.2.2 g _ _⟩
 have hS0:=hS w.drew (Below.refl _ w).drew;have H1:=Lib.hid hS;have H2:=Lib.hid hS2;have H3:=Lib.hid hS3;have H0:=Lib.hid hS0;have HC:=Lib.hid hcs;clear hcs hS hS2 hS3 hS0;go_enter Tryz.func228,Tryz.ntmps228
 go_wp2
 go_region_held3 (fun w'=>w'.cell? pl=some (.pointer (some ⟨g,0,none⟩))/\w'.there g 4 64/\w'.there g 68 8)
  (first
   | exact H0.out
   | (exact H1.out _ ((Below.refl _ w).drew.trans hb1))
   | (exact H2.out _ _ hb1 hb2)
   | (exact H3.out _ _ _ (H2.out _ _ hb1 hb2))
   | (exact H3.out _ _ _ (H3.out _ _ _ (H2.out _ _ hb1 hb2))))
  (first
   | (go_at_call 229; refine(HR.out _).mono ?_; rintro _ w1 ⟨rfl,hb1⟩)
   | (go_at_call 230; refine(HS.out _).mono ?_; rintro _ w2 ⟨rfl,hb2⟩; have hst3:=HST.out (World.setCells w2 g 4 kl) (World.there_setCells (H2.out _ _ hb1 hb2).2.2 g _ _)))
 go_end0
 obtain⟨h1,h2⟩:=HKL.out;have hB2:=(hB.drew.below hb1 hgl).below hb2 (Nat.lt_of_lt_of_le hgl hb1.size);have hb3:=((Below.refl w.heap.size w).drew.trans hb1).trans (hb2.mono hb1.size);have hB3:=hB2.setCells 4 kl (by rw [h1,HC.out]; omega);have hB4:=hB3.1.setCells 68 hl (by rw [h2,Q3P (by rw [h1,HC.out]; omega),HC.out]; omega);exact⟨rfl,hB4.1,(Q0O hb3 (some g)).trans (hB3.2.trans hB4.2).grown⟩
theorem slow_any (g:Nat) (pl:Addr) (hpg:pl.block≠g) (k s b:Nat->Value) (x y:Int) (w:World) (hB:Blk w g 277 (Q0n 0 0 k s b x y)) (hp:w.cell? pl=some (.pointer (some ⟨g,0,none⟩))) :
 Calls Tryz.prog 191 #[.pointer (some ⟨g,1,none⟩),.func (.func 228) #[] #[.pointer (some pl)]] w fun e w'=>e=.returned (.tuple #[])/\Blk w' g 277 (Q0n 1 0 kF (sF h0) b x y)/\w.grownBy w' (some g):=by
 have c1:w.cell? ⟨g,1,none⟩=some (.int .u32 0):=(hB.cell 1).trans (Q2e _ _ _ _ _ _ _ 1 (by omega));have c2:w.cell? ⟨g,2,none⟩=some (.int .i32 0):=(hB.cell 2).trans (Q2e _ _ _ _ _ _ _ 2 (by omega));have f2:=hB.frozen 2;have hB1:=hB.set_ 2 (.int .i32 1);rw [Q9z] at hB1;have hT1:=Q0c.setCell w ⟨g,2,none⟩ (.int .i32 1);have hp1:(w.setCell ⟨g,2,none⟩ (.int .i32 1)).cell? pl=some (.pointer (some ⟨g,0,none⟩)):=(hT1.cell hpg).trans hp;have c11:(w.setCell ⟨g,2,none⟩ (.int .i32 1)).cell? ⟨g,1,none⟩=some (.int .u32 0):=(hB1.cell 1).trans (Q2e _ _ _ _ _ _ _ 1 (by omega));have hl:=run_call_load (P:=Tryz.prog) Tryz.func208 (by kernel_rfl) (by kernel_rfl) (by kernel_rfl) .u32 (by kernel_rfl) c11;have hnot:∀ (x:Bool) (w:World),(Op.unary .not (.bool x)).run Tryz.prog w=.ok (.bool (!x)) w:=fun _ _=>rfl
 have HB1:=Lib.hid hB1;have HT1:=Lib.hid hT1;have HP1:=Lib.hid hp1;clear hB1 hT1 hp1 hB
 go_enter_defers Tryz.func191,Tryz.ntmps191
 go_wp2_with (first | (go_at_call 209; refine(Q9J ⟨g,2,none⟩ _ c2 f2).mono ?_; rintro e w' ⟨rfl,rfl⟩) | (go_at_call 190; go_in))
 refine(Qbu g pl hpg _ (Q49 _ _ _ _ _ _ _) _ HB1.out HP1.out).mono ?_;rintro e w1 ⟨rfl,hB2,hg2⟩;rw [QbZ] at hB2
 go_wp2
 have hB3:=hB2.drew.set_ 1 (.int .u32 1);rw [Qdb] at hB3;have hB4:=hB3.set_ 2 (.int .i32 0);rw [Q9z] at hB4;have hG:w.grownBy ((w1.drew.setCell ⟨g,1,none⟩ (.int .u32 1)).setCell ⟨g,2,none⟩ (.int .i32 0)) (some g) :=
  ((HT1.out.grown.trans (QcZ hg2)).trans (Q0c.setCell _ ⟨g,1,none⟩ _).grown).trans (Q0c.setCell _ ⟨g,2,none⟩ _).grown
 refine leaves_cons (f:=211) (args:=#[.pointer (some ⟨g,1,none⟩),.bool true]) (by simp) (by simp [go_sem]) ?_;refine(Q4z ⟨g,1,none⟩ (.int .u32 0) .returning _ ((hB2.cell 1).trans (Q2e _ _ _ _ _ _ _ 1 (by omega))) (hB2.frozen 1)).mono ?_;rintro e u' w'' ⟨rfl,rfl,rfl⟩;refine leaves_cons (f:=210) (args:=#[.pointer (some ⟨g,2,none⟩)]) (by simp [settle]) (by simp [go_sem]) ?_;refine(Q46 ⟨g,2,none⟩ _ _ ((hB3.cell 2).trans (Q2e _ _ _ _ _ _ _ 2 (by omega))) (hB3.frozen 2)).mono ?_;rintro e u' w'' ⟨rfl,rfl,rfl⟩;simp only [Leaves,settle];exact⟨_,by simp [results,Tryz.results191],rfl,hB4,hG⟩
theorem do_first (g:Nat) (pl:Addr) (hpg:pl.block≠g) (k s b:Nat->Value) (x y:Int) (w:World) (hB:Blk w g 277 (Q0n 0 0 k s b x y)) (hp:w.cell? pl=some (.pointer (some ⟨g,0,none⟩))) :
 Calls Tryz.prog 173 #[.pointer (some ⟨g,1,none⟩),.func (.func 228) #[] #[.pointer (some pl)]] w fun e w'=>e=.returned (.tuple #[])/\Blk w' g 277 (Q0n 1 0 kF (sF h0) b x y)/\w.grownBy w' (some g):=by
 have c1:w.cell? ⟨g,1,none⟩=some (.int .u32 0):=(hB.cell 1).trans (Q2e _ _ _ _ _ _ _ 1 (by omega));have hl:=run_call_load (P:=Tryz.prog) Tryz.func208 (by kernel_rfl) (by kernel_rfl) (by kernel_rfl) .u32 (by kernel_rfl) c1;have hnot:∀ (x:Bool) (w:World),(Op.unary .not (.bool x)).run Tryz.prog w=.ok (.bool (!x)) w:=fun _ _=>rfl
 have HB:=Lib.hid hB;have HP:=Lib.hid hp;clear hB hp;go_enter Tryz.func173,Tryz.ntmps173
 go_wp2_with (first | (go_at_call 191; refine(slow_any g pl hpg k s b x y _ HB.out HP.out).mono ?_; rintro e w1 ⟨rfl,hB2,hg2⟩) | (go_at_call 190; go_in))
 go_end0
 exact⟨rfl,hB2,hg2⟩
theorem do_done (a:Addr) (fv:Value) (w:World) (h0:w.cell? a=some (.int .u32 1)) :
 Calls Tryz.prog 173 #[.pointer (some a),fv] w fun e w'=>e=.returned (.tuple #[])/\w'=w:=by
 have hl:=run_call_load (P:=Tryz.prog) Tryz.func208 (by kernel_rfl) (by kernel_rfl) (by kernel_rfl) .u32 (by kernel_rfl) h0;have hnot:∀ (x:Bool) (w:World),(Op.unary .not (.bool x)).run Tryz.prog w=.ok (.bool (!x)) w:=fun _ _=>rfl
 go_enter Tryz.func173,Tryz.ntmps173
 go_wp2
 go_end0
 exact⟨rfl,rfl⟩
def Q3E (w:World) (g:Nat) (l:List UInt8):Prop :=
 ∃ b:Nat->UInt8,Blk w g 277 (Q0n 1 0 kF (sF (acc l).1) (fun j=>vb (b j)) ((acc l).2.length:Nat) (l.length:Nat))/\∀ j,j<(acc l).2.length->b j=(acc l).2.getD j 0
def Q4A (w:World) (g:Nat) (l:List UInt8):Prop :=
 Q3E w g l\/(l=[]/\Blk w g 277 (Q0n 0 0 z32 z32 z8 0 0))
theorem Q3E.keep {w w':World} {g:Nat} {l:List UInt8} (h:Q3E w g l) (hb:w'.heap[g]?=w.heap[g]?):Q3E w' g l:=by
 obtain⟨b,h1,h2⟩:=h;exact⟨b,hb.trans h1,h2⟩
theorem Q4A.keep {w w':World} {g:Nat} {l:List UInt8} (h:Q4A w g l) (hb:w'.heap[g]?=w.heap[g]?):Q4A w' g l:=by
 rcases h with h | ⟨h1,h2⟩
 ·exact .inl (h.keep hb)
 ·exact .inr ⟨h1,hb.trans h2⟩
theorem Q4A.lt {w:World} {g:Nat} {l:List UInt8} (h:Q4A w g l):g<w.heap.size:=by
 rcases h with⟨b,h1,_⟩ | ⟨_,h1⟩ <;> exact h1.lt
theorem Q9y (g:Nat) (l:List UInt8) (w:World) (h:Q4A w g l) :
 Calls Tryz.prog 218 #[.pointer (some ⟨g,0,none⟩)] w fun e w'=>e=.returned (.tuple #[])/\Q3E w' g l/\w.grownBy w' (some g):=by
 have hgl:=h.lt;have hmf:∀ (fn:Fn) (first cap:Array Value) (w:World),(Instr.makeFunc fn first cap).run Tryz.prog w=.ok (.func fn first cap) w:=fun _ _ _ _=>rfl
 have hp:(w.alloc (.cells #[.pointer (some ⟨g,0,none⟩)] 260)).cell? ⟨w.heap.size,0,none⟩=some (.pointer (some ⟨g,0,none⟩)):=by simp
 rcases h with⟨b,h1,h2⟩ | ⟨rfl,h1⟩
 ·have hB:=h1.alloc (.cells #[.pointer (some ⟨g,0,none⟩)] 260);have c1:=(hB.cell 1).trans (Q2e _ _ _ _ _ _ _ 1 (by omega));have HD:=Lib.hid (do_done ⟨g,1,none⟩ (.func (.func 228) #[] #[.pointer (some ⟨w.heap.size,0,none⟩)]) _ c1);have HB:=Lib.hid hB;clear hB h1 c1;go_enter Tryz.func218,Tryz.ntmps218
  go_wp2_with (go_at_call 173; refine HD.out.mono ?_; rintro e w1 ⟨rfl,rfl⟩)
  go_end0
  exact⟨rfl,⟨b,HB.out,h2⟩,Q4p (World.grownBy.refl w _) _⟩
 ·have hB:=h1.alloc (.cells #[.pointer (some ⟨g,0,none⟩)] 260);have HD:=Lib.hid (do_first g ⟨w.heap.size,0,none⟩ (by simp; omega) z32 z32 z8 0 0 _ hB hp);clear hB h1;go_enter Tryz.func218,Tryz.ntmps218
  go_wp2_with (go_at_call 173; refine HD.out.mono ?_; rintro e w1 ⟨rfl,hB2,hg2⟩)
  go_end0
  exact⟨rfl,⟨fun _=>0,hB2,fun j hj=>by simp [acc,feed] at hj⟩,(Q4p (World.grownBy.refl w _) _).trans hg2⟩
end
section
open Go.RowKit
attribute [local go_sem] Q8x Q5X Q8V Q63 Q9G w_or Q8j Q96 Q7n Q66 Q4e
theorem Qbq (x:W32) (n:Nat) (h:0<n) (h':n<32) (w:World) :
 Calls Tryz.prog 231 #[vw x,.int .i64 (n:Int)] w fun e w'=>e=.returned (vw (x.rotateRight n))/\w=w':=by
 unfold vw;have hr:=rot_and n h h';go_enter Tryz.func231,Tryz.ntmps231
 go_wp2
 go_ret
 exact⟨Qae (by rw [sub_sub_ n h',ror_or x n h']),rfl⟩
theorem Q28 (x:W32) (n:Int) (h:0<n) (h':n<32) (w:World) :
 Calls Tryz.prog 231 #[.int .u32 (wi x),.int .i64 n] w fun e w'=>e=.returned (.int .u32 (wi (x.rotateRight n.toNat)))/\w'=w:=by
 obtain⟨m,rfl⟩:=Int.eq_ofNat_of_zero_le (show 0<=n by omega);exact(Qbq x m (by omega) (by omega) w).mono fun _ _ ⟨h1,h2⟩=>⟨by rw [h1]; rfl,h2.symm⟩
end
section
open Go.RowKit
attribute [local irreducible] wpList
attribute [local go_sem] Q8x Q5X Q8V Q63 Q9G w_or Q8j Q96 Q7n Q66 Q4e Q85 Q5A Q7u Q5s Q3S Q3n Q4S Q4r
attribute [local go_sem] Q81 Qcd
def Q4L (w:World) (ad:Addr) (l:List UInt8):Prop:=∀ j (h:j<l.length),w.cell? (ad.add j)=some (vb l[j])
def Q6w (w:World) (ad:Addr) (l:List W32):Prop:=∀ j (h:j<l.length),w.cell? (ad.add j)=some (vw l[j])
def Qa4 (blk:List UInt8) (t:Nat):Nat->W32
 | 0=>0
 | k+1=>Qa4 blk t k <<< 8 ||| b32 (blk.getD (4*t+k) 0)
theorem partW_4 (blk:List UInt8) (t:Nat) (h:t<16) (l:List W32):Qa4 blk t 4=Q5H blk l t:=by
 rw [Q5H,if_pos h]; simp [Qa4,be4]
def Q5f (blk:List UInt8) (t j:Nat):Value:=vw (if j<t then(Q0L blk t).getD j 0 else 0)
def Q0r (blk:List UInt8) (t:Nat):Array Value:=rng 64 (Q5f blk t)
theorem Q75 (blk:List UInt8) (t:Nat) (h:t<64):(Q0r blk t).setIfInBounds t (vw (Qa4 blk t 0))=Q0r blk t:=by
 unfold Q0r;rw [Q2f];refine Q1n fun j hj=>?_
 split
 ·rename_i e; subst e; simp [Q5f,Qa4]
 ·rfl
def Q7X:Array Value:=#[.int .u32 0,.int .u32 0,.int .u32 0,.int .u32 0,.int .u32 0,.int .u32 0,.int .u32 0,.int .u32 0]
theorem Q2X (blk:List UInt8):Q0r blk 0=Array.replicate 64 (.int .u32 0):=by
 refine(Q40 (by simp) fun j hj=>?_).symm;simp [Q5f,vw,wi,hj]
theorem Q2Y (blk:List UInt8) (t:Nat) (h:t<64):(Q0r blk t)[t]?=some (vw 0):=by
 unfold Q0r;rw [Q1z _ _ _ h,Q5f,if_neg (by omega)]
theorem Q8N (blk:List UInt8) (t:Nat) (v:Value) (h:t<64):((Q0r blk t).setIfInBounds t v)[t]?=some v:=by
 unfold Q0r;rw [Q2f,Q1z _ _ _ h,if_pos rfl]
theorem Q2h (blk:List UInt8) (t:Nat) (h:t<64):(Q0r blk t).setIfInBounds t (vw (Q5H blk (Q0L blk t) t))=Q0r blk (t+1):=by
 unfold Q0r;rw [Q2f];refine Q1n fun j hj=>?_
 have hl:=Q7d blk t;split
 ·rename_i e; subst e;simp [Q5f,Q0L,hl]
 ·rename_i e;unfold Q5f;congr 1
  by_cases h1:j<t
  ·rw [if_pos h1,if_pos (by omega)];simp [Q0L,List.getElem?_append,hl,h1]
  ·rw [if_neg h1,if_neg (by omega)]
theorem Q0R (blk:List UInt8) (t j:Nat) (h:j<t) (ht:t<=64):(Q0r blk t)[j]?=some (vw ((Q0L blk t).getD j 0)):=by
 unfold Q0r;rw [Q1z _ _ _ (by omega),Q5f,if_pos h]
def Q2H (s r:St) (k:Nat):Array Value:=rng 8 (fun j=>vw (if j<k then s.list.getD j 0+r.list.getD j 0 else s.list.getD j 0))
theorem Q5j (s r:St):Q2H s r 0=s.vals:=by
 refine(Q40 (by simp [St.vals]) fun j hj=>?_).symm;match j,hj with
 | 0,_ | 1,_ | 2,_ | 3,_ | 4,_ | 5,_ | 6,_ | 7,_=>rfl
theorem Q6x (s r:St) (k:Nat) (hk:k<8):∃ u v,u=s.list.getD k 0/\v=r.list.getD k 0/\(Q2H s r k)[k]?=some (vw u)/\r.vals[k]?=some (vw v):=by
 refine⟨_,_,rfl,rfl,?_,?_⟩
 ·rw [Q2H,Q1z _ _ _ hk,if_neg (by omega)]
 ·match k,hk with
  | 0,_ | 1,_ | 2,_ | 3,_ | 4,_ | 5,_ | 6,_ | 7,_=>rfl
theorem Q5q (s r:St) (k:Nat):(Q2H s r k).setIfInBounds k (vw (s.list.getD k 0+r.list.getD k 0))=Q2H s r (k+1):=by
 unfold Q2H;rw [Q2f];refine Q1n fun j hj=>?_
 split
 ·rename_i e; subst e; rw [if_pos (by omega)]
 ·rename_i e;by_cases h1:j<k
  ·rw [if_pos h1,if_pos (by omega)]
  ·rw [if_neg h1,if_neg (by omega)]
theorem Q7q (s r:St):Q2H s r 8=(s.add r).vals:=by
 refine(Q40 (by simp [St.vals]) fun j hj=>?_).symm;match j,hj with
 | 0,_ | 1,_ | 2,_ | 3,_ | 4,_ | 5,_ | 6,_ | 7,_=>rfl
theorem Q4L.getD {w:World} {ad:Addr} {l:List UInt8} (h:Q4L w ad l) (j:Nat) (hj:j<l.length):w.cell? (ad.add j)=some (.int .u8 (bi (l.getD j 0))):=by
 rw [h j hj,List.getD_eq_getElem?_getD,List.getElem?_eq_getElem hj]; rfl
theorem Q6w.getD {w:World} {ad:Addr} {l:List W32} (h:Q6w w ad l) (j:Nat) (hj:j<l.length):w.cell? (ad.add j)=some (.int .u32 (wi (l.getD j 0))):=by
 rw [h j hj,List.getD_eq_getElem?_getD,List.getElem?_eq_getElem hj]; rfl
theorem Q8E (s:St) (blk:List UInt8) (bd kd:Addr) (w:World) (hbl:blk.length=64) (hb:Q4L w bd blk) (hk:Q6w w kd kc) (hbb:bd.block<w.heap.size) (hkb:kd.block<w.heap.size) :
 Calls Tryz.prog 219 #[.agg s.vals,.pointer (some bd),.pointer (some kd)] w fun e w'=>e=.returned (.agg (Q0x s blk).vals)/\Below w.heap.size w w':=by
 unfold St.vals vw;go_enter Tryz.func219,Tryz.ntmps219
 go_wp2
 go_loopw [26] (fun i wr=>∃ t:Nat,t<=64/\i=.int .i64 t/\Blk wr w.heap.size 274 s.vals/\Blk wr (w.heap.size+1) 274 Q7X/\Blk wr (w.heap.size+1+1) 273 (Q0r blk t)/\Below w.heap.size w wr) (fun i _=>64 - (intOf i).toNat)
 case atStart =>
  refine⟨0,by omega,rfl,((Blk.new w 274 s.vals).alloc _).alloc _,(Blk.newAt (cs:=Q7X) (by simp)).alloc _,?_,(((Below.refl _ _).alloc (Nat.le_refl _) _).alloc (by simp) _).alloc (by simp; omega) _⟩;rw [Q2X];exact Blk.newAt (by simp)
 case round =>
  obtain⟨t,ht,rfl,hB0,hB1,hB2,hbel⟩:=hrel;by_cases ht1:t<64
  ·by_cases ht2:t<16
   ·have hsl:=fun W=>Q9d (P:=Tryz.prog) (t:=275) (e:=5) (n:=64) rfl rfl bd (4*t) (4*t+4) (4*(t:Int)) (4*(t:Int)+4) (by omega) (by omega) (by omega) (by omega) (by omega) W
    rw [show 4*t+4 - 4*t=4 from by omega] at hsl
    go_wp2
    obtain⟨wo,rfl⟩:∃ wo:World,wo=wr:=⟨_,rfl⟩;go_loopw [40] (fun i wr=>∃ k:Nat,k<=4/\i=.int .i64 k/\Blk wr w.heap.size 274 s.vals/\Blk wr (w.heap.size+1) 274 Q7X/\Blk wr (w.heap.size+1+1) 273 ((Q0r blk t).setIfInBounds t (vw (Qa4 blk t k)))/\Below w.heap.size w wr) (fun i _=>4 - (intOf i).toNat)
    case atStart=>exact⟨0,by omega,rfl,hB0,hB1,by rw [Q75 blk t ht1]; exact hB2,hbel⟩
    case round =>
     obtain⟨k,hk4,rfl,hB0,hB1,hB2,hbel⟩:=hrel;by_cases hk5:k<4
     ·have hc1:wr.cell? ((bd.add (4*t)).add k)=some (.int .u8 (bi (blk.getD (4*t+k) 0))):=by
       rw [hbel.cell (by rw [Q0e,Q0e]; exact hbb),Q1L]; exact hb.getD _ (by omega)
      have hc2:=hB2.cell t;rw [Q8N blk t _ ht1] at hc2;have hf2:=hB2.frozen t;unfold vw at hc2;clear hsl
      go_wp2
      go_roundw
      case rel =>
       have h2:=hB2.set_ t (vw (Qa4 blk t (k+1)));rw [Array.setIfInBounds_setIfInBounds] at h2;exact⟨k+1,by omega,by go_num,hB0.far (p:=⟨w.heap.size+1+1,t,none⟩) (by simp; omega) _,hB1.far (p:=⟨w.heap.size+1+1,t,none⟩) (by simp) _,h2,hbel.setCell (p:=⟨w.heap.size+1+1,t,none⟩) (by simp; omega) _⟩
      case measure=>simp [intOf]; omega
     ·obtain rfl:k=4:=by omega
      rw [partW_4 blk t ht2 (Q0L blk t),Q2h blk t ht1] at hB2;clear hsl
      go_wp2
      go_roundw
      case rel=>exact⟨t+1,by omega,by go_num,hB0,hB1,hB2,hbel⟩
      case measure=>simp [intOf]; omega
   ·have e1:(((t:Int) - 15).toNat)=t - 15:=by omega
    have e2:(((t:Int) - 2).toNat)=t - 2:=by omega
    have e3:(((t:Int) - 16).toNat)=t - 16:=by omega
    have e4:(((t:Int) - 7).toNat)=t - 7:=by omega
    have c1:=(hB2.cell (t - 15)).trans (Q0R blk t (t - 15) (by omega) ht);have c2:=(hB2.cell (t - 2)).trans (Q0R blk t (t - 2) (by omega) ht);have c3:=(hB2.cell (t - 16)).trans (Q0R blk t (t - 16) (by omega) ht);have c4:=(hB2.cell (t - 7)).trans (Q0R blk t (t - 7) (by omega) ht);unfold vw at c1 c2 c3 c4;generalize hx1:(Q0L blk t).getD (t - 15) 0=x1 at c1;generalize hx2:(Q0L blk t).getD (t - 2) 0=x2 at c2;generalize hx3:(Q0L blk t).getD (t - 16) 0=x3 at c3;generalize hx4:(Q0L blk t).getD (t - 7) 0=x4 at c4;have HX:=Lib.hid (And.intro hx1 (And.intro hx2 (And.intro hx3 hx4)));clear hx1 hx2 hx3 hx4
    go_wp2
    go_quiet (fail)
    go_wp2
    have w16:IntKind.i64.wrap ((t:Int) - 16)=(t:Int) - 16:=IntWalk.i64_in _ (by omega);have w7:IntKind.i64.wrap ((t:Int) - 7)=(t:Int) - 7:=IntWalk.i64_in _ (by omega);have b16:(t:Int) - 16<64:=by omega
    have b77:(7:Int)<=t:=by omega
    have b17:(16:Int)<=t:=by omega
    have b7:(t:Int) - 7<64:=by omega
    refine Q1q 29 (by kernel_rfl) (by kernel_rfl) ?_;simp only [List.take_succ_cons,List.take_zero,List.drop_succ_cons,List.drop_zero]
    repeat still_step
    still_call (Q28 x1 7 (by omega) (by omega) _)
    repeat still_step
    still_call (Q28 x1 18 (by omega) (by omega) _)
    repeat still_step
    still_call (Q28 x2 17 (by omega) (by omega) _)
    repeat still_step
    still_call (Q28 x2 19 (by omega) (by omega) _)
    repeat still_step
    refine wpStill_nil ?_;have c0:=(hB2.cell t).trans (Q2Y blk t ht1);have f0:=hB2.frozen t;unfold vw at c0
    go_wp2
    go_roundw
    case rel =>
     obtain⟨h1,h2,h3,h4⟩:=HX.out;have hn:Q5H blk (Q0L blk t) t=x3+sml0 x1+x4+sml1 x2:=by rw [Q5H,if_neg ht2,h1,h2,h3,h4]
     have hs:=(hB2.drewN (nq+1)).set_ t (vw (Q5H blk (Q0L blk t) t));rw [Q2h blk t ht1,hn] at hs;exact⟨t+1,by omega,by go_num,(hB0.drewN (nq+1)).far (p:=⟨w.heap.size+1+1,t,none⟩) (by simp; omega) _,(hB1.drewN (nq+1)).far (p:=⟨w.heap.size+1+1,t,none⟩) (by simp) _,hs,(Q0z hbel (nq+1)).setCell (p:=⟨w.heap.size+1+1,t,none⟩) (by simp; omega) _⟩
    case measure=>simp [intOf]; omega
  ·obtain rfl:t=64:=by omega
   have q0:=hB0.cell 0;have q1:=hB0.cell 1;have q2:=hB0.cell 2;have q3:=hB0.cell 3;have q4:=hB0.cell 4;have q5:=hB0.cell 5;have q6:=hB0.cell 6;have q7:=hB0.cell 7;unfold St.vals vw at q0 q1 q2 q3 q4 q5 q6 q7
   go_wp2
   go_quiet (fail)
   go_wp2
   obtain⟨wo,hwo⟩:∃ wo:World,wo=wr:=⟨_,rfl⟩;clear hwo;go_loopw [13,14,15,16,17,18,19,20,108] (fun va vb' vc vd ve vf vg vh i wr=>∃ (t:Nat) (S:St),t<=64/\i=.int .i64 t/\S=Q2J s (Q0L blk 64) t/\va=.int .u32 (wi S.a)/\vb'=.int .u32 (wi S.b)/\vc=.int .u32 (wi S.c)/\vd=.int .u32 (wi S.d)/\ve=.int .u32 (wi S.e)/\vf=.int .u32 (wi S.f)/\vg=.int .u32 (wi S.g)/\vh=.int .u32 (wi S.h)/\Blk wr w.heap.size 274 s.vals/\Blk wr (w.heap.size+1) 274 Q7X/\Blk wr (w.heap.size+1+1) 273 (Q0r blk 64)/\Below w.heap.size w wr) (fun _ _ _ _ _ _ _ _ i _=>64 - (intOf i).toNat)
   case atStart=>exact⟨0,s,by omega,rfl,rfl,rfl,rfl,rfl,rfl,rfl,rfl,rfl,rfl,hB0.drewN _,hB1.drewN _,hB2.drewN _,Q0z hbel _⟩
   case round =>
    clear q0 q1 q2 q3 q4 q5 q6 q7 hB0 hB1 hB2 hbel;obtain⟨t,⟨sa,sb,sc,sd,se,sf,sg,sh⟩,ht,rfl,hS,rfl,rfl,rfl,rfl,rfl,rfl,rfl,rfl,hB0,hB1,hB2,hbel⟩:=hrel;have HS:=Lib.hid hS;clear hS;by_cases ht1:t<64
    ·have hkc:wr.cell? (kd.add t)=some (.int .u32 (wi (kc.getD t 0))):=by
      rw [hbel.cell (by rw [Q0e]; exact hkb)]; exact hk.getD _ ht1
     have hwc:=(hB2.cell t).trans (Q0R blk 64 t ht1 (by omega));unfold vw at hwc;generalize hx1:(Q0L blk 64).getD t 0=x1 at hwc;generalize hx2:kc.getD t 0=x2 at hkc;have HX:=Lib.hid (And.intro hx1 hx2);clear hx1 hx2 hb hk
     go_wp2
     go_quiet ((go_at_call 231; exact Calls.quiet_of_same (Q28 _ _ (by omega) (by omega) _)))
     go_wp2_with (go_at_call 231; refine(Q28 _ _ (by omega) (by omega) _).mono ?_; rintro _ _ ⟨rfl,rfl⟩)
     go_roundw
     case rel =>
      obtain⟨h1,h2⟩:=HX.out;have hst:rstep ⟨sa,sb,sc,sd,se,sf,sg,sh⟩ x2 x1=Q2J s (Q0L blk 64) (t+1):=by rw [Q2J,<- HS.out,h1,h2]
      repeat apply Exists.intro
      exact⟨⟨t+1,_,by omega,by go_num,hst,rfl,rfl,rfl,rfl,rfl,rfl,rfl,rfl,hB0.drewN _,hB1.drewN _,hB2.drewN _,Q0z hbel _⟩,rfl⟩
     case measure=>simp [intOf]; omega
    ·obtain rfl:t=64:=by omega
     clear hb hk
     go_wp2
     have hidx:=fun(cs:Array Value) (k:Nat) (v:Value) (hk:k<8) (hv:cs[k]?=some v)=>Q8T (P:=Tryz.prog) (t:=274) (e:=191) (n:=8) rfl rfl (fun w=>by kernel_rfl) cs k v hk hv
     have HI:=Lib.hid hidx;clear hidx;obtain⟨wo,hwo⟩:∃ wo:World,wo=wr:=⟨_,rfl⟩;clear hwo;go_loopw [182] (fun i wr=>∃ k:Nat,k<=8/\i=.int .i64 k/\Blk wr w.heap.size 274 (Q2H s ⟨sa,sb,sc,sd,se,sf,sg,sh⟩ k)/\Blk wr (w.heap.size+1) 274 Q7X/\Below w.heap.size w wr) (fun i _=>8 - (intOf i).toNat)
     case atStart=>exact⟨0,by omega,rfl,by rw [Q5j]; exact hB0,hB1,hbel⟩
     case round =>
      clear hB0 hB1 hB2 hbel;obtain⟨k,hk,rfl,hB0,hB1,hbel⟩:=hrel;by_cases hk1:k<8
      ·obtain⟨u,v,hu,hv,hc,hi⟩:=Q6x s ⟨sa,sb,sc,sd,se,sf,sg,sh⟩ k hk1;have hrun:=HI.out (St.vals ⟨sa,sb,sc,sd,se,sf,sg,sh⟩) k _ hk1 hi;have hcell:=(hB0.cell k).trans hc;have hfz:=hB0.frozen k;unfold vw at hrun hcell;unfold St.vals at hrun;unfold vw at hrun
       dsimp only at hrun
       have HH:=Lib.hid (And.intro hu (And.intro hv (And.intro hc hi)));clear hu hv hc hi
       go_wp2
       go_roundw
       case rel =>
        obtain⟨h1,h2,_,_⟩:=HH.out;have hs:=hB0.set_ k (vw (u+v));have he:=Q5q s ⟨sa,sb,sc,sd,se,sf,sg,sh⟩ k;rw [<- h1,<- h2] at he;rw [he] at hs;exact⟨k+1,by omega,by go_num,hs,hB1.far (p:=⟨w.heap.size,k,none⟩) (by simp) _,hbel.setCell (p:=⟨w.heap.size,k,none⟩) (by simp) _⟩
       case measure=>simp [intOf]; omega
      ·obtain rfl:k=8:=by omega
       have hfin:s.add ⟨sa,sb,sc,sd,se,sf,sg,sh⟩=Q0x s blk:=by rw [Q0x,<- HS.out]
       rw [Q7q,hfin] at hB0;generalize hR:Q0x s blk=R at hB0;have HR:=Lib.hid hR;clear hR hfin HS HI;have q0:=hB0.cell 0;have q1:=hB0.cell 1;have q2:=hB0.cell 2;have q3:=hB0.cell 3;have q4:=hB0.cell 4;have q5:=hB0.cell 5;have q6:=hB0.cell 6;have q7:=hB0.cell 7;have r0:=hB1.cell 0;have r1:=hB1.cell 1;have r2:=hB1.cell 2;have r3:=hB1.cell 3;have r4:=hB1.cell 4;have r5:=hB1.cell 5;have r6:=hB1.cell 6;have r7:=hB1.cell 7;have hf:=hB1.frozen;unfold St.vals vw at q0 q1 q2 q3 q4 q5 q6 q7;unfold Q7X at r0 r1 r2 r3 r4 r5 r6 r7;clear hB0 hB1
       go_wp2
       refine bodyPost_ret (v:=.agg #[.int .u32 (wi R.a),.int .u32 (wi R.b),.int .u32 (wi R.c),.int .u32 (wi R.d),.int .u32 (wi R.e),.int .u32 (wi R.f),.int .u32 (wi R.g),.int .u32 (wi R.h)]) ?_ rfl ⟨by rw [HR.out],?_⟩
       ·simp [results,Tryz.results219,go_sem,r0,r1,r2,r3,r4,r5,r6,r7]
       ·repeat (refine Below.setCell ?_ (by simp) _)
        exact hbel
end
section
open Go.RowKit
def Src (w:World) (g:Nat) (A:Option Addr) (n:Nat) (xs:List UInt8):Prop :=
 xs.length=n/\(0<n->∃ ad,A=some ad/\ad.block≠g/\ad.block<w.heap.size/\∀ j (h:j<xs.length),w.cell? (ad.add j)=some (vb xs[j]))
theorem Src.keep {w w':World} {g n:Nat} {A:Option Addr} {xs:List UInt8} (h:Src w g A n xs) (hg:w.grownBy w' (some g)):Src w' g A n xs :=
 ⟨h.1,fun hn=>by
  obtain⟨ad,h1,h2,h3,h4⟩:=h.2 hn;exact⟨ad,h1,h2,Nat.lt_of_lt_of_le h3 hg.size,fun j hj=>(World.cell?_of_block (by rw [Q0e]; exact hg.block _ h3 (fun e=>h2 (by injection e)))).trans (h4 j hj)⟩⟩
theorem Src.cut {w:World} {g n c k:Nat} {A:Option Addr} {xs:List UInt8} (h:Src w g A n xs) (hk:k<=n) (hc:n<=c):Src w g (if c=k then A else A.map (·.add k)) (n - k) (xs.drop k):=by
 refine⟨by rw [List.length_drop,h.1],fun hn=>?_⟩;obtain⟨ad,rfl,h2,h3,h4⟩:=h.2 (by omega);rw [if_neg (by omega)];refine⟨ad.add k,rfl,by rw [Q0e]; exact h2,by rw [Q0e]; exact h3,fun j hj=>?_⟩;rw [Q1L,List.getElem_drop];exact h4 _ _
theorem Q6y {W:World} {g:Nat} {d m x y:Int} {k b:Nat->Value} {S:St} (hB:Blk W g 277 (Q0n d m k (sF S) b x y)) :
 (W.cell? ⟨g,68,none⟩=some (.int .u32 (wi S.a))/\W.cell? ⟨g,69,none⟩=some (.int .u32 (wi S.b))/\W.cell? ⟨g,70,none⟩=some (.int .u32 (wi S.c))/\W.cell? ⟨g,71,none⟩=some (.int .u32 (wi S.d)) /\
  W.cell? ⟨g,72,none⟩=some (.int .u32 (wi S.e))/\W.cell? ⟨g,73,none⟩=some (.int .u32 (wi S.f))/\W.cell? ⟨g,74,none⟩=some (.int .u32 (wi S.g))/\W.cell? ⟨g,75,none⟩=some (.int .u32 (wi S.h)))/\∀ j,W.frozen? ⟨g,j,none⟩=false :=
 ⟨⟨(hB.cell 68).trans (Q4Y _ _ _ _ _ _ _ 0 (by omega)),(hB.cell 69).trans (Q4Y _ _ _ _ _ _ _ 1 (by omega)),(hB.cell 70).trans (Q4Y _ _ _ _ _ _ _ 2 (by omega)),(hB.cell 71).trans (Q4Y _ _ _ _ _ _ _ 3 (by omega)),
  (hB.cell 72).trans (Q4Y _ _ _ _ _ _ _ 4 (by omega)),(hB.cell 73).trans (Q4Y _ _ _ _ _ _ _ 5 (by omega)),(hB.cell 74).trans (Q4Y _ _ _ _ _ _ _ 6 (by omega)),(hB.cell 75).trans (Q4Y _ _ _ _ _ _ _ 7 (by omega))⟩,hB.frozen⟩
theorem Q0X (R:St):R.vals.size=8:=rfl
theorem Q8w (R:St):R.vals.toList.length=8:=rfl
theorem Q8l (R:St):∀ v∈R.vals.toList,v.oneCell'=true:=by
 intro v hv;simp [St.vals] at hv;rcases hv with rfl | rfl | rfl | rfl | rfl | rfl | rfl | rfl <;> rfl
theorem Q39 (R:St):R.vals.all (·.oneCell')=true:=Array.all_eq_true_iff_forall_mem.2 fun v hv=>Q8l R v (by simpa using hv)
theorem Qdk (R:St) (j:Nat) (h:j<8):R.vals.toList[j]?=some (sF R j):=by
 match j,h with
 | 0,_ | 1,_ | 2,_ | 3,_ | 4,_ | 5,_ | 6,_ | 7,_=>rfl
theorem Q7m {P:Program} (R:St) {W:World} {g:Nat} {t:TypeId} {d m x y:Int} {k s b:Nat->Value} (hB:Blk W g t (Q0n d m k s b x y)) :
 (storeCells ⟨g,68,none⟩ R.vals.toList 0).run P W=.ok () (W.setCells g 68 R.vals.toList) :=
 run_storeCells_cells (P:=P) g 68 R.vals.toList 0 W (fun j hj=>((hB.there 68 8 (by rw [Q49]; omega)) j hj).1) (fun j hj=>((hB.there 68 8 (by rw [Q49]; omega)) j hj).2) (Q8l R)
theorem Q8H {W:World} {g:Nat} {t:TypeId} {d m x y:Int} {k s b:Nat->Value} (R:St) (hB:Blk W g t (Q0n d m k s b x y)) :
 Blk (W.setCells g 68 R.vals.toList) g t (Q0n d m k (sF R) b x y)/\Q0c g W (W.setCells g 68 R.vals.toList):=by
 have h:=hB.setCells 68 R.vals.toList (by rw [Q8w,Q49]; omega);rw [Qcq d m k s (sF R) b x y _ (Q8w R) (Qdk R)] at h;exact h
theorem Src.of_below {w:World} {B g n:Nat} {A:Option Addr} {xs:List UInt8} (h:Q0d w B 1 A n (xs.map vb)) (hB:B<=w.heap.size) (hg:B<=g):Src w g A n xs :=
 ⟨by have:=h.1; simpa using this,fun hn=>by
  obtain⟨ad,rfl,h1,h2⟩:=h.2 hn;exact⟨ad,rfl,by omega,by omega,fun j hj=>h2 j _ (by rw [List.getElem?_map,List.getElem?_eq_getElem hj]; rfl)⟩⟩
theorem Qcy (g:Nat) (l xs:List UInt8) (A:Option Addr) (n c:Nat) (w:World) (h:Q4A w g l) (hs:Src w g A n xs) (hc:n<=c) (hcm:c<=maxLen) (hlen:l.length+n<=maxLen) :
 Calls Tryz.prog 206 #[.pointer (some ⟨g,0,none⟩),.slice A n c] w fun e w'=>e=.returned (.int .i64 0)/\Q3E w' g (l++xs)/\w.grownBy w' (some g):=by
 unfold maxLen at hcm hlen;have c0:w.cell? ⟨g,0,none⟩=some (.bool true):=by
  rcases h with⟨b,h1,_⟩ | ⟨_,h1⟩ <;> exact(h1.cell 0).trans (Q2e _ _ _ _ _ _ _ 0 (by omega))
 have hnot:∀ (x:Bool) (w:World),(Op.unary .not (.bool x)).run Tryz.prog w=.ok (.bool (!x)) w:=fun _ _=>rfl
 have HH:=Lib.hid h;clear h;go_enter Tryz.func206,Tryz.ntmps206
 go_wp2_with fail
 refine(Q9y g l w HH.out).mono ?_;rintro _ w1 ⟨rfl,⟨b,hB,hbb⟩,hg1⟩;have hs1:=hs.keep hg1;clear hs c0;have hpl:=Qb2 l;have c141:=(hB.cell 141).trans (Q9v _ _ _ _ _ _ _);have f141:=hB.frozen 141;have HB:=Lib.hid hB;clear hB
 go_wp2
 have hB0:=HB.out.set_ 141 (.int .i64 ((l.length:Int)+(n:Int)));rw [Qav] at hB0;have hT0:=Q0c.setCell w1 ⟨g,141,none⟩ (.int .i64 ((l.length:Int)+(n:Int)));have hs0:=hs1.keep hT0.grown;have hg0:=hg1.trans hT0.grown;have hxl:=hs0.1;clear hT0 hs1 hg1 HB c141 f141;have HBB:=Lib.hid hbb;clear hbb
 go_loopg [1] n (fun gh v wr=>∃ (i:Nat) (A':Option Addr) (c':Nat) (b':Nat->UInt8),i+gh=n/\v=.slice A' (n - i) c'/\n - i<=c'/\c'<=9223372036854775807/\Src wr g A' (n - i) (xs.drop i) /\
  Blk wr g 277 (Q0n 1 0 kF (sF (acc (l++xs.take i)).1) (fun j=>vb (b' j)) ((acc (l++xs.take i)).2.length:Nat) ((l.length:Int)+(n:Int)))/\Hid (∀ j,j<(acc (l++xs.take i)).2.length->b' j=(acc (l++xs.take i)).2.getD j 0)/\w.grownBy wr (some g))
 case atStart=>exact⟨0,A,c,b,by omega,rfl,by omega,by omega,by simpa using hs0,by simpa using hB0,by simpa [Hid] using HBB.out,hg0⟩
 case round =>
  clear hB0 hs0 hg0 HBB;obtain⟨i,A',c',b',hi,rfl,hc1,hc2,hs,hB,HB',hg⟩:=hrel;by_cases hin:i<n
  ·obtain⟨ad,rfl,hne,hadl,hcl⟩:=hs.2 (by omega);have hpl:=Qb2 (l++xs.take i);obtain⟨m,hm⟩:∃ m,m=min (n - i) (64 - (acc (l++xs.take i)).2.length):=⟨_,rfl⟩;have hm1:m<=n - i:=by omega
   have hm2:m<=64 - (acc (l++xs.take i)).2.length:=by omega
   have hm3:0<m:=by omega
   have hm4:m=n - i\/m=64 - (acc (l++xs.take i)).2.length:=by omega
   have hstep:acc (l++xs.take (i+m))=feed (acc (l++xs.take i)) ((xs.drop i).take m):=by
    rw [<- Q5z,List.append_assoc,List.take_add]
   generalize hA:acc (l++xs.take i)=SP at *;obtain⟨S,p⟩:=SP;simp only at hpl hm hm1 hm2 hm4 hB HB' hstep;have hchl:((xs.drop i).take m).length=m:=by simp; omega
   have hsrc:∀ j v,(((xs.drop i).take m).map vb)[j]?=some v->wr.cell? (ad.add j)=some v:=by
    intro j v hv;obtain⟨hj,rfl⟩:=Q3B hv;rw [List.getElem_take];exact hcl j _
   have hs2:Src wr g (if c'=m then some ad else(some ad).map (·.add m)) (n - i - m) ((xs.drop i).drop m):=hs.cut hm1 hc1;have hr2:=fun W=>Q7c (P:=Tryz.prog) (t:=22) (e:=5) rfl rfl (some ad) (n - i) c' m (m:Int) rfl hm1 W
   generalize (if c'=m then some ad else(some ad).map (·.add m))=A2 at hs2 hr2;have hr1:=fun W=>Q4E (P:=Tryz.prog) (t:=275) (e:=5) (n:=64) rfl rfl ⟨g,76,none⟩ p.length (p.length:Int) rfl hpl W
   rw [Q13] at hr1;have c140:=(hB.cell 140).trans (Q48 _ _ _ _ _ _ _);have HM:=Lib.hid (And.intro hm hm4);have HA:=Lib.hid (And.intro hA hstep);have HS:=Lib.hid (And.intro hsrc (And.intro hchl hs2));have HI:=Lib.hid hi;have HB:=Lib.hid hB;clear hm hm4 hA hstep hsrc hchl hs2 hi hB hs hcl;have hmi:(m:Int)<=n - i:=by omega
   go_wp2
   refine Q1q 9 (by kernel_rfl) (by kernel_rfl) ?_;simp only [List.take_succ_cons,List.take_zero,List.drop_succ_cons,List.drop_zero]
   repeat still_step
   refine wpStill_nil ?_;refine Q69 rfl (.tmp 36) (.tmp 37) 22 22 5 rfl g (76+p.length) (64 - p.length) (64 - p.length) (n - i) c' ad 277 _ (((xs.drop i).take m).map vb) rfl rfl rfl rfl HB.out (by rw [List.length_map,HS.out.2.1,HM.out.1]) HS.out.1 (by rw [List.length_map,HS.out.2.1,Q49]; omega) (by intro v hv; obtain⟨x,_,rfl⟩:=List.mem_map.1 hv; rfl) ?_;intro W2 hT2 hB2;rw [Qdq _ _ _ _ _ _ _ _ _ (by rw [HS.out.2.1]; omega)] at hB2;rw [List.length_map,HS.out.2.1];have c140:=(hB2.cell 140).trans (Q48 _ _ _ _ _ _ _);have f140:=hB2.frozen 140;by_cases hfull:p.length+m=64
   ·have hz:((p.length:Int)+(m:Int) == 64)=true:=by rw [beq_iff_eq]; omega
    have HB2:=Lib.hid hB2;have HF:=Lib.hid hfull;clear hB2 hfull
    go_wp2
    have hB3:=HB2.out.set_ 140 (.int .i64 ((p.length:Int)+(m:Int)));rw [Q4Q] at hB3;have hT3:=hT2.trans (Q0c.setCell W2 ⟨g,140,none⟩ (.int .i64 ((p.length:Int)+(m:Int))));generalize W2.setCell ⟨g,140,none⟩ (.int .i64 ((p.length:Int)+(m:Int)))=W3 at hB3 hT3 ⊢;clear c140 f140 hz;have hblk:(p++(xs.drop i).take m).length=64:=by rw [List.length_append,HS.out.2.1]; exact HF.out
    have hby:Q4L W3 ⟨g,76,none⟩ (p++(xs.drop i).take m):=by
     intro j hj;rw [Q13,hB3.cell,hash_b _ _ _ _ _ _ _ _ (by omega)];have hml:=HS.out.2.1;have hfo:=HF.out;congr 2
     unfold putB;by_cases h1:j<p.length
     ·rw [if_neg (by omega),HB'.out j h1,List.getD_eq_getElem?_getD,List.getElem?_eq_getElem h1,List.getElem_append_left h1]; rfl
     ·rw [if_pos (by omega),List.getD_eq_getElem?_getD,List.getElem?_eq_getElem (by omega),List.getElem_append_right (by omega)]; rfl
    have hwk:Q6w W3 ⟨g,4,none⟩ kc:=by
     intro j hj;have hj':j<64:=hj;rw [Q13,hB3.cell,hash_k _ _ _ _ _ _ _ _ hj',kF,List.getD_eq_getElem?_getD,List.getElem?_eq_getElem hj]; rfl
    have HT:=Lib.hid (Q8E S _ ⟨g,76,none⟩ ⟨g,4,none⟩ W3.drew hblk hby hwk hB3.lt hB3.lt);have hq:=(Q6y hB3).1;have hvs:=Q0X (Q0x S (p++List.take m (List.drop i xs)));have hgl:=hB3.lt;have HB3:=Lib.hid hB3;have HY:=Lib.hid hblk;clear hB3 hby hwk hblk;go_region_law (first
     | (go_simp; go_at_call 219; refine HT.out.mono ?_; rintro _ w4 ⟨rfl,hb4⟩; have hst4:=Q7m (P:=Tryz.prog) (Q0x S (p++List.take m (List.drop i xs))) (HB3.out.drew.below hb4 hgl)))
    have h5:=Q8H (Q0x S (p++List.take m (List.drop i xs))) (HB3.out.drew.below hb4 hgl);have hG5:wr.grownBy (w4.setCells g 68 (Q0x S (p++List.take m (List.drop i xs))).vals.toList) (some g) :=
     (((Q5D (World.grownBy.refl wr _) _).trans hT3.grown).trans ((Q0O ((Below.refl _ W3).drew.trans hb4) (some g)))).trans h5.2.grown
    have hB5:=h5.1;clear h5 hst4 hq hvs;generalize (w4.setCells g 68 (Q0x S (p++List.take m (List.drop i xs))).vals.toList)=W5 at hB5 hG5 ⊢;have c140:=(hB5.cell 140).trans (Q48 _ _ _ _ _ _ _);have f140:=hB5.frozen 140;have HB5:=Lib.hid hB5;clear hB5
    go_wp2
    go_roundg (gk - m)
    case measure=>have:=HI.out; omega
    case rel =>
     have hi:=HI.out;have hfe:=Q4g S p ((xs.drop i).take m) (by rw [HS.out.2.1]; exact HF.out) hpl;have hst:=HA.out.2;rw [hfe] at hst;have hB6:=HB5.out.set_ 140 (.int .i64 0);rw [Q4Q] at hB6;have hT6:=Q0c.setCell W5 ⟨g,140,none⟩ (.int .i64 0);refine⟨i+m,A2,c' - m,putB b' p.length ((xs.drop i).take m),by omega,by rw [Nat.sub_add_eq],by omega,by omega,?_,?_,?_,(hg.trans hG5).trans hT6.grown⟩
     ·have h2:=HS.out.2.2;rw [List.drop_drop] at h2;rw [Nat.sub_add_eq];exact(h2.keep hG5).keep hT6.grown
     ·rw [hst]; exact hB6
     ·rw [hst]; intro j hj; simp at hj
   ·have hz:((p.length:Int)+(m:Int) == 64)=false:=by rw [beq_eq_false_iff_ne]; omega
    have HB2:=Lib.hid hB2;have HF:=Lib.hid hfull;clear hB2 hfull
    go_wp2
    go_roundg (gk - m)
    case measure=>have:=HI.out; omega
    case rel =>
     have hi:=HI.out;have hfe:=Q7w S p ((xs.drop i).take m) (by rw [HS.out.2.1]; have:=HF.out; omega);have hst:=HA.out.2;rw [hfe] at hst;have hB3:=HB2.out.set_ 140 (.int .i64 ((p.length:Int)+(m:Int)));rw [Q4Q] at hB3;have hT3:=hT2.trans (Q0c.setCell W2 ⟨g,140,none⟩ (.int .i64 ((p.length:Int)+(m:Int))));refine⟨i+m,A2,c' - m,putB b' p.length ((xs.drop i).take m),by omega,by rw [Nat.sub_add_eq],by omega,by omega,?_,?_,?_,(Q5D hg _).trans hT3.grown⟩
     ·have h2:=HS.out.2.2;rw [List.drop_drop] at h2;rw [Nat.sub_add_eq];exact(h2.keep (Q5D (World.grownBy.refl wr _) _)).keep hT3.grown
     ·rw [hst];have e1:((p++(xs.drop i).take m).length:Int)=(p.length:Int)+(m:Int):=by rw [List.length_append,HS.out.2.1]; omega
      rw [e1];exact hB3
     ·rw [hst];intro j hj;have hml:=HS.out.2.1;simp only [List.length_append,hml] at hj;unfold putB;rw [hml];by_cases h1:j<p.length
      ·rw [if_neg (by omega),HB'.out j h1,List.getD_eq_getElem?_getD,List.getD_eq_getElem?_getD,List.getElem?_append_left h1]
      ·rw [if_pos (by omega),List.getD_eq_getElem?_getD,List.getD_eq_getElem?_getD,List.getElem?_append_right (by omega)]
  ·obtain rfl:i=n:=by omega
   go_wp2
   go_ret
   have e:xs.take i=xs:=List.take_of_length_le (by omega);rw [e] at hB HB';exact⟨rfl,⟨b',by rw [List.length_append,hxl]; exact hB,HB'.out⟩,hg⟩
end
end Go.Proofs.YtcpngeiahgoacaaGreat
