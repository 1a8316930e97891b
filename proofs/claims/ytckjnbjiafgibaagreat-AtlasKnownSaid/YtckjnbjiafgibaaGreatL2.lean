/- Parts of the proof, in one text. -/
import Derived.Test.YtckjnbjiafgibaaGreatL1
import Derived.Test.YtckjnbjiafgibaaGreatRows
import Derived.StillTailTactics
import Derived.Deep.LoopGhost
import Derived.Deep.RegionLaw
import Derived.Deep.DeepCutAuto
import Derived.Stop.BytesEq
import Derived.Laws.StructEq
import Derived.WideKeyArr
import Derived.Maps.Own
import Derived.Maps.OwnSet
import Derived.Maps.Views
import Derived.Maps.StringElems
import Derived.StillTail
import Derived.Deep.QuietTactic
import Derived.BigQuiet
import Derived.Lib.QuietBelow
namespace Go.Proofs.YtckjnbjiafgibaaGreat
set_option linter.unusedVariables false
set_option linter.unusedSimpArgs false
set_option maxRecDepth 100000
set_option maxHeartbeats 16000000
open _root_.And renaming intro->zK
open _root_.Array renaming replicate->zU
open _root_.Go renaming World->zA,Value->zB,Calls->zF
open _root_.Go.Act renaming put->zV
open _root_.Go.Proofs.Tryz renaming prog->zJ
open _root_.Go.RowKit renaming Below->zD
open _root_.Go.RowKit.Below renaming refl->zN
open _root_.Go.Value renaming ownBlock->zE
open _root_.List renaming getElem?_eq_getElem->zC,getElem?_map->zG,getElem?_eq_none->zH,getElem?_range->zI,length_append->zM,getD_eq_getElem?_getD->zO,append_assoc->zP,getElem?_append_left->zQ,getElem?_append_right->zR,replicate->zT
open _root_.Nat renaming le_refl->zL,zero_add->zS
section
open Go.RowKit
theorem Q9Q (mu:Int) (b:Nat->zB) (held all:Int) (k s:Nat->zB) :
 spl (spl (Q08 0 mu k s b held all) 4 Q8C) 68 Q8o=Q08 0 mu kF (sF h0) b held all:=by
 unfold Q08;rw [Q5d (m:=64) (g:=kF) Q7O (fun j hj=>by rw [Q8C,zG,zI hj]; rfl) (by omega),
  Q5d (m:=8) (g:=sF h0) Q83 (fun j hj=>by rw [Q8o,zG,zI hj]; rfl) (by omega)]
 refine Q10 fun j hj=>?_
 unfold Q41;by_cases h1:j<4
 ·rw [if_neg (by omega),if_neg (by omega)]
  repeat (first | rfl | (split <;> try omega))
 by_cases h2:j<68
 ·rw [if_neg (by omega),if_pos (by omega)];simp only [show ¬ j=0 by omega,show ¬ j=1 by omega,show ¬ j=2 by omega,show ¬ j=3 by omega,h2,if_true,if_false]
 by_cases h3:j<76
 ·rw [if_pos (by omega)];simp only [show ¬ j=0 by omega,show ¬ j=1 by omega,show ¬ j=2 by omega,show ¬ j=3 by omega,h2,h3,if_true,if_false]
 rw [if_neg (by omega),if_neg (by omega)];simp only [show ¬ j=0 by omega,show ¬ j=1 by omega,show ¬ j=2 by omega,show ¬ j=3 by omega,h2,h3,if_false]
theorem Q9C (g:Nat) (pl:Addr) (hpg:pl.block≠g) (cs:Array zB) (hcs:cs.size=142) (w:zA) (hB:Blk w g 224 cs) (hp:w.cell? pl=some (.pointer (some ⟨g,0,none⟩))) :
 zF zJ 160 #[.pointer (some pl)] w fun e w'=>e=.returned (.tuple #[])/\Blk w' g 224 (spl (spl cs 4 Q8C) 68 Q8o)/\w.grownBy w' (some g):=by
 have hpl:=World.block_lt_of_cell? _ _ hp;have hgl:=hB.lt;obtain⟨kl,ekl⟩:∃ kl,kl=Q8C:=⟨_,rfl⟩;obtain⟨hl,ehl⟩:∃ hl,hl=Q8o:=⟨_,rfl⟩;have hr:∀ W,zF zJ 161 #[] W fun e w'=>e=.returned (.agg kl.toArray)/\zD W.heap.size W w':=by subst ekl; exact fun W=>QaQ W
 have hs:∀ W,zF zJ 162 #[] W fun e w'=>e=.returned (.agg hl.toArray)/\zD W.heap.size W w':=by subst ehl; exact fun W=>Qbi W
 have HR:=sH hr;have HS:=sH hs;clear hr hs;have hkl:kl.length=64:=by rw [ekl]; exact Q7O
 have hhl:hl.length=8:=by rw [ehl]; exact Q83
 have hk1:∀ v∈kl,v.oneCell'=true:=by rw [ekl]; exact QaV
 have hh1:∀ v∈hl,v.oneCell'=true:=by rw [ehl]; exact Qao
 have hi64:(Tryz.prog.info? 220).map (·.size)=some 64:=rfl;have hst2:∀ W:zA,W.there g 68 8->(storeCells ⟨g,68,none⟩ hl 0).run zJ W=.ok () (W.setCells g 68 hl):=fun W hW =>run_storeCells_cells (P:=zJ) g 68 hl 0 W (fun j hj=>(hW j (by omega)).1) (fun j hj=>(hW j (by omega)).2) hh1
 have HST:=sH hst2;clear hst2;rw [<- ekl,<- ehl];have HKL:=sH (zK hkl hhl);clear ekl ehl hh1;have hS:∀ W:zA,zD w.heap.size w W->W.cell? pl=some (.pointer (some ⟨g,0,none⟩))/\W.there g 4 64/\W.there g 68 8:=fun W hb =>⟨(hb.cell hpl).trans hp,(hB.below hb hgl).there 4 64 (by omega),(hB.below hb hgl).there 68 8 (by omega)⟩
 have hS2:∀ W1 W2:zA,zD w.drew.heap.size w.drew W1->zD W1.heap.size W1 W2->W2.cell? pl=some (.pointer (some ⟨g,0,none⟩))/\W2.there g 4 64/\W2.there g 68 8:=fun W1 W2 h1 h2 =>hS W2 (((zN _ w).drew.trans h1).trans (h2.mono h1.size))
 have hS3:∀ (W:zA) (o:Nat) (vs:List zB),(W.cell? pl=some (.pointer (some ⟨g,0,none⟩))/\W.there g 4 64/\W.there g 68 8)->(W.setCells g o vs).cell? pl=some (.pointer (some ⟨g,0,none⟩))/\(W.setCells g o vs).there g 4 64/\(W.setCells g o vs).there g 68 8:=fun W o vs h =>⟨(World.cell?_setCells_out g _ _ _ _ (fun e=>absurd e hpg)).trans h.1,World.there_setCells h.2.1 g _ _,World.there_setCells h.2.2 g _ _⟩
 have hS0:=hS w.drew (zN _ w).drew;have H1:=sH hS;have H2:=sH hS2;have H3:=sH hS3;have H0:=sH hS0;have HC:=sH hcs;clear hcs hS hS2 hS3 hS0;go_enter Tryz.func160,Tryz.ntmps160
 go_wp2
 go_region_held3 (fun w'=>w'.cell? pl=some (.pointer (some ⟨g,0,none⟩))/\w'.there g 4 64/\w'.there g 68 8)
  (first
   | exact H0.out
   | (exact H1.out _ ((zN _ w).drew.trans hb1))
   | (exact H2.out _ _ hb1 hb2)
   | (exact H3.out _ _ _ (H2.out _ _ hb1 hb2))
   | (exact H3.out _ _ _ (H3.out _ _ _ (H2.out _ _ hb1 hb2))))
  (first
   | (go_at_call 161; refine(HR.out _).mono ?_; rintro _ w1 ⟨rfl,hb1⟩)
   | (go_at_call 162; refine(HS.out _).mono ?_; rintro _ w2 ⟨rfl,hb2⟩; have hst3:=HST.out (World.setCells w2 g 4 kl) (World.there_setCells (H2.out _ _ hb1 hb2).2.2 g _ _)))
 go_end0
 obtain⟨h1,h2⟩:=HKL.out;have hB2:=(hB.drew.below hb1 hgl).below hb2 (Nat.lt_of_lt_of_le hgl hb1.size);have hb3:=((zN w.heap.size w).drew.trans hb1).trans (hb2.mono hb1.size);have hB3:=hB2.setCells 4 kl (by rw [h1,HC.out]; omega);have hB4:=hB3.1.setCells 68 hl (by rw [h2,Q4c (by rw [h1,HC.out]; omega),HC.out]; omega);exact⟨rfl,hB4.1,(Q0v hb3 (some g)).trans (hB3.2.trans hB4.2).grown⟩
theorem slow_any (g:Nat) (pl:Addr) (hpg:pl.block≠g) (k s b:Nat->zB) (x y:Int) (w:zA) (hB:Blk w g 224 (Q08 0 0 k s b x y)) (hp:w.cell? pl=some (.pointer (some ⟨g,0,none⟩))) :
 zF zJ 128 #[.pointer (some ⟨g,1,none⟩),.func (.func 160) #[] #[.pointer (some pl)]] w fun e w'=>e=.returned (.tuple #[])/\Blk w' g 224 (Q08 1 0 kF (sF h0) b x y)/\w.grownBy w' (some g):=by
 have c1:w.cell? ⟨g,1,none⟩=some (.int .u32 0):=(hB.cell 1).trans (Q1x _ _ _ _ _ _ _ 1 (by omega));have c2:w.cell? ⟨g,2,none⟩=some (.int .i32 0):=(hB.cell 2).trans (Q1x _ _ _ _ _ _ _ 2 (by omega));have f2:=hB.frozen 2;have hB1:=hB.set_ 2 (.int .i32 1);rw [Q7J] at hB1;have hT1:=Q06.setCell w ⟨g,2,none⟩ (.int .i32 1);have hp1:(w.setCell ⟨g,2,none⟩ (.int .i32 1)).cell? pl=some (.pointer (some ⟨g,0,none⟩)):=(hT1.cell hpg).trans hp;have c11:(w.setCell ⟨g,2,none⟩ (.int .i32 1)).cell? ⟨g,1,none⟩=some (.int .u32 0):=(hB1.cell 1).trans (Q1x _ _ _ _ _ _ _ 1 (by omega));have hl:=run_call_load (P:=zJ) Tryz.func144 (by kernel_rfl) (by kernel_rfl) (by kernel_rfl) .u32 (by kernel_rfl) c11;have hnot:∀ (x:Bool) (w:zA),(Op.unary .not (.bool x)).run zJ w=.ok (.bool (!x)) w:=fun _ _=>rfl
 have HB1:=sH hB1;have HT1:=sH hT1;have HP1:=sH hp1;clear hB1 hT1 hp1 hB
 go_enter_defers Tryz.func128,Tryz.ntmps128
 go_wp2_with (first | (go_at_call 145; refine(Q7Z ⟨g,2,none⟩ _ c2 f2).mono ?_; rintro e w' ⟨rfl,rfl⟩) | (go_at_call 127; go_in))
 refine(Q9C g pl hpg _ (Q38 _ _ _ _ _ _ _) _ HB1.out HP1.out).mono ?_;rintro e w1 ⟨rfl,hB2,hg2⟩;rw [Q9Q] at hB2
 go_wp2
 have hB3:=hB2.drew.set_ 1 (.int .u32 1);rw [QaH] at hB3;have hB4:=hB3.set_ 2 (.int .i32 0);rw [Q7J] at hB4;have hG:w.grownBy ((w1.drew.setCell ⟨g,1,none⟩ (.int .u32 1)).setCell ⟨g,2,none⟩ (.int .i32 0)) (some g) :=((HT1.out.grown.trans (Qbd hg2)).trans (Q06.setCell _ ⟨g,1,none⟩ _).grown).trans (Q06.setCell _ ⟨g,2,none⟩ _).grown
 refine leaves_cons (f:=147) (args:=#[.pointer (some ⟨g,1,none⟩),.bool true]) (by simp) (by simp [go_sem]) ?_;refine(Q3E ⟨g,1,none⟩ (.int .u32 0) .returning _ ((hB2.cell 1).trans (Q1x _ _ _ _ _ _ _ 1 (by omega))) (hB2.frozen 1)).mono ?_;rintro e u' w'' ⟨rfl,rfl,rfl⟩;refine leaves_cons (f:=146) (args:=#[.pointer (some ⟨g,2,none⟩)]) (by simp [settle]) (by simp [go_sem]) ?_;refine(Q3b ⟨g,2,none⟩ _ _ ((hB3.cell 2).trans (Q1x _ _ _ _ _ _ _ 2 (by omega))) (hB3.frozen 2)).mono ?_;rintro e u' w'' ⟨rfl,rfl,rfl⟩;simp only [Leaves,settle];exact⟨_,by simp [results,Tryz.results128],rfl,hB4,hG⟩
theorem do_first (g:Nat) (pl:Addr) (hpg:pl.block≠g) (k s b:Nat->zB) (x y:Int) (w:zA) (hB:Blk w g 224 (Q08 0 0 k s b x y)) (hp:w.cell? pl=some (.pointer (some ⟨g,0,none⟩))) :
 zF zJ 113 #[.pointer (some ⟨g,1,none⟩),.func (.func 160) #[] #[.pointer (some pl)]] w fun e w'=>e=.returned (.tuple #[])/\Blk w' g 224 (Q08 1 0 kF (sF h0) b x y)/\w.grownBy w' (some g):=by
 have c1:w.cell? ⟨g,1,none⟩=some (.int .u32 0):=(hB.cell 1).trans (Q1x _ _ _ _ _ _ _ 1 (by omega));have hl:=run_call_load (P:=zJ) Tryz.func144 (by kernel_rfl) (by kernel_rfl) (by kernel_rfl) .u32 (by kernel_rfl) c1;have hnot:∀ (x:Bool) (w:zA),(Op.unary .not (.bool x)).run zJ w=.ok (.bool (!x)) w:=fun _ _=>rfl
 have HB:=sH hB;have HP:=sH hp;clear hB hp;go_enter Tryz.func113,Tryz.ntmps113
 go_wp2_with (first | (go_at_call 128; refine(slow_any g pl hpg k s b x y _ HB.out HP.out).mono ?_; rintro e w1 ⟨rfl,hB2,hg2⟩) | (go_at_call 127; go_in))
 go_end0
 exact⟨rfl,hB2,hg2⟩
theorem do_done (a:Addr) (fv:zB) (w:zA) (h0:w.cell? a=some (.int .u32 1)) :
 zF zJ 113 #[.pointer (some a),fv] w fun e w'=>e=.returned (.tuple #[])/\w'=w:=by
 have hl:=run_call_load (P:=zJ) Tryz.func144 (by kernel_rfl) (by kernel_rfl) (by kernel_rfl) .u32 (by kernel_rfl) h0;have hnot:∀ (x:Bool) (w:zA),(Op.unary .not (.bool x)).run zJ w=.ok (.bool (!x)) w:=fun _ _=>rfl
 go_enter Tryz.func113,Tryz.ntmps113
 go_wp2
 go_end0
 exact⟨rfl,rfl⟩
def Q33 (w:zA) (g:Nat) (l:List UInt8):Prop :=∃ b:Nat->UInt8,Blk w g 224 (Q08 1 0 kF (sF (acc l).1) (fun j=>vb (b j)) ((acc l).2.length:Nat) (l.length:Nat))/\∀ j,j<(acc l).2.length->b j=(acc l).2.getD j 0
def Q3C (w:zA) (g:Nat) (l:List UInt8):Prop :=Q33 w g l\/(l=[]/\Blk w g 224 (Q08 0 0 z32 z32 z8 0 0))
theorem Q33.keep {w w':zA} {g:Nat} {l:List UInt8} (h:Q33 w g l) (hb:w'.heap[g]?=w.heap[g]?):Q33 w' g l:=by obtain⟨b,h1,h2⟩:=h;exact⟨b,hb.trans h1,h2⟩
theorem Q3C.keep {w w':zA} {g:Nat} {l:List UInt8} (h:Q3C w g l) (hb:w'.heap[g]?=w.heap[g]?):Q3C w' g l:=by
 rcases h with h | ⟨h1,h2⟩
 ·exact .inl (h.keep hb)
 exact .inr ⟨h1,hb.trans h2⟩
theorem Q3C.lt {w:zA} {g:Nat} {l:List UInt8} (h:Q3C w g l):g<w.heap.size:=by rcases h with⟨b,h1,_⟩ | ⟨_,h1⟩ <;> exact h1.lt
theorem Q8c (g:Nat) (l:List UInt8) (w:zA) (h:Q3C w g l) :
 zF zJ 153 #[.pointer (some ⟨g,0,none⟩)] w fun e w'=>e=.returned (.tuple #[])/\Q33 w' g l/\w.grownBy w' (some g):=by
 have hgl:=h.lt;have hmf:∀ (fn:Fn) (first cap:Array zB) (w:zA),(Instr.makeFunc fn first cap).run zJ w=.ok (.func fn first cap) w:=fun _ _ _ _=>rfl
 have hp:(w.alloc (.cells #[.pointer (some ⟨g,0,none⟩)] 207)).cell? ⟨w.heap.size,0,none⟩=some (.pointer (some ⟨g,0,none⟩)):=by simp
 rcases h with⟨b,h1,h2⟩ | ⟨rfl,h1⟩
 ·have hB:=h1.alloc (.cells #[.pointer (some ⟨g,0,none⟩)] 207);have c1:=(hB.cell 1).trans (Q1x _ _ _ _ _ _ _ 1 (by omega));have HD:=sH (do_done ⟨g,1,none⟩ (.func (.func 160) #[] #[.pointer (some ⟨w.heap.size,0,none⟩)]) _ c1);have HB:=sH hB;clear hB h1 c1;go_enter Tryz.func153,Tryz.ntmps153
  go_wp2_with (go_at_call 113; refine HD.out.mono ?_; rintro e w1 ⟨rfl,rfl⟩)
  go_end0
  exact⟨rfl,⟨b,HB.out,h2⟩,Q4p (World.grownBy.refl w _) _⟩
 have hB:=h1.alloc (.cells #[.pointer (some ⟨g,0,none⟩)] 207);have HD:=sH (do_first g ⟨w.heap.size,0,none⟩ (by simp; omega) z32 z32 z8 0 0 _ hB hp);clear hB h1;go_enter Tryz.func153,Tryz.ntmps153
 go_wp2_with (go_at_call 113; refine HD.out.mono ?_; rintro e w1 ⟨rfl,hB2,hg2⟩)
 go_end0
 exact⟨rfl,⟨fun _=>0,hB2,fun j hj=>by simp [acc,feed] at hj⟩,(Q4p (World.grownBy.refl w _) _).trans hg2⟩
attribute [local go_sem] w_add Qb1 w_sub Qar w_and w_or w_xor w_not Qay Qbu Q98
theorem Qa5 (x:W32) (n:Nat) (h:0<n) (h':n<32) (w:zA) :
 zF zJ 163 #[vw x,.int .i64 (n:Int)] w fun e w'=>e=.returned (vw (x.rotateRight n))/\w=w':=by
 unfold vw;have hr:=rot_and n h h';go_enter Tryz.func163,Tryz.ntmps163
 go_wp2
 go_ret
 exact⟨Qae (by rw [sub_sub_ n h',ror_or x n h']),rfl⟩
theorem Q1r (x:W32) (n:Int) (h:0<n) (h':n<32) (w:zA) :
 zF zJ 163 #[.int .u32 (wi x),.int .i64 n] w fun e w'=>e=.returned (.int .u32 (wi (x.rotateRight n.toNat)))/\w'=w:=by
 obtain⟨m,rfl⟩:=Int.eq_ofNat_of_zero_le (show 0<=n by omega);exact(Qa5 x m (by omega) (by omega) w).mono fun _ _ ⟨h1,h2⟩=>⟨by rw [h1]; rfl,h2.symm⟩
end
section
open Go.RowKit
attribute [local irreducible] wpList
attribute [local go_sem] w_add Qb1 w_sub Qar w_and w_or w_xor w_not Qay Qbu Q98 w_shl8 QaK w_shr3 Qax Q7s Q7P Q8E Q9u
attribute [local go_sem] Qa1 u32_max
def Q4e (w:zA) (ad:Addr) (l:List UInt8):Prop:=∀ j (h:j<l.length),w.cell? (ad.add j)=some (vb l[j])
def Q5J (w:zA) (ad:Addr) (l:List W32):Prop:=∀ j (h:j<l.length),w.cell? (ad.add j)=some (vw l[j])
def Q8m (blk:List UInt8) (t:Nat):Nat->W32
 | 0=>0
 | k+1=>Q8m blk t k <<< 8 ||| b32 (blk.getD (4*t+k) 0)
theorem partW_4 (blk:List UInt8) (t:Nat) (h:t<16) (l:List W32):Q8m blk t 4=Q8G blk l t:=by rw [Q8G,if_pos h]; simp [Q8m,be4]
def Q5p (blk:List UInt8) (t j:Nat):zB:=vw (if j<t then(Q0Y blk t).getD j 0 else 0)
def Q0w (blk:List UInt8) (t:Nat):Array zB:=rng 64 (Q5p blk t)
theorem Q5I (blk:List UInt8) (t:Nat) (h:t<64):(Q0w blk t).setIfInBounds t (vw (Q8m blk t 0))=Q0w blk t:=by
 unfold Q0w;rw [Q1w];refine Q10 fun j hj=>?_
 split
 ·rename_i e; subst e; simp [Q5p,Q8m]
 rfl
def Q6w:Array zB:=#[.int .u32 0,.int .u32 0,.int .u32 0,.int .u32 0,.int .u32 0,.int .u32 0,.int .u32 0,.int .u32 0]
theorem Q5v (blk:List UInt8):Q0w blk 0=zU 64 (.int .u32 0):=by refine(Q3Q (by simp) fun j hj=>?_).symm;simp [Q5p,vw,wi,hj]
theorem Q5O (blk:List UInt8) (t:Nat) (h:t<64):(Q0w blk t)[t]?=some (vw 0):=by unfold Q0w;rw [Q15 _ _ _ h,Q5p,if_neg (by omega)]
theorem Q7c (blk:List UInt8) (t:Nat) (v:zB) (h:t<64):((Q0w blk t).setIfInBounds t v)[t]?=some v:=by unfold Q0w;rw [Q1w,Q15 _ _ _ h,if_pos rfl]
theorem Q39 (blk:List UInt8) (t:Nat) (h:t<64):(Q0w blk t).setIfInBounds t (vw (Q8G blk (Q0Y blk t) t))=Q0w blk (t+1):=by
 unfold Q0w;rw [Q1w];refine Q10 fun j hj=>?_
 have hl:=Q60 blk t;split
 ·rename_i e; subst e;simp [Q5p,Q0Y,hl]
 rename_i e;unfold Q5p;congr 1
 by_cases h1:j<t
 ·rw [if_pos h1,if_pos (by omega)];simp [Q0Y,List.getElem?_append,hl,h1]
 rw [if_neg h1,if_neg (by omega)]
theorem Q1j (blk:List UInt8) (t j:Nat) (h:j<t) (ht:t<=64):(Q0w blk t)[j]?=some (vw ((Q0Y blk t).getD j 0)):=by unfold Q0w;rw [Q15 _ _ _ (by omega),Q5p,if_pos h]
def Q2v (s r:St) (k:Nat):Array zB:=rng 8 (fun j=>vw (if j<k then s.list.getD j 0+r.list.getD j 0 else s.list.getD j 0))
theorem Q6O (s r:St):Q2v s r 0=s.vals:=by
 refine(Q3Q (by simp [St.vals]) fun j hj=>?_).symm;match j,hj with
 | 0,_ | 1,_ | 2,_ | 3,_ | 4,_ | 5,_ | 6,_ | 7,_=>rfl
theorem Q8A (s r:St) (k:Nat) (hk:k<8):∃ u v,u=s.list.getD k 0/\v=r.list.getD k 0/\(Q2v s r k)[k]?=some (vw u)/\r.vals[k]?=some (vw v):=by
 refine⟨_,_,rfl,rfl,?_,?_⟩
 ·rw [Q2v,Q15 _ _ _ hk,if_neg (by omega)]
 match k,hk with
 | 0,_ | 1,_ | 2,_ | 3,_ | 4,_ | 5,_ | 6,_ | 7,_=>rfl
theorem Q75 (s r:St) (k:Nat):(Q2v s r k).setIfInBounds k (vw (s.list.getD k 0+r.list.getD k 0))=Q2v s r (k+1):=by
 unfold Q2v;rw [Q1w];refine Q10 fun j hj=>?_
 split
 ·rename_i e; subst e; rw [if_pos (by omega)]
 rename_i e;by_cases h1:j<k
 ·rw [if_pos h1,if_pos (by omega)]
 rw [if_neg h1,if_neg (by omega)]
theorem Qa0 (s r:St):Q2v s r 8=(s.add r).vals:=by
 refine(Q3Q (by simp [St.vals]) fun j hj=>?_).symm;match j,hj with
 | 0,_ | 1,_ | 2,_ | 3,_ | 4,_ | 5,_ | 6,_ | 7,_=>rfl
theorem Q4e.getD {w:zA} {ad:Addr} {l:List UInt8} (h:Q4e w ad l) (j:Nat) (hj:j<l.length):w.cell? (ad.add j)=some (.int .u8 (bi (l.getD j 0))):=by rw [h j hj,zO,zC hj]; rfl
theorem Q5J.getD {w:zA} {ad:Addr} {l:List W32} (h:Q5J w ad l) (j:Nat) (hj:j<l.length):w.cell? (ad.add j)=some (.int .u32 (wi (l.getD j 0))):=by rw [h j hj,zO,zC hj]; rfl
theorem Q7n (s:St) (blk:List UInt8) (bd kd:Addr) (w:zA) (hbl:blk.length=64) (hb:Q4e w bd blk) (hk:Q5J w kd kc) (hbb:bd.block<w.heap.size) (hkb:kd.block<w.heap.size) :
 zF zJ 154 #[.agg s.vals,.pointer (some bd),.pointer (some kd)] w fun e w'=>e=.returned (.agg (Q0o s blk).vals)/\zD w.heap.size w w':=by
 unfold St.vals vw;go_enter Tryz.func154,Tryz.ntmps154
 go_wp2
 go_loopw [26] (fun i wr=>∃ t:Nat,t<=64/\i=.int .i64 t/\Blk wr w.heap.size 221 s.vals/\Blk wr (w.heap.size+1) 221 Q6w/\Blk wr (w.heap.size+1+1) 220 (Q0w blk t)/\zD w.heap.size w wr) (fun i _=>64 - (intOf i).toNat)
 case atStart =>refine⟨0,by omega,rfl,((Blk.new w 221 s.vals).alloc _).alloc _,(Blk.newAt (cs:=Q6w) (by simp)).alloc _,?_,(((zN _ _).alloc (zL _) _).alloc (by simp) _).alloc (by simp; omega) _⟩;rw [Q5v];exact Blk.newAt (by simp)
 obtain⟨t,ht,rfl,hB0,hB1,hB2,hbel⟩:=hrel;by_cases ht1:t<64
 ·by_cases ht2:t<16
  ·have hsl:=fun W=>Q7D (P:=zJ) (t:=222) (e:=5) (n:=64) rfl rfl bd (4*t) (4*t+4) (4*(t:Int)) (4*(t:Int)+4) (by omega) (by omega) (by omega) (by omega) (by omega) W
   rw [show 4*t+4 - 4*t=4 from by omega] at hsl
   go_wp2
   obtain⟨wo,rfl⟩:∃ wo:zA,wo=wr:=⟨_,rfl⟩;go_loopw [40] (fun i wr=>∃ k:Nat,k<=4/\i=.int .i64 k/\Blk wr w.heap.size 221 s.vals/\Blk wr (w.heap.size+1) 221 Q6w/\Blk wr (w.heap.size+1+1) 220 ((Q0w blk t).setIfInBounds t (vw (Q8m blk t k)))/\zD w.heap.size w wr) (fun i _=>4 - (intOf i).toNat)
   case atStart=>exact⟨0,by omega,rfl,hB0,hB1,by rw [Q5I blk t ht1]; exact hB2,hbel⟩
   obtain⟨k,hk4,rfl,hB0,hB1,hB2,hbel⟩:=hrel;by_cases hk5:k<4
   ·have hc1:wr.cell? ((bd.add (4*t)).add k)=some (.int .u8 (bi (blk.getD (4*t+k) 0))):=by
     rw [hbel.cell (by rw [Q0d,Q0d]; exact hbb),Q2b]; exact hb.getD _ (by omega)
    have hc2:=hB2.cell t;rw [Q7c blk t _ ht1] at hc2;have hf2:=hB2.frozen t;unfold vw at hc2;clear hsl
    go_wp2
    go_roundw
    case rel =>have h2:=hB2.set_ t (vw (Q8m blk t (k+1)));rw [Array.setIfInBounds_setIfInBounds] at h2;exact⟨k+1,by omega,by go_num,hB0.far (p:=⟨w.heap.size+1+1,t,none⟩) (by simp; omega) _,hB1.far (p:=⟨w.heap.size+1+1,t,none⟩) (by simp) _,h2,hbel.setCell (p:=⟨w.heap.size+1+1,t,none⟩) (by simp; omega) _⟩
    case measure=>simp [intOf]; omega
   obtain rfl:k=4:=by omega
   rw [partW_4 blk t ht2 (Q0Y blk t),Q39 blk t ht1] at hB2;clear hsl
   go_wp2
   go_roundw
   case rel=>exact⟨t+1,by omega,by go_num,hB0,hB1,hB2,hbel⟩
   case measure=>simp [intOf]; omega
  have e1:(((t:Int) - 15).toNat)=t - 15:=by omega
  have e2:(((t:Int) - 2).toNat)=t - 2:=by omega
  have e3:(((t:Int) - 16).toNat)=t - 16:=by omega
  have e4:(((t:Int) - 7).toNat)=t - 7:=by omega
  have c1:=(hB2.cell (t - 15)).trans (Q1j blk t (t - 15) (by omega) ht);have c2:=(hB2.cell (t - 2)).trans (Q1j blk t (t - 2) (by omega) ht);have c3:=(hB2.cell (t - 16)).trans (Q1j blk t (t - 16) (by omega) ht);have c4:=(hB2.cell (t - 7)).trans (Q1j blk t (t - 7) (by omega) ht);unfold vw at c1 c2 c3 c4;generalize hx1:(Q0Y blk t).getD (t - 15) 0=x1 at c1;generalize hx2:(Q0Y blk t).getD (t - 2) 0=x2 at c2;generalize hx3:(Q0Y blk t).getD (t - 16) 0=x3 at c3;generalize hx4:(Q0Y blk t).getD (t - 7) 0=x4 at c4;have HX:=sH (zK hx1 (zK hx2 (zK hx3 hx4)));clear hx1 hx2 hx3 hx4
  go_wp2
  go_quiet (fail)
  go_wp2
  have w16:IntKind.i64.wrap ((t:Int) - 16)=(t:Int) - 16:=IntWalk.i64_in _ (by omega);have w7:IntKind.i64.wrap ((t:Int) - 7)=(t:Int) - 7:=IntWalk.i64_in _ (by omega);have b16:(t:Int) - 16<64:=by omega
  have b77:(7:Int)<=t:=by omega
  have b17:(16:Int)<=t:=by omega
  have b7:(t:Int) - 7<64:=by omega
  refine Q20 29 (by kernel_rfl) (by kernel_rfl) ?_;simp only [tT,tU]
  repeat still_step
  still_call (Q1r x1 7 (by omega) (by omega) _)
  repeat still_step
  still_call (Q1r x1 18 (by omega) (by omega) _)
  repeat still_step
  still_call (Q1r x2 17 (by omega) (by omega) _)
  repeat still_step
  still_call (Q1r x2 19 (by omega) (by omega) _)
  repeat still_step
  refine wpStill_nil ?_;have c0:=(hB2.cell t).trans (Q5O blk t ht1);have f0:=hB2.frozen t;unfold vw at c0
  go_wp2
  go_roundw
  case rel =>
   obtain⟨h1,h2,h3,h4⟩:=HX.out;have hn:Q8G blk (Q0Y blk t) t=x3+sml0 x1+x4+sml1 x2:=by rw [Q8G,if_neg ht2,h1,h2,h3,h4]
   have hs:=(hB2.drewN (nq+1)).set_ t (vw (Q8G blk (Q0Y blk t) t));rw [Q39 blk t ht1,hn] at hs;exact⟨t+1,by omega,by go_num,(hB0.drewN (nq+1)).far (p:=⟨w.heap.size+1+1,t,none⟩) (by simp; omega) _,(hB1.drewN (nq+1)).far (p:=⟨w.heap.size+1+1,t,none⟩) (by simp) _,hs,(Q0B hbel (nq+1)).setCell (p:=⟨w.heap.size+1+1,t,none⟩) (by simp; omega) _⟩
  case measure=>simp [intOf]; omega
 obtain rfl:t=64:=by omega
 have q0:=hB0.cell 0;have q1:=hB0.cell 1;have q2:=hB0.cell 2;have q3:=hB0.cell 3;have q4:=hB0.cell 4;have q5:=hB0.cell 5;have q6:=hB0.cell 6;have q7:=hB0.cell 7;unfold St.vals vw at q0 q1 q2 q3 q4 q5 q6 q7
 go_wp2
 go_quiet (fail)
 go_wp2
 obtain⟨wo,hwo⟩:∃ wo:zA,wo=wr:=⟨_,rfl⟩;clear hwo;go_loopw [13,14,15,16,17,18,19,20,108] (fun va vb' vc vd ve vf vg vh i wr=>∃ (t:Nat) (S:St),t<=64/\i=.int .i64 t/\S=Q44 s (Q0Y blk 64) t/\va=.int .u32 (wi S.a)/\vb'=.int .u32 (wi S.b)/\vc=.int .u32 (wi S.c)/\vd=.int .u32 (wi S.d)/\ve=.int .u32 (wi S.e)/\vf=.int .u32 (wi S.f)/\vg=.int .u32 (wi S.g)/\vh=.int .u32 (wi S.h)/\Blk wr w.heap.size 221 s.vals/\Blk wr (w.heap.size+1) 221 Q6w/\Blk wr (w.heap.size+1+1) 220 (Q0w blk 64)/\zD w.heap.size w wr) (fun _ _ _ _ _ _ _ _ i _=>64 - (intOf i).toNat)
 case atStart=>exact⟨0,s,by omega,rfl,rfl,rfl,rfl,rfl,rfl,rfl,rfl,rfl,rfl,hB0.drewN _,hB1.drewN _,hB2.drewN _,Q0B hbel _⟩
 clear q0 q1 q2 q3 q4 q5 q6 q7 hB0 hB1 hB2 hbel;obtain⟨t,⟨sa,sb,sc,sd,se,sf,sg,sh⟩,ht,rfl,hS,rfl,rfl,rfl,rfl,rfl,rfl,rfl,rfl,hB0,hB1,hB2,hbel⟩:=hrel;have HS:=sH hS;clear hS;by_cases ht1:t<64
 ·have hkc:wr.cell? (kd.add t)=some (.int .u32 (wi (kc.getD t 0))):=by
   rw [hbel.cell (by rw [Q0d]; exact hkb)]; exact hk.getD _ ht1
  have hwc:=(hB2.cell t).trans (Q1j blk 64 t ht1 (by omega));unfold vw at hwc;generalize hx1:(Q0Y blk 64).getD t 0=x1 at hwc;generalize hx2:kc.getD t 0=x2 at hkc;have HX:=sH (zK hx1 hx2);clear hx1 hx2 hb hk
  go_wp2
  go_quiet ((go_at_call 163; exact Calls.quiet_of_same (Q1r _ _ (by omega) (by omega) _)))
  go_wp2_with (go_at_call 163; refine(Q1r _ _ (by omega) (by omega) _).mono ?_; rintro _ _ ⟨rfl,rfl⟩)
  go_roundw
  case rel =>
   obtain⟨h1,h2⟩:=HX.out;have hst:rstep ⟨sa,sb,sc,sd,se,sf,sg,sh⟩ x2 x1=Q44 s (Q0Y blk 64) (t+1):=by rw [Q44,<- HS.out,h1,h2]
   repeat apply Exists.intro
   exact⟨⟨t+1,_,by omega,by go_num,hst,rfl,rfl,rfl,rfl,rfl,rfl,rfl,rfl,hB0.drewN _,hB1.drewN _,hB2.drewN _,Q0B hbel _⟩,rfl⟩
  case measure=>simp [intOf]; omega
 obtain rfl:t=64:=by omega
 clear hb hk
 go_wp2
 have hidx:=fun(cs:Array zB) (k:Nat) (v:zB) (hk:k<8) (hv:cs[k]?=some v)=>Q35 (P:=zJ) (t:=221) (e:=141) (n:=8) rfl rfl (fun w=>by kernel_rfl) cs k v hk hv
 have HI:=sH hidx;clear hidx;obtain⟨wo,hwo⟩:∃ wo:zA,wo=wr:=⟨_,rfl⟩;clear hwo;go_loopw [182] (fun i wr=>∃ k:Nat,k<=8/\i=.int .i64 k/\Blk wr w.heap.size 221 (Q2v s ⟨sa,sb,sc,sd,se,sf,sg,sh⟩ k)/\Blk wr (w.heap.size+1) 221 Q6w/\zD w.heap.size w wr) (fun i _=>8 - (intOf i).toNat)
 case atStart=>exact⟨0,by omega,rfl,by rw [Q6O]; exact hB0,hB1,hbel⟩
 clear hB0 hB1 hB2 hbel;obtain⟨k,hk,rfl,hB0,hB1,hbel⟩:=hrel;by_cases hk1:k<8
 ·obtain⟨u,v,hu,hv,hc,hi⟩:=Q8A s ⟨sa,sb,sc,sd,se,sf,sg,sh⟩ k hk1;have hrun:=HI.out (St.vals ⟨sa,sb,sc,sd,se,sf,sg,sh⟩) k _ hk1 hi;have hcell:=(hB0.cell k).trans hc;have hfz:=hB0.frozen k;unfold vw at hrun hcell;unfold St.vals at hrun;unfold vw at hrun
  dsimp only at hrun
  have HH:=sH (zK hu (zK hv (zK hc hi)));clear hu hv hc hi
  go_wp2
  go_roundw
  case rel =>obtain⟨h1,h2,_,_⟩:=HH.out;have hs:=hB0.set_ k (vw (u+v));have he:=Q75 s ⟨sa,sb,sc,sd,se,sf,sg,sh⟩ k;rw [<- h1,<- h2] at he;rw [he] at hs;exact⟨k+1,by omega,by go_num,hs,hB1.far (p:=⟨w.heap.size,k,none⟩) (by simp) _,hbel.setCell (p:=⟨w.heap.size,k,none⟩) (by simp) _⟩
  case measure=>simp [intOf]; omega
 obtain rfl:k=8:=by omega
 have hfin:s.add ⟨sa,sb,sc,sd,se,sf,sg,sh⟩=Q0o s blk:=by rw [Q0o,<- HS.out]
 rw [Qa0,hfin] at hB0;generalize hR:Q0o s blk=R at hB0;have HR:=sH hR;clear hR hfin HS HI;have q0:=hB0.cell 0;have q1:=hB0.cell 1;have q2:=hB0.cell 2;have q3:=hB0.cell 3;have q4:=hB0.cell 4;have q5:=hB0.cell 5;have q6:=hB0.cell 6;have q7:=hB0.cell 7;have r0:=hB1.cell 0;have r1:=hB1.cell 1;have r2:=hB1.cell 2;have r3:=hB1.cell 3;have r4:=hB1.cell 4;have r5:=hB1.cell 5;have r6:=hB1.cell 6;have r7:=hB1.cell 7;have hf:=hB1.frozen;unfold St.vals vw at q0 q1 q2 q3 q4 q5 q6 q7;unfold Q6w at r0 r1 r2 r3 r4 r5 r6 r7;clear hB0 hB1
 go_wp2
 refine bodyPost_ret (v:=.agg #[.int .u32 (wi R.a),.int .u32 (wi R.b),.int .u32 (wi R.c),.int .u32 (wi R.d),.int .u32 (wi R.e),.int .u32 (wi R.f),.int .u32 (wi R.g),.int .u32 (wi R.h)]) ?_ rfl ⟨by rw [HR.out],?_⟩
 ·simp [results,Tryz.results154,go_sem,r0,r1,r2,r3,r4,r5,r6,r7]
 repeat (refine Below.setCell ?_ (by simp) _)
 exact hbel
end
section
open Go.RowKit
def Src (w:zA) (g:Nat) (A:Option Addr) (n:Nat) (xs:List UInt8):Prop :=xs.length=n/\(0<n->∃ ad,A=some ad/\ad.block≠g/\ad.block<w.heap.size/\∀ j (h:j<xs.length),w.cell? (ad.add j)=some (vb xs[j]))
theorem Src.keep {w w':zA} {g n:Nat} {A:Option Addr} {xs:List UInt8} (h:Src w g A n xs) (hg:w.grownBy w' (some g)):Src w' g A n xs :=⟨h.1,fun hn=>by obtain⟨ad,h1,h2,h3,h4⟩:=h.2 hn;exact⟨ad,h1,h2,Nat.lt_of_lt_of_le h3 hg.size,fun j hj=>(World.cell?_of_block (by rw [Q0d]; exact hg.block _ h3 (fun e=>h2 (by injection e)))).trans (h4 j hj)⟩⟩
theorem Src.cut {w:zA} {g n c k:Nat} {A:Option Addr} {xs:List UInt8} (h:Src w g A n xs) (hk:k<=n) (hc:n<=c):Src w g (if c=k then A else A.map (·.add k)) (n - k) (xs.drop k):=by refine⟨by rw [List.length_drop,h.1],fun hn=>?_⟩;obtain⟨ad,rfl,h2,h3,h4⟩:=h.2 (by omega);rw [if_neg (by omega)];refine⟨ad.add k,rfl,by rw [Q0d]; exact h2,by rw [Q0d]; exact h3,fun j hj=>?_⟩;rw [Q2b,List.getElem_drop];exact h4 _ _
theorem Q5N {W:zA} {g:Nat} {d m x y:Int} {k b:Nat->zB} {S:St} (hB:Blk W g 224 (Q08 d m k (sF S) b x y)) :
 (W.cell? ⟨g,68,none⟩=some (.int .u32 (wi S.a))/\W.cell? ⟨g,69,none⟩=some (.int .u32 (wi S.b))/\W.cell? ⟨g,70,none⟩=some (.int .u32 (wi S.c))/\W.cell? ⟨g,71,none⟩=some (.int .u32 (wi S.d)) /\
  W.cell? ⟨g,72,none⟩=some (.int .u32 (wi S.e))/\W.cell? ⟨g,73,none⟩=some (.int .u32 (wi S.f))/\W.cell? ⟨g,74,none⟩=some (.int .u32 (wi S.g))/\W.cell? ⟨g,75,none⟩=some (.int .u32 (wi S.h)))/\∀ j,W.frozen? ⟨g,j,none⟩=false :=
 ⟨⟨(hB.cell 68).trans (Q40 _ _ _ _ _ _ _ 0 (by omega)),(hB.cell 69).trans (Q40 _ _ _ _ _ _ _ 1 (by omega)),(hB.cell 70).trans (Q40 _ _ _ _ _ _ _ 2 (by omega)),(hB.cell 71).trans (Q40 _ _ _ _ _ _ _ 3 (by omega)),
  (hB.cell 72).trans (Q40 _ _ _ _ _ _ _ 4 (by omega)),(hB.cell 73).trans (Q40 _ _ _ _ _ _ _ 5 (by omega)),(hB.cell 74).trans (Q40 _ _ _ _ _ _ _ 6 (by omega)),(hB.cell 75).trans (Q40 _ _ _ _ _ _ _ 7 (by omega))⟩,hB.frozen⟩
theorem Q1U (R:St):R.vals.size=8:=rfl
theorem Q7q (R:St):R.vals.toList.length=8:=rfl
theorem Q77 (R:St):∀ v∈R.vals.toList,v.oneCell'=true:=by intro v hv;simp [St.vals] at hv;rcases hv with rfl | rfl | rfl | rfl | rfl | rfl | rfl | rfl <;> rfl
theorem Q92 (R:St):R.vals.all (·.oneCell')=true:=Array.all_eq_true_iff_forall_mem.2 fun v hv=>Q77 R v (by simpa using hv)
theorem Qau (R:St) (j:Nat) (h:j<8):R.vals.toList[j]?=some (sF R j):=by
 match j,h with
 | 0,_ | 1,_ | 2,_ | 3,_ | 4,_ | 5,_ | 6,_ | 7,_=>rfl
theorem Q62 {P:Program} (R:St) {W:zA} {g:Nat} {t:TypeId} {d m x y:Int} {k s b:Nat->zB} (hB:Blk W g t (Q08 d m k s b x y)) :
 (storeCells ⟨g,68,none⟩ R.vals.toList 0).run P W=.ok () (W.setCells g 68 R.vals.toList) :=
 run_storeCells_cells (P:=P) g 68 R.vals.toList 0 W (fun j hj=>((hB.there 68 8 (by rw [Q38]; omega)) j hj).1) (fun j hj=>((hB.there 68 8 (by rw [Q38]; omega)) j hj).2) (Q77 R)
theorem Q7d {W:zA} {g:Nat} {t:TypeId} {d m x y:Int} {k s b:Nat->zB} (R:St) (hB:Blk W g t (Q08 d m k s b x y)) :
 Blk (W.setCells g 68 R.vals.toList) g t (Q08 d m k (sF R) b x y)/\Q06 g W (W.setCells g 68 R.vals.toList):=by
 have h:=hB.setCells 68 R.vals.toList (by rw [Q7q,Q38]; omega);rw [QaM d m k s (sF R) b x y _ (Q7q R) (Qau R)] at h;exact h
theorem Src.of_below {w:zA} {B g n:Nat} {A:Option Addr} {xs:List UInt8} (h:Q04 w B 1 A n (xs.map vb)) (hB:B<=w.heap.size) (hg:B<=g):Src w g A n xs :=⟨by have:=h.1; simpa using this,fun hn=>by obtain⟨ad,rfl,h1,h2⟩:=h.2 hn;exact⟨ad,rfl,by omega,by omega,fun j hj=>h2 j _ (by rw [zG,zC hj]; rfl)⟩⟩
theorem Qbg (g:Nat) (l xs:List UInt8) (A:Option Addr) (n c:Nat) (w:zA) (h:Q3C w g l) (hs:Src w g A n xs) (hc:n<=c) (hcm:c<=maxLen) (hlen:l.length+n<=maxLen) :
 zF zJ 142 #[.pointer (some ⟨g,0,none⟩),.slice A n c] w fun e w'=>e=.returned (.int .i64 0)/\Q33 w' g (l++xs)/\w.grownBy w' (some g):=by
 unfold maxLen at hcm hlen;have c0:w.cell? ⟨g,0,none⟩=some (.bool true):=by rcases h with⟨b,h1,_⟩ | ⟨_,h1⟩ <;> exact(h1.cell 0).trans (Q1x _ _ _ _ _ _ _ 0 (by omega))
 have hnot:∀ (x:Bool) (w:zA),(Op.unary .not (.bool x)).run zJ w=.ok (.bool (!x)) w:=fun _ _=>rfl
 have HH:=sH h;clear h;go_enter Tryz.func142,Tryz.ntmps142
 go_wp2_with fail
 refine(Q8c g l w HH.out).mono ?_;rintro _ w1 ⟨rfl,⟨b,hB,hbb⟩,hg1⟩;have hs1:=hs.keep hg1;clear hs c0;have hpl:=QaP l;have c141:=(hB.cell 141).trans (Q7L _ _ _ _ _ _ _);have f141:=hB.frozen 141;have HB:=sH hB;clear hB
 go_wp2
 have hB0:=HB.out.set_ 141 (.int .i64 ((l.length:Int)+(n:Int)));rw [Q8F] at hB0;have hT0:=Q06.setCell w1 ⟨g,141,none⟩ (.int .i64 ((l.length:Int)+(n:Int)));have hs0:=hs1.keep hT0.grown;have hg0:=hg1.trans hT0.grown;have hxl:=hs0.1;clear hT0 hs1 hg1 HB c141 f141;have HBB:=sH hbb;clear hbb
 go_loopg [1] n (fun gh v wr=>∃ (i:Nat) (A':Option Addr) (c':Nat) (b':Nat->UInt8),i+gh=n/\v=.slice A' (n - i) c'/\n - i<=c'/\c'<=9223372036854775807/\Src wr g A' (n - i) (xs.drop i) /\
  Blk wr g 224 (Q08 1 0 kF (sF (acc (l++xs.take i)).1) (fun j=>vb (b' j)) ((acc (l++xs.take i)).2.length:Nat) ((l.length:Int)+(n:Int)))/\Hid (∀ j,j<(acc (l++xs.take i)).2.length->b' j=(acc (l++xs.take i)).2.getD j 0)/\w.grownBy wr (some g))
 case atStart=>exact⟨0,A,c,b,by omega,rfl,by omega,by omega,by simpa using hs0,by simpa using hB0,by simpa [Hid] using HBB.out,hg0⟩
 clear hB0 hs0 hg0 HBB;obtain⟨i,A',c',b',hi,rfl,hc1,hc2,hs,hB,HB',hg⟩:=hrel;by_cases hin:i<n
 ·obtain⟨ad,rfl,hne,hadl,hcl⟩:=hs.2 (by omega);have hpl:=QaP (l++xs.take i);obtain⟨m,hm⟩:∃ m,m=min (n - i) (64 - (acc (l++xs.take i)).2.length):=⟨_,rfl⟩;have hm1:m<=n - i:=by omega
  have hm2:m<=64 - (acc (l++xs.take i)).2.length:=by omega
  have hm3:0<m:=by omega
  have hm4:m=n - i\/m=64 - (acc (l++xs.take i)).2.length:=by omega
  have hstep:acc (l++xs.take (i+m))=feed (acc (l++xs.take i)) ((xs.drop i).take m):=by rw [<- Q9G,zP,List.take_add]
  generalize hA:acc (l++xs.take i)=SP at *;obtain⟨S,p⟩:=SP;simp only at hpl hm hm1 hm2 hm4 hB HB' hstep;have hchl:((xs.drop i).take m).length=m:=by simp; omega
  have hsrc:∀ j v,(((xs.drop i).take m).map vb)[j]?=some v->wr.cell? (ad.add j)=some v:=by intro j v hv;obtain⟨hj,rfl⟩:=Q3K hv;rw [List.getElem_take];exact hcl j _
  have hs2:Src wr g (if c'=m then some ad else(some ad).map (·.add m)) (n - i - m) ((xs.drop i).drop m):=hs.cut hm1 hc1;have hr2:=fun W=>Q0G (P:=zJ) (t:=28) (e:=5) rfl rfl (some ad) (n - i) c' m (m:Int) rfl hm1 W
  generalize (if c'=m then some ad else(some ad).map (·.add m))=A2 at hs2 hr2;have hr1:=fun W=>Q3B (P:=zJ) (t:=222) (e:=5) (n:=64) rfl rfl ⟨g,76,none⟩ p.length (p.length:Int) rfl hpl W
  rw [Q0R] at hr1;have c140:=(hB.cell 140).trans (Q3d _ _ _ _ _ _ _);have HM:=sH (zK hm hm4);have HA:=sH (zK hA hstep);have HS:=sH (zK hsrc (zK hchl hs2));have HI:=sH hi;have HB:=sH hB;clear hm hm4 hA hstep hsrc hchl hs2 hi hB hs hcl;have hmi:(m:Int)<=n - i:=by omega
  go_wp2
  refine Q20 9 (by kernel_rfl) (by kernel_rfl) ?_;simp only [tT,tU]
  repeat still_step
  refine wpStill_nil ?_;refine Q4M rfl (.tmp 36) (.tmp 37) 28 28 5 rfl g (76+p.length) (64 - p.length) (64 - p.length) (n - i) c' ad 224 _ (((xs.drop i).take m).map vb) rfl rfl rfl rfl HB.out (by rw [List.length_map,HS.out.2.1,HM.out.1]) HS.out.1 (by rw [List.length_map,HS.out.2.1,Q38]; omega) (by intro v hv; obtain⟨x,_,rfl⟩:=List.mem_map.1 hv; rfl) ?_;intro W2 hT2 hB2;rw [Qaf _ _ _ _ _ _ _ _ _ (by rw [HS.out.2.1]; omega)] at hB2;rw [List.length_map,HS.out.2.1];have c140:=(hB2.cell 140).trans (Q3d _ _ _ _ _ _ _);have f140:=hB2.frozen 140;by_cases hfull:p.length+m=64
  ·have hz:((p.length:Int)+(m:Int) == 64)=true:=by rw [beq_iff_eq]; omega
   have HB2:=sH hB2;have HF:=sH hfull;clear hB2 hfull
   go_wp2
   have hB3:=HB2.out.set_ 140 (.int .i64 ((p.length:Int)+(m:Int)));rw [Q3J] at hB3;have hT3:=hT2.trans (Q06.setCell W2 ⟨g,140,none⟩ (.int .i64 ((p.length:Int)+(m:Int))));generalize W2.setCell ⟨g,140,none⟩ (.int .i64 ((p.length:Int)+(m:Int)))=W3 at hB3 hT3 ⊢;clear c140 f140 hz;have hblk:(p++(xs.drop i).take m).length=64:=by rw [zM,HS.out.2.1]; exact HF.out
   have hby:Q4e W3 ⟨g,76,none⟩ (p++(xs.drop i).take m):=by
    intro j hj;rw [Q0R,hB3.cell,hash_b _ _ _ _ _ _ _ _ (by omega)];have hml:=HS.out.2.1;have hfo:=HF.out;congr 2
    unfold putB;by_cases h1:j<p.length
    ·rw [if_neg (by omega),HB'.out j h1,zO,zC h1,List.getElem_append_left h1]; rfl
    rw [if_pos (by omega),zO,zC (by omega),List.getElem_append_right (by omega)]; rfl
   have hwk:Q5J W3 ⟨g,4,none⟩ kc:=by intro j hj;have hj':j<64:=hj;rw [Q0R,hB3.cell,hash_k _ _ _ _ _ _ _ _ hj',kF,zO,zC hj]; rfl
   have HT:=sH (Q7n S _ ⟨g,76,none⟩ ⟨g,4,none⟩ W3.drew hblk hby hwk hB3.lt hB3.lt);have hq:=(Q5N hB3).1;have hvs:=Q1U (Q0o S (p++List.take m (List.drop i xs)));have hgl:=hB3.lt;have HB3:=sH hB3;have HY:=sH hblk;clear hB3 hby hwk hblk;go_region_law (first
    | (go_simp; go_at_call 154; refine HT.out.mono ?_; rintro _ w4 ⟨rfl,hb4⟩; have hst4:=Q62 (P:=zJ) (Q0o S (p++List.take m (List.drop i xs))) (HB3.out.drew.below hb4 hgl)))
   have h5:=Q7d (Q0o S (p++List.take m (List.drop i xs))) (HB3.out.drew.below hb4 hgl);have hG5:wr.grownBy (w4.setCells g 68 (Q0o S (p++List.take m (List.drop i xs))).vals.toList) (some g) :=(((Q4g (World.grownBy.refl wr _) _).trans hT3.grown).trans ((Q0v ((zN _ W3).drew.trans hb4) (some g)))).trans h5.2.grown
   have hB5:=h5.1;clear h5 hst4 hq hvs;generalize (w4.setCells g 68 (Q0o S (p++List.take m (List.drop i xs))).vals.toList)=W5 at hB5 hG5 ⊢;have c140:=(hB5.cell 140).trans (Q3d _ _ _ _ _ _ _);have f140:=hB5.frozen 140;have HB5:=sH hB5;clear hB5
   go_wp2
   go_roundg (gk - m)
   case measure=>have:=HI.out; omega
   have hi:=HI.out;have hfe:=Qai S p ((xs.drop i).take m) (by rw [HS.out.2.1]; exact HF.out) hpl;have hst:=HA.out.2;rw [hfe] at hst;have hB6:=HB5.out.set_ 140 (.int .i64 0);rw [Q3J] at hB6;have hT6:=Q06.setCell W5 ⟨g,140,none⟩ (.int .i64 0);refine⟨i+m,A2,c' - m,putB b' p.length ((xs.drop i).take m),by omega,by rw [Nat.sub_add_eq],by omega,by omega,?_,?_,?_,(hg.trans hG5).trans hT6.grown⟩
   ·have h2:=HS.out.2.2;rw [List.drop_drop] at h2;rw [Nat.sub_add_eq];exact(h2.keep hG5).keep hT6.grown
   ·rw [hst]; exact hB6
   rw [hst]; intro j hj; simp at hj
  have hz:((p.length:Int)+(m:Int) == 64)=false:=by rw [beq_eq_false_iff_ne]; omega
  have HB2:=sH hB2;have HF:=sH hfull;clear hB2 hfull
  go_wp2
  go_roundg (gk - m)
  case measure=>have:=HI.out; omega
  have hi:=HI.out;have hfe:=Q6F S p ((xs.drop i).take m) (by rw [HS.out.2.1]; have:=HF.out; omega);have hst:=HA.out.2;rw [hfe] at hst;have hB3:=HB2.out.set_ 140 (.int .i64 ((p.length:Int)+(m:Int)));rw [Q3J] at hB3;have hT3:=hT2.trans (Q06.setCell W2 ⟨g,140,none⟩ (.int .i64 ((p.length:Int)+(m:Int))));refine⟨i+m,A2,c' - m,putB b' p.length ((xs.drop i).take m),by omega,by rw [Nat.sub_add_eq],by omega,by omega,?_,?_,?_,(Q4g hg _).trans hT3.grown⟩
  ·have h2:=HS.out.2.2;rw [List.drop_drop] at h2;rw [Nat.sub_add_eq];exact(h2.keep (Q4g (World.grownBy.refl wr _) _)).keep hT3.grown
  ·rw [hst];have e1:((p++(xs.drop i).take m).length:Int)=(p.length:Int)+(m:Int):=by rw [zM,HS.out.2.1]; omega
   rw [e1];exact hB3
  rw [hst];intro j hj;have hml:=HS.out.2.1;simp only [zM,hml] at hj;unfold putB;rw [hml];by_cases h1:j<p.length
  ·rw [if_neg (by omega),HB'.out j h1,zO,zO,zQ h1]
  rw [if_pos (by omega),zO,zO,zR (by omega)]
 obtain rfl:i=n:=by omega
 go_wp2
 go_ret
 have e:xs.take i=xs:=List.take_of_length_le (by omega);rw [e] at hB HB';exact⟨rfl,⟨b',by rw [zM,hxl]; exact hB,HB'.out⟩,hg⟩
end
section
def Q24 (f:Nat->UInt8):List UInt8:=(List.range 64).map f
theorem Q2C (f:Nat->UInt8):(Q24 f).length=64:=by simp [Q24]
theorem Q5o (f:Nat->UInt8) (j:Nat) (h:j<(Q24 f).length):(Q24 f)[j]=f j:=by simp [Q24]
theorem Q7b (f:Nat->UInt8) (l:List UInt8) (hl:l.length=64) (h:∀ j,j<64->l[j]?=some (f j)):l=Q24 f:=by
 apply List.ext_getElem?
 intro i;rcases Nat.lt_or_ge i 64 with hi | hi
 ·rw [h i hi,zC (by rw [Q2C]; exact hi),Q5o]
 rw [zH (by omega),zH (by rw [Q2C]; exact hi)]
def padF (p:List UInt8) (j:Nat):UInt8:=if j<p.length then p.getD j 0 else if j=p.length then 128 else 0
def lenF (base:Nat->UInt8) (n j:Nat):UInt8:=if 56<=j then(be8 n).getD (j - 56) 0 else base j
theorem pad_eq (p:List UInt8) (h:p.length<64):p++[128]++zT (63 - p.length) 0=Q24 (padF p):=by
 refine Q7b _ _ (by simp; omega) fun j hj=>?_
 unfold padF;by_cases h1:j<p.length
 ·rw [if_pos h1,zP,zQ h1,zO,zC h1]; rfl
 rw [if_neg h1,zP,zR (by omega)];by_cases h2:j=p.length
 ·subst h2; simp
 rw [if_neg h2,zR (by simp; omega),List.getElem?_replicate,if_pos (by simp; omega)]
theorem Q1T (l:List UInt8) (j:Nat) (h:j<l.length):l[j]?=some (l.getD j 0):=by rw [zO,zC h]; rfl
theorem len_eq0 (n:Nat):zT 56 0++be8 n=Q24 (lenF (fun _=>0) n):=by
 refine Q7b _ _ (by simp [Q6S]) fun j hj=>?_
 unfold lenF;by_cases h1:56<=j
 ·rw [if_pos h1,zR (by simpa using h1),List.length_replicate];exact Q1T _ _ (by rw [Q6S]; omega)
 rw [if_neg h1,zQ (by simp; omega),List.getElem?_replicate,if_pos (by omega)]
theorem len_eq1 (p:List UInt8) (n:Nat) (h:p.length<56):p++[128]++zT (55 - p.length) 0++be8 n=Q24 (lenF (padF p) n):=by
 refine Q7b _ _ (by simp [Q6S]; omega) fun j hj=>?_
 unfold lenF;have hl:(p++[128]++zT (55 - p.length) 0).length=56:=by simp; omega
 by_cases h1:56<=j
 ·rw [if_pos h1,zR (by rw [hl]; exact h1),hl];exact Q1T _ _ (by rw [Q6S]; omega)
 rw [if_neg h1,zQ (by rw [hl]; omega)];unfold padF;by_cases h1:j<p.length
 ·rw [if_pos h1,zP,zQ h1,zO,zC h1]; rfl
 rw [if_neg h1,zP,zR (by omega)];by_cases h2:j=p.length
 ·subst h2; simp
 rw [if_neg h2,zR (by simp; omega),List.getElem?_replicate,if_pos (by simp; omega)]
theorem last_hi (s:St) (p:List UInt8) (n:Nat) (h:56<=p.length) (h':p.length<64) :
 Q22 s p n=Q0o (Q0o s (Q24 (padF p))) (Q24 (lenF (fun _=>0) n)):=by
 rw [Q22,if_pos h,pad_eq p h',len_eq0]
theorem last_lo (s:St) (p:List UInt8) (n:Nat) (h:p.length<56) :
 Q22 s p n=Q0o s (Q24 (lenF (padF p) n)):=by
 rw [Q22,if_neg (by omega),len_eq1 p n h]
theorem be8_get (n i:Nat) (h:i<8):(be8 n).getD (7 - i) 0=UInt8.ofNat (8*n / 2 ^ (8*i)):=by unfold be8;rw [zO,zG,zI (by omega)];simp only [Option.map_some,Option.getD_some];rw [show 7 - (7 - i)=i by omega]
theorem outB_get (s:St) (i:Nat) (h:i<32):(outB s).getD i 0=w8 (s.list.getD (i / 4) 0 >>> (24 - 8*(i % 4))):=by unfold outB;rw [zO,zG,zI h]; rfl
end
section
open Go.RowKit
attribute [local irreducible] wpList
attribute [local go_sem] w_add Qb1 w_sub Qar w_and w_or w_xor w_not Qay Qbu Q98 w_shl8 QaK w_shr3 Qax Q7s Q7P Q8E Q9u
def bRow (l:List UInt8):Array zB:=(l.map vb).toArray
theorem clr_eq (b:Nat->UInt8) (k m:Nat) (h:k+(m+1)=64):spl (rng 64 (fun j=>vb (b j))) k (zT (m+1) (.int .u8 0))=rng 64 (fun j=>vb (if j<k then b j else 0)):=by
 rw [Q5d (m:=m+1) (g:=fun _=>.int .u8 0) (by simp) (fun j hj=>by rw [List.getElem?_replicate,if_pos hj]) (by omega)];refine Q10 fun j hj=>?_
 by_cases h1:j<k
 ·rw [if_neg (by omega),if_pos h1]
 rw [if_pos (by omega),if_neg h1]; rfl
theorem pad_set (b:Nat->UInt8) (p:List UInt8) (hb:∀ j,j<p.length->b j=p.getD j 0):(rng 64 (fun j=>vb (if j<p.length then b j else 0))).setIfInBounds p.length (.int .u8 128)=rng 64 (fun j=>vb (padF p j)):=by
 rw [Q1w];refine Q10 fun j _=>?_
 unfold padF;by_cases h1:j<p.length
 ·rw [if_neg (by omega),if_pos h1,if_pos h1,hb j h1]
 by_cases h2:j=p.length
 ·rw [if_pos h2,if_neg h1,if_pos h2]; rfl
 rw [if_neg h2,if_neg h1,if_neg h1,if_neg h2]
def Q8X (base:Nat->UInt8) (n k j:Nat):UInt8:=if 64 - k<=j then(be8 n).getD (j - 56) 0 else base j
theorem Q9I (base:Nat->UInt8) (n:Nat):rng 64 (fun j=>vb (Q8X base n 0 j))=rng 64 (fun j=>vb (base j)):=Q10 fun j hj=>by unfold Q8X; rw [if_neg (by omega)]
theorem lenTo_8 (base:Nat->UInt8) (n:Nat):rng 64 (fun j=>vb (Q8X base n 8 j))=rng 64 (fun j=>vb (lenF base n j)):=rfl
theorem Q9X (base:Nat->UInt8) (n k:Nat) (h:k<8):(rng 64 (fun j=>vb (Q8X base n k j))).setIfInBounds (63 - k) (vb (UInt8.ofNat (8*n / 2 ^ (8*k))))=rng 64 (fun j=>vb (Q8X base n (k+1) j)):=by
 rw [Q1w];refine Q10 fun j hj=>?_
 unfold Q8X;by_cases h1:j=63 - k
 ·rw [if_pos h1,if_pos (by omega),h1,show 63 - k - 56=7 - k by omega,be8_get n k h]
 rw [if_neg h1];by_cases h2:64 - k<=j
 ·rw [if_pos h2,if_pos (by omega)]
 rw [if_neg h2,if_neg (by omega)]
theorem len_val (n k:Nat) (h:k<8):IntKind.u64.wrap (8*(n:Int)) / 2 ^ (8*k) % 256=bi (UInt8.ofNat (8*n / 2 ^ (8*k))):=by
 unfold bi;rw [UInt8.toNat_ofNat',IntKind.wrap_u64];match k,h with
 | 0,_ | 1,_ | 2,_ | 3,_ | 4,_ | 5,_ | 6,_ | 7,_=>simp only [Nat.reduceMul,Nat.reducePow,Int.reducePow]; omega
theorem vals_at' (R:St) (j:Nat) (h:j<8):R.vals[j]?=some (.int .u32 (wi (R.list.getD j 0))):=by
 match j,h with
 | 0,_ | 1,_ | 2,_ | 3,_ | 4,_ | 5,_ | 6,_ | 7,_=>rfl
theorem Q2l (l:List UInt8):(bRow l).size=l.length:=by simp [bRow]
theorem Q0Q (l:List UInt8):(bRow l).all (·.oneCell')=true:=by simp [bRow,vb,Value.oneCell']
theorem dig_next (l:List UInt8) (k:Nat):(rng 32 (fun j=>if j<k then vb (l.getD j 0) else .int .u8 0)).setIfInBounds k (vb (l.getD k 0))=rng 32 (fun j=>if j<k+1 then vb (l.getD j 0) else .int .u8 0):=by
 rw [Q1w];refine Q10 fun j hj=>?_
 by_cases h1:j=k
 ·subst h1; rw [if_pos rfl,if_pos (by omega)]
 rw [if_neg h1];by_cases h2:j<k
 ·rw [if_pos h2,if_pos (by omega)]
 rw [if_neg h2,if_neg (by omega)]
theorem dig_full (s:St):bRow (outB s)=rng 32 (fun j=>if j<32 then vb ((outB s).getD j 0) else .int .u8 0):=by
 refine Q3Q (by rw [Q2l,Q4X]) fun j hj=>?_
 have hl:=Q4X s;rw [if_pos hj,bRow,List.getElem?_toArray,zG,Q1T _ _ (by omega)]; rfl
theorem Q6k {W:zA} {g:Nat} {t:TypeId} {d m x y:Int} {s b:Nat->zB} (hB:Blk W g t (Q08 d m kF s b x y)):Q5J W ⟨g,4,none⟩ kc:=by intro j hj;have hj':j<64:=hj;rw [Q0R,hB.cell,hash_k _ _ _ _ _ _ _ _ hj',kF,zO,zC hj]; rfl
theorem Q6d {W:zA} {g:Nat} {t:TypeId} {S:St} (hB:Blk W g t S.vals) :
 (W.cell? ⟨g,0,none⟩=some (.int .u32 (wi S.a))/\W.cell? ⟨g,1,none⟩=some (.int .u32 (wi S.b))/\W.cell? ⟨g,2,none⟩=some (.int .u32 (wi S.c))/\W.cell? ⟨g,3,none⟩=some (.int .u32 (wi S.d)) /\
  W.cell? ⟨g,4,none⟩=some (.int .u32 (wi S.e))/\W.cell? ⟨g,5,none⟩=some (.int .u32 (wi S.f))/\W.cell? ⟨g,6,none⟩=some (.int .u32 (wi S.g))/\W.cell? ⟨g,7,none⟩=some (.int .u32 (wi S.h)))/\∀ j,W.frozen? ⟨g,j,none⟩=false :=
 ⟨⟨(hB.cell 0).trans rfl,(hB.cell 1).trans rfl,(hB.cell 2).trans rfl,(hB.cell 3).trans rfl,(hB.cell 4).trans rfl,(hB.cell 5).trans rfl,(hB.cell 6).trans rfl,(hB.cell 7).trans rfl⟩,hB.frozen⟩
theorem Q6u {P:Program} (R:St) {W:zA} {g:Nat} {t:TypeId} {S:St} (hB:Blk W g t S.vals) :
 (storeCells ⟨g,0,none⟩ R.vals.toList 0).run P W=.ok () (W.setCells g 0 R.vals.toList) :=
 run_storeCells_cells (P:=P) g 0 R.vals.toList 0 W (fun j hj=>((hB.there 0 8 (by rw [Q1U]; omega)) j hj).1) (fun j hj=>((hB.there 0 8 (by rw [Q1U]; omega)) j hj).2) (Q77 R)
theorem Q9k {W:zA} {g:Nat} {t:TypeId} {S:St} (R:St) (hB:Blk W g t S.vals) :
 Blk (W.setCells g 0 R.vals.toList) g t R.vals/\Q06 g W (W.setCells g 0 R.vals.toList):=by
 have h:=hB.setCells 0 R.vals.toList (by rw [Q7q,Q1U]; omega);rw [Q0a _ _ (by rw [Q1U,Q1U])] at h;exact h
theorem sum_any (g:Nat) (l:List UInt8) (w:zA) (h:Q3C w g l) (hlen:l.length<=maxLen) :
 zF zJ 143 #[.pointer (some ⟨g,0,none⟩)] w fun e w'=>e=.returned (.tuple #[.agg (bRow (Q14 l)),.int .i64 0])/\Q33 w' g l/\w.grownBy w' (some g):=by
 unfold maxLen at hlen;have hgl:=h.lt;have c0:w.cell? ⟨g,0,none⟩=some (.bool true):=by rcases h with⟨b,h1,_⟩ | ⟨_,h1⟩ <;> exact(h1.cell 0).trans (Q1x _ _ _ _ _ _ _ 0 (by omega))
 have hnot:∀ (x:Bool) (w:zA),(Op.unary .not (.bool x)).run zJ w=.ok (.bool (!x)) w:=fun _ _=>rfl
 have HH:=sH h;clear h;go_enter Tryz.func143,Tryz.ntmps143
 go_wp2_with fail
 have hWB:=Blk.new w 51 (rng 32 z8);have hR:rng 32 z8=zU 32 (.int .u8 0):=(Q3Q (by simp) fun j hj=>by simp [z8,hj]).symm;rw [hR] at hWB;have hWs:(w.alloc (.cells (zU 32 (.int .u8 0)) 51)).heap.size=w.heap.size+1:=by simp
 have hWh:=HH.out.keep (Below.heap_alloc w (.cells (zU 32 (.int .u8 0)) 51) g hgl);have hWg:=Q4p (World.grownBy.refl w (some g)) (.cells (zU 32 (.int .u8 0)) 51);have hlit:zU 32 (Value.int .u8 0)=#[.int .u8 0,.int .u8 0,.int .u8 0,.int .u8 0,.int .u8 0,.int .u8 0,.int .u8 0,.int .u8 0,.int .u8 0,.int .u8 0,.int .u8 0,.int .u8 0,.int .u8 0,.int .u8 0,.int .u8 0,.int .u8 0,.int .u8 0,.int .u8 0,.int .u8 0,.int .u8 0,.int .u8 0,.int .u8 0,.int .u8 0,.int .u8 0,.int .u8 0,.int .u8 0,.int .u8 0,.int .u8 0,.int .u8 0,.int .u8 0,.int .u8 0,.int .u8 0]:=rfl;rw [hlit] at hWB hWs hWh hWg;generalize w.alloc _=W at hWB hWs hWh hWg ⊢;refine(Q8c g l W hWh).mono ?_;rintro _ w1 ⟨rfl,⟨b,hB,hbb⟩,hg1⟩;clear hlit hR;have hRB:=hWB.grown hg1 (by intro e; injection e with e; omega);have hsz1:=hg1.size;rw [hWs] at hsz1;have hg2:=hWg.trans hg1;have hpl:=QaP l;have hll:=acc_len l;clear hWB hWs hWh hWg hg1 c0;generalize hA:acc l=SP at *;obtain⟨S,p⟩:=SP;simp only at hpl hll hB hbb;have HA:=sH hA;have HB:=sH hB;have HBB:=sH hbb;have HRB:=sH hRB;have HLL:=sH hll;clear hA hbb hRB hll;have hgl1:=hB.lt;have q:=(Q5N hB).1;clear hB;go_upto_region 4 with fail
 go_cut [4,5] (fun s4 s5 wx=>∃ gs gb:Nat,s4=.pointer (some ⟨gs,0,none⟩)/\s5=.pointer (some ⟨gb,0,none⟩)/\w1.heap.size<=gs/\w1.heap.size<=gb/\Blk wx gs 221 S.vals/\Blk wx gb 222 (rng 64 (fun j=>vb (b j)))/\zD w1.heap.size w1 wx)
 case first =>
  have hB:=HB.out;refine wp_region_held_drew (S:=fun w'=>Blk w' g 224 (Q08 1 0 kF (sF S) (fun j=>vb (b j)) (p.length:Nat) (l.length:Nat))) (by kernel_rfl) hB.drew (fun hS0=>?_);refine wpAnyH_take (i:=0) (oi:=_) (v:=_) rfl (by kernel_rfl) (by kernel_rfl) (by kernel_rfl) (fun _ _ _ h=>h) (Or.inl ⟨rfl,fun w hS=>by first | (go_simp; done) | (go_simp; rfl)⟩) hS0 ?_;simp only [zV,List.setIfInBounds_toArray];refine wpAnyH_take (i:=1) (oi:=_) (v:=_) rfl (by kernel_rfl) (by kernel_rfl) (by kernel_rfl) (fun _ _ _ h=>h) (Or.inl ⟨rfl,fun w hS=>by first | (go_simp; done) | (go_simp; rfl)⟩) hS0 ?_;simp only [zV];refine wpAnyH_take (i:=2) (oi:=_) (v:=_) rfl (by kernel_rfl) (by kernel_rfl) (by kernel_rfl) (fun _ _ _ h=>h) (Or.inl ⟨rfl,fun w hS=>by first | (go_simp; done) | (go_simp; rfl)⟩) hS0 ?_;simp only [zV];refine wpAnyH_take (i:=3) (oi:=_) (v:=_) rfl (by kernel_rfl) (by kernel_rfl) (by kernel_rfl) (fun _ _ _ h=>h) (Or.inl ⟨rfl,fun w hS=>Q0n 221 _ rfl g 68 8 rfl 224 _ S.vals _ hS Tryz.underlying221 rfl rfl rfl (fun j hj=>by rw [Q40 _ _ _ _ _ _ _ _ hj]; rw [<- Array.getElem?_toList]; exact(Qau S j hj).symm)⟩) hS0 ?_;simp only [zV];refine wpAnyH_take (i:=4) (oi:=_) (v:=_) rfl (by kernel_rfl) (by kernel_rfl) (by kernel_rfl) (fun _ _ _ h=>h) (Or.inl ⟨rfl,fun w hS=>by first | (go_simp; done) | (go_simp; rfl)⟩) hS0 ?_;simp only [zV];refine wpAnyH_take (i:=5) (oi:=_) (v:=_) rfl (by kernel_rfl) (by kernel_rfl) (by kernel_rfl) (fun _ _ _ h=>h) (Or.inl ⟨rfl,fun w hS=>by first | (go_simp; done) | (go_simp; rfl)⟩) hS0 ?_;simp only [zV];refine wpAnyH_take (i:=6) (oi:=_) (v:=_) rfl (by kernel_rfl) (by kernel_rfl) (by kernel_rfl) (fun _ _ _ h=>h) (Or.inl ⟨rfl,fun w hS=>by first | (go_simp; done) | (go_simp; rfl)⟩) hS0 ?_;simp only [zV];refine wpAnyH_take (i:=7) (oi:=_) (v:=_) rfl (by kernel_rfl) (by kernel_rfl) (by kernel_rfl) (fun _ _ _ h=>h) (Or.inl ⟨rfl,fun w hS=>Q0n 222 _ rfl g 76 64 rfl 224 _ (rng 64 (fun j=>vb (b j))) _ hS Tryz.underlying222 rfl rfl (Q0q _ _) (fun j hj=>by rw [hash_b _ _ _ _ _ _ _ _ hj,Q15 _ _ _ hj])⟩) hS0 ?_;simp only [zV];refine wpAnyH_ready (rs:=[8,9]) (by kernel_rfl) (by simp) ?_;refine AllReadyH.cons rfl (fun K hK=>?_) (AllReadyH.cons rfl (fun K hK=>?_) AllReadyH.nil)
  ·go_simp
   refine hK.out _ _ (hB.alloc _).drew (fun _=>?_);clear hK K;refine wpAnyH_ready (rs:=[9]) (by kernel_rfl) (by simp) ?_;refine AllReadyH.cons rfl (fun K hK=>?_) AllReadyH.nil
   go_simp
   refine hK.out _ _ ((hB.alloc _).alloc _).drew (fun _=>?_);clear hK K;refine wpAnyH_ready (rs:=[10]) (by kernel_rfl) (by simp) ?_;refine AllReadyH.cons rfl (fun K hK=>?_) AllReadyH.nil;refine Q1y rfl 221 _ _ rfl w1.heap.size 0 S.vals rfl rfl 221 _ ((Blk.newAt rfl).alloc _).drew rfl (by simp [St.vals]) (Q92 S) ?_;intro W5 hT5 hB5;have hh5:=hT5.blk ((hB.alloc _).alloc _).drew (by omega);have hb5:=hT5.blk (k:=(w1.heap.size+1)) (t:=222) (Blk.newAt (by simp)).drew (by omega);have hbe5:=hT5.below (((zN w1.heap.size w1).alloc (zL _) _).alloc (by simp) _).drew (by omega);refine hK.out _ _ hh5 (fun _=>?_);clear hK K;refine wpAnyH_ready (rs:=[11]) (by kernel_rfl) (by simp) ?_;refine AllReadyH.cons rfl (fun K hK=>?_) AllReadyH.nil;refine Q1y rfl 222 _ _ rfl (w1.heap.size+1) 0 (rng 64 (fun j=>vb (b j))) rfl rfl 222 _ hb5 (by rw [Q0q]; rfl) (by rw [Q0q]; simp) (by simp [rng,vb,Value.oneCell']) ?_;intro W6 hT6 hB6;refine hK.out _ _ (hT6.blk hh5 (by omega)) (fun _=>?_);refine wpAnyH_done (by kernel_rfl) ?_ _;rw [Q0a _ _ (by simp [St.vals])] at hB5;rw [Q0a _ _ (by rw [Q0q]; simp)] at hB6;go_wp2_with fail
   go_meet
   exact⟨w1.heap.size,(w1.heap.size+1),rfl,rfl,by omega,by omega,hT6.blk hB5 (by omega),hB6,hT6.below hbe5 (by omega)⟩
  go_simp
  refine hK.out _ _ (hB.alloc _).drew (fun _=>?_);clear hK K;refine wpAnyH_ready (rs:=[8]) (by kernel_rfl) (by simp) ?_;refine AllReadyH.cons rfl (fun K hK=>?_) AllReadyH.nil
  go_simp
  refine hK.out _ _ ((hB.alloc _).alloc _).drew (fun _=>?_);clear hK K;refine wpAnyH_ready (rs:=[10]) (by kernel_rfl) (by simp) ?_;refine AllReadyH.cons rfl (fun K hK=>?_) AllReadyH.nil;refine Q1y rfl 221 _ _ rfl (w1.heap.size+1) 0 S.vals rfl rfl 221 _ (Blk.newAt (by simp)).drew rfl (by simp [St.vals]) (Q92 S) ?_;intro W5 hT5 hB5;have hh5:=hT5.blk ((hB.alloc _).alloc _).drew (by omega);have hb5:=hT5.blk (k:=w1.heap.size) (t:=222) ((Blk.newAt rfl).alloc _).drew (by omega);have hbe5:=hT5.below (((zN w1.heap.size w1).alloc (zL _) _).alloc (by simp) _).drew (by omega);refine hK.out _ _ hh5 (fun _=>?_);clear hK K;refine wpAnyH_ready (rs:=[11]) (by kernel_rfl) (by simp) ?_;refine AllReadyH.cons rfl (fun K hK=>?_) AllReadyH.nil;refine Q1y rfl 222 _ _ rfl w1.heap.size 0 (rng 64 (fun j=>vb (b j))) rfl rfl 222 _ hb5 (by rw [Q0q]; rfl) (by rw [Q0q]; simp) (by simp [rng,vb,Value.oneCell']) ?_;intro W6 hT6 hB6;refine hK.out _ _ (hT6.blk hh5 (by omega)) (fun _=>?_);refine wpAnyH_done (by kernel_rfl) ?_ _;rw [Q0a _ _ (by simp [St.vals])] at hB5;rw [Q0a _ _ (by rw [Q0q]; simp)] at hB6;go_wp2_with fail
  go_meet
  exact⟨(w1.heap.size+1),w1.heap.size,rfl,rfl,by omega,by omega,hT6.blk hB5 (by omega),hB6,hT6.below hbe5 (by omega)⟩
 obtain⟨gs,gb,rfl,rfl,hgs,hgb,hBs,hBb,hbel⟩:=hcut;have hBh:=HB.out.below hbel (by omega);have hBr:=HRB.out.below hbel (by omega);have c140:=(hBh.cell 140).trans (Q3d _ _ _ _ _ _ _);have hnsb:=hBs.ne_ hBb (by decide);have hr1:=fun W=>Q3B (P:=zJ) (t:=222) (e:=5) (n:=64) rfl rfl ⟨gb,0,none⟩ p.length (p.length:Int) rfl hpl W
 rw [Q0R,zS] at hr1;obtain⟨m,hm⟩:∃ m,64 - p.length=m+1:=⟨63 - p.length,by omega⟩;rw [hm] at hr1;have HM:=sH hm;have HBs:=sH hBs;have HBb:=sH hBb;have HBh:=sH hBh;have HBr:=sH hBr;have HBE:=sH hbel;clear hBs hBb hBh hBr hbel hm
 go_upto_if 43 with(refine Q2O rfl (.tmp 33) 28 5 rfl gb p.length m (m+1) 222 _ (.int .u8 0) rfl Tryz.underlying28 (Tryz.zeroValue5 _) rfl rfl HBb.out (by rw [Q0q]; have:=HM.out; omega) ?_; intro W2 hT2 hB2; rw [clr_eq b p.length m (by have:=HM.out; omega)] at hB2; have c140b:=((hT2.blk HBh.out (by omega)).cell 140).trans (Q3d _ _ _ _ _ _ _); have cz:=(hB2.cell p.length).trans (Q15 _ _ _ hpl); have fz:=hB2.frozen p.length; have HB2:=sH hB2; clear hB2)
 have hB3:=HB2.out.set_ p.length (.int .u8 128);rw [pad_set b p HBB.out] at hB3;have hT3:=hT2.trans (Q06.setCell W2 ⟨gb,p.length,none⟩ (.int .u8 128));generalize W2.setCell ⟨gb,p.length,none⟩ (.int .u8 128)=W3 at hB3 hT3 ⊢;have hBe3:=hT3.below HBE.out hgb;have hBh3:=hT3.blk HBh.out (by omega);have hBs3:=hT3.blk HBs.out hnsb;clear c140 c140b cz fz hr1 HB2 hT2
 go_cut [50] (fun _s50 wx=>∃ (S':St) (base:Nat->UInt8),Blk wx gs 221 S'.vals/\Blk wx gb 222 (rng 64 (fun j=>vb (base j)))/\Q22 S p l.length=Q0o S' (Q24 (lenF base l.length))/\zD w1.heap.size w1 wx)
 case first =>
  by_cases h56:56<=p.length
  ·have hby:Q4e W3 ⟨gb,0,none⟩ (Q24 (padF p)):=by
    intro j hj;have hj':j<64:=by rw [Q2C] at hj; exact hj
    rw [Q0R,zS,hB3.cell,Q15 _ _ _ hj',Q5o]
   have hwk:=Q6k hBh3;have HT:=sH (Q7n S _ ⟨gb,0,none⟩ ⟨g,4,none⟩ W3.drew (Q2C _) hby hwk hB3.lt hBh3.lt);have hq:=(Q6d hBs3).1;have hvs:=Q1U (Q0o S (Q24 (padF p)));have hgsl:=hBs3.lt;have hgbl:=hB3.lt;have HBs3:=sH hBs3;have HB3:=sH hB3;have HBe3:=sH hBe3;have HT3:=sH hT3;clear hBs3 hB3 hby hwk hBh3 hBe3 hT3
   go_wp2
   go_region_law (go_simp; go_at_call 154; refine HT.out.mono ?_; rintro _ w4 ⟨rfl,hb4⟩; have hst4:=(Q6u (P:=zJ) (Q0o S (Q24 (padF p))) (HBs3.out.drew.below hb4 hgsl)))
   have h5:=Q9k (Q0o S (Q24 (padF p))) (HBs3.out.drew.below hb4 hgsl);have hB5:=h5.2.blk (HB3.out.drew.below hb4 hgbl) (Ne.symm hnsb);have hE5:=h5.2.below (HBe3.out.trans ((zN _ W3).drew.trans (hb4.mono (by have:=HBe3.out.size; exact this)))) hgs;generalize (w4.setCells gs 0 (Q0o S (Q24 (padF p))).vals.toList)=W5 at h5 hB5 hE5 ⊢;have h50:=h5.1;clear h5 hst4 hq hvs;have HB5:=sH hB5;clear hB5;go_wp2_with (refine Q2O rfl (.tmp 49) 28 5 rfl gb 0 63 64 222 _ (.int .u8 0) rfl Tryz.underlying28 (Tryz.zeroValue5 _) rfl rfl HB5.out (by rw [Q0q]; omega) ?_; intro W6 hT6 hB6)
   rw [clr_eq (padF p) 0 63 (by omega)] at hB6;go_meet
   exact⟨Q0o S (Q24 (padF p)),fun _=>0,hT6.blk h50 hnsb,hB6,last_hi S p l.length h56 hpl,hT6.below hE5 hgb⟩
  go_wp2_with fail
  go_meet
  exact⟨S,padF p,hBs3,hB3,last_lo S p l.length (by omega),hBe3⟩
 obtain⟨S',base,hBs,hBb,hlast,hbe⟩:=hcut;clear hBs3 hB3 hBe3 hBh3 hT3;have hBh:=HB.out.below hbe (by omega);have hBr:=HRB.out.below hbe (by omega);have HLA:=sH hlast;clear hlast;go_wp2_with fail
 go_loopw [50] (fun i wr=>∃ k:Nat,k<=8/\i=.int .i64 k/\Blk wr gb 222 (rng 64 (fun j=>vb (Q8X base l.length k j)))/\Q06 gb wc wr) (fun i _=>8 - (intOf i).toNat)
 case atStart=>exact⟨0,by omega,rfl,by rw [Q9I]; exact hBb,Q06.refl _ _⟩
 obtain⟨k,hk,rfl,hBk,hTk⟩:=hrel;by_cases hk8:k<8
 ·have c141:=((hTk.blk hBh (by omega)).cell 141).trans (Q7L _ _ _ _ _ _ _);have e1:((63:Int) - (k:Int)).toNat=63 - k:=by omega
  have cz:=(hBk.cell (63 - k)).trans (Q15 _ _ _ (by omega));have fz:=hBk.frozen (63 - k);unfold vb at cz;have HBk:=sH hBk;have HTk:=sH hTk;clear hBk hTk hBb hBs hBh hBr
  go_wp2
  go_roundw
  case measure=>simp [intOf]; omega
  have h2:=HBk.out.set_ (63 - k) (vb (UInt8.ofNat (8*l.length / 2 ^ (8*k))));rw [Q9X base l.length k hk8] at h2;rw [len_val l.length k hk8];exact⟨k+1,by omega,by go_num,h2,HTk.out.trans (Q06.setCell wr ⟨gb,63 - k,none⟩ _)⟩
 obtain rfl:k=8:=by omega
 rw [lenTo_8] at hBk;have hB3:=hBk;have hBs3:=hTk.blk hBs hnsb;have hBh3:=hTk.blk hBh (by omega);have hBr3:=hTk.blk hBr (by omega);have hBe3:=hTk.below hbe hgb;clear hBk hBs hBh hBr hbe hBb;have hby:Q4e wr ⟨gb,0,none⟩ (Q24 (lenF base l.length)):=by
  intro j hj;have hj':j<64:=by rw [Q2C] at hj; exact hj
  rw [Q0R,zS,hB3.cell,Q15 _ _ _ hj',Q5o]
 have hwk:=Q6k hBh3;have HT:=sH (Q7n S' _ ⟨gb,0,none⟩ ⟨g,4,none⟩ wr.drew (Q2C _) hby hwk hB3.lt hBh3.lt);have hq:=(Q6d hBs3).1;have hvs:=Q1U (Q0o S' (Q24 (lenF base l.length)));have hgsl:=hBs3.lt;have hghl:=hBh3.lt;have hgrl:=hBr3.lt;have HBs3:=sH hBs3;have HBh3:=sH hBh3;have HBr3:=sH hBr3;have HBe3:=sH hBe3;clear hBs3 hB3 hby hwk hBh3 hBe3 hBr3 hTk
 go_wp2
 go_region_law (go_simp; go_at_call 154; refine HT.out.mono ?_; rintro _ w4 ⟨rfl,hb4⟩; have hst4:=(Q6u (P:=zJ) (Q0o S' (Q24 (lenF base l.length))) (HBs3.out.drew.below hb4 hgsl)))
 have h5:=Q9k (Q0o S' (Q24 (lenF base l.length))) (HBs3.out.drew.below hb4 hgsl);have hB5:=h5.2.blk (HBh3.out.drew.below hb4 hghl) (by omega);have hR5:=h5.2.blk (HBr3.out.drew.below hb4 hgrl) (by omega);have hE5:=h5.2.below (HBe3.out.trans ((zN _ wr).drew.trans (hb4.mono (by have:=HBe3.out.size; exact this)))) hgs;have h50:=h5.1;clear h5 hst4 hq hvs;generalize (w4.setCells gs 0 (Q0o S' (Q24 (lenF base l.length))).vals.toList)=W5 at h50 hB5 hR5 hE5 ⊢;rw [<- HLA.out] at h50;have h50L:=sH h50;have hB5L:=sH hB5;have hR5L:=sH hR5;have hE5L:=sH hE5;clear h50 hB5 hR5 hE5
 go_wp2
 have hD:=Blk.newAt (w:=W5) (t:=51) (cs:=rng 32 z8) rfl;have hh6:=(hB5L.out).alloc (.cells (rng 32 z8) 51);have hs6:=(h50L.out).alloc (.cells (rng 32 z8) 51);have hr6:=(hR5L.out).alloc (.cells (rng 32 z8) 51);have hE6:=(hE5L.out).alloc hE5L.out.size (.cells (rng 32 z8) 51);have hR:rng 32 z8=zU 32 (.int .u8 0):=(Q3Q (by simp) fun j hj=>by simp [z8,hj]).symm;have hlit:zU 32 (Value.int .u8 0)=#[.int .u8 0,.int .u8 0,.int .u8 0,.int .u8 0,.int .u8 0,.int .u8 0,.int .u8 0,.int .u8 0,.int .u8 0,.int .u8 0,.int .u8 0,.int .u8 0,.int .u8 0,.int .u8 0,.int .u8 0,.int .u8 0,.int .u8 0,.int .u8 0,.int .u8 0,.int .u8 0,.int .u8 0,.int .u8 0,.int .u8 0,.int .u8 0,.int .u8 0,.int .u8 0,.int .u8 0,.int .u8 0,.int .u8 0,.int .u8 0,.int .u8 0,.int .u8 0]:=rfl;rw [hR,hlit] at hD hh6 hs6 hr6 hE6;have hsz5:=hE5L.out.size;obtain⟨gd,hgd⟩:∃ gd,gd=W5.heap.size:=⟨_,rfl⟩;rw [<- hgd] at hD hsz5 ⊢;have hgs5:=h50L.out.lt;have hgg5:=hB5L.out.lt;have hgr5:=hR5L.out.lt;rw [<- hgd] at hgs5 hgg5 hgr5;have HGD:=sH hgd;clear hgd;generalize W5.alloc _=W6 at hD hh6 hs6 hr6 hE6 ⊢;rw [<- hlit,<- hR] at hD;clear hR hlit;go_loopw [72] (fun i wr=>∃ k:Nat,k<=32/\i=.int .i64 k/\Blk wr gd 51 (rng 32 (fun j=>if j<k then vb ((outB (Q22 S p l.length)).getD j 0) else .int .u8 0))/\Q06 gd W6 wr) (fun i _=>32 - (intOf i).toNat)
 case atStart=>exact⟨0,by omega,rfl,by rw [show rng 32 (fun j=>if j<0 then vb ((outB (Q22 S p l.length)).getD j 0) else .int .u8 0)=rng 32 z8 from Q10 fun j _=>by rw [if_neg (by omega)]; rfl]; exact hD,Q06.refl _ _⟩
 obtain⟨k,hk,rfl,hBk,hTk⟩:=hrel;by_cases hk8:k<32
 ·have e1:((k:Int) / 4).toNat=k / 4:=by omega
  have e2:((24:Int) - 8*((k:Int) % 4)).toNat=24 - 8*(k % 4):=by omega
  have cs0:=((hTk.blk hs6 (by omega)).cell (k / 4)).trans (vals_at' (Q22 S p l.length) (k / 4) (by omega));have cd0:=(hBk.cell k).trans (Q15 _ _ _ hk8);have fd0:=hBk.frozen k;rw [if_neg (by omega)] at cd0;have HBk:=sH hBk;have HTk:=sH hTk;clear hBk hTk hD hh6 hs6 hr6 hE6
  go_wp2
  go_roundw
  case rel =>have h2:=HBk.out.set_ k (vb ((outB (Q22 S p l.length)).getD k 0));rw [dig_next _ k] at h2;rw [outB_get _ k hk8] at h2;exact⟨k+1,by omega,by go_num,h2,HTk.out.trans (Q06.setCell wr ⟨gd,k,none⟩ _)⟩
  case measure=>simp [intOf]; omega
 obtain rfl:k=32:=by omega
 have hBk2:Blk wr gd 51 (bRow (outB (Q22 S p l.length))):=by rw [dig_full]; exact hBk
 have hr7:=hTk.blk hr6 (by omega);have hh7:=hTk.blk hh6 (by omega);have hE7:=hTk.below hE6 hsz5;have hbs:=Q2l (outB (Q22 S p l.length));rw [Q4X] at hbs;have hall:=Q0Q (outB (Q22 S p l.length));have HD:=sH (show outB (Q22 S p l.length)=Q14 l by rw [Q14,HA.out]);have HBk:=sH hBk2;have HHr7:=sH hr7;have HHh7:=sH hh7;have HE7:=sH hE7;have HHall:=sH hall;have HBS:=sH hbs;clear hBk hTk hD hh6 hs6 hr6 hE6 hBk2 hr7 hh7 hE7 hall hbs;go_wp2_with (first | (refine Q01 rfl 51 _ rfl gd 0 32 rfl 51 _ (bRow (outB (Q22 S p l.length))) _ HBk.out Tryz.underlying51 rfl rfl HBS.out (fun _ _=>by rw [zS]) ?_) | (refine Q00 rfl 51 _ _ rfl w.heap.size 0 (bRow (outB (Q22 S p l.length))) rfl rfl 51 _ HHr7.out (by rw [HBS.out]; rfl) (by rw [HBS.out]; simp) HHall.out ?_; intro W8 hT8 hB8))
 rw [Q0a _ _ (by rw [HBS.out]; simp)] at hB8;refine bodyPost_ret (Q03 rfl _ _ w.heap.size 32 51 _ _ rfl hB8 Tryz.underlying51 rfl rfl HBS.out) rfl ⟨?_,?_,?_⟩
 ·rw [HD.out]; rfl
 ·have h9:=hT8.blk HHh7.out (by omega);have ha:=HA.out;refine⟨b,?_,?_⟩
  ·rw [ha]; exact h9
  rw [ha]; exact HBB.out
 exact Q8h (hg2.trans (Q0v HE7.out (some g))) hT8 (zL _)
end
section
open Go.RowKit
theorem Q2p:(Tryz.prog.info? 5).map (fun i=>(i.zero,i.size,i.bytes))=some (some (.int .u8 0),1,1):=by kernel_rfl
def OwnB (w:zA) (base:Nat) (v:zB) (xs:List UInt8):Prop:=w.ownsRow base 5 1 v xs.length (xs.map vb)
theorem Q0m {w:zA} {B:Nat} {v:zB} {xs:List UInt8} (h:OwnB w B v xs):∃ A c,v=.slice A xs.length c/\xs.length<=c/\c<=maxLen/\Q04 w w.heap.size 1 A xs.length (xs.map vb)/\(∀ ad,A=some ad->B<=ad.block):=by
 have hr:=fun A c (hv:v=.slice A xs.length c)=>Q04.of_own (A:=A) (c:=c) (by rw [<- hv]; exact h)
 rcases h.2 with⟨rfl,h0⟩ | ⟨g,cap,cur,rfl,hg,_,h1,h2,_⟩
 ·exact⟨none,0,by rw [h0],by omega,by unfold maxLen; omega,hr none 0 (by rw [h0]),fun _ h=>by cases h⟩
 exact⟨_,cap,rfl,h1,h2,hr _ _ rfl,fun ad h=>by injection h with h; subst h; exact hg⟩
theorem OwnB.reads {w:zA} {B:Nat} {A:Option Addr} {n c:Nat} {xs:List UInt8} (h:OwnB w B (.slice A n c) xs):n=xs.length/\n<=c/\c<=maxLen/\Q04 w w.heap.size 1 A n (xs.map vb)/\(∀ ad,A=some ad->B<=ad.block):=by
 obtain⟨A',c',e,h1,h2,h3,h4⟩:=Q0m h;injection e with e1 e2 e3
 subst e1 e2 e3;exact⟨rfl,h1,h2,h3,h4⟩
theorem OwnB.nil (w:zA) (B:Nat):OwnB w B (.slice none 0 0) []:=⟨by simp,.inl ⟨rfl,by simp⟩⟩
theorem OwnB.ge {w:zA} {B b:Nat} {v:zB} {xs:List UInt8} (h:OwnB w B v xs) (hb:v.ownBlock=some b):B<=b:=by
 rcases h.2 with⟨rfl,_⟩ | ⟨g,cap,cur,rfl,hg,_⟩
 ·simp [zE] at hb
 simp [zE] at hb; omega
theorem OwnB.lt {w:zA} {B b:Nat} {v:zB} {xs:List UInt8} (h:OwnB w B v xs) (hb:v.ownBlock=some b):b<w.heap.size:=by
 rcases h.2 with⟨rfl,_⟩ | ⟨g,cap,cur,rfl,hg,hh,_⟩
 ·simp [zE] at hb
 simp [zE] at hb; subst hb;rcases Nat.lt_or_ge g w.heap.size with h | h
 ·exact h
 rw [Array.getElem?_eq_none h] at hh; cases hh
theorem OwnB.keep {w w':zA} {B:Nat} {v:zB} {xs:List UInt8} (h:OwnB w B v xs) (hk:∀ b,v.ownBlock=some b->w'.heap[b]?=w.heap[b]?):OwnB w' B v xs:=by
 refine⟨h.1,?_⟩;rcases h.2 with h0 | ⟨g,cap,cur,rfl,hg,hh,h1⟩
 ·exact .inl h0
 exact .inr ⟨g,cap,cur,rfl,hg,(hk g rfl).trans hh,h1⟩
theorem OwnB.below {w w':zA} {B:Nat} {v:zB} {xs:List UInt8} (h:OwnB w B v xs) (hb:zD w.heap.size w w'):OwnB w' B v xs:=h.keep fun b hv=>hb.block b (h.lt hv)
theorem OwnB.more {w:zA} {B B':Nat} {v:zB} {xs:List UInt8} (h:OwnB w B v xs) (hB:B'<=B):OwnB w B' v xs:=by
 refine⟨h.1,?_⟩;rcases h.2 with h0 | ⟨g,cap,cur,rfl,hg,hh,h1⟩
 ·exact .inl h0
 exact .inr ⟨g,cap,cur,rfl,by omega,hh,h1⟩
theorem Q0i {B:Nat} {w0 w w':zA} {row:Option Nat} (hb:zD B w0 w) (hB:B<=w.heap.size) (hg:w.grownBy w' row) (hr:∀ b,row=some b->B<=b):zD B w0 w' :=hb.trans ((zN B w).grown hg hB hr)
theorem Q7w (A:Option Addr) (n c:Nat) (xs:List UInt8) (w:zA) (B:Nat) (h:Q04 w B 1 A n (xs.map vb)) (hB:B<=w.heap.size) (hn:n<=140737488355328) :
 zF zJ 19 #[.slice A n c] w fun e w'=>∃ v,e=.returned v/\OwnB w' w.heap.size v xs/\zD w.heap.size w w':=by
 have hxn:xs.length=n:=by have:=h.1; simpa using this
 have HXN:=sH hxn;clear hxn;go_enter Tryz.func19,Tryz.ntmps19
 obtain⟨i0,hi0,hz0,hz1,hz2⟩:=info_parts Q2p;go_wp2_with (at_builtin; go_must (refine Q05 _ rfl (.tmp 4) (.tmp 5) 28 rfl w.heap.size 5 i0 _ 1 1 Tryz.underlying28 hi0 hz0 hz1 hz2 rfl (by omega) (.slice none 0 0) 0 [] rfl ⟨by simp,.inl ⟨rfl,rfl⟩⟩ B A n c (xs.map vb) rfl h ?c1 ?c2 ?c3 ?c4 ?_))
 case c1=>intro u hu; obtain⟨x,_,rfl⟩:=List.mem_map.1 hu; rfl
 case c2=>unfold maxLen; omega
 case c3=>omega
 case c4=>omega
 intro v1 w1 hown1 hg1 hor
 go_wp2
 go_ret
 refine⟨v1,rfl,?_,(zN _ _).grown hg1 (zL _) (fun b hb=>by simp [zE] at hb)⟩;unfold OwnB;rw [HXN.out];simpa using hown1
end
section
open Go.RowKit Go.Maps
def klit (d:List UInt8):Lit:=.string (keyBytes (d.map fun b=>.int .u8 (bi b)))
theorem Q7C:WideMaps.ArrKey zJ 51 5 32:=⟨Tryz.underlying51,by kernel_rfl,by kernel_rfl,by kernel_rfl⟩
theorem Q4V:Keyed zJ 51:=Keyed.of_law Q7C.law
theorem Q9v:Keyed zJ 9:=string_keyed Tryz.underlying9
theorem Q7U:∃ m,Tryz.prog.types.size=m+1:=⟨Tryz.prog.types.size - 1,by have:0<Tryz.prog.types.size:=of_decide_eq_true (by kernel_rfl); omega⟩
theorem Q5S (d:List UInt8) (D:Nat):∀ (L:List Nat),(∀ i∈L,i<d.length) ->
 L.mapM (fun i=>Tryz.prog.keyLits (D+1) 5 (((d.map vb).drop (i*1)).take 1))=some (L.map fun i=>[Lit.int .u8 (bi (d.getD i 0))])
 | [],_=>rfl
 | i :: L,h=>by
  have hi:=h i (List.mem_cons_self ..);have ih:=Q5S d D L (fun j hj=>h j (List.mem_cons_of_mem _ hj));rw [List.mapM_cons,ih];have e:((d.map vb).drop (i*1)).take 1=[vb (d.getD i 0)]:=by rw [Nat.mul_one,List.take_one,List.head?_drop,zG,Q1T _ _ hi]; rfl
  rw [e];simp only [List.map_cons];generalize d.getD i 0=b;have hw:(Lit.int .u8 (bi b)).wf=true:=by have h1:=bi_lo b;have h2:=bi_hi b;simp [Lit.wf,IntKind.min,IntKind.max,IntKind.signed,IntKind.bits]; omega
  simp [Program.keyLits,Tryz.underlying5,vb,hw]
theorem Q3T (d:List UInt8) (h:d.length=32):keyOf zJ 51 (.agg (bRow d))=some (klit d):=by
 have hk:=Q7C.keyType Q7U;have hf:Value.formed zJ 51 (.agg (bRow d))=true:=by simp only [Value.formed,Tryz.underlying51];rw [Q2l,h,Q7C.size]; rfl
 obtain⟨m,hm⟩:=Q7U;have hl:(bRow d).toList.length=Tryz.prog.cellsOf 51:=by rw [Q7C.size]; simp [bRow,h]
 unfold keyOf;simp only [Tryz.underlying51,hk,hf,Bool.and_self,if_true,Value.cells];rw [hm];unfold Program.keyLits;simp only [Tryz.underlying51,Q7C.one];rw [if_pos hl,show (bRow d).toList=d.map vb from rfl,Q5S d m (List.range 32) (fun i hi=>by rw [h]; exact List.mem_range.1 hi)];simp only [Option.map_some,klit];have hfl:∀ (L:List Nat),(L.map fun i=>[Lit.int .u8 (bi (d.getD i 0))]).flatten=L.map fun i=>Lit.int .u8 (bi (d.getD i 0)):=by
  intro L
  induction L with
  | nil=>rfl
  | cons a l ih=>rw [List.map_cons,List.flatten_cons,ih]; rfl
 rw [hfl];refine congrArg some (congrArg Lit.string (congrArg keyBytes ?_));apply List.ext_getElem?
 intro i;rcases Nat.lt_or_ge i 32 with hi | hi
 ·rw [zG,zI hi,zG,Q1T _ _ (by omega)]; rfl
 rw [zH (by simpa using hi),zH (by simp; omega)]
theorem Q99 {d e:List UInt8} (hd:d.length=32) (he:e.length=32) (h:klit d=klit e):d=e:=by
 have h1:=Q3T d hd;have h2:=Q3T e he;rw [h] at h1;have h3:bRow d=bRow e:=Value.agg.inj (Q4V.inj h1 h2);have h4:d.map vb=e.map vb:=by have:=congrArg Array.toList h3;simpa [bRow] using this
 exact List.map_inj_right (fun a b=>vb_inj) |>.1 h4
theorem Qb0 (l:List UInt8) (h:l.length<=maxLen):keyOf zJ 9 (.string ⟨l.toArray⟩)=some (.string l):=by unfold keyOf;simp only [Tryz.underlying9,mapKey];rw [if_pos (by simpa [ByteArray.size] using h)]
theorem Q9n (d:List UInt8):WideAt.IsKeyLit (klit d):=trivial
def Q0F (l:LL) (d:List UInt8):Option (List UInt8):=l.find? (fun y=>Q14 y == d)
def Q2E (l:LL):LL:=l.filter (fun x=>Q0F l (Q14 x) != some x)
def Q0V (l:LL) (x:List UInt8):LL:=if x∈l then l else l++[x]
theorem Q4j (l:LL) (x:List UInt8):(Q0V l x).length<=l.length+1:=by unfold Q0V; split <;> simp
theorem Q7V {l:LL} {d y:List UInt8} (h:Q0F l d=some y):y∈l/\Q14 y=d:=by unfold Q0F at h;exact⟨List.mem_of_find?_eq_some h,by have:=List.find?_some h; simpa using this⟩
theorem Q5U {l:LL} {x:List UInt8} (h:x∈l):∃ y,Q0F l (Q14 x)=some y:=by
 unfold Q0F;cases hf:l.find? (fun y=>Q14 y == Q14 x) with
 | some y=>exact⟨y,rfl⟩
 | none =>have:=List.find?_eq_none.1 hf x h;simp at this
theorem Q1Q (l:LL) (x d:List UInt8):Q0F (l++[x]) d=(Q0F l d).or (if Q14 x=d then some x else none):=by
 unfold Q0F;rw [List.find?_append];congr 1
 by_cases h:Q14 x=d <;> simp [h]
theorem Q8f {l:LL} {x:List UInt8} (h:Q0F l (Q14 x)=none):x∉l:=fun hx=>by obtain⟨y,hy⟩:=Q5U hx;rw [h] at hy;cases hy
structure Q2s (l:LL) (D1 D2:DataW Unit):Prop where
 nodup:l.Nodup
 has1:∀ d,d.length=32->Maps.has D1 (klit d)=(Q0F l d).isSome
 at1:∀ d y z,d.length=32->Q0F l d=some y->D1.atKey (klit d) z=.lit (.string y)
 has2:∀ x,Maps.has D2 (.string x)=decide (x∈Q2E l)
 size2:Maps.size D2=(Q2E l).length
 size:Maps.size D1+Maps.size D2=l.length
theorem Q2s.start:Q2s [] (.map []) (.map []) where
 nodup:=List.nodup_nil
 has1:=fun d _=>rfl
 at1:=fun d y z _ h=>by simp [Q0F] at h
 has2:=fun x=>rfl
 size2:=rfl
 size:=rfl
theorem Q2s.fresh {l:LL} {D1 D2:DataW Unit} (h:Q2s l D1 D2) (t1:Tidy D1) (x:List UInt8) (hx:Q0F l (Q14 x)=none) :
 Q2s (Q0V l x) (D1.put (klit (Q14 x)) (.lit (.string x))) D2:=by
 have hn:=Q8f hx;have hadd:Q0V l x=l++[x]:=by unfold Q0V; rw [if_neg hn]
 have hmore:Q2E (l++[x])=Q2E l:=by
  unfold Q2E;rw [List.filter_append];have e1:[x].filter (fun y=>Q0F (l++[x]) (Q14 y) != some y)=[]:=by rw [List.filter_cons,Q1Q,hx]; simp
  rw [e1,List.append_nil];apply List.filter_congr
  intro y hy;obtain⟨z,hz⟩:=Q5U hy;rw [Q1Q,hz]; simp
 have hl:=Q3e x;rw [hadd];refine⟨?_,fun d hd=>?_,fun d y z hd hy=>?_,fun y=>?_,?_,?_⟩
 ·rw [List.nodup_append];refine⟨h.nodup,by simp,fun a ha b hb=>?_⟩;have:b=x:=by simpa using hb
  subst this;exact fun e=>hn (e▸ha)
 ·rw [Q1Q];by_cases e:d=Q14 x
  ·subst e;rw [has_put_same t1.isMap (Q9n _),hx,if_pos rfl]; rfl
  rw [has_put_other (fun k=>e (Q99 hd hl k)),h.has1 d hd,if_neg (fun k=>e k.symm),Option.or_none]
 ·rw [Q1Q] at hy;by_cases e:d=Q14 x
  ·subst e;rw [hx,if_pos rfl] at hy;have:x=y:=by simpa using hy
   subst this;exact atKey_put_same t1.isMap (Q9n _) _ _
  rw [if_neg (fun k=>e k.symm),Option.or_none] at hy;rw [atKey_put_other (fun k=>e (Q99 hd hl k))];exact h.at1 d y z hd hy
 ·rw [hmore]; exact h.has2 y
 ·rw [hmore]; exact h.size2
 have hs:=size_put (k:=klit (Q14 x)) t1 (DataW.lit (.string x));rw [h.has1 _ hl,hx] at hs;simp only [Option.isSome_none,Bool.false_eq_true,if_false] at hs;rw [hs,zM];have:=h.size
 simp; omega
theorem Q2s.same {l:LL} {D1 D2:DataW Unit} (h:Q2s l D1 D2) (x:List UInt8) (hx:Q0F l (Q14 x)=some x):Q2s (Q0V l x) D1 D2:=by have:=(Q7V hx).1;unfold Q0V;rw [if_pos this];exact h
theorem Q2s.other {l:LL} {D1 D2:DataW Unit} (h:Q2s l D1 D2) (t2:Tidy D2) (x y:List UInt8) (hx:Q0F l (Q14 x)=some y) (hne:y≠x) :
 Q2s (Q0V l x) D1 (D2.put (.string x) (.lit (.bool true))):=by
 have hk:WideAt.IsKeyLit (.string x):=trivial;have hs:=size_put (k:=.string x) t2 (DataW.lit (H:=Unit) (.bool true));have hh:∀ z,Maps.has (D2.put (.string x) (.lit (.bool true))) (.string z)=(decide (z=x) || decide (z∈Q2E l)):=fun z=>by
  by_cases e:z=x
  ·subst e; rw [has_put_same t2.isMap hk]; simp
  rw [has_put_other (fun k=>e (by injection k)),h.has2]; simp [e]
 by_cases hm:x∈l
 ·have hmo:x∈Q2E l:=by
   unfold Q2E;rw [List.mem_filter];exact⟨hm,by rw [hx]; simpa using hne⟩
  have hadd:Q0V l x=l:=by unfold Q0V; rw [if_pos hm]
  rw [hadd];rw [h.has2,decide_eq_true hmo] at hs;simp only [if_true] at hs;refine⟨h.nodup,h.has1,h.at1,fun z=>?_,by rw [hs]; exact h.size2,by rw [hs]; exact h.size⟩;rw [hh];by_cases e:z=x
  ·subst e; simp [hmo]
  simp [e]
 have hadd:Q0V l x=l++[x]:=by unfold Q0V; rw [if_neg hm]
 have hfirst:∀ d,Q0F (l++[x]) d=Q0F l d:=fun d=>by
  rw [Q1Q];by_cases e:Q14 x=d
  ·subst e; rw [hx]; rfl
  rw [if_neg e,Option.or_none]
 have hmore:Q2E (l++[x])=Q2E l++[x]:=by
  unfold Q2E;rw [List.filter_append];congr 1
  ·apply List.filter_congr
   intro z _;rw [hfirst]
  rw [List.filter_cons,hfirst,hx];have:(some y != some x)=true:=by simpa using hne
  rw [this]; rfl
 have hno:x∉Q2E l:=fun hmo=>hm (by unfold Q2E at hmo; exact(List.mem_filter.1 hmo).1)
 rw [h.has2,decide_eq_false hno] at hs;simp only [Bool.false_eq_true,if_false] at hs;rw [hadd];refine⟨?_,fun d hd=>by rw [hfirst]; exact h.has1 d hd,fun d y z hd hy=>by rw [hfirst] at hy; exact h.at1 d y z hd hy,fun z=>?_,?_,?_⟩
 ·rw [List.nodup_append];refine⟨h.nodup,by simp,fun a ha b hb=>?_⟩;have:b=x:=by simpa using hb
  subst this;exact fun e=>hm (e▸ha)
 ·rw [hh,hmore];by_cases e:z=x
  ·subst e; simp
  simp [e]
 ·rw [hs,hmore,zM,h.size2]; rfl
 rw [hs,zM];have:=h.size
 simp; omega
end
section
open Go.RowKit
theorem zeros32:rng 32 z8=#[.int .u8 0,.int .u8 0,.int .u8 0,.int .u8 0,.int .u8 0,.int .u8 0,.int .u8 0,.int .u8 0,.int .u8 0,.int .u8 0,.int .u8 0,.int .u8 0,.int .u8 0,.int .u8 0,.int .u8 0,.int .u8 0,.int .u8 0,.int .u8 0,.int .u8 0,.int .u8 0,.int .u8 0,.int .u8 0,.int .u8 0,.int .u8 0,.int .u8 0,.int .u8 0,.int .u8 0,.int .u8 0,.int .u8 0,.int .u8 0,.int .u8 0,.int .u8 0]:=rfl
theorem QaU (A:Option Addr) (n c:Nat) (xs:List UInt8) (w:zA) (B:Nat) (h:Q04 w B 1 A n (xs.map vb)) (hB:B<=w.heap.size) (hc:n<=c) (hcm:c<=maxLen) :
 zF zJ 124 #[.slice A n c] w fun e w'=>e=.returned (.agg (bRow (Q14 xs)))/\zD w.heap.size w w':=by
 have hxn:xs.length=n:=by have:=h.1; simpa using this
 have h1:Q04 w w.heap.size 1 A n (xs.map vb):=h.more hB;go_enter Tryz.func124,Tryz.ntmps124
 go_wp2_with fail
 have hWb:zD w.heap.size w (w.alloc (.cells (rng 32 z8) 51)):=(zN _ _).alloc (zL _) _;have hWr:=Blk.new w 51 (rng 32 z8);have hWs:(w.alloc (.cells (rng 32 z8) 51)).heap.size=w.heap.size+1:=by simp
 rw [zeros32] at hWb hWr hWs;generalize w.alloc _=W at hWb hWr hWs ⊢;refine(new_any W).mono ?_;rintro _ w1 ⟨rfl,hH1,hb1,hs1⟩;obtain⟨g,hg⟩:∃ g,g=W.heap.size:=⟨_,rfl⟩;rw [<- hg] at hH1 hb1 hs1 hWs ⊢;have hsz:w.heap.size<g/\g<w1.heap.size:=by omega
 obtain⟨hsz1,hsz2⟩:=hsz;have hn1:Q3C w1 g []:=.inr ⟨rfl,hH1⟩;have hR1:=(h1.below hWb).below (hb1.mono (by omega));have hS1:Src w1 g A n xs:=Src.of_below hR1 (by omega) (by omega);have hbb1:=hWb.trans (hb1.mono (by omega));have hWr1:=hWr.below hb1 (by omega);have HN:=sH hn1;have HS:=sH hS1;have HBB:=sH hbb1;have HR:=sH hWr1;clear hH1 hn1 hR1 hS1 hbb1 hWr1 hWb hWr hb1 h h1 hs1 hWs hg;have HXN:=sH hxn;clear hxn;go_wp2_with fail
 refine(Qbg g [] xs A n c w1 HN.out HS.out hc hcm (by unfold maxLen at hcm ⊢; simp; omega)).mono ?_;rintro _ w2 ⟨rfl,hH2,hg2⟩;rw [List.nil_append] at hH2;have hR2:=HR.out.grown hg2 (by intro e; injection e with e; omega);have hb2:=(HBB.out).trans ((zN w.heap.size w1).grown hg2 (by omega) (fun k hk=>by injection hk with hk; omega));have hs2:=hg2.size;have HH2:=sH (Q3C.lt (.inl hH2));have HN:=sH hH2;have HR:=sH hR2;have HBB:=sH hb2;clear hH2 hR2 hb2 hg2;go_wp2_with fail
 refine(sum_any g xs w2 (.inl HN.out) (by rw [HXN.out]; omega)).mono ?_;rintro _ w3 ⟨rfl,hH3,hg3⟩;have hR3:=HR.out.grown hg3 (by intro e; injection e with e; omega);have hb3:=(HBB.out).trans ((zN w.heap.size w2).grown hg3 (by omega) (fun k hk=>by injection hk with hk; omega));have hs3:=hg3.size;have HR:=sH hR3;have HBB:=sH hb3;clear hH3 hR3 hb3 hg3;have hbs:=Q2l (Q14 xs);rw [Q3e] at hbs;have HBS:=sH hbs;have HON:=sH (Q0Q (Q14 xs));clear hbs;go_wp2_with (first
  | (refine Q00 rfl 51 (.tmp 4) (.tmp 15) rfl w3.heap.size 0 (bRow (Q14 xs)) rfl rfl 51 _ (Blk.newAt rfl) (by rw [HBS.out]; rfl) (by rw [HBS.out]; simp) HON.out ?_; intro W4 hT4 hB4; rw [Q0a _ _ (by rw [HBS.out]; simp)] at hB4; have hR4:=hT4.blk (HR.out.alloc _) (by omega); have hE4:=hT4.below (HBB.out.alloc (by omega) _) (by omega))
  | (refine Q01 rfl 51 (.tmp 4) rfl w3.heap.size 0 32 rfl 51 _ (bRow (Q14 xs)) _ hB4 Tryz.underlying51 rfl rfl HBS.out (fun _ _=>by rw [zS]) ?_)
  | (refine Q00 rfl 51 (.tmp 2) (.tmp 17) rfl w.heap.size 0 (bRow (Q14 xs)) rfl rfl 51 _ hR4 (by rw [HBS.out]; rfl) (by rw [HBS.out]; simp) HON.out ?_; intro W5 hT5 hB5; rw [Q0a _ _ (by rw [HBS.out]; simp)] at hB5))
 refine bodyPost_ret (Q0y rfl _ _ w.heap.size 32 51 _ _ rfl hB5 Tryz.underlying51 rfl rfl HBS.out) rfl ⟨rfl,hT5.below hE4 (by omega)⟩
theorem Blk.beside {w w':zA} {g k:Nat} {t:TypeId} {cs:Array zB} (h:Blk w g t cs) (hg:w.grownBy w' (some k)) (hne:g≠k):Blk w' g t cs:=(hg.block g h.lt (fun e=>hne (by injection e))).trans h
theorem Blk.below' {w w':zA} {g:Nat} {t:TypeId} {cs:Array zB} (h:Blk w g t cs) (hb:zD w.heap.size w w'):Blk w' g t cs:=h.below hb h.lt
end
end Go.Proofs.YtckjnbjiafgibaaGreat
