/- Parts of the proof, in one text. -/
import Derived.Test.YtckjnbjiafgibaaGreatL5
import Derived.Test.YtckjnbjiafgibaaGreatL1
import Derived.Laws.EntriesVeiled
import Derived.BigRegion
import Derived.Test.YtckjnbjiafgibaaGreatRows
import Derived.Test.YtckjnbjiafgibaaGreatL4
namespace Go.Proofs.YtckjnbjiafgibaaGreat
set_option linter.unusedVariables false
set_option linter.unusedSimpArgs false
set_option maxRecDepth 100000
set_option maxHeartbeats 16000000
open _root_.Go renaming World->zA,Value->zB,Calls->zF
open _root_.Go.Act renaming put->zO
open _root_.Go.Proofs.Tryz renaming prog->zH
open _root_.Go.RowKit renaming Below->zD
open _root_.Go.RowKit.Below renaming refl->zJ
open _root_.Go.World renaming cell?_of_block->zK,block_lt_of_cell?->zM
open _root_.List renaming getElem?_eq_getElem->zC,getElem?_map->zG,replicate->zL,take_of_length_le->zN,length_set->zP,take_succ_eq_append_getElem->zQ
open _root_.Nat renaming eq_zero_or_pos->zE,le_refl->zI
section
open Go.RowKit Go.Maps
structure Q9E (w wr:zA) (k:Book) (L:LL) (asked:Nat) (ls:LL) (v:zB) (gs cs:Nat->Nat):Prop where
 row:wr.ownsRow w.heap.size 139 1 v 3 ((List.range 3).map fun j=>.slice (some ⟨gs j,0,none⟩) (lv ls j).length (cs j))
 dig:∀ j,j<=2->Q1X wr (gs j) (cs j) (lv ls j)
 new:∀ j,j<=2->w.heap.size<=gs j
 ne:∀ i j,i<j->j<=2->gs i≠gs j
 book:∃ L' a',Q0h wr k L' a'/\a'<=asked+8/\(∀ x,x∈L->x∈L')/\(∀ p,p<grps ls.length->upIn (grp (lv ls 0) p)∈L')/\upIn (lv ls 1)∈L'
 only:Q0b k w wr
theorem Q9E.of_st {w w1 wr:zA} {k:Book} {L:LL} {asked:Nat} {ls:LL} {v:zB} {gs cs:Nat->Nat} {g0 c:Nat} (hb:zD w.heap.size w w1) (hg:w.heap.size<=g0) (h:LvSt w1 wr k L asked ls g0 c 2 gs cs v):Q9E w wr k L asked ls v gs cs:=by
 obtain⟨L',a',h1,h2,h3,h4,h5⟩:=h.book;have hs:=hb.size;refine⟨?_,h.dig,fun j hj=>?_,h.ne,⟨L',a',h1,by omega,h3,h4 (by omega),h5 (by omega)⟩,(Q0b.of_below hb).trans h.only⟩
 ·rcases h.row.2 with hv | ⟨g,cap,cur,hv,q2,q3,q4⟩
  ·exact⟨h.row.1,.inl hv⟩
  exact⟨h.row.1,.inr ⟨g,cap,cur,hv,by omega,q3,q4⟩⟩
 rcases zE j with e | e
 ·subst e; rw [h.g0]; exact hg
 have:=h.new j e hj; omega
theorem lv_rep (n:Nat):lv (zL n []) 0=zL n (Q2y []):=by simp [lv]
theorem QaZ (k:Book) (L:LL) (asked b2 g6 b3 n:Nat) (w:zA) (hbk:Q0h w k L asked) (hn:n=13\/n=6) (has:asked<=800000)
 (h2:w.cell? ⟨b2,0,none⟩=some (.pointer (some ⟨k.g,0,none⟩))) (h6:Blk w g6 51 (bRow (Q2y []))) (h3:w.cell? ⟨b3,0,none⟩=some (.int .i64 (n:Int))) :
 zF zH 94 #[.pointer (some ⟨b2,0,none⟩),.pointer (some ⟨g6,0,none⟩),.pointer (some ⟨b3,0,none⟩)] w fun e w'=>∃ v gs cs,e=.returned v/\Q9E w w' k L asked (zL n []) v gs cs:=by
 have l2:=zM _ _ h2;have l3:=zM _ _ h3;have H2:=sH (fun(W:zA) (hb:zD w.heap.size w W)=>(hb.cell l2).trans h2);have H3:=sH (fun(W:zA) (hb:zD w.heap.size w W)=>(hb.cell l3).trans h3);have H6:=sH (fun(W:zA) (hb:zD w.heap.size w W)=>h6.below' hb);have HBK:=sH hbk;have hds:(bRow (Q2y [])).size=32:=Q0S (Q2n []);have hdl:=Q2n [];have hn2:5<=n/\n<=16:=by omega
 obtain⟨e,he⟩:∃ e,e=Q2y []:=⟨_,rfl⟩;rw [<- he] at H6 hds hdl;have HE:=sH he;have hdo:=Q0Q e;have HDL:=sH hdl;obtain⟨D,hD⟩:∃ D,D=bRow e:=⟨_,rfl⟩;rw [<- hD] at H6 hds hdo;have HD:=sH hD;have HDS:=sH hds;clear h2 h3 h6 hbk he hD hdl;go_enter Tryz.func94,Tryz.ntmps94
 go_upto_region 1 with fail
 refine Q17 5 10 (fun j W v=>match j with
  | 0=>v=.pointer (some ⟨k.g,0,none⟩)
  | 1=>v=.agg D
  | 2=>∃ g,v=.slice (some ⟨g,0,none⟩) 1 1/\Blk W g 51 D
  | 3=>v=.int .i64 (n:Int)
  | _=>∃ g,v=.slice (some ⟨g,0,none⟩) n n/\Q1X W g n (zL n e)/\w.heap.size<=g) [4,5,6,7,8] (by kernel_rfl) (by kernel_rfl) (by kernel_rfl) (by simp) (by kernel_rfl) (fun j=>?last) ?heads ?_
 case last =>
  match j with
  | 0 | 1 | 3=>exact Q2w.pure _
  | 2=>exact fun W W' v ⟨g,h1,h2⟩ hb=>⟨g,h1,h2.below' hb⟩
  | j+4=>exact fun W W' v ⟨g,h1,h2,h3⟩ hb=>⟨g,h1,h2.keep (hb.block g h2.lt),h3⟩
 case heads =>
  simp only [tT];refine⟨?_,?_,?_,?_,?_,trivial⟩;all_goals intro a W hb hkp hd
  ·have e0:(_:zB)=.pointer (some ⟨b2,0,none⟩):=sK hkp 0;have cc:=H2.out W hb;exact sV
  ·have e0:a.eval (.tmp 1)=.pointer (some ⟨g6,0,none⟩):=hkp.at_ (by kernel_rfl);exact Q0E rfl (.agg D) (Q0n 51 (.tmp 1) rfl g6 0 32 e0 51 D D _ (H6.out W hb) Tryz.underlying51 rfl rfl HDS.out (fun _ _=>by rw [Nat.zero_add])) rfl
  ·have e1:=sJ (hd 1) 5;refine Q3m rfl (.slice (some ⟨W.heap.size,0,none⟩) 1 1) (W.alloc (.cells D 51)) (by go_simp; rw [Q9c _ D 32 rfl HDS.out]) ((zJ _ _).alloc (zI _) _) ⟨W.heap.size,rfl,Blk.new W _ _⟩
  ·have e0:(_:zB)=.pointer (some ⟨b3,0,none⟩):=sK hkp 2;have cc:=H3.out W hb;exact sV
  obtain⟨g',e2,hr⟩:∃ g,a.tmps[6]?.getD undef=.slice (some ⟨g,0,none⟩) 1 1/\Blk W g 51 D:=(sG (hd 2) 6:);have e3:=sJ (hd 3) 7;refine Q1m rfl 96 #[.slice (some ⟨g',0,none⟩) 1 1,.int .i64 (n:Int)] (by go_simp) ((Q9Y g' n e W hn HDL.out (by rw [<- HD.out]; exact hr)).mono ?_);rintro e' w' ⟨g'',rfl,h1,h2,h3⟩;exact⟨_,rfl,h3,g'',rfl,h1,by have:=hb.size; omega⟩
 intro f W hb hd;have h0:f 4=.pointer (some ⟨k.g,0,none⟩):=hd 0 (by omega) _ 4 rfl rfl;obtain⟨g',h8,hdg,hgw⟩:∃ g,f 8=.slice (some ⟨g,0,none⟩) n n/\Q1X W g n (zL n e)/\w.heap.size<=g:=hd 4 (by omega) _ 8 rfl rfl;have hdg':Q1X W g' n (lv (zL n []) 0):=by rw [lv_rep,<- HE.out]; exact hdg
 have hbw:=HBK.out.below hb;have hlt:=HBK.out.lt;have hlv:=Qac k L asked g' n n (zL n []) W hbw hdg' (by rintro (e | e | e) <;> omega) (by simp; omega) (by simp; omega) (by simp) has;have HLV:=sH hlv;have HB:=sH hb;simp only [Q19,tU,h0,h8];clear hd hdg hdg' hbw hlv hb;try simp only [zO,sA]
 go_wp2_with fail
 refine HLV.out.mono ?_;rintro _ w3 ⟨v,gs,cs,rfl,hst⟩;go_wp2_with fail
 go_ret
 exact⟨_,gs,cs,rfl,Q9E.of_st HB.out hgw hst⟩
def Q2f (k:Book) (n:Nat) (d m:Int) (fv all:zB):Array zB:=#[.pointer (some ⟨k.g,0,none⟩),.int .i64 (n:Int),.int .u32 d,.int .i32 m,.int .u32 0,fv,all]
def Q1Y (b2 g6 b3:Nat):zB:=.func (.func 94) #[] #[.pointer (some ⟨b2,0,none⟩),.pointer (some ⟨g6,0,none⟩),.pointer (some ⟨b3,0,none⟩)]
structure Q1M (w:zA) (k:Book) (b2 g6 b3 n:Nat):Prop where
 h2:w.cell? ⟨b2,0,none⟩=some (.pointer (some ⟨k.g,0,none⟩))
 h6:Blk w g6 51 (bRow (Q2y []))
 h3:w.cell? ⟨b3,0,none⟩=some (.int .i64 (n:Int))
theorem Q1M.keep {w w':zA} {k:Book} {b2 g6 b3 n:Nat} (h:Q1M w k b2 g6 b3 n) (h2:w'.heap[b2]?=w.heap[b2]?) (h6:w'.heap[g6]?=w.heap[g6]?) (h3:w'.heap[b3]?=w.heap[b3]?):Q1M w' k b2 g6 b3 n :=⟨(zK h2).trans h.h2,h6.trans h.h6,(zK h3).trans h.h3⟩
theorem Q1M.lt {w:zA} {k:Book} {b2 g6 b3 n:Nat} (h:Q1M w k b2 g6 b3 n):b2<w.heap.size/\g6<w.heap.size/\b3<w.heap.size:=⟨zM _ _ h.h2,h.h6.lt,zM _ _ h.h3⟩
theorem Q1M.below {w w':zA} {k:Book} {b2 g6 b3 n:Nat} (h:Q1M w k b2 g6 b3 n) (hb:zD w.heap.size w w'):Q1M w' k b2 g6 b3 n :=h.keep (hb.block _ h.lt.1) (hb.block _ h.lt.2.1) (hb.block _ h.lt.2.2)
def Q4F (w w':zA) (k:Book) (L:LL) (asked n:Nat) (v:zB):Prop:=∃ W1 W2 gs cs,zD w.heap.size w W1/\Q9E W1 W2 k L asked (zL n []) v gs cs/\zD W2.heap.size W2 w'
theorem Q8W (k:Book) (L:LL) (asked t b2 g6 b3 n:Nat) (pl:Addr) (w:zA) (d m:Int) (all:zB) (hn:n=13\/n=6) (has:asked<=800000)
 (hbk:Q0h w k L asked) (hB:Blk w t 153 (Q2f k n d m (Q1Y b2 g6 b3) all)) (hp:w.cell? pl=some (.pointer (some ⟨t,0,none⟩))) (hf:Q1M w k b2 g6 b3 n) (htk:¬ k.has t) (hpk:¬ k.has pl.block) :
 zF zH 114 #[.pointer (some pl)] w fun e w'=>e=.returned (.tuple #[])/\∃ W v,Q4F w W k L asked n v/\w'=W.setCell ⟨t,6,none⟩ v:=by
 have hpl:=zM _ _ hp;have htl:=hB.lt;have HP:=sH (fun(W:zA) (h:Only k.has w W)=>(h.cell hpl hpk).trans hp);have HT:=sH (fun(W:zA) (h:Only k.has w W)=>(h.blk hB htk));have HBK:=sH hbk;have HF:=sH hf;have HG:=sH (fun(W:zA) (h:Q4F w W k L asked n all)=>h);have hG2:∀ W v,Q4F w W k L asked n v->Only k.has w W:=fun W v ⟨W1,W2,gs,cs,h1,h2,h3⟩=>((Only.of_below h1).trans (Only.of_book h2.only)).trans (Only.of_below h3)
 have HO:=sH hG2;clear hbk hB hp hf hG2;go_enter Tryz.func114,Tryz.ntmps114
 refine Q0T 8 9 (fun j W v=>match j with
  | 0=>v=.pointer (some ⟨t,0,none⟩)
  | 1=>v=.pointer (some ⟨t,0,none⟩)
  | 2=>v=.pointer (some ⟨t,0,none⟩)
  | 3=>v=.pointer (some ⟨t,5,none⟩)
  | 4=>v=Q1Y b2 g6 b3
  | 5=>Q4F w W k L asked n v
  | 6=>v=.pointer (some ⟨t,0,none⟩)
  | _=>v=.pointer (some ⟨t,6,none⟩)) (fun s W=>if s=0 then zD w.heap.size w W else ∃ v,Q4F w W k L asked n v) (fun _ _=>True) [5] [1,2,3,4,5,6,7,8] (by kernel_rfl) (by kernel_rfl) (by kernel_rfl) (by kernel_rfl) (by simp) (by kernel_rfl) (fun j=>?last) ?lastR ?jay (zJ _ _) ?heads ?_
 case last =>
  match j with
  | 0 | 1 | 2 | 3 | 4 | 6 | j+7=>exact Q2w.pure _
  | 5=>exact fun W W' v ⟨W1,W2,gs,cs,h1,h2,h3⟩ hb=>⟨W1,W2,gs,cs,h1,h2,h3.trans (hb.mono h3.size)⟩
 case lastR =>
  intro s j W W' v hsl hs hj hp _;match j with
  | 0 | 1 | 2 | 3 | 4 | 6 | j+7=>exact hp
  | 5 =>
   exfalso
   exact hs 0 (by simp at hsl; omega) rfl
 case jay =>
  intro s W W' hj hb;split at hj
  ·rw [if_pos (by assumption)];exact hj.trans (hb.mono hj.size)
  rw [if_neg (by assumption)];obtain⟨v,W1,W2,gs,cs,h1,h2,h3⟩:=hj;exact⟨v,W1,W2,gs,cs,h1,h2,h3.trans (hb.mono h3.size)⟩
 case heads =>
  have HJ:=sH (show ∀ (s:Nat) (W:zA),(if s=0 then zD w.heap.size w W else ∃ v,Q4F w W k L asked n v)->Only k.has w W from fun s W hj=>by
   split at hj
   ·exact Only.of_below hj
   obtain⟨v,hv⟩:=hj; exact HO.out W v hv)
  simp only [tT];refine⟨?_,?_,?_,?_,?_,?_,?_,?_,trivial⟩
  all_goals try(rw [if_neg (by decide)];intro s a W hj hkp hd)
  iterate 2 ·have e0:(_:zB)=.pointer (some pl):=sK hkp 0;have cc:=HP.out W (HJ.out s W hj);exact sV
  ·have e0:=sJ (hd 1) 2;exact sV
  ·have e0:=sJ (hd 2) 3;exact sV
  ·have e0:=sJ (hd 3) 4;have cc:W.cell? ⟨t,5,none⟩=some (Q1Y b2 g6 b3):=((HT.out W (HJ.out s W hj)).cell 5).trans rfl;exact sV
  ·rw [if_pos (by decide)];intro s a W hs hj hkp hd;have e0:=sJ (hd 4) 5;obtain rfl:s=0:=by
    have:=(List.getElem?_eq_some_iff.1 hs).1;simp at this; omega
   rw [if_pos rfl] at hj;have hf:=HF.out.below hj;unfold Q1Y at e0;refine Q3a rfl 94 #[.pointer (some ⟨b2,0,none⟩),.pointer (some ⟨g6,0,none⟩),.pointer (some ⟨b3,0,none⟩)] (by go_simp) ((QaZ k L asked b2 g6 b3 n W (HBK.out.below hj) hn has hf.h2 hf.h6 hf.h3).mono ?_);rintro e w' ⟨v,gs,cs,rfl,hlv⟩;have hg:Q4F w w' k L asked n v:=⟨W,w',gs,cs,hj,hlv,zJ _ _⟩;exact⟨v,rfl,trivial,by simp only [Nat.zero_add,Nat.one_ne_zero,if_false]; exact⟨v,hg⟩,hg⟩
  ·have e0:=sJ (hd 0) 1;exact sV
  have e0:=sJ (hd 6) 7;exact sV
 intro f W hj hd;have h6:Q4F w W k L asked n (f 6):=hd 5 (by omega) _ 6 rfl rfl;have h8:f 8=.pointer (some ⟨t,6,none⟩):=hd 7 (by omega) _ 8 rfl rfl;have hB:=HT.out W (HO.out W _ h6);have cc:W.cell? ⟨t,6,none⟩=some all:=(hB.cell 6).trans rfl;have ff:=hB.frozen 6;obtain⟨v,hv⟩:∃ v,v=f 6:=⟨_,rfl⟩;rw [<- hv] at h6;obtain⟨A,c,hsv⟩:∃ A c,v=.slice A 3 c:=by obtain⟨W1,W2,gs,cs,h1,h2,h3⟩:=h6;exact Qa6 h2.row
 have HG6:=sH h6;have HV:=sH hv;simp only [Q19,tU,h8,<- hv];subst hsv;clear hd hj hB h6 hv;try simp only [zO,sA]
 go_wp2_with fail
 go_end0
 exact⟨rfl,W,_,HG6.out,rfl⟩
end
section
open Go.RowKit Go.Maps
attribute [local irreducible] wpList
theorem Q64 (k:Book) (n:Nat) (d m m':Int) (fv all:zB):(Q2f k n d m fv all).setIfInBounds 3 (.int .i32 m')=Q2f k n d m' fv all:=by simp [Q2f]
theorem Q9S (k:Book) (n:Nat) (d d' m:Int) (fv all:zB):(Q2f k n d m fv all).setIfInBounds 2 (.int .u32 d')=Q2f k n d' m fv all:=by simp [Q2f]
theorem Q9O (k:Book) (n:Nat) (d m:Int) (fv all all':zB):(Q2f k n d m fv all).setIfInBounds 6 all'=Q2f k n d m fv all':=by simp [Q2f]
def Q8p (w w':zA) (k:Book) (L:LL) (asked n t:Nat) (fv v:zB):Prop:=∃ W1 W2 W3 gs cs,Only (fun b=>b=t) w W1/\Q9E W1 W2 k L asked (zL n []) v gs cs/\zD W2.heap.size W2 W3/\Q06 t W3 w'/\Blk w' t 153 (Q2f k n 1 0 fv v)
theorem QaO (k:Book) (L:LL) (asked t b2 g6 b3 n:Nat) (pl:Addr) (w:zA) (all:zB) (hn:n=13\/n=6) (has:asked<=800000)
 (hbk:Q0h w k L asked) (hB:Blk w t 153 (Q2f k n 0 0 (Q1Y b2 g6 b3) all)) (hp:w.cell? pl=some (.pointer (some ⟨t,0,none⟩))) (hf:Q1M w k b2 g6 b3 n) (htk:¬ k.has t) (hpk:¬ k.has pl.block) (hpt:pl.block≠t) (ht:b2≠t/\g6≠t/\b3≠t) :
 zF zH 128 #[.pointer (some ⟨t,2,none⟩),.func (.func 114) #[] #[.pointer (some pl)]] w fun e w'=>e=.returned (.tuple #[])/\∃ v,Q8p w w' k L asked n t (Q1Y b2 g6 b3) v:=by
 have c1:w.cell? ⟨t,2,none⟩=some (.int .u32 0):=(hB.cell 2).trans rfl;have c2:w.cell? ⟨t,3,none⟩=some (.int .i32 0):=(hB.cell 3).trans rfl;have f2:=hB.frozen 3;have hB1:=hB.set_ 3 (.int .i32 1);rw [Q64] at hB1;have hT1:=Q06.setCell w ⟨t,3,none⟩ (.int .i32 1);have hp1:(w.setCell ⟨t,3,none⟩ (.int .i32 1)).cell? pl=some (.pointer (some ⟨t,0,none⟩)):=(hT1.cell hpt).trans hp;have c11:(w.setCell ⟨t,3,none⟩ (.int .i32 1)).cell? ⟨t,2,none⟩=some (.int .u32 0):=(hB1.cell 2).trans rfl;have hl:=run_call_load (P:=zH) Tryz.func144 (by kernel_rfl) (by kernel_rfl) (by kernel_rfl) .u32 (by kernel_rfl) c11;have hnot:∀ (x:Bool) (w:zA),(Op.unary .not (.bool x)).run zH w=.ok (.bool (!x)) w:=fun _ _=>rfl
 have ho1:Only (fun b=>b=t) w (w.setCell ⟨t,3,none⟩ (.int .i32 1)):=Only.of_turned hT1 rfl;have hbk1:=hbk.only ho1 (fun e=>htk (.inl e.symm)) (fun e=>htk (.inr (.inl e.symm))) (fun e=>htk (.inr (.inr e.symm)));have hf1:=hf.keep (ho1.block _ hf.lt.1 ht.1) (ho1.block _ hf.lt.2.1 ht.2.1) (ho1.block _ hf.lt.2.2 ht.2.2);have HR:=sH (Q8W k L asked t b2 g6 b3 n pl _ 0 1 all hn has hbk1 hB1 hp1 hf1 htk hpk);have HB1:=sH hB1;have HO1:=sH ho1;clear hB1 hT1 hp1 hB hbk1 hf1 ho1 hbk hf
 go_enter_defers Tryz.func128,Tryz.ntmps128
 go_wp2_with (first | (go_at_call 145; refine(Q7Z ⟨t,3,none⟩ _ c2 f2).mono ?_; rintro e w' ⟨rfl,rfl⟩) | (go_at_call 127; go_in))
 refine HR.out.mono ?_;rintro e w1 ⟨rfl,W,v,hg,rfl⟩
 go_wp2
 obtain⟨W1,W2,gs,cs,h1,h2,h3⟩:=hg;have hon:Only k.has (w.setCell ⟨t,3,none⟩ (.int .i32 1)) W:=((Only.of_below h1).trans (Only.of_book h2.only)).trans (Only.of_below h3);have hBW:=hon.blk HB1.out htk;have hB2:=hBW.set_ 6 v;rw [Q9O] at hB2;have hB3:=hB2.drew.set_ 2 (.int .u32 1);rw [Q9S] at hB3;have hB4:=hB3.set_ 3 (.int .i32 0);rw [Q64] at hB4;have hT:Q06 t W (((W.setCell ⟨t,6,none⟩ v).drew.setCell ⟨t,2,none⟩ (.int .u32 1)).setCell ⟨t,3,none⟩ (.int .i32 0)) :=(((Q06.setCell W ⟨t,6,none⟩ v).drewN 1).trans (Q06.setCell _ ⟨t,2,none⟩ _)).trans (Q06.setCell _ ⟨t,3,none⟩ _)
 refine leaves_cons (f:=147) (args:=#[.pointer (some ⟨t,2,none⟩),.bool true]) (by simp) (by simp [go_sem]) ?_;refine(Q3E ⟨t,2,none⟩ (.int .u32 0) .returning _ ((hB2.cell 2).trans rfl) (hB2.frozen 2)).mono ?_;rintro e u' w'' ⟨rfl,rfl,rfl⟩;refine leaves_cons (f:=146) (args:=#[.pointer (some ⟨t,3,none⟩)]) (by simp [settle]) (by simp [go_sem]) ?_;refine(Q3b ⟨t,3,none⟩ _ _ ((hB3.cell 3).trans rfl) (hB3.frozen 3)).mono ?_;rintro e u' w'' ⟨rfl,rfl,rfl⟩;simp only [Leaves,settle];exact⟨_,by simp [results,Tryz.results128],rfl,v,W1,W2,W,gs,cs,HO1.out.trans (Only.of_below h1),h2,h3,hT,hB4⟩
theorem tdo_any (k:Book) (L:LL) (asked t b2 g6 b3 n:Nat) (pl:Addr) (w:zA) (all:zB) (hn:n=13\/n=6) (has:asked<=800000)
 (hbk:Q0h w k L asked) (hB:Blk w t 153 (Q2f k n 0 0 (Q1Y b2 g6 b3) all)) (hp:w.cell? pl=some (.pointer (some ⟨t,0,none⟩))) (hf:Q1M w k b2 g6 b3 n) (htk:¬ k.has t) (hpk:¬ k.has pl.block) (hpt:pl.block≠t) (ht:b2≠t/\g6≠t/\b3≠t) :
 zF zH 113 #[.pointer (some ⟨t,2,none⟩),.func (.func 114) #[] #[.pointer (some pl)]] w fun e w'=>e=.returned (.tuple #[])/\∃ v,Q8p w w' k L asked n t (Q1Y b2 g6 b3) v:=by
 have c1:w.cell? ⟨t,2,none⟩=some (.int .u32 0):=(hB.cell 2).trans rfl;have hl:=run_call_load (P:=zH) Tryz.func144 (by kernel_rfl) (by kernel_rfl) (by kernel_rfl) .u32 (by kernel_rfl) c1;have hnot:∀ (x:Bool) (w:zA),(Op.unary .not (.bool x)).run zH w=.ok (.bool (!x)) w:=fun _ _=>rfl
 have HS:=sH (QaO k L asked t b2 g6 b3 n pl w all hn has hbk hB hp hf htk hpk hpt ht);clear hB hp hf hbk;go_enter Tryz.func113,Tryz.ntmps113
 go_wp2_with (first | (go_at_call 128; refine HS.out.mono ?_; rintro e w1 ⟨rfl,v,hpl⟩; have HPL:=sH hpl; clear hpl) | (go_at_call 127; go_in))
 go_end0
 exact⟨rfl,v,HPL.out⟩
theorem Qad (k:Book) (L:LL) (asked t b2 g6 b3 n:Nat) (w:zA) (all:zB) (hn:n=13\/n=6) (has:asked<=800000)
 (hbk:Q0h w k L asked) (hB:Blk w t 153 (Q2f k n 0 0 (Q1Y b2 g6 b3) all)) (hf:Q1M w k b2 g6 b3 n) (htk:¬ k.has t) (ht:b2≠t/\g6≠t/\b3≠t) :
 zF zH 97 #[.pointer (some ⟨t,0,none⟩)] w fun e w'=>e=.returned (.tuple #[])/\∃ v,Q8p w w' k L asked n t (Q1Y b2 g6 b3) v:=by
 have hmf:∀ (fn:Fn) (first cap:Array zB) (w:zA),(Instr.makeFunc fn first cap).run zH w=.ok (.func fn first cap) w:=fun _ _ _ _=>rfl
 have htl:=hB.lt;have hb0:=Q02 w (.cells #[.pointer (some ⟨t,0,none⟩)] 58);have hp:(w.alloc (.cells #[.pointer (some ⟨t,0,none⟩)] 58)).cell? ⟨w.heap.size,0,none⟩=some (.pointer (some ⟨t,0,none⟩)):=by simp
 have hl:=hbk.lt;have HD:=sH (tdo_any k L asked t b2 g6 b3 n ⟨w.heap.size,0,none⟩ _ all hn has (hbk.below hb0) (hB.below' hb0) hp (hf.below hb0) htk (by rintro (e | e | e) <;> simp at e <;> omega) (by simp; omega) ht);have HB0:=sH hb0;clear hbk hB hf hp hb0;go_enter Tryz.func97,Tryz.ntmps97
 go_wp2_with (go_at_call 113; refine HD.out.mono ?_; rintro e w1 ⟨rfl,v,hpl⟩; have HPL:=sH hpl; clear hpl)
 go_end0
 obtain⟨W1,W2,W3,gs,cs,h1,h2,h3,h4,h5⟩:=HPL.out;exact⟨rfl,v,W1,W2,W3,gs,cs,(Only.of_below HB0.out).trans h1,h2,h3,h4,h5⟩
structure Q18 where
 t:Nat
 r:Nat
 rc:Nat
 gs:Nat->Nat
 cs:Nat->Nat
def Q18.mut (T:Q18) (b:Nat):Prop:=∃ j,j<=2/\b=T.gs j
def Q18.has (T:Q18) (b:Nat):Prop:=b=T.t\/b=T.r\/T.mut b
structure Q1v (w:zA) (T:Q18) (k:Book) (ls:LL):Prop where
 tlt:T.t<w.heap.size
 rlt:T.r<w.heap.size
 c0:w.cell? ⟨T.t,0,none⟩=some (.pointer (some ⟨k.g,0,none⟩))
 c1:w.cell? ⟨T.t,1,none⟩=some (.int .i64 (ls.length:Int))
 c6:w.cell? ⟨T.t,6,none⟩=some (.slice (some ⟨T.r,0,none⟩) 3 T.rc)
 rj:∀ j,j<=2->w.cell? ⟨T.r,j,none⟩=some (.slice (some ⟨T.gs j,0,none⟩) (lv ls j).length (T.cs j))
 dig:∀ j,j<=2->Q1X w (T.gs j) (T.cs j) (lv ls j)
 ne:∀ i j,i<j->j<=2->T.gs i≠T.gs j
 far:¬ T.mut T.t/\¬ T.mut T.r
 book:¬ k.has T.t/\¬ k.has T.r/\∀ j,j<=2->¬ k.has (T.gs j)
 len:5<=ls.length/\ls.length<=16
theorem Q1v.keep {w w':zA} {T:Q18} {k:Book} {ls:LL} (h:Q1v w T k ls) (hs:w.heap.size<=w'.heap.size) (hb:∀ b,T.has b->w'.heap[b]?=w.heap[b]?):Q1v w' T k ls :=
 ⟨by have:=h.tlt; omega,by have:=h.rlt; omega,(zK (hb _ (.inl rfl))).trans h.c0,(zK (hb _ (.inl rfl))).trans h.c1,(zK (hb _ (.inl rfl))).trans h.c6,
  fun j hj=>(zK (hb _ (.inr (.inl rfl)))).trans (h.rj j hj),fun j hj=>(h.dig j hj).keep (hb _ (.inr (.inr ⟨j,hj,rfl⟩))),h.ne,h.far,h.book,h.len⟩
theorem Q1v.lt {w:zA} {T:Q18} {k:Book} {ls:LL} (h:Q1v w T k ls) {b:Nat} (hb:T.has b):b<w.heap.size:=by
 rcases hb with rfl | rfl | ⟨j,hj,rfl⟩
 ·exact h.tlt
 ·exact h.rlt
 exact(h.dig j hj).lt
theorem Q1v.only {w w':zA} {T:Q18} {k:Book} {ls:LL} {N:Nat->Prop} (h:Q1v w T k ls) (ho:Only N w w') (hn:∀ b,T.has b->¬ N b):Q1v w' T k ls :=h.keep ho.size fun b hb=>ho.block b (h.lt hb) (hn b hb)
theorem Q1v.below {w w':zA} {T:Q18} {k:Book} {ls:LL} (h:Q1v w T k ls) (hb:zD w.heap.size w w'):Q1v w' T k ls:=h.keep hb.size fun b hx=>hb.block b (h.lt hx)
theorem Q8u (k:Book) (L:LL) (asked n:Nat) (w:zA) (hbk:Q0h w k L asked) (hn:n=13\/n=6) (has:asked<=700000) :
 zF zH 73 #[.pointer (some ⟨k.g,0,none⟩),.int .i64 (n:Int)] w fun e w'=>∃ T:Q18,e=.returned (.tuple #[.pointer (some ⟨T.t,0,none⟩),.int .i64 0])/\Q1v w' T k (zL n [])/\(∀ b,T.has b->w.heap.size<=b) /\
  (∃ L' a',Q0h w' k L' a'/\a'<=asked+9/\(∀ x,x∈L->x∈L')/\Q1f L' (zL n []))/\Q0b k w w':=by
 have hmf:∀ (fn:Fn) (first cap:Array zB) (w:zA),(Instr.makeFunc fn first cap).run zH w=.ok (.func fn first cap) w:=fun _ _ _ _=>rfl
 have hn2:6<=n/\n<=13:=by omega
 have hn1:¬ (n:Int)<1:=by omega
 have hn1024:¬ (1024:Int)<(n:Int):=by omega
 have HBK:=sH hbk;have hlt:=hbk.lt;obtain⟨b2,hb2⟩:∃ b2,b2=w.heap.size:=⟨_,rfl⟩;obtain⟨b3,hb3⟩:∃ b3,b3=w.heap.size+1:=⟨_,rfl⟩;clear hbk;go_enter Tryz.func73,Tryz.ntmps73
 go_upto_region 1 with fail
 have hX:zD w.heap.size w ((w.alloc (.cells #[.pointer (some ⟨k.g,0,none⟩)] 22)).alloc (.cells #[.int .i64 (n:Int)] 3)):=((zJ _ _).alloc (zI _) _).alloc (by simp) _;have k2:Blk ((w.alloc (.cells #[.pointer (some ⟨k.g,0,none⟩)] 22)).alloc (.cells #[.int .i64 (n:Int)] 3)) w.heap.size 22 #[.pointer (some ⟨k.g,0,none⟩)]:=(Blk.newAt rfl).alloc _;have k3:Blk ((w.alloc (.cells #[.pointer (some ⟨k.g,0,none⟩)] 22)).alloc (.cells #[.int .i64 (n:Int)] 3)) (w.heap.size+1) 3 #[.int .i64 (n:Int)]:=Blk.newAt (by simp);have hz1:((w.alloc (.cells #[.pointer (some ⟨k.g,0,none⟩)] 22)).alloc (.cells #[.int .i64 (n:Int)] 3)).heap.size=w.heap.size+2:=by simp
 generalize (w.alloc (.cells #[.pointer (some ⟨k.g,0,none⟩)] 22)).alloc (.cells #[.int .i64 (n:Int)] 3)=w1 at hX k2 k3 hz1 ⊢;rw [<- hb3] at k3 ⊢;rw [<- hb2] at k2 hz1 ⊢;have hb2w:w.heap.size<=b2:=by omega
 have hb3w:w.heap.size<=b3:=by omega
 have hb23:b2≠b3:=by omega
 have hw1:w.heap.size<=w1.heap.size:=by omega
 have HX:=sH hX;have K2:=sH k2;have K3:=sH k3;have hl2:=k2.lt;have hl3:=k3.lt;clear hb2 hb3 hX k2 k3 hz1;have c3:w1.cell? ⟨b3,0,none⟩=some (.int .i64 (n:Int)):=(K3.out.cell 0).trans rfl;have c2:w1.cell? ⟨b2,0,none⟩=some (.pointer (some ⟨k.g,0,none⟩)):=(K2.out.cell 0).trans rfl;have HLF:=sH (Q93 k L asked none 0 0 [] w1 w1.heap.size (HBK.out.below HX.out) Q04.none_ (zI _) (by omega) (by omega));have HZS:=sH (show inkZ.size=32 by simp [inkZ,bRow]);have HZ:=sH Q23;have hds:(bRow (Q2y [])).size=32:=Q0S (Q2n []);have hdo:=Q0Q (Q2y []);obtain⟨D,hD⟩:∃ D,D=bRow (Q2y []):=⟨_,rfl⟩;rw [<- hD] at HLF hds hdo;have HD:=sH hD;have HDS:=sH hds;have HDO:=sH hdo;clear hD hds hdo;go_wp2_with fail
 refine HLF.out.mono ?_;rintro _ w3 ⟨rfl,hbk3,ho3⟩;have HBK3:=sH hbk3;have HO3:=sH ((Q0b.of_below HX.out).trans ho3);have K23:=sH ((Only.of_book ho3).blk K2.out (by rintro (e | e | e) <;> omega));have K33:=sH ((Only.of_book ho3).blk K3.out (by rintro (e | e | e) <;> omega));have hs3:=ho3.size;clear hbk3 ho3 c2 c3 K2 K3 HLF;go_upto_region 4 with(refine Q00 (o:=⟨none,_,_,_,_,_⟩) rfl 51 (.tmp 6) (.tmp 18) rfl w3.heap.size 0 D rfl rfl 51 inkZ (by rw [HZ.out]; exact Blk.newAt rfl) (by rw [HDS.out]; rfl) (by rw [HDS.out,HZS.out]; omega) HDO.out ?_; intro w4 hT4 hD4; rw [Q0a _ _ (by rw [HDS.out,HZS.out])] at hD4)
 have hb4:zD w3.heap.size w3 w4:=hT4.below ((zJ _ _).alloc (zI _) _) (zI _);have hs4:=hb4.size;have hg6:=hD4.lt;obtain⟨g6,hg6e⟩:∃ g,g=w3.heap.size:=⟨_,rfl⟩;rw [<- hg6e] at hD4 hg6 ⊢;have hg6w:w3.heap.size<=g6:=by omega
 have HBK4:=sH (HBK3.out.below hb4);have HO4:=sH (HO3.out.trans (Q0b.of_below hb4));have K24:=sH (K23.out.below' hb4);have K34:=sH (K33.out.below' hb4);have HD4:=sH hD4;have hk2:=K24.out.lt;have hk3:=K34.out.lt;clear hT4 hD4 hb4 hg6e HBK3 HO3 K23 K33;have c3:w4.cell? ⟨b3,0,none⟩=some (.int .i64 (n:Int)):=(K34.out.cell 0).trans rfl;have c2:w4.cell? ⟨b2,0,none⟩=some (.pointer (some ⟨k.g,0,none⟩)):=(K24.out.cell 0).trans rfl;go_upto_region 7 with fail
 have hb5:=Q02 w4 (.cells (Q2f k n 0 0 .nilFunc (.slice none 0 0)) 153);have hB5:Blk (w4.alloc (.cells (Q2f k n 0 0 .nilFunc (.slice none 0 0)) 153)) w4.heap.size 153 (Q2f k n 0 0 .nilFunc (.slice none 0 0)):=Blk.newAt rfl;have e5:Q2f k n 0 0 .nilFunc (.slice none 0 0)=#[.pointer (some ⟨k.g,0,none⟩),.int .i64 (n:Int),.int .u32 0,.int .i32 0,.int .u32 0,.nilFunc,.slice none 0 0]:=rfl;rw [<- e5];have hz5:(w4.alloc (.cells (Q2f k n 0 0 .nilFunc (.slice none 0 0)) 153)).heap.size=w4.heap.size+1:=by simp
 generalize w4.alloc (.cells (Q2f k n 0 0 .nilFunc (.slice none 0 0)) 153)=w5 at hb5 hB5 hz5 ⊢;obtain⟨t,ht⟩:∃ t,t=w4.heap.size:=⟨_,rfl⟩;rw [<- ht] at hB5 hz5 ⊢;have ht4:w4.heap.size<=t:=by omega
 have HB5:=sH hb5;have HBT:=sH hB5;have htl:=hB5.lt;clear ht hb5 hB5 e5 c2 c3;have c5:w5.cell? ⟨t,5,none⟩=some .nilFunc:=(HBT.out.cell 5).trans rfl;have f5:=HBT.out.frozen 5;go_upto_region 8 with fail
 have hB6:=HBT.out.set_ 5 (Q1Y b2 g6 b3);have hT6:=Q06.setCell w5 ⟨t,5,none⟩ (Q1Y b2 g6 b3);have e6:(Q2f k n 0 0 .nilFunc (.slice none 0 0)).setIfInBounds 5 (Q1Y b2 g6 b3)=Q2f k n 0 0 (Q1Y b2 g6 b3) (.slice none 0 0):=by simp [Q2f]
 rw [e6] at hB6;have e7:Q1Y b2 g6 b3=.func (.func 94) #[] #[.pointer (some ⟨b2,0,none⟩),.pointer (some ⟨g6,0,none⟩),.pointer (some ⟨b3,0,none⟩)]:=rfl;rw [<- e7];generalize w5.setCell ⟨t,5,none⟩ (Q1Y b2 g6 b3)=w6 at hB6 hT6 ⊢;have ho6:Only (fun b=>b=t) w4 w6:=(Only.of_below HB5.out).trans (Only.of_turned hT6 rfl);have hbk6:=HBK4.out.only ho6 (by omega) (by omega) (by omega);have hf6:Q1M w6 k b2 g6 b3 n:=by refine⟨((ho6.blk K24.out (by omega)).cell 0).trans rfl,?_,((ho6.blk K34.out (by omega)).cell 0).trans rfl⟩;have:=ho6.blk HD4.out (show ¬ g6=t by omega);rw [HD.out] at this;exact this
 have HRY:=sH (Qad k (Q0V L (Q1Z [])) (asked+1) t b2 g6 b3 n w6 (.slice none 0 0) hn (by omega) hbk6 hB6 hf6 (by rintro (e | e | e) <;> omega) ⟨by omega,by omega,by omega⟩);have hs6:=ho6.size;have htl6:=hB6.lt;have HO6:=sH (show Q0b k w w6 from⟨ho6.os.trans HO4.out.os,ho6.tape.trans HO4.out.tape,ho6.output.trans HO4.out.output,by omega,fun i hi hn=>(ho6.block i (by omega) (by omega)).trans (HO4.out.block i hi hn)⟩);clear hB6 hT6 e6 e7 ho6 hbk6 hf6 c5 f5 HBT HB5 HBK4 HO4 K24 K34 HD4;go_wp2_with fail
 refine HRY.out.mono ?_;rintro _ w7 ⟨rfl,v,W1,W2,W3,gs,cs,h1,h2,h3,h4,h5⟩;go_wp2_with fail
 go_ret2
 obtain⟨L',a',q1,q2,q3,q4,q5⟩:=h2.book;have hs1:=h1.size;have hs2:=h2.only.size;have hs3:=h3.size;have hs7:=h4.size;obtain⟨r,rc,cur,hv,r2,r3,r4,r5,r6,r7⟩:∃ r rc cur,v=.slice (some ⟨r,0,none⟩) 3 rc/\W1.heap.size<=r/\Blk W2 r 139 cur/\3<=rc/\rc<=maxLen/\cur.size=rc*1/\cur.toList.take (3*1)=(List.range 3).map fun j=>.slice (some ⟨gs j,0,none⟩) (lv (zL n []) j).length (cs j):=by
  rcases h2.row.2 with⟨_,h⟩ | h
  ·omega
  exact h
 subst hv;have hblk:∀ b,b<W2.heap.size->b≠t->w7.heap[b]?=W2.heap[b]?:=fun b hb hn=>(h4.block b hn).trans (h3.block b hb)
 have hls:(zL n ([]:List UInt8)).length=n:=by simp
 refine⟨⟨t,r,rc,gs,cs⟩,rfl,⟨h5.lt,?_,(h5.cell 0).trans rfl,?_,(h5.cell 6).trans rfl,fun j hj=>?_,fun j hj=>?_,h2.ne,⟨?_,?_⟩,⟨?_,?_,fun j hj=>?_⟩,by rw [hls]; omega⟩,?_,⟨L',a',?_,by omega,fun x hx=>q3 x (Q1J hx),?_⟩,?_⟩
 ·show r<w7.heap.size;have:=r3.lt;omega
 ·rw [hls]; exact(h5.cell 1).trans rfl
 ·have hc:=(r3.cell j);have e1:w7.cell? ⟨r,j,none⟩=W2.cell? ⟨r,j,none⟩:=zK (hblk r r3.lt (by omega));show w7.cell? ⟨r,j,none⟩=_;rw [e1,hc,<- Array.getElem?_toList];have e2:(cur.toList.take (3*1))[j]?=some (.slice (some ⟨gs j,0,none⟩) (lv (zL n []) j).length (cs j)):=by
   rw [r7,zG,List.getElem?_range (by omega)]; rfl
  rw [List.getElem?_take,if_pos (by omega)] at e2;exact e2
 ·have hd:=h2.dig j hj;have:=h2.new j hj;exact hd.keep (hblk _ hd.lt (by omega))
 ·rintro ⟨j,hj,e⟩;have:=h2.new j hj;simp only at e;omega
 ·rintro ⟨j,hj,e⟩;simp only at e;obtain⟨cur',hc',_⟩:=(h2.dig j hj).row;rw [<- e] at hc';exact absurd rfl (Blk.ne_ r3 hc' (by decide))
 iterate 2 ·rintro (e | e | e) <;> simp only at e <;> omega
 ·have:=h2.new j hj;rintro (e | e | e) <;> simp only at e <;> omega
 ·rintro b (e | e | ⟨j,hj,e⟩) <;> simp only at e
  iterate 2 ·omega
  have:=h2.new j hj;omega
 ·exact(q1.below h3).only (Only.of_turned h4 (rfl:(fun b=>b=t) t)) (by omega) (by omega) (by omega)
 ·refine⟨fun x hx=>?_,?_,q5⟩
  ·obtain⟨_,rfl⟩:=List.mem_replicate.1 hx;exact q3 _ (Q2Q _ _)
  exact q4
 have ho:=HO6.out;refine⟨h4.os.trans (h3.os.trans (h2.only.os.trans (h1.os.trans ho.os))),h4.tape.trans (h3.tape.trans (h2.only.tape.trans (h1.tape.trans ho.tape))),h4.output.trans (h3.output.trans (h2.only.output.trans (h1.output.trans ho.output))),by omega,fun i hi hn=>?_⟩;rw [hblk i (by omega) (by omega),h2.only.block i (by omega) hn,h1.block i (by omega) (by omega),ho.block i hi hn]
end
section
open Go.RowKit Go.Maps
theorem Q7M (w:zA) (t:Nat) (p:Nat) (h:w.cell? ⟨t,0,none⟩=some (.pointer (some ⟨p,0,none⟩))) :
 zF zH 85 #[.pointer (some ⟨t,0,none⟩)] w fun e w'=>e=.returned (.bool false)/\w=w':=by
 go_enter Tryz.func85,Tryz.ntmps85
 go_wp2
 go_ret
 exact⟨rfl,rfl⟩
end
section
open Go.RowKit Go.Maps
attribute [local irreducible] wpList
def posT (i:Nat):Nat->Nat
 | 0=>i
 | n+1=>posT i n / 4
def dgT (ls':LL) (i:Nat) (x:List UInt8):Nat->List UInt8
 | 0=>Q2y x
 | n+1=>upD (grp (lv ls' n) (posT i (n+1)))
theorem Qb3 (ls':LL) (i:Nat) (x:List UInt8):∀ n,(dgT ls' i x n).length=32
 | 0=>Q2n x
 | n+1=>Q58 _
theorem Q8S (ls:LL) (i:Nat) (x:List UInt8) (h:i<ls.length):∀ n,posT i n<(lv ls n).length/\lv (ls.set i x) n=(lv ls n).set (posT i n) (dgT (ls.set i x) i x n)
 | 0=>⟨by rw [Q5c]; exact h,Qas ls i x⟩
 | n+1=>by
  obtain⟨h1,h2⟩:=Q8S ls i x h n;refine⟨?_,?_⟩
  ·show posT i n / 4<(Q1H (lv ls n)).length;rw [Q2d]; unfold grps; omega
  show Q1H (lv (ls.set i x) n)=(Q1H (lv ls n)).set (posT i n / 4) (upD (grp (lv (ls.set i x) n) (posT i n / 4)));rw [h2];exact Qa3 _ _ _ h1
structure Q8j (w w':zA) (k:Book) (L:LL) (a:Nat):Prop where
 book:Q0h w' k L a
 only:Only k.has w w'
theorem Q8j.below {w w' w'':zA} {k:Book} {L:LL} {a:Nat} (h:Q8j w w' k L a) (hb:zD w'.heap.size w' w''):Q8j w w'' k L a:=⟨h.book.below hb,h.only.trans (Only.of_below hb)⟩
structure Qaa (w w':zA) (k:Book) (L:LL) (a g:Nat) (D:Array zB):Prop where
 book:Q0h w' k L a
 only:Only (fun b=>k.has b\/b=g) w w'
 blk:Blk w' g 51 D
theorem Qaa.below {w w' w'':zA} {k:Book} {L:LL} {a g:Nat} {D:Array zB} (h:Qaa w w' k L a g D) (hb:zD w'.heap.size w' w''):Qaa w w'' k L a g D:=⟨h.book.below hb,h.only.trans (Only.of_below hb),h.blk.below' hb⟩
structure SetSt (w wr:zA) (T:Q18) (k:Book) (L:LL) (asked:Nat) (ls:LL) (i:Nat) (xs:List UInt8) (g7 n:Nat):Prop where
 dig:∀ j,j<=2->Q1X wr (T.gs j) (T.cs j) (if j<n then lv (ls.set i xs) j else lv ls j)
 book:∃ L' a',Q0h wr k L' a'/\a'<=asked+1+min n 2/\(∀ x,x∈L->x∈L')/\Q1Z xs∈L'/\(1<=n->upIn (grp (lv (ls.set i xs) 0) (i / 4))∈L')/\(2<=n->upIn (lv (ls.set i xs) 1)∈L')
 only:Only (fun b=>T.mut b\/k.has b) w wr
 blk:Blk wr g7 51 (bRow (dgT (ls.set i xs) i xs (min n 2)))
theorem Q8O (T:Q18) (k:Book) (ls L:LL) (asked i:Nat) (A:Option Addr) (m c:Nat) (xs:List UInt8) (w:zA) (B:Nat) (hT:Q1v w T k ls) (hbk:Q0h w k L asked) (h:Q04 w B 1 A m (xs.map vb)) (hB:B<=w.heap.size) (hi:i<ls.length) (hm:m<65536) (has:asked<=900000) :
 zF zH 75 #[.pointer (some ⟨T.t,0,none⟩),.int .i64 (i:Int),.slice A m c] w fun e w'=>e=.returned (.int .i64 0)/\Q1v w' T k (ls.set i xs) /\
  (∃ L' a',Q0h w' k L' a'/\a'<=asked+3/\(∀ x,x∈L->x∈L')/\(∀ L0,(∀ x,x∈L0->x∈L)->Q1f L0 ls->Q1f L' (ls.set i xs)))/\Only (fun b=>T.mut b\/k.has b) w w':=by
 have hlen:=hT.len;have HT:=sH hT;have hlt:=hbk.lt;have hbook:=hT.book;have hfar:=hT.far;have htlt:=hT.tlt;have hrlt:=hT.rlt;have hglt:=fun j hj=>(hT.dig j hj).lt
 have HGL:=sH hglt;have HNE:=sH hT.ne;have c0:=hT.c0;have c1:=hT.c1;have HN:=sH (Q7M w T.t k.g hT.c0);have HLF:=sH (Q93 k L asked A m c xs w B hbk h hB hm (by omega));have hiI:(i:Int)<(ls.length:Int):=by omega
 have hi0:¬ (i:Int)<0:=by omega
 have hiL:¬ (ls.length:Int)<=(i:Int):=by omega
 have HZS:=sH (show inkZ.size=32 by simp [inkZ,bRow]);have HZ:=sH Q23;have hC0:∀ W,Only (fun b=>T.mut b\/k.has b) w W->W.cell? ⟨T.t,0,none⟩=some (.pointer (some ⟨k.g,0,none⟩)):=fun W ho=>(ho.cell htlt (by rintro (e | e); exact hfar.1 e; exact hbook.1 e)).trans hT.c0
 have hC6:∀ W,Only (fun b=>T.mut b\/k.has b) w W->W.cell? ⟨T.t,6,none⟩=some (.slice (some ⟨T.r,0,none⟩) 3 T.rc):=fun W ho=>(ho.cell htlt (by rintro (e | e); exact hfar.1 e; exact hbook.1 e)).trans hT.c6
 have hCR:∀ W,Only (fun b=>T.mut b\/k.has b) w W->∀ j,j<=2->W.cell? ⟨T.r,j,none⟩=some (.slice (some ⟨T.gs j,0,none⟩) (lv ls j).length (T.cs j)):=fun W ho j hj=>(ho.cell hrlt (by rintro (e | e); exact hfar.2 e; exact hbook.2.1 e)).trans (hT.rj j hj)
 have HC0:=sH hC0;have HC6:=sH hC6;have HCR:=sH hCR;have HBK:=sH hbook;have hds:(bRow (Q2y xs)).size=32:=Q0S (Q2n xs);have hdo:=Q0Q (Q2y xs);obtain⟨D,hD⟩:∃ D,D=bRow (Q2y xs):=⟨_,rfl⟩;rw [<- hD] at HLF hds hdo;have HD:=sH hD;have HDS:=sH hds;have HDO:=sH hdo;have HDIG:=sH hT.dig;obtain⟨t,ht⟩:∃ t,t=T.t:=⟨_,rfl⟩;obtain⟨r,hr⟩:∃ t,t=T.r:=⟨_,rfl⟩;obtain⟨rc,hrc⟩:∃ t,t=T.rc:=⟨_,rfl⟩;rw [<- ht] at HN HC0 HC6 c0 c1 htlt hfar hbook ⊢;rw [<- hr] at HC6 HCR hrlt hfar hbook;rw [<- hrc] at HC6;have HFAR:=sH hfar;have HTE:=sH ht;have HRE:=sH hr;have HCE:=sH hrc;clear hT hbk h hD hds hdo hC0 hC6 hCR hbook hglt hfar ht hr hrc;go_enter Tryz.func75,Tryz.ntmps75
 go_wp2_with fail
 refine HN.out.mono ?_;rintro _ _ ⟨rfl,rfl⟩;go_wp2_with fail
 refine HLF.out.mono ?_;rintro _ w3 ⟨rfl,hbk3,ho3⟩;have HBK3:=sH hbk3;have HO3:=sH (Only.of_book ho3);have hs3:=ho3.size;clear hbk3 ho3 HN HLF c0 c1;go_upto_region 6 with(refine Q00 (o:=⟨none,_,_,_,_,_⟩) rfl 51 (.tmp 7) (.tmp 31) rfl w3.heap.size 0 D rfl rfl 51 inkZ (by rw [HZ.out]; exact Blk.newAt rfl) (by rw [HDS.out]; rfl) (by rw [HDS.out,HZS.out]; omega) HDO.out ?_; intro w4 hT4 hD4; rw [Q0a _ _ (by rw [HDS.out,HZS.out])] at hD4)
 have hb4:zD w3.heap.size w3 w4:=hT4.below ((zJ _ _).alloc (zI _) _) (zI _);have hs4:=hb4.size;obtain⟨g7,hg7⟩:∃ g,g=w3.heap.size:=⟨_,rfl⟩;rw [<- hg7] at hD4 ⊢;have hg7w:w.heap.size<=g7:=by omega
 have ho4:Only (fun b=>T.mut b\/k.has b) w w4:=(HO3.out.mono (fun b _ h=>.inr h)).trans (Only.of_below hb4);have hst:SetSt w w4 T k L asked ls i xs g7 0:=by refine⟨fun j hj=>?_,⟨_,_,HBK3.out.below hb4,by omega,fun x hx=>Q1J hx,Q2Q _ _,fun h=>by omega,fun h=>by omega⟩,ho4,by rw [HD.out] at hD4; exact hD4⟩;rw [if_neg (by omega)];have hd:=HDIG.out j hj;refine hd.keep ((hb4.block _ (by have:=hd.lt; omega)).trans (HO3.out.block _ hd.lt (HBK.out.2.2 j hj)))
 have HST:=sH hst;have c6:=HC6.out w4 ho4;clear hT4 hD4 hb4 hg7 ho4 hst HBK3 HO3 HD HDS HDO;go_wp2_with fail
 go_loopw [1,41] (fun pv nv wr=>∃ n:Nat,n<=3/\nv=.int .i64 (n:Int)/\pv=.int .i64 (posT i (min n 2):Int)/\SetSt w wr T k L asked ls i xs g7 n) (fun _ nv _=>3 - (intOf nv).toNat)
 case atStart=>exact⟨0,by omega,rfl,rfl,HST.out⟩
 obtain⟨n,hn,rfl,rfl,hst⟩:=hrel;have HS:=sH hst;have hsz:=hst.only.size;clear hst c6;by_cases hn3:n<3
 ·have hni:(n:Int)<3:=by omega
  have hmin:min n 2=n:=by omega
  rw [hmin];obtain⟨hp1,hp2⟩:=Q8S ls i xs hi n;have HP2:=sH hp2;obtain⟨pn,hpn⟩:∃ p,p=posT i n:=⟨_,rfl⟩;have hpn1:posT i (n+1)=pn / 4:=by rw [hpn]; rfl
  rw [<- hpn] at hp1 HP2 ⊢;have HPN:=sH hpn;have HPN1:=sH hpn1;obtain⟨ln,hln⟩:∃ l,l=(lv ls n).length:=⟨_,rfl⟩;obtain⟨gn,hgn⟩:∃ g,g=T.gs n:=⟨_,rfl⟩;obtain⟨cn,hcn⟩:∃ c,c=T.cs n:=⟨_,rfl⟩;have hlc:=Q97 hlen.1 hlen.2 n (by omega);rw [<- hln] at hp1 hlc;have HLN:=sH hln;have HGN:=sH hgn;have HCN:=sH hcn;have HLC:=sH hlc;have hln16:=hlc.2.1;have hgnl:gn<w.heap.size:=by rw [hgn]; exact HGL.out n (by omega)
  have hpnI:(pn:Int)<(ln:Int):=by omega
  have hcr0:=HCR.out wr HS.out.only n (by omega);rw [<- hln,<- hgn,<- hcn] at hcr0;have lr:=zM _ _ hcr0;have lt0:=zM _ _ (HC6.out wr HS.out.only);have c6:=fun(W:zA) (hb:zD wr.heap.size wr W)=>(hb.cell lt0).trans (HC6.out wr HS.out.only)
  have cr:=fun(W:zA) (hb:zD wr.heap.size wr W)=>(hb.cell lr).trans hcr0
  have hbk7:=HS.out.blk;rw [hmin] at hbk7;have hds:(bRow (dgT (ls.set i xs) i xs n)).size=32:=Q0S (Qb3 _ _ _ _);have hdo:=Q0Q (dgT (ls.set i xs) i xs n);obtain⟨D,hD⟩:∃ D,D=bRow (dgT (ls.set i xs) i xs n):=⟨_,rfl⟩;rw [<- hD] at hbk7 hds hdo;have HD:=sH hD;have HDS:=sH hds;have HDO:=sH hdo;have HK7:=sH hbk7;have hg7l:=hbk7.lt;clear hD hds hdo hbk7 hcr0 hln hgn hcn hlc hpn hpn1;go_upto_region 11 with fail
  refine Q0J 10 82 (by kernel_rfl) (by kernel_rfl) (by kernel_rfl) (by simp) ?_;simp only [tT,tU];refine tC (.pointer (some ⟨t,0,none⟩)) ?_;try simp only [zO,sA]
  refine tC (.pointer (some ⟨t,0,none⟩)) ?_;try simp only [zO,sA]
  refine tC (.pointer (some ⟨t,6,none⟩)) ?_;try simp only [zO,sA]
  refine Q12 rfl rfl (.slice (some ⟨r,0,none⟩) 3 rc) (fun W hb=>by have:=c6 W hb; go_simp) ?_;try simp only [zO,sA]
  refine tC (.int .i64 (n:Int)) ?_;try simp only [zO,sA]
  refine tC (.pointer (some ⟨r,n,none⟩)) ?_;try simp only [zO,sA]
  refine Q12 rfl rfl (.slice (some ⟨gn,0,none⟩) ln cn) (fun W hb=>by have:=cr W hb; go_simp) ?_;try simp only [zO,sA]
  refine tC (.int .i64 (pn:Int)) ?_;try simp only [zO,sA]
  refine Q0M rfl 51 (.tmp 7) rfl g7 0 32 rfl 51 _ D _ HK7.out Tryz.underlying51 rfl rfl HDS.out (fun _ _=>by rw [Nat.zero_add]) ?_;try simp only [zO,sA]
  refine tC (.pointer (some ⟨gn,pn*32,none⟩)) ?_;try simp only [zO,sA]
  refine Q1K ?_;intro w5 hb5;have HS5:=sH (show Only (fun b=>T.mut b\/k.has b) w w5 from HS.out.only.trans (Only.of_below hb5));have hdn:=(HS.out.dig n (by omega)).keep (hb5.block _ (HS.out.dig n (by omega)).lt);rw [if_neg (by omega),<- HGN.out,<- HCN.out] at hdn;obtain⟨cur,hcb,hcs,hct⟩:=hdn.row;have hcap:=hdn.cap.1;rw [<- HLN.out] at hcap;have hm32:(pn+1)*32<=cn*32:=Nat.mul_le_mul_right _ (by omega);have HCB:=sH hcb;have HCS:=sH hcs;have HDN:=sH hdn;have HK75:=sH (HK7.out.below' hb5);have HB5:=sH hb5;have hs5:=hb5.size;clear hb5 hdn hcb hcs hct c6 cr;go_upto_region 12 with(refine Q00 (o:=⟨none,_,_,_,_,_⟩) rfl 51 (.tmp 53) (.tmp 52) rfl gn (pn*32) D rfl rfl 51 cur HCB.out (by rw [HDS.out]; rfl) (by rw [HDS.out,HCS.out]; omega) HDO.out ?_; intro w6 hT6 hD6)
  have hmut:T.mut gn:=⟨n,by omega,HGN.out⟩;have ho6:Only (fun b=>T.mut b\/k.has b) w w6:=HS5.out.trans (Only.of_turned hT6 (.inl hmut));have hgk:¬ k.has gn:=by rw [HGN.out]; exact HBK.out.2.2 n (by omega)
  have hgt:g7≠gn:=by omega
  have hk76:=hT6.blk HK75.out hgt;have hd6:∀ j,j<=2->Q1X w6 (T.gs j) (T.cs j) (if j<n+1 then lv (ls.set i xs) j else lv ls j):=fun j hj=>by
   by_cases hjn:j=n
   ·subst hjn;rw [if_pos (by omega),HP2.out];have hset:=(HS.out.dig j hj).keep (w':=w5) (HB5.out.block _ (HS.out.dig j hj).lt);rw [if_neg (by omega)] at hset;refine hset.set (Q4i _ _) (Qb3 _ _ _ _) (by rw [<- HLN.out]; omega) fun cur' hc1 hc2=>?_
    have hcc:cur'=cur:=by
     have h1:=HCB.out;rw [HGN.out] at h1;unfold Blk at hc1 h1;rw [hc1] at h1;injection h1 with h1
     injection h1
    subst hcc;have h2:=hD6;rw [HGN.out,HD.out] at h2;simpa [bRow] using h2
   have hd:=(HS.out.dig j hj).keep (w':=w5) (HB5.out.block _ (HS.out.dig j hj).lt);have hne:T.gs j≠gn:=by
    rw [HGN.out];rcases Nat.lt_or_ge j n with h1 | h1
    ·exact HNE.out j n h1 (by omega)
    exact(HNE.out n j (by omega) hj).symm
   have hd2:=hd.keep (w':=w6) (hT6.block _ hne);by_cases hjl:j<n
   ·rw [if_pos (by omega)]; rw [if_pos hjl] at hd2; exact hd2
   rw [if_neg (by omega)]; rw [if_neg hjl] at hd2; exact hd2
  obtain⟨L1,a1,q1,q2,q3,q4,q5,q6⟩:=HS.out.book;have hbk6:Q0h w6 k L1 a1:=(q1.below HB5.out).only (Only.of_turned (N:=fun b=>b=gn) hT6 rfl) (fun(e:k.g=gn)=>hgk (.inl e.symm)) (fun(e:k.b1=gn)=>hgk (.inr (.inl e.symm))) (fun(e:k.b2=gn)=>hgk (.inr (.inr e.symm)));have HO6:=sH ho6;have HD6:=sH hd6;have HBK6:=sH hbk6;have HK76:=sH hk76;have HQ:=sH (And.intro q3 (And.intro q4 (And.intro q5 q6)));have hs6:=hT6.size;have c6:=HC6.out w6 ho6;clear q1 q3 q4 q5 q6 ho6 hd6 hbk6 hk76 hT6 hD6 HCB HCS HDN HK75 HB5 HS5 hmut;by_cases hn2:n<2
  ·have hn2I:(n:Int)+1<3:=by omega
   obtain⟨pn4,hpn4⟩:∃ p,p=pn / 4:=⟨_,rfl⟩;have hdv:(pn:Int).tdiv 4=(pn4:Int):=by rw [hpn4]; exact(Int.ofNat_tdiv pn 4).symm
   have hrd:=(HD6.out n (by omega)).reads (by rw [if_pos (by omega)]; exact Q4i _ _);rw [if_pos (by omega)] at hrd;have hll:(lv (ls.set i xs) n).length=ln:=by rw [HP2.out,zP,HLN.out]
   rw [hll,<- HGN.out] at hrd;have hcap2:=(HD6.out n (by omega)).cap.1;rw [if_pos (by omega),hll,<- HCN.out] at hcap2;have hpn5:pn4<grps ln:=by unfold grps; omega
   have h4l:4*pn4<ln:=Q7g.1 hpn5;have hrs:=hrd.sub (l:=4*pn4) (k:=min (4*pn4+4) ln) (cap:=cn) (by omega) (by omega) hcap2;rw [<- hll,Q7I (Q4i _ _) pn4 (by rw [hll]; omega),hll] at hrs;have hgr:=fun W=>Q8d (some ⟨gn,0,none⟩) ln cn pn4 W (by omega) (by omega) hcap2
   have hup:=fun W (hb:zD w6.heap.size w6 W)=>up_any k L1 a1 _ _ (cn - 4*pn4) (grp (lv (ls.set i xs) n) pn4) W W.heap.size (HBK6.out.below hb) ((hrs.below hb).more hb.size) (zI _) (Q9b (Q4i _ _) pn4) (by omega) (by omega) (by omega)
   obtain⟨vg,hvg⟩:∃ v,v=Value.slice (if cn=4*pn4 then some ⟨gn,0,none⟩ else(some (⟨gn,0,none⟩:Addr)).map (·.add (4*pn4*32))) (min (4*pn4+4) ln - 4*pn4) (cn - 4*pn4):=⟨_,rfl⟩;have HGR:=sH (fun W=>(show zF zH 101 #[.slice (some ⟨gn,0,none⟩) ln cn,.int .i64 (pn4:Int)] W fun e w'=>e=.returned vg/\zD W.heap.size W w' from(hgr W).mono fun e w' ⟨h1,h2⟩=>⟨by rw [hvg]; exact h1,by rw [<- h2]; exact zJ _ _⟩));have HUP:=sH (show ∀ W,zD w6.heap.size w6 W->zF zH 100 #[.pointer (some ⟨k.g,0,none⟩),vg] W fun e w'=>e=.returned (.tuple #[.agg (bRow (upD (grp (lv (ls.set i xs) n) pn4))),.int .i64 0])/\Q0h w' k (Q0V L1 (upIn (grp (lv (ls.set i xs) n) pn4))) (a1+1)/\Q0b k W w' from fun W hb=>by rw [hvg]; exact hup W hb);have hds2:(bRow (upD (grp (lv (ls.set i xs) n) pn4))).size=32:=Q0S (Q58 _);have hdo2:=Q0Q (upD (grp (lv (ls.set i xs) n) pn4));have hdg:dgT (ls.set i xs) i xs (n+1)=upD (grp (lv (ls.set i xs) n) pn4):=by show upD (grp (lv (ls.set i xs) n) (posT i (n+1)))=_;rw [HPN1.out,<- hpn4]
   obtain⟨D2,hD2⟩:∃ D,D=bRow (upD (grp (lv (ls.set i xs) n) pn4)):=⟨_,rfl⟩;rw [<- hD2] at HUP hds2 hdo2;have HDG:=sH hdg;have HD2:=sH hD2;have HDS2:=sH hds2;have HDO2:=sH hdo2;have HPN4:=sH hpn4;have hcr0:=HCR.out w6 HO6.out n (by omega);rw [<- HLN.out,<- HGN.out,<- HCN.out] at hcr0;have lr6:=zM _ _ hcr0;have lt6:=zM _ _ c6;have c06:=HC0.out w6 HO6.out;have lt60:=zM _ _ c06;clear hrd hll hcap2 hrs hgr hup hvg hds2 hdo2 hdg hD2 hpn4;go_upto_region 14 with fail
   have c0:=fun(W:zA) (hb:zD w6.heap.size w6 W)=>(hb.cell lt60).trans c06
   have c6':=fun(W:zA) (hb:zD w6.heap.size w6 W)=>(hb.cell lt6).trans c6
   have cr:=fun(W:zA) (hb:zD w6.heap.size w6 W)=>(hb.cell lr6).trans hcr0
   clear c6 c06 hcr0;have c6:=c6';clear c6';have hJ:∀ (s:Nat) (W:zA),(if s=0 then zD w6.heap.size w6 W else if s=1 then Q8j w6 W k (Q0V L1 (upIn (grp (lv (ls.set i xs) n) pn4))) (a1+1) else Qaa w6 W k (Q0V L1 (upIn (grp (lv (ls.set i xs) n) pn4))) (a1+1) g7 D2)->Only (fun b=>k.has b\/b=g7) w6 W:=fun s W hj=>by
    split at hj
    ·exact Only.of_below hj
    split at hj
    ·exact hj.only.mono fun b _ h=>.inl h
    exact hj.only
   have hJ2:∀ W,Only (fun b=>k.has b\/b=g7) w6 W->Only (fun b=>T.mut b\/k.has b) w W:=fun W ho=>⟨ho.os.trans HO6.out.os,ho.tape.trans HO6.out.tape,ho.output.trans HO6.out.output,by have:=ho.size; have:=HO6.out.size; omega,fun b hb hn=>(ho.block b (by have:=HO6.out.size; omega) (by rintro (e | e); exact hn (.inr e); omega)).trans (HO6.out.block b hb hn)⟩
   have HJ:=sH hJ;have HJ2:=sH hJ2;clear c0 c6 cr hJ hJ2;have C0:=sH (fun W (h:Only (fun b=>k.has b\/b=g7) w6 W)=>HC0.out W (HJ2.out W h));have C6:=sH (fun W (h:Only (fun b=>k.has b\/b=g7) w6 W)=>HC6.out W (HJ2.out W h));have CR:=sH (fun W (h:Only (fun b=>k.has b\/b=g7) w6 W)=>HCR.out W (HJ2.out W h) n (by omega));rw [<- HLN.out,<- HGN.out,<- HCN.out] at CR;refine Q0T 18 82 (fun j W v=>match j with
    | 0=>v=.pointer (some ⟨t,0,none⟩)
    | 1=>v=.pointer (some ⟨t,0,none⟩)
    | 2=>v=.pointer (some ⟨t,0,none⟩)
    | 3=>v=.pointer (some ⟨k.g,0,none⟩)
    | 4=>v=.pointer (some ⟨t,0,none⟩)
    | 5=>v=.pointer (some ⟨t,0,none⟩)
    | 6=>v=.pointer (some ⟨t,6,none⟩)
    | 7=>v=.slice (some ⟨r,0,none⟩) 3 rc
    | 8=>v=.int .i64 (n:Int)
    | 9=>v=.pointer (some ⟨r,n,none⟩)
    | 10=>v=.slice (some ⟨gn,0,none⟩) ln cn
    | 11=>v=.int .i64 (pn4:Int)
    | 12=>v=vg
    | 13=>v=.tuple #[.agg D2,.int .i64 0]
    | 14=>v=.tuple #[.agg D2,.int .i64 0]
    | 15=>v=.agg D2
    | 16=>v=.int .i64 0
    | _=>True) (fun s W=>if s=0 then zD w6.heap.size w6 W else if s=1 then Q8j w6 W k (Q0V L1 (upIn (grp (lv (ls.set i xs) n) pn4))) (a1+1) else Qaa w6 W k (Q0V L1 (upIn (grp (lv (ls.set i xs) n) pn4))) (a1+1) g7 D2) (fun _ _=>True) [13,17] [65,66,67,68,69,70,71,72,73,74,75,76,77,78,64,79,80] (by kernel_rfl) (by kernel_rfl) (by kernel_rfl) (by kernel_rfl) (by simp) (by kernel_rfl) (fun j=>?last) ?lastR ?jay (zJ _ _) ?heads ?_
   case last =>
    match j with
    | 0 | 1 | 2 | 3 | 4 | 5 | 6 | 7 | 8 | 9 | 10 | 11 | 12 | 13 | 14 | 15 | 16=>exact Q2w.pure _
    | j+17=>exact fun _ _ _ h _=>h
   case lastR =>
    intro s j W W' v hsl hs hj hp hr;match j with
    | 0 | 1 | 2 | 3 | 4 | 5 | 6 | 7 | 8 | 9 | 10 | 11 | 12 | 13 | 14 | 15 | 16=>exact hp
    | j+17=>exact hp
   case jay =>
    intro s W W' hj hb;by_cases h0:s=0
    ·rw [if_pos h0] at hj ⊢;exact hj.trans (hb.mono hj.size)
    rw [if_neg h0] at hj ⊢;by_cases h1:s=1
    ·rw [if_pos h1] at hj ⊢;exact hj.below hb
    rw [if_neg h1] at hj ⊢;exact hj.below hb
   case heads =>
    simp only [tT];and_intros;rotate_right;trivial
    all_goals try(rw [if_neg (by decide)];intro s a W hj hkp hd)
    ·have e0:(_:zB)=.pointer (some ⟨t,0,none⟩):=sK hkp 0;exact sV
    ·have e0:=sJ (hd 0) 65;exact sV
    ·have e0:=sJ (hd 1) 66;exact sV
    ·have e0:=sJ (hd 2) 67;have cc:=C0.out W (HJ.out s W hj);exact sV
    ·have e0:(_:zB)=.pointer (some ⟨t,0,none⟩):=sK hkp 0;exact sV
    ·have e0:=sJ (hd 4) 69;exact sV
    ·have e0:=sJ (hd 5) 70;exact sV
    ·have e0:=sJ (hd 6) 71;have cc:=C6.out W (HJ.out s W hj);exact sV
    ·have e0:(_:zB)=.int .i64 (n:Int):=sK hkp 9;exact sV
    ·have e0:=sJ (hd 7) 72;have e1:=sJ (hd 8) 73;exact sV
    ·have e0:=sJ (hd 9) 74;have cc:=CR.out W (HJ.out s W hj);exact sV
    ·have e0:(_:zB)=.int .i64 (pn4:Int):=sK hkp 1;exact sV
    ·have e0:=sJ (hd 10) 75;have e1:=sJ (hd 11) 76;exact Q1m rfl 101 #[.slice (some ⟨gn,0,none⟩) ln cn,.int .i64 (pn4:Int)] (by go_simp) ((HGR.out W).mono fun e w h=>⟨vg,h.1,h.2,rfl⟩)
    ·rw [if_pos (by decide)];intro s a W hs hj hkp hd;have e0:=sJ (hd 3) 68;have e1:=sJ (hd 12) 77;obtain rfl:s=0:=by
      have h1:=(List.getElem?_eq_some_iff.1 hs).1;simp at h1;obtain rfl | rfl:s=0\/s=1:=by omega
      ·rfl
      simp at hs
     rw [if_pos rfl] at hj;exact Q3a rfl 100 #[.pointer (some ⟨k.g,0,none⟩),vg] (by go_simp) ((HUP.out W hj).mono fun e w h=>⟨_,h.1,trivial,⟨h.2.1,(Only.of_below hj).trans (Only.of_book h.2.2)⟩,rfl⟩)
    ·have e0:=sJ (hd 13) 78;exact sV
    iterate 2 ·have e0:=sJ (hd 14) 64;exact sV
    rw [if_pos (by decide)];intro s a W hs hj hkp hd;have e0:a.eval (.tmp 7)=.pointer (some ⟨g7,0,none⟩):=hkp.at_ (by kernel_rfl);have e1:a.eval (.tmp 79)=.agg D2:=(hd 15 (by kernel_rfl)) _ 79 rfl rfl;obtain rfl:s=1:=by
     have h1:=(List.getElem?_eq_some_iff.1 hs).1;simp at h1;obtain rfl | rfl:s=0\/s=1:=by omega
     ·simp at hs
     rfl
    rw [if_neg (by omega),if_pos rfl] at hj;have hk7:Blk W g7 51 D:=hj.only.blk HK76.out (by rintro (e | e | e) <;> omega);refine Q6K (o:=⟨none,_,_,_,_,_⟩) rfl 51 (.tmp 7) (.tmp 79) rfl g7 0 D2 e0 e1 51 D hk7 (by rw [HDS2.out]; rfl) (by rw [HDS2.out,HDS.out]; omega) HDO2.out fun W2 hT2 hB2=>⟨trivial,?_,trivial⟩
    rw [Q0a _ _ (by rw [HDS2.out,HDS.out])] at hB2;exact⟨hj.book.only (Only.of_turned (N:=fun b=>b=g7) hT2 rfl) (by omega) (by omega) (by omega),(hj.only.mono fun b _ h=>.inl h).trans (Only.of_turned hT2 (.inr rfl)),hB2⟩
   intro f w10 hj hd;have hu:Qaa w6 w10 k (Q0V L1 (upIn (grp (lv (ls.set i xs) n) pn4))) (a1+1) g7 D2:=hj;have HBK9:=sH hu.book;have HO9:=sH (HJ2.out w10 hu.only);have hD10:=hu.blk;have HD9:=sH (fun j (hj:j<=2)=>(HD6.out j hj).keep (hu.only.block _ (HD6.out j hj).lt (by have:=HGL.out j hj; rintro (e | e); exact HBK.out.2.2 j hj e; omega)));simp only [Q19,tU];clear hd hj hu HUP;try simp only [zO,sA]
   have ho10:=HO9.out;have hst10:SetSt w w10 T k L asked ls i xs g7 (n+1):=by
    refine⟨HD9.out,⟨_,_,HBK9.out,by omega,fun x hx=>Q1J (HQ.out.1 x hx),Q1J HQ.out.2.1,fun _=>?_,fun h2=>?_⟩,ho10,?_⟩
    ·rcases zE n with e | e
     ·subst e;have h1:posT i 1=i / 4:=rfl;rw [<- h1,HPN1.out,<- HPN4.out];exact Q2Q _ _
     exact Q1J (HQ.out.2.2.1 e)
    ·obtain rfl:n=1:=by omega
     have h0:pn4=0:=by have h1:=HLN.out; rw [Q55] at h1; unfold grps at h1; have:=HPN4.out; omega
     have h1:grp (lv (ls.set i xs) 1) pn4=lv (ls.set i xs) 1:=by rw [h0];unfold grp;rw [Nat.mul_zero,List.drop_zero,zN];rw [Q55,zP]; unfold grps; omega
     have:=Q2Q L1 (upIn (grp (lv (ls.set i xs) 1) pn4));rw [h1] at this ⊢;exact this
    rw [show min (n+1) 2=n+1 by omega,HDG.out,<- HD2.out];exact hD10
   have HST10:=sH hst10;have hpp:pn4=posT i (n+1):=by rw [HPN1.out,HPN4.out]
   have HPP:=sH hpp;clear ho10 hst10 hD10 HO9 HD9 HBK9 hpp;go_wp2_with fail
   go_roundw
   case rel=>exact⟨n+1,by omega,by go_num,by rw [show min (n+1) 2=n+1 by omega,<- HPP.out],HST10.out⟩
   case measure=>simp [intOf]; omega
  obtain rfl:n=2:=by omega
  have hn2I:¬ (2:Int)+1<3:=by omega
  have hst6:SetSt w w6 T k L asked ls i xs g7 3:=by refine⟨HD6.out,⟨L1,a1,HBK6.out,by omega,HQ.out.1,HQ.out.2.1,fun _=>HQ.out.2.2.1 (by omega),fun _=>HQ.out.2.2.2 (by omega)⟩,HO6.out,?_⟩;show Blk w6 g7 _ (bRow (dgT (ls.set i xs) i xs 2));rw [<- HD.out];exact HK76.out
  have HST6:=sH hst6;clear hst6;go_wp2_with fail
  go_roundw
  case rel=>exact⟨3,by omega,rfl,by rw [show min 3 2=2 by omega,<- HPN.out],HST6.out⟩
  case measure=>simp [intOf]
 obtain rfl:n=3:=by omega
 have hni:¬ (3:Int)<3:=by omega
 go_wp2_with fail
 go_ret
 obtain⟨L1,a1,q1,q2,q3,q4,q5,q6⟩:=HS.out.book;have ho:=HS.out.only;have e1:=HTE.out;have e2:=HRE.out;have e3:=HCE.out;subst e1 e2 e3;refine⟨rfl,⟨by have:=ho.size; omega,by have:=ho.size; omega,HC0.out wr ho,?_,HC6.out wr ho,fun j hj=>?_,fun j hj=>?_,HNE.out,HFAR.out,HBK.out,by rw [zP]; exact hlen⟩,⟨L1,a1,q1,by omega,q3,fun L0 hL0 hin=>?_⟩,ho⟩
 ·rw [zP];exact(ho.cell htlt (by rintro (e | e); exact HFAR.out.1 e; exact HBK.out.1 e)).trans HT.out.c1
 ·rw [HCR.out wr ho j hj,(Q8S ls i xs hi j).2,zP]
 ·have:=HS.out.dig j hj;rw [if_pos (by omega)] at this;exact this
 exact(hin.more fun x hx=>q3 x (hL0 x hx)).set hi (fun _ h=>h) q4 (q5 (by omega)) (q6 (by omega))
end
section
open Go.RowKit
theorem Q8R (A B:Option Addr) (n m c d:Nat) (xs ys:List UInt8) (w:zA) (Bx By:Nat) (ha:Q04 w Bx 1 A n (xs.map vb)) (hb:Q04 w By 1 B m (ys.map vb)) (hn:n<=maxLen) (hm:m<=maxLen) :
 zF zH 76 #[.slice A n c,.slice B m d] w fun e w'=>e=.returned (.bool (decide (xs=ys)))/\∃ k,w'=w.drewN k:=by
 have hlx:xs.length=n:=by have:=ha.1; simpa using this
 have hly:ys.length=m:=by have:=hb.1; simpa using this
 unfold maxLen at hn hm;by_cases hnm:n=m
 ·subst hnm;go_enter Tryz.func76,Tryz.ntmps76
  go_wp2
  go_loopw [5] (fun i wr=>∃ k q:Nat,k<=n/\i=.int .i64 k/\xs.take k=ys.take k/\wr=w.drewN q) (fun i _=>n - (intOf i).toNat)
  case atStart=>exact⟨0,0,Nat.zero_le _,rfl,by simp,rfl⟩
  obtain⟨k,q,hk,rfl,heq,rfl⟩:=hrel;have HE:=sH heq;clear heq;by_cases hlt:k<n
  ·obtain⟨ad,u,rfl,_,hx,hcx⟩:=ha.at_ hlt;obtain⟨bd,v,rfl,_,hy,hcy⟩:=hb.at_ hlt;obtain⟨hk1,rfl⟩:=Q3K hx;obtain⟨hk2,rfl⟩:=Q3K hy;clear hx hy ha hb;by_cases hne:xs[k]=ys[k]
   ·have hz:(bi xs[k] != bi ys[k])=false:=by simp [hne]
    have HN:=sH hne;clear hne
    go_wp2
    go_quiet (fail)
    go_wp2
    go_roundw
    case rel=>exact⟨k+1,_,by omega,by go_num,by rw [zQ hk1,zQ hk2,HE.out,HN.out],rfl⟩
    case measure=>simp [intOf]; omega
   have hz:(bi xs[k] != bi ys[k])=true:=by rw [bne_iff_ne]; intro e; exact hne (QaS e)
   have HN:=sH hne;clear hne
   go_wp2
   go_quiet (fail)
   go_wp2
   go_ret
   exact⟨Q0C (by have:=HN.out; symm; rw [decide_eq_false_iff_not]; rintro rfl; exact this rfl),_,World.drewN_drewN _ _ _⟩
  have hkn:k=n:=by omega
  have HK:=sH hkn;clear hkn
  go_wp2
  go_ret
  exact⟨Q0C (by symm; rw [decide_eq_true_iff]; have h1:=HE.out; rw [HK.out] at h1; rwa [zN (by omega),zN (by omega)] at h1),q,rfl⟩
 have h0:((n:Int) != (m:Int))=true:=by rw [bne_iff_ne]; omega
 have HN:=sH hnm;clear hnm;go_enter Tryz.func76,Tryz.ntmps76
 go_wp2
 go_ret
 exact⟨Q0C (by symm; rw [decide_eq_false_iff_not]; rintro rfl; exact HN.out (by omega)),0,rfl⟩
theorem Q4f:(Tryz.prog.info? 3).map (fun i=>(i.zero,i.size,i.bytes))=some (some (.int .i64 0),1,8):=by kernel_rfl
theorem Q0e {w:zA} {B:Nat} {v:zB} {xs:List Int} (h:OwnN w B v xs):∃ A c,v=.slice A xs.length c/\xs.length<=c/\c<=maxLen/\Q04 w w.heap.size 1 A xs.length (xs.map vn)/\(∀ ad,A=some ad->B<=ad.block):=by
 have hr:=fun A c (hv:v=.slice A xs.length c)=>Q04.of_own (A:=A) (c:=c) (by rw [<- hv]; exact h)
 rcases h.2 with⟨rfl,h0⟩ | ⟨g,cap,cur,rfl,hg,_,h1,h2,_⟩
 ·exact⟨none,0,by rw [h0],by omega,by unfold maxLen; omega,hr none 0 (by rw [h0]),fun _ h=>by cases h⟩
 exact⟨_,cap,rfl,h1,h2,hr _ _ rfl,fun ad h=>by injection h with h; subst h; exact hg⟩
theorem OwnN.more {w:zA} {B B':Nat} {v:zB} {xs:List Int} (h:OwnN w B v xs) (hB:B'<=B):OwnN w B' v xs:=by
 refine⟨h.1,?_⟩;rcases h.2 with h0 | ⟨g,cap,cur,rfl,hg,hh,h1⟩
 ·exact .inl h0
 exact .inr ⟨g,cap,cur,rfl,by omega,hh,h1⟩
end
section
open Go.RowKit Go.Maps
structure FarN (w:zA) (N:Nat->Prop) (A:Option Addr) (c:Nat) (xs:List Int):Prop where
 rd:Q04 w w.heap.size 1 A xs.length (xs.map vn)
 cap:xs.length<=c/\c<=maxLen
 far:∀ a,0<xs.length->A=some a->¬ N a.block
theorem FarN.only {w w':zA} {N:Nat->Prop} {A:Option Addr} {c:Nat} {xs:List Int} (h:FarN w N A c xs) {M:Nat->Prop} (ho:Only M w w') (hM:∀ b,M b->N b):FarN w' N A c xs :=⟨ho.reads h.rd (fun a h0 ha hm=>h.far a h0 ha (hM _ hm)),h.cap,h.far⟩
theorem FarN.mono {w:zA} {N N':Nat->Prop} {A:Option Addr} {c:Nat} {xs:List Int} (h:FarN w N A c xs) (hN:∀ b,b<w.heap.size->N' b->N b):FarN w N' A c xs :=⟨h.rd,h.cap,fun a h0 ha hm=>h.far a h0 ha (hN _ (by obtain⟨ad,e,hb,_⟩:=h.rd.2 h0; rw [ha] at e; injection e with e; rw [e]; exact hb) hm)⟩
theorem Q0O {P:Program} (t e:TypeId) (a:Option Addr) (n c:Nat) (h:P.underlying t=some (.slice e)) (W:zA) :
 (binOp .eql t (.slice a n c) (.slice none 0 0)).run P W=.ok (.bool a.isNone) W:=by
 simp only [binOp];simp [Op.equal,Op.maxDepth,Lib.run_equalIn_slice_nil W 9999 t e a n c 0 0 h]
theorem cloneB_any (A:Option Addr) (n c:Nat) (xs:List UInt8) (w:zA) (B:Nat) (h:Q04 w B 1 A n (xs.map vb)) (hB:B<=w.heap.size) (hn:n<=1000000) :
 zF zH 48 #[.slice A n c] w fun e w'=>∃ v,e=.returned v/\OwnB w' w.heap.size v xs/\zD w.heap.size w w':=by
 have hxn:xs.length=n:=by have:=h.1; simpa using this
 obtain⟨i0,hi0,hz0,hz1,hz2⟩:=info_parts Q2p;cases A with
 | none =>
  have hn0:n=0:=by
   rcases zE n with e | e
   ·exact e
   obtain⟨ad,he,_⟩:=h.2 e; cases he
  subst hn0;have hx:xs=[]:=List.eq_nil_of_length_eq_zero hxn;subst hx;have hnl:=Q0O (P:=zH) 28 5 none 0 c Tryz.underlying28;go_enter Tryz.func48,Tryz.ntmps48
  go_wp2
  go_ret
  exact⟨_,rfl,OwnB.nil _ _,zJ _ _⟩
 | some ad =>
  have hw0:=World.ownsRow_lit (base:=w.heap.size) (e:=5) (size:=1) w #[] 0 (zI _) (by omega) rfl;have HW0:=sH hw0;have HR:=sH (h.alloc hB (.cells #[] 5));have HXN:=sH hxn;clear h hw0 hxn;have hnl:=Q0O (P:=zH) 28 5 (some ad) n c Tryz.underlying28;go_enter Tryz.func48,Tryz.ntmps48
  go_wp2_with (at_builtin; go_must (refine Q05 _ rfl (.tmp 5) (.tmp 6) 28 rfl w.heap.size 5 i0 _ 1 1 Tryz.underlying28 hi0 hz0 hz1 hz2 rfl (by omega) _ 0 _ rfl HW0.out B (some ad) n c (xs.map vb) rfl HR.out (by intro u hu; first | rfl | (obtain⟨y,_,rfl⟩:=List.mem_map.1 hu; rfl)) (by unfold maxLen; omega) (by omega) (by simp) ?_))
  intro v2 w2 hown2 hg2 hor2;have hb2:zD w.heap.size w w2:=Q0i ((zJ _ _).alloc (zI _) _) (by simp) hg2 (fun b hb=>by
   have:b=w.heap.size:=by simpa [Value.ownBlock] using hb.symm
   omega)
  have hob:OwnB w2 w.heap.size v2 xs:=by unfold OwnB;rw [HXN.out];simpa using hown2
  have HOB:=sH hob;have HB2:=sH hb2;clear hown2 hg2 hor2 hb2 hob;go_wp2_with fail
  go_ret
  exact⟨_,rfl,HOB.out,HB2.out⟩
theorem Q2c (A:Option Addr) (n c:Nat) (xs:List Int) (w:zA) (B:Nat) (h:Q04 w B 1 A n (xs.map vn)) (hB:B<=w.heap.size) (hn:n<=1000000) :
 zF zH 58 #[.slice A n c] w fun e w'=>∃ v,e=.returned v/\OwnN w' w.heap.size v xs/\zD w.heap.size w w':=by
 have hxn:xs.length=n:=by have:=h.1; simpa using this
 obtain⟨i0,hi0,hz0,hz1,hz2⟩:=info_parts Q4f;cases A with
 | none =>
  have hn0:n=0:=by
   rcases zE n with e | e
   ·exact e
   obtain⟨ad,he,_⟩:=h.2 e; cases he
  subst hn0;have hx:xs=[]:=List.eq_nil_of_length_eq_zero hxn;subst hx;have hnl:=Q0O (P:=zH) 29 3 none 0 c Tryz.underlying29;go_enter Tryz.func58,Tryz.ntmps58
  go_wp2
  go_ret
  exact⟨_,rfl,⟨by simp,.inl ⟨rfl,by simp⟩⟩,zJ _ _⟩
 | some ad =>
  have hw0:=World.ownsRow_lit (base:=w.heap.size) (e:=3) (size:=1) w #[] 0 (zI _) (by omega) rfl;have HW0:=sH hw0;have HR:=sH (h.alloc hB (.cells #[] 3));have HXN:=sH hxn;clear h hw0 hxn;have hnl:=Q0O (P:=zH) 29 3 (some ad) n c Tryz.underlying29;go_enter Tryz.func58,Tryz.ntmps58
  go_wp2_with (at_builtin; go_must (refine Q05 _ rfl (.tmp 5) (.tmp 6) 29 rfl w.heap.size 3 i0 _ 1 8 Tryz.underlying29 hi0 hz0 hz1 hz2 rfl (by omega) _ 0 _ rfl HW0.out B (some ad) n c (xs.map vn) rfl HR.out (by intro u hu; first | rfl | (obtain⟨y,_,rfl⟩:=List.mem_map.1 hu; rfl)) (by unfold maxLen; omega) (by omega) (by simp) ?_))
  intro v2 w2 hown2 hg2 hor2;have hb2:zD w.heap.size w w2:=Q0i ((zJ _ _).alloc (zI _) _) (by simp) hg2 (fun b hb=>by
   have:b=w.heap.size:=by simpa [Value.ownBlock] using hb.symm
   omega)
  have hob:OwnN w2 w.heap.size v2 xs:=by unfold OwnN;rw [HXN.out];simpa using hown2
  have HOB:=sH hob;have HB2:=sH hb2;clear hown2 hg2 hor2 hb2 hob;go_wp2_with fail
  go_ret
  exact⟨_,rfl,HOB.out,HB2.out⟩
end
section
open Go.RowKit Go.Maps
attribute [local irreducible] wpList Q0c
def crC (f:Int) (A:Option Addr) (n c:Nat):Array zB:=#[.int .i64 f,.slice A n c]
def okCB (f:Int) (l:List Int):Bool:=decide (0<=f/\f<=2/\(l.length:Int)=3*f+1) && Q1i 0 l
theorem Q7h {f:Nat} {l:List Int} (h:OkC f l):okCB (f:Int) l=true:=by unfold okCB;have:=h.faults;have:=h.len;rw [h.up,Bool.and_true];exact decide_eq_true ⟨by omega,by omega,by omega⟩
theorem okCB_to {f:Int} {l:List Int} (h:okCB f l=true):OkC f.toNat l/\0<=f:=by unfold okCB at h;rw [Bool.and_eq_true] at h;have h1:=of_decide_eq_true h.1;exact⟨⟨by omega,by omega,h.2⟩,h1.1⟩
theorem Q94 (n:Int) (w:zA):zF zH 89 #[.int .i64 n] w fun e w'=>e=.returned (.bool (decide (1<=n/\n<=28)))/\w=w':=by
 by_cases h:1<=n
 ·by_cases h2:n<=28
  ·rw [decide_eq_true ⟨h,h2⟩];go_enter Tryz.func89,Tryz.ntmps89
   go_wp2
   go_ret
   exact⟨rfl,rfl⟩
  rw [decide_eq_false fun hh=>h2 hh.2];go_enter Tryz.func89,Tryz.ntmps89
  go_wp2
  go_ret
  exact⟨rfl,rfl⟩
 rw [decide_eq_false fun hh=>h hh.1];go_enter Tryz.func89,Tryz.ntmps89
 go_wp2
 go_ret
 exact⟨rfl,rfl⟩
theorem Q2o (f:Int) (A:Option Addr) (n c:Nat) (zs:List Int) (w:zA) (h:Q04 w w.heap.size 1 A n (zs.map vn)) (hn:n<=17592186044416) :
 zF zH 86 #[.agg (crC f A n c)] w fun e w'=>e=.returned (.int .i64 (if okCB f zs=true then 0 else 110))/\zD w.heap.size w w':=by
 have hzn:zs.length=n:=by have:=h.1; simpa using this
 have H:=sH h;have HZN:=sH hzn;have HX:=sH (Q02 w (.cells (crC f A n c) 69));have HK:=sH (Blk.newAt rfl:Blk (w.alloc (.cells (crC f A n c) 69)) w.heap.size 69 (crC f A n c));obtain⟨res,hres⟩:∃ b,b=okCB f zs:=⟨_,rfl⟩;rw [<- hres];have HRES:=sH hres;clear h hzn hres;obtain⟨g,hg⟩:∃ g,g=w.heap.size:=⟨_,rfl⟩;go_enter Tryz.func86,Tryz.ntmps86
 go_upto_region 1 with fail
 generalize World.alloc w _=w1 at HX HK ⊢;rw [<- hg] at HK ⊢;clear hg;have hbad:¬ (0<=f/\f<=2/\(n:Int)=3*f+1)->res=false:=fun hb=>by rw [HRES.out]; unfold okCB; rw [HZN.out,decide_eq_false hb,Bool.false_and]
 have c0:w1.cell? ⟨g,0,none⟩=some (.int .i64 f):=(HK.out.cell 0).trans rfl;have c1:w1.cell? ⟨g,1,none⟩=some (.slice A n c):=(HK.out.cell 1).trans rfl;by_cases h0:f<0
 ·obtain rfl:=hbad (by omega);clear hbad;go_wp2_with fail
  go_ret
  exact⟨rfl,HX.out⟩
 by_cases h2:2<f
 ·obtain rfl:=hbad (by omega);clear hbad;go_wp2_with fail
  go_ret
  exact⟨rfl,HX.out⟩
 by_cases h3:(n:Int)=3*f+1
 ·have h3b:((n:Int) != 3*f+1)=false:=by simp [h3]
  have HR:=sH (show res=Q1i 0 zs by rw [HRES.out]; unfold okCB; rw [decide_eq_true (by rw [HZN.out]; exact⟨by omega,by omega,h3⟩),Bool.true_and]);have h3w:(IntKind.i64.wrap (IntKind.i64.wrap (3*f)+1))=3*f+1:=by rw [IntKind.wrap_i64,IntKind.wrap_i64]; omega
  clear hbad HRES;go_wp2_with fail
  go_loopw [3,27] (fun lv iv wr=>∃ (i:Nat) (last:Int),i<=n/\0<=last/\lv=.int .i64 last/\iv=.int .i64 i/\w1=wr/\res=Q1i last (zs.drop i)) (fun _ iv _=>n - (intOf iv).toNat)
  case atStart=>exact⟨0,0,by omega,by omega,rfl,rfl,rfl,HR.out⟩
  obtain⟨i,last,hi,hl0,rfl,rfl,rfl,hr⟩:=hrel;by_cases hin:i<n
  ·obtain⟨ad,u,hA,hadb,hxi,hcell⟩:=(H.out.below HX.out).at_ hin;subst hA;have hil:i<zs.length:=by have:=HZN.out; omega
   have hu:u=.int .i64 zs[i]:=by
    rw [zG,zC hil] at hxi;injection hxi with hxi
    exact hxi.symm
   subst hu;rw [List.drop_eq_getElem_cons hil] at hr;generalize zs[i]=z at hr hcell;simp only [Q1i] at hr;have HNO:=sH (Q94 z w1);clear hxi;by_cases hz1:z<=last
   ·rw [decide_eq_false (by omega),Bool.false_and] at hr;subst hr;go_wp2_with fail
    go_ret
    exact⟨rfl,HX.out⟩
   by_cases hz2:z<=28
   ·rw [decide_eq_true ⟨by omega,hz2⟩,Bool.true_and] at hr;rw [decide_eq_true ⟨by omega,hz2⟩] at HNO;have HRR:=sH hr;clear hr;go_wp2_with fail
    refine HNO.out.mono ?_;rintro _ _ ⟨rfl,rfl⟩;go_wp2_with fail
    go_roundw
    case rel=>exact⟨i+1,z,by omega,by omega,rfl,by go_num,trivial,HRR.out⟩
    case measure=>simp [intOf]; omega
   rw [decide_eq_false (by omega),Bool.false_and] at hr;rw [decide_eq_false (by omega)] at HNO;subst hr;go_wp2_with fail
   refine HNO.out.mono ?_;rintro _ _ ⟨rfl,rfl⟩;go_wp2_with fail
   go_ret
   exact⟨rfl,HX.out⟩
  obtain rfl:i=n:=by omega
  rw [List.drop_of_length_le (by have:=HZN.out; omega)] at hr;subst hr;go_wp2_with fail
  go_ret
  exact⟨rfl,HX.out⟩
 have h3b:((n:Int) != 3*f+1)=true:=by simp [h3]
 obtain rfl:=hbad (by omega);clear hbad;go_wp2_with fail
 go_ret
 exact⟨rfl,HX.out⟩
theorem Qbz (x:Int) (w:zA):zF zH 118 #[.int .i64 x] w fun e w'=>e=.returned (.bool false)/\w=w':=by
 have hx:(x != x)=false:=by simp
 go_enter Tryz.func118,Tryz.ntmps118
 go_wp2
 go_ret
 exact⟨rfl,rfl⟩
theorem Q9Z (x:Int) (w:zA):zF zH 129 #[.int .i64 x] w fun e w'=>e=.returned (.bool false)/\w=w':=by
 have hx:(x != x)=false:=by simp
 go_enter Tryz.func129,Tryz.ntmps129
 go_wp2
 go_ret
 exact⟨rfl,rfl⟩
theorem Q71 (x y:Int) (w:zA):zF zH 117 #[.int .i64 x,.int .i64 y] w fun e w'=>e=.returned (.bool (decide (x<y)))/\w=w':=by
 have HN:=sH (Q9Z x w);go_enter Tryz.func117,Tryz.ntmps117
 go_wp2_with fail
 refine HN.out.mono ?_;rintro _ _ ⟨rfl,rfl⟩;go_wp2_with fail
 go_ret
 exact⟨rfl,rfl⟩
theorem Q8k (A:Option Addr) (n c:Nat) (zs:List Int) (t:Int) (w:zA) (B:Nat) (h:Q04 w B 1 A n (zs.map vn)) (hp:zs.Pairwise (· < ·)) (hn:n<=1000000) :
 zF zH 106 #[.slice A n c,.int .i64 t] w fun e w'=>∃ i:Nat,e=.returned (.tuple #[.int .i64 i,.bool (decide (t∈zs))])/\w=w':=by
 have hzn:zs.length=n:=by have:=h.1; simpa using this
 have H:=sH h;have HZN:=sH hzn;have HP:=sH (List.pairwise_iff_getElem.1 hp);obtain⟨res,hres⟩:∃ b,b=decide (t∈zs):=⟨_,rfl⟩;rw [<- hres];have HRES:=sH hres;clear h hzn hres hp;go_enter Tryz.func106,Tryz.ntmps106
 go_wp2_with fail
 go_loopw [7,8,9] (fun iv jv hv wr=>∃ (i j:Nat),i<=j/\j<=n/\iv=.int .i64 i/\jv=.int .i64 j/\w=wr/\(∀ (k:Nat) (hk:k<zs.length),k<i->zs[k]<t)/\(∀ (k:Nat) (hk:k<zs.length),j<=k->t<=zs[k])) (fun iv jv _ _=>(intOf jv).toNat - (intOf iv).toNat)
 case atStart=>exact⟨0,n,by omega,by omega,rfl,rfl,rfl,fun k hk h=>by omega,fun k hk h=>by have:=HZN.out; omega⟩
 obtain⟨i,j,hij,hj,rfl,rfl,rfl,hlo,hhi⟩:=hrel;have HLO:=sH hlo;have HHI:=sH hhi;clear hlo hhi;by_cases hlt:i<j
 ·have hltI:(i:Int)<(j:Int):=by omega
  have hm1:i<=(i+j) / 2:=by omega
  have hm2:(i+j) / 2<j:=by omega
  obtain⟨ad,u,hA,hadb,hxi,hcell⟩:=H.out.at_ (k:=(i+j) / 2) (by omega);subst hA;have hil:(i+j) / 2<zs.length:=by have:=HZN.out; omega
  have hu:u=.int .i64 zs[(i+j) / 2]:=by
   rw [zG,zC hil] at hxi;injection hxi with hxi
   exact hxi.symm
  subst hu;obtain⟨z,hz⟩:∃ z,z=zs[(i+j) / 2]:=⟨_,rfl⟩;rw [<- hz] at hcell;have HZ:=sH hz;have HLE:=sH (Q71 z t w);clear hxi hz;by_cases hzt:z<t
  ·rw [decide_eq_true hzt] at HLE;have HN:=sH (show ∀ (k:Nat) (hk:k<zs.length),k<(i+j) / 2+1->zs[k]<t from fun k hk h=>by
    rcases Nat.lt_or_ge k ((i+j) / 2) with e | e
    ·have:=HP.out k _ hk hil e; have:=HZ.out; omega
    obtain rfl:k=(i+j) / 2:=by omega
    have:=HZ.out; omega)
   go_wp2_with fail
   refine HLE.out.mono ?_;rintro _ _ ⟨rfl,rfl⟩;go_wp2_with fail
   go_roundw
   case rel=>exact⟨(i+j) / 2+1,j,by omega,hj,by go_num,rfl,trivial,HN.out,HHI.out⟩
   case measure=>simp [intOf]; omega
  rw [decide_eq_false hzt] at HLE;have HN:=sH (show ∀ (k:Nat) (hk:k<zs.length),(i+j) / 2<=k->t<=zs[k] from fun k hk h=>by
   rcases Nat.lt_or_ge ((i+j) / 2) k with e | e
   ·have:=HP.out _ k hil hk e; have:=HZ.out; omega
   obtain rfl:k=(i+j) / 2:=by omega
   have:=HZ.out; omega)
  go_wp2_with fail
  refine HLE.out.mono ?_;rintro _ _ ⟨rfl,rfl⟩;go_wp2_with fail
  go_roundw
  case rel=>exact⟨i,(i+j) / 2,by omega,by omega,rfl,by go_num,trivial,HLO.out,HN.out⟩
  case measure=>simp [intOf]; omega
 obtain rfl:i=j:=by omega
 have hno:∀ (k:Nat) (hk:k<zs.length),k≠i->zs[k]≠t:=fun k hk hne e=>by
  rcases Nat.lt_or_ge k i with q | q
  ·have:=HLO.out k hk q; omega
  have h1:i<zs.length:=by omega
  have:=HHI.out i h1 (zI _);have:=HP.out i k h1 hk (by omega);omega
 by_cases hin:i<n
 ·obtain⟨ad,u,hA,hadb,hxi,hcell⟩:=H.out.at_ hin;subst hA;have hil:i<zs.length:=by have:=HZN.out; omega
  have hu:u=.int .i64 zs[i]:=by
   rw [zG,zC hil] at hxi;injection hxi with hxi
   exact hxi.symm
  subst hu;have hinI:(i:Int)<(n:Int):=by omega
  by_cases hzt:zs[i]=t
  ·have hr:res=true:=by rw [HRES.out]; exact decide_eq_true (hzt▸List.getElem_mem hil)
   rw [hzt] at hcell;subst hr;clear hxi hno hzt;go_wp2_with fail
   go_ret2
   exact⟨i,rfl,rfl⟩
  have hr:res=false:=by
   rw [HRES.out];refine decide_eq_false fun hm=>?_
   obtain⟨k,hk,e⟩:=List.mem_iff_getElem.1 hm;rcases Nat.eq_or_lt_of_le (zI k) with _ | _
   ·by_cases hki:k=i
    ·subst hki; exact hzt e
    exact hno k hk hki e
   omega
  generalize zs[i]=z at hcell hzt;have hztb:(z == t)=false:=by simpa using hzt
  have HNA:=sH (Qbz z w);subst hr;clear hxi hno hzt;go_wp2_with fail
  refine HNA.out.mono ?_;rintro _ _ ⟨rfl,rfl⟩;go_wp2_with fail
  go_ret2
  exact⟨i,rfl,rfl⟩
 have hr:res=false:=by
  rw [HRES.out];refine decide_eq_false fun hm=>?_
  obtain⟨k,hk,e⟩:=List.mem_iff_getElem.1 hm;have:=HZN.out;exact hno k hk (by omega) e
 have hinI:¬ (i:Int)<(n:Int):=by omega
 subst hr;clear hno;go_wp2_with fail
 go_ret2
 exact⟨⟨i,rfl⟩,rfl⟩
theorem Q48 (f:Nat) (A:Option Addr) (n c:Nat) (zs:List Int) (t:Int) (w:zA) (h:Q04 w w.heap.size 1 A n (zs.map vn)) (hok:OkC f zs) :
 zF zH 88 #[.agg (crC f A n c),.int .i64 t] w fun e w'=>e=.returned (.bool (decide (t∈zs)))/\zD w.heap.size w w':=by
 have hzn:zs.length=n:=by have:=h.1; simpa using this
 have hs:=hok.short;have HX:=sH (Q02 w (.cells (crC f A n c) 69));have HK:=sH (Blk.newAt rfl:Blk (w.alloc (.cells (crC f A n c) 69)) w.heap.size 69 (crC f A n c));have hr1:=h.below HX.out;have HB:=sH (Q8k A n c zs t (w.alloc (.cells (crC f A n c) 69)) _ hr1 hok.pair (by omega));have HC:=sH (Q2o f A n c zs (w.alloc (.cells (crC f A n c) 69)) (hr1.more HX.out.size) (by omega));rw [Q7h hok,if_pos rfl] at HC;generalize decide (t∈zs)=res at HB ⊢;have hD:crC f A n c=#[.int .i64 (f:Int),.slice A n c]:=rfl;obtain⟨D,hDe⟩:∃ D,D=crC f A n c:=⟨_,rfl⟩;have hsz:D.size=2:=by rw [hDe]; rfl
 rw [<- hDe] at HX HK HB HC hD ⊢;clear h hr1 hok hDe;have HD:=sH hD;clear hD;obtain⟨g,hg⟩:∃ g,g=w.heap.size:=⟨_,rfl⟩;go_enter Tryz.func88,Tryz.ntmps88
 go_upto_region 1 with fail
 generalize World.alloc w _=w1 at HX HK HB HC ⊢;rw [<- hg] at HK ⊢;clear hg;have c1:w1.cell? ⟨g,1,none⟩=some (.slice A n c):=(HK.out.cell 1).trans (by rw [HD.out]; rfl);go_wp2_with fail
 refine HB.out.mono ?_;rintro _ _ ⟨i,rfl,rfl⟩;clear HB;go_wp2_with (refine Q01 (o:=⟨some 14,_,_,_,_,_⟩) rfl 69 (.tmp 2) rfl g 0 2 rfl 69 _ D _ HK.out Tryz.underlying69 rfl rfl hsz (fun _ _=>by rw [Nat.zero_add]; try rfl) ?_)
 refine HC.out.mono ?_;rintro _ w2 ⟨rfl,hb2⟩;have HB2:=sH (HX.out.trans (hb2.mono HX.out.size));clear hb2 HC;go_wp2_with fail
 go_ret
 exact⟨rfl,HB2.out⟩
end
end Go.Proofs.YtckjnbjiafgibaaGreat
