/- Parts of the proof, in one text. -/
import Derived.Test.YtcpngeiahgoacaaGreatM18
import Derived.Test.YtcpngeiahgoacaaGreatM6
import Derived.Test.YtcpngeiahgoacaaGreatM8
import Derived.BigRegion
import Derived.Test.YtcpngeiahgoacaaGreatM15
import Derived.Test.YtcpngeiahgoacaaGreatM13
import Derived.Test.YtcpngeiahgoacaaGreatM9
namespace Go.Proofs.YtcpngeiahgoacaaGreat
set_option linter.unusedVariables false
set_option linter.unusedSimpArgs false
set_option maxRecDepth 100000
set_option maxHeartbeats 16000000
open _root_.Go renaming World->zA,Value->zB
open _root_.Go.Proofs.Tryz renaming underlying22->zK,underlying77->zM
open _root_.Go.RowKit renaming Below->zD
open _root_.Go.RowKit.Below renaming refl->zG
open _root_.List renaming getElem?_eq_getElem->zC,length_append->zF,getD_eq_getElem?_getD->zH,getElem_mem->zI,length_cons->zJ,mem_of_getElem?->zL
open _root_.Nat renaming le_refl->zE
section
open Go.RowKit Go.Maps
attribute [local irreducible] wpList Q0h
theorem Q8r (A:Option Addr) (n c:Nat) (xss:LL) (w:zA) (hr:Q61 w w.heap.size A n xss) (hlx:∀ x,x∈xss->x.length<=1000000000000) :
 Calls Tryz.prog 50 #[.slice A n c] w (Qao w (Q3h xss)):=by
 have hxl:=hr.1;obtain⟨o,ho⟩:∃ o,o=Q3h xss:=⟨_,rfl⟩;rw [<- ho];have HO:=sH ho;clear ho;by_cases h6:n=6
 ·have h6b:((n:Int) != 6)=false:=by simp [h6]
  obtain⟨ad,hA,hadb,hcell⟩:=hr.2 (by omega);subst hA;have HXL:=sH (show xss.length=6 by omega);have HLX:=sH hlx;have HCELL:=sH (fun(W:zA) (hb:zD w.heap.size w W) (q:Nat) (hq:q<6)=>(show ∃ Ak mk ck,W.cell? (ad.add q)=some (.slice Ak mk ck)/\Q08 W w.heap.size 1 Ak mk ((xss.getD q []).map vb)/\mk<=ck/\mk<=1000000000000 from by
   have hqx:q<xss.length:=by omega
   obtain⟨Ak,mk,ck,h1,h2,h3⟩:=hcell q xss[q] (zC hqx);have e:xss.getD q []=xss[q]:=by rw [zH,zC hqx]; rfl
   rw [e];have hmk:xss[q].length=mk:=by have:=h2.1; simpa using this
   exact⟨Ak,mk,ck,(hb.cell (by rw [Q0a]; exact hadb)).trans h1,h2.below hb,h3,by have:=hlx _ (zI hqx); omega⟩))
  obtain⟨g6,hg⟩:∃ g,g=w.heap.size:=⟨_,rfl⟩;have HST:=sH (show NmSt w g6 xss 0 (w.alloc (.cells (sixV (fun _=>undef) 0) 154)) from⟨⟨fun _=>undef,Blk.newAt hg,fun j h=>by omega⟩,fun j h=>by omega,fun j h=>by omega,Q04 _ _,by omega⟩);rw [Qax] at HST;have hgw:w.heap.size<=g6:=by omega
  clear hr hlx hcell hxl;subst h6;go_enter Tryz.func50,Tryz.ntmps50
  go_upto_region 4 with fail
  generalize World.alloc w _=w1 at HST ⊢;rw [<- hg];clear hg;go_wp2_with fail
  go_loopw [5] (fun iv wr=>∃ i:Nat,i<=6/\iv=.int .i64 i/\NmSt w g6 xss i wr) (fun iv _=>6 - (intOf iv).toNat)
  case atStart=>exact⟨0,by omega,rfl,HST.out⟩
  obtain⟨i,hi,rfl,hst⟩:=hrel;have HS:=sH hst;have hlow:=hst.low.size;clear hst HST;by_cases hin:i<6
  ·skip;have hinI:(i:Int)<6:=by omega
   have h0I:(0:Int)<=(i:Int):=by omega
   obtain⟨Ak,mk,ck,h1,h2,h3,h4⟩:=HCELL.out wr HS.out.low i hin;have HNM:=sH (Q9e Ak mk ck (xss.getD i []) wr w.heap.size h2 hlow h3 h4);unfold Q99 at HNM;obtain⟨oq,hoq⟩:∃ q,q=Q2u (xss.getD i []):=⟨_,rfl⟩;rw [<- hoq] at HNM;have HOQ:=sH hoq;clear h2 hoq;go_wp2_with fail
   refine HNM.out.mono ?_;rintro _ w2 ⟨v,rfl,hown,hmx,hb2⟩;have hs2:=hb2.size;have HB2:=sH hb2;have HOW:=sH hown;have HMX:=sH hmx;obtain⟨Av,cv,hv,_⟩:=Q0i hown;obtain⟨ln,hln⟩:∃ q,q=(nI (oq.getD [])).length:=⟨_,rfl⟩;rw [<- hln] at hv;subst hv;clear hb2 hown hmx hln HNM h1;cases oq with
   | none =>
    have hon:o=none:=by
     rw [HO.out];refine Q5U fun hh=>?_
     have:=hh.2 i hin;rw [<- HOQ.out] at this;cases this
    subst hon;go_wp2_with fail
    go_ret2
    exact⟨HS.out.low.trans (HB2.out.mono hlow),fun _=>rfl,fun m hm=>by cases hm⟩
   | some l =>
    have hnf:numF xss i=l:=by unfold numF; rw [<- HOQ.out]; rfl
    have hpush:=HS.out.push (v:=.slice Av ln cv) HB2.out (by rw [hnf]; exact HOW.out) (by rw [hnf]; exact fun x hx=>HMX.out x (by simpa using hx)) (by rw [<- HOQ.out]; rfl);have HPU:=sH hpush;obtain⟨vs,hb6,_⟩:=(HS.out.below HB2.out).blk;have cc:w2.cell? ⟨g6,i,none⟩=some (.slice none 0 0):=(hb6.cell i).trans (by rw [Q3Y _ _ _ hin,if_neg (by omega)]);have cf:w2.frozen? ⟨g6,i,none⟩=false:=hb6.frozen i;clear hnf hpush hb6;go_wp2_with fail
    go_roundw
    case rel=>exact⟨i+1,by omega,by go_num,HPU.out⟩
    case measure=>simp [intOf]; omega
  obtain rfl:i=6:=by omega
  obtain⟨nch,hnch⟩:∃ q:Nat,q=if numF xss 1=[0] then 1 else 2:=⟨_,rfl⟩
  have HNCH:=sH hnch;have hn12:1<=nch/\nch<=2:=by rw [hnch]; split <;> omega
  clear hnch;obtain⟨vs,hsa⟩:=HS.out.sa;have HMX:=sH HS.out.max;have HGC:=sH (show Q3h xss=Q9V (numF xss) from Q8M HXL.out HS.out.is_);have HSA:=sH hsa;have hv1:=hsa.own 1 (by omega);have cc:=(hsa.blk.cell 1).trans (show _=some (vs 1) by rw [Q3Y _ _ _ (by omega),if_pos (by omega)]);obtain⟨u1,hu1⟩:∃ u,u=vs 1:=⟨_,rfl⟩;rw [<- hu1] at cc hv1;obtain⟨l1,hl1⟩:∃ l,l=numF xss 1:=⟨_,rfl⟩;have HNQ:=HNCH;rw [<- hl1] at hv1 HNQ;obtain⟨n1,hn1⟩:∃ q,q=l1.length:=⟨_,rfl⟩;clear hsa hu1 hl1 hlow;obtain⟨bq,hbq⟩:∃ b,b=decide (l1=[0]):=⟨_,rfl⟩;have hnq:nch=if bq=true then 1 else 2:=by
   rw [HNQ.out,hbq];by_cases h:l1=[0]
   ·rw [if_pos h,if_pos (decide_eq_true h)]
   rw [if_neg h,if_neg (by rw [decide_eq_false h]; simp)]
  have HNB:=sH hnq;clear hnq HNQ;go_upto_region 12 with fail
  go_cut [54] (fun s54 wx=>s54=.bool bq/\wx=wr)
  case first =>
   by_cases h1:n1=1
   ·obtain⟨g1,c1,hv,_,_,_,hcell⟩:=Q35 hv1 (by omega);have c0:=hcell 0 (by omega);rw [<- hn1] at hv;subst hv;obtain⟨x,hx⟩:∃ x,x=l1.getD 0 0:=⟨_,rfl⟩;rw [<- hx] at c0;have hl1:l1=[x]:=by
     match l1,hn1,hx with
     | [y],_,hx=>rw [hx]; rfl
     | [],hn1,_=>simp at hn1; omega
     | _ :: _ :: _,hn1,_=>simp at hn1; omega
    rw [hl1] at hbq;subst h1;clear hcell hv1 hn1 hx hl1 HNB;by_cases hx0:x=0
    ·have hxb:((x:Int) == 0)=true:=by simp [hx0]
     obtain rfl:bq=true:=by rw [hbq,decide_eq_true (by rw [hx0])]
     clear hx0 hbq;go_wp2_with fail
     go_meet
     exact⟨rfl,rfl⟩
    have hxb:((x:Int) == 0)=false:=by simp [hx0]
    obtain rfl:bq=false:=by rw [hbq,decide_eq_false (fun e=>hx0 (by simpa using e))]
    clear hx0 hbq;go_wp2_with fail
    go_meet
    exact⟨rfl,rfl⟩
   have h1b:((n1:Int) == 1)=false:=by simp; omega
   obtain⟨A1,c1,hv,_⟩:=Q0i hv1;rw [Q1U,<- hn1] at hv;subst hv;obtain rfl:bq=false:=by rw [hbq,decide_eq_false (fun e=>h1 (by rw [hn1,e]; rfl))]
   clear hbq hn1 hv1 HNB h1;go_wp2_with fail
   go_meet
   exact⟨rfl,rfl⟩
  obtain⟨rfl,rfl⟩:=hcut;clear cc hv1 hn1 HS hbq;obtain⟨wq,hwq⟩:∃ x,x=wc:=⟨_,rfl⟩;rw [<- hwq];rw [<- hwq] at HSA;clear hwq
  go_upto_if 54 with(fail)
  go_cut [8] (fun s8 wx=>s8=.int .i64 (nch:Int)/\wx=wq)
  case first =>
   have hnb:=HNB.out;cases bq with
   | true =>
    simp only [if_true] at hnb;subst hnb;go_wp2_with fail
    go_meet
    exact⟨rfl,rfl⟩
   | false =>
    simp only [Bool.false_eq_true,if_false] at hnb;subst hnb;go_wp2_with fail
    go_meet
    exact⟨rfl,rfl⟩
  obtain⟨rfl,rfl⟩:=hcut;have hwl:=HSA.out.low.size;have hg6l:=HSA.out.blk.lt;obtain⟨g10,hg10⟩:∃ g,g=wc.heap.size:=⟨_,rfl⟩;have hcs:RcS w g6 g10 xss vs (fun _=>none) (fun _=>0) 0 (.slice none 0 0) (wc.alloc (.cells (frV xss 0) 162)):=⟨HSA.out.below (Q04 _ _),⟨by simp [Q1S],.inl ⟨rfl,rfl⟩⟩,Blk.newAt hg10,fun j h=>by omega,by omega,by omega⟩;rw [frV_zero] at hcs;have HCS:=sH hcs;clear hcs HSA HCELL;go_upto_region 16 with fail
  generalize World.alloc wc _=wd at HCS ⊢;rw [<- hg10];clear hg10;go_wp2_with fail
  go_loopw [9,11] (fun cv iv wr=>∃ i:Nat,i<=nch/\iv=.int .i64 i/\∃ fA fC,RcS w g6 g10 xss vs fA fC i cv wr) (fun _ iv _=>nch - (intOf iv).toNat)
  case atStart=>exact⟨0,by omega,rfl,_,_,HCS.out⟩
  obtain⟨i,hi,rfl,fA,fC,hcs⟩:=hrel;obtain⟨w3,rfl⟩:∃ x,x=wr:=⟨_,rfl⟩;have HC3:=sH hcs;have hlow3:=hcs.sa.low.size;clear HCS;by_cases hin:i<nch
  ·skip;have hinI:(i:Int)<(nch:Int):=by omega
   have h0I:(0:Int)<=(i:Int):=by omega
   have hi2:i<2:=by omega
   have hown:=hcs.sa.own i (by omega);obtain⟨Ai,ci,hvi,_⟩:=Q0i hown;obtain⟨ni,hni⟩:∃ q,q=(nI (numF xss i)).length:=⟨_,rfl⟩;rw [<- hni] at hvi;have hnl:=Q5Y xss i;have hnx:(xss.getD i []).length<=1000000000000:=by rw [zH,zC (by have:=HXL.out; omega)];exact HLX.out _ (zI _)
   have HF:=sH (Qbl (vs i) (numF xss i) w3 w.heap.size hown (by omega) (HMX.out i (by omega)));unfold Q8H at HF;have cc:w3.cell? ⟨g6,i,none⟩=some (vs i):=(hcs.sa.blk.cell i).trans (by rw [Q3Y _ _ _ (by omega),if_pos (by omega)]);obtain⟨u,hu⟩:∃ u,u=vs i:=⟨_,rfl⟩;rw [<- hu] at HF cc hvi;subst hvi;clear hcs hown hni hnl hnx hu;go_wp2_with fail
   refine HF.out.mono ?_;rintro e4 w4 ⟨hb4,hno,hso⟩;cases hq:Q26 (numF xss i) with
   | none =>
    have he:=hno hq;subst he;have hon:o=none:=by rw [HO.out,HGC.out]; exact Q9T HNCH.out hin hq
    subst hon;have hlw:=HC3.out.sa.low.trans (hb4.mono hlow3);have hs4:=hb4.size;have HLW:=sH hlw;clear hb4 hno hso hq HF cc hlw;go_wp2_with (refine Q00 (o:=⟨none,_,_,_,_,_⟩) rfl 77 (.tmp 12) (.tmp 65) rfl w4.heap.size 0 (crC 0 none 0 0) rfl rfl 77 (crC 0 none 0 0) (Blk.newAt rfl) (by kernel_rfl) (by simp [crC]) (by simp [crC,Value.oneCell']) ?_; intro w5 hT5 hD5)
    go_ret2
    exact⟨hT5.below (HLW.out.alloc (by omega) _) (by omega),fun _=>rfl,fun m hm=>by cases hm⟩
   | some q =>
    obtain⟨f,A1,c1,hf,hf2,hl1,he,ho4⟩:=hso q hq;subst he;have hfq:fstF xss i=q:=by unfold fstF; rw [hq]; rfl
    rw [<- hl1,<- hfq];rw [<- hfq] at hf hl1 ho4 hq;have HQ:=sH hq;have HO4:=sH (OwnN.more (B':=w.heap.size) ho4 hlow3);obtain⟨E,hE⟩:∃ E,E=crC f A1 (fstF xss i).1.2.length c1:=⟨_,rfl⟩;have hes:E.size=2:=by rw [hE]; rfl
    have he1:E.all (·.oneCell')=true:=by rw [hE]; exact Q1h _ _ _ _
    rw [<- hE];have HER:=sH (show E.toList=Q5G (fstF xss i) A1 c1 from by rw [hE]; unfold Q5G; rw [hf]; rfl);have HB4:=sH hb4;have hs4:=hb4.size;obtain⟨n2,hn2⟩:∃ k,k=2+(fstF xss i).1.2.length:=⟨_,rfl⟩;rw [<- hn2];have HN2:=sH hn2;have hfold:Array.foldl (fun(cs:Array zB) (x:zB×Nat)=>cs.setIfInBounds x.snd x.fst) #[Value.int .i64 0,Value.slice none 0 0] E.zipIdx 0 2=E:=by rw [hE]; rfl
    have HFO:=sH hfold;clear hno hso hq hfq hf hl1 ho4 hE HF cc hn2 hb4 hfold;go_upto_region 22 with(refine Q00 (o:=⟨none,_,_,_,_,_⟩) rfl 77 (.tmp 12) (.tmp 65) rfl w4.heap.size 0 E rfl rfl 77 #[.int .i64 0,.slice none 0 0] (Blk.newAt rfl) (by rw [hes]; kernel_rfl) (by rw [hes]; simp) he1 ?_; intro w5 hT5 hD5)
    rw [Q0c _ _ (by rw [hes]; rfl)] at hD5;have hb5:zD w4.heap.size w4 w5:=hT5.below ((zG _ _).alloc (zE _) _) (zE _);obtain⟨g12,hg12⟩:∃ b,b=w4.heap.size:=⟨_,rfl⟩;rw [<- hg12] at hD5 ⊢;have hs5:=hb5.size;have K12:=sH hD5;have HB5:=sH (HB4.out.trans (hb5.mono hs4));have hb6:=Q04 w5 (.cells E 77);have HB6:=sH (HB5.out.trans (hb6.mono (by omega)));have HC6:=sH (HC3.out.below HB6.out);have HO6:=sH ((HO4.out.below_ hb5).below_ hb6);have HROW6:=sH HC6.out.row;have HRD6:=sH (Q4R w5 E hes);obtain⟨i0,hi0,hz0,hz1,hz2⟩:=info_parts Q74;have hlt5:=hD5.lt;have hfold:=HFO.out;have hi40:i<=40:=by omega
    have hlw6:=HC6.out.sa.low.size;simp only [World.alloc] at hlw6;clear hT5 hD5 hg12 hb5 hb6 HB4;go_wp2_with (first
     | refine Q01 (o:=⟨some 71,_,_,_,_,_⟩) rfl 77 (.tmp 12) rfl g12 0 2 rfl 77 _ E _ K12.out zM rfl rfl hes (fun _ _=>by rw [Nat.zero_add]) ?_
     | (at_builtin; go_must (refine Q03 _ rfl (.tmp 70) (.tmp 72) 74 rfl w.heap.size 77 i0 _ 2 32 Tryz.underlying74 hi0 hz0 hz1 hz2 rfl (by omega) _ _ _ rfl HROW6.out _ (some ⟨w5.heap.size,0,none⟩) 1 1 E.toList rfl HRD6.out ?d1 ?d2 ?d3 ?d4 ?_)))
    case d1=>exact fun u hu=>(Array.all_eq_true'.1 he1) u (by simpa using hu)
    case d2=>unfold maxLen; omega
    case d3=>first | omega | (simp; omega)
    case d4=>first | omega | (simp; omega)
    intro v6 w6 hown6 hg6' hor6;have hpu:=HC3.out.push HB6.out (by rw [<- HER.out]; exact hown6) hg6' HQ.out HO6.out;rw [<- HN2.out] at hpu;have HPU:=sH hpu;have n10:=Q05 HC6.out.row HC6.out.arr (by decide);have a2:Blk w6 g10 162 (frV xss i):=(hg6'.block g10 HC6.out.arr.lt (fun e=>n10 e.symm)).trans HC6.out.arr;have ca:w6.cell? ⟨g10,i,none⟩=some (.int .i64 0):=(a2.cell i).trans (by rw [frV_at _ _ _ hi2,if_neg (by omega)]);have cf:w6.frozen? ⟨g10,i,none⟩=false:=a2.frozen i;clear hown6 hg6' hor6 hpu n10 a2 HROW6 HRD6 hfold;go_wp2_with fail
    go_roundw
    case rel=>(repeat apply Exists.intro); exact⟨⟨i+1,by omega,by go_num,_,_,HPU.out⟩,rfl⟩
    case measure=>simp [intOf]; omega
  obtain rfl:nch=i:=by omega
  obtain⟨Ac,cc,hcv,hcr⟩:=HC3.out.crews;subst hcv;obtain⟨cl,hcl⟩:∃ l,l=(List.range nch).map (fun j=>(fstF xss j).1):=⟨_,rfl⟩;obtain⟨mv,hmv⟩:∃ f:Nat->List Int,f=fun j=>if j<nch then(fstF xss j).2 else []:=⟨_,rfl⟩
  have hgo:Q3h xss=Q6M cl mv (numF xss):=by rw [HGC.out,hcl,hmv]; exact Q92 HNCH.out (fun j hj=>(HC3.out.ok j hj).1)
  rw [<- hcl] at hcr;have HGO:=sH hgo;have HMV:=sH hmv;have HCL:=sH hcl;have HNW:=sH (QdC Ac nch cc cl w3 hcr.in_ (by omega));unfold Q71 at HNW;clear hcr hgo hmv hcl hcs hin hi;go_wp2_with fail
  refine HNW.out.mono ?_;rintro e4 w4 ⟨hb4,hno,hso⟩;have hs4:=hb4.size;cases hq:Q24 cl with
  | none =>
   have he:=hno (by unfold newQ; rw [hq]; rfl);subst he;have hon:o=none:=by rw [HO.out,HGO.out]; unfold Q6M; rw [hq]
   subst hon;have HLW:=sH (HC3.out.sa.low.trans (hb4.mono hlow3));clear hb4 hno hso hq HNW;go_wp2_with fail
   go_ret2
   exact⟨HLW.out,fun _=>rfl,fun m hm=>by cases hm⟩
  | some acc =>
   obtain⟨g,he,hgB,hdat⟩:=hso (Q0G acc) (by unfold newQ; rw [hq]; rfl);subst he;obtain⟨hck,hbare,hlen⟩:=Q5n hq;obtain⟨T,hT⟩:∃ T,T=totQ acc mv:=⟨_,rfl⟩;have HOC:=sH (show Q3h xss=endQ T (numF xss) from by rw [HGO.out,QbY hq,hT]);have HOH:=sH (show RoH w3 g nch T mv 0 acc w4 from⟨hdat,hb4,by rw [hlen,HCL.out]; simp,by rw [hT,QaH],fun j s _ hs=>hbare s (zL hs)⟩);have HSW:=sH (fun(W:zA) (hb:zD w3.heap.size w3 W)=>HC3.out.below hb);have HQS:=sH (fun(j:Nat) (hj:j<nch)=>QcN (HC3.out.ok j hj).1);have HMS:=sH (show ∀ j,j<nch->mv j=(fstF xss j).2/\(mv j).length<=42 from fun j hj=>by rw [HMV.out]; simp only [if_pos hj]; exact⟨trivial,(Q4S (HC3.out.ok j hj).1).2⟩);have HME:=sH (show ∀ j,nch<=j->mv j=[] from fun j hj=>by rw [HMV.out]; simp only [if_neg (show ¬ j<nch by omega)]);have HLWW:=sH HC3.out.sa.low;clear hb4 hno hso hq HNW hck hbare hlen hT hdat HMV HCL HGO HGC HNCH;go_wp2_with fail
   go_loopw [17] (fun iv wr=>∃ (i:Nat) (cs:List Srv),i<=nch/\iv=.int .i64 i/\RoH w3 g nch T mv i cs wr) (fun iv _=>nch - (intOf iv).toNat)
   case atStart=>exact⟨0,acc,by omega,rfl,HOH.out⟩
   clear HOH
   obtain⟨i,cs,hi,rfl,hoh⟩:=hrel;have HH:=sH hoh;have hlowr:=hoh.low.size;by_cases hin:i<nch
   ·skip;have hinI:(i:Int)<(nch:Int):=by omega
    have hi2:i<2:=by omega
    have hI6:(i:Int)<6:=by omega
    have hI2:(i:Int)<2:=by omega
    have h0I:(0:Int)<=(i:Int):=by omega
    obtain⟨fr,hfr⟩:∃ k,k=2+(fstF xss i).1.2.length:=⟨_,rfl⟩;have c10:=((HSW.out wr hoh.low).arr.cell i).trans (show _=some (.int .i64 (fr:Int)) by rw [frV_at _ _ _ hi2,if_pos hin,hfr]);obtain⟨hq1,hq2,hq3⟩:=HQS.out i hin;rw [<- hfr] at hq1 hq2 hq3;obtain⟨l,hl⟩:∃ l,l=numF xss i:=⟨_,rfl⟩;rw [<- hl] at hq1 hq2 hq3;obtain⟨hm1,hm2⟩:=HMS.out i hin;obtain⟨gi,ci,hv,hgiB,hcic,_,hcell⟩:=Q35 (HC3.out.sa.own i (by omega)) (by rw [<- hl]; omega);rw [<- hl] at hv hcell hcic;obtain⟨ni,hni⟩:∃ q,q=l.length:=⟨_,rfl⟩;rw [<- hni] at hv hcell hcic hq2 hq3;have hgil:gi<w3.heap.size:=(Q07 (HC3.out.sa.own i (by omega)) (by rw [hv]; rfl)).2;have HC6:=sH (show w3.cell? ⟨g6,i,none⟩=some (.slice (some ⟨gi,0,none⟩) ni ci) from by rw [<- hv]; exact(HC3.out.sa.blk.cell i).trans (by rw [Q3Y _ _ _ (by omega),if_pos (by omega)]));have HCE:=sH hcell;have HNI:=sH hni;have HQ1:=sH (hm1.trans hq1);have HM2:=sH hm2;have hg63:=HC3.out.sa.blk.lt;have hstart:RoM w3 g nch T mv i cs (nI (l.drop fr)) wr:=by have:=hoh.enter hi2 hm2; rw [hm1.trans hq1] at this; exact this
    have HST:=sH hstart;have hnn:ni<=1000000000000:=by
     rw [hni,hl];have:=Q5Y xss i;have:(xss.getD i []).length<=1000000000000:=by rw [zH,zC (by have:=HXL.out; omega)];exact HLX.out _ (zI _)
     omega
    clear hv hcell hni hfr hm1 hm2 hq1 hstart hl hoh hgiB hcic;go_wp2_with fail
    clear c10;go_loopw [18] (fun kv wr'=>∃ (k:Nat) (cs:List Srv),kv=.int .i64 k/\fr<=k/\k<=ni/\(ni - k) % 2=0/\RoM w3 g nch T mv i cs (nI (l.drop k)) wr') (fun kv _=>ni - (intOf kv).toNat)
    case atStart=>exact⟨fr,cs,rfl,zE _,hq3,hq2,HST.out⟩
    clear HST
    obtain⟨k,cs,rfl,hkf,hkn,hpar,hrm⟩:=hrel;have HRM:=sH hrm;have hlq:=hrm.low.size;have HCQ6:=sH ((hrm.low.cell (p:=⟨g6,i,none⟩) hg63).trans HC6.out);by_cases hk1:k<ni
    ·have hk2:k+1<ni:=by omega
     have HKN:=sH (show (k:Int)<(ni:Int) by omega);have HKN1:=sH (show (k:Int)+1<(ni:Int) by omega);have HKN2:=sH (show (0:Int)<=(k:Int)+1 by omega);have hkI:=HKN.out;have c6:=HCQ6.out;have HI6:=sH hI6;have HI2:=sH hI2;have HWK:=sH (show IntKind.i64.wrap ((k:Int)+1)=(k:Int)+1 from IntWalk.i64_in _ (by omega));have co:=HCE.out k hk1;have cz:=HCE.out (k+1) hk2;have hkl:k<l.length:=by rw [<- HNI.out]; exact hk1
     have hk2l:k+1<l.length:=by rw [<- HNI.out]; exact hk2
     have hrest:nI (l.drop k)=((l.getD k 0:Nat):Int) :: ((l.getD (k+1) 0:Nat):Int) :: nI (l.drop (k+2)):=by rw [List.drop_eq_getElem_cons hkl,List.drop_eq_getElem_cons hk2l,zH,zH,zC hkl,zC hk2l];rfl
     obtain⟨o',ho'⟩:∃ x:Int,x=((l.getD k 0:Nat):Int):=⟨_,rfl⟩;obtain⟨z,hz⟩:∃ x:Int,x=((l.getD (k+1) 0:Nat):Int):=⟨_,rfl⟩;rw [<- ho',<- hz] at hrest;rw [<- ho'] at co;rw [<- hz] at cz;rw [hrest] at hrm;have HRM:=sH hrm;have hil:i<cs.length:=by rw [hrm.len]; exact hin
     have hsi:=zC hil;generalize cs[i]=s at hsi;obtain⟨S,hd,hap⟩:=hrm.dat;have hbnd:=hrm.bnd s hsi;have hl20:s.moves.length<=20:=by simp only [zJ] at hbnd; omega
     have hsi':(Q0G cs).chunks[i]?=some s:=hsi;have HCRW:=sH (Q77 wr g i _ (Q0G cs) S s hd hsi');unfold Q25 at HCRW;have HCO:=sH co;have HCZ:=sH cz;have HD:=sH hd;have HAP:=sH hap;have HSI:=sH hsi;have HL20:=sH hl20;clear hrm hrest ho' hz hsi' hd hap hbnd co cz hkl hk2l hsi hl20 hil;go_wp2_with fail
     refine HCRW.out.mono ?_;rintro _ w6 ⟨v,nA,nC,rfl,hown,hb6⟩;have hs6:=hb6.size;have HB6:=sH hb6;have hsok:=HD.out.ok.srv s (zL HSI.out);obtain⟨gl,cl,Ai,cai,C,cur,hv,hC,hCs,hBL,hCV,hrdn⟩:=RAWr.crewsAt_ (g:=g) (m:=Q0G cs) hsok hown;subst hv;have hnok:=hsok.now_ok;have HHS':=fun(W:zA) (hb:zD w6.heap.size w6 W)=>Qau (s.f:Int) Ai s.now.length cai s.now o' W w6.heap.size (hrdn.below hb) hb.size (by have:=hnok.short; omega)
     rw [Q4a hnok] at HHS';simp only [Bool.true_and] at HHS';rw [<- hC] at HHS';have hsf:=HD.out.same s (zL HSI.out);have HUS':=fun(W:zA) (hb:zD w6.heap.size w6 W)=>Qdd W g _ (Q0G cs) S z ((HD.out.below HB6.out).below hb)
     rw [<- hsf] at HUS';obtain⟨ub,hub⟩:∃ b,b=Q0S (Q0G cs).chunks s.f z:=⟨_,rfl⟩;rw [<- hub] at HUS';have HASK:=sH (Qde (o:=o') (z:=z) (zL HSI.out));obtain⟨mn,hmn⟩:∃ q,q=s.moves.length:=⟨_,rfl⟩;rw [<- hmn] at hCV ⊢;have HMN:=sH hmn;have HMN1:=sH (show (mn:Int)<(mn:Int)+1 by omega);have HWM:=sH (show IntKind.i64.wrap (mn:Int)=(mn:Int) from IntWalk.i64_in _ (by have:=HL20.out; omega));have HUB:=sH hub;have HHAS:=sH HHS';have HUS:=sH HUS';have HBL:=sH hBL;have HCV:=sH hCV;have HCS:=sH hCs;have hlow6:=HRM.out.low.trans (hb6.mono hlq);have C6:=sH (fun(W:zA) (hb:zD w6.heap.size w6 W)=>((hlow6.trans (hb.mono hlow6.size)).cell (p:=⟨g6,i,none⟩) hg63).trans HC6.out);have CO:=sH (fun(W:zA) (hb:zD w6.heap.size w6 W)=>((hlow6.trans (hb.mono hlow6.size)).cell (p:=⟨gi,k,none⟩) hgil).trans HCO.out);have CZ:=sH (fun(W:zA) (hb:zD w6.heap.size w6 W)=>((hlow6.trans (hb.mono hlow6.size)).cell (p:=⟨gi,k+1,none⟩) hgil).trans HCZ.out);have HLW6:=sH (HLWW.out.trans (hlow6.mono HLWW.out.size));clear hlow6 hown hb6 hsok hC hCs hBL hCV hrdn hnok HHS' hsf HUS' hub hmn c6 hkI;go_upto_region 34 with fail
     by_cases ho1:o'∈s.now
     ·rw [decide_eq_true ho1] at HHAS;have HHS:=HHAS;by_cases hz28:28<z
      ·have HZZ:=sH hz28;refine Q0m 34 194 (fun jx W v=>match jx with | 0=>v=.slice (some ⟨gl,0,none⟩) (mn+1) cl | 1=>v=.slice (some ⟨gl,0,none⟩) (mn+1) cl | 2=>v=.int .i64 ((mn:Int)+1) | 3=>v=.int .i64 (mn:Int) | 4=>v=.pointer (some ⟨gl,mn*2,none⟩) | 5=>v=.agg C | 6=>v=.int .i64 (i:Int) | 7=>v=.pointer (some ⟨g6,i,none⟩) | 8=>v=.slice (some ⟨gi,0,none⟩) ni ci | 9=>v=.int .i64 (k:Int) | 10=>v=.pointer (some ⟨gi,k,none⟩) | 11=>v=.int .i64 o' | 12=>v=.bool true | 13=>v=.bool false | 14=>v=.bool false | 15=>v=.int .i64 (i:Int) | 16=>v=.pointer (some ⟨g6,i,none⟩) | 17=>v=.slice (some ⟨gi,0,none⟩) ni ci | 18=>v=.int .i64 (k:Int) | 19=>v=.int .i64 ((k:Int)+1) | 20=>v=.pointer (some ⟨gi,k+1,none⟩) | 21=>v=.int .i64 z | 22=>v=.bool true | 23=>v=.bool true | 24=>v=.bool true | 25=>v=undef | 26=>v=undef | 27=>v=undef | 28=>v=undef | 29=>v=undef | 30=>v=undef | 31=>v=undef | 32=>v=undef | 33=>v=undef | _=>True) [104,105,106,107,108,109,110,111,112,113,114,115,116,117,118,119,120,121,122,123,124,125,126,127,128,129,130,131,132,133,134,135,136,137] (by kernel_rfl) (by kernel_rfl) (by kernel_rfl) (by first | rfl | simp) (by kernel_rfl) (fun jx=>?last) ?heads ?_
       case last =>
        match jx with
        | 0 | 1 | 2 | 3 | 4 | 5 | 6 | 7 | 8 | 9 | 10 | 11 | 12 | 13 | 14 | 15 | 16 | 17 | 18 | 19 | 20 | 21 | 22 | 23 | 24 | 25 | 26 | 27 | 28 | 29 | 30 | 31 | 32 | 33 | jx+34=>exact Q15.pure _
       case heads =>
        simp only [tT];and_intros;rotate_right;trivial;all_goals intro a W hb hkp hd
        iterate 2 ·have e0:(_:zB)=.slice (some ⟨gl,0,none⟩) (mn+1) cl:=sK hkp 19;exact sV
        ·have e0:=sJ (hd 1) 105;exact sV
        ·have e0:=sJ (hd 2) 106;have hw:=HWM.out;exact sV
        ·have e0:=sJ (hd 0) 104;have e1:=sJ (hd 3) 107;have hlt:=HMN1.out;exact sV
        ·have e0:=sJ (hd 4) 108;have e0':a.eval (.tmp 108)=.pointer (some ⟨gl,mn*2,none⟩):=by simpa [Act.eval] using e0
         exact Q0j rfl (.agg C) (Q0p 77 (.tmp 108) rfl gl (mn*2) 2 e0' 77 _ C _ (HBL.out.below' hb) zM rfl rfl HCS.out HCV.out) rfl
        ·have e0:(_:zB)=.int .i64 (i:Int):=sK hkp 17;exact sV
        ·have e0:(_:zB)=.pointer (some ⟨g6,0,none⟩):=sK hkp 4;have e1:=sJ (hd 6) 110;have hlt:=HI6.out;exact sV
        ·have e0:=sJ (hd 7) 111;have cc:=C6.out W hb;exact sV
        ·have e0:(_:zB)=.int .i64 (k:Int):=sK hkp 18;exact sV
        ·have e0:=sJ (hd 8) 112;have e1:=sJ (hd 9) 113;have hlt:=HKN.out;exact sV
        ·have e0:=sJ (hd 10) 114;have cc:=CO.out W hb;exact sV
        ·have e0:=sJ (hd 5) 109;have e1:=sJ (hd 11) 115;have e0:=sJ (hd 5) 109;have e1:=sJ (hd 11) 115;exact Q0u rfl 108 #[.agg C,.int .i64 o'] (by go_simp) ((HHS.out W hb).mono fun e w h=>⟨_,h.1,h.2,rfl⟩)
        ·have e0:=sJ (hd 12) 116;exact sV
        ·have e0:=sJ (hd 13) 117;exact sV
        ·have eg:=sJ (hd 14) 118;have e0:(_:zB)=.int .i64 (i:Int):=sK hkp 17;exact sV (Q02 rfl rfl eg)
        ·have eg:=sJ (hd 14) 118;have e0:(_:zB)=.pointer (some ⟨g6,0,none⟩):=sK hkp 4;have e1:=sJ (hd 15) 119;have hlt:=HI6.out;exact sV (Q02 rfl rfl eg)
        ·have eg:=sJ (hd 14) 118;have e0:=sJ (hd 16) 120;have cc:=C6.out W hb;exact sV (Q02 rfl rfl eg)
        ·have eg:=sJ (hd 14) 118;have e0:(_:zB)=.int .i64 (k:Int):=sK hkp 18;exact sV (Q02 rfl rfl eg)
        ·have eg:=sJ (hd 14) 118;have e0:=sJ (hd 18) 122;have hw:=HWK.out;exact sV (Q02 rfl rfl eg)
        ·have eg:=sJ (hd 14) 118;have e0:=sJ (hd 17) 121;have e1:=sJ (hd 19) 123;have hlt:=HKN1.out;have hlt2:=HKN2.out;exact sV (Q02 rfl rfl eg)
        ·have eg:=sJ (hd 14) 118;have e0:=sJ (hd 20) 124;have cc:=CZ.out W hb;exact sV (Q02 rfl rfl eg)
        ·have eg:=sJ (hd 14) 118;have e0:=sJ (hd 21) 125;have hz:=HZZ.out;exact sV (Q02 rfl rfl eg)
        ·have e0:=sJ (hd 14) 118;have e1:=sJ (hd 22) 126;exact sV
        ·have e0:=sJ (hd 23) 127;exact sV
        iterate 9 ·have eg:=sJ (hd 24) 128;exact Q2n (Q1t rfl rfl eg rfl) rfl
       intro f7 W hbW hd7;have f128:f7 128=.bool true:=hd7 24 (by omega) _ 128 rfl rfl;have f137:f7 137=undef:=hd7 33 (by omega) _ 137 rfl rfl;have HLW:=sH (HLW6.out.trans (hbW.mono HLW6.out.size));have HBW:=sH hbW;clear hd7 hbW;simp only [Q0F,tU,f128,f137];try simp only [Act.put,sA]
       have hon:o=none:=by rw [HO.out,HOC.out,HRM.out.fail HSI.out (fun hh=>absurd ((HASK.out.1 hh).2.1) (by have:=HZZ.out; omega))]; rfl
       subst hon;go_wp2_with fail
       go_ret2
       exact⟨HLW.out,fun _=>rfl,fun m hm=>by cases hm⟩
      have HZZ:=sH hz28;refine Q0m 34 194 (fun jx W v=>match jx with | 0=>v=.slice (some ⟨gl,0,none⟩) (mn+1) cl | 1=>v=.slice (some ⟨gl,0,none⟩) (mn+1) cl | 2=>v=.int .i64 ((mn:Int)+1) | 3=>v=.int .i64 (mn:Int) | 4=>v=.pointer (some ⟨gl,mn*2,none⟩) | 5=>v=.agg C | 6=>v=.int .i64 (i:Int) | 7=>v=.pointer (some ⟨g6,i,none⟩) | 8=>v=.slice (some ⟨gi,0,none⟩) ni ci | 9=>v=.int .i64 (k:Int) | 10=>v=.pointer (some ⟨gi,k,none⟩) | 11=>v=.int .i64 o' | 12=>v=.bool true | 13=>v=.bool false | 14=>v=.bool false | 15=>v=.int .i64 (i:Int) | 16=>v=.pointer (some ⟨g6,i,none⟩) | 17=>v=.slice (some ⟨gi,0,none⟩) ni ci | 18=>v=.int .i64 (k:Int) | 19=>v=.int .i64 ((k:Int)+1) | 20=>v=.pointer (some ⟨gi,k+1,none⟩) | 21=>v=.int .i64 z | 22=>v=.bool false | 23=>v=.bool false | 24=>v=.bool false | 25=>v=.pointer (some ⟨g,0,none⟩) | 26=>v=.int .i64 (i:Int) | 27=>v=.pointer (some ⟨g6,i,none⟩) | 28=>v=.slice (some ⟨gi,0,none⟩) ni ci | 29=>v=.int .i64 (k:Int) | 30=>v=.int .i64 ((k:Int)+1) | 31=>v=.pointer (some ⟨gi,k+1,none⟩) | 32=>v=.int .i64 z | 33=>v=.bool ub | _=>True) [104,105,106,107,108,109,110,111,112,113,114,115,116,117,118,119,120,121,122,123,124,125,126,127,128,129,130,131,132,133,134,135,136,137] (by kernel_rfl) (by kernel_rfl) (by kernel_rfl) (by first | rfl | simp) (by kernel_rfl) (fun jx=>?last) ?heads ?_
      case last =>
       match jx with
       | 0 | 1 | 2 | 3 | 4 | 5 | 6 | 7 | 8 | 9 | 10 | 11 | 12 | 13 | 14 | 15 | 16 | 17 | 18 | 19 | 20 | 21 | 22 | 23 | 24 | 25 | 26 | 27 | 28 | 29 | 30 | 31 | 32 | 33 | jx+34=>exact Q15.pure _
      case heads =>
       simp only [tT];and_intros;rotate_right;trivial;all_goals intro a W hb hkp hd
       iterate 2 ·have e0:(_:zB)=.slice (some ⟨gl,0,none⟩) (mn+1) cl:=sK hkp 19;exact sV
       ·have e0:=sJ (hd 1) 105;exact sV
       ·have e0:=sJ (hd 2) 106;have hw:=HWM.out;exact sV
       ·have e0:=sJ (hd 0) 104;have e1:=sJ (hd 3) 107;have hlt:=HMN1.out;exact sV
       ·have e0:=sJ (hd 4) 108;have e0':a.eval (.tmp 108)=.pointer (some ⟨gl,mn*2,none⟩):=by simpa [Act.eval] using e0
        exact Q0j rfl (.agg C) (Q0p 77 (.tmp 108) rfl gl (mn*2) 2 e0' 77 _ C _ (HBL.out.below' hb) zM rfl rfl HCS.out HCV.out) rfl
       ·have e0:(_:zB)=.int .i64 (i:Int):=sK hkp 17;exact sV
       ·have e0:(_:zB)=.pointer (some ⟨g6,0,none⟩):=sK hkp 4;have e1:=sJ (hd 6) 110;have hlt:=HI6.out;exact sV
       ·have e0:=sJ (hd 7) 111;have cc:=C6.out W hb;exact sV
       ·have e0:(_:zB)=.int .i64 (k:Int):=sK hkp 18;exact sV
       ·have e0:=sJ (hd 8) 112;have e1:=sJ (hd 9) 113;have hlt:=HKN.out;exact sV
       ·have e0:=sJ (hd 10) 114;have cc:=CO.out W hb;exact sV
       ·have e0:=sJ (hd 5) 109;have e1:=sJ (hd 11) 115;have e0:=sJ (hd 5) 109;have e1:=sJ (hd 11) 115;exact Q0u rfl 108 #[.agg C,.int .i64 o'] (by go_simp) ((HHS.out W hb).mono fun e w h=>⟨_,h.1,h.2,rfl⟩)
       ·have e0:=sJ (hd 12) 116;exact sV
       ·have e0:=sJ (hd 13) 117;exact sV
       ·have eg:=sJ (hd 14) 118;have e0:(_:zB)=.int .i64 (i:Int):=sK hkp 17;exact sV (Q02 rfl rfl eg)
       ·have eg:=sJ (hd 14) 118;have e0:(_:zB)=.pointer (some ⟨g6,0,none⟩):=sK hkp 4;have e1:=sJ (hd 15) 119;have hlt:=HI6.out;exact sV (Q02 rfl rfl eg)
       ·have eg:=sJ (hd 14) 118;have e0:=sJ (hd 16) 120;have cc:=C6.out W hb;exact sV (Q02 rfl rfl eg)
       ·have eg:=sJ (hd 14) 118;have e0:(_:zB)=.int .i64 (k:Int):=sK hkp 18;exact sV (Q02 rfl rfl eg)
       ·have eg:=sJ (hd 14) 118;have e0:=sJ (hd 18) 122;have hw:=HWK.out;exact sV (Q02 rfl rfl eg)
       ·have eg:=sJ (hd 14) 118;have e0:=sJ (hd 17) 121;have e1:=sJ (hd 19) 123;have hlt:=HKN1.out;have hlt2:=HKN2.out;exact sV (Q02 rfl rfl eg)
       ·have eg:=sJ (hd 14) 118;have e0:=sJ (hd 20) 124;have cc:=CZ.out W hb;exact sV (Q02 rfl rfl eg)
       ·have eg:=sJ (hd 14) 118;have e0:=sJ (hd 21) 125;have hz:=HZZ.out;exact sV (Q02 rfl rfl eg)
       ·have e0:=sJ (hd 14) 118;have e1:=sJ (hd 22) 126;exact sV
       ·have e0:=sJ (hd 23) 127;exact sV
       ·have eg:=sJ (hd 24) 128;have e0:(_:zB)=.pointer (some ⟨g,0,none⟩):=sK hkp 15;exact sV (Q02 rfl rfl eg)
       ·have eg:=sJ (hd 24) 128;have e0:(_:zB)=.int .i64 (i:Int):=sK hkp 17;exact sV (Q02 rfl rfl eg)
       ·have eg:=sJ (hd 24) 128;have e0:(_:zB)=.pointer (some ⟨g6,0,none⟩):=sK hkp 4;have e1:=sJ (hd 26) 130;have hlt:=HI6.out;exact sV (Q02 rfl rfl eg)
       ·have eg:=sJ (hd 24) 128;have e0:=sJ (hd 27) 131;have cc:=C6.out W hb;exact sV (Q02 rfl rfl eg)
       ·have eg:=sJ (hd 24) 128;have e0:(_:zB)=.int .i64 (k:Int):=sK hkp 18;exact sV (Q02 rfl rfl eg)
       ·have eg:=sJ (hd 24) 128;have e0:=sJ (hd 29) 133;have hw:=HWK.out;exact sV (Q02 rfl rfl eg)
       ·have eg:=sJ (hd 24) 128;have e0:=sJ (hd 28) 132;have e1:=sJ (hd 30) 134;have hlt:=HKN1.out;have hlt2:=HKN2.out;exact sV (Q02 rfl rfl eg)
       ·have eg:=sJ (hd 24) 128;have e0:=sJ (hd 31) 135;have cc:=CZ.out W hb;exact sV (Q02 rfl rfl eg)
       have eg:=sJ (hd 24) 128;have e0:=sJ (hd 25) 129;have e1:=sJ (hd 32) 136;have e0:=sJ (hd 25) 129;have e1:=sJ (hd 32) 136;exact Q0u (Q02 rfl rfl eg) 109 #[.pointer (some ⟨g,0,none⟩),.int .i64 z] (by go_simp) ((HUS.out W hb).mono fun e w h=>⟨_,h.1,h.2,rfl⟩)
      intro f7 W hbW hd7;have f128:f7 128=.bool false:=hd7 24 (by omega) _ 128 rfl rfl;have f137:f7 137=.bool ub:=hd7 33 (by omega) _ 137 rfl rfl;have HLW:=sH (HLW6.out.trans (hbW.mono HLW6.out.size));have HBW:=sH hbW;clear hd7 hbW;simp only [Q0F,tU,f128,f137];try simp only [Act.put,sA]
      cases ub with
      | true =>
       have hon:o=none:=by rw [HO.out,HOC.out,HRM.out.fail HSI.out (fun hh=>by have h1:=hh.1; have h2:=HUB.out; rw [show (Q0G cs).chunks=cs from rfl,h1] at h2; cases h2)]; rfl
       subst hon;go_wp2_with fail
       go_ret2
       exact⟨HLW.out,fun _=>rfl,fun m hm=>by cases hm⟩
      | false =>
       have hgood:Q0S cs s.f z=false/\Q22 s.now o' z:=HASK.out.2 ⟨ho1,by have:=HZZ.out; omega,HUB.out.symm⟩;have HGOOD:=sH hgood;obtain⟨w7,hw7⟩:∃ x,x=W:=⟨_,rfl⟩;rw [<- hw7] at HBW HLW ⊢;have HB7:=sH (HB6.out.trans (HBW.out.mono hs6));have HD7:=sH (HD.out.below HB7.out);have hmvr:=HD7.out.mv i hi2;have hcmv:=HD7.out.cMoves i hi2;have hsi':(Q0G cs).chunks[i]?=some s:=HSI.out;rw [Q1c hsi',<- HMN.out] at hmvr hcmv;obtain⟨mA,hmA⟩:∃ x,x=S.mA i:=⟨_,rfl⟩;obtain⟨mC,hmC⟩:∃ x,x=S.mC i:=⟨_,rfl⟩;rw [<- hmA,<- hmC] at hmvr hcmv;have HROW:=sH hmvr;have hgl7:=HD7.out.cells.lt;have CM:=sH (fun(W:zA) (hb:zD w7.heap.size w7 W)=>(hb.cell (p:=⟨g,1+i,none⟩) hgl7).trans hcmv);have hs67:=HBW.out.size;have C6:=sH (fun(W:zA) (hb:zD w7.heap.size w7 W)=>C6.out W (HBW.out.trans (hb.mono hs67)));have CO:=sH (fun(W:zA) (hb:zD w7.heap.size w7 W)=>CO.out W (HBW.out.trans (hb.mono hs67)));have CZ:=sH (fun(W:zA) (hb:zD w7.heap.size w7 W)=>CZ.out W (HBW.out.trans (hb.mono hs67)));have HMNL:=sH (show mn<=20 by rw [HMN.out]; exact HL20.out);have HMA:=sH hmA;have HMC:=sH hmC;obtain⟨i0,hi0,hz0,hz1,hz2⟩:=info_parts rmv_info;clear hw7 hgood hmvr hcmv hsi' hmA hmC HBL HCV HCS HHS HHAS HUS HUB;go_upto_region 36 with fail
       refine Q1d 27 194 (fun jx W v=>match jx with | 0=>v=.pointer (some ⟨g,0,none⟩) | 1=>v=.int .i64 (i:Int) | 2=>v=.pointer (some ⟨g,0,none⟩) | 3=>v=.int .i64 (i:Int) | 4=>v=.pointer (some ⟨g,0,none⟩) | 5=>v=.pointer (some ⟨g,1,none⟩) | 6=>v=.pointer (some ⟨g,1+i,none⟩) | 7=>v=.slice mA mn mC | 8=>v=.int .i64 (i:Int) | 9=>v=.pointer (some ⟨g6,i,none⟩) | 10=>v=.slice (some ⟨gi,0,none⟩) ni ci | 11=>v=.int .i64 (k:Int) | 12=>v=.pointer (some ⟨gi,k,none⟩) | 13=>v=.int .i64 o' | 14=>v=.int .i64 (i:Int) | 15=>v=.pointer (some ⟨g6,i,none⟩) | 16=>v=.slice (some ⟨gi,0,none⟩) ni ci | 17=>v=.int .i64 (k:Int) | 18=>v=.int .i64 ((k:Int)+1) | 19=>v=.pointer (some ⟨gi,k+1,none⟩) | 20=>v=.int .i64 z | 21=>v=.agg #[.int .i64 o',.int .i64 z] | 22=>∃ g9,v=.slice (some ⟨g9,0,none⟩) 1 1/\g9<W.heap.size/\(Value.slice mA mn mC).ownBlock≠some g9/\Blk W g9 168 #[.int .i64 o',.int .i64 z] | 23=>∃ A2 c2,v=.slice A2 (mn+1) c2/\MvUp w7 (.slice mA mn mC) mn s.moves o' z A2 c2 W | 24=>v=.pointer (some ⟨g,0,none⟩) | 25=>v=.pointer (some ⟨g,1,none⟩) | 26=>v=.pointer (some ⟨g,1+i,none⟩) | _=>True) (fun s W=>match s with | 0=>zD w7.heap.size w7 W | _=>True) (fun W W'=>W.grownBy W' (Value.slice mA mn mC).ownBlock) [23] (fun _=>[]) (fun _=>[]) [139,140,141,142,143,144,145,146,147,148,149,150,151,152,153,154,155,156,157,158,159,160,161,162,163,164,165] (by kernel_rfl) (by kernel_rfl) (by kernel_rfl) (by kernel_rfl) (by kernel_rfl) (by kernel_rfl) (by first | rfl | simp) (by kernel_rfl) (fun jx=>?last) ?lastR ?jay (zG _ _) ?heads ?_
       case last =>
        match jx with
        | 0 | 1 | 2 | 3 | 4 | 5 | 6 | 7 | 8 | 9 | 10 | 11 | 12 | 13 | 14 | 15 | 16 | 17 | 18 | 19 | 20 | 21 | 24 | 25 | 26 | jx+27=>exact Q15.pure _
        | 22=>exact fun W W' v ⟨g9,h1,h2,h3,h4⟩ hb=>⟨g9,h1,by have:=hb.size; omega,h3,h4.below' hb⟩
        | 23=>exact fun W W' v ⟨A2,c2,h1,h2⟩ hb=>⟨A2,c2,h1,h2.below hb⟩
       case lastR =>
        intro s jx W W' v hsl hdd hlt hs hj hp hr;match jx with
        | 0 | 1 | 2 | 3 | 4 | 5 | 6 | 7 | 8 | 9 | 10 | 11 | 12 | 13 | 14 | 15 | 16 | 17 | 18 | 19 | 20 | 21 | 24 | 25 | 26 | jx+27=>exact hp
        | 22 =>obtain⟨g9,h1,h2,h3,h4⟩:=hp;exact⟨g9,h1,by have:=hr.size; omega,h3,(hr.block g9 h2 (fun e=>h3 e.symm)).trans h4⟩
        | 23=>exact absurd (by simp at hsl; subst hsl; rfl) (hs 0 (by simp at hsl; omega))
       case jay =>
        intro s W W' hj hb;match s,hj with
        | 0,hj=>exact Below.trans hj (hb.mono (Below.size hj))
        | s+1,_=>trivial
       case heads =>
        simp only [tT];and_intros;rotate_right;trivial
        all_goals try(rw [if_neg (by decide)];intro s a W hst hj hkp hd)
        ·have e0:(_:zB)=.pointer (some ⟨g,0,none⟩):=sK hkp 15;exact sV
        ·have e0:(_:zB)=.int .i64 (i:Int):=sK hkp 17;exact sV
        ·have e0:(_:zB)=.pointer (some ⟨g,0,none⟩):=sK hkp 15;exact sV
        ·have e0:(_:zB)=.int .i64 (i:Int):=sK hkp 17;exact sV
        ·have e0:=sJ (hd 2) 141;exact sV
        ·have e0:=sJ (hd 4) 143;exact sV
        ·have e0:=sJ (hd 5) 144;have e1:=sJ (hd 3) 142;have hlt:=HI2.out;exact sV
        ·obtain rfl:=Q0x hst rfl (by kernel_rfl);have hb:zD w7.heap.size w7 W:=hj;have e0:=sJ (hd 6) 145;have cc:=CM.out W hb;exact sV
        ·obtain rfl:=Q0x hst rfl (by kernel_rfl);have hb:zD w7.heap.size w7 W:=hj;have e0:(_:zB)=.int .i64 (i:Int):=sK hkp 17;exact sV
        ·obtain rfl:=Q0x hst rfl (by kernel_rfl);have hb:zD w7.heap.size w7 W:=hj;have e0:(_:zB)=.pointer (some ⟨g6,0,none⟩):=sK hkp 4;have e1:=sJ (hd 8) 147;have hlt:=HI6.out;exact sV
        ·obtain rfl:=Q0x hst rfl (by kernel_rfl);have hb:zD w7.heap.size w7 W:=hj;have e0:=sJ (hd 9) 148;have cc:=C6.out W hb;exact sV
        ·obtain rfl:=Q0x hst rfl (by kernel_rfl);have hb:zD w7.heap.size w7 W:=hj;have e0:(_:zB)=.int .i64 (k:Int):=sK hkp 18;exact sV
        ·obtain rfl:=Q0x hst rfl (by kernel_rfl);have hb:zD w7.heap.size w7 W:=hj;have e0:=sJ (hd 10) 149;have e1:=sJ (hd 11) 150;have hlt:=HKN.out;exact sV
        ·obtain rfl:=Q0x hst rfl (by kernel_rfl);have hb:zD w7.heap.size w7 W:=hj;have e0:=sJ (hd 12) 151;have cc:=CO.out W hb;exact sV
        ·obtain rfl:=Q0x hst rfl (by kernel_rfl);have hb:zD w7.heap.size w7 W:=hj;have e0:(_:zB)=.int .i64 (i:Int):=sK hkp 17;exact sV
        ·obtain rfl:=Q0x hst rfl (by kernel_rfl);have hb:zD w7.heap.size w7 W:=hj;have e0:(_:zB)=.pointer (some ⟨g6,0,none⟩):=sK hkp 4;have e1:=sJ (hd 14) 153;have hlt:=HI6.out;exact sV
        ·obtain rfl:=Q0x hst rfl (by kernel_rfl);have hb:zD w7.heap.size w7 W:=hj;have e0:=sJ (hd 15) 154;have cc:=C6.out W hb;exact sV
        ·obtain rfl:=Q0x hst rfl (by kernel_rfl);have hb:zD w7.heap.size w7 W:=hj;have e0:(_:zB)=.int .i64 (k:Int):=sK hkp 18;exact sV
        ·obtain rfl:=Q0x hst rfl (by kernel_rfl);have hb:zD w7.heap.size w7 W:=hj;have e0:=sJ (hd 17) 156;have hw:=HWK.out;exact sV
        ·obtain rfl:=Q0x hst rfl (by kernel_rfl);have hb:zD w7.heap.size w7 W:=hj;have e0:=sJ (hd 16) 155;have e1:=sJ (hd 18) 157;have hlt:=HKN1.out;have hlt2:=HKN2.out;exact sV
        ·obtain rfl:=Q0x hst rfl (by kernel_rfl);have hb:zD w7.heap.size w7 W:=hj;have e0:=sJ (hd 19) 158;have cc:=CZ.out W hb;exact sV
        ·obtain rfl:=Q0x hst rfl (by kernel_rfl);have hb:zD w7.heap.size w7 W:=hj;have e0:=sJ (hd 13) 152;have e1:=sJ (hd 20) 159;exact sV
        ·obtain rfl:=Q0x hst rfl (by kernel_rfl);have hb:zD w7.heap.size w7 W:=hj;have e0:=sJ (hd 21) 160;exact Q1X rfl (.slice (some ⟨W.heap.size,0,none⟩) 1 1) (W.alloc (.cells #[.int .i64 o',.int .i64 z] 168)) (by go_simp) (Q04 _ _) ⟨W.heap.size,rfl,(Blk.new W _ _:Blk _ _ _ _).lt,fun e=>by have:=(Q07 HROW.out e).2; have:=hb.size; omega,Blk.new W _ _⟩
        ·rw [if_pos (by decide)];intro s a W hs hj hkp hd;obtain rfl:=Q5e hs;have hb0:zD w7.heap.size w7 W:=hj;have e146:=sJ (hd 7) 146;obtain⟨g9,e161,h9,hne9,hk9⟩:=(sG (hd 22) 161:);have e146':a.eval (.tmp 146)=.slice mA mn mC:=by simpa [Act.eval] using e146
         have e161':a.eval (.tmp 161)=.slice (some ⟨g9,0,none⟩) 1 1:=by simpa [Act.eval] using e161
         have hrow:=Q0d HROW.out fun b hb'=>hb0.block b (Q07 HROW.out hb').2
         refine Qak rfl (.tmp 146) (.tmp 161) 149 rfl 0 168 i0 _ 2 16 Tryz.underlying149 hi0 hz0 hz1 hz2 rfl (by omega) (.slice mA mn mC) mn (Q0H s.moves) e146' hrow (g9+1) (some ⟨g9,0,none⟩) 1 1 [.int .i64 o',.int .i64 z] e161' ⟨rfl,fun _=>⟨_,rfl,by show g9<g9+1; omega,fun j u hu=>?_⟩⟩ (fun u hu=>by simp at hu; rcases hu with rfl | rfl <;> rfl) (by have:=HMNL.out; unfold maxLen; omega) (by have:=HMNL.out; omega) (Nat.zero_le _) ?_
         ·rw [Q11,Nat.zero_add,hk9.cell,<- Array.getElem?_toList]; exact hu
         intro v' w' h2 h3 h4;obtain⟨A2,c2,q1,_,_⟩:=Q4t h2;subst q1;exact⟨h3,trivial,A2,c2,rfl,⟨(Only.of_below hb0).trans ⟨h3.os,h3.tape,h3.output,h3.size,fun i hi hn=>h3.block i hi (fun e=>hn e.symm)⟩,by rw [Q5g]; exact h2,by rcases h4 with e | e; exact .inl e; exact .inr ⟨_,e,hb0.size⟩⟩⟩
        ·have e0:=sJ (hd 0) 139;exact sV
        ·have e0:=sJ (hd 24) 163;exact sV
        have e0:=sJ (hd 25) 164;have e1:=sJ (hd 1) 140;have hlt:=HI2.out;exact sV
       intro fv W9 hj9 hd9;obtain⟨A2,c2,e162,hup⟩:=hd9 23 (by omega) (by decide) _ 162 rfl rfl;have f165:fv 165=.pointer (some ⟨g,1+i,none⟩):=hd9 26 (by omega) (by decide) _ 165 rfl rfl;obtain⟨hbk9,hnew⟩:=HRM.out.moved HSI.out hi2 HGOOD.out hgB HB7.out HD7.out HAP.out (A2:=A2) (c2:=c2) (W9:=W9) (by rw [<- HMN.out,<- HMA.out,<- HMC.out]; exact hup);rw [<- HMN.out] at hnew;have HNEW:=sH hnew;have cc9:W9.cell? ⟨g,1+i,none⟩=some _:=(hbk9.cell (1+i)).trans (Q3J _ _ _ (by omega));have cf9:W9.frozen? ⟨g,1+i,none⟩=false:=hbk9.frozen (1+i);generalize raF (Q0G cs) S (1+i)=old9 at cc9;clear hj9 hd9 hup hnew hbk9;simp only [Q0F,tU,f165,e162];try simp only [Act.put,sA]
       go_wp2_with fail
       go_roundw
       case rel=>exact⟨k+2,_,by go_num,by omega,by omega,by omega,HNEW.out⟩
       case measure=>simp [intOf]; omega
     rw [decide_eq_false ho1] at HHAS;have HHS:=HHAS;refine Q0m 34 194 (fun jx W v=>match jx with | 0=>v=.slice (some ⟨gl,0,none⟩) (mn+1) cl | 1=>v=.slice (some ⟨gl,0,none⟩) (mn+1) cl | 2=>v=.int .i64 ((mn:Int)+1) | 3=>v=.int .i64 (mn:Int) | 4=>v=.pointer (some ⟨gl,mn*2,none⟩) | 5=>v=.agg C | 6=>v=.int .i64 (i:Int) | 7=>v=.pointer (some ⟨g6,i,none⟩) | 8=>v=.slice (some ⟨gi,0,none⟩) ni ci | 9=>v=.int .i64 (k:Int) | 10=>v=.pointer (some ⟨gi,k,none⟩) | 11=>v=.int .i64 o' | 12=>v=.bool false | 13=>v=.bool true | 14=>v=.bool true | 15=>v=undef | 16=>v=undef | 17=>v=undef | 18=>v=undef | 19=>v=undef | 20=>v=undef | 21=>v=undef | 22=>v=undef | 23=>v=.bool true | 24=>v=.bool true | 25=>v=undef | 26=>v=undef | 27=>v=undef | 28=>v=undef | 29=>v=undef | 30=>v=undef | 31=>v=undef | 32=>v=undef | 33=>v=undef | _=>True) [104,105,106,107,108,109,110,111,112,113,114,115,116,117,118,119,120,121,122,123,124,125,126,127,128,129,130,131,132,133,134,135,136,137] (by kernel_rfl) (by kernel_rfl) (by kernel_rfl) (by first | rfl | simp) (by kernel_rfl) (fun jx=>?last) ?heads ?_
     case last =>
      match jx with
      | 0 | 1 | 2 | 3 | 4 | 5 | 6 | 7 | 8 | 9 | 10 | 11 | 12 | 13 | 14 | 15 | 16 | 17 | 18 | 19 | 20 | 21 | 22 | 23 | 24 | 25 | 26 | 27 | 28 | 29 | 30 | 31 | 32 | 33 | jx+34=>exact Q15.pure _
     case heads =>
      simp only [tT];and_intros;rotate_right;trivial;all_goals intro a W hb hkp hd
      iterate 2 ·have e0:(_:zB)=.slice (some ⟨gl,0,none⟩) (mn+1) cl:=sK hkp 19;exact sV
      ·have e0:=sJ (hd 1) 105;exact sV
      ·have e0:=sJ (hd 2) 106;have hw:=HWM.out;exact sV
      ·have e0:=sJ (hd 0) 104;have e1:=sJ (hd 3) 107;have hlt:=HMN1.out;exact sV
      ·have e0:=sJ (hd 4) 108;have e0':a.eval (.tmp 108)=.pointer (some ⟨gl,mn*2,none⟩):=by simpa [Act.eval] using e0
       exact Q0j rfl (.agg C) (Q0p 77 (.tmp 108) rfl gl (mn*2) 2 e0' 77 _ C _ (HBL.out.below' hb) zM rfl rfl HCS.out HCV.out) rfl
      ·have e0:(_:zB)=.int .i64 (i:Int):=sK hkp 17;exact sV
      ·have e0:(_:zB)=.pointer (some ⟨g6,0,none⟩):=sK hkp 4;have e1:=sJ (hd 6) 110;have hlt:=HI6.out;exact sV
      ·have e0:=sJ (hd 7) 111;have cc:=C6.out W hb;exact sV
      ·have e0:(_:zB)=.int .i64 (k:Int):=sK hkp 18;exact sV
      ·have e0:=sJ (hd 8) 112;have e1:=sJ (hd 9) 113;have hlt:=HKN.out;exact sV
      ·have e0:=sJ (hd 10) 114;have cc:=CO.out W hb;exact sV
      ·have e0:=sJ (hd 5) 109;have e1:=sJ (hd 11) 115;have e0:=sJ (hd 5) 109;have e1:=sJ (hd 11) 115;exact Q0u rfl 108 #[.agg C,.int .i64 o'] (by go_simp) ((HHS.out W hb).mono fun e w h=>⟨_,h.1,h.2,rfl⟩)
      ·have e0:=sJ (hd 12) 116;exact sV
      ·have e0:=sJ (hd 13) 117;exact sV
      iterate 8 ·have eg:=sJ (hd 14) 118;exact Q2n (Q1t rfl rfl eg rfl) rfl
      ·have e0:=sJ (hd 14) 118;have e1:=sJ (hd 22) 126;exact sV
      ·have e0:=sJ (hd 23) 127;exact sV
      iterate 9 ·have eg:=sJ (hd 24) 128;exact Q2n (Q1t rfl rfl eg rfl) rfl
     intro f7 W hbW hd7;have f128:f7 128=.bool true:=hd7 24 (by omega) _ 128 rfl rfl;have f137:f7 137=undef:=hd7 33 (by omega) _ 137 rfl rfl;have HLW:=sH (HLW6.out.trans (hbW.mono HLW6.out.size));have HBW:=sH hbW;clear hd7 hbW;simp only [Q0F,tU,f128,f137];try simp only [Act.put,sA]
     have hon:o=none:=by rw [HO.out,HOC.out,HRM.out.fail HSI.out (fun hh=>ho1 (HASK.out.1 hh).1)]; rfl
     subst hon;go_wp2_with fail
     go_ret2
     exact⟨HLW.out,fun _=>rfl,fun m hm=>by cases hm⟩
    obtain rfl:k=ni:=by omega
    have hkI:¬ (k:Int)<(k:Int):=by omega
    have c6:=HCQ6.out;have hlv:=hrm.leave hi2 (by rw [Q1U,List.length_drop,<- HNI.out]; omega);have HLV:=sH hlv;clear hrm hlv HRM;go_wp2_with fail
    go_roundw
    case rel=>exact⟨i+1,_,by omega,by go_num,HLV.out⟩
    case measure=>simp [intOf]; omega
   obtain rfl:i=nch:=by omega
   have hinI:¬ (i:Int)<(i:Int):=by omega
   obtain⟨hTe,hra⟩:=hoh.answers (f:=numF xss) hn12 HME.out;have HTE:=sH hTe;have HRA:=sH hra;clear hoh hTe hra HH;go_wp2_with fail
   go_loopw [20] (fun jv wr=>∃ j:Nat,j<=4/\jv=.int .i64 j/\RoA w3 g cs (numF xss) j wr) (fun jv _=>4 - (intOf jv).toNat)
   case atStart=>exact⟨0,by omega,rfl,HRA.out⟩
   clear HRA
   obtain⟨j,hj,rfl,hra⟩:=hrel;have HR:=sH hra;have hlq:=hra.low.size;by_cases hj4:j<4
   ·skip;have hjI:(j:Int)<4:=by omega
    have h0J:(0:Int)<=(j:Int):=by omega
    have HJ4:=sH hjI;have hsr:=HSW.out wr hra.low;have hown:=hsr.sa.own (2+j) (by omega);have cc:=(hsr.sa.blk.cell (2+j)).trans (show _=some (vs (2+j)) by rw [Q3Y _ _ _ (by omega),if_pos (by omega)]);have hnl:=Q5Y xss (2+j);have hnx:(xss.getD (2+j) []).length<=1000000000000:=by rw [zH,zC (by have:=HXL.out; omega)];exact HLX.out _ (zI _)
    have HAN:=sH (Qaw (vs (2+j)) (numF xss (2+j)) wr w.heap.size hown (by omega) (HMX.out (2+j) (by omega)));unfold Q7g at HAN;obtain⟨Av,cv,hv,_⟩:=Q0i hown;obtain⟨u,hu⟩:∃ u,u=vs (2+j):=⟨_,rfl⟩;obtain⟨vn',hvn⟩:∃ q,q=(nI (numF xss (2+j))).length:=⟨_,rfl⟩;rw [<- hu] at cc HAN hv;rw [<- hvn] at hv;subst hv;have hj2:(2:Int)+(j:Int)<6:=by omega
    have hj3:(0:Int)<=2+(j:Int):=by omega
    clear hsr hown hnl hnx hu hra hvn;go_wp2_with fail
    refine HAN.out.mono ?_;rintro e8 w8 ⟨hb8,hno,hso⟩;have hs8:=hb8.size;have HB8:=sH hb8;cases hq:Q3l (numF xss (2+j)) with
    | none =>
     obtain⟨st,D,he,hDs,hDo⟩:=hno hq;subst he;have hon:o=none:=by rw [HO.out,HOC.out,HTE.out,Qag hj4 hq]
     subst hon;have HLW:=sH (HLWW.out.trans ((HR.out.low.trans (hb8.mono hlq)).mono HLWW.out.size));clear hno hso hq hb8 HAN cc;go_wp2_with (refine Q00 (o:=⟨none,_,_,_,_,_⟩) rfl 47 (.tmp 22) (.tmp 177) rfl w8.heap.size 0 D rfl rfl 47 (anC 0 none 0 0 0 none 0 0) (Blk.newAt rfl) (by rw [hDs]; kernel_rfl) (by rw [hDs]; simp [anC]) hDo ?_; intro w9 hT9 hD9)
     go_ret2
     exact⟨hT9.below (HLW.out.alloc (by have:=HLWW.out.size; omega) _) (by have:=HLWW.out.size; omega),fun _=>rfl,fun m hm=>by cases hm⟩
    | some x =>
     obtain⟨A8,c8,he,ho8⟩:=hso x hq;subst he;have HO8:=sH ho8;obtain⟨D,hDe⟩:∃ D,D=raN x.2 A8 c8:=⟨_,rfl⟩;rw [<- hDe];have hDs:D.size=4:=by rw [hDe]; rfl
     have hDo:D.all (·.oneCell')=true:=by rw [hDe]; simp [raN,anC,Value.oneCell']
     have HDE:=sH hDe;have HDS:=sH hDs;have HQ:=sH hq;obtain⟨st,hst⟩:∃ st,st=x.1:=⟨_,rfl⟩;rw [<- hst];have HST:=sH hst;clear hno hso hq hb8 HAN cc ho8 hDe hst;go_upto_region 43 with(refine Q00 (o:=⟨none,_,_,_,_,_⟩) rfl 47 (.tmp 22) (.tmp 177) rfl w8.heap.size 0 D rfl rfl 47 (anC 0 none 0 0 0 none 0 0) (Blk.newAt rfl) (by rw [hDs]; kernel_rfl) (by rw [hDs]; simp [anC]) hDo ?_; intro w9 hT9 hD9)
     rw [Q0c _ _ (by rw [hDs]; rfl)] at hD9;have hb9:zD w8.heap.size w8 w9:=hT9.below ((zG _ _).alloc (zE _) _) (zE _);obtain⟨g22,hg22⟩:∃ b,b=w8.heap.size:=⟨_,rfl⟩;rw [<- hg22] at hD9 ⊢;have HB9:=sH (HB8.out.trans (hb9.mono hs8));have HO9:=sH (HO8.out.below_ hb9);obtain⟨S,hd,hap⟩:=HR.out.dat;have hgl:=hd.cells.lt;have hne22:g22≠g:=by omega
     have HDS0:=sH hd;have HAP0:=sH hap;have hd9:=hd.below HB9.out;have cc3:=hd9.cStamp j hj4;have cf3:=hd9.cells.frozen (3+j);have HK9:=sH hd9.cells;have HD22':=sH hD9;generalize Value.int IntKind.i64 ((Q0B (midA cs (numF xss) j) j).1:Int)=old3 at cc3;clear hd hap hd9 hT9 hD9 hb9 hg22;go_upto_region 44 with fail
     have hT10:=Q0b.setCell w9 ⟨g,3+j,none⟩ (.int .i64 (st:Int));have hb10:=HK9.out.set_ (3+j) (.int .i64 (st:Int));have hd10:=(hT10.block g22 hne22).trans HD22'.out;generalize w9.setCell ⟨g,3+j,none⟩ (.int .i64 (st:Int))=w10 at hT10 hb10 hd10 ⊢;have HT10:=sH hT10;have HB10:=sH hb10;have HD22:=sH (show Blk w10 g22 47 D from hd10);clear hT10 hb10 hd10 cc3 cf3;refine Q0m 6 194 (fun jx W v=>match jx with | 0=>v=.pointer (some ⟨g,0,none⟩) | 1=>v=.int .i64 (j:Int) | 2=>v=.agg D | 3=>v=.pointer (some ⟨g,0,none⟩) | 4=>v=.pointer (some ⟨g,7,none⟩) | 5=>v=.pointer (some ⟨g,7+j*4,none⟩) | _=>True) [187,188,189,190,191,192] (by kernel_rfl) (by kernel_rfl) (by kernel_rfl) (by first | rfl | simp) (by kernel_rfl) (fun jx=>?last) ?heads ?_
     case last =>
      match jx with
      | 0 | 1 | 2 | 3 | 4 | 5 | jx+6=>exact Q15.pure _
     case heads =>
      simp only [tT];refine⟨?_,?_,?_,?_,?_,?_,trivial⟩;all_goals intro a W hb hkp hd
      ·have e0:(_:zB)=.pointer (some ⟨g,0,none⟩):=sK hkp 15;exact sV
      ·have e0:(_:zB)=.int .i64 (j:Int):=sK hkp 20;exact sV
      ·have e0:a.eval (.tmp 22)=.pointer (some ⟨g22,0,none⟩):=by have:=hkp.at_ (d:=22) (by kernel_rfl); rw [this]; rfl
       exact Q0j rfl (.agg D) (Q0p 47 (.tmp 22) rfl g22 0 4 e0 47 _ D _ (HD22.out.below' hb) Tryz.underlying47 rfl rfl HDS.out (fun _ _=>by rw [Nat.zero_add])) rfl
      ·have e0:=sJ (hd 0) 187;exact sV
      ·have e0:=sJ (hd 3) 190;exact sV
      have e0:=sJ (hd 4) 191;have e1:=sJ (hd 1) 188;have hlt:=HJ4.out;exact sV
     intro f7 W hbW hd7;have f189:f7 189=.agg D:=hd7 2 (by omega) _ 189 rfl rfl;have f192:f7 192=.pointer (some ⟨g,7+j*4,none⟩):=hd7 5 (by omega) _ 192 rfl rfl;have HBW:=sH hbW;clear hd7 hbW;simp only [Q0F,tU,f189,f192];try simp only [Act.put,sA]
     go_wp2_with (refine Q00 (o:=⟨none,_,_,_,_,_⟩) rfl 47 (.tmp 192) (.tmp 189) rfl g (7+j*4) D rfl rfl 153 _ (HB10.out.below' HBW.out) (by rw [hDs]; kernel_rfl) (by rw [hDs,Array.size_setIfInBounds,Q2J]; omega) hDo ?_; intro w11 hT11 hB11)
     go_roundw
     case rel=>exact⟨j+1,by omega,by go_num,HR.out.put hj4 hgB HB9.out HDS0.out HAP0.out HQ.out (HMX.out (2+j) (by omega)) HO9.out ((Only.of_turned (N:=fun b=>b=g) HT10.out rfl).trans ((Only.of_below HBW.out).trans (Only.of_turned hT11 rfl))) (by rw [<- HST.out,<- HDE.out]; exact hB11)⟩
     case measure=>simp [intOf]; omega
   obtain rfl:j=4:=by omega
   have hjI:¬ ((4:Nat):Int)<4:=by omega
   have hos:o=some (midA cs (numF xss) 4):=by rw [HO.out,HOC.out,HTE.out,Qaa hra.told]
   subst hos;have hw3:=HLWW.out.size;have HRES:=sH (show Qao w (some (midA cs (numF xss) 4)) (.returned (.tuple #[.pointer (some ⟨g,0,none⟩),.int .i64 0])) wr from⟨HLWW.out.trans (hra.low.mono hw3),fun e=>by(cases e),fun m hm=>⟨g,rfl,by omega,Option.some.inj hm▸hra.dat.mono fun b _ hb'=>by have:b<w.heap.size:=hb'; show b<w3.heap.size; omega⟩⟩);clear hra;go_wp2_with fail
   go_ret2
   exact HRES.out
 have h6b:((n:Int) != 6)=true:=by simp; omega
 have hon:o=none:=by rw [HO.out]; exact Q5U fun hh=>h6 (by rw [<- hxl]; exact hh.1)
 subst hon;clear hr hlx hxl h6;go_enter Tryz.func50,Tryz.ntmps50
 go_wp2_with fail
 go_ret2
 exact⟨zG _ _,fun _=>rfl,fun m hm=>by cases hm⟩
def Qc1 (w:zA) (o:Option AM) (n:Nat) (e:Ending) (w':zA):Prop:=zD w.heap.size w w'/\(o=none->e=.returned (.tuple #[.pointer none,.int .i64 (n:Int)]))/\∀ m,o=some m->∃ g,e=.returned (.tuple #[.pointer (some ⟨g,0,none⟩),.int .i64 0])/\w.heap.size<=g/\RAWr w' g (fun b=>b<w.heap.size) m
structure RQdSt (w:zA) (xs:List UInt8) (A:Option Addr) (n c:Nat) (lv:zB) (rest:List UInt8) (acc:LL) (vs:List zB) (i:Nat) (wr:zA):Prop where
 rd:Q08 wr wr.heap.size 1 A n (rest.map vb)
 cap:n<=c
 own:OwnL wr w.heap.size lv acc vs
 al:acc.length=i
 ax:∀ x,x∈acc->x.length<=1000000000000
 go:Q3p 6 xs []=Q3p (6 - i) rest acc
 low:zD w.heap.size w wr
theorem QcG (A:Option Addr) (n c:Nat) (xs:List UInt8) (w:zA) (hr:Q08 w w.heap.size 1 A n (xs.map vb)) (hc:n<=c) (hn:n<=1000000000000) :
 Calls Tryz.prog 48 #[.slice A n c] w (Qc1 w (Q2O xs).1 (Q2O xs).2):=by
 obtain⟨o,ho⟩:∃ o,o=(Q2O xs).1:=⟨_,rfl⟩;obtain⟨en,hen⟩:∃ o,o=(Q2O xs).2:=⟨_,rfl⟩;rw [<- ho,<- hen];have HO:=sH ho;have HEN:=sH hen;have HST:=sH (show RQdSt w xs A n c (.slice none 0 0) xs [] [] 0 w from⟨hr,hc,OwnL.nil _ _,rfl,(fun x hx=>by simp at hx),rfl,zG _ _⟩);obtain⟨i0,hi0,hz0,hz1,hz2⟩:=info_parts Q5r;clear hr ho hen hc;go_enter Tryz.func48,Tryz.ntmps48
 go_wp2_with fail
 go_loopw [0,4,5] (fun bv lv iv wr=>∃ (A:Option Addr) (n c:Nat) (rest:List UInt8) (acc:LL) (vs:List zB) (i:Nat),i<=6/\n<=1000000000000/\bv=.slice A n c/\iv=.int .i64 i/\RQdSt w xs A n c lv rest acc vs i wr) (fun _ _ iv _=>6 - (intOf iv).toNat)
 case atStart=>exact⟨_,_,_,_,_,_,0,by omega,hn,rfl,rfl,HST.out⟩
 obtain⟨A,n,c,rest,acc,vs,i,hi,hn,rfl,rfl,hst⟩:=hrel;have HS:=sH hst;have hsz:=hst.low.size;have hrl:rest.length=n:=by have:=hst.rd.1; simpa using this
 have HRL:=sH hrl;clear hrl;by_cases hin:i<6
 ·have hinI:(i:Int)<6:=by omega
  have HT:=sH (Q86 A n c 128 rest wr wr.heap.size hst.rd (zE _) hst.cap (by omega) (by omega));have hgo:=HS.out.go.trans ((congrArg (fun q=>Q3p q rest acc) (show 6 - i=(6 - (i+1))+1 by omega)).trans (Q7j _ rest acc));have hl1:=ts_len rest 128;have hl2:=Qca rest 128;obtain⟨q,hq⟩:∃ q,q=ts rest 128:=⟨_,rfl⟩;rw [<- hq] at HT hgo hl1 hl2;obtain⟨d,r2,e2⟩:=q;simp only at hgo hl1 hl2;have HT2:=sH (show Calls Tryz.prog 62 #[.slice A n c,.int .i64 128] wr _ from HT.out);have HGO:=sH hgo;have HL1:=sH hl1;have HL2:=sH hl2;clear hst HT hq hgo hl1 hl2;go_wp2_with fail
  refine HT2.out.mono ?_;rintro _ w3 ⟨v,v',rfl,hod,hor,hb3⟩;obtain⟨Au,cu,hv,q1,q2,q3,q4⟩:=Q0f hod;obtain⟨A4,c4,hv',p1,p2,p3,p4⟩:=Q0f hor;subst hv hv';have HP3:=sH p3;have hs3:=hb3.size;have hrn:r2.length<=1000000000000:=by have:=HL1.out; have:=HRL.out; omega
  have hdn:d.length<=1000000000000:=by have:=HL2.out; have:=HRL.out; omega
  obtain⟨u,hu⟩:∃ u,u=Value.slice Au d.length cu:=⟨_,rfl⟩;have HOR:=sH (show OwnB w3 w.heap.size (.slice A4 r2.length c4) r2 from hor.more hsz);have HOD:=sH (show OwnB w3 w.heap.size u d from by rw [hu]; exact hod.more hsz);have HB3:=sH hb3;clear hod hor q1 q2 q3 q4 p2 p3 p4 HT2;obtain⟨nd,hnd⟩:∃ k,k=d.length:=⟨_,rfl⟩;obtain⟨nr,hnr⟩:∃ k,k=r2.length:=⟨_,rfl⟩;rw [<- hnd] at hu hdn ⊢;rw [<- hnr] at hrn p1 HP3 HOR ⊢;have HND:=sH hnd;clear hnd hnr;by_cases he:e2=0
  ·subst he;have HW:=sH (show (w3.alloc (.cells #[u] 22)).ownsRow w.heap.size 22 1 _ i vs from by
    have:=(Q0d HS.out.own.row (w':=w3) fun b hb''=>hb3.block b (Q07 HS.out.own.row hb'').2).alloc (.cells #[u] 22);rw [HS.out.al] at this;exact this)
   have HR3:=sH (Q0N w3 #[u] 22);rw [hu] at HW HR3;have HU:=sH hu;clear hb3 hu;go_wp2_with (at_builtin; go_must (refine Q03 _ rfl (.tmp 22) (.tmp 24) 23 rfl w.heap.size 22 i0 _ 1 24 Tryz.underlying23 hi0 hz0 hz1 hz2 rfl (by omega) _ i vs rfl HW.out (w3.heap.size+1) (some ⟨w3.heap.size,0,none⟩) 1 1 [.slice Au nd cu] rfl HR3.out ?c1 ?c2 ?c3 ?c4 ?_))
   case c1=>intro z hz; rw [List.mem_singleton] at hz; subst hz; rfl
   case c2=>unfold maxLen; omega
   case c3=>omega
   case c4=>simp; omega
   intro v6 w6 hown6 hg6 hor6;rw [<- HU.out] at hown6 hg6;have ho6:OwnL w6 w.heap.size v6 (acc++[d]) (vs++[u]):=HS.out.own.push HB3.out HOD.out (by rw [HS.out.al]; exact hown6) hg6;have hb6:zD w.heap.size w w6:=Q0e ((HS.out.low.trans (HB3.out.mono hsz)).trans ((Q04 w3 (.cells #[u] 22)).mono (by omega))) (by simp; omega) hg6 (fun b hb=>(Q07 HS.out.own.row hb).1);have hrd6:Q08 w6 w6.heap.size 1 A4 nr (r2.map vb):=(HS.out.own.push_keep HB3.out hg6 HOR.out).reads.2.2.2.1;have hst6:RQdSt w xs A4 nr c4 v6 r2 (acc++[d]) (vs++[u]) (i+1) w6:=⟨hrd6,p1,ho6,by rw [zF,HS.out.al]; rfl,(by
    intro x hx;rcases List.mem_append.1 hx with hx | hx
    ·exact HS.out.ax x hx
    rw [List.mem_singleton] at hx; rw [hx,<- HND.out]; exact hdn),by rw [HGO.out,if_neg (by simp)],hb6⟩
   have HST6:=sH hst6;clear hown6 hg6 hor6 ho6 hb6 hrd6 hst6;go_wp2_with fail
   go_roundw
   case rel=>exact⟨_,_,_,_,_,_,i+1,by omega,hrn,rfl,by go_num,HST6.out⟩
   case measure=>simp [intOf]; omega
  have heb:((e2:Int) != 0)=true:=by simp; omega
  have hlo:Q2O xs=(none,e2):=by unfold Q2O;rw [HGO.out,if_pos he];simp only;rw [if_pos he]
  have ho:o=none:=by rw [HO.out,hlo]
  have he2:en=e2:=by rw [HEN.out,hlo]
  have HLOW:=sH (HS.out.low.trans (hb3.mono hsz));subst ho he2;clear hb3 hu hlo HO HEN HS;go_wp2_with fail
  go_ret2
  exact⟨HLOW.out,fun _=>rfl,fun m hm=>by cases hm⟩
 obtain rfl:i=6:=by omega
 have hinI:¬ (6:Int)<6:=by omega
 have hlg:Q3p 6 xs []=(acc,rest,0):=by rw [HS.out.go]; rfl
 have HLG:=sH hlg;obtain⟨Al,cl,hlv,hcl,hrows⟩:=HS.out.own.rowsC;rw [HS.out.al] at hlv hrows;subst hlv;have HROWS:=sH hrows;clear hst hlg hrows hcl;by_cases h0:n=0
 ·have h0I:¬ (0:Int)<(n:Int):=by omega
  subst h0;have hlo:Q2O xs=match Q3h acc with | none=>(none,2) | some m=>(some m,0):=by unfold Q2O;rw [HLG.out];simp only;rw [if_neg (by simp),if_neg (by rw [HRL.out]; omega)];cases Q3h acc <;> rfl
  have HOP:=sH (Q8r Al 6 cl acc wr HROWS.out (fun x hx=>by have:=HS.out.ax x hx; omega));have hoo:o=Q3h acc:=by rw [HO.out,hlo]; cases Q3h acc <;> rfl
  have hee:o=none->en=2:=fun h=>by rw [HEN.out,hlo,<- hoo,h]
  rw [<- hoo] at HOP;have HEE:=sH hee;have HLOW:=sH HS.out.low;clear hlo hoo hee HO HEN HS HLG;go_wp2_with fail
  refine HOP.out.mono ?_;rintro e9 w9 h9;rcases Option.eq_none_or_eq_some o with hoc | ⟨m,hoc⟩
  ·subst hoc;obtain⟨hb9,hno,_⟩:=h9;obtain rfl:=hno rfl;have HB9:=sH (HLOW.out.trans (hb9.mono hsz));have he2:en=2:=HEE.out rfl;subst he2;clear hb9 HOP;go_wp2_with fail
   go_ret2
   exact⟨HB9.out,fun _=>rfl,fun m hm=>by cases hm⟩
  subst hoc;obtain⟨hb9,_,hso⟩:=h9;obtain⟨g9,rfl,hg9,hown9⟩:=hso m rfl;have HB9:=sH (HLOW.out.trans (hb9.mono hsz));have HO9:=sH (show RAWr w9 g9 (fun b=>b<w.heap.size) m from hown9.mono fun b _ hb=>by have:b<w.heap.size:=hb; show b<wr.heap.size; omega);have hg9w:w.heap.size<=g9:=by omega
  clear hown9 hb9 HOP hso;go_wp2_with fail
  go_ret2
  exact⟨HB9.out,fun e=>by(cases e),fun m' hm=>⟨g9,rfl,hg9w,Option.some.inj hm▸HO9.out⟩⟩
 have h0I:(0:Int)<(n:Int):=by omega
 have hlo:Q2O xs=(none,4):=by unfold Q2O;rw [HLG.out];simp only;rw [if_neg (by simp),if_pos (by rw [HRL.out]; omega)]
 have ho:o=none:=by rw [HO.out,hlo]
 have he2:en=4:=by rw [HEN.out,hlo]
 have HLOW:=sH HS.out.low;subst ho he2;clear hlo HO HEN HS;go_wp2_with fail
 go_ret2
 exact⟨HLOW.out,fun _=>rfl,fun m hm=>by cases hm⟩
theorem Q5V (a b:List Int):Q0P (a++b)=Q0P a++Q0P b:=by unfold Q0P; rw [List.flatMap_append]
theorem Q2h:∀ (l:List Int),(∀ z,z∈l->NumI z)->(Q0P l).length<=8*l.length
 | [],_=>by simp [Q0P]
 | z :: t,h=>by
  have h1:=Q2h t fun x hx=>h x (List.mem_cons_of_mem _ hx)
  have h2:=h z (List.mem_cons_self ..);have h3:=(Q2D (n:=z.toNat) (by unfold maxN; unfold NumI at h2; omega)).2;show (numB z.toNat++Q0P t).length<=_;rw [zF,zJ];omega
theorem Qay {w:zA} {g:Nat} {x y:Int} (h:Blk w g 3 #[.int .i64 x,.int .i64 y]):Q08 w w.heap.size 1 (some ⟨g,0,none⟩) 2 ([x,y].map vn) :=
 ⟨rfl,fun _=>⟨_,rfl,h.lt,fun j u hu=>by
  have hj:j<2:=by have:=(List.getElem?_eq_some_iff.1 hu).1;simpa using this
  rw [Q11,Nat.zero_add,h.cell j];obtain rfl | rfl:j=0\/j=1:=by omega
  ·exact hu
  exact hu⟩⟩
theorem Q3T (A:Option Addr) (n c:Nat) (zs:List Int) (w:zA) (B:Nat) (h:Q08 w B 1 A n (zs.map vn)) (hB:B<=w.heap.size) (hn:n<=1000) (hz:∀ z,z∈zs->NumI z) :
 Calls Tryz.prog 139 #[.slice A n c] w fun e w'=>∃ v,e=.returned v/\OwnB w' w.heap.size v (Q0P zs)/\zD w.heap.size w w':=by
 have hzn:zs.length=n:=by have:=h.1; simpa using this
 have H:=sH (h.more hB);have HZN:=sH hzn;have HZ:=sH hz;obtain⟨i0,hi0,hz0,hz1,hz2⟩:=info_parts Q1E;clear h hzn hz hB;go_enter Tryz.func139,Tryz.ntmps139
 go_wp2_with fail
 go_loopw [3,4] (fun ov iv wr=>∃ i:Nat,i<=n/\iv=.int .i64 i/\OwnB wr w.heap.size ov (Q0P (zs.take i))/\zD w.heap.size w wr) (fun _ iv _=>n - (intOf iv).toNat)
 case atStart=>exact⟨0,by omega,rfl,OwnB.nil _ _,zG _ _⟩
 obtain⟨i,hi,rfl,hov,hlow⟩:=hrel;have HOV:=sH hov;have HL:=sH hlow;have hls:=hlow.size;by_cases hin:i<n
 ·obtain⟨ad,u,hA,hadb,hxi,hcell⟩:=(H.out.below hlow).at_ hin;subst hA;have hil:i<zs.length:=by have:=HZN.out; omega
  have hu:u=.int .i64 zs[i]:=by
   rw [List.getElem?_map,zC hil] at hxi;injection hxi with hxi
   exact hxi.symm
  subst hu;have hsn:=Q8j zs i hil;have hzi:=HZ.out _ (zI hil);have hlen:=Q2h (zs.take i) fun x hx=>HZ.out x (List.mem_of_mem_take hx)
  rw [List.length_take] at hlen;generalize zs[i]=z at hsn hzi hcell;obtain⟨q,hq⟩:∃ q:Nat,q=z.toNat:=⟨_,rfl⟩;have hzq:z=(q:Int):=by unfold NumI at hzi; omega
  subst hzq;have hqm:q<=maxN:=by unfold maxN; unfold NumI at hzi; omega
  rw [Int.toNat_natCast] at hsn;have HSN:=sH hsn;have HRN:=sH (Q8p q hqm wr);have hnl:=(Q2D hqm).2;obtain⟨ys,hys⟩:∃ ys,ys=Q0P (zs.take i):=⟨_,rfl⟩;rw [<- hys] at HOV HSN hlen;generalize numB q=x at HSN HRN hnl;have hlen2:ys.length<=8000:=by omega
  have hinI:(i:Int)<(n:Int):=by omega
  clear hxi hov hlow hzi hsn hys hq hqm hlen;go_wp2_with fail
  refine HRN.out.mono ?_;rintro _ w2 ⟨v2,rfl,ho2,hb2⟩;obtain⟨A2,c2,rfl,p1,p2,p3,p4⟩:=Q0f ho2;obtain⟨nx,hnx⟩:∃ k,k=x.length:=⟨_,rfl⟩;rw [<- hnx] at p3 hnl ⊢;have HNX:=sH hnx;have HP3:=sH p3;have HO2:=sH (HOV.out.below hb2);have HB2:=sH (HL.out.trans (hb2.mono hls));have hs2:=hb2.size;clear ho2 hb2 p1 p2 p3 p4 HRN hnx hcell;go_wp2_with (at_builtin; go_must (refine Q03 _ rfl (.tmp 21) (.tmp 22) 22 rfl w.heap.size 5 i0 _ 1 1 zK hi0 hz0 hz1 hz2 rfl (by omega) _ _ _ rfl HO2.out.row w2.heap.size A2 nx c2 (x.map vb) rfl HP3.out ?c1 ?c2 ?c3 ?c4 ?_))
  case c1=>intro u hu; obtain⟨y,_,rfl⟩:=List.mem_map.1 hu; rfl
  case c2=>unfold maxLen; omega
  case c3=>omega
  case c4=>omega
  intro v3 w3 hown3 hg3 hor3;have HB3:=sH (Q0e HB2.out (by omega) hg3 (fun b hb=>HO2.out.ge hb));have HO3:=sH (show OwnB w3 w.heap.size v3 (Q0P (zs.take (i+1))) by unfold OwnB;rw [HSN.out,zF,List.map_append,<- HNX.out];exact hown3)
  clear hown3 hg3 hor3;go_wp2_with fail
  go_roundw
  case rel=>exact⟨i+1,by omega,by go_num,HO3.out,HB3.out⟩
  case measure=>simp [intOf]; omega
 obtain rfl:i=n:=by omega
 have hinI:¬ (i:Int)<(i:Int):=by omega
 clear hov hlow;go_wp2_with fail
 go_ret
 have:=HOV.out;rw [List.take_of_length_le (by have:=HZN.out; omega)] at this;exact⟨_,rfl,this,HL.out⟩
theorem Q7H (w:zA) (g i:Nat) (N:Nat->Prop) (m:AM) (S:RASl) (h:Q1r w g N m S) (hi2:i<2) :
 Calls Tryz.prog 138 #[.pointer (some ⟨g,0,none⟩),.int .i64 (i:Int)] w fun e w'=>∃ v,e=.returned v/\OwnB w' w.heap.size v (Q1v m i)/\zD w.heap.size w w':=by
 obtain⟨gf,cur,hfA,hBf,hcf⟩:=h.head;have hc0:=h.cFirst;rw [hfA] at hc0;obtain⟨lf,hlf⟩:∃ l,l=Q1v m i:=⟨_,rfl⟩;rw [<- hlf];obtain⟨n0,hn0⟩:∃ n,n=m.chunks.length:=⟨_,rfl⟩;obtain⟨fC,hfC⟩:∃ f,f=S.fC:=⟨_,rfl⟩;rw [<- hn0,<- hfC] at hc0;by_cases hin:i<n0
 ·have hil:i<m.chunks.length:=by omega
  have hsc:=zC hil;have hmem:=zI hil;generalize m.chunks[i]=s at hsc hmem;have hok:=h.ok.srv s hmem;have hsf:=h.same s hmem;have hcm:=h.cMoves i hi2;have hmr:=h.mv i hi2;rw [Q1c hsc] at hcm hmr;have hfar:=h.first i s hsc;have hle:lf=Q0P [(s.moves.length:Int)+1,(s.f:Int)]++Q0P s.first++Q0P (Q1m s.moves):=by
   rw [hlf];unfold Q1v Q5H;rw [if_pos hi2,hsc];simp only;unfold Q3o;rw [Q5V,<- Q5V [(s.moves.length:Int)+1,(s.f:Int)]]
   simp
  have hcf0:=hcf i s hsc 0 (by omega);have hcf1:=hcf i s hsc 1 (by omega);obtain⟨f,hf⟩:∃ f,f=S.f:=⟨_,rfl⟩;obtain⟨mA,hmA⟩:∃ k,k=S.mA i:=⟨_,rfl⟩;obtain⟨mC,hmC⟩:∃ k,k=S.mC i:=⟨_,rfl⟩;obtain⟨mn,hmn⟩:∃ k,k=s.moves.length:=⟨_,rfl⟩;obtain⟨Af,hAf⟩:∃ A,A=S.nA i:=⟨_,rfl⟩;obtain⟨cf,hcfe⟩:∃ c,c=S.nC i:=⟨_,rfl⟩;obtain⟨nf,hnf⟩:∃ c,c=s.first.length:=⟨_,rfl⟩;rw [<- hAf,<- hcfe] at hfar;have hrd:=hfar.rd;rw [<- hf,<- hAf,<- hcfe,<- hnf] at hcf0 hcf1;rw [<- hnf] at hrd;rw [<- hmA,<- hmC,<- hmn] at hcm hmr;rw [hsf,<- hf,<- hmn] at hle;have hmn21:mn<=21:=by rw [hmn]; exact hok.len
  have hnf7:nf<=7:=by rw [hnf]; exact hok.crew.short.2
  have hf2:f<=2:=by rw [hf,<- hsf]; exact hok.crew.faults
  have HMN:=sH hmn;have HNF:=sH hnf;have HLE:=sH hle;have HFZ:=sH (show ∀ z,z∈s.first->NumI z from fun z hz=>by have:=hok.crew.bound hz; unfold NumI; omega);have HMZ:=sH (show ∀ x,x∈s.moves->NumI x.1/\NumI x.2 from fun x hx=>by have:=Q1g.mem_old hok.crew hok.mv x hx; unfold NumI; omega);have HNUM0:=sH (show ∀ z,z∈[(mn:Int)+1,(f:Int)]->NumI z from fun z hz=>by
   unfold NumI;rcases List.mem_cons.1 hz with rfl | hz
   ·omega
   rw [List.mem_singleton.1 hz]; omega)
  have HC0:=sH (fun(W:zA) (hb:zD w.heap.size w W)=>(hb.cell (p:=⟨g,0,none⟩) h.cells.lt).trans hc0);have HCM:=sH (fun(W:zA) (hb:zD w.heap.size w W)=>(hb.cell (p:=⟨g,1+i,none⟩) h.cells.lt).trans hcm);have HCF0:=sH (fun(W:zA) (hb:zD w.heap.size w W)=>(hb.cell (p:=⟨gf,i*2,none⟩) hBf.lt).trans ((hBf.cell (i*2)).trans hcf0):∀ (W:zA),zD w.heap.size w W->W.cell? ⟨gf,i*2,none⟩=some (.int .i64 (f:Int)));have HCF1:=sH (fun(W:zA) (hb:zD w.heap.size w W)=>(hb.cell (p:=⟨gf,i*2+1,none⟩) hBf.lt).trans ((hBf.cell (i*2+1)).trans hcf1):∀ (W:zA),zD w.heap.size w W->W.cell? ⟨gf,i*2+1,none⟩=some (.slice Af nf cf));have HMR:=sH (fun(W:zA) (hb:zD w.heap.size w W)=>Q0d hmr (fun b hb'=>hb.block b (Q07 hmr hb').2));have HRD:=sH hrd;have hinI:(i:Int)<(n0:Int):=by omega
  have hgeI:¬ (n0:Int)<=(i:Int):=by omega
  have hi2I:(i:Int)<2:=by omega
  have hwm:IntKind.i64.wrap ((mn:Int)+1)=(mn:Int)+1:=by rw [IntKind.wrap_i64]; omega
  obtain⟨i0,hi0,hz0,hz1,hz2⟩:=info_parts Q1E;clear h hfA hBf hcf hlf hn0 hfC hil hsc hmem hok hsf hcm hmr hfar hle hcf0 hcf1 hf hmA hmC hmn hAf hcfe hnf hrd;go_enter Tryz.func138,Tryz.ntmps138
  go_upto_region 3 with fail
  refine Q0m 18 81 (fun jx W v=>match jx with | 0=>v=.pointer (some ⟨g,0,none⟩) | 1=>v=.int .i64 (i:Int) | 2=>v=.pointer (some ⟨g,0,none⟩) | 3=>v=.pointer (some ⟨g,1,none⟩) | 4=>v=.pointer (some ⟨g,1+i,none⟩) | 5=>v=.slice mA mn mC | 6=>v=.int .i64 (mn:Int) | 7=>v=.int .i64 ((mn:Int)+1) | 8=>v=.pointer (some ⟨g,0,none⟩) | 9=>v=.pointer (some ⟨g,0,none⟩) | 10=>v=.pointer (some ⟨g,0,none⟩) | 11=>v=.slice (some ⟨gf,0,none⟩) n0 fC | 12=>v=.int .i64 (i:Int) | 13=>v=.pointer (some ⟨gf,i*2,none⟩) | 14=>v=.pointer (some ⟨gf,i*2,none⟩) | 15=>v=.int .i64 (f:Int) | 16=>∃ g9,v=.slice (some ⟨g9,0,none⟩) 2 2/\Blk W g9 3 #[.int .i64 ((mn:Int)+1),.int .i64 (f:Int)] | 17=>OwnB W w.heap.size v (Q0P [(mn:Int)+1,(f:Int)]) | _=>True) [16,17,18,19,20,21,22,23,24,25,26,27,28,29,30,31,32,33] (by kernel_rfl) (by kernel_rfl) (by kernel_rfl) (by simp) (by kernel_rfl) (fun jx=>?last) ?heads ?_
  case last =>
   match jx with
   | 0 | 1 | 2 | 3 | 4 | 5 | 6 | 7 | 8 | 9 | 10 | 11 | 12 | 13 | 14 | 15 | jx+18=>exact Q15.pure _
   | 16=>exact fun W W' v ⟨g9,h1,h2⟩ hb=>⟨g9,h1,h2.below' hb⟩
   | 17=>exact fun W W' v h hb=>h.below hb
  case heads =>
   simp only [tT];and_intros;rotate_right;trivial;all_goals intro a W hb hkp hd
   ·have e0:(_:zB)=.pointer (some ⟨g,0,none⟩):=sK hkp 0;exact sV
   ·have e0:(_:zB)=.int .i64 (i:Int):=sK hkp 1;exact sV
   ·have e0:=sJ (hd 0) 16;exact sV
   ·have e0:=sJ (hd 2) 18;exact sV
   ·have e0:=sJ (hd 3) 19;have e1:=sJ (hd 1) 17;have hlt:=hi2I;exact sV
   ·have e0:=sJ (hd 4) 20;have cc:=HCM.out W hb;exact sV
   ·have e0:=sJ (hd 5) 21;exact sV
   ·have e0:=sJ (hd 6) 22;have hw:=hwm;exact sV
   ·have e0:(_:zB)=.pointer (some ⟨g,0,none⟩):=sK hkp 0;exact sV
   ·have e0:=sJ (hd 8) 24;exact sV
   ·have e0:=sJ (hd 9) 25;exact sV
   ·have e0:=sJ (hd 10) 26;have cc:=HC0.out W hb;exact sV
   ·have e0:(_:zB)=.int .i64 (i:Int):=sK hkp 1;exact sV
   ·have e0:=sJ (hd 11) 27;have e1:=sJ (hd 12) 28;have hlt:=hinI;exact sV
   ·have e0:=sJ (hd 13) 29;exact sV
   ·have e0:=sJ (hd 14) 30;have cc:=HCF0.out W hb;exact sV
   ·have e0:=sJ (hd 7) 23;have e1:=sJ (hd 15) 31;exact Q1X rfl (.slice (some ⟨W.heap.size,0,none⟩) 2 2) (W.alloc (.cells #[.int .i64 ((mn:Int)+1),.int .i64 (f:Int)] 3)) (by go_simp) (Q04 _ _) ⟨W.heap.size,rfl,Blk.new W _ _⟩
   obtain⟨g9,e0,h9⟩:=(sG (hd 16) 32:);refine Q0u rfl 139 #[.slice (some ⟨g9,0,none⟩) 2 2] (by go_simp) ((Q3T (some ⟨g9,0,none⟩) 2 2 [(mn:Int)+1,(f:Int)] W W.heap.size (Qay h9) (zE _) (by omega) HNUM0.out).mono ?_);rintro e w' ⟨v,rfl,ho,hb'⟩;exact⟨v,rfl,hb',ho.more hb.size⟩
  intro ff w2 hb2 hd;have h33:OwnB w2 w.heap.size (ff 33) (Q0P [(mn:Int)+1,(f:Int)]):=hd 17 (by omega) _ 33 rfl rfl;have HL2:=sH hb2;have HO2:=sH h33;have hs2:=hb2.size;simp only [Q0F,tU];clear hd;have hc02:=HC0.out w2 hb2;have hcf12:=HCF1.out w2 hb2;have HNM:=sH (Q3T Af nf cf s.first w2 w.heap.size (HRD.out.below hb2) hs2 (by omega) HFZ.out);have hl0:=Q2h _ HNUM0.out;have hl1:=Q2h _ HFZ.out;rw [<- HNF.out] at hl1;simp only [zJ,List.length_nil] at hl0;clear h33 hb2;try simp only [Act.put,sA]
  generalize ff 33=ov at HO2 ⊢;go_wp2_with fail
  refine HNM.out.mono ?_;rintro _ w3 ⟨v3,rfl,ho3,hb3⟩;obtain⟨A2,c2,rfl,p1,p2,p3,p4⟩:=Q0f ho3;obtain⟨nx,hnx⟩:∃ k,k=(Q0P s.first).length:=⟨_,rfl⟩;rw [<- hnx] at p3 hl1 ⊢;have HNX:=sH hnx;have HP3:=sH p3;have HO3:=sH (HO2.out.below hb3);have HB3:=sH (HL2.out.trans (hb3.mono hs2));have hs3:=hb3.size;clear ho3 hb3 p1 p2 p3 p4 HNM hnx hc02 hcf12;go_wp2_with (at_builtin; go_must (refine Q03 _ rfl (.tmp 34) (.tmp 43) 22 rfl w.heap.size 5 i0 _ 1 1 zK hi0 hz0 hz1 hz2 rfl (by omega) _ _ _ rfl HO3.out.row w3.heap.size A2 nx c2 ((Q0P s.first).map vb) rfl HP3.out ?c1 ?c2 ?c3 ?c4 ?_))
  case c1=>intro u hu; obtain⟨y,_,rfl⟩:=List.mem_map.1 hu; rfl
  case c2=>unfold maxLen; omega
  case c3=>omega
  case c4=>omega
  intro v4 w4 hown4 hg4 hor4;have HB4:=sH (Q0e HB3.out (by omega) hg4 (fun b hb=>HO3.out.ge hb));have HO4:=sH (show OwnB w4 w.heap.size v4 (Q0P [(mn:Int)+1,(f:Int)]++Q0P s.first++Q0P (Q1m (s.moves.take 0))) by
   have e:Q0P (Q1m (s.moves.take 0))=[]:=by simp [Q1m,Q0P]
   rw [e,List.append_nil];unfold OwnB;rw [zF,List.map_append,<- HNX.out];exact hown4)
  have hcm4:=HCM.out w4 HB4.out;have HL0:=sH (show (Q0P [(mn:Int)+1,(f:Int)]++Q0P s.first).length<=72 by rw [zF,<- HNX.out]; omega);clear hown4 hg4 hor4 HB3 HO3 hl0 hl1;go_wp2_with fail
  go_loopw [5,6] (fun ov iv wr=>∃ k:Nat,k<=mn/\iv=.int .i64 k/\OwnB wr w.heap.size ov (Q0P [(mn:Int)+1,(f:Int)]++Q0P s.first++Q0P (Q1m (s.moves.take k)))/\zD w.heap.size w wr) (fun _ iv _=>mn - (intOf iv).toNat)
  case atStart=>exact⟨0,by omega,rfl,HO4.out,HB4.out⟩
  clear HO4 HB4 hcm4
  obtain⟨k,hk,rfl,hov,hlow⟩:=hrel;have HOV:=sH hov;have HL:=sH hlow;have hls:=hlow.size;have hcmr:=HCM.out wr hlow;by_cases hkn:k<mn
  ·have hkI:(k:Int)<(mn:Int):=by omega
   have hkl:k<s.moves.length:=by have:=HMN.out; omega
   obtain⟨⟨o,z⟩,hoz⟩:∃ q,s.moves[k]?=some q:=⟨_,zC hkl⟩;have hmz:=HMZ.out _ (zL hoz);obtain⟨gm,cur2,hmA,hBm,hcm0,hcm1⟩:=Qbr (HMR.out wr hlow) hoz;subst hmA;have htk:Q1m (s.moves.take (k+1))=Q1m (s.moves.take k)++[o,z]:=by rw [List.take_add_one,hoz];show Q1m (s.moves.take k++[(o,z)])=_;rw [Q4f]; rfl
   have HTK:=sH htk;have hml:=Q2h (Q1m (s.moves.take k)) fun x hx=>by
    obtain⟨q,hq,e | e⟩:=Q64 hx
    ·rw [e]; exact(HMZ.out q (List.mem_of_mem_take hq)).1
    rw [e]; exact(HMZ.out q (List.mem_of_mem_take hq)).2
   rw [Q3F,List.length_take] at hml;have HNUM1:=sH (show ∀ y,y∈[o,z]->NumI y from fun y hy=>by
    rcases List.mem_cons.1 hy with rfl | hy
    ·exact hmz.1
    rw [List.mem_singleton.1 hy]; exact hmz.2)
   have CM0:=sH (fun(W:zA) (hb:zD wr.heap.size wr W)=>(hb.cell (p:=⟨gm,k*2,none⟩) hBm.lt).trans ((hBm.cell _).trans hcm0));have CM1:=sH (fun(W:zA) (hb:zD wr.heap.size wr W)=>(hb.cell (p:=⟨gm,k*2+1,none⟩) hBm.lt).trans ((hBm.cell _).trans hcm1));have HCM2:=sH (fun(W:zA) (hb:zD wr.heap.size wr W)=>HCM.out W (HL.out.trans (hb.mono hls)));obtain⟨ys,hys⟩:∃ ys,ys=Q0P [(mn:Int)+1,(f:Int)]++Q0P s.first++Q0P (Q1m (s.moves.take k)):=⟨_,rfl⟩;have hyl:ys.length<=600:=by rw [hys,zF];have:=HL0.out;omega
   have HYS:=sH hys;rw [<- hys] at HOV;obtain⟨Ao,co,hovv,_⟩:=Q0f HOV.out;obtain⟨no,hno⟩:∃ no,no=ys.length:=⟨_,rfl⟩;rw [<- hno] at hovv hyl;have HNO:=sH hno;subst hovv;clear hov hlow hoz hmz hBm hcm0 hcm1 htk hml hys hno;go_upto_region 8 with fail
   refine Q0m 23 81 (fun jx W v=>match jx with | 0=>v=.slice Ao no co | 1=>v=.pointer (some ⟨g,0,none⟩) | 2=>v=.int .i64 (i:Int) | 3=>v=.pointer (some ⟨g,0,none⟩) | 4=>v=.pointer (some ⟨g,1,none⟩) | 5=>v=.pointer (some ⟨g,1+i,none⟩) | 6=>v=.slice (some ⟨gm,0,none⟩) mn mC | 7=>v=.int .i64 (k:Int) | 8=>v=.pointer (some ⟨gm,k*2,none⟩) | 9=>v=.pointer (some ⟨gm,k*2,none⟩) | 10=>v=.int .i64 o | 11=>v=.pointer (some ⟨g,0,none⟩) | 12=>v=.int .i64 (i:Int) | 13=>v=.pointer (some ⟨g,0,none⟩) | 14=>v=.pointer (some ⟨g,1,none⟩) | 15=>v=.pointer (some ⟨g,1+i,none⟩) | 16=>v=.slice (some ⟨gm,0,none⟩) mn mC | 17=>v=.int .i64 (k:Int) | 18=>v=.pointer (some ⟨gm,k*2,none⟩) | 19=>v=.pointer (some ⟨gm,k*2+1,none⟩) | 20=>v=.int .i64 z | 21=>∃ g9,v=.slice (some ⟨g9,0,none⟩) 2 2/\Blk W g9 3 #[.int .i64 o,.int .i64 z] | 22=>OwnB W w.heap.size v (Q0P [o,z]) | _=>True) [56,57,58,59,60,61,62,63,64,65,66,67,68,69,70,71,72,73,74,75,76,77,78] (by kernel_rfl) (by kernel_rfl) (by kernel_rfl) (by simp) (by kernel_rfl) (fun jx=>?last) ?heads ?_
   case last =>
    match jx with
    | 0 | 1 | 2 | 3 | 4 | 5 | 6 | 7 | 8 | 9 | 10 | 11 | 12 | 13 | 14 | 15 | 16 | 17 | 18 | 19 | 20 | jx+23=>exact Q15.pure _
    | 21=>exact fun W W' v ⟨g9,h1,h2⟩ hb=>⟨g9,h1,h2.below' hb⟩
    | 22=>exact fun W W' v h hb=>h.below hb
   case heads =>
    simp only [tT];and_intros;rotate_right;trivial;all_goals intro a W hb hkp hd
    ·have e0:(_:zB)=.slice Ao no co:=sK hkp 5;exact sV
    ·have e0:(_:zB)=.pointer (some ⟨g,0,none⟩):=sK hkp 0;exact sV
    ·have e0:(_:zB)=.int .i64 (i:Int):=sK hkp 1;exact sV
    ·have e0:=sJ (hd 1) 57;exact sV
    ·have e0:=sJ (hd 3) 59;exact sV
    ·have e0:=sJ (hd 4) 60;have e1:=sJ (hd 2) 58;have hlt:=hi2I;exact sV
    ·have e0:=sJ (hd 5) 61;have cc:=HCM2.out W hb;exact sV
    ·have e0:(_:zB)=.int .i64 (k:Int):=sK hkp 6;exact sV
    ·have e0:=sJ (hd 6) 62;have e1:=sJ (hd 7) 63;have hlt:=hkI;exact sV
    ·have e0:=sJ (hd 8) 64;exact sV
    ·have e0:=sJ (hd 9) 65;have cc:=CM0.out W hb;exact sV
    ·have e0:(_:zB)=.pointer (some ⟨g,0,none⟩):=sK hkp 0;exact sV
    ·have e0:(_:zB)=.int .i64 (i:Int):=sK hkp 1;exact sV
    ·have e0:=sJ (hd 11) 67;exact sV
    ·have e0:=sJ (hd 13) 69;exact sV
    ·have e0:=sJ (hd 14) 70;have e1:=sJ (hd 12) 68;have hlt:=hi2I;exact sV
    ·have e0:=sJ (hd 15) 71;have cc:=HCM2.out W hb;exact sV
    ·have e0:(_:zB)=.int .i64 (k:Int):=sK hkp 6;exact sV
    ·have e0:=sJ (hd 16) 72;have e1:=sJ (hd 17) 73;have hlt:=hkI;exact sV
    ·have e0:=sJ (hd 18) 74;exact sV
    ·have e0:=sJ (hd 19) 75;have cc:=CM1.out W hb;exact sV
    ·have e0:=sJ (hd 10) 66;have e1:=sJ (hd 20) 76;exact Q1X rfl (.slice (some ⟨W.heap.size,0,none⟩) 2 2) (W.alloc (.cells #[.int .i64 o,.int .i64 z] 3)) (by go_simp) (Q04 _ _) ⟨W.heap.size,rfl,Blk.new W _ _⟩
    obtain⟨g9,e0,h9⟩:=(sG (hd 21) 77:);refine Q0u rfl 139 #[.slice (some ⟨g9,0,none⟩) 2 2] (by go_simp) ((Q3T (some ⟨g9,0,none⟩) 2 2 [o,z] W W.heap.size (Qay h9) (zE _) (by omega) HNUM1.out).mono ?_);rintro e w' ⟨v,rfl,ho,hb'⟩;exact⟨v,rfl,hb',ho.more (by have:=hb.size; omega)⟩
   intro ff2 w5 hb5 hd;have h56:ff2 56=.slice Ao no co:=hd 0 (by omega) _ 56 rfl rfl;have h78:OwnB w5 w.heap.size (ff2 78) (Q0P [o,z]):=hd 22 (by omega) _ 78 rfl rfl;simp only [Q0F,tU,h56];clear hd;obtain⟨A2,c2,e78,p1,p2,p3,p4⟩:=Q0f h78;rw [e78];have hnl:=Q2h _ HNUM1.out;simp only [zJ,List.length_nil] at hnl;obtain⟨nx,hnx⟩:∃ k,k=(Q0P [o,z]).length:=⟨_,rfl⟩;rw [<- hnx] at p3 hnl ⊢;have HNX:=sH hnx;have HP3:=sH p3;have HO5:=sH (show OwnB w5 w.heap.size (.slice Ao no co) ys from HOV.out.below hb5);have HB5:=sH (HL.out.trans (hb5.mono hls));have hs5:=hb5.size;have HROW:=sH (show w5.ownsRow w.heap.size 5 1 (.slice Ao no co) no (ys.map vb) by have:=HO5.out.row; rw [<- HNO.out] at this; exact this);clear h78 e78 p1 p2 p3 p4 hnx h56 hb5;try simp only [Act.put,sA]
   go_wp2_with (at_builtin; go_must (refine Q03 _ rfl (.tmp 56) (.tmp 78) 22 rfl w.heap.size 5 i0 _ 1 1 zK hi0 hz0 hz1 hz2 rfl (by omega) _ _ _ rfl HROW.out w5.heap.size A2 nx c2 ((Q0P [o,z]).map vb) rfl HP3.out ?c1 ?c2 ?c3 ?c4 ?_))
   case c1=>intro u hu; obtain⟨y,_,rfl⟩:=List.mem_map.1 hu; rfl
   case c2=>unfold maxLen; omega
   case c3=>omega
   case c4=>omega
   intro v6 w6 hown6 hg6 hor6;have HB6:=sH (Q0e HB5.out (by omega) hg6 (fun b hb=>HO5.out.ge hb));have HO6:=sH (show OwnB w6 w.heap.size v6 (Q0P [(mn:Int)+1,(f:Int)]++Q0P s.first++Q0P (Q1m (s.moves.take (k+1)))) by unfold OwnB;rw [HTK.out,Q5V,<- List.append_assoc,<- HYS.out,zF,List.map_append,<- HNX.out,<- HNO.out];exact hown6)
   clear hown6 hg6 hor6;go_wp2_with fail
   go_roundw
   case rel=>exact⟨k+1,by omega,by go_num,HO6.out,HB6.out⟩
   case measure=>simp [intOf]; omega
  obtain rfl:k=mn:=by omega
  have hkI:¬ (k:Int)<(k:Int):=by omega
  clear hov hlow;go_wp2_with fail
  go_ret
  have:=HOV.out;rw [List.take_of_length_le (by have:=HMN.out; omega),<- HLE.out] at this;exact⟨_,rfl,this,HL.out⟩
 have hgeI:(n0:Int)<=(i:Int):=by omega
 have hle:lf=Q0P [0]:=by rw [hlf];unfold Q1v Q5H;rw [if_pos hi2,List.getElem?_eq_none (by omega)]
 subst hle;have hX:=Q04 w (.cells #[.int .i64 0] 3);have HX:=sH hX;have HNM:=sH (Q3T (some ⟨w.heap.size,0,none⟩) 1 1 [0] (w.alloc (.cells #[.int .i64 0] 3)) _ (Q0N w #[.int .i64 0] 3) (by simp) (by omega) (fun z hz=>by rw [List.mem_singleton.1 hz]; unfold NumI; omega));clear h hfA hBf hcf hlf hn0 hfC hX;go_enter Tryz.func138,Tryz.ntmps138
 go_wp2_with fail
 refine HNM.out.mono ?_;rintro _ w2 ⟨v,rfl,ho,hb⟩;have HO:=sH (ho.more HX.out.size);have HB:=sH (HX.out.trans (hb.mono HX.out.size));clear ho hb HNM;go_wp2_with fail
 go_ret
 exact⟨_,rfl,HO.out,HB.out⟩
end
end Go.Proofs.YtcpngeiahgoacaaGreat
