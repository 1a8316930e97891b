/- Parts of the proof, in one text. -/
import Derived.Test.YtckjnbjiafgibaaGreatL12
import Derived.Test.YtckjnbjiafgibaaGreatL9
import Derived.Test.YtckjnbjiafgibaaGreatL5
import Derived.BigRegion
import Derived.Deep.DeepCutAuto
import Derived.ProofKit
import Derived.Test.YtckjnbjiafgibaaGreatL11
import Derived.Test.YtckjnbjiafgibaaGreatL7
import Derived.Test.YtckjnbjiafgibaaGreatL10
import Derived.BigFrame
namespace Go.Proofs.YtckjnbjiafgibaaGreat
set_option linter.unusedVariables false
set_option linter.unusedSimpArgs false
set_option maxRecDepth 100000
set_option maxHeartbeats 16000000
open _root_.Array renaming getElem?_toList->zN
open _root_.Go renaming World->zA,Value->zB,Calls->zF
open _root_.Go.Proofs.Tryz renaming prog->zG
open _root_.Go.RowKit renaming Below->zD
open _root_.Go.RowKit.Below renaming refl->zI
open _root_.Go.Value renaming ownBlock->zE,oneCell'->zM
open _root_.List renaming getElem?_eq_getElem->zC,getD_eq_getElem?_getD->zJ,getElem?_take->zK
open _root_.Nat renaming le_refl->zH,zero_add->zL
open _root_.Option.some renaming inj->zO
section
open Go.RowKit Go.Maps
attribute [local irreducible] wpList Q0c
def Q88 (w:zA) (o:Option AM) (n:Nat) (e:Ending) (w':zA):Prop :=(o=none->e=.returned (.tuple #[.pointer none,.int .i64 (n:Int)])/\zD w.heap.size w w')/\(∀ m,o=some m->e=.returned (.tuple #[.pointer none,.int .i64 1])/\zD w.heap.size w w')
theorem Q95 (k:Book) (A:Option Addr) (n c:Nat) (xss:LL) (w:zA) (hkl:k.g<w.heap.size/\k.b1<w.heap.size/\k.b2<w.heap.size) (hr:Q2L w w.heap.size A n xss) (hn:n<=1000000000000) (hlx:∀ x,x∈xss->x.length<=1000000000000) :
 zF zG 35 #[.pointer none,.slice A n c] w (Q3v w (Q2h xss)):=by
 have hxl:=hr.1;obtain⟨o,ho⟩:∃ o,o=Q2h xss:=⟨_,rfl⟩;rw [<- ho];have HO:=sH ho;clear ho;by_cases h6:n=6
 ·have h6b:((n:Int) != 6)=false:=by simp [h6]
  obtain⟨ad,hA,hadb,hcell⟩:=hr.2 (by omega);subst hA;have HXL:=sH (show xss.length=6 by omega);have HLX:=sH hlx;have HCELL:=sH (fun(W:zA) (hb:zD w.heap.size w W) (q:Nat) (hq:q<6)=>(show ∃ Ak mk ck,W.cell? (ad.add q)=some (.slice Ak mk ck)/\Q04 W w.heap.size 1 Ak mk ((xss.getD q []).map vb)/\mk<=ck/\mk<=1000000000000 from by
   have hqx:q<xss.length:=by omega
   obtain⟨Ak,mk,ck,h1,h2,h3⟩:=hcell q xss[q] (zC hqx);have e:xss.getD q []=xss[q]:=by rw [zJ,zC hqx]; rfl
   rw [e];have hmk:xss[q].length=mk:=by have:=h2.1; simpa using this
   exact⟨Ak,mk,ck,(hb.cell (by rw [Q0d]; exact hadb)).trans h1,h2.below hb,h3,by have:=hlx _ (List.getElem_mem hqx); omega⟩))
  obtain⟨g6,hg⟩:∃ g,g=w.heap.size:=⟨_,rfl⟩;have HST:=sH (show NmSt w g6 xss 0 (w.alloc (.cells (sixV (fun _=>undef) 0) 122)) from⟨⟨fun _=>undef,Blk.newAt hg,fun j h=>by omega⟩,fun j h=>by omega,fun j h=>by omega,Q02 _ _,by omega⟩);rw [Q8b] at HST;have hgw:w.heap.size<=g6:=by omega
  clear hr hlx hcell hxl;subst h6;go_enter Tryz.func35,Tryz.ntmps35
  go_upto_region 4 with fail
  generalize World.alloc w _=w1 at HST ⊢;rw [<- hg];clear hg;go_wp2_with fail
  go_loopw [27] (fun iv wr=>∃ i:Nat,i<=6/\iv=.int .i64 i/\NmSt w g6 xss i wr) (fun iv _=>6 - (intOf iv).toNat)
  case atStart=>exact⟨0,by omega,rfl,HST.out⟩
  obtain⟨i,hi,rfl,hst⟩:=hrel;have HS:=sH hst;have hlow:=hst.low.size;clear hst HST;by_cases hin:i<6
  ·have hinI:(i:Int)<6:=by omega
   have h0I:(0:Int)<=(i:Int):=by omega
   obtain⟨Ak,mk,ck,h1,h2,h3,h4⟩:=HCELL.out wr HS.out.low i hin;have HNM:=sH (Q4K Ak mk ck (xss.getD i []) wr w.heap.size h2 hlow h3 h4);obtain⟨oq,hoq⟩:∃ q,q=Q28 (xss.getD i []):=⟨_,rfl⟩;rw [<- hoq] at HNM;have HOQ:=sH hoq;clear h2 hoq;go_wp2_with fail
   refine HNM.out.mono ?_;rintro _ w2 ⟨v,rfl,hown,hmx,hb2⟩;have hs2:=hb2.size;have HB2:=sH hb2;have HOW:=sH hown;have HMX:=sH hmx;obtain⟨Av,cv,hv,_⟩:=Q0e hown;obtain⟨ln,hln⟩:∃ q,q=(nI (oq.getD [])).length:=⟨_,rfl⟩;rw [<- hln] at hv;subst hv;clear hb2 hown hmx hln HNM h1;cases oq with
   | none =>
    have hon:o=none:=by
     rw [HO.out];refine Q3N fun hh=>?_
     have:=hh.2 i hin;rw [<- HOQ.out] at this;cases this
    subst hon;go_wp2_with fail
    go_ret2
    exact⟨fun _=>⟨rfl,HS.out.low.trans (HB2.out.mono hlow)⟩,fun m hm=>by cases hm⟩
   | some l =>
    have hnf:numF xss i=l:=by unfold numF; rw [<- HOQ.out]; rfl
    have hpush:=HS.out.push (v:=.slice Av ln cv) HB2.out (by rw [hnf]; exact HOW.out) (by rw [hnf]; exact HMX.out) (by rw [<- HOQ.out]; rfl);have HPU:=sH hpush;obtain⟨vs,hb6,_⟩:=(HS.out.below HB2.out).blk;have cc:w2.cell? ⟨g6,i,none⟩=some (.slice none 0 0):=(hb6.cell i).trans (by rw [Q3i _ _ _ hin,if_neg (by omega)]);have cf:w2.frozen? ⟨g6,i,none⟩=false:=hb6.frozen i;clear hnf hpush hb6;go_wp2_with fail
    go_roundw
    case rel=>exact⟨i+1,by omega,by go_num,HPU.out⟩
    case measure=>simp [intOf]; omega
  obtain rfl:i=6:=by omega
  go_upto_region 13 with fail
  obtain⟨nch,hnch⟩:∃ q:Nat,q=if numF xss 1=[0] then 1 else 2:=⟨_,rfl⟩
  have HNCH:=sH hnch;have hn12:1<=nch/\nch<=2:=by rw [hnch]; split <;> omega
  clear hnch;obtain⟨vs,hb6,hv6⟩:=HS.out.blk;have hv1:=hv6 1 (by omega);obtain⟨A1,c1,hvs,q1,q2,q3,q4⟩:=Q0e hv1;have cc:wr.cell? ⟨g6,1,none⟩=some (.slice A1 (nI (numF xss 1)).length c1):=by rw [<- hvs];exact(hb6.cell 1).trans (by rw [Q3i _ _ _ (by omega),if_pos (by omega)])
  obtain⟨n1,hn1⟩:∃ q,q=(nI (numF xss 1)).length:=⟨_,rfl⟩;rw [<- hn1] at cc q3 q1;have hal:=Q02 wr (.cells #[.int .i64 0] 3);have HEQ:=sH (Q5u A1 (some ⟨wr.heap.size,0,none⟩) n1 1 c1 1 (nI (numF xss 1)) [0] (wr.alloc (.cells #[.int .i64 0] 3)) _ _ (q3.below hal) (Q0l wr #[.int .i64 0] 3) (by unfold maxLen at q2 ⊢; omega) (by unfold maxLen; omega));have hiff:(nI (numF xss 1)=[0]) <-> (numF xss 1=[0]):=by
   constructor
   ·intro h;match hq:numF xss 1 with
    | []=>rw [hq] at h; simp [nI] at h
    | [x]=>rw [hq] at h; simp [nI] at h; rw [h]
    | x :: y :: t=>rw [hq] at h; simp [nI] at h
   intro h; rw [h]; rfl
  obtain⟨bq,hbq⟩:∃ b,b=decide (nI (numF xss 1)=[0]):=⟨_,rfl⟩;rw [<- hbq] at HEQ;have hnq:nch=if bq=true then 1 else 2:=by
   rw [HNCH.out,hbq];by_cases h:numF xss 1=[0]
   ·rw [if_pos h,if_pos (by rw [decide_eq_true (hiff.2 h)])]
   rw [if_neg h,if_neg (by rw [decide_eq_false (fun e=>h (hiff.1 e))]; simp)]
  have HNQ:=sH hnq;have HNM:=sH (HS.out.below hal);clear hb6 hv6 hv1 hvs q1 q2 q3 q4 hn1 hal hiff hbq hnq;go_wp2_with fail
  refine HEQ.out.mono ?_;rintro _ w3 ⟨rfl,kk,hw3⟩;have HN3:=sH (show NmSt w g6 xss 6 w3 from by rw [hw3]; exact HNM.out.below (Q0B (zI _ _) kk));clear hw3 cc HNM HEQ;have HSX:=sH (show NmSt w g6 xss 6 w3 from HN3.out)
  go_upto_if 49 with(fail)
  go_cut [10] (fun s10 wx=>s10=.slice (some ⟨g6,0,none⟩) nch 6/\NmSt w g6 xss 6 wx)
  case first =>
   cases bq with
   | true =>
    have hnc:=HNQ.out;simp only [if_true] at hnc;subst hnc;go_wp2_with fail
    go_meet
    exact⟨rfl,HN3.out⟩
   | false =>
    have hnc:=HNQ.out;simp only [Bool.false_eq_true,if_false] at hnc;subst hnc;go_wp2_with fail
    go_meet
    exact⟨rfl,HN3.out⟩
  obtain⟨rfl,hnm⟩:=hcut;obtain⟨vs,hsa⟩:=hnm.sa;have HMX:=sH hnm.max;have HIS:=sH hnm.is_;have hwc:=hnm.low.size;have hg6l:=hsa.blk.lt;obtain⟨g12,hg12⟩:∃ g,g=wc.heap.size:=⟨_,rfl⟩;have hcs:ChS w g6 g12 xss vs (fun _=>none) (fun _=>0) (fun _=>undef) 0 (.slice none 0 0) (wc.alloc (.cells (twoV (fun _=>undef) 0) 125)):=⟨hsa.below (Q02 _ _),⟨by simp [Q1G],.inl ⟨rfl,rfl⟩⟩,Blk.newAt hg12,fun j h=>by omega,by omega,by omega⟩;rw [Q89] at hcs;have HCS:=sH hcs;have HGC:=sH (show Q2h xss=Q7W (numF xss) from Q6t HXL.out HIS.out);clear hnm hcs HS hsa HCELL HSX HN3 HNQ;go_upto_region 17 with fail
  generalize World.alloc wc _=wd at HCS ⊢;rw [<- hg12];clear hg12;go_wp2_with fail
  go_loopw [11,54] (fun cv iv wr=>∃ i:Nat,i<=nch/\iv=.int .i64 i/\∃ fA fC ms,ChS w g6 g12 xss vs fA fC ms i cv wr) (fun _ iv _=>nch - (intOf iv).toNat)
  case atStart=>exact⟨0,by omega,rfl,_,_,_,HCS.out⟩
  obtain⟨i,hi,rfl,fA,fC,ms,hcs⟩:=hrel;obtain⟨w3,rfl⟩:∃ x,x=wr:=⟨_,rfl⟩;have HC3:=sH hcs;have hlow3:=hcs.sa.low.size;have hcl3:=hcs.row;clear HCS;by_cases hin:i<nch
  ·have hinI:(i:Int)<(nch:Int):=by omega
   have h0I:(0:Int)<=(i:Int):=by omega
   have hi2:i<2:=by omega
   have hown:=hcs.sa.own i (by omega);obtain⟨Ai,ci,hvi,_⟩:=Q0e hown;obtain⟨ni,hni⟩:∃ q,q=(nI (numF xss i)).length:=⟨_,rfl⟩;rw [<- hni] at hvi;have hnl:=Q4U xss i;have hnx:(xss.getD i []).length<=1000000000000:=by rw [zJ,zC (by have:=HXL.out; omega)];exact HLX.out _ (List.getElem_mem _)
   have HF:=sH (Q65 (vs i) (numF xss i) w3 w.heap.size hown (by omega) (HMX.out i (by omega)));have cc:w3.cell? ⟨g6,i,none⟩=some (vs i):=(hcs.sa.blk.cell i).trans (by rw [Q3i _ _ _ (by omega),if_pos (by omega)]);obtain⟨u,hu⟩:∃ u,u=vs i:=⟨_,rfl⟩;rw [<- hu] at HF cc hvi;subst hvi;have HU:=sH hu;clear hcs hown hni hnl hnx hu hcl3;go_wp2_with fail
   refine HF.out.mono ?_;rintro e4 w4 ⟨hb4,hno,hso⟩;cases hq:Q2i (numF xss i) with
   | none =>
    have he:=hno hq;subst he;have hon:o=none:=by rw [HO.out,HGC.out]; exact Q7S HNCH.out hin hq
    subst hon;have hlw:=HC3.out.sa.low.trans (hb4.mono hlow3);have hs4:=hb4.size;have HLW:=sH hlw;clear hb4 hno hso hq HF cc hlw;go_wp2_with (refine Q00 (o:=⟨none,_,_,_,_,_⟩) rfl 69 (.tmp 15) (.tmp 62) rfl w4.heap.size 0 (crC 0 none 0 0) rfl rfl 69 (crC 0 none 0 0) (Blk.newAt rfl) (by kernel_rfl) (by simp [crC]) (by simp [crC,zM]) ?_; intro w5 hT5 hD5)
    go_ret2
    exact⟨fun _=>⟨rfl,hT5.below (HLW.out.alloc (by omega) _) (by omega)⟩,fun m hm=>by cases hm⟩
   | some q =>
    obtain⟨f,A1,c1,A2,c2,hf,hf2,he,hr1,hr2,hc2⟩:=hso q hq;subst he;have hfq:fstF xss i=q:=by unfold fstF; rw [hq]; rfl
    rw [<- hfq] at hf hr1 hr2 hc2 ⊢;have hFS:=(⟨by rw [hq,hfq],⟨f,hf,hf2⟩,by rw [<- HU.out]; exact hr1,⟨A2,c2,rfl,by rw [<- HU.out]; exact hr2,hc2⟩⟩:FsOk w.heap.size xss (vs i) i A1 c1 (.slice A2 (fstF xss i).2.length c2));have HFS:=sH hFS;obtain⟨E,hE⟩:∃ E,E=crC f A1 (fstF xss i).1.2.length c1:=⟨_,rfl⟩;have hes:E.size=2:=by rw [hE]; rfl
    have he1:E.all (·.oneCell')=true:=by rw [hE]; exact Q1L _ _ _ _
    rw [<- hE];have HER:=sH (show E.toList=Q4P (fstF xss i) A1 c1 from by rw [hE]; unfold Q4P; rw [hf]; rfl);have HB4:=sH hb4;have hs4:=hb4.size;obtain⟨n2,hn2⟩:∃ k,k=(fstF xss i).2.length:=⟨_,rfl⟩;rw [<- hn2] at HFS ⊢;have hfold:Array.foldl (fun(cs:Array zB) (x:zB×Nat)=>cs.setIfInBounds x.snd x.fst) #[Value.int .i64 0,Value.slice none 0 0] E.zipIdx 0 2=E:=by rw [hE]; rfl
    have HFO:=sH hfold;clear hno hso hq hfq hf hr1 hr2 hc2 hFS hE HF cc hn2 hb4 hfold;go_upto_region 21 with(refine Q00 (o:=⟨none,_,_,_,_,_⟩) rfl 69 (.tmp 15) (.tmp 62) rfl w4.heap.size 0 E rfl rfl 69 #[.int .i64 0,.slice none 0 0] (Blk.newAt rfl) (by rw [hes]; kernel_rfl) (by rw [hes]; simp) he1 ?_; intro w5 hT5 hD5)
    rw [Q0a _ _ (by rw [hes]; rfl)] at hD5;have hb5:zD w4.heap.size w4 w5:=hT5.below ((zI _ _).alloc (zH _) _) (zH _);obtain⟨g15,hg15⟩:∃ b,b=w4.heap.size:=⟨_,rfl⟩;rw [<- hg15] at hD5 ⊢;have hs5:=hb5.size;have K15:=sH hD5;have HB5:=sH (HB4.out.trans (hb5.mono hs4));have hb6:=Q02 w5 (.cells E 69);have HB6:=sH (HB5.out.trans (hb6.mono (by omega)));have HC6:=sH (HC3.out.below HB6.out);have HROW6:=sH HC6.out.row;have HRD6:=sH (Q3o w5 E hes);obtain⟨i0,hi0,hz0,hz1,hz2⟩:=info_parts Q7k;have hlt5:=hD5.lt;have hfold:=HFO.out;have hi40:i<=40:=by omega
    have hlw6:=HC6.out.sa.low.size;simp only [World.alloc] at hlw6;clear hT5 hD5 hg15 hb5 hb6 HB4;go_wp2_with (first
     | refine Q01 (o:=⟨some 69,_,_,_,_,_⟩) rfl 69 (.tmp 15) rfl g15 0 2 rfl 69 _ E _ K15.out Tryz.underlying69 rfl rfl hes (fun _ _=>by rw [zL]) ?_
     | (at_builtin; go_must (refine Q05 _ rfl (.tmp 68) (.tmp 70) 66 rfl w.heap.size 69 i0 _ 2 32 Tryz.underlying66 hi0 hz0 hz1 hz2 rfl (by omega) _ _ _ rfl HROW6.out _ (some ⟨w5.heap.size,0,none⟩) 1 1 E.toList rfl HRD6.out ?d1 ?d2 ?d3 ?d4 ?_)))
    case d1=>exact fun u hu=>(Array.all_eq_true'.1 he1) u (by simpa using hu)
    case d2=>unfold maxLen; omega
    case d3=>first | omega | (simp; omega)
    case d4=>first | omega | (simp; omega)
    intro v6 w6 hown6 hg6' hor6;have hpu:=HC3.out.push HB6.out (by rw [<- HER.out]; exact hown6) hg6' HFS.out;have HPU:=sH hpu;have n12:=Q09 HC6.out.row HC6.out.arr (by decide);have a2:Blk w6 g12 125 (twoV ms i):=(hg6'.block g12 HC6.out.arr.lt (fun e=>n12 e.symm)).trans HC6.out.arr;have ca:w6.cell? ⟨g12,i,none⟩=some (.slice none 0 0):=(a2.cell i).trans (by rw [Q7i _ _ _ hi2,if_neg (by omega)]);have cf:w6.frozen? ⟨g12,i,none⟩=false:=a2.frozen i;clear hown6 hg6' hor6 hpu n12 a2 HROW6 HRD6 hfold;go_wp2_with fail
    go_roundw
    case rel=>exact⟨i+1,by omega,by go_num,_,_,_,HPU.out⟩
    case measure=>simp [intOf]; omega
  obtain rfl:nch=i:=by omega
  have hl7:∀ j,j<nch->(fstF xss j).1.2.length<=100:=fun j hj=>by have:=(Q3k (HC3.out.ok j hj).is_).1; omega
  obtain⟨Ac,cc,hcv,hcr⟩:=HC3.out.crews (by omega) hl7;subst hcv;obtain⟨cl,hcl⟩:∃ l,l=(List.range nch).map (fun j=>(fstF xss j).1):=⟨_,rfl⟩;obtain⟨mv,hmv⟩:∃ f:Nat->List Int,f=fun j=>if j<nch then(fstF xss j).2 else []:=⟨_,rfl⟩
  have hgo:Q2h xss=Q4L cl mv (numF xss):=by rw [HGC.out,hcl,hmv]; exact Q6E HNCH.out (fun j hj=>(HC3.out.ok j hj).is_)
  rw [<- hcl] at hcr;have HGO:=sH hgo;have HMV:=sH hmv;have HCL:=sH hcl;have HBG:=sH (Q4d Ac nch cc cl w3 hcr (by omega));clear hl7 hcr hgo hmv hcl hcs hcl3 hin hi;go_wp2_with fail
  refine HBG.out.mono ?_;rintro e4 w4 ⟨hb4,hno,hso⟩;have hs4:=hb4.size;cases hq:Q1S cl with
  | none =>
   have he:=hno hq;subst he;have hon:o=none:=by rw [HO.out,HGO.out]; unfold Q4L; rw [hq]
   subst hon;have HLW:=sH (HC3.out.sa.low.trans (hb4.mono hlow3));clear hb4 hno hso hq HBG;go_wp2_with fail
   go_ret2
   exact⟨fun _=>⟨rfl,HLW.out⟩,fun m hm=>by cases hm⟩
  | some acc =>
   obtain⟨g,v,nA,nC,he,hraw⟩:=hso acc hq;subst he;obtain⟨hck,hbare,hlen⟩:=Q59 hq;obtain⟨gc,arr,cap,hv,hgcB,hgg,hdat⟩:=hraw.dat hck;have hgB:=hraw.gB;obtain⟨T,hT⟩:∃ T,T=totQ acc mv:=⟨_,rfl⟩;have HOC:=sH (show Q2h xss=endQ T (numF xss) from by rw [HGO.out,Q96 hq,hT]);have HOH:=sH (show OhSt w3 g gc nch T mv 0 acc w4 from⟨⟨_,hdat⟩,hb4,by rw [hlen,HCL.out]; simp,by rw [hT,Q8i],fun j s _ hs=>hbare s (List.mem_of_getElem? hs)⟩);have HSW:=sH (fun(W:zA) (hb:zD w3.heap.size w3 W)=>HC3.out.sa.below hb);obtain⟨M2,hM2⟩:∃ M,M=twoV ms nch:=⟨_,rfl⟩;have harr:=(HC3.out.below hb4).arr;rw [<- hM2] at harr;have HARR:=sH harr;have hm2s:M2.size=2:=by rw [hM2]; exact Q0q _ _
   have HMS:=sH (show ∀ j,j<2->∃ A n c,M2[j]?=some (.slice A n c)/\n=(mv j).length/\n<=c/\n<=42/\(0<n->j<nch)/\∀ W,zD w3.heap.size w3 W->Q04 W W.heap.size 1 A n ((mv j).map vn) from fun j hj=>by
    rw [hM2,Q7i _ _ _ hj,HMV.out];by_cases hjn:j<nch
    ·have hok:=HC3.out.ok j hjn;obtain⟨A,c,h1,h2,h3⟩:=hok.mv;refine⟨A,_,c,by rw [if_pos hjn,h1],by show _=(if j<nch then _ else _:List Int).length; rw [if_pos hjn],h3,(Q3k hok.is_).2,fun _=>hjn,fun W hb=>?_⟩;show Q04 W _ 1 A _ ((if j<nch then _ else _:List Int).map vn);rw [if_pos hjn];exact h2 W ((HSW.out W hb).own j (by omega))
    refine⟨none,0,0,by rw [if_neg hjn],by show _=(if j<nch then _ else _:List Int).length; rw [if_neg hjn]; rfl,zH _,by omega,fun h=>by omega,fun W hb=>?_⟩;show Q04 W _ 1 none 0 ((if j<nch then _ else _:List Int).map vn);rw [if_neg hjn];exact Q04.none_)
   clear hb4 hno hso hq hraw hck hbare hlen hv hdat hT hM2 harr HBG HGO;go_wp2_with (refine Q01 (o:=⟨some 79,_,_,_,_,_⟩) rfl 125 (.tmp 12) rfl g12 0 2 rfl 125 _ M2 _ HARR.out Tryz.underlying125 rfl rfl hm2s (fun _ _=>by rw [zL]) ?_)
   go_loopw [80] (fun iv wr=>∃ i:Nat,i<=2/\iv=.int .i64 i/\∃ cs,OhSt w3 g gc nch T mv i cs wr) (fun iv _=>2 - (intOf iv).toNat)
   case atStart=>exact⟨0,by omega,rfl,_,HOH.out⟩
   obtain⟨i,hi,rfl,cs,hoh⟩:=hrel;obtain⟨w5,rfl⟩:∃ x,x=wr:=⟨_,rfl⟩;have HH:=sH hoh;clear hoh HOH;by_cases hin:i<2
   ·have hinI:(i:Int)<2:=by omega
    have h0I:(0:Int)<=(i:Int):=by omega
    obtain⟨A,n,c2,hM,hnl,hnc,hn42,hnn,hrd⟩:=HMS.out i hin;have HOM:=sH (HH.out.enter hin (by omega) (by rw [<- hnl]; exact hnn));have HRD:=sH hrd;have HNL:=sH hnl;have HIX:=sH (fun(W:zA)=>Q35 (P:=zG) (t:=125) (e:=29) Tryz.underlying125 (by kernel_rfl) (fun w=>by go_simp) M2 i (.slice A n c2) hin hM W);clear hnl hrd hnn hM;go_wp2_with (refine Q1l (o:=⟨some 83,_,_,_,_,_⟩) rfl (.slice A n c2) (by have h:=HIX.out w5; go_simp) ?_)
    go_loopw [20] (fun mvv wr=>∃ (A:Option Addr) (n c2:Nat) (rest:List Int) (cs:List Srv),mvv=.slice A n c2/\rest.length=n/\n<=c2/\(∀ W,zD w3.heap.size w3 W->Q04 W W.heap.size 1 A n (rest.map vn))/\OmSt w3 g gc nch T mv i cs rest wr) (fun mvv _=>match mvv with | .slice _ n _=>n | _=>0)
    case atStart=>exact⟨_,_,_,_,_,rfl,HNL.out.symm,hnc,HRD.out,HOM.out⟩
    obtain⟨A,n,c2,rest,cs,rfl,hrl,hnc,hrd,hom⟩:=hrel;obtain⟨w6,rfl⟩:∃ x,x=wr:=⟨_,rfl⟩;clear HOM HH HRD HNL;have HM:=sH hom;have HRD:=sH hrd;have HRL:=sH hrl;have hlow6:=hom.low.size;clear hom hrd hrl;by_cases hn1:1<n
    ·have hn1I:(1:Int)<(n:Int):=by omega
     have hn0I:(0:Int)<(n:Int):=by omega
     have hn0:0<n:=by omega
     obtain⟨ov,z,t,rfl⟩:∃ a b t,rest=a :: b :: t:=by
      match rest,HRL.out with
      | a :: b :: t,_=>exact⟨a,b,t,rfl⟩
      | [x],h=>simp at h; omega
      | [],h=>simp at h; omega
     have hwi:i<nch:=HM.out.has (by simp);obtain⟨s,hs⟩:∃ s,cs[i]?=some s:=⟨_,zC (by have:=HM.out.len; omega)⟩;obtain⟨ad,hA,had,_⟩:=(HRD.out w3 (zI _ _)).2 hn0;subst hA;obtain⟨ad',hA,_,hcell⟩:=(HRD.out w6 HM.out.low).2 hn0;injection hA with hA
     subst hA;have c0:w6.cell? (ad.add 0)=some (.int .i64 ov):=hcell 0 (.int .i64 ov) rfl;have c1:w6.cell? (ad.add 1)=some (.int .i64 z):=hcell 1 (.int .i64 z) rfl;obtain⟨bq,hbq⟩:∃ b,b=decide (Q0H cs s.f z=false/\Q1I s.now ov z):=⟨_,rfl⟩;have HMVE:=sH (fun(W:zA) (hb:zD w6.heap.size w6 W)=>HM.out.move_ hs hgg ⟨hgB,hgcB⟩ hb bq hbq);obtain⟨K,hK⟩:∃ K:zA->Prop,K=fun W=>zD w3.heap.size w3 W/\(bq=true->OmSt w3 g gc nch T mv i (cs.set i (Q1b s ov z)) t W):=⟨_,rfl⟩
     have HKS:=sH (show ∀ W W',K W->zD W.heap.size W W'->K W' from fun W W' h hb=>by rw [hK] at h ⊢;exact⟨h.1.trans (hb.mono h.1.size),fun e=>(h.2 e).below hb⟩)
     have HKO:=sH (show ∀ W,K W->zD w3.heap.size w3 W/\(bq=true->OmSt w3 g gc nch T mv i (cs.set i (Q1b s ov z)) t W) from fun W h=>by rw [hK] at h; exact h);have HKI:=sH (show ∀ W,(zD w3.heap.size w3 W/\(bq=true->OmSt w3 g gc nch T mv i (cs.set i (Q1b s ov z)) t W))->K W from fun W h=>by rw [hK]; exact h);have HBQ:=sH hbq;have HSS:=sH hs;have hb0:(ad.add 0).block<w3.heap.size:=by rw [Q0d]; exact had
     have hb1:(ad.add 1).block<w3.heap.size:=by rw [Q0d]; exact had
     have hw36:=HM.out.low.size;have HJ0:=sH (show MvJ w6 (ad.add 0) (ad.add 1) ov z K 0 w6 from⟨c0,c1,⟨by omega,by omega⟩,fun _=>zI _ _,fun e=>by omega⟩);have HSL:=sH (fun(W:zA)=>Q0G (P:=zG) (t:=29) (e:=3) Tryz.underlying29 (by kernel_rfl) (some ad) n c2 2 2 rfl (by omega) W);clear hcell c0 c1 hbq hK hs;go_upto_region 33 with fail
     refine Q0T 9 125 (fun jx W v=>match jx with | 0=>v=.pointer (some ⟨g,0,none⟩) | 1=>v=.int .i64 (i:Int) | 2=>v=.slice (some ad) n c2 | 3=>v=.pointer (some (ad.add 0)) | 4=>v=.int .i64 ov | 5=>v=.slice (some ad) n c2 | 6=>v=.pointer (some (ad.add 1)) | 7=>v=.int .i64 z | _=>v=.bool bq) (MvJ w6 (ad.add 0) (ad.add 1) ov z K) (fun _ _=>True) [8] [89,90,91,92,93,94,95,96,97] (by kernel_rfl) (by kernel_rfl) (by kernel_rfl) (by kernel_rfl) (by first | rfl | simp) (by kernel_rfl) (fun jx=>?last) ?lastR (fun s W W' h1 h2=>h1.later_ HKS.out h2) HJ0.out ?heads ?_
     case last =>
      match jx with
      | 0 | 1 | 2 | 3 | 4 | 5 | 6 | 7 | jx+8=>exact Q2w.pure _
     case lastR =>
      intro s jx W W' u hsl hs hj hp hR;match jx with
      | 0 | 1 | 2 | 3 | 4 | 5 | 6 | 7 | jx+8=>exact hp
     case heads =>
      simp only [tT];and_intros;rotate_right;trivial
      all_goals try(rw [if_neg (by decide)];intro s a W hj hkp hd)
      ·have e0:(_:zB)=.pointer (some ⟨g,0,none⟩):=sK hkp 18;exact sV
      ·have e0:(_:zB)=.int .i64 (i:Int):=sK hkp 19;exact sV
      ·have e0:(_:zB)=.slice (some ad) n c2:=sK hkp 20;exact sV
      ·have e0:=sJ (hd 2) 91;exact sV
      ·have e0:=sJ (hd 3) 92;have cc:W.cell? ad=some (.int .i64 ov):=hj.c0;exact sV
      ·have e0:(_:zB)=.slice (some ad) n c2:=sK hkp 20;exact sV
      ·have e0:=sJ (hd 5) 94;exact sV
      ·have e0:=sJ (hd 6) 95;have cc:W.cell? { block:=ad.block,off:=ad.off+1 }=some (.int .i64 z):=hj.c1;exact sV
      rw [if_pos (by decide)];intro s a W hs hj hkp hd;have e0:=sJ (hd 0) 89;have e1:=sJ (hd 1) 90;have e2:=sJ (hd 4) 93;have e3:=sJ (hd 7) 96;have h0:s=0:=by
       match s,hs with
       | 0,_=>rfl
       | s+1,hs=>simp at hs
      subst h0;refine Q3a rfl 70 #[.pointer (some ⟨g,0,none⟩),.int .i64 (i:Int),.int .i64 ov,.int .i64 z] (by go_simp) ((HMVE.out W (hj.zero rfl)).mono ?_);rintro e w' ⟨rfl,q1,q2,q3⟩;exact⟨_,rfl,trivial,⟨(World.cell?_of_block (q2 _ hb0)).trans hj.c0,(World.cell?_of_block (q2 _ hb1)).trans hj.c1,⟨by have:=hj.lt.1; omega,by have:=hj.lt.2; omega⟩,fun e=>by omega,fun _=>HKI.out _ q1⟩,rfl⟩
     intro fv W hj hd;have h97:fv 97=.bool bq:=hd 8 (by omega) _ 97 rfl rfl;obtain⟨hlW,hsW⟩:=HKO.out W (hj.one rfl);have HLW:=sH hlW;have HSW2:=sH hsW;simp only [Q19,tU,h97];clear hd hj h97 hlW hsW HJ0 HMVE HKS HKO HKI;try simp only [Act.put,sA]
     cases bq with
     | true =>
      have HNX:=sH (HSW2.out rfl);obtain⟨A',hA'⟩:∃ A',A'=(if c2=2 then(some ad) else(some ad).map (·.add 2)):=⟨_,rfl⟩;have hrd2:∀ W,zD w3.heap.size w3 W->Q04 W W.heap.size 1 A' (n - 2) (t.map vn):=fun W hb=>by
       have:=(HRD.out W hb).sub (l:=2) (k:=n) (cap:=c2) hn1 (zH _) hnc;simp only [Nat.mul_one] at this;rw [<- hA'] at this;have e:(((ov :: z :: t).map vn).drop 2).take (n - 2)=t.map vn:=by show (t.map vn).take (n - 2)=_;exact List.take_of_length_le (by have:=HRL.out; simp at this ⊢; omega)
       rw [e] at this;exact this
      have HRD2:=sH hrd2;rw [<- hA'] at HSL;clear hrd2 hA';go_wp2_with (refine Q1l (o:=⟨some 88,_,_,_,_,_⟩) rfl (.slice A' (n - 2) (c2 - 2)) (by have h:=HSL.out W; go_simp) ?_)
      go_roundw
      case rel=>exact⟨_,_,_,_,_,rfl,by have:=HRL.out; simp at this; omega,by omega,HRD2.out,HNX.out⟩
      case measure=>simp; omega
     | false =>
      have hon:o=none:=by rw [HO.out,HOC.out,HM.out.fail HSS.out (of_decide_eq_false HBQ.out.symm)];rfl
      subst hon;have HLR:=sH (show zD w.heap.size w W from(HC3.out.sa.low.trans (HLW.out.mono hlow3)));go_wp2_with fail
      go_ret2
      exact⟨fun _=>⟨rfl,HLR.out⟩,fun m hm=>by cases hm⟩
    have hn1I:¬ (1:Int)<(n:Int):=by omega
    have HE:=sH (HM.out.leave hin (by have:=HRL.out; omega));go_wp2_with fail
    go_roundw
    case rel=>exact⟨i+1,by omega,by go_num,_,HE.out⟩
    case measure=>simp [intOf]; omega
   obtain rfl:i=2:=by omega
   have hkh:∀ b,k.has b->b<w.heap.size:=fun b hb=>by rcases hb with e | e | e <;> omega
   obtain⟨hTs,hoa⟩:=HH.out.answers (w:=w) (k:=k) (f:=numF xss) (by omega) hkh;have HTS:=sH hTs;have HOA:=sH hoa;have HKH:=sH hkh;clear hTs hoa HH hkh;go_wp2_with fail
   go_loopw [100] (fun jv wr=>∃ j:Nat,j<=4/\jv=.int .i64 j/\OaSt w w3 g gc k cs (numF xss) j wr) (fun jv _=>4 - (intOf jv).toNat)
   case atStart=>exact⟨0,by omega,rfl,HOA.out⟩
   obtain⟨j,hj,rfl,hoa⟩:=hrel;obtain⟨w6,rfl⟩:∃ x,x=wr:=⟨_,rfl⟩;clear HOA;have HA:=sH hoa;have hlow6:=hoa.low.size;have hsa:=HSW.out w6 hoa.low;have HLA:=sH (HC3.out.sa.low.trans (hoa.low.mono hlow3));clear hoa;by_cases hj4:j<4
   ·have hjI:(j:Int)<4:=by omega
    have h0j:(0:Int)<=(j:Int):=by omega
    have hj6:(2:Int)+(j:Int)<6:=by omega
    have hj06:(0:Int)<=(2:Int)+(j:Int):=by omega
    have hjn:((2:Int)+(j:Int)).toNat=2+j:=by omega
    have hown:=hsa.own (2+j) (by omega);obtain⟨Ai,ci,hvi,_⟩:=Q0e hown;obtain⟨ni,hni⟩:∃ q,q=(nI (numF xss (2+j))).length:=⟨_,rfl⟩;rw [<- hni] at hvi;have hnl:=Q4U xss (2+j);have hnx:(xss.getD (2+j) []).length<=1000000000000:=by rw [zJ,zC (by have:=HXL.out; omega)];exact HLX.out _ (List.getElem_mem _)
    have HTD:=sH (Q7K (vs (2+j)) (numF xss (2+j)) w6 w.heap.size hown (by omega) (HMX.out (2+j) (by omega)));have cc6:w6.cell? ⟨g6,2+j,none⟩=some (vs (2+j)):=(hsa.blk.cell (2+j)).trans (by rw [Q3i _ _ _ (by omega),if_pos (by omega)]);obtain⟨u,hu⟩:∃ u,u=vs (2+j):=⟨_,rfl⟩;rw [<- hu] at HTD cc6 hvi hown;have HOWN:=sH hown;subst hvi;clear hsa hown hni hnl hnx hu;go_wp2_with fail
    refine HTD.out.mono ?_;rintro e7 w7 ⟨hb7,hno,hso⟩;have hs7:=hb7.size;cases hq:Q34 (numF xss (2+j)) with
    | none =>
     obtain⟨D,he,hds,hd1⟩:=hno hq;subst he;have hon:o=none:=by rw [HO.out,HOC.out,HTS.out]; exact Q7T hj4 hq
     subst hon;have HLW:=sH (HLA.out.trans (hb7.mono HLA.out.size));have hlw7:=HLW.out.size;clear hb7 hno hso hq HTD cc6;go_wp2_with (refine Q00 (o:=⟨none,_,_,_,_,_⟩) rfl 81 (.tmp 22) (.tmp 109) rfl w7.heap.size 0 D rfl rfl 81 #[.int .i64 0,.int .i64 0,.slice none 0 0,.int .i64 0,.slice none 0 0] (Blk.newAt rfl) (by rw [hds]; kernel_rfl) (by rw [hds]; simp) hd1 ?_; intro w8 hT8 hD8)
     go_ret2
     exact⟨fun _=>⟨rfl,hT8.below (HLW.out.alloc (by omega) _) (by omega)⟩,fun m hm=>by cases hm⟩
    | some x =>
     obtain⟨A,c3,he,hrd,hc,hcm,hob⟩:=hso x hq;subst he;obtain⟨D,hD⟩:∃ D,D=lsC x.1 x.2 A c3:=⟨_,rfl⟩;have hds:D.size=5:=by rw [hD]; rfl
     have hd1:D.all (·.oneCell')=true:=by rw [hD]; simp [lsC,zM]
     rw [<- hD];have HB7:=sH hb7;have HPT:=sH (fun(W:zA) (hb:zD w6.heap.size w6 W)=>HA.out.put (A:=A) (c:=c3) (u:=.slice Ai ni ci) hj4 hgg ⟨hgB,hgcB⟩ HKH.out hb hq (HMX.out (2+j) (by omega)) (HOWN.out.below_ hb) hrd ⟨hc,hcm⟩ hob);rw [<- hD] at HPT;clear hb7 hno hso hq hrd hc hcm hob hD HTD cc6;go_upto_region 40 with(refine Q00 (o:=⟨none,_,_,_,_,_⟩) rfl 81 (.tmp 22) (.tmp 109) rfl w7.heap.size 0 D rfl rfl 81 #[.int .i64 0,.int .i64 0,.slice none 0 0,.int .i64 0,.slice none 0 0] (Blk.newAt rfl) (by rw [hds]; kernel_rfl) (by rw [hds]; simp) hd1 ?_; intro w8 hT8 hD8)
     rw [Q0a _ _ (by rw [hds]; rfl)] at hD8;have hb8:zD w7.heap.size w7 w8:=hT8.below ((zI _ _).alloc (zH _) _) (zH _);obtain⟨g22,hg22⟩:∃ b,b=w7.heap.size:=⟨_,rfl⟩;rw [<- hg22] at hD8 ⊢;have K22:=sH hD8;have HB8:=sH (HB7.out.trans (hb8.mono hs7));have hs8:=HB8.out.size;clear hT8 hD8 hb8 hg22 HB7;go_upto_region 42 with fail
     refine Q0J 6 125 (by kernel_rfl) (by kernel_rfl) (by kernel_rfl) (by first | rfl | simp) ?_;simp only [tT,tU];refine tD (.pointer (some ⟨g,0,none⟩)) ?_;try simp only [Act.put,sA]
     refine tD (.int .i64 (j:Int)) ?_;try simp only [Act.put,sA]
     refine Q0M rfl 81 (.tmp 22) rfl g22 0 5 rfl 81 _ D _ K22.out Tryz.underlying81 rfl rfl hds (fun _ _=>by rw [zL]) ?_;try simp only [Act.put,sA]
     refine tC (.pointer (some ⟨g,0,none⟩)) ?_;try simp only [Act.put,sA]
     refine tC (.pointer (some ⟨g,2,none⟩)) ?_;try simp only [Act.put,sA]
     refine tC (.pointer (some ⟨g,2+j*5,none⟩)) ?_;try simp only [Act.put,sA]
     refine Q1K ?_;intro w9 hb9;obtain⟨c0,hB0,hz0,hput⟩:=HPT.out w9 (HB8.out.trans (hb9.mono hs8));have HB0:=sH hB0;have HPU:=sH hput;clear hb9 hB0 hput HPT;go_wp2_with (refine Q00 (o:=⟨none,_,_,_,_,_⟩) rfl 81 (.tmp 118) (.tmp 115) rfl g (2+j*5) D rfl rfl 84 c0 HB0.out (by rw [hds]; kernel_rfl) (by rw [hds,hz0]; omega) hd1 ?_; intro w10 hT10 hD10)
     have HNX:=sH (HPU.out w10 hT10 hD10);clear hT10 hD10 HPU HB0;go_wp2_with fail
     go_roundw
     case rel=>((repeat apply Exists.intro); exact⟨⟨j+1,by omega,by go_num,HNX.out⟩,rfl⟩)
     case measure=>simp [intOf]; omega
   obtain rfl:j=4:=by omega
   have hom:o=some (midA cs (numF xss) 4):=by rw [HO.out,HOC.out,HTS.out]; exact Q7Q HA.out.told
   obtain⟨S,hd⟩:=HA.out.dat;have hgl:=hd.lt;have HPL:=sH (Q6M w6 g);have HOM:=sH hom;have hkl':=hkl;clear hsa hom hd;go_wp2_with fail
   refine HPL.out.mono ?_;rintro _ w7 ⟨rfl,hpl⟩;have HFIN:=sH (HLA.out.trans (hpl.mono HLA.out.size));clear hpl HPL;go_wp2_with fail
   go_ret2
   refine⟨fun h=>?_,fun m hm=>?_⟩
   ·rw [HOM.out] at h; cases h
   exact⟨rfl,HFIN.out⟩
 have h6b:((n:Int) != 6)=true:=by simp; omega
 have hon:o=none:=by rw [HO.out]; exact Q3N fun hh=>h6 (by omega)
 subst hon;clear hr hlx hxl;go_enter Tryz.func35,Tryz.ntmps35
 go_wp2_with fail
 go_ret2
 exact⟨fun _=>⟨rfl,zI _ _⟩,fun m hm=>by cases hm⟩
theorem aLoadNil (k:Book) (A:Option Addr) (n c:Nat) (xs:List UInt8) (w:zA) (hkl:k.g<w.heap.size/\k.b1<w.heap.size/\k.b2<w.heap.size) (hr:Q04 w w.heap.size 1 A n (xs.map vb)) (hc:n<=c) (hn:n<=1000000000000) :
 zF zG 37 #[.pointer none,.slice A n c] w (Q88 w (Q1V xs).1 (Q1V xs).2):=by
 obtain⟨o,ho⟩:∃ o,o=(Q1V xs).1:=⟨_,rfl⟩;obtain⟨en,hen⟩:∃ o,o=(Q1V xs).2:=⟨_,rfl⟩;rw [<- ho,<- hen];have HO:=sH ho;have HEN:=sH hen;have HKL:=sH hkl;have HST:=sH (show Q9J w xs A n c (.slice none 0 0) xs [] [] 0 w from⟨hr,hc,OwnL.nil _ _,rfl,(fun x hx=>by simp at hx),rfl,zI _ _⟩);obtain⟨i0,hi0,hz0,hz1,hz2⟩:=info_parts Q7f;clear hr hkl ho hen hc;go_enter Tryz.func37,Tryz.ntmps37
 go_wp2_with fail
 go_loopw [1,6,10] (fun bv lv iv wr=>∃ (A:Option Addr) (n c:Nat) (rest:List UInt8) (acc:LL) (vs:List zB) (i:Nat),i<=6/\n<=1000000000000/\bv=.slice A n c/\iv=.int .i64 i/\Q9J w xs A n c lv rest acc vs i wr) (fun _ _ iv _=>6 - (intOf iv).toNat)
 case atStart=>exact⟨_,_,_,_,_,_,0,by omega,hn,rfl,rfl,HST.out⟩
 obtain⟨A,n,c,rest,acc,vs,i,hi,hn,rfl,rfl,hst⟩:=hrel;have HS:=sH hst;have hsz:=hst.low.size;have hrl:rest.length=n:=by have:=hst.rd.1; simpa using this
 have HRL:=sH hrl;clear hrl;by_cases hin:i<6
 ·have hinI:(i:Int)<6:=by omega
  have HT:=sH (Q50 A n c 128 rest wr wr.heap.size hst.rd (zH _) hst.cap (by omega) (by omega));have hgo:=HS.out.go.trans ((congrArg (fun q=>Q3A q rest acc) (show 6 - i=(6 - (i+1))+1 by omega)).trans (Q5s _ rest acc));have hl1:=ts_len rest 128;have hl2:=Q9h rest 128;obtain⟨q,hq⟩:∃ q,q=ts rest 128:=⟨_,rfl⟩;rw [<- hq] at HT hgo hl1 hl2;obtain⟨d,r2,e2⟩:=q;simp only at hgo hl1 hl2;have HT2:=sH (show zF zG 56 #[.slice A n c,.int .i64 128] wr _ from HT.out);have HGO:=sH hgo;have HL1:=sH hl1;have HL2:=sH hl2;clear hst HT hq hgo hl1 hl2;go_wp2_with fail
  refine HT2.out.mono ?_;rintro _ w3 ⟨v,v',rfl,hod,hor,hb3⟩;obtain⟨Au,cu,hv,q1,q2,q3,q4⟩:=Q0m hod;obtain⟨A4,c4,hv',p1,p2,p3,p4⟩:=Q0m hor;subst hv hv';have HP3:=sH p3;have hs3:=hb3.size;have hrn:r2.length<=1000000000000:=by have:=HL1.out; have:=HRL.out; omega
  have hdn:d.length<=1000000000000:=by have:=HL2.out; have:=HRL.out; omega
  obtain⟨u,hu⟩:∃ u,u=Value.slice Au d.length cu:=⟨_,rfl⟩;have HOR:=sH (show OwnB w3 w.heap.size (.slice A4 r2.length c4) r2 from hor.more hsz);have HOD:=sH (show OwnB w3 w.heap.size u d from by rw [hu]; exact hod.more hsz);have HB3:=sH hb3;clear hod hor q1 q2 q3 q4 p2 p3 p4 HT2;obtain⟨nd,hnd⟩:∃ k,k=d.length:=⟨_,rfl⟩;obtain⟨nr,hnr⟩:∃ k,k=r2.length:=⟨_,rfl⟩;rw [<- hnd] at hu hdn ⊢;rw [<- hnr] at hrn p1 HP3 HOR ⊢;have HND:=sH hnd;clear hnd hnr;by_cases he:e2=0
  ·subst he;have HW:=sH (show (w3.alloc (.cells #[u] 28)).ownsRow w.heap.size 28 1 _ i vs from by
    have:=(Q0k HS.out.own.row (w':=w3) fun b hb''=>hb3.block b (Q0f HS.out.own.row hb'').2).alloc (.cells #[u] 28);rw [HS.out.al] at this;exact this)
   have HR3:=sH (Q0l w3 #[u] 28);rw [hu] at HW HR3;have HU:=sH hu;clear hb3 hu;go_wp2_with (at_builtin; go_must (refine Q05 _ rfl (.tmp 21) (.tmp 23) 43 rfl w.heap.size 28 i0 _ 1 24 Tryz.underlying43 hi0 hz0 hz1 hz2 rfl (by omega) _ i vs rfl HW.out (w3.heap.size+1) (some ⟨w3.heap.size,0,none⟩) 1 1 [.slice Au nd cu] rfl HR3.out ?c1 ?c2 ?c3 ?c4 ?_))
   case c1=>intro z hz; rw [List.mem_singleton] at hz; subst hz; rfl
   case c2=>unfold maxLen; omega
   case c3=>omega
   case c4=>simp; omega
   intro v6 w6 hown6 hg6 hor6;rw [<- HU.out] at hown6 hg6;have ho6:OwnL w6 w.heap.size v6 (acc++[d]) (vs++[u]):=HS.out.own.push HB3.out HOD.out (by rw [HS.out.al]; exact hown6) hg6;have hb6:zD w.heap.size w w6:=Q0i ((HS.out.low.trans (HB3.out.mono hsz)).trans ((Q02 w3 (.cells #[u] 28)).mono (by omega))) (by simp; omega) hg6 (fun b hb=>(Q0f HS.out.own.row hb).1);have hrd6:Q04 w6 w6.heap.size 1 A4 nr (r2.map vb):=(HS.out.own.push_keep HB3.out hg6 HOR.out).reads.2.2.2.1;have hst6:Q9J w xs A4 nr c4 v6 r2 (acc++[d]) (vs++[u]) (i+1) w6:=⟨hrd6,p1,ho6,by rw [List.length_append,HS.out.al]; rfl,(by
    intro x hx;rcases List.mem_append.1 hx with hx | hx
    ·exact HS.out.ax x hx
    rw [List.mem_singleton] at hx; rw [hx,<- HND.out]; exact hdn),by rw [HGO.out,if_neg (by simp)],hb6⟩
   have HST6:=sH hst6;clear hown6 hg6 hor6 ho6 hb6 hrd6 hst6;go_wp2_with fail
   go_roundw
   case rel=>exact⟨_,_,_,_,_,_,i+1,by omega,hrn,rfl,by go_num,HST6.out⟩
   case measure=>simp [intOf]; omega
  have heb:((e2:Int) != 0)=true:=by simp; omega
  have hlo:Q1V xs=(none,e2):=by unfold Q1V;rw [HGO.out,if_pos he];simp only;rw [if_pos he]
  have ho:o=none:=by rw [HO.out,hlo]
  have he2:en=e2:=by rw [HEN.out,hlo]
  have HLOW:=sH (HS.out.low.trans (hb3.mono hsz));subst ho he2;clear hb3 hu hlo HO HEN HS;go_wp2_with fail
  go_ret2
  exact⟨fun _=>⟨rfl,HLOW.out⟩,fun m hm=>by cases hm⟩
 obtain rfl:i=6:=by omega
 have hinI:¬ (6:Int)<6:=by omega
 have hlg:Q3A 6 xs []=(acc,rest,0):=by rw [HS.out.go]; rfl
 have HLG:=sH hlg;obtain⟨Al,cl,hlv,hcl,hrows⟩:=HS.out.own.rowsC;rw [HS.out.al] at hlv hrows;subst hlv;have HROWS:=sH hrows;clear hst hlg hrows hcl;by_cases h0:n=0
 ·have h0I:¬ (0:Int)<(n:Int):=by omega
  subst h0;have hlo:Q1V xs=match Q2h acc with | none=>(none,2) | some m=>(some m,0):=by unfold Q1V;rw [HLG.out];simp only;rw [if_neg (by simp),if_neg (by rw [HRL.out]; omega)];cases Q2h acc <;> rfl
  have HBW:=sH (show k.g<wr.heap.size/\k.b1<wr.heap.size/\k.b2<wr.heap.size from by have:=HKL.out; omega);have HOP:=sH (Q95 k Al 6 cl acc wr HBW.out HROWS.out (by omega) (fun x hx=>by have:=HS.out.ax x hx; omega));have hoo:o=Q2h acc:=by rw [HO.out,hlo]; cases Q2h acc <;> rfl
  have hee:o=none->en=2:=fun h=>by rw [HEN.out,hlo,<- hoo,h]
  rw [<- hoo] at HOP;have HEE:=sH hee;have HLOW:=sH HS.out.low;clear hlo hoo hee HO HEN HS HLG;go_wp2_with fail
  refine HOP.out.mono ?_;rintro _ w9 ⟨hno,hso⟩;rcases Option.eq_none_or_eq_some o with hoc | ⟨m,hoc⟩
  ·obtain⟨rfl,hb9⟩:=hno hoc;have HB9:=sH (HLOW.out.trans (hb9.mono hsz));have he2:en=2:=HEE.out hoc;subst he2;subst hoc;clear hno hso hb9 HOP;go_wp2_with fail
   go_ret2
   exact⟨fun _=>⟨rfl,HB9.out⟩,fun m hm=>by cases hm⟩
  obtain⟨rfl,hb9⟩:=hso m hoc;have HB9:=sH (HLOW.out.trans (hb9.mono hsz));subst hoc;clear hno hso hb9 HOP;go_wp2_with fail
  go_ret2
  exact⟨(fun hm=>by cases hm),fun m' hm=>⟨rfl,HB9.out⟩⟩
 have h0I:(0:Int)<(n:Int):=by omega
 have hlo:Q1V xs=(none,4):=by unfold Q1V;rw [HLG.out];simp only;rw [if_neg (by simp),if_pos (by rw [HRL.out]; omega)]
 have ho:o=none:=by rw [HO.out,hlo]
 have he2:en=4:=by rw [HEN.out,hlo]
 have HLOW:=sH HS.out.low;subst ho he2;clear hlo HO HEN HS;go_wp2_with fail
 go_ret2
 exact⟨fun _=>⟨rfl,HLOW.out⟩,fun m hm=>by cases hm⟩
end
section
open Go.RowKit Go.Maps
structure LvM (w:zA) (g:Nat) (cur:Array zB) (xss:LL):Prop where
 blk:Blk w g 28 cur
 len:xss.length<=cur.size
 at_:∀ (k:Nat) (x:List UInt8),xss[k]?=some x->∃ Ak mk ck,cur[k]?=some (.slice Ak mk ck)/\Q04 w w.heap.size 1 Ak mk (x.map vb)/\mk<=ck/\(∀ a,Ak=some a->a.block≠g)
theorem OwnL.lvm {w:zA} {B0:Nat} {v:zB} {xss:LL} {vs:List zB} (h:OwnL w B0 v xss vs) (h0:0<xss.length):∃ g cap cur,v=.slice (some ⟨g,0,none⟩) xss.length cap/\B0<=g/\xss.length<=cap/\LvM w g cur xss:=by
 rcases h.row.2 with⟨rfl,e⟩ | ⟨g,cap,cur,rfl,hg,hh,h1,h2,h3,h4⟩
 ·omega
 refine⟨g,cap,cur,rfl,hg,h1,hh,by omega,fun k x hx=>?_⟩;obtain⟨u,hu,ho⟩:=h.at_ k x hx;obtain⟨Ak,ck,rfl,q1,q2,q3,q4⟩:=Q0m ho;refine⟨Ak,x.length,ck,?_,q3,q1,fun a ha e=>?_⟩
 ·rw [<- h4,zK] at hu;split at hu
  ·simpa using hu
  cases hu
 subst ha;obtain⟨cur2,hc2⟩:=Q4Z ho (b:=a.block) (by simp [zE]);rw [e] at hc2;have:=hh.symm.trans hc2;cases this
theorem LvM.below {w w':zA} {g:Nat} {cur:Array zB} {xss:LL} (h:LvM w g cur xss) (hb:zD w.heap.size w w'):LvM w' g cur xss :=⟨h.blk.below' hb,h.len,fun k x hx=>by obtain⟨Ak,mk,ck,h1,h2,h3,h4⟩:=h.at_ k x hx;exact⟨Ak,mk,ck,h1,(h2.below hb).more hb.size,h3,h4⟩⟩
theorem LvM.rowsC {w:zA} {g:Nat} {cur:Array zB} {xss:LL} (h:LvM w g cur xss):Q2L w w.heap.size (some ⟨g,0,none⟩) xss.length xss :=
 ⟨rfl,fun _=>⟨_,rfl,h.blk.lt,fun k x hx=>by
  obtain⟨Ak,mk,ck,h1,h2,h3,h4⟩:=h.at_ k x hx;refine⟨Ak,mk,ck,?_,h2,h3⟩;have:=h.blk.cell k;rw [h1] at this;by_cases hk:k=0
  ·subst hk; simpa [Addr.add] using this
  simpa [Addr.add,hk] using this⟩⟩
theorem LvM.set {w:zA} {g:Nat} {cur:Array zB} {xss:LL} (h:LvM w g cur xss) (i:Nat) (A:Option Addr) (m c:Nat) (x:List UInt8) (hr:Q04 w w.heap.size 1 A m (x.map vb)) (hc:m<=c) (hA:∀ a,A=some a->a.block≠g) :
 LvM (w.setCell ⟨g,i,none⟩ (.slice A m c)) g (cur.setIfInBounds i (.slice A m c)) (xss.set i x):=by
 have hT:=Q06.setCell w ⟨g,i,none⟩ (.slice A m c);have hsz:=hT.size;have ho:Only (fun b=>b=g) w (w.setCell ⟨g,i,none⟩ (.slice A m c)):=Only.of_turned hT rfl;refine⟨h.blk.set_ i _,by simpa using h.len,fun k y hy=>?_⟩;by_cases hk:i=k
 ·subst hk;have hl:=(List.getElem?_eq_some_iff.1 hy).1;rw [List.length_set] at hl;rw [List.getElem?_set_self hl] at hy;rw [<- zO hy];refine⟨A,m,c,?_,?_,hc,hA⟩
  ·rw [Array.getElem?_setIfInBounds,if_pos rfl,if_pos (by have:=h.len; omega)]
  exact(ho.reads hr (fun a _ ha e=>hA a ha e))
 rw [List.getElem?_set_ne hk] at hy;obtain⟨Ak,mk,ck,h1,h2,h3,h4⟩:=h.at_ k y hy;refine⟨Ak,mk,ck,?_,?_,h3,h4⟩
 ·rw [Array.getElem?_setIfInBounds,if_neg hk]; exact h1
 exact(ho.reads h2 (fun a _ ha e=>h4 a ha e))
theorem Q2L.take {w:zA} {B n k:Nat} {A:Option Addr} {xss:LL} (h:Q2L w B A n xss) (hk:k<=n):Q2L w B A k (xss.take k) :=
 ⟨by rw [List.length_take,h.1]; omega,fun _=>by
  obtain⟨ad,h1,h2,h3⟩:=h.2 (by omega);refine⟨ad,h1,h2,fun j x hx=>h3 j x ?_⟩;rw [zK] at hx;split at hx
  ·exact hx
  cases hx⟩
def nat4 (a b c d:Int):Array zB:=#[.int .i64 a,.int .i64 b,.int .i64 c,.int .i64 d]
def crw (f1:Int) (A1:Option Addr) (n1 c1:Nat) (f2:Int) (A2:Option Addr) (n2 c2:Nat):Array zB:=#[.int .i64 f1,.slice A1 n1 c1,.int .i64 f2,.slice A2 n2 c2]
theorem Q0x {w:zA} {g:Nat} {a b c d:Int} (h:Blk w g 3 (nat4 a b c d)):Q04 w w.heap.size 1 (some ⟨g,0,none⟩) 4 ([a,b,c,d].map vn) :=⟨rfl,fun _=>⟨⟨g,0,none⟩,rfl,h.lt,fun j u hu=>by rw [Q0R,zL,h.cell,<- zN]; exact hu⟩⟩
theorem Q6L {w:zA} {g:Nat} {f1 f2:Int} {A1 A2:Option Addr} {n1 n2 c1 c2:Nat} {l1 l2:List Int} (h:Blk w g 69 (crw f1 A1 n1 c1 f2 A2 n2 c2)) (h1:Q04 w w.heap.size 1 A1 n1 (l1.map vn)) (h2:Q04 w w.heap.size 1 A2 n2 (l2.map vn)) (hn1:n1<=1000) (hn2:n2<=1000) :
 Q1g w (some ⟨g,0,none⟩) 2 [(f1,l1),(f2,l2)]:=by
 have e1:l1.length=n1:=by have:=h1.1; simpa using this
 have e2:l2.length=n2:=by have:=h2.1; simpa using this
 refine⟨rfl,fun _=>⟨g,_,rfl,h,fun i f l hi=>?_⟩⟩;match i,hi with
 | 0,hi =>obtain⟨rfl,rfl⟩:=Prod.mk.inj (zO hi);exact⟨A1,c1,rfl,by rw [e1]; rfl,by rw [e1]; exact h1,by omega⟩
 | 1,hi =>obtain⟨rfl,rfl⟩:=Prod.mk.inj (zO hi);exact⟨A2,c2,rfl,by rw [e2]; rfl,by rw [e2]; exact h2,by omega⟩
 | i+2,hi=>simp at hi
theorem crw_take {w:zA} {A:Option Addr} {f:Int} {l:List Int} {cs:List (Int×List Int)} (h:Q1g w A 2 ((f,l) :: cs)):Q1g w A 1 [(f,l)]:=by
 refine⟨rfl,fun _=>?_⟩;obtain⟨q,cur,h1,h2,h3⟩:=h.row (by omega);refine⟨q,cur,h1,h2,fun i g s hi=>h3 i g s ?_⟩;match i,hi with
 | 0,hi=>exact hi
 | i+1,hi=>simp at hi
theorem Q3n (w:zA) :
 zF zG 26 #[] w fun e w'=>∃ g1 g2 g3,e=.returned (.slice (some ⟨g3,0,none⟩) 2 2)/\(w.heap.size<=g1/\g1<g2/\g2<g3/\g3<w'.heap.size)/\Blk w' g1 3 (nat4 5 6 7 8)/\Blk w' g2 3 (nat4 9 10 11 12)/\Blk w' g3 69 (crw 1 (some ⟨g1,0,none⟩) 4 4 1 (some ⟨g2,0,none⟩) 4 4)/\zD w.heap.size w w':=by
 go_enter Tryz.func26,Tryz.ntmps26
 go_wp2_with fail
 have h1:=Q02 w (.cells #[.int .i64 5,.int .i64 6,.int .i64 7,.int .i64 8] 3);have k1:Blk (w.alloc (.cells #[.int .i64 5,.int .i64 6,.int .i64 7,.int .i64 8] 3)) w.heap.size 3 (nat4 5 6 7 8):=Blk.newAt rfl;have hs1:(w.alloc (.cells #[.int .i64 5,.int .i64 6,.int .i64 7,.int .i64 8] 3)).heap.size=w.heap.size+1:=by simp
 generalize w.alloc (.cells #[.int .i64 5,.int .i64 6,.int .i64 7,.int .i64 8] 3)=w1 at h1 k1 hs1 ⊢;have h2:=Q02 w1 (.cells #[.int .i64 9,.int .i64 10,.int .i64 11,.int .i64 12] 3);have k2:Blk (w1.alloc (.cells #[.int .i64 9,.int .i64 10,.int .i64 11,.int .i64 12] 3)) w1.heap.size 3 (nat4 9 10 11 12):=Blk.newAt rfl;have hs2:(w1.alloc (.cells #[.int .i64 9,.int .i64 10,.int .i64 11,.int .i64 12] 3)).heap.size=w1.heap.size+1:=by simp
 generalize w1.alloc (.cells #[.int .i64 9,.int .i64 10,.int .i64 11,.int .i64 12] 3)=w2 at h2 k2 hs2 ⊢;have h3:=Q02 w2 (.cells #[.int .i64 1,.slice (some ⟨w.heap.size,0,none⟩) 4 4,.int .i64 1,.slice (some ⟨w.heap.size+1,0,none⟩) 4 4] 69);have k3:Blk (w2.alloc (.cells #[.int .i64 1,.slice (some ⟨w.heap.size,0,none⟩) 4 4,.int .i64 1,.slice (some ⟨w.heap.size+1,0,none⟩) 4 4] 69)) w2.heap.size 69 (crw 1 (some ⟨w.heap.size,0,none⟩) 4 4 1 (some ⟨w.heap.size+1,0,none⟩) 4 4):=Blk.newAt rfl;have hs3:(w2.alloc (.cells #[.int .i64 1,.slice (some ⟨w.heap.size,0,none⟩) 4 4,.int .i64 1,.slice (some ⟨w.heap.size+1,0,none⟩) 4 4] 69)).heap.size=w2.heap.size+1:=by simp
 generalize w2.alloc (.cells #[.int .i64 1,.slice (some ⟨w.heap.size,0,none⟩) 4 4,.int .i64 1,.slice (some ⟨w.heap.size+1,0,none⟩) 4 4] 69)=w3 at h3 k3 hs3 ⊢;have k13:Blk w3 w.heap.size 3 (nat4 5 6 7 8):=(k1.below' h2).below' h3;have k23:Blk w3 (w.heap.size+1) 3 (nat4 9 10 11 12):=by rw [<- hs1]; exact k2.below' h3
 have e:w2.heap.size=w.heap.size+1+1:=by omega
 go_ret
 refine⟨w.heap.size,w.heap.size+1,w.heap.size+1+1,rfl,⟨by omega,by omega,by omega,by omega⟩,k13,k23,by rw [<- e]; exact k3,(h1.trans (h2.mono (by omega))).trans (h3.mono (by omega))⟩
def ASt (w0:zA) (k:Book) (V:ALoc) (m:AM) (a:Nat) (W:zA):Prop:=V.k=k/\∃ N,ALSt w0 V N m a W
section
variable {w0 W:zA} {k:Book} {V:ALoc} {m:AM} {a:Nat}
theorem ASt.below {W':zA} (h:ASt w0 k V m a W) (hb:zD W.heap.size W W'):ASt w0 k V m a W':=by obtain⟨hk,N,h⟩:=h;exact⟨hk,N,h.below hb⟩
theorem ASt.more {a':Nat} (h:ASt w0 k V m a W) (ha:a<=a'):ASt w0 k V m a' W:=by obtain⟨hk,N,h⟩:=h;exact⟨hk,N,h.more ha⟩
theorem ASt.low (h:ASt w0 k V m a W):zD w0.heap.size w0 W:=by obtain⟨hk,N,h⟩:=h;exact h.low
theorem ASt.book (h:ASt w0 k V m a W):∃ L a',Q0h W k L a'/\a'<=a/\(w0.heap.size<=k.g/\w0.heap.size<=k.b1/\w0.heap.size<=k.b2):=by obtain⟨rfl,N,h⟩:=h;obtain⟨L,a',h1,h2,h3⟩:=h.book;exact⟨L,a',h1,h2,h.new _ (.inr (.inr (.inl (.inl rfl)))),h.new _ (.inr (.inr (.inl (.inr (.inl rfl))))),h.new _ (.inr (.inr (.inl (.inr (.inr rfl)))))⟩
theorem ASt.bad (h:ASt w0 k V m a W) (ha:a<=600000) (x:Wish) (hx:Q1q W W.heap.size x none 0 0 none 0 0) (q:Int) (hm:(doQ m x).1=m/\((doQ m x).2.2:Int)=q) :
 zF zG 28 #[.pointer (some ⟨V.g,0,none⟩),.agg (Q0g x none 0 0 none 0 0)] W fun r W'=>∃ D,r=.returned (.tuple #[.agg D,.int .i64 q])/\D.size=4/\D.all (·.oneCell')=true/\ASt w0 k V m (a+6) W':=by
 obtain⟨hk,N,h⟩:=h;refine(h.do_ (by omega) x none 0 0 none 0 0 W.heap.size hx (zH _)).mono ?_;rintro r W' ⟨D,rfl,hs,⟨A,c,rfl,ho⟩,hst,_⟩;rw [hm.1] at hst;rw [hm.2];exact⟨_,rfl,hs,by simp [anC,zM],hk,N,hst⟩
theorem ASt.does_ (h:ASt w0 k V m a W) (ha:a<=600000) (x:Wish) (hx:Q1q W W.heap.size x none 0 0 none 0 0)
 (err ep:Nat) (m':AM) (hm':(doQ m x).1=m') (hres:Q1p m x err ep []) (args:Array zB) (hargs:args=#[.pointer (some ⟨V.g,0,none⟩),.agg (Q0g x none 0 0 none 0 0),.int .i64 (err:Int),.int .i64 (ep:Int),.slice none 0 0]) :
 zF zG 30 args W fun e W'=>e=.returned (.bool true)/\ASt w0 k V m' (a+6) W':=by
 obtain⟨hk,N,h⟩:=h;refine(h.does_ (zI _ _) (by omega) x hx err ep [] none 0 0 Q04.none_ (fun a h0=>by omega) (by omega) m' hm' hres args hargs).mono ?_;rintro e W' ⟨rfl,hst⟩;exact⟨rfl,hk,_,hst⟩
theorem ASt.does1 {W0:zA} (h:ASt w0 k V m a W0) (hb:zD W0.heap.size W0 W) (ha:a<=600000) (x:Wish) (hx:Q1q W W.heap.size x none 0 0 none 0 0)
 (err ep:Nat) (z:Int) (D:Option Addr) (c d:Nat) (hy:Q04 W W.heap.size 1 D 1 ([z].map vn)) (hyp:∀ a,D=some a->W0.heap.size<=a.block) (m':AM) (hm':(doQ m x).1=m') (hres:Q1p m x err ep [z]) (args:Array zB) (hargs:args=#[.pointer (some ⟨V.g,0,none⟩),.agg (Q0g x none 0 0 none 0 0),.int .i64 (err:Int),.int .i64 (ep:Int),.slice D 1 d]) :
 zF zG 30 args W fun e W'=>e=.returned (.bool true)/\ASt w0 k V m' (a+6) W':=by
 obtain⟨hk,N,h⟩:=h;refine(h.does_ hb (by omega) x hx err ep [z] D 1 d hy (fun a _ ha=>hyp a ha) (by omega) m' hm' hres args hargs).mono ?_;rintro e W' ⟨rfl,hst⟩;exact⟨rfl,hk,_,hst⟩
theorem ASt.start {W':zA} {asked:Nat} {L:LL} (hb:zD w0.heap.size w0 W) (hk:w0.heap.size<=k.g/\w0.heap.size<=k.b1/\w0.heap.size<=k.b2) (h:ANew W W' k V L asked m):ASt w0 k V m (asked+30) W':=by have hkk:=h.kk;subst hkk;exact⟨rfl,_,ALSt.start hb hk h⟩
end
end
section
open Go.RowKit Go.Maps
attribute [local irreducible] wpList Q0c
def crLs (m:AM) (c:Nat):List (List Int):=if c=0 then [] else match m.chunks[c - 1]? with
 | none=>[]
 | some s=>Q0U s.first s.moves
def crFa (m:AM) (c:Nat):Nat:=match m.chunks[c - 1]? with
 | none=>0
 | some s=>s.f
def Q8g (w:zA) (m:AM) (c:Nat) (e:Ending) (w':zA):Prop:=∃ v nA nC,e=.returned v/\Q2r w' w.heap.size v (crFa m c) (crLs m c) nA nC/\zD w.heap.size w w'
theorem Q8g.nil {w w':zA} {m:AM} {c:Nat} (h:crLs m c=[]) (hb:zD w.heap.size w w'):Q8g w m c (.returned (.slice none 0 0)) w' :=⟨_,fun _=>none,fun _=>0,rfl,by rw [h]; exact⟨World.ownsRow_nil _ _ _ _,fun i l hl=>by simp at hl⟩,hb⟩
theorem Q8g.of {w w':zA} {m:AM} {i:Nat} {s:Srv} {e:Ending} (h:Q2N w s e w') (hs:m.chunks[i]?=some s):Q8g w m (i+1) e w':=by
 obtain⟨v,nA,nC,h1,h2,h3⟩:=h;refine⟨v,nA,nC,h1,?_,h3⟩;have e1:crFa m (i+1)=s.f:=by unfold crFa; rw [show i+1 - 1=i by omega,hs]
 have e2:crLs m (i+1)=Q0U s.first s.moves:=by unfold crLs; rw [if_neg (by omega),show i+1 - 1=i by omega,hs]
 rw [e1,e2];exact h2
theorem Q7j (w:zA) (V:ALoc) (N:Nat->Prop) (m:AM) (c:Nat) (hc:c<=10) (h:AAt w V N m) :
 zF zG 33 #[.pointer (some ⟨V.g,0,none⟩),.int .i64 (c:Int)] w (Q8g w m c):=by
 obtain⟨S,hd⟩:=h.dat;by_cases hin:1<=c/\c<=m.chunks.length
 ·obtain⟨i,rfl⟩:∃ i,c=i+1:=⟨c - 1,by omega⟩;have hs:=zC (show i<m.chunks.length by omega);have:=(Q6r w V.g V.gc i _ N m S _ hd hs).mono fun e w' hp=>Q8g.of (m:=m) (i:=i) hp hs
  exact this
 have hn:crLs m c=[]:=by
  unfold crLs;by_cases h0:c=0
  ·rw [if_pos h0]
  rw [if_neg h0,List.getElem?_eq_none (by omega)]
 have HN:=sH hn;have HNO:=sH (Q2M w V.g V.T.t ((hd.blk.cell 0).trans (Q1a _ _ _ _ 0 (by omega))));have hc1:w.cell? ⟨V.g,1,none⟩=some (.slice (some ⟨V.gc,0,none⟩) m.chunks.length S.cap):=(hd.blk.cell 1).trans (Q1a _ _ _ _ 1 (by omega));obtain⟨n,hnn⟩:∃ n,n=m.chunks.length:=⟨_,rfl⟩;rw [<- hnn] at hc1 hin;clear h hd hn hnn;go_enter Tryz.func33,Tryz.ntmps33
 by_cases h1:(c:Int)<1
 ·go_wp2_with fail
  refine HNO.out.mono ?_;rintro _ _ ⟨rfl,rfl⟩;go_wp2_with fail
  go_ret
  exact Q8g.nil HN.out (zI _ _)
 have h2:(n:Int)<(c:Int):=by omega
 go_wp2_with fail
 refine HNO.out.mono ?_;rintro _ _ ⟨rfl,rfl⟩;go_wp2_with fail
 go_ret
 exact Q8g.nil HN.out (zI _ _)
end
section
open Go.RowKit Go.Maps
theorem ASt.crews {w0 W:zA} {k:Book} {V:ALoc} {m:AM} {a:Nat} (h:ASt w0 k V m a W) (c:Nat) (hc:c<=10) :
 zF zG 33 #[.pointer (some ⟨V.g,0,none⟩),.int .i64 (c:Int)] W fun e W'=>∃ v nA nC,e=.returned v/\Q2r W' W.heap.size v (crFa m c) (crLs m c) nA nC/\ASt w0 k V m a W':=by
 obtain⟨hk,N,h⟩:=h;refine(Q7j W V N m c hc h.vat).mono ?_;rintro e W' ⟨v,nA,nC,rfl,ho,hb⟩;exact⟨v,nA,nC,rfl,ho,hk,N,h.below hb⟩
theorem Q2r.len_ {w:zA} {B f n:Nat} {v:zB} {ls:List (List Int)} {nA:Nat->Option Addr} {nC:Nat->Nat} (h:Q2r w B v f ls nA nC) (hn:ls.length=n):∃ A c,v=.slice A n c:=by
 subst hn;rcases h.row.2 with⟨rfl,h0⟩ | ⟨gl,cap,cur,rfl,_⟩
 ·exact⟨none,0,by rw [h0]⟩
 exact⟨_,_,rfl⟩
theorem ASt.crewsLen {w0 W:zA} {k:Book} {V:ALoc} {m:AM} {a:Nat} (h:ASt w0 k V m a W) (c n:Nat) (z:Int) (hz:(c:Int)=z) (hc:c<=10) (hn:(crLs m c).length=n) :
 zF zG 33 #[.pointer (some ⟨V.g,0,none⟩),.int .i64 z] W fun e W'=>∃ A c,e=.returned (.slice A n c)/\ASt w0 k V m a W':=by
 subst hz;refine(h.crews c hc).mono ?_;rintro e W' ⟨v,nA,nC,rfl,ho,hst⟩;obtain⟨A,q,rfl⟩:=ho.len_ hn;exact⟨A,q,rfl,hst⟩
theorem ASt.chunks {w0 W:zA} {k:Book} {V:ALoc} {m:AM} {a:Nat} (h:ASt w0 k V m a W) (z:Int) (hz:(m.chunks.length:Int)=z) :
 zF zG 32 #[.pointer (some ⟨V.g,0,none⟩)] W fun e W'=>e=.returned (.int .i64 z)/\W'=W:=by
 obtain⟨hk,N,h⟩:=h;obtain⟨S,hd⟩:=h.vat.dat;rw [<- hz];exact Q5F W V.g V.gc _ N m S hd
theorem ASt.leaves {w0 W:zA} {k:Book} {V:ALoc} {m:AM} {a:Nat} (h:ASt w0 k V m a W) :
 zF zG 34 #[.pointer (some ⟨V.g,0,none⟩)] W (Q8V W m):=by
 obtain⟨hk,N,h⟩:=h;exact Q57 W V N m h.vat
theorem ASt.bytes {w0 W:zA} {k:Book} {V:ALoc} {m:AM} {a:Nat} (h:ASt w0 k V m a W) :
 zF zG 36 #[.pointer (some ⟨V.g,0,none⟩)] W (Q4q W m):=by
 obtain⟨hk,N,h⟩:=h;exact Q9z W V N m h.vat
theorem ASt.openBad {w0 W:zA} {k:Book} {V:ALoc} {m:AM} {a:Nat} (h:ASt w0 k V m a W) (ha:a<=600000) (A:Option Addr) (n c:Nat) (xss:LL) (hr:Q2L W W.heap.size A n xss) (hn:n<=1000000) (hlx:∀ x,x∈xss->x.length<=1000) (ho:Q2h xss=none) :
 zF zG 35 #[.pointer (some ⟨k.g,0,none⟩),.slice A n c] W fun e W'=>e=.returned (.tuple #[.pointer none,.int .i64 2])/\zD W.heap.size W W':=by
 obtain⟨L,a',h1,h2,h3⟩:=h.book;refine(Q7H k L a' A n c xss W h1 (by omega) hr (by omega) (fun x hx=>by have:=hlx x hx; omega)).mono ?_;rintro e W' ⟨hs,_⟩;exact hs ho
theorem ASt.loadBad {w0 W:zA} {k:Book} {V:ALoc} {m:AM} {a:Nat} (h:ASt w0 k V m a W) (ha:a<=600000) (A:Option Addr) (n c:Nat) (xs:List UInt8) (hr:Q04 W W.heap.size 1 A n (xs.map vb)) (hc:n<=c) (hn:n<=1000000) (q:Nat) (z:Int) (hz:(q:Int)=z) (ho:Q1V xs=(none,q)) :
 zF zG 37 #[.pointer (some ⟨k.g,0,none⟩),.slice A n c] W fun e W'=>e=.returned (.tuple #[.pointer none,.int .i64 z])/\zD W.heap.size W W':=by
 obtain⟨L,a',h1,h2,h3⟩:=h.book;have hl:=QaD k L a' A n c xs W h1 (by omega) hr hc (by omega);rw [ho] at hl;refine hl.mono ?_;rintro e W' ⟨hs,_⟩;subst hz;exact hs rfl
theorem ASt.loadNone {w0 W:zA} {k:Book} {V:ALoc} {m:AM} {a:Nat} (h:ASt w0 k V m a W) (A:Option Addr) (n c:Nat) (xs:List UInt8) (hr:Q04 W W.heap.size 1 A n (xs.map vb)) (hc:n<=c) (hn:n<=1000000) (ho:(Q1V xs).1.isSome=true) :
 zF zG 37 #[.pointer none,.slice A n c] W fun e W'=>e=.returned (.tuple #[.pointer none,.int .i64 1])/\zD W.heap.size W W':=by
 obtain⟨L,a',h1,h2,h3⟩:=h.book;obtain⟨x,hx⟩:=Option.isSome_iff_exists.1 ho;refine(aLoadNil k A n c xs W h1.lt hr hc (by omega)).mono ?_;rintro e W' ⟨_,hs⟩;exact hs x hx
theorem atake_ {w:zA} {B n k:Nat} {A:Option Addr} {xs:List zB} (h:Q04 w B 1 A n xs) (hk:k<=n):Q04 w B 1 A k (xs.take k) :=
 ⟨by have:=h.1; rw [List.length_take]; omega,fun h0=>by
  obtain⟨ad,h1,h2,h3⟩:=h.2 (by omega);refine⟨ad,h1,h2,fun j x hx=>h3 j x ?_⟩;rw [zK] at hx;split at hx
  ·exact hx
  cases hx⟩
theorem crw_push {w:zA} {B g1 g2 gn:Nat} {v:zB} (h:w.ownsRow B 69 2 v 3 ((crw 1 (some ⟨g1,0,none⟩) 4 4 1 (some ⟨g2,0,none⟩) 4 4).toList++[.int .i64 1,.slice (some ⟨gn,0,none⟩) 4 4]))
 (k1:Blk w g1 3 (nat4 5 6 7 8)) (k2:Blk w g2 3 (nat4 9 10 11 12)) (k3:Blk w gn 3 (nat4 13 14 15 16)):∃ A c,v=.slice A 3 c/\Q1g w A 3 (Q21 1):=by
 rcases h.2 with⟨_,h0⟩ | ⟨gl,cap,cur,rfl,h2,h3,h4,h5,h6,h7⟩
 ·omega
 refine⟨_,_,rfl,rfl,fun _=>⟨gl,cur,rfl,h3,fun i f l hi=>?_⟩⟩;have hget:∀ j u,((crw 1 (some ⟨g1,0,none⟩) 4 4 1 (some ⟨g2,0,none⟩) 4 4).toList++[.int .i64 1,.slice (some ⟨gn,0,none⟩) 4 4])[j]?=some u->cur[j]?=some u:=fun j u hu=>by
  rw [<- h7,zK] at hu;split at hu
  ·simpa using hu
  cases hu
 match i,hi with
 | 0,hi =>obtain⟨rfl,rfl⟩:=Prod.mk.inj (zO hi);exact⟨_,_,hget 0 _ rfl,hget 1 _ rfl,Q0x k1,by decide⟩
 | 1,hi =>obtain⟨rfl,rfl⟩:=Prod.mk.inj (zO hi);exact⟨_,_,hget 2 _ rfl,hget 3 _ rfl,Q0x k2,by decide⟩
 | 2,hi =>obtain⟨rfl,rfl⟩:=Prod.mk.inj (zO hi);exact⟨_,_,hget 4 _ rfl,hget 5 _ rfl,Q0x k3,by decide⟩
 | i+3,hi=>simp [Q21] at hi
theorem Q7F {w:zA} {x:Wish} (hd:x.data=[]) (hn:x.next=[]) (h:I64 x.client/\I64 x.stamp/\I64 x.group/\I64 x.epoch/\I64 x.kind/\I64 x.block/\I64 x.old/\I64 x.new):Q1q w w.heap.size x none 0 0 none 0 0 :=⟨by rw [hd]; exact Q04.none_,by simp,by simp,by rw [hn]; exact Q04.none_,by simp,by simp,⟨h.1,h.2.1,h.2.2.1,h.2.2.2.1,h.2.2.2.2.1,h.2.2.2.2.2.1,h.2.2.2.2.2.2.1,h.2.2.2.2.2.2.2,fun z hz=>by rw [hn] at hz; cases hz⟩⟩
theorem ok_crLs (n:Nat) (hn:n<20):(crLs (okN n) 1).length=n+1/\(crLs (okN n) 1)[n]?=some [5+(n:Int),6+(n:Int),7+(n:Int),8+(n:Int)]:=by
 have h1:=(okN_len n hn).2;have h2:=okN_head n hn;rcases Option.eq_none_or_eq_some ((okN n).chunks[0]?) with h | ⟨s,h⟩
 ·rw [h] at h1; cases h1
 have e:crLs (okN n) 1=Q0U s.first s.moves:=by unfold crLs; rw [if_neg (by omega),show 1 - 1=0 from rfl,h]
 rw [h] at h1 h2;have h3:(Q0U s.first s.moves).length=n+1:=zO h1;have h4:(Q0U s.first s.moves).getD n []=[5+(n:Int),6+(n:Int),7+(n:Int),8+(n:Int)]:=zO h2;rw [e];have hl:n<(Q0U s.first s.moves).length:=by omega
 refine⟨h3,?_⟩;rw [zC hl];rw [zJ,zC hl] at h4;rw [<- h4]; rfl
theorem ASt.head {w0 W:zA} {k:Book} {V:ALoc} {a n:Nat} (h:ASt w0 k V (okN n) a W) (hn:n<20) :
 zF zG 33 #[.pointer (some ⟨V.g,0,none⟩),.int .i64 1] W fun e W'=>∃ gl cap ad c,e=.returned (.slice (some ⟨gl,0,none⟩) (n+1) cap)/\W'.cell? ⟨gl,n*2+1,none⟩=some (.slice (some ad) 4 c)/\W'.cell? ad=some (.int .i64 (5+(n:Int)))/\ASt w0 k V (okN n) a W':=by
 have h12:=ok_crLs n hn;refine(show zF zG 33 #[.pointer (some ⟨V.g,0,none⟩),.int .i64 1] W _ from h.crews 1 (by omega)).mono ?_;rintro e W' ⟨v,nA,nC,rfl,ho,hst⟩;obtain⟨gl,cap,rfl,_,_,hc⟩:=ho.at_ h12.2;have hr:=(Q2B (ho.nodes n _ h12.2)).2;obtain⟨ad,hA,_,hcl⟩:=hr.2 (by simp);rw [hA] at hc;refine⟨gl,cap,ad,nC n,by rw [h12.1],hc,?_,hst⟩;have:=hcl 0 _ rfl;exact this
theorem Q68 {w:zA} {g:Nat} {a:Int} (h:Blk w g 3 #[.int .i64 a]):Q04 w w.heap.size 1 (some ⟨g,0,none⟩) 1 ([a].map vn) :=⟨rfl,fun _=>⟨⟨g,0,none⟩,rfl,h.lt,fun j u hu=>by rw [Q0R,zL,h.cell,<- zN]; exact hu⟩⟩
theorem crw_one {w:zA} {g q:Nat} {z f:Int} (h:Blk w g 69 #[.int .i64 f,.slice (some ⟨q,0,none⟩) 1 1]) (h1:Blk w q 3 #[.int .i64 z]):Q1g w (some ⟨g,0,none⟩) 1 [(f,[z])]:=by
 refine⟨rfl,fun _=>⟨g,_,rfl,h,fun i f l hi=>?_⟩⟩;match i,hi with
 | 0,hi =>obtain⟨rfl,rfl⟩:=Prod.mk.inj (zO hi);exact⟨_,_,rfl,rfl,Q68 h1,by simp⟩
 | i+1,hi=>simp at hi
end
section
open Go.RowKit Go.Maps
attribute [local irreducible] wpList
def Q3c:Code->List Code
 | .loop c=>[c]
 | .seq a b=>Q3c a++Q3c b
 | .block _ c=>Q3c c
 | .scope c=>Q3c c
 | .cond _ a b=>Q3c a++Q3c b
 | _=>[]
theorem akLoop1 {Q:Exit->Act->zA->Prop} {w1:zA} {k:Book} {c0 c4 c5 c6 c7 c8 c9 c10 c11 c12 c13 c14 c15 c16 c17 c18 c19 c20 c21 c22 c23 c24 c25 c26 c27 c28 c29 c30 c31 c32 c33 c34 c35 c36 c37 c38 c39 c40 c41 c42 c43 c44 c45 c46 c47 c48 c49 c50 c51 c52 c53 c54 c55 c56 c57 c58 c59 c60 c61 c62 c63 c64 c65 c66 c67 c68 c69 c70 c71 c72 c73 c74 c75 c76 c77 c78 c79 c80 c81 c82 c83 c84 c85 c86 c87 c88 c89 c90 c91 c92 c93 c94 c95 c96 c97 c98 c99 c100 c101 c102 c103 c104 c105 c106 c107 c108 c109 c110 c111 c112 c113 c114 c115 c116 c117 c118 c119 c120 c121 c122 c123 c124 c125 c126 c127 c128 c129 c130 c131 c132 c133 c134 c135 c136 c137 c138 c139 c140 c141 c142 c143 c144 c145 c146 c147 c148 c149 c150 c151 c152 c153 c154 c155 c156 c157 c158 c159 c160 c161 c162 c163 c164 c165 c166 c167 c168 c169 c170 c171 c172 c173 c174 c175 c176 c177 c178 c179 c180 c181 c182 c183 c184 c185 c186 c187 c188 c189 c190 c191 c192 c193 c194 c195 c196 c197 c198 c199 c200 c201 c202 c203 c204 c205 c206 c207 c208 c209 c210 c211 c212 c213 c214 c215 c216 c217 c218 c219 c220 c221 c222 c223 c224 c225 c226 c227 c228 c229 c230 c231 c232 c233 c234 c235 c236 c237 c238 c239 c240 c241 c242 c243 c244 c245 c246 c247 c248 c249 c250 c251 c252 c253 c254 c255 c256 c257 c258 c259 c260 c261 c262 c263 c264 c265 c266 c267 c268 c269 c270 c271 c272 c273 c274 c275 c276 c277 c278 c279 c280 c281 c282 c283 c284 c285 c286 c287 c288 c289 c290 c291 c292 c293 c294 c295 c296 c297 c298 c299 c300 c301 c302 c303 c304 c305 c306 c307 c308 c309 c310 c311 c312 c313 c314 c315 c316 c317 c318 c319 c320 c321 c322 c323 c324 c325 c326 c327 c328 c329 c330 c331 c332 c333 c334 c335 c336 c337 c338 c339 c340 c341 c342 c343 c344 c345 c346 c347 c348 c349 c350 c351 c352 c353 c354 c355 c356 c357 c358 c359 c360 c361 c362 c363 c364 c365 c366 c367 c368 c369 c370 c371 c372 c373 c374 c375 c376 c377 c378 c379 c380 c381 c382 c383 c384 c385 c386 c387 c388 c389 c390 c391 c392 c393 c394 c395 c396 c397 c398 c399 c400 c401 c402 c403 c404 c405 c406 c407 c408 c409 c410 c411 c412 c413 c414 c415 c416 c417 c418 c419 c420 c421 c422 c423 c424 c425 c426 c427 c428 c429 c430 c431 c432 c433 c434 c435 c436 c437 c438 c439 c440 c441 c442 c443 c444 c445 c446 c447 c448 c449 c450 c451 c452 c453 c454 c455 c456 c457 c458 c459 c460 c461 c462 c463 c464 c465 c466 c467 c468 c469 c470 c471 c472 c473 c474 c475 c476 c477 c478 c479 c480 c481 c482 c483 c484 c485 c486:zB} (HBK:Hid (Q0h w1 k [] 0))
 (hexit:∀ (u4 u5 u6 u52 u53 u54 u55 u56 u57 u58 u59 u60 u61 u62 u63 u64 u65 u66 u67 u68 u69 u70 u71 u72 u73 u74 u75 u76 u77 u78 u79 u80 u81 u82 u83 u84 u85 u86 u87 u88 u89 u90 u91 u92 u93 u94 u95 u96 u97 u98 u99 u100 u101 u102 u103 u104 u105 u106 u107 u108 u109 u110 u111:zB) (w':zA),zD w1.heap.size w1 w'->Q (.exit 0) ⟨(c0 :: .pointer (some ⟨k.g,0,none⟩) :: .int .i64 7 :: .int .i64 7 :: u4 :: u5 :: u6 :: c7 :: c8 :: c9 :: c10 :: c11 :: c12 :: c13 :: c14 :: c15 :: c16 :: c17 :: c18 :: c19 :: c20 :: c21 :: c22 :: c23 :: c24 :: c25 :: c26 :: c27 :: c28 :: c29 :: c30 :: c31 :: c32 :: c33 :: c34 :: c35 :: c36 :: c37 :: c38 :: c39 :: c40 :: c41 :: c42 :: c43 :: c44 :: c45 :: c46 :: c47 :: c48 :: c49 :: c50 :: c51 :: u52 :: u53 :: u54 :: u55 :: u56 :: u57 :: u58 :: u59 :: u60 :: u61 :: u62 :: u63 :: u64 :: u65 :: u66 :: u67 :: u68 :: u69 :: u70 :: u71 :: u72 :: u73 :: u74 :: u75 :: u76 :: u77 :: u78 :: u79 :: u80 :: u81 :: u82 :: u83 :: u84 :: u85 :: u86 :: u87 :: u88 :: u89 :: u90 :: u91 :: u92 :: u93 :: u94 :: u95 :: u96 :: u97 :: u98 :: u99 :: u100 :: u101 :: u102 :: u103 :: u104 :: u105 :: u106 :: u107 :: u108 :: u109 :: u110 :: u111 :: c112 :: c113 :: c114 :: c115 :: c116 :: c117 :: c118 :: c119 :: c120 :: c121 :: c122 :: c123 :: c124 :: c125 :: c126 :: c127 :: c128 :: c129 :: c130 :: c131 :: c132 :: c133 :: c134 :: c135 :: c136 :: c137 :: c138 :: c139 :: c140 :: c141 :: c142 :: c143 :: c144 :: c145 :: c146 :: c147 :: c148 :: c149 :: c150 :: c151 :: c152 :: c153 :: c154 :: c155 :: c156 :: c157 :: c158 :: c159 :: c160 :: c161 :: c162 :: c163 :: c164 :: c165 :: c166 :: c167 :: c168 :: c169 :: c170 :: c171 :: c172 :: c173 :: c174 :: c175 :: c176 :: c177 :: c178 :: c179 :: c180 :: c181 :: c182 :: c183 :: c184 :: c185 :: c186 :: c187 :: c188 :: c189 :: c190 :: c191 :: c192 :: c193 :: c194 :: c195 :: c196 :: c197 :: c198 :: c199 :: c200 :: c201 :: c202 :: c203 :: c204 :: c205 :: c206 :: c207 :: c208 :: c209 :: c210 :: c211 :: c212 :: c213 :: c214 :: c215 :: c216 :: c217 :: c218 :: c219 :: c220 :: c221 :: c222 :: c223 :: c224 :: c225 :: c226 :: c227 :: c228 :: c229 :: c230 :: c231 :: c232 :: c233 :: c234 :: c235 :: c236 :: c237 :: c238 :: c239 :: c240 :: c241 :: c242 :: c243 :: c244 :: c245 :: c246 :: c247 :: c248 :: c249 :: c250 :: c251 :: c252 :: c253 :: c254 :: c255 :: c256 :: c257 :: c258 :: c259 :: c260 :: c261 :: c262 :: c263 :: c264 :: c265 :: c266 :: c267 :: c268 :: c269 :: c270 :: c271 :: c272 :: c273 :: c274 :: c275 :: c276 :: c277 :: c278 :: c279 :: c280 :: c281 :: c282 :: c283 :: c284 :: c285 :: c286 :: c287 :: c288 :: c289 :: c290 :: c291 :: c292 :: c293 :: c294 :: c295 :: c296 :: c297 :: c298 :: c299 :: c300 :: c301 :: c302 :: c303 :: c304 :: c305 :: c306 :: c307 :: c308 :: c309 :: c310 :: c311 :: c312 :: c313 :: c314 :: c315 :: c316 :: c317 :: c318 :: c319 :: c320 :: c321 :: c322 :: c323 :: c324 :: c325 :: c326 :: c327 :: c328 :: c329 :: c330 :: c331 :: c332 :: c333 :: c334 :: c335 :: c336 :: c337 :: c338 :: c339 :: c340 :: c341 :: c342 :: c343 :: c344 :: c345 :: c346 :: c347 :: c348 :: c349 :: c350 :: c351 :: c352 :: c353 :: c354 :: c355 :: c356 :: c357 :: c358 :: c359 :: c360 :: c361 :: c362 :: c363 :: c364 :: c365 :: c366 :: c367 :: c368 :: c369 :: c370 :: c371 :: c372 :: c373 :: c374 :: c375 :: c376 :: c377 :: c378 :: c379 :: c380 :: c381 :: c382 :: c383 :: c384 :: c385 :: c386 :: c387 :: c388 :: c389 :: c390 :: c391 :: c392 :: c393 :: c394 :: c395 :: c396 :: c397 :: c398 :: c399 :: c400 :: c401 :: c402 :: c403 :: c404 :: c405 :: c406 :: c407 :: c408 :: c409 :: c410 :: c411 :: c412 :: c413 :: c414 :: c415 :: c416 :: c417 :: c418 :: c419 :: c420 :: c421 :: c422 :: c423 :: c424 :: c425 :: c426 :: c427 :: c428 :: c429 :: c430 :: c431 :: c432 :: c433 :: c434 :: c435 :: c436 :: c437 :: c438 :: c439 :: c440 :: c441 :: c442 :: c443 :: c444 :: c445 :: c446 :: c447 :: c448 :: c449 :: c450 :: c451 :: c452 :: c453 :: c454 :: c455 :: c456 :: c457 :: c458 :: c459 :: c460 :: c461 :: c462 :: c463 :: c464 :: c465 :: c466 :: c467 :: c468 :: c469 :: c470 :: c471 :: c472 :: c473 :: c474 :: c475 :: c476 :: c477 :: c478 :: c479 :: c480 :: c481 :: c482 :: c483 :: c484 :: c485 :: c486 :: []).toArray,[]⟩ w') :
 Code.wp zG (Code.loop (((Tryz.f4.body.map Q3c).getD []).getD 0 .skip)) Q ⟨(c0 :: .pointer (some ⟨k.g,0,none⟩) :: .int .i64 0 :: .int .i64 0 :: c4 :: c5 :: c6 :: c7 :: c8 :: c9 :: c10 :: c11 :: c12 :: c13 :: c14 :: c15 :: c16 :: c17 :: c18 :: c19 :: c20 :: c21 :: c22 :: c23 :: c24 :: c25 :: c26 :: c27 :: c28 :: c29 :: c30 :: c31 :: c32 :: c33 :: c34 :: c35 :: c36 :: c37 :: c38 :: c39 :: c40 :: c41 :: c42 :: c43 :: c44 :: c45 :: c46 :: c47 :: c48 :: c49 :: c50 :: c51 :: c52 :: c53 :: c54 :: c55 :: c56 :: c57 :: c58 :: c59 :: c60 :: c61 :: c62 :: c63 :: c64 :: c65 :: c66 :: c67 :: c68 :: c69 :: c70 :: c71 :: c72 :: c73 :: c74 :: c75 :: c76 :: c77 :: c78 :: c79 :: c80 :: c81 :: c82 :: c83 :: c84 :: c85 :: c86 :: c87 :: c88 :: c89 :: c90 :: c91 :: c92 :: c93 :: c94 :: c95 :: c96 :: c97 :: c98 :: c99 :: c100 :: c101 :: c102 :: c103 :: c104 :: c105 :: c106 :: c107 :: c108 :: c109 :: c110 :: c111 :: c112 :: c113 :: c114 :: c115 :: c116 :: c117 :: c118 :: c119 :: c120 :: c121 :: c122 :: c123 :: c124 :: c125 :: c126 :: c127 :: c128 :: c129 :: c130 :: c131 :: c132 :: c133 :: c134 :: c135 :: c136 :: c137 :: c138 :: c139 :: c140 :: c141 :: c142 :: c143 :: c144 :: c145 :: c146 :: c147 :: c148 :: c149 :: c150 :: c151 :: c152 :: c153 :: c154 :: c155 :: c156 :: c157 :: c158 :: c159 :: c160 :: c161 :: c162 :: c163 :: c164 :: c165 :: c166 :: c167 :: c168 :: c169 :: c170 :: c171 :: c172 :: c173 :: c174 :: c175 :: c176 :: c177 :: c178 :: c179 :: c180 :: c181 :: c182 :: c183 :: c184 :: c185 :: c186 :: c187 :: c188 :: c189 :: c190 :: c191 :: c192 :: c193 :: c194 :: c195 :: c196 :: c197 :: c198 :: c199 :: c200 :: c201 :: c202 :: c203 :: c204 :: c205 :: c206 :: c207 :: c208 :: c209 :: c210 :: c211 :: c212 :: c213 :: c214 :: c215 :: c216 :: c217 :: c218 :: c219 :: c220 :: c221 :: c222 :: c223 :: c224 :: c225 :: c226 :: c227 :: c228 :: c229 :: c230 :: c231 :: c232 :: c233 :: c234 :: c235 :: c236 :: c237 :: c238 :: c239 :: c240 :: c241 :: c242 :: c243 :: c244 :: c245 :: c246 :: c247 :: c248 :: c249 :: c250 :: c251 :: c252 :: c253 :: c254 :: c255 :: c256 :: c257 :: c258 :: c259 :: c260 :: c261 :: c262 :: c263 :: c264 :: c265 :: c266 :: c267 :: c268 :: c269 :: c270 :: c271 :: c272 :: c273 :: c274 :: c275 :: c276 :: c277 :: c278 :: c279 :: c280 :: c281 :: c282 :: c283 :: c284 :: c285 :: c286 :: c287 :: c288 :: c289 :: c290 :: c291 :: c292 :: c293 :: c294 :: c295 :: c296 :: c297 :: c298 :: c299 :: c300 :: c301 :: c302 :: c303 :: c304 :: c305 :: c306 :: c307 :: c308 :: c309 :: c310 :: c311 :: c312 :: c313 :: c314 :: c315 :: c316 :: c317 :: c318 :: c319 :: c320 :: c321 :: c322 :: c323 :: c324 :: c325 :: c326 :: c327 :: c328 :: c329 :: c330 :: c331 :: c332 :: c333 :: c334 :: c335 :: c336 :: c337 :: c338 :: c339 :: c340 :: c341 :: c342 :: c343 :: c344 :: c345 :: c346 :: c347 :: c348 :: c349 :: c350 :: c351 :: c352 :: c353 :: c354 :: c355 :: c356 :: c357 :: c358 :: c359 :: c360 :: c361 :: c362 :: c363 :: c364 :: c365 :: c366 :: c367 :: c368 :: c369 :: c370 :: c371 :: c372 :: c373 :: c374 :: c375 :: c376 :: c377 :: c378 :: c379 :: c380 :: c381 :: c382 :: c383 :: c384 :: c385 :: c386 :: c387 :: c388 :: c389 :: c390 :: c391 :: c392 :: c393 :: c394 :: c395 :: c396 :: c397 :: c398 :: c399 :: c400 :: c401 :: c402 :: c403 :: c404 :: c405 :: c406 :: c407 :: c408 :: c409 :: c410 :: c411 :: c412 :: c413 :: c414 :: c415 :: c416 :: c417 :: c418 :: c419 :: c420 :: c421 :: c422 :: c423 :: c424 :: c425 :: c426 :: c427 :: c428 :: c429 :: c430 :: c431 :: c432 :: c433 :: c434 :: c435 :: c436 :: c437 :: c438 :: c439 :: c440 :: c441 :: c442 :: c443 :: c444 :: c445 :: c446 :: c447 :: c448 :: c449 :: c450 :: c451 :: c452 :: c453 :: c454 :: c455 :: c456 :: c457 :: c458 :: c459 :: c460 :: c461 :: c462 :: c463 :: c464 :: c465 :: c466 :: c467 :: c468 :: c469 :: c470 :: c471 :: c472 :: c473 :: c474 :: c475 :: c476 :: c477 :: c478 :: c479 :: c480 :: c481 :: c482 :: c483 :: c484 :: c485 :: c486 :: []).toArray,[]⟩ w1:=by
 conv=>arg 2; arg 1; whnf
 go_loopw [2,3] (fun bv iv wr=>∃ i:Nat,i<=7/\bv=.int .i64 i/\iv=.int .i64 i/\zD w1.heap.size w1 wr) (fun _ iv _=>7 - (intOf iv).toNat)
 case atStart=>exact⟨0,by omega,rfl,rfl,zI _ _⟩
 obtain⟨i,hi,rfl,rfl,hbr⟩:=hrel;have HBR:=sH hbr;have hsr:=hbr.size;clear hbr;by_cases hin:i<7
 ·skip;have hinI:(i:Int)<7:=by omega
  go_wp2_with fail
  refine(Q3n wr).mono ?_;rintro _ x1 ⟨g1,g2,g3,rfl,⟨hg1,hg2,hg3,hg4⟩,hk1,hk2,hk3,hb⟩;have HK1:=sH hk1;have HK2:=sH hk2;have HK3:=sH hk3;have HBX:=sH hb;have hsx:=hb.size;clear hk1 hk2 hk3 hb;obtain rfl | rfl | rfl | rfl | rfl | rfl | rfl:i=0\/i=1\/i=2\/i=3\/i=4\/i=5\/i=6:=by omega
  ·go_upto_region 21 with fail
   have HRC:=sH (show Q1g x1 none 0 (Q21 0) from⟨rfl,fun h=>absurd h (by omega)⟩);have HB2:=sH HBX.out;go_wp2_with fail
   refine(Q1B k [] 0 none 0 0 (Q21 0) x1 (HBK.out.below (HBR.out.trans (HB2.out.mono hsr))) (by omega) HRC.out (by omega)).mono ?_;rintro _ x3 ⟨hno,_⟩;obtain⟨rfl,hb3⟩:=hno (Q3I 0 (by omega));have HB3:=sH (HBR.out.trans ((HB2.out.trans (hb3.mono HB2.out.size)).mono hsr));clear hno hb3;go_wp2_with fail
   go_roundw
   case rel=>exact⟨1,by omega,rfl,rfl,HB3.out⟩
   case measure=>simp [intOf]
  ·obtain⟨i0,hi0,hz0,hz1,hz2⟩:=info_parts Q7k;have hbl:=Q02 x1 (.cells #[.int .i64 13,.int .i64 14,.int .i64 15,.int .i64 16] 3);have hs2:(x1.alloc (.cells #[.int .i64 13,.int .i64 14,.int .i64 15,.int .i64 16] 3)).heap.size=x1.heap.size+1:=by simp
   have hbl2:=Q02 (x1.alloc (.cells #[.int .i64 13,.int .i64 14,.int .i64 15,.int .i64 16] 3)) (.cells #[.int .i64 1,.slice (some ⟨x1.heap.size,0,none⟩) 4 4] 69);have hb12:=hbl.trans (hbl2.mono hbl.size);have hkn0:Blk (x1.alloc (.cells #[.int .i64 13,.int .i64 14,.int .i64 15,.int .i64 16] 3)) x1.heap.size 3 (nat4 13 14 15 16):=Blk.newAt rfl;have HKN2:=sH (hkn0.below' hbl2);have HRD:=sH (Q3o (x1.alloc (.cells #[.int .i64 13,.int .i64 14,.int .i64 15,.int .i64 16] 3)) #[.int .i64 1,.slice (some ⟨x1.heap.size,0,none⟩) 4 4] rfl);have HROW:=sH (show ((x1.alloc (.cells #[.int .i64 13,.int .i64 14,.int .i64 15,.int .i64 16] 3)).alloc (.cells #[.int .i64 1,.slice (some ⟨x1.heap.size,0,none⟩) 4 4] 69)).ownsRow wr.heap.size 69 2 (.slice (some ⟨g3,0,none⟩) 2 2) 2 (crw 1 (some ⟨g1,0,none⟩) 4 4 1 (some ⟨g2,0,none⟩) 4 4).toList from⟨rfl,.inr ⟨g3,2,_,rfl,by omega,HK3.out.below' hb12,zH _,by unfold maxLen; omega,rfl,rfl⟩⟩);have HK1:=sH (HK1.out.below' hb12);have HK2:=sH (HK2.out.below' hb12);have HB12:=sH (HBX.out.trans (hb12.mono hsx));have hs12:=hb12.size;clear hbl hbl2 hb12 hkn0;go_wp2_with (at_builtin; go_must (refine Q05 _ rfl (.tmp 67) (.tmp 70) 66 rfl wr.heap.size 69 i0 _ 2 32 Tryz.underlying66 hi0 hz0 hz1 hz2 rfl (by omega) _ 2 (crw 1 (some ⟨g1,0,none⟩) 4 4 1 (some ⟨g2,0,none⟩) 4 4).toList rfl HROW.out _ (some ⟨x1.heap.size+1,0,none⟩) 1 1 [.int .i64 1,.slice (some ⟨x1.heap.size,0,none⟩) 4 4] rfl (by have h:=HRD.out; rw [hs2] at h; exact h) ?c1 ?c2 ?c3 ?c4 ?_))
   case c1=>intro u hu; simp at hu; rcases hu with rfl | rfl <;> rfl
   case c2=>unfold maxLen; omega
   case c3=>omega
   case c4=>omega
   intro v3 x2 hown3 hg3' hor3;have hbx:=Q0i HB12.out (by omega) hg3' (fun b hb=>by simp [zE] at hb; omega);obtain⟨A3,c3,rfl,hcr⟩:=crw_push hown3 (HK1.out.grown hg3' (by simp [zE]; omega)) (HK2.out.grown hg3' (by simp [zE]; omega)) (HKN2.out.grown hg3' (by simp [zE]; omega));have HRC:=sH hcr;have hb2:=hbx;clear hown3 hg3' hor3 hbx hcr HKN2 HRD HROW;go_upto_region 21 with fail
   have HB2:=sH hb2;clear hb2;go_wp2_with fail
   refine(Q1B k [] 0 A3 3 c3 (Q21 1) x2 (HBK.out.below (HBR.out.trans (HB2.out.mono hsr))) (by omega) HRC.out (by omega)).mono ?_;rintro _ x3 ⟨hno,_⟩;obtain⟨rfl,hb3⟩:=hno (Q3I 1 (by omega));have HB3:=sH (HBR.out.trans ((HB2.out.trans (hb3.mono HB2.out.size)).mono hsr));clear hno hb3;go_wp2_with fail
   go_roundw
   case rel=>exact⟨2,by omega,rfl,rfl,HB3.out⟩
   case measure=>simp [intOf]
  ·have cc:=HK3.out.cell 1;have ff:=HK1.out.frozen 0;have c0:=HK1.out.cell 0;have hT:=Q06.setCell x1 ⟨g1,0,none⟩ (.int .i64 4);have hkA:=HK1.out.set_ 0 (.int .i64 4);have hkB:=hT.blk HK2.out (show g2≠g1 by omega);have hkC:=hT.blk HK3.out (show g3≠g1 by omega);have hb2:=hT.below HBX.out (show wr.heap.size<=g1 by omega);have HKA:=sH (show Blk (x1.setCell ⟨g1,0,none⟩ (.int .i64 4)) g1 3 (nat4 4 6 7 8) from hkA);have HKB:=sH hkB;have HKC:=sH hkC;clear hT hkA hkB hkC;simp only [crw,nat4] at cc c0;go_upto_region 21 with fail
   clear cc ff c0;generalize x1.setCell ⟨g1,0,none⟩ (.int .i64 4)=x2 at HKA HKB HKC hb2 ⊢;have HRC:=sH (show Q1g x2 (some ⟨g3,0,none⟩) 2 (Q21 2) from Q6L HKC.out (Q0x HKA.out) (Q0x HKB.out) (by omega) (by omega));clear HKA HKB HKC;have HB2:=sH hb2;clear hb2;go_wp2_with fail
   refine(Q1B k [] 0 (some ⟨g3,0,none⟩) 2 2 (Q21 2) x2 (HBK.out.below (HBR.out.trans (HB2.out.mono hsr))) (by omega) HRC.out (by omega)).mono ?_;rintro _ x3 ⟨hno,_⟩;obtain⟨rfl,hb3⟩:=hno (Q3I 2 (by omega));have HB3:=sH (HBR.out.trans ((HB2.out.trans (hb3.mono HB2.out.size)).mono hsr));clear hno hb3;go_wp2_with fail
   go_roundw
   case rel=>exact⟨3,by omega,rfl,rfl,HB3.out⟩
   case measure=>simp [intOf]
  ·have cc:=HK3.out.cell 3;have ff:=HK2.out.frozen 0;have c0:=HK2.out.cell 0;have hT:=Q06.setCell x1 ⟨g2,0,none⟩ (.int .i64 8);have hkA:=HK2.out.set_ 0 (.int .i64 8);have hkB:=hT.blk HK1.out (show g1≠g2 by omega);have hkC:=hT.blk HK3.out (show g3≠g2 by omega);have hb2:=hT.below HBX.out (show wr.heap.size<=g2 by omega);have HKA:=sH (show Blk (x1.setCell ⟨g2,0,none⟩ (.int .i64 8)) g2 3 (nat4 8 10 11 12) from hkA);have HKB:=sH hkB;have HKC:=sH hkC;clear hT hkA hkB hkC;simp only [crw,nat4] at cc c0;go_upto_region 21 with fail
   clear cc ff c0;generalize x1.setCell ⟨g2,0,none⟩ (.int .i64 8)=x2 at HKA HKB HKC hb2 ⊢;have HRC:=sH (show Q1g x2 (some ⟨g3,0,none⟩) 2 (Q21 3) from Q6L HKC.out (Q0x HKB.out) (Q0x HKA.out) (by omega) (by omega));clear HKA HKB HKC;have HB2:=sH hb2;clear hb2;go_wp2_with fail
   refine(Q1B k [] 0 (some ⟨g3,0,none⟩) 2 2 (Q21 3) x2 (HBK.out.below (HBR.out.trans (HB2.out.mono hsr))) (by omega) HRC.out (by omega)).mono ?_;rintro _ x3 ⟨hno,_⟩;obtain⟨rfl,hb3⟩:=hno (Q3I 3 (by omega));have HB3:=sH (HBR.out.trans ((HB2.out.trans (hb3.mono HB2.out.size)).mono hsr));clear hno hb3;go_wp2_with fail
   go_roundw
   case rel=>exact⟨4,by omega,rfl,rfl,HB3.out⟩
   case measure=>simp [intOf]
  ·have hbl:=Q02 x1 (.cells #[.int .i64 13] 3);have hkn0:Blk (x1.alloc (.cells #[.int .i64 13] 3)) x1.heap.size 3 #[.int .i64 13]:=Blk.newAt rfl;have HKN2:=sH hkn0;have HK3':=sH (HK3.out.below' hbl);have HK1':=sH (HK1.out.below' hbl);have HBL:=sH (HBX.out.trans (hbl.mono hsx));clear hbl hkn0;go_upto_region 21 with(refine Q00 (o:=⟨none,_,_,_,_,_⟩) rfl 69 (.tmp 91) (.tmp 90) rfl g3 2 #[.int .i64 0,.slice (some ⟨x1.heap.size,0,none⟩) 1 1] rfl rfl 69 (crw 1 (some ⟨g1,0,none⟩) 4 4 1 (some ⟨g2,0,none⟩) 4 4) HK3'.out (by kernel_rfl) (by simp [crw]) (by simp [zM]) ?_; intro x2 hT hD)
   have hb2:=hT.below HBL.out (by omega);have HKC:=sH (show Blk x2 g3 69 (crw 1 (some ⟨g1,0,none⟩) 4 4 0 (some ⟨x1.heap.size,0,none⟩) 1 1) from hD);have HKA:=sH (hT.blk HK1'.out (show g1≠g3 by omega));have hkB:Blk x2 x1.heap.size 3 #[.int .i64 13]:=hT.blk HKN2.out (show x1.heap.size≠g3 by omega);have hrB:Q04 x2 x2.heap.size 1 (some ⟨x1.heap.size,0,none⟩) 1 (([13]:List Int).map vn):=⟨rfl,fun _=>⟨⟨x1.heap.size,0,none⟩,rfl,hkB.lt,fun j u hu=>by rw [Q0R,zL,hkB.cell,<- zN]; exact hu⟩⟩;have HRC:=sH (show Q1g x2 (some ⟨g3,0,none⟩) 2 (Q21 4) from Q6L HKC.out (Q0x HKA.out) hrB (by omega) (by omega));clear hT hD hkB hrB HKA HKC HKN2 HK3' HK1' HBL;have HB2:=sH hb2;clear hb2;go_wp2_with fail
   refine(Q1B k [] 0 (some ⟨g3,0,none⟩) 2 2 (Q21 4) x2 (HBK.out.below (HBR.out.trans (HB2.out.mono hsr))) (by omega) HRC.out (by omega)).mono ?_;rintro _ x3 ⟨hno,_⟩;obtain⟨rfl,hb3⟩:=hno (Q3I 4 (by omega));have HB3:=sH (HBR.out.trans ((HB2.out.trans (hb3.mono HB2.out.size)).mono hsr));clear hno hb3;go_wp2_with fail
   go_roundw
   case rel=>exact⟨5,by omega,rfl,rfl,HB3.out⟩
   case measure=>simp [intOf]
  ·have cc:=HK3.out.cell 1;have ff:=HK3.out.frozen 1;have hT:=Q06.setCell x1 ⟨g3,1,none⟩ (.slice (some ⟨g1,0,none⟩) 3 4);have hkC:=HK3.out.set_ 1 (.slice (some ⟨g1,0,none⟩) 3 4);have hkA:=hT.blk HK1.out (show g1≠g3 by omega);have hkB:=hT.blk HK2.out (show g2≠g3 by omega);have hb2:=hT.below HBX.out (show wr.heap.size<=g3 by omega);have HKA:=sH hkA;have HKB:=sH hkB;have HKC:=sH (show Blk (x1.setCell ⟨g3,1,none⟩ (.slice (some ⟨g1,0,none⟩) 3 4)) g3 69 (crw 1 (some ⟨g1,0,none⟩) 3 4 1 (some ⟨g2,0,none⟩) 4 4) from hkC);clear hT hkA hkB hkC;simp only [crw] at cc;go_upto_region 21 with fail
   clear cc ff;generalize x1.setCell ⟨g3,1,none⟩ (.slice (some ⟨g1,0,none⟩) 3 4)=x2 at HKA HKB HKC hb2 ⊢;have HRC:=sH (show Q1g x2 (some ⟨g3,0,none⟩) 2 (Q21 5) from Q6L HKC.out (l1:=[5,6,7]) (atake_ (Q0x HKA.out) (by omega)) (Q0x HKB.out) (by omega) (by omega));clear HKA HKB HKC;have HB2:=sH hb2;clear hb2;go_wp2_with fail
   refine(Q1B k [] 0 (some ⟨g3,0,none⟩) 2 2 (Q21 5) x2 (HBK.out.below (HBR.out.trans (HB2.out.mono hsr))) (by omega) HRC.out (by omega)).mono ?_;rintro _ x3 ⟨hno,_⟩;obtain⟨rfl,hb3⟩:=hno (Q3I 5 (by omega));have HB3:=sH (HBR.out.trans ((HB2.out.trans (hb3.mono HB2.out.size)).mono hsr));clear hno hb3;go_wp2_with fail
   go_roundw
   case rel=>exact⟨6,by omega,rfl,rfl,HB3.out⟩
   case measure=>simp [intOf]
  go_upto_region 21 with(first
   | (refine Q01 (o:=⟨some 61,_,_,_,_,_⟩) rfl 69 (.tmp 60) rfl g3 2 2 rfl 69 _ #[.int .i64 1,.slice (some ⟨g2,0,none⟩) 4 4] _ HK3.out Tryz.underlying69 rfl rfl rfl (fun j hj=>by obtain rfl | rfl:j=0\/j=1:=(by omega) <;> rfl) ?_)
   | (refine Q00 (o:=⟨none,_,_,_,_,_⟩) rfl 69 (.tmp 62) (.tmp 61) rfl g3 0 #[.int .i64 1,.slice (some ⟨g2,0,none⟩) 4 4] rfl rfl 69 (crw 1 (some ⟨g1,0,none⟩) 4 4 1 (some ⟨g2,0,none⟩) 4 4) HK3.out (by kernel_rfl) (by simp [crw]) (by simp [zM]) ?_; intro x2 hT hD))
  have hb2:=hT.below HBX.out (by omega);have HKC:=sH (show Blk x2 g3 69 (crw 1 (some ⟨g2,0,none⟩) 4 4 1 (some ⟨g2,0,none⟩) 4 4) from hD);have HKB:=sH (hT.blk HK2.out (show g2≠g3 by omega));have HRC:=sH (show Q1g x2 (some ⟨g3,0,none⟩) 2 (Q21 6) from Q6L HKC.out (Q0x HKB.out) (Q0x HKB.out) (by omega) (by omega));clear hT hD HKC HKB;have HB2:=sH hb2;clear hb2;go_wp2_with fail
  refine(Q1B k [] 0 (some ⟨g3,0,none⟩) 2 2 (Q21 6) x2 (HBK.out.below (HBR.out.trans (HB2.out.mono hsr))) (by omega) HRC.out (by omega)).mono ?_;rintro _ x3 ⟨hno,_⟩;obtain⟨rfl,hb3⟩:=hno (Q3I 6 (by omega));have HB3:=sH (HBR.out.trans ((HB2.out.trans (hb3.mono HB2.out.size)).mono hsr));clear hno hb3;go_wp2_with fail
  go_roundw
  case rel=>exact⟨7,by omega,rfl,rfl,HB3.out⟩
  case measure=>simp [intOf]
 obtain rfl:i=7:=by omega
 clear hin hi;go_wp2_with fail
 exact HBR.out
end
end Go.Proofs.YtckjnbjiafgibaaGreat
