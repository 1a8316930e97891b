/- Parts of the proof, in one text. -/
import Derived.Test.YtckjnbjiafgibaaGreatK7
import Derived.BigRegion
import Derived.Test.YtckjnbjiafgibaaGreatK1
import Derived.Test.YtckjnbjiafgibaaGreatK4
import Derived.Deep.DeepCutAuto
import Derived.Test.YtckjnbjiafgibaaGreatK6
import Derived.Test.YtckjnbjiafgibaaGreatK3
namespace Go.Proofs.YtckjnbjiafgibaaGreat
set_option linter.unusedVariables false
set_option linter.unusedSimpArgs false
set_option maxRecDepth 100000
set_option maxHeartbeats 16000000
open _root_.Array renaming getElem?_eq_none->zG,getElem?_setIfInBounds->zL
open _root_.Go renaming Addr->zA,World->zB,Value->zC,Calls->zJ
open _root_.Go.Act renaming put->zV
open _root_.Go.Proofs.Tryz renaming prog->zM
open _root_.Go.Region renaming wanted->zI
open _root_.Go.RowKit renaming Below->zE
open _root_.Go.RowKit.Below renaming refl->zP
open _root_.Go.Value renaming oneCell'->zS
open _root_.Go.World renaming alloc->zY
open _root_.List renaming getElem?_eq_getElem->zD,eq_nil_of_length_eq_zero->zH,getElem?_map->zK,length_append->zO,getD_eq_getElem?_getD->zQ,replicate->zT,take_of_length_le->zU,take_succ_eq_append_getElem->zW,mem_singleton->zZ
open _root_.Nat renaming lt_or_ge->zF,le_refl->zN,zero_add->zR
open _root_.Option.some renaming inj->zX
section
open Go.RowKit Go.Maps
attribute [local irreducible] wpList
theorem Q9f (w:zB) (V:VLoc) (N:Nat->Prop) (m:VM) (L:LL) (asked:Nat) (h:VAt w V N m) (hN:∀ b,N b->b<w.heap.size) (hbk:Q0d w V.k L asked) (hin:Q0J L (Q01 m)) (has:asked<=700000)
 (x:Wish) (A:Option zA) (n c:Nat) (A':Option zA) (n' c':Nat) (B:Nat) (hx:Q14 w B x A n c A' n' c') (hB:B<=w.heap.size) (hap:∀ a,0<n->A=some a->a.block≠V.g) :
 zJ zM 8 #[.pointer (some ⟨V.g,0,none⟩),.agg (Q02 x A n c A' n' c')] w (DoPost w V N L asked (doV m x)):=by
 by_cases hlate:mayB x=true/\x.group=(m.group:Int)/\x.kind≠5/\oldV m x=none
 ·exact vDo_late w V N m L asked h hN hbk hin has x A n c A' n' c' B hx hB hap hlate.1 hlate.2.1 hlate.2.2.1 hlate.2.2.2
 obtain⟨S,hd⟩:=h.dat;have hX:zE w.heap.size w ((w.alloc (.cells (Q02 x A n c A' n' c') 31)).alloc (.cells (aC 0 none 0 0 0) 34)):=((zP _ _).alloc (zN _) _).alloc (by simp) _;have k3:Blk ((w.alloc (.cells (Q02 x A n c A' n' c') 31)).alloc (.cells (aC 0 none 0 0 0) 34)) w.heap.size 31 (Q02 x A n c A' n' c'):=(Blk.newAt rfl).alloc _;have k4:Blk ((w.alloc (.cells (Q02 x A n c A' n' c') 31)).alloc (.cells (aC 0 none 0 0 0) 34)) (w.heap.size+1) 34 (aC 0 none 0 0 0):=Blk.newAt (by simp);have hz1:((w.alloc (.cells (Q02 x A n c A' n' c') 31)).alloc (.cells (aC 0 none 0 0 0) 34)).heap.size=w.heap.size+2:=by simp
 have hZ:aC 0 none 0 0 0=#[.int .i64 0,.slice none 0 0,.int .i64 0,.slice none 0 0]:=rfl;have lg:=hd.blk.lt;have hgr:=hd.ok.group;have HV:=sH h;have HD:=sH hd;have HBK:=sH hbk;have HIN:=sH hin;have HNN:=sH hN;have HXW:=sH hx;have HAP:=sH hap;have HX:=sH hX;have K3:=sH k3;have K4:=sH k4;have HZ1:=sH hz1;obtain⟨g3,hg3⟩:∃ b,b=w.heap.size:=⟨_,rfl⟩;obtain⟨g4,hg4⟩:∃ b,b=w.heap.size+1:=⟨_,rfl⟩;obtain⟨p,hp⟩:∃ p,p=doV m x:=⟨_,rfl⟩;rw [<- hp];have HP:=sH hp;clear h hd hbk hin hN hx hX k3 k4 hz1 hap hp;go_enter Tryz.func8,Tryz.ntmps8
 go_upto_region 1 with fail
 rw [<- hZ];generalize zY (zY w _) _=w1 at HX K3 K4 HZ1 ⊢;rw [<- hg4] at K4 ⊢;rw [<- hg3] at K3 ⊢;have hz1:=HZ1.out;have hgw3:w.heap.size<=g3:=by omega
 have hgw4:w.heap.size<=g4:=by omega
 have hg34:g3≠g4:=by omega
 have hw1:w.heap.size<=w1.heap.size:=by omega
 have hl3:=K3.out.lt;have hl4:=K4.out.lt;have hv1:=HV.out.below HX.out;have HNO:=sH (Q1C w1 V.g V.T.t hv1.none_);have HCK0:=sH (fun(W:zB) (hb:zE w1.heap.size w1 W)=>Q4Q x A n c A' n' c' W B (HXW.out.below ((HX.out.trans (hb.mono hw1)).mono hB)) (by have:=hb.size; omega));have c32:∀ W,zE w1.heap.size w1 W->W.cell? ⟨g3,2,none⟩=some (.int .i64 x.group):=fun W hb=>((K3.out.below' hb).cell 2).trans (rfl:(Q02 x A n c A' n' c')[2]?=some (.int .i64 x.group))
 have cg:=fun(W:zB) (hb:zE w1.heap.size w1 W)=>((HD.out.below HX.out).below hb).cGroup
 have C32:=sH c32;have CG:=sH cg;clear hg3 hg4 HZ1 hz1 hZ hv1 c32 cg;go_wp2_with fail
 refine HNO.out.mono ?_;rintro _ _ ⟨rfl,rfl⟩;go_upto_region 3 with fail
 clear HNO;cases hmb:mayB x with
 | false =>
  have hpp:p=(m,okA,2):=by rw [HP.out]; unfold doV inV; rw [hmb]; simp
  subst hpp;have HCK:=sH (show ∀ W,zE w1.heap.size w1 W->zJ zM 44 #[.agg (Q02 x A n c A' n' c')] W fun e w'=>e=.returned (.int .i64 2)/\zE W.heap.size W w' from fun W hb=>by have h:=HCK0.out W hb; rw [hmb] at h; exact h);clear hmb HCK0;refine Q0f 12 109 (by kernel_rfl) (by kernel_rfl) (by kernel_rfl) (by simp) ?_;simp only [tT,tU];refine Q0w rfl 31 (.tmp 3) rfl g3 0 10 rfl 31 _ (Q02 x A n c A' n' c') _ K3.out Tryz.underlying31 rfl rfl rfl (fun _ _=>by rw [zR]) ?_;try simp only [zV,sA]
  refine Q1g rfl rfl 44 #[.agg (Q02 x A n c A' n' c')] (fun W=>by go_simp) (.int .i64 2) (fun W hb=>HCK.out W hb) ?_;try simp only [zV,sA]
  refine tC (.bool true) ?_;try simp only [zV,sA]
  refine tD (.bool true) ?_;try simp only [zV,sA]
  refine Q0j rfl rfl ?_;try simp only [zV,sA]
  refine Q0j rfl rfl ?_;try simp only [zV,sA]
  refine Q0j rfl rfl ?_;try simp only [zV,sA]
  refine Q0j rfl rfl ?_;try simp only [zV,sA]
  refine Q0j rfl rfl ?_;try simp only [zV,sA]
  refine Q0j rfl rfl ?_;try simp only [zV,sA]
  refine Q0j rfl rfl ?_;try simp only [zV,sA]
  refine tC (.bool true) ?_;try simp only [zV,sA]
  refine Q0A ?_;intro w2 hb2;have K42:=sH (K4.out.below' hb2);have HX2:=sH (HX.out.trans (hb2.mono hw1));clear hb2;go_wp2_with (refine Q00 (o:=⟨none,_,_,_,_,_⟩) rfl 34 (.tmp 4) (.tmp 28) rfl g4 0 (aC 0 none 0 0 0) rfl rfl 34 _ K42.out (Q0F _ _ _ _ _) (by simp [aC]) (Q0X _ _ _ _ _) ?_; intro w9 hT9 hD9; rw [Q17] at hD9)
  refine bodyPost_ret (Q07 rfl _ _ g4 4 34 _ _ rfl hD9 Tryz.underlying34 rfl rfl rfl) rfl ⟨_,rfl,⟨none,0,rfl,OwnB.nil _ _⟩,Q1d.same HV.out HBK.out HIN.out (hT9.below HX2.out hgw4)⟩
 | true =>
  have HCK:=sH (show ∀ W,zE w1.heap.size w1 W->zJ zM 44 #[.agg (Q02 x A n c A' n' c')] W fun e w'=>e=.returned (.int .i64 0)/\zE W.heap.size W w' from fun W hb=>by have h:=HCK0.out W hb; rw [hmb] at h; exact h);have HMB:=sH hmb;clear hmb HCK0;have c32:=C32.out;have cg:=CG.out;by_cases hgq:x.group=(m.group:Int)
  ·have hgb:(x.group != (m.group:Int))=false:=by simpa using hgq
   refine Q0f 12 109 (by kernel_rfl) (by kernel_rfl) (by kernel_rfl) (by simp) ?_;simp only [tT,tU];refine Q0w rfl 31 (.tmp 3) rfl g3 0 10 rfl 31 _ (Q02 x A n c A' n' c') _ K3.out Tryz.underlying31 rfl rfl rfl (fun _ _=>by rw [zR]) ?_;try simp only [zV,sA]
   refine Q1g rfl rfl 44 #[.agg (Q02 x A n c A' n' c')] (fun W=>by go_simp) (.int .i64 0) (fun W hb=>HCK.out W hb) ?_;try simp only [zV,sA]
   refine tC (.bool false) ?_;try simp only [zV,sA]
   refine tD (.bool false) ?_;try simp only [zV,sA]
   refine tC (.pointer (some ⟨g3,2,none⟩)) ?_;try simp only [zV,sA]
   refine Q0g rfl rfl (.int .i64 x.group) (fun W hb=>by have:=c32 W hb; go_simp) ?_;try simp only [zV,sA]
   refine tD (.pointer (some ⟨V.g,0,none⟩)) ?_;try simp only [zV,sA]
   refine tC (.pointer (some ⟨V.g,0,none⟩)) ?_;try simp only [zV,sA]
   refine tC (.pointer (some ⟨V.g,1,none⟩)) ?_;try simp only [zV,sA]
   refine Q0g rfl rfl (.int .i64 (m.group:Int)) (fun W hb=>by have:=cg W hb; go_simp) ?_;try simp only [zV,sA]
   refine tC (.bool false) ?_;try simp only [zV,sA]
   refine tC (.bool false) ?_;try simp only [zV,sA]
   refine Q0A ?_;intro w2 hb2;have K32:=sH (K3.out.below' hb2);have K42:=sH (K4.out.below' hb2);have HX2:=sH (HX.out.trans (hb2.mono hw1));have hw12:=hb2.size;clear hb2 c32 cg hgb;have c34:w2.cell? ⟨g3,4,none⟩=some (.int .i64 x.kind):=(K32.out.cell 4).trans rfl;by_cases hk5:x.kind=5
   ·have hpp:p=((Q3U m x).1,(Q3U m x).2,0):=by rw [HP.out]; unfold doV inV; rw [HMB.out,decide_eq_true hgq]; simp only [Bool.and_self,if_true,if_pos hk5]
    obtain⟨sv,hsv⟩:∃ sv,sv=Q3U m x:=⟨_,rfl⟩;have hv2:VAt w2 V (fun b=>N b\/b=g4) m:=((HV.out.mono (N':=fun b=>N b\/b=g4) (fun b hb hn=>hn.elim id (fun e=>by omega)) (fun b hb=>.inl (HV.out.all b hb)))).below HX2.out;have HSL:=sH (Q6Q w2 V (fun b=>N b\/b=g4) m L asked hv2 (fun b hb=>by rcases hb with hb | hb; have:=HNN.out b hb; omega; omega) (HBK.out.below HX2.out) HIN.out (by omega) x A n c A' n' c' B (HXW.out.below (HX2.out.mono hB)) (by omega) HMB.out hk5);have HDT:=sH (show (Q3U m x).2.data=[] by
     unfold Q3U;cases hel:Q25 m x.epoch with
     | some a=>obtain⟨q,rfl⟩:=Q2D hel; rfl
     | none=>simp only; split <;> rfl)
    rw [<- hsv] at HSL hpp HDT;subst hpp;have hk5b:(x.kind == 5)=true:=by simpa using hk5
    clear hsv hv2;go_wp2_with (refine Q0c (o:=⟨some 34,_,_,_,_,_⟩) rfl 31 (.tmp 3) rfl g3 0 10 rfl 31 _ (Q02 x A n c A' n' c') _ K32.out Tryz.underlying31 rfl rfl rfl (fun _ _=>by rw [zR]) ?_)
    refine HSL.out.mono ?_;rintro _ w5 ⟨rfl,hvd⟩;have hkh:¬ V.has g4:=fun hb=>by have:=HNN.out _ (HV.out.all _ hb); omega
    have K45:=sH (hvd.only.blk K42.out hkh);have HVD:=sH hvd;have HAP5:=sH (show ansP sv.2=aC sv.2.err none 0 0 sv.2.epoch from rfl);rw [HAP5.out];clear hvd HSL c34;go_wp2_with (refine Q00 (o:=⟨none,_,_,_,_,_⟩) rfl 34 (.tmp 4) (.tmp 35) rfl g4 0 (aC sv.2.err none 0 0 sv.2.epoch) rfl rfl 34 _ K45.out (Q0F _ _ _ _ _) (by simp [aC]) (Q0X _ _ _ _ _) ?_; intro w9 hT9 hD9; rw [Q17] at hD9)
    refine bodyPost_ret (Q07 rfl _ _ g4 4 34 _ _ rfl hD9 Tryz.underlying34 rfl rfl rfl) rfl ⟨_,rfl,?_,(Q1d.last HV.out HNN.out HX2.out HVD.out hT9 hgw4).more (by omega)⟩;have hdt:sv.2.data=[]:=HDT.out;unfold Q9L;simp only [hdt];exact⟨none,0,rfl,OwnB.nil _ _⟩
   have hk5b:(x.kind == 5)=false:=by simpa using hk5
   have hcl:=Q2V HMB.out hk5;have HOL:=sH (Q7Y w2 V.g _ N m S (HD.out.below HX2.out) x A n c A' n' c' ⟨hcl.1,hcl.2.1⟩);have hp2:p=match oldV m x with | some a=>(m,a,0) | none=>match Q25 m x.epoch with | some a=>(m,a,0) | none=>((ranV m x).1,Q24 (ranV m x).2,0):=by
    rw [HP.out]; unfold doV inV; rw [HMB.out,decide_eq_true hgq]; simp only [Bool.and_self,if_true,if_neg hk5];cases oldV m x with
    | some a=>rfl
    | none=>cases Q25 m x.epoch <;> rfl
   have HP2:=sH hp2;clear hp2;cases hol:oldV m x with
   | some a =>
    rw [hol] at HOL HP2;have hpa:p=(m,a,0):=HP2.out;subst hpa;go_wp2_with (refine Q0c (o:=⟨some 38,_,_,_,_,_⟩) rfl 31 (.tmp 3) rfl g3 0 10 rfl 31 _ (Q02 x A n c A' n' c') _ K32.out Tryz.underlying31 rfl rfl rfl (fun _ _=>by rw [zR]) ?_)
    refine HOL.out.mono ?_;rintro _ w3 ⟨D,rfl,⟨A3,q3,hDe,ho3⟩,hb3⟩;simp only [Option.getD_some] at hDe ho3;subst hDe;simp only [Option.isSome_some];have K43:=sH (K42.out.below' hb3);have HX3:=sH (HX2.out.trans (hb3.mono (by omega)));have HO3:=sH ho3;have hs3:=hb3.size;clear ho3 hb3 HOL;go_upto_region 8 with(refine Q00 (o:=⟨none,_,_,_,_,_⟩) rfl 34 (.tmp 6) (.tmp 40) rfl w3.heap.size 0 (aC a.err A3 a.data.length q3 a.epoch) rfl rfl 34 (aC 0 none 0 0 0) (Blk.newAt rfl) (Q0F _ _ _ _ _) (by simp [aC]) (Q0X _ _ _ _ _) ?_; intro w5 hT5 hD5; rw [Q17] at hD5)
    have hb5:zE w3.heap.size w3 w5:=hT5.below ((zP _ _).alloc (zN _) _) (zN _);have K45:=sH (K43.out.below' hb5);have HX5:=sH (HX3.out.trans (hb5.mono (by omega)));have HO5:=sH (HO3.out.below hb5);have HD5:=sH hD5;obtain⟨g6,hg6⟩:∃ g,g=w3.heap.size:=⟨_,rfl⟩;rw [<- hg6] at HD5 ⊢;clear hT5 hD5 hb5 hg6;go_wp2_with (first
     | (refine Q0c (o:=⟨some 43,_,_,_,_,_⟩) rfl 34 (.tmp 6) rfl g6 0 4 rfl 34 _ (aC a.err A3 a.data.length q3 a.epoch) _ HD5.out Tryz.underlying34 rfl rfl rfl (fun _ _=>by rw [zR]) ?_)
     | (refine Q00 (o:=⟨none,_,_,_,_,_⟩) rfl 34 (.tmp 4) (.tmp 43) rfl g4 0 (aC a.err A3 a.data.length q3 a.epoch) rfl rfl 34 _ K45.out (Q0F _ _ _ _ _) (by simp [aC]) (Q0X _ _ _ _ _) ?_; intro w9 hT9 hD9; rw [Q17] at hD9))
    refine bodyPost_ret (Q07 rfl _ _ g4 4 34 _ _ rfl hD9 Tryz.underlying34 rfl rfl rfl) rfl ⟨_,rfl,⟨A3,q3,rfl,?_⟩,Q1d.same HV.out HBK.out HIN.out (hT9.below HX5.out hgw4)⟩;exact(HO5.out.more (by have:=HX2.out.size; omega)).keep fun b hb=>hT9.block b (fun e=>by have:=HO5.out.ge hb; omega)
   | none=>exact absurd ⟨HMB.out,hgq,hk5,hol⟩ hlate
  have hgb:(x.group != (m.group:Int))=true:=by simpa using hgq
  have hpp:p=(m,okA,2):=by rw [HP.out]; unfold doV inV; rw [decide_eq_false hgq]; simp
  subst hpp;refine Q0f 12 109 (by kernel_rfl) (by kernel_rfl) (by kernel_rfl) (by simp) ?_;simp only [tT,tU];refine Q0w rfl 31 (.tmp 3) rfl g3 0 10 rfl 31 _ (Q02 x A n c A' n' c') _ K3.out Tryz.underlying31 rfl rfl rfl (fun _ _=>by rw [zR]) ?_;try simp only [zV,sA]
  refine Q1g rfl rfl 44 #[.agg (Q02 x A n c A' n' c')] (fun W=>by go_simp) (.int .i64 0) (fun W hb=>HCK.out W hb) ?_;try simp only [zV,sA]
  refine tC (.bool false) ?_;try simp only [zV,sA]
  refine tD (.bool false) ?_;try simp only [zV,sA]
  refine tC (.pointer (some ⟨g3,2,none⟩)) ?_;try simp only [zV,sA]
  refine Q0g rfl rfl (.int .i64 x.group) (fun W hb=>by have:=c32 W hb; go_simp) ?_;try simp only [zV,sA]
  refine tD (.pointer (some ⟨V.g,0,none⟩)) ?_;try simp only [zV,sA]
  refine tC (.pointer (some ⟨V.g,0,none⟩)) ?_;try simp only [zV,sA]
  refine tC (.pointer (some ⟨V.g,1,none⟩)) ?_;try simp only [zV,sA]
  refine Q0g rfl rfl (.int .i64 (m.group:Int)) (fun W hb=>by have:=cg W hb; go_simp) ?_;try simp only [zV,sA]
  refine tC (.bool true) ?_;try simp only [zV,sA]
  refine tC (.bool true) ?_;try simp only [zV,sA]
  refine Q0A ?_;intro w2 hb2;have K42:=sH (K4.out.below' hb2);have HX2:=sH (HX.out.trans (hb2.mono hw1));clear hb2;go_wp2_with (refine Q00 (o:=⟨none,_,_,_,_,_⟩) rfl 34 (.tmp 4) (.tmp 28) rfl g4 0 (aC 0 none 0 0 0) rfl rfl 34 _ K42.out (Q0F _ _ _ _ _) (by simp [aC]) (Q0X _ _ _ _ _) ?_; intro w9 hT9 hD9; rw [Q17] at hD9)
  refine bodyPost_ret (Q07 rfl _ _ g4 4 34 _ _ rfl hD9 Tryz.underlying34 rfl rfl rfl) rfl ⟨_,rfl,⟨none,0,rfl,OwnB.nil _ _⟩,Q1d.same HV.out HBK.out HIN.out (hT9.below HX2.out hgw4)⟩
end
section
open Go.RowKit
theorem Q20 {P:Program} {ops:Array Oper} {rest:List Oper} {o:Oper} {a:Act} {w:zB} {Q:Exit->Act->zB->Prop} (hw:zI o (yielded ops a.tmps)=true) (ty:TypeId) (x:Operand) (ho:o.op=.load ty x)
 (g off n:Nat) (hx:a.eval x=.pointer (some ⟨g,off,none⟩)) (t:TypeId) (cs vs:Array zC) (d:TypeDesc) (hB:Blk w g t cs)
 (hu:P.underlying ty=some d) (hd:(match d with | .struct _ | .array _ _=>true | _=>false)=true) (hi:(P.info? ty).map (·.size)=some n)
 (hn:vs.size=n) (hv:∀ j,j<n->cs[off+j]?=vs[j]?)
 (h:wpList P ops Q rest (a.put o.dst (.agg vs)) w):wpList P ops Q (o :: rest) a w:=by
 unfold wpList;rw [if_pos hw];exact .inl (Q3W ty x ho g off n hx t cs vs d hB hu hd hi hn hv h)
theorem Q2B {P:Program} {ops:Array Oper} {rest:List Oper} {o:Oper} {a:Act} {w:zB} {Q:Exit->Act->zB->Prop} (hw:zI o (yielded ops a.tmps)=true) (v:zC)
 (he:(execOp a.eval o).run P w=.ok (.value v) w) (h:wpList P ops Q rest (a.put o.dst v) w):wpList P ops Q (o :: rest) a w:=by
 unfold wpList;rw [if_pos hw];refine .inl ?_;unfold Oper.wp;rw [he];exact h
end
section
open Go.RowKit Go.Maps
attribute [local irreducible] wpList
def anC (err:Int) (A:Option zA) (n c:Nat) (ep:Int) (A':Option zA) (n' c':Nat):Array zC:=#[.int .i64 err,.slice A n c,.int .i64 ep,.slice A' n' c']
theorem Q4Y (e1 e2 p1 p2:Int) (A:Option zA) (n c:Nat) (A':Option zA) (n' c':Nat) (D:Option zA) (m d:Nat) (D':Option zA) (m' d':Nat) (xs ys:List UInt8) (xt yt:List Int) (w:zB) (B:Nat)
 (hx:Q04 w B 1 A n (xs.map vb)) (hx':Q04 w B 1 A' n' (xt.map vn)) (hy:Q04 w B 1 D m (ys.map vb)) (hy':Q04 w B 1 D' m' (yt.map vn)) (hB:B<=w.heap.size) (hn:n<=maxLen) (hn':n'<=maxLen) (hm:m<=maxLen) (hm':m'<=maxLen) :
 zJ zM 51 #[.agg (anC e1 A n c p1 A' n' c'),.agg (anC e2 D m d p2 D' m' d')] w fun e w'=>e=.returned (.bool (decide (e1=e2/\xs=ys/\p1=p2/\xt=yt)))/\zE w.heap.size w w':=by
 have HEB:=sH (fun W (hb:zE w.heap.size w W)=>Q7a A D n m c d xs ys W B B (hx.below (hb.mono hB)) (hy.below (hb.mono hB)) hn hm);have HEI:=sH (fun W (hb:zE w.heap.size w W)=>Q8w A' D' n' m' c' d' xt yt W B B (hx'.below (hb.mono hB)) (hy'.below (hb.mono hB)) hn' hm');clear hx hy hx' hy';unfold anC;go_enter Tryz.func51,Tryz.ntmps51
 go_upto_region 1 with fail
 have hX:zE w.heap.size w ((w.alloc (.cells #[.int .i64 e1,.slice A n c,.int .i64 p1,.slice A' n' c'] 34)).alloc (.cells #[.int .i64 e2,.slice D m d,.int .i64 p2,.slice D' m' d'] 34)):=((zP _ _).alloc (zN _) _).alloc (by simp) _;have k1:Blk ((w.alloc (.cells #[.int .i64 e1,.slice A n c,.int .i64 p1,.slice A' n' c'] 34)).alloc (.cells #[.int .i64 e2,.slice D m d,.int .i64 p2,.slice D' m' d'] 34)) w.heap.size 34 #[.int .i64 e1,.slice A n c,.int .i64 p1,.slice A' n' c']:=(Blk.newAt rfl).alloc _;have k2:Blk ((w.alloc (.cells #[.int .i64 e1,.slice A n c,.int .i64 p1,.slice A' n' c'] 34)).alloc (.cells #[.int .i64 e2,.slice D m d,.int .i64 p2,.slice D' m' d'] 34)) (w.heap.size+1) 34 #[.int .i64 e2,.slice D m d,.int .i64 p2,.slice D' m' d']:=Blk.newAt (by simp);generalize zY _ _=w1 at hX k1 k2 ⊢;have c0:=k1.cell 0;have c1:=k1.cell 1;have c2:=k1.cell 2;have c3:=k1.cell 3;have d0:=k2.cell 0;have d1:=k2.cell 1;have d2:=k2.cell 2;have d3:=k2.cell 3;simp only [List.getElem?_toArray,List.getElem?_cons_zero,List.getElem?_cons_succ] at c0 c1 c2 c3 d0 d1 d2 d3;have HB:=sH hX;have HE1:=sH (HEB.out w1 hX);have HE2:=sH (fun q=>HEI.out (w1.drewN q) (Q0M HB.out q));clear k1 k2 hX HEB HEI;obtain⟨g1,hg1⟩:∃ g,g=w.heap.size:=⟨_,rfl⟩;obtain⟨g3,hg3⟩:∃ g,g=w.heap.size+1:=⟨_,rfl⟩;rw [<- hg1] at c0 c1 c2 c3;rw [<- hg3] at d0 d1 d2 d3 ⊢;rw [<- hg1];clear hg1 hg3;go_wp2_with (first
  | (go_at_call 76; refine HE1.out.mono ?_; rintro _ _ ⟨rfl,q,rfl⟩)
  | (go_at_call 72; refine(HE2.out _).mono ?_; rintro _ _ ⟨rfl,q2,rfl⟩))
 all_goals go_ret
 all_goals refine⟨Q11 ?_,by first | exact HB.out | exact Q0M HB.out _ | exact Q0M (Q0M HB.out _) _⟩
 all_goals clear HB HE1 HE2 c0 c1 c2 c3 d0 d1 d2 d3
 all_goals rw [Bool.eq_iff_iff]
 all_goals simp_all
theorem Q1d.under {w w1 w':zB} {V:VLoc} {N:Nat->Prop} {m:VM} {L:LL} {asked q:Nat} (hb:zE w.heap.size w w1) (h:Q1d w1 w' V N m L asked q):Q1d w w' V N m L asked q:=⟨h.vat,h.book,(Only.of_below hb).trans h.only⟩
def DoesPost (w:zB) (V:VLoc) (N:Nat->Prop) (L:LL) (asked:Nat) (p:VM×Ans×Nat) (y:Ans) (r:Ending) (w':zB):Prop :=r=.returned (.bool (decide (p.2.2=0/\p.2.1.err=y.err/\p.2.1.data=y.data/\p.2.1.epoch=y.epoch)))/\Q1d w w' V N p.1 L asked 6
theorem doV_len {m:VM} (h:VOk m) (x:Wish):(doV m x).2.1.data.length<=16:=by
 unfold doV;split
 ·rename_i hi;unfold inV at hi;simp only [Bool.and_eq_true,decide_eq_true_eq] at hi;split
  ·unfold Q3U;cases hel:Q25 m x.epoch with
   | some a=>obtain⟨q,rfl⟩:=Q2D hel; simp [errA]
   | none=>simp only; split <;> simp [errA,okA]
  rename_i hk;have hc:=Q2V hi.1 hk;have hb:=Q4s hi.1 hk (by have:=h.group; omega);cases ho:oldV m x with
  | some a =>
   simp only;unfold oldV at ho;simp only at ho;split at ho
   ·rw [<- zX ho];rcases(h.lst (i:=(x.client - 31).toNat) (by omega)).2 with e | e
    ·simp [Q24,e]
    simp [Q24,e.1]
   split at ho
   ·rw [<- zX ho]; simp [errA]
   cases ho
  | none =>
   simp only;cases hel:Q25 m x.epoch with
   | some a=>obtain⟨q,rfl⟩:=Q2D hel; simp [errA]
   | none =>
    simp only [Q24,ranV];split
    ·rw [h.blk (by omega)]; omega
    simp
 simp [okA]
theorem Q4M (w:zB) (V:VLoc) (N:Nat->Prop) (m:VM) (L:LL) (asked:Nat) (h:VAt w V N m) (hN:∀ b,N b->b<w.heap.size) (hbk:Q0d w V.k L asked) (hin:Q0J L (Q01 m)) (has:asked<=700000)
 (x:Wish) (A:Option zA) (n c:Nat) (A':Option zA) (n' c':Nat) (B:Nat) (hx:Q14 w B x A n c A' n' c') (hB:B<=w.heap.size) (hap:∀ a,0<n->A=some a->a.block≠V.g)
 (y:Ans) (D:Option zA) (k d:Nat) (hy:Q04 w B 1 D k (y.data.map vb)) (hyp:∀ a,0<k->D=some a->¬ V.has a.block) (hk:k<=1000000) :
 zJ zM 10 #[.pointer (some ⟨V.g,0,none⟩),.agg (Q02 x A n c A' n' c'),.agg (aC y.err D k d y.epoch)] w (DoesPost w V N L asked (doV m x) y):=by
 have hX:zE w.heap.size w ((w.alloc (.cells (Q02 x A n c A' n' c') 31)).alloc (.cells (aC y.err D k d y.epoch) 34)):=((zP _ _).alloc (zN _) _).alloc (by simp) _;have k3:Blk ((w.alloc (.cells (Q02 x A n c A' n' c') 31)).alloc (.cells (aC y.err D k d y.epoch) 34)) w.heap.size 31 (Q02 x A n c A' n' c'):=(Blk.newAt rfl).alloc _;have k4:Blk ((w.alloc (.cells (Q02 x A n c A' n' c') 31)).alloc (.cells (aC y.err D k d y.epoch) 34)) (w.heap.size+1) 34 (aC y.err D k d y.epoch):=Blk.newAt (by simp);have hz1:((w.alloc (.cells (Q02 x A n c A' n' c') 31)).alloc (.cells (aC y.err D k d y.epoch) 34)).heap.size=w.heap.size+2:=by simp
 have hdl:(doV m x).2.1.data.length<=16:=by obtain⟨S,hd⟩:=h.dat; exact doV_len hd.ok x
 have HV:=sH h;have HNN:=sH hN;have HX:=sH hX;have K3:=sH k3;have K4:=sH k4;have HY:=sH hy;have HYP:=sH hyp;have HDO:=sH (fun(W:zB) (hb:zE w.heap.size w W)=>Q9f W V N m L asked (h.below hb) (fun b hn=>by have:=hN b hn; have:=hb.size; omega) (hbk.below hb) hin has x A n c A' n' c' B (hx.below (hb.mono hB)) (by have:=hb.size; omega) hap);obtain⟨g4,hg4⟩:∃ b,b=w.heap.size:=⟨_,rfl⟩;obtain⟨g5,hg5⟩:∃ b,b=w.heap.size+1:=⟨_,rfl⟩;obtain⟨p,hp⟩:∃ p,p=doV m x:=⟨_,rfl⟩;rw [<- hp] at HDO hdl ⊢;clear h hN hbk hin hx hX k3 k4 hy hyp hap hp;go_enter Tryz.func10,Tryz.ntmps10
 go_upto_region 1 with fail
 generalize zY (zY w _) _=w1 at HX K3 K4 hz1 ⊢;rw [<- hg5] at K4 ⊢;rw [<- hg4] at K3 ⊢;have hl3:=K3.out.lt;have hl4:=K4.out.lt;have hw1:w.heap.size<=w1.heap.size:=by omega
 have hgw4:w.heap.size<=g4:=by omega
 have hgw5:w.heap.size<=g5:=by omega
 clear hg4 hg5 hz1;go_wp2_with (refine Q0c (o:=⟨some 11,_,_,_,_,_⟩) rfl 31 (.tmp 4) rfl g4 0 10 rfl 31 _ (Q02 x A n c A' n' c') _ K3.out Tryz.underlying31 rfl rfl rfl (fun _ _=>by rw [zR]) ?_)
 refine(HDO.out w1 HX.out).mono ?_;rintro _ w2 ⟨Dc,rfl,⟨A3,q3,hDe,ho3⟩,hvd⟩;have hVh:∀ b,V.has b->b<w.heap.size:=fun b hb=>HNN.out b (HV.out.all b hb)
 have K42:=sH (hvd.only.blk K4.out (fun hb=>by have:=hVh _ hb; omega));have HY2:=sH (hvd.only.reads (HY.out.below (HX.out.mono hB) |>.more (show B<=w1.heap.size by omega)) (fun a h0 ha=>HYP.out a h0 ha));have HO2:=sH ho3;have HVD:=sH (Q1d.under HX.out hvd);have hs2:=hvd.only.size;obtain⟨q1,q2,q5,r3,q4⟩:=OwnB.reads ho3;have HR3:=sH r3;subst hDe;obtain⟨⟨pm,pa,pf⟩,hpe⟩:∃ r,r=p:=⟨_,rfl⟩;subst hpe;simp only at HVD HR3 HO2 hdl;clear hvd ho3 HDO r3 q4 hVh q1 q2;by_cases hz:pf=0
 ·have hzb:((pf:Int) == 0)=true:=by simp [hz]
  go_upto_region 2 with(refine Q00 (o:=⟨none,_,_,_,_,_⟩) rfl 34 (.tmp 7) (.tmp 13) rfl w2.heap.size 0 (aC pa.err A3 pa.data.length q3 pa.epoch) rfl rfl 34 (aC 0 none 0 0 0) (Blk.newAt rfl) (Q0F _ _ _ _ _) (by simp [aC]) (Q0X _ _ _ _ _) ?_; intro w5 hT5 hD5; rw [Q17] at hD5)
  have hb5:zE w2.heap.size w2 w5:=hT5.below ((zP _ _).alloc (zN _) _) (zN _);have K45:=sH (K42.out.below' hb5);have HD5:=sH hD5;have hs5:=hb5.size;have HSA:=sH (Q4Y pa.err y.err pa.epoch y.epoch A3 pa.data.length q3 none 0 0 D k d none 0 0 pa.data y.data [] [] w5 w2.heap.size (HR3.out.below hb5) Q04.none_ (HY2.out.below hb5) Q04.none_ hs5 (by unfold maxLen; omega) (by unfold maxLen; omega) (by unfold maxLen; omega) (by unfold maxLen; omega));have HVD5:=sH (HVD.out.below hb5);obtain⟨g6,hg6⟩:∃ g,g=w2.heap.size:=⟨_,rfl⟩;rw [<- hg6] at HD5 ⊢;clear hT5 hD5 hb5 hg6;have e1:aC pa.err A3 pa.data.length q3 pa.epoch=anC pa.err A3 pa.data.length q3 pa.epoch none 0 0:=rfl;have e2:aC y.err D k d y.epoch=anC y.err D k d y.epoch none 0 0:=rfl;rw [e1] at HD5;rw [e2] at K45;clear e1 e2;go_wp2_with (first
   | (refine Q20 (o:=⟨some 18,_,_,_,_,_⟩) rfl 34 (.tmp 7) rfl g6 0 4 rfl 34 _ (anC pa.err A3 pa.data.length q3 pa.epoch none 0 0) _ HD5.out Tryz.underlying34 rfl rfl rfl (fun _ _=>by rw [zR]) ?_)
   | (refine Q20 (o:=⟨some 19,_,_,_,_,_⟩) rfl 34 (.tmp 5) rfl g5 0 4 rfl 34 _ (anC y.err D k d y.epoch none 0 0) _ K45.out Tryz.underlying34 rfl rfl rfl (fun _ _=>by rw [zR]) ?_))
  refine HSA.out.mono ?_;rintro _ w6 ⟨rfl,hb6⟩;have HVD6:=sH (HVD5.out.below hb6);clear hb6 HSA;go_wp2_with fail
  go_ret
  refine⟨Q11 ?_,HVD6.out⟩;rw [Bool.eq_iff_iff];simp only [Bool.and_eq_true,decide_eq_true_eq];constructor
  ·rintro ⟨h1,h2,h3⟩; exact⟨hz,by omega,h2,by omega⟩
  rintro ⟨_,h1,h2,h3⟩; exact⟨by omega,h2,by omega⟩
 have hzb:((pf:Int) == 0)=false:=by simpa using hz
 have HZ:=sH hz;clear hz;go_upto_region 2 with(refine Q00 (o:=⟨none,_,_,_,_,_⟩) rfl 34 (.tmp 7) (.tmp 13) rfl w2.heap.size 0 (aC pa.err A3 pa.data.length q3 pa.epoch) rfl rfl 34 (aC 0 none 0 0 0) (Blk.newAt rfl) (Q0F _ _ _ _ _) (by simp [aC]) (Q0X _ _ _ _ _) ?_; intro w5 hT5 hD5; rw [Q17] at hD5)
 have HVD5:=sH (HVD.out.below (hT5.below ((zP _ _).alloc (zN _) _) (zN _)));clear hT5 hD5;go_wp2_with fail
 go_ret
 refine⟨Q11 ?_,HVD5.out⟩;rw [decide_eq_false];rintro ⟨h1,_⟩;exact HZ.out h1
end
section
def Q3s:Nat->List UInt8->Option (List Nat)
 | 0,b=>if b=[] then some [] else none
 | f+1,b=>if b=[] then some [] else if (tn b).2.2≠0 then none else(Q3s f (tn b).2.1).map (fun l=>(tn b).1 :: l)
def Q38 (b:List UInt8):Option (List Nat):=Q3s b.length b
theorem Q4y {b:List UInt8} (h:(tn b).2.2=0):(tn b).2.1.length+1<=b.length:=by
 unfold tn at h ⊢;cases hb:Q3f b with
 | error e =>
  rw [hb] at h;simp only at h;subst h
  exfalso
  unfold Q3f at hb;match b,hb with
  | [],hb=>injection hb with hb; omega
  | m :: r,hb =>
   simp only at hb;split at hb
   ·injection hb with hb; omega
   split at hb
   ·injection hb with hb; omega
   split at hb
   ·injection hb with hb; omega
   split at hb
   ·injection hb with hb; omega
   cases hb
 | ok p =>have h1:=Q3L (n:=p.1) (r:=p.2) hb;have h2:=congrArg List.length h1.1;rw [zO] at h2;have:=(Q0W h1.2).1;show p.2.length+1<=_;omega
theorem Q4p:∀ (f g:Nat) (b:List UInt8),b.length<=f->b.length<=g->Q3s f b=Q3s g b
 | 0,0,b,_,_=>rfl
 | 0,g+1,b,hf,_=>by have:b=[]:=zH (by omega);subst this;simp [Q3s]
 | f+1,0,b,_,hg=>by have:b=[]:=zH (by omega);subst this;simp [Q3s]
 | f+1,g+1,b,hf,hg=>by
  simp only [Q3s];by_cases hb:b=[]
  ·rw [if_pos hb,if_pos hb]
  rw [if_neg hb,if_neg hb];by_cases he:(tn b).2.2≠0
  ·rw [if_pos he,if_pos he]
  rw [if_neg he,if_neg he];have h1:=Q4y (b:=b) (by omega);rw [Q4p f g _ (by omega) (by omega)]
theorem Q9a:Q38 []=some []:=rfl
theorem Q9t {b:List UInt8} (hb:b≠[]) (he:(tn b).2.2≠0):Q38 b=none:=by
 unfold Q38;cases b with
 | nil=>exact absurd rfl hb
 | cons x t=>simp only [List.length_cons,Q3s,if_neg hb,if_pos he]
theorem Q8p {b:List UInt8} (hb:b≠[]) (he:(tn b).2.2=0):Q38 b=(Q38 (tn b).2.1).map (fun l=>(tn b).1 :: l):=by
 unfold Q38;cases b with
 | nil=>exact absurd rfl hb
 | cons x t =>have h1:=Q4y (b:=x :: t) he;simp only [List.length_cons,Q3s,if_neg hb];rw [if_neg (by omega),Q4p t.length (tn (x :: t)).2.1.length _ (by simp at h1; omega) (zN _)]
def Q0D (b:List UInt8):Option (Nat×List UInt8) :=
 if (tn b).2.2≠0 then none
 else if (ts (tn b).2.1 16).2.2≠0\/0<(ts (tn b).2.1 16).2.1.length\/(0<(ts (tn b).2.1 16).1.length/\((ts (tn b).2.1 16).1.length≠16\/(tn b).1=0)) then none
 else some ((tn b).1,(ts (tn b).2.1 16).1)
def Q0U (l:List Nat):Prop:=3<=l.length/\1<=l.getD 0 0/\l.getD 0 0<=2/\l.getD 1 0<=1048576/\l.getD 2 0+3=l.length/\¬ (l.getD 1 0=1048576/\0<l.getD 2 0)/\(l.length=3\/Q2g ((l.drop 3).map (fun n:Nat=>(n:Int)))=true)
instance (l:List Nat):Decidable (Q0U l):=by unfold Q0U; infer_instance
def Q2i (b:List UInt8):Option (List Nat):=match Q38 b with
 | none=>none
 | some l=>if Q0U l then some l else none
def Q4a (ls:LL) (l:List Nat):VM:=⟨l.getD 0 0,l.getD 1 0,ls.take 8,(List.range 4).map (fun i=>(Q0D (ls.getD (8+i) [])).getD (0,[])),(l.drop 3).map (fun n:Nat=>(n:Int))⟩
def Q26 (ls:LL):Option VM :=
 if ls.length=13/\(∀ i,i<8->(ls.getD i []).length=16)/\(∀ i,i<4->(Q0D (ls.getD (8+i) [])).isSome=true) then
  match Q2i (ls.getD 12 []) with
  | none=>none
  | some l=>some (Q4a ls l)
 else none
theorem Q7g {b:List UInt8} {p:Nat×List UInt8} (h:Q0D b=some p):p.1<=maxN/\(p.2=[]\/p.2.length=16/\0<p.1):=by
 unfold Q0D at h;split at h
 ·cases h
 split at h
 ·cases h
 rename_i h1 h2;have:=zX h;subst this;refine⟨Q7V b,?_⟩;rcases Nat.eq_zero_or_pos (ts (tn b).2.1 16).1.length with e | e
 ·exact .inl (zH e)
 right
 show (ts (tn b).2.1 16).1.length=16/\0<(tn b).1;omega
theorem Q7E {ls:LL} {l:List Nat} (h:ls.length=13) (hb:∀ i,i<8->(ls.getD i []).length=16) (hc:∀ i,i<4->(Q0D (ls.getD (8+i) [])).isSome=true) (hs:Q0U l):VOk (Q4a ls l):=by
 obtain⟨h1,h2,h3,h4,h5,h6,h7⟩:=hs;refine⟨⟨h2,h3⟩,h4,by show (ls.take 8).length=8; rw [List.length_take]; omega,?_,by simp [Q4a],?_,?_⟩
 ·intro b hb';obtain⟨i,hi,rfl⟩:=List.mem_iff_getElem.1 hb';have hi':i<8:=by simp [Q4a] at hi; omega
  have:=hb i hi';rw [zQ,zD (by omega)] at this;simpa [Q4a] using this
 ·intro x hx;obtain⟨i,hi,rfl⟩:=List.mem_map.1 hx;have hi':i<4:=by simpa using hi
  have:=hc i hi';cases hp:Q0D (ls.getD (8+i) []) with
  | none=>rw [hp] at this; cases this
  | some p=>exact Q7g hp
 show (l.drop 3).map (fun n:Nat=>(n:Int))=[]\/(Q2g ((l.drop 3).map (fun n:Nat=>(n:Int)))=true/\l.getD 1 0<1048576);rcases h7 with h7 | h7
 ·left
  have:l.drop 3=[]:=List.drop_eq_nil_of_le (by omega);rw [this]; rfl
 right
 refine⟨h7,?_⟩;have hp:=Q6b h7;rw [List.length_map,List.length_drop] at hp;omega
def Q2X:Nat->List UInt8->LL->LL×List UInt8×Nat
 | 0,b,acc=>(acc,b,0)
 | f+1,b,acc=>if (ts b 128).2.2≠0 then(acc,b,(ts b 128).2.2) else Q2X f (ts b 128).2.1 (acc++[(ts b 128).1])
def Q1u (b:List UInt8):Option VM×Nat :=
 let r:=Q2X 13 b []
 if r.2.2≠0 then(none,r.2.2) else if 0<r.2.1.length then(none,4) else match Q26 r.1 with
  | none=>(none,2)
  | some m=>(some m,0)
def Q27 (m:VM):List UInt8:=((Q01 m).map strB).flatten
end
section
open Go.RowKit Go.Maps
attribute [local irreducible] wpList Q0t
def LastVal (w:zB) (B:Nat) (D:Array zC) (p:Nat×List UInt8):Prop:=∃ A c,D=#[.int .i64 (p.1:Int),.slice A p.2.length c]/\OwnB w B (.slice A p.2.length c) p.2
def Q8j (w:zB) (o:Option (Nat×List UInt8)) (e:Ending) (w':zB):Prop:=∃ D,e=.returned (.tuple #[.agg D,.bool o.isSome])/\LastVal w' w.heap.size D (o.getD (0,[]))/\zE w.heap.size w w'
def Q1v:Array zC:=#[.int .i64 0,.slice none 0 0]
theorem Q6q (a b:zC):spl Q1v 0 [a,b]=#[a,b]:=rfl
def Q5P (k e2:Nat) (d r2:List UInt8):Prop:=e2≠0\/0<r2.length\/(0<d.length/\(d.length≠16\/k=0))
instance (k e2:Nat) (d r2:List UInt8):Decidable (Q5P k e2 d r2):=by unfold Q5P; infer_instance
theorem Q4B (A:Option zA) (n c:Nat) (xs:List UInt8) (w:zB) (B:Nat) (h:Q04 w B 1 A n (xs.map vb)) (hB:B<=w.heap.size) (hc:n<=c) (hcm:n<=140737488355328) :
 zJ zM 53 #[.slice A n c] w (Q8j w (Q0D xs)):=by
 have hX:=Q0a w (.cells Q1v 61);have hk0:Blk (w.alloc (.cells Q1v 61)) w.heap.size 61 Q1v:=Blk.newAt rfl;have HTN:=sH (Q36 A n c xs (w.alloc (.cells Q1v 61)) B (h.below (hX.mono hB)) (by have:=hX.size; omega) hc hcm);have hxn:xs.length=n:=by have:=h.1; simpa using this
 have hZ:Q1v=#[.int .i64 0,.slice none 0 0]:=rfl;obtain⟨o,ho⟩:∃ o,o=Q0D xs:=⟨_,rfl⟩;have hoe:o=if (tn xs).2.2≠0 then none else if (ts (tn xs).2.1 16).2.2≠0\/0<(ts (tn xs).2.1 16).2.1.length\/(0<(ts (tn xs).2.1 16).1.length/\((ts (tn xs).2.1 16).1.length≠16\/(tn xs).1=0)) then none else some ((tn xs).1,(ts (tn xs).2.1 16).1):=ho
 rw [<- ho];have htl:=Q80 xs;have htm:=Q7V xs;obtain⟨p,hp⟩:∃ p,p=tn xs:=⟨_,rfl⟩;rw [<- hp] at HTN hoe htl htm;obtain⟨k,r,e⟩:=p;simp only at HTN hoe htl htm;obtain⟨q,hq⟩:∃ q,q=ts r 16:=⟨_,rfl⟩;rw [<- hq] at hoe;have HQ:=sH hq;have HOE:=sH hoe;have HX:=sH hX;have HK:=sH hk0;have HTL:=sH htl;obtain⟨g2,hg2⟩:∃ g,g=w.heap.size:=⟨_,rfl⟩;have hgw:w.heap.size<=g2:=by omega
 unfold maxN at htm;clear h hX hk0 ho hoe hp hq htl;go_enter Tryz.func53,Tryz.ntmps53
 go_upto_region 1 with fail
 rw [<- hZ];generalize zY w _=w1 at HTN HX HK ⊢;rw [<- hg2] at HK ⊢;have hl:=HK.out.lt;have hs1:=HX.out.size;clear hg2 hZ;go_wp2_with fail
 refine HTN.out.mono ?_;rintro _ w2 ⟨v,rfl,ho,hb2⟩;obtain⟨A1,c1,hv,q1,q2,hr1,_⟩:=Q03 ho;subst hv;have HR1:=sH hr1;have HK2:=sH (HK.out.below' hb2);have HX2:=sH (HX.out.trans (hb2.mono hs1));have hs2:=hb2.size;clear ho hb2 hr1 HTN;by_cases he:e=0
 ·have heb:((e:Int) != 0)=false:=by simp [he]
  have HTS:=sH (Q34 A1 r.length c1 16 r w2 w2.heap.size HR1.out (zN _) q1 (by have:=HTL.out; omega) (by omega));rw [<- HQ.out] at HTS;obtain⟨d,r2,e2⟩:=q;simp only at HTS HOE;have HTS2:=sH (show zJ zM 56 #[.slice A1 r.length c1,.int .i64 16] w2 _ from HTS.out);have hoe2:o=if Q5P k e2 d r2 then none else some (k,d):=by have:=HOE.out;rw [if_neg (by omega)] at this;exact this
  have HOE2:=sH hoe2;clear hoe2 HTS;go_upto_region 4 with fail
  go_wp2_with fail
  refine HTS2.out.mono ?_;rintro _ w3 ⟨v,v',rfl,hod,hor,hb3⟩;obtain⟨A3,c3,hv,q3,q4,hr3,hge3⟩:=Q03 hod;obtain⟨A4,c4,hv',_,_,_,_⟩:=Q03 hor;subst hv hv';have HD3:=sH hod;have HK3:=sH (HK2.out.below' hb3);have HX3:=sH (HX2.out.trans (hb3.mono (by omega)));have hs3:=hb3.size;obtain⟨dl,hdl⟩:∃ k,k=d.length:=⟨_,rfl⟩;obtain⟨rl,hrl⟩:∃ k,k=r2.length:=⟨_,rfl⟩;rw [<- hdl,<- hrl];have HDL:=sH hdl;have HRL:=sH hrl;clear hod hor hb3 hr3 HTS2 hdl hrl heb hge3;by_cases h1:e2=0
  ·have h1b:((e2:Int) != 0)=false:=by simp [h1]
   subst h1;by_cases h2:rl=0
   ·subst h2;by_cases h3:dl=0
    ·subst h3;have ho:o=some (k,d):=by
      rw [HOE2.out,if_neg];unfold Q5P;rw [<- HDL.out,<- HRL.out];omega
     subst ho;go_wp2_with (refine Q00 (o:=⟨none,_,_,_,_,_⟩) rfl 61 (.tmp 2) (.tmp 47) rfl g2 0 #[.int .i64 (k:Int),.slice A3 0 c3] rfl rfl 61 _ HK3.out (by kernel_rfl) (by simp [Q1v]) (by simp [zS]) ?_; intro w9 hT9 hD9)
     refine bodyPost_ret (Q07 rfl _ _ g2 2 61 _ _ rfl hD9 Tryz.underlying61 rfl rfl rfl) rfl ⟨_,rfl,⟨A3,c3,by show _=#[Value.int .i64 (k:Int),Value.slice A3 d.length c3]; rw [<- HDL.out]; exact Q6q _ _,?_⟩,hT9.below HX3.out hgw⟩;exact(HD3.out.more (by omega)).keep fun b hb=>hT9.block b (fun e=>by have:=HD3.out.ge hb; omega)
    have h3b:(0:Int)<(dl:Int):=by omega
    by_cases h4:dl=16
    ·subst h4;by_cases h5:k=0
     ·subst h5;have ho:o=none:=by
       rw [HOE2.out,if_pos];unfold Q5P;rw [<- HDL.out,<- HRL.out];omega
      subst ho;go_wp2_with (refine Q00 (o:=⟨none,_,_,_,_,_⟩) rfl 61 (.tmp 2) (.tmp 44) rfl g2 0 Q1v rfl rfl 61 _ HK3.out (by kernel_rfl) (by simp [Q1v]) (by simp [Q1v,zS]) ?_; intro w9 hT9 hD9)
      refine bodyPost_ret (Q07 rfl _ _ g2 2 61 _ _ rfl hD9 Tryz.underlying61 rfl rfl rfl) rfl ⟨_,rfl,⟨none,0,rfl,OwnB.nil _ _⟩,hT9.below HX3.out hgw⟩
     have h5b:((k:Int) == 0)=false:=by simpa using h5
     have ho:o=some (k,d):=by rw [HOE2.out,if_neg];unfold Q5P;rw [<- HDL.out,<- HRL.out];omega
     subst ho;go_wp2_with (refine Q00 (o:=⟨none,_,_,_,_,_⟩) rfl 61 (.tmp 2) (.tmp 47) rfl g2 0 #[.int .i64 (k:Int),.slice A3 16 c3] rfl rfl 61 _ HK3.out (by kernel_rfl) (by simp [Q1v]) (by simp [zS]) ?_; intro w9 hT9 hD9)
     refine bodyPost_ret (Q07 rfl _ _ g2 2 61 _ _ rfl hD9 Tryz.underlying61 rfl rfl rfl) rfl ⟨_,rfl,⟨A3,c3,by show _=#[Value.int .i64 (k:Int),Value.slice A3 d.length c3]; rw [<- HDL.out]; exact Q6q _ _,?_⟩,hT9.below HX3.out hgw⟩;exact(HD3.out.more (by omega)).keep fun b hb=>hT9.block b (fun e=>by have:=HD3.out.ge hb; omega)
    have h4b:((dl:Int) != 16)=true:=by simp; omega
    have ho:o=none:=by rw [HOE2.out,if_pos];unfold Q5P;rw [<- HDL.out,<- HRL.out];omega
    subst ho;go_wp2_with (refine Q00 (o:=⟨none,_,_,_,_,_⟩) rfl 61 (.tmp 2) (.tmp 44) rfl g2 0 Q1v rfl rfl 61 _ HK3.out (by kernel_rfl) (by simp [Q1v]) (by simp [Q1v,zS]) ?_; intro w9 hT9 hD9)
    refine bodyPost_ret (Q07 rfl _ _ g2 2 61 _ _ rfl hD9 Tryz.underlying61 rfl rfl rfl) rfl ⟨_,rfl,⟨none,0,rfl,OwnB.nil _ _⟩,hT9.below HX3.out hgw⟩
   have h2b:(0:Int)<(rl:Int):=by omega
   have ho:o=none:=by rw [HOE2.out,if_pos];unfold Q5P;rw [<- HDL.out,<- HRL.out];omega
   subst ho;go_wp2_with (refine Q00 (o:=⟨none,_,_,_,_,_⟩) rfl 61 (.tmp 2) (.tmp 44) rfl g2 0 Q1v rfl rfl 61 _ HK3.out (by kernel_rfl) (by simp [Q1v]) (by simp [Q1v,zS]) ?_; intro w9 hT9 hD9)
   refine bodyPost_ret (Q07 rfl _ _ g2 2 61 _ _ rfl hD9 Tryz.underlying61 rfl rfl rfl) rfl ⟨_,rfl,⟨none,0,rfl,OwnB.nil _ _⟩,hT9.below HX3.out hgw⟩
  have h1b:((e2:Int) != 0)=true:=by simpa using h1
  have ho:o=none:=by rw [HOE2.out,if_pos];unfold Q5P;rw [<- HDL.out,<- HRL.out];omega
  subst ho;go_wp2_with (refine Q00 (o:=⟨none,_,_,_,_,_⟩) rfl 61 (.tmp 2) (.tmp 44) rfl g2 0 Q1v rfl rfl 61 _ HK3.out (by kernel_rfl) (by simp [Q1v]) (by simp [Q1v,zS]) ?_; intro w9 hT9 hD9)
  refine bodyPost_ret (Q07 rfl _ _ g2 2 61 _ _ rfl hD9 Tryz.underlying61 rfl rfl rfl) rfl ⟨_,rfl,⟨none,0,rfl,OwnB.nil _ _⟩,hT9.below HX3.out hgw⟩
 have heb:((e:Int) != 0)=true:=by simpa using he
 have ho:o=none:=by rw [HOE.out,if_pos he]
 subst ho;go_wp2_with (refine Q00 (o:=⟨none,_,_,_,_,_⟩) rfl 61 (.tmp 2) (.tmp 16) rfl g2 0 Q1v rfl rfl 61 _ HK2.out (by kernel_rfl) (by simp [Q1v]) (by simp [Q1v,zS]) ?_; intro w9 hT9 hD9)
 refine bodyPost_ret (Q07 rfl _ _ g2 2 61 _ _ rfl hD9 Tryz.underlying61 rfl rfl rfl) rfl ⟨_,rfl,⟨none,0,rfl,OwnB.nil _ _⟩,hT9.below HX2.out hgw⟩
theorem Q5K:(Tryz.prog.info? 28).map (fun i=>(i.zero,i.size,i.bytes))=some (some (.slice none 0 0),1,24):=by kernel_rfl
structure OwnL (w:zB) (B0:Nat) (v:zC) (xss:LL) (vs:List zC):Prop where
 row:w.ownsRow B0 28 1 v xss.length vs
 at_:∀ (k:Nat) (x:List UInt8),xss[k]?=some x->∃ u,vs[k]?=some u/\OwnB w B0 u x
theorem Q4f {w:zB} {B:Nat} {u:zC} {x:List UInt8} (h:OwnB w B u x) {b:Nat} (hb:u.ownBlock=some b):∃ cur,Blk w b 5 cur:=by
 rcases h.2 with⟨rfl,_⟩ | ⟨g,cap,cur,rfl,hg,hh,_⟩
 ·simp [Value.ownBlock] at hb
 simp [Value.ownBlock] at hb; subst hb; exact⟨cur,hh⟩
theorem OwnL.nil (w:zB) (B0:Nat):OwnL w B0 (.slice none 0 0) [] []:=⟨World.ownsRow_nil _ _ _ _,fun k x h=>by simp at h⟩
theorem OwnL.slice {w:zB} {B0:Nat} {v:zC} {xss:LL} {vs:List zC} (h:OwnL w B0 v xss vs):∃ A c,v=.slice A xss.length c/\xss.length<=c/\c<=maxLen/\Q3v w w.heap.size A xss.length xss/\(∀ a,A=some a->B0<=a.block):=by
 have hr:=fun A c (hv:v=.slice A xss.length c)=>Q04.of_own (A:=A) (c:=c) (by rw [<- hv]; exact h.row)
 have hrow:∀ A,Q04 w w.heap.size 1 A xss.length vs->Q3v w w.heap.size A xss.length xss:=fun A hrd=>⟨rfl,fun h0=>by obtain⟨ad,rfl,hlt,hc⟩:=hrd.2 h0;refine⟨ad,rfl,hlt,fun k x hx=>?_⟩;obtain⟨u,h1,h2⟩:=h.at_ k x hx;obtain⟨Ak,ck,rfl,_,_,h3,_⟩:=Q03 h2;exact⟨Ak,x.length,ck,hc k _ h1,h3⟩⟩
 rcases h.row.2 with⟨rfl,h0⟩ | ⟨g,cap,cur,rfl,hg,_,h1,h2,_⟩
 ·exact⟨none,0,by rw [h0],by omega,by unfold maxLen; omega,hrow _ (hr none 0 (by rw [h0])),fun _ h=>by cases h⟩
 exact⟨_,cap,rfl,h1,h2,hrow _ (hr _ _ rfl),fun ad h=>by injection h with h; subst h; exact hg⟩
theorem OwnL.push {w w3 w6:zB} {B0:Nat} {v v6 u:zC} {xss:LL} {vs:List zC} {x:List UInt8} (h:OwnL w B0 v xss vs) (hb:zE w.heap.size w w3) (hu:OwnB w3 B0 u x) (hown:w6.ownsRow B0 28 1 v6 (xss.length+1) (vs++[u])) (hg:(w3.alloc (.cells #[u] 28)).grownBy w6 v.ownBlock):OwnL w6 B0 v6 (xss++[x]) (vs++[u]):=by
 have hl:vs.length=xss.length:=by have:=h.row.1; omega
 have hal:zE w3.heap.size w3 (w3.alloc (.cells #[u] 28)):=Q0a _ _;have hkeep:∀ y z,OwnB w3 B0 y z->OwnB w6 B0 y z:=fun y z hy=>(hy.below hal).keep fun b hb'=>by
  obtain⟨cur,hcur⟩:=Q4f hy hb';refine hg.block b (by have:=hy.lt hb'; have:=hal.size; omega) fun e=>?_
  have hr3:w3.ownsRow B0 28 1 v xss.length vs:=Q15 h.row fun b hb''=>hb.block b (Q10 h.row hb'').2
  exact Q2T hr3 hcur (by decide) e.symm
 refine⟨by rw [zO]; exact hown,fun k z hz=>?_⟩;rcases zF k xss.length with hk | hk
 ·rw [List.getElem?_append_left hk] at hz;obtain⟨y,h1,h2⟩:=h.at_ k z hz;exact⟨y,by rw [List.getElem?_append_left (by omega)]; exact h1,hkeep _ _ (h2.below hb)⟩
 have hk2:k=xss.length:=by
  rcases zF xss.length k with h1 | h1
  ·rw [List.getElem?_eq_none (by simp; omega)] at hz; cases hz
  omega
 subst hk2;rw [List.getElem?_append_right (by omega),Nat.sub_self] at hz;have hzx:x=z:=zX hz;subst hzx;exact⟨u,by rw [List.getElem?_append_right (by omega),hl,Nat.sub_self]; rfl,hkeep _ _ hu⟩
def LvPost (w:zB) (m:VM) (e:Ending) (w':zB):Prop:=∃ v vs,e=.returned v/\OwnL w' w.heap.size v (Q01 m) vs/\zE w.heap.size w w'
theorem Q2w (w:zB) (V:VLoc) (N:Nat->Prop) (m:VM) (h:VAt w V N m) :
 zJ zM 14 #[.pointer (some ⟨V.g,0,none⟩)] w (LvPost w m):=by
 obtain⟨S,hd⟩:=h.dat;have HN:=sH (Q1C w V.g V.T.t h.none_);have HL:=sH (fun(i:Nat) (hi:i<13) (W:zB) (hb:zE w.heap.size w W)=>Q6a W V.g i _ N m S (hd.below hb) hi);have hlen:=Q0k m;have HLN:=sH hlen;obtain⟨i0,hi0,hz0,hz1,hz2⟩:=info_parts Q5K;clear h hd hlen;go_enter Tryz.func14,Tryz.ntmps14
 go_wp2_with fail
 refine HN.out.mono ?_;rintro _ _ ⟨rfl,rfl⟩;go_wp2_with fail
 go_loopw [3,7] (fun ov iv wr=>∃ (i:Nat) (vs:List zC),i<=13/\iv=.int .i64 i/\OwnL wr w.heap.size ov ((Q01 m).take i) vs/\zE w.heap.size w wr) (fun _ iv _=>13 - (intOf iv).toNat)
 case atStart=>exact⟨0,[],by omega,rfl,OwnL.nil _ _,zP _ _⟩
 obtain⟨i,vs,hi,rfl,hov,hbel⟩:=hrel;have HOV:=sH hov;have HB:=sH hbel;have hsz:=hbel.size;by_cases hin:i<13
 ·have hinI:(i:Int)<13:=by omega
  have htl:((Q01 m).take i).length=i:=by rw [List.length_take,HLN.out]; omega
  have HTL:=sH htl;have HLF:=sH (HL.out i hin wr hbel);have htk:(Q01 m).take (i+1)=(Q01 m).take i++[Q0G m i]:=by have hl:=HLN.out;have hg:=Q1X m i hin;rw [zD (by omega)] at hg;rw [zW (by omega),zX hg]
  have HTK:=sH htk;clear hov hbel htl htk;generalize Q0G m i=x at HLF HTK;go_wp2_with fail
  refine HLF.out.mono ?_;rintro _ w3 ⟨u0,rfl,hu,hb3⟩;obtain⟨Au,cu,hue,_⟩:=Q03 hu;subst hue;obtain⟨nu,hnu⟩:∃ k,k=x.length:=⟨_,rfl⟩;rw [<- hnu] at hu ⊢;obtain⟨u,hu0⟩:∃ u,u=Value.slice Au nu cu:=⟨_,rfl⟩;rw [<- hu0] at hu;have HU:=sH (hu.more hsz);have HB3:=sH hb3;have hs3:=hb3.size;have hr3:=Q0m w3 #[u] 28;have HR3:=sH hr3;have HU0:=sH hu0;have HW:=sH (show (w3.alloc (.cells #[u] 28)).ownsRow w.heap.size 28 1 _ i vs from by have:=(Q15 HOV.out.row (w':=w3) fun b hb''=>hb3.block b (Q10 HOV.out.row hb'').2).alloc (.cells #[u] 28);rw [HTL.out] at this;exact this)
  rw [hu0] at HW HR3;clear hu hb3 hr3 HLF hnu hu0;go_wp2_with (at_builtin; go_must (refine Q06 _ rfl (.tmp 10) (.tmp 14) 43 rfl w.heap.size 28 i0 _ 1 24 Tryz.underlying43 hi0 hz0 hz1 hz2 rfl (by omega) _ i vs rfl HW.out (w3.heap.size+1) (some ⟨w3.heap.size,0,none⟩) 1 1 [.slice Au nu cu] rfl HR3.out ?c1 ?c2 ?c3 ?c4 ?_))
  case c1=>intro z hz; rw [zZ] at hz; subst hz; rfl
  case c2=>unfold maxLen; omega
  case c3=>omega
  case c4=>simp; omega
  intro v6 w6 hown6 hg6 hor6;rw [<- HU0.out] at hown6 hg6;have ho6:OwnL w6 w.heap.size v6 ((Q01 m).take (i+1)) (vs++[u]):=by rw [HTK.out];exact HOV.out.push HB3.out HU.out (by rw [HTL.out]; exact hown6) hg6
  have hb6:zE w.heap.size w w6:=Q0p ((HB.out.trans (HB3.out.mono hsz)).trans ((Q0a w3 (.cells #[u] 28)).mono (by omega))) (by simp; omega) hg6 (fun b hb=>(Q10 HOV.out.row hb).1);have HO6:=sH ho6;have HB6:=sH hb6;clear hown6 hg6 hor6 ho6 hb6;go_wp2_with fail
  go_roundw
  case rel=>exact⟨i+1,_,by omega,by go_num,HO6.out,HB6.out⟩
  case measure=>simp [intOf]; omega
 obtain rfl:i=13:=by omega
 have hinI:¬ (13:Int)<13:=by omega
 have he:(Q01 m).take 13=Q01 m:=zU (by rw [HLN.out]; omega);rw [he] at HOV;clear hov hbel he;go_wp2_with fail
 go_ret
 exact⟨_,_,rfl,HOV.out,HB.out⟩
def nI (l:List Nat):List Int:=l.map (fun n:Nat=>(n:Int))
theorem Q1A (l:List Nat):(nI l).length=l.length:=by simp [nI]
def SealPost (w:zB) (o:Option (List Nat)) (e:Ending) (w':zB):Prop:=∃ v ys,e=.returned (.tuple #[v,.bool o.isSome])/\OwnN w' w.heap.size v ys/\(∀ l,o=some l->ys=nI l)/\zE w.heap.size w w'
theorem OwnN.nil_ (w:zB) (B:Nat):OwnN w B (.slice none 0 0) []:=⟨by simp,.inl ⟨rfl,by simp⟩⟩
theorem OwnN.keep_ {w w':zB} {B:Nat} {v:zC} {xs:List Int} (h:OwnN w B v xs) (hk:∀ b,v.ownBlock=some b->w'.heap[b]?=w.heap[b]?):OwnN w' B v xs:=Q15 h hk
theorem OwnN.below_ {w w':zB} {B:Nat} {v:zC} {xs:List Int} (h:OwnN w B v xs) (hb:zE w.heap.size w w'):OwnN w' B v xs:=h.keep_ fun b hb'=>hb.block b (Q10 h hb').2
structure PsSt (w:zB) (xs:List UInt8) (n0:Nat) (A:Option zA) (n c:Nat) (lv:zC) (rest:List UInt8) (done:List Nat) (wr:zB):Prop where
 rd:Q04 wr wr.heap.size 1 A n (rest.map vb)
 cap:n<=c
 own:OwnN wr w.heap.size lv (nI done)
 len:done.length+n<=n0
 num:Q38 xs=(Q38 rest).map (fun l=>done++l)
 max:∀ x,x∈done->x<=maxN
 low:zE w.heap.size w wr
def badS (l:List Nat):Prop:=l.length<3\/l.getD 0 0<1\/2<l.getD 0 0\/1048576<l.getD 1 0\/l.getD 2 0+3≠l.length\/(l.getD 1 0=1048576/\0<l.getD 2 0)
instance (l:List Nat):Decidable (badS l):=by unfold badS; infer_instance
theorem Q7t {l:List Nat} (h:badS l):¬ Q0U l:=by
 unfold badS at h;unfold Q0U;rintro ⟨h1,h2,h3,h4,h5,h6,h7⟩;rcases h with e | e | e | e | e | e
 iterate 5 ·omega
 exact h6 e
theorem Q8G {l:List Nat} (h:¬ badS l):Q0U l <-> (l.length=3\/Q2g (nI (l.drop 3))=true):=by
 unfold badS at h;unfold Q0U nI;constructor
 ·exact fun hh=>hh.2.2.2.2.2.2
 intro h7;refine⟨by omega,by omega,by omega,by omega,by omega,fun e=>h ?_,h7⟩;exact .inr (.inr (.inr (.inr (.inr e))))
def Q4H (g:Nat) (l:List Int):Wish:=⟨0,0,(g:Int),0,5,0,[],0,0,l⟩
theorem Q63 {g:Nat} (h1:1<=g) (h2:g<=2) (l:List Int):mayB (Q4H g l)=Q2g l:=by
 rw [Bool.eq_iff_iff];unfold mayB;rw [decide_eq_true_eq];unfold MayP;constructor
 ·rintro ⟨_,_,h | h⟩
  ·exact h.2.2.2.2.2.2.2.2.2
  exact absurd rfl h.1
 intro h;exact⟨show (0:Int)<=0 by decide,show (0:Int)<=1048576 by decide,.inl ⟨rfl,rfl,rfl,rfl,rfl,rfl,rfl,by show (1:Int)<=(g:Int); omega,by show (g:Int)<=2; omega,h⟩⟩
theorem Q5k (A:Option zA) (n c:Nat) (xs:List UInt8) (w:zB) (B:Nat) (h:Q04 w B 1 A n (xs.map vb)) (hB:B<=w.heap.size) (hc:n<=c) (hn:n<=1000000000000) :
 zJ zM 54 #[.slice A n c] w (SealPost w (Q2i xs)):=by
 obtain⟨o,ho⟩:∃ o,o=Q2i xs:=⟨_,rfl⟩;rw [<- ho];have HO:=sH ho;have HST:=sH (show PsSt w xs n A n c (.slice none 0 0) xs [] w from⟨h.more hB,hc,OwnN.nil_ _ _,by simp,by cases Q38 xs <;> rfl,fun x hx=>by simp at hx,zP _ _⟩);obtain⟨i0,hi0,hz0,hz1,hz2⟩:=info_parts Q9e;obtain⟨n0,hn0⟩:∃ k,k=n:=⟨_,rfl⟩;rw [<- hn0] at hn;have HST2:=sH (show PsSt w xs n0 A n c (.slice none 0 0) xs [] w from hn0▸HST.out);clear h ho HST hc hn0;go_enter Tryz.func54,Tryz.ntmps54
 go_wp2_with fail
 go_loopw [0,2] (fun bv lv wr=>∃ (A:Option zA) (n c:Nat) (rest:List UInt8) (done:List Nat),bv=.slice A n c/\PsSt w xs n0 A n c lv rest done wr) (fun bv _ _=>(match bv with | .slice _ n _=>n | _=>0))
 case atStart=>exact⟨_,_,_,_,_,rfl,HST2.out⟩
 obtain⟨A,n,c,rest,done,rfl,hps⟩:=hrel;have HPS:=sH hps;have hrl:rest.length=n:=by have:=hps.rd.1; simpa using this
 have HRL:=sH hrl;have hsz:=hps.low.size;have hlen:=hps.len;clear hps hrl;by_cases h0:n=0
 ·subst h0;have hre:rest=[]:=zH (by have:=HRL.out; omega);have hnum:Q38 xs=some done:=by
   have:=HPS.out.num;rw [hre] at this;rw [this];simp [Q9a]
  have hoe:o=if Q0U done then some done else none:=by rw [HO.out]; unfold Q2i; rw [hnum]
  have HOE:=sH hoe;have HOWN:=sH HPS.out.own;have HMAX:=sH HPS.out.max;have HLOW:=sH HPS.out.low;obtain⟨m,hm⟩:∃ m,m=done.length:=⟨_,rfl⟩;have HM:=sH hm;have hml:m<=n0:=by omega
  clear hre hnum hoe HPS HRL HO hlen hm;by_cases h3:m<3
  ·have h3b:(m:Int)<3:=by omega
   have ho:o=none:=by rw [HOE.out,if_neg (Q7t (.inl (by rw [<- HM.out]; exact h3)))]
   obtain⟨Al,cl,hlv,_⟩:=Q1r HOWN.out;rw [Q1A,<- HM.out] at hlv;subst hlv;subst ho;go_wp2_with fail
   go_ret2
   exact⟨_,[],rfl,OwnN.nil_ _ _,(fun l hl=>by cases hl),HLOW.out⟩
  have h3b:¬ (m:Int)<3:=by omega
  obtain⟨g,cl,hlv,hgw,hcl,hrd⟩:∃ g cl,u2=.slice (some ⟨g,0,none⟩) m cl/\w.heap.size<=g/\m<=cl/\Q04 wr wr.heap.size 1 (some ⟨g,0,none⟩) m ((nI done).map vn):=by
   have hown:=HOWN.out;obtain⟨Al,cl,hlv,q1,_,q3,q4⟩:=Q1r hown;rw [Q1A,<- HM.out] at hlv q1 q3;rcases hown.2 with⟨hv,h0'⟩ | ⟨g,cap,cur,hv,hg,_⟩
   ·rw [Q1A,<- HM.out] at h0'; omega
   rw [Q1A,<- HM.out] at hv;rw [hv] at hlv;injection hlv with e1 e2 e3
   exact⟨g,cl,by rw [hv,e3],hg,q1,e1▸q3⟩
  subst hlv;have cell:∀ j,j<m->wr.cell? ⟨g,j,none⟩=some (.int .i64 ((done.getD j 0:Nat):Int)):=fun j hj=>by
   obtain⟨ad,hA,_,hc⟩:=hrd.2 (by omega);injection hA with hA
   subst hA;have:=hc j (.int .i64 ((done.getD j 0:Nat):Int)) (by
    have hjd:j<done.length:=by rw [<- HM.out]; exact hj
    unfold nI;rw [zK,zK,zD hjd,zQ,zD hjd]; rfl)
   rw [Q1s,zR] at this;exact this
  have c0:=cell 0 (by omega);have c1:=cell 1 (by omega);have c2:=cell 2 (by omega);have HRD:=sH hrd;obtain⟨l0,hl0⟩:∃ k,k=done.getD 0 0:=⟨_,rfl⟩;obtain⟨l1,hl1⟩:∃ k,k=done.getD 1 0:=⟨_,rfl⟩;obtain⟨l2,hl2⟩:∃ k,k=done.getD 2 0:=⟨_,rfl⟩;rw [<- hl0] at c0;rw [<- hl1] at c1;rw [<- hl2] at c2;have HBD:=sH (show badS done <-> (l0<1\/2<l0\/1048576<l1\/l2+3≠m\/(l1=1048576/\0<l2)) from by unfold badS;rw [<- hl0,<- hl1,<- hl2,<- HM.out];omega)
  have HL0:=sH hl0;have C0:=sH c0;have hgc:0<m:=by omega
  have hgc1:1<m:=by omega
  have hgc2:2<m:=by omega
  have hgcI:(0:Int)<(m:Int):=by omega
  have hgc1I:(1:Int)<(m:Int):=by omega
  have hgc2I:(2:Int)<(m:Int):=by omega
  clear cell hrd hl0 hl1 hl2;go_upto_region 7 with fail
  go_cut [65] (fun s65 wx=>s65=.bool (decide (badS done))/\wx=wr)
  case first =>
   by_cases b0:l0<1
   ·have b0b:(l0:Int)<1:=by omega
    go_wp2_with fail
    go_meet
    exact⟨by rw [decide_eq_true (HBD.out.2 (by omega))],rfl⟩
   have b0b:¬ (l0:Int)<1:=by omega
   by_cases b1:2<l0
   ·have b1b:(2:Int)<(l0:Int):=by omega
    go_wp2_with fail
    go_meet
    exact⟨by rw [decide_eq_true (HBD.out.2 (by omega))],rfl⟩
   have b1b:¬ (2:Int)<(l0:Int):=by omega
   by_cases b2:1048576<l1
   ·have b2b:(1048576:Int)<(l1:Int):=by omega
    go_wp2_with fail
    go_meet
    exact⟨by rw [decide_eq_true (HBD.out.2 (by omega))],rfl⟩
   have b2b:¬ (1048576:Int)<(l1:Int):=by omega
   by_cases b3:l2+3=m
   ·have b3b:((l2:Int) != (m:Int) - 3)=false:=by simp; omega
    have B3:=sH b3;clear b3;by_cases b4:l1=1048576
    ·have b4b:((l1:Int) == 1048576)=true:=by simp [b4]
     have B4:=sH b4;clear b4;by_cases b5:0<l2
     ·have b5b:(0:Int)<(l2:Int):=by omega
      go_wp2_with fail
      go_meet
      exact⟨by rw [decide_eq_true (HBD.out.2 (by have:=B3.out; have:=B4.out; omega))],rfl⟩
     have b5b:¬ (0:Int)<(l2:Int):=by omega
     go_wp2_with fail
     go_meet
     exact⟨by rw [decide_eq_false (fun hh=>by have:=HBD.out.1 hh; have:=B3.out; omega)],rfl⟩
    have b4b:((l1:Int) == 1048576)=false:=by simp; omega
    go_wp2_with fail
    go_meet
    exact⟨by rw [decide_eq_false (fun hh=>by have:=HBD.out.1 hh; have:=B3.out; omega)],rfl⟩
   have b3b:((l2:Int) != (m:Int) - 3)=true:=by simp; omega
   go_wp2_with fail
   go_meet
   exact⟨by rw [decide_eq_true (HBD.out.2 (by omega))],rfl⟩
  obtain⟨rfl,rfl⟩:=hcut;by_cases hbad:badS done
  ·have ho:o=none:=by rw [HOE.out,if_neg (Q7t hbad)]
   rw [decide_eq_true hbad];subst ho;clear c0 c1 c2;go_wp2_with fail
   go_ret2
   exact⟨_,[],rfl,OwnN.nil_ _ _,(fun l hl=>by cases hl),HLOW.out⟩
  have hgs:=Q8G hbad;have hlb:¬ (l0<1\/2<l0\/1048576<l1\/l2+3≠m\/(l1=1048576/\0<l2)):=fun hh=>hbad (HBD.out.2 hh)
  have hl01:1<=l0/\l0<=2:=by omega
  rw [decide_eq_false hbad];clear c0 c1 c2;have HSF:=sH (fun(W:zB)=>Q0L (P:=zM) (t:=29) (e:=3) Tryz.underlying29 (by kernel_rfl) (some ⟨g,0,none⟩) m cl 3 3 rfl (by omega) W);obtain⟨A7,hA7⟩:∃ A7,A7=(if cl=3 then(some (⟨g,0,none⟩:zA)) else(some (⟨g,0,none⟩:zA)).map (·.add 3)):=⟨_,rfl⟩;rw [<- hA7] at HSF;have hrdn:Q04 wc wc.heap.size 1 A7 (m - 3) ((nI (done.drop 3)).map vn):=by
   have:=HRD.out.sub (l:=3) (k:=m) (cap:=cl) (by omega) (zN _) hcl;rw [Nat.mul_one,Nat.mul_one] at this;rw [<- hA7] at this;have e:(((nI done).map vn).drop 3).take (m - 3)=(nI (done.drop 3)).map vn:=by rw [zU (by rw [List.length_drop,List.length_map,Q1A,<- HM.out]; omega)];unfold nI;rw [List.map_drop,List.map_drop]
   rw [e] at this;exact this
  have HRN:=sH hrdn;have hlow:=HLOW.out.size;have hdl3:(nI (done.drop 3)).length=m - 3:=by rw [Q1A,List.length_drop,<- HM.out]
  have HDL3:=sH hdl3;have HGS:=sH hgs;clear hrdn hdl3 hgs hbad hlb hA7;obtain⟨m3,hm3⟩:∃ k,k=m - 3:=⟨_,rfl⟩;by_cases h4:m=3
  ·have ho:o=some done:=by rw [HOE.out,if_pos (HGS.out.2 (.inl (by rw [<- HM.out]; exact h4)))]
   subst ho;rw [<- hm3] at HSF HRN HDL3;obtain rfl:m3=0:=by omega
   subst h4;clear hm3;go_wp2_with (refine Q2B (o:=⟨some 67,_,_,_,_,_⟩) rfl (.slice A7 0 (cl - 3)) (by have h:=HSF.out wc; go_simp) ?_)
   go_ret2
   exact⟨_,_,rfl,HOWN.out,(fun l hl=>by rw [<- zX hl]),HLOW.out⟩
  have HCK:=sH (fun(W:zB) (hb:zE wc.heap.size wc W)=>Q4Q (Q4H l0 (nI (done.drop 3))) none 0 0 A7 (m - 3) (cl - 3) W wc.heap.size ⟨Q04.none_,by simp,by simp,HRN.out.below hb,by omega,by omega,⟨by show I64 0; unfold I64; omega,by show I64 0; unfold I64; omega,by show I64 (l0:Int); unfold I64; omega,by show I64 0; unfold I64; omega,by show I64 5; unfold I64; omega,by show I64 0; unfold I64; omega,by show I64 0; unfold I64; omega,by show I64 0; unfold I64; omega,fun z hz=>by obtain⟨k,hk,rfl⟩:=List.mem_map.1 hz;have:=HMAX.out k (List.mem_of_mem_drop hk);unfold maxN at this;unfold I64; omega⟩⟩ hb.size)
  rw [Q63 hl01.1 hl01.2] at HCK;obtain⟨cb,hcb⟩:∃ b,b=Q2g (nI (done.drop 3)):=⟨_,rfl⟩;rw [<- hcb] at HCK;have ho:o=if cb=true then some done else none:=by
   rw [HOE.out];have:Q0U done <-> cb=true:=by
    rw [HGS.out,hcb];constructor
    ·rintro (e | e)
     ·rw [<- HM.out] at e; exact absurd e h4
     exact e
    exact fun e=>.inr e
   by_cases hg:Q0U done
   ·rw [if_pos hg,if_pos (this.1 hg)]
   rw [if_neg hg,if_neg (fun e=>hg (this.2 e))]
  have HOF:=sH ho;rw [<- hm3] at HSF HRN HDL3 HCK;have hm30:((m3:Int) == 0)=false:=by simp; omega
  have HM3:=sH hm3;have c0:=C0.out;clear ho hcb hm3 h4;unfold Q4H Q02 at HCK;go_wp2_with (refine Q2B (o:=⟨some 67,_,_,_,_,_⟩) rfl (.slice A7 m3 (cl - 3)) (by have h:=HSF.out wc; go_simp) ?_)
  refine(HCK.out wc (zP _ _)).mono ?_;rintro _ w5 ⟨rfl,hb5⟩;have HO5:=sH (HOWN.out.below_ hb5);have HL5:=sH (HLOW.out.trans (hb5.mono hlow));clear hb5 HCK c0;cases cb with
  | true =>
   have ho:o=some done:=HOF.out;subst ho;simp only [if_true];go_wp2_with fail
   go_ret2
   exact⟨_,_,rfl,HO5.out,(fun l hl=>by rw [<- zX hl]),HL5.out⟩
  | false =>
   have ho:o=none:=HOF.out;subst ho;simp only [Bool.false_eq_true,if_false];go_wp2_with fail
   go_ret2
   exact⟨_,_,rfl,HO5.out,(fun l hl=>by cases hl),HL5.out⟩
 have h0b:(0:Int)<(n:Int):=by omega
 have hne:rest≠[]:=by intro e; have:=HRL.out; rw [e] at this; simp at this; omega
 have HTN:=sH (Q36 A n c rest wr wr.heap.size HPS.out.rd (zN _) HPS.out.cap (by omega));have htm:=Q7V rest;have HBADN:=sH (fun(he:(tn rest).2.2≠0)=>Q9t hne he);have HNEXT:=sH (fun(he:(tn rest).2.2=0)=>Q8p hne he);have HSHR:=sH (fun(he:(tn rest).2.2=0)=>Q4y he);obtain⟨p,hp⟩:∃ p,p=tn rest:=⟨_,rfl⟩;rw [<- hp] at HTN htm HBADN HNEXT HSHR;obtain⟨k,r,e⟩:=p;simp only at HTN htm HBADN HNEXT HSHR;have HTM:=sH htm;clear hne hp htm;obtain⟨Al,cl,hlv,hlc,_,_,_⟩:=Q1r HPS.out.own;rw [Q1A] at hlv hlc;subst hlv;go_wp2_with fail
 refine HTN.out.mono ?_;rintro _ w2 ⟨v,rfl,ho2,hb2⟩;obtain⟨A1,c1,hv,q1,q2,hr1,_⟩:=Q03 ho2;subst hv;have HR1:=sH hr1;have HOB:=sH ho2;have HL2:=sH (HPS.out.low.trans (hb2.mono hsz));have HOW2:=sH (HPS.out.own.below_ hb2);have hs2:=hb2.size;clear ho2 hb2 hr1 HTN;by_cases he:e=0
 ·have heb:((e:Int) != 0)=false:=by simp [he]
  have hshr:=HSHR.out he;have hnx:=HNEXT.out he;rw [HRL.out] at hshr;have HNX:=sH hnx;have HW:=sH (show (w2.alloc (.cells #[.int .i64 (k:Int)] 3)).ownsRow w.heap.size 3 1 (.slice Al done.length cl) done.length ((nI done).map vn) from by have:=World.ownsRow.alloc HOW2.out (.cells #[.int .i64 (k:Int)] 3);rw [Q1A] at this;exact this)
  have HR3:=sH (Q0m w2 #[.int .i64 (k:Int)] 3);have HR1b:=sH (HR1.out.below (Q0a w2 (.cells #[.int .i64 (k:Int)] 3)));obtain⟨dn,hdn⟩:∃ d,d=done.length:=⟨_,rfl⟩;rw [<- hdn] at HW hlen ⊢;have HDN:=sH hdn;obtain⟨rl,hrl⟩:∃ d,d=r.length:=⟨_,rfl⟩;rw [<- hrl] at hshr HR1b q1 ⊢;have HRLE:=sH hrl;clear hnx hdn hrl;go_wp2_with (at_builtin; go_must (refine Q06 _ rfl (.tmp 19) (.tmp 21) 29 rfl w.heap.size 3 i0 _ 1 8 Tryz.underlying29 hi0 hz0 hz1 hz2 rfl (by omega) _ dn ((nI done).map vn) rfl HW.out (w2.heap.size+1) (some ⟨w2.heap.size,0,none⟩) 1 1 [.int .i64 (k:Int)] rfl HR3.out ?c1 ?c2 ?c3 ?c4 ?_))
  case c1=>intro z hz; rw [zZ] at hz; subst hz; rfl
  case c2=>unfold maxLen; omega
  case c3=>omega
  case c4=>simp; omega
  intro v6 w6 hown6 hg6 hor6;have hps6:PsSt w xs n0 A1 rl c1 v6 r (done++[k]) w6:=by
   have hge:∀ b,(Value.slice Al dn cl).ownBlock=some b->w.heap.size<=b:=fun b hb=>(Q10 HW.out hb).1
   have hal:=Q0a w2 (.cells #[.int .i64 (k:Int)] 3);have hsz2:=HL2.out.size;refine⟨?_,q1,?_,?_,?_,?_,?_⟩
   ·have hob:=HOB.out.below hal;have hk:=hob.keep (w':=w6) fun b hb=>by
     obtain⟨cur,hcur⟩:=Q4f hob hb;exact hg6.block b (hob.lt hb) (fun e=>Q2T HW.out hcur (by decide) e.symm)
    rw [HRLE.out];exact hk.reads.2.2.2.1
   ·unfold OwnN;rw [Q1A,zO,<- HDN.out];have e2:nI (done++[k])=nI done++[(k:Int)]:=by simp [nI]
    rw [e2,List.map_append];exact hown6
   ·rw [zO,<- HDN.out];simp only [List.length_cons,List.length_nil];omega
   ·rw [HPS.out.num,HNX.out];cases Q38 r with
    | none=>rfl
    | some l=>simp
   ·intro x hx;rcases List.mem_append.1 hx with hx | hx
    ·exact HPS.out.max x hx
    rw [zZ] at hx; subst hx; exact HTM.out
   exact Q0p (HL2.out.trans (hal.mono hsz2)) (by simp; omega) hg6 (fun b hb=>hge b hb)
  have HPS6:=sH hps6;clear hown6 hg6 hor6 hps6;go_wp2_with fail
  go_roundw
  case rel=>exact⟨_,_,_,_,_,rfl,HPS6.out⟩
  case measure=>simp; omega
 have heb:((e:Int) != 0)=true:=by simpa using he
 have hbn:Q38 xs=none:=by rw [HPS.out.num,HBADN.out he]; rfl
 have ho:o=none:=by rw [HO.out]; unfold Q2i; rw [hbn]
 subst ho;clear hbn;go_wp2_with fail
 go_ret2
 exact⟨_,[],rfl,OwnN.nil_ _ _,(fun l hl=>by cases hl),HL2.out⟩
end
section
open Go.RowKit Go.Maps
structure VRaw (w:zB) (g:Nat) (t:Option zA) (N:Nat->Prop) (m:VM) (S:VSl):Prop where
 blk:Blk w g 64 (vC t m S)
 block:∀ i,i<8->Far w N (S.bA i) (S.bC i) (Q0l m i)
 last:∀ i,i<4->Far w N (S.lA i) (S.lC i) (Q0C m i).2
 shut:FarN w N S.sA S.sC m.shut
 lb:m.blocks.length=8
 ll:m.last.length=4
theorem VRaw.only {w w':zB} {g:Nat} {t:Option zA} {N M:Nat->Prop} {m:VM} {S:VSl} (h:VRaw w g t N m S) (ho:Only M w w') (hM:∀ b,M b->N b) (hg:¬ M g):VRaw w' g t N m S :=⟨ho.blk h.blk hg,fun i hi=>(h.block i hi).only ho hM,fun i hi=>(h.last i hi).only ho hM,h.shut.only ho hM,h.lb,h.ll⟩
theorem VRaw.below {w w':zB} {g:Nat} {t:Option zA} {N:Nat->Prop} {m:VM} {S:VSl} (h:VRaw w g t N m S) (hb:zE w.heap.size w w'):VRaw w' g t N m S :=h.only (M:=fun _=>False) (Only.of_below hb) (fun _ h=>h.elim) (fun h=>h)
theorem VRaw.done {w:zB} {g:Nat} {t:Option zA} {N:Nat->Prop} {m:VM} {S:VSl} (h:VRaw w g t N m S) (hk:VOk m):VDat w g t N m S:=⟨h.blk,h.block,h.last,h.shut,hk⟩
def rawV:VM:=⟨0,0,zT 8 [],zT 4 (0,[]),[]⟩
def rawS:VSl:=⟨fun _=>none,fun _=>0,fun _=>none,fun _=>0,none,0⟩
theorem rawC:vC none rawV rawS=#[.pointer none,.int .i64 0,.int .i64 0,.slice none 0 0,.slice none 0 0,.slice none 0 0,.slice none 0 0,.slice none 0 0,.slice none 0 0,.slice none 0 0,.slice none 0 0,.int .i64 0,.slice none 0 0,.int .i64 0,.slice none 0 0,.int .i64 0,.slice none 0 0,.int .i64 0,.slice none 0 0,.slice none 0 0]:=by kernel_rfl
theorem VRaw.new (w:zB) (N:Nat->Prop) {g:Nat} (hg:g=w.heap.size):VRaw (w.alloc (.cells (vC none rawV rawS) 64)) g none N rawV rawS:=by
 refine⟨Blk.newAt hg,fun i hi=>?_,fun i hi=>?_,FarN.nil _ _,by simp [rawV],by simp [rawV]⟩
 ·have:Q0l rawV i=[]:=by
   unfold Q0l rawV;simp only [zQ,List.getElem?_replicate];split <;> rfl
  rw [this]; exact Far.nil _ _
 have:Q0C rawV i=(0,[]):=by unfold Q0C rawV;simp only [zQ,List.getElem?_replicate];split <;> rfl
 rw [this]; exact Far.nil _ _
theorem VRaw.setB {w w':zB} {g:Nat} {t:Option zA} {N:Nat->Prop} {m:VM} {S:VSl} {b:Nat} {d:List UInt8} {A:Option zA} {c:Nat} (h:VRaw w g t N m S) (hT:Q05 g w w') (hN:N g) (hB:Blk w' g 64 ((vC t m S).setIfInBounds (3+b) (.slice A d.length c))) (hb:b<8) (hf:Far w' N A c d):VRaw w' g t N (Go.Proofs.YtckjnbjiafgibaaGreat.setB m b d) (Q2G S b A c):=by
 have hz:(vC t m S).size=20:=Q0H _ _ _;have ho:Only (fun b=>b=g) w w':=Only.of_turned hT rfl;have hB':((vC t m S).setIfInBounds (3+b) (.slice A d.length c))=vC t (Go.Proofs.YtckjnbjiafgibaaGreat.setB m b d) (Q2G S b A c):=by
  refine vC_blk h.lb hb (by simp [hz]) ?_ ?_
  ·rw [zL,if_pos rfl,hz,if_pos (by omega)]
  intro i hi h0;rw [zL,if_neg (by omega)]
 refine⟨by rw [<- hB']; exact hB,fun i hi=>?_,fun i hi=>?_,?_,by show (m.blocks.set b d).length=8; rw [List.length_set]; exact h.lb,h.ll⟩
 ·rw [Q2Q m b i _ h.lb hb];by_cases e:i=b
  ·subst e;rw [if_pos rfl];simp only [Q2G,if_true];exact hf
  rw [if_neg e];simp only [Q2G,if_neg e];exact(h.block i hi).only ho (fun b e=>e▸hN)
 ·exact(h.last i hi).only ho (fun b e=>e▸hN)
 exact h.shut.only ho (fun b e=>e▸hN)
theorem VRaw.setL {w w':zB} {g:Nat} {t:Option zA} {N:Nat->Prop} {m:VM} {S:VSl} {j st:Nat} {d:List UInt8} {A:Option zA} {c:Nat} (h:VRaw w g t N m S) (hT:Q05 g w w') (hN:N g) (hB:Blk w' g 64 (spl (vC t m S) (11+j*2) [.int .i64 (st:Int),.slice A d.length c])) (hj:j<4) (hf:Far w' N A c d):VRaw w' g t N (Go.Proofs.YtckjnbjiafgibaaGreat.setL m j (st,d)) (Q3M S j A c):=by
 have hz:11+j*2+2<=(vC t m S).size:=by rw [Q0H]; omega
 have ho:Only (fun b=>b=g) w w':=Only.of_turned hT rfl;have hB':spl (vC t m S) (11+j*2) [.int .i64 (st:Int),.slice A d.length c]=vC t (Go.Proofs.YtckjnbjiafgibaaGreat.setL m j (st,d)) (Q3M S j A c) :=Q8T h.ll hj (by rw [Q6u hz,Q0H]) (Q9K hz) (Q7w hz) (fun i hi h0 h1=>Q6m hz h0 h1)
 refine⟨by rw [<- hB']; exact hB,fun i hi=>?_,fun i hi=>?_,?_,h.lb,by show (m.last.set j (st,d)).length=4; rw [List.length_set]; exact h.ll⟩
 ·exact(h.block i hi).only ho (fun b e=>e▸hN)
 ·rw [Q1y m j i _ h.ll hj];by_cases e:i=j
  ·subst e;rw [if_pos rfl];simp only [Q3M,if_true];exact hf
  rw [if_neg e];simp only [Q3M,if_neg e];exact(h.last i hi).only ho (fun b e=>e▸hN)
 exact h.shut.only ho (fun b e=>e▸hN)
theorem VRaw.setH {w w':zB} {g:Nat} {t:Option zA} {N:Nat->Prop} {m:VM} {S:VSl} {q e:Nat} {l:List Int} {A:Option zA} {c:Nat} (h:VRaw w g t N m S) (ho:Only (fun b=>b=g) w w') (hN:N g) (hB:Blk w' g 64 ((((vC t m S).setIfInBounds 1 (.int .i64 (q:Int))).setIfInBounds 2 (.int .i64 (e:Int))).setIfInBounds 19 (.slice A l.length c))) (hf:FarN w' N A c l):VRaw w' g t N ⟨q,e,m.blocks,m.last,l⟩ (setS S A c):=by
 have hz:(vC t m S).size=20:=Q0H _ _ _;have hB':(((vC t m S).setIfInBounds 1 (.int .i64 (q:Int))).setIfInBounds 2 (.int .i64 (e:Int))).setIfInBounds 19 (.slice A l.length c)=vC t ⟨q,e,m.blocks,m.last,l⟩ (setS S A c):=by
  have hs:(((vC t m S).setIfInBounds 1 (.int .i64 (q:Int))).setIfInBounds 2 (.int .i64 (e:Int))).size=20:=by simp [hz]
  refine Q93 (by simp [hz]) ?_ ?_ ?_ (fun i hi=>?_) (fun i hi=>?_) (fun i hi=>?_) ?_
  ·rw [zL,if_neg (by omega),zL,if_neg (by omega),zL,if_neg (by omega),Q2H]
  ·rw [zL,if_neg (by omega),zL,if_neg (by omega),zL,if_pos rfl,hz,if_pos (by omega)]
  ·rw [zL,if_neg (by omega),zL,if_pos rfl,Array.size_setIfInBounds,hz,if_pos (by omega)]
  ·rw [zL,if_neg (by omega),zL,if_neg (by omega),zL,if_neg (by omega),Q1l _ _ _ _ hi]; rfl
  ·rw [zL,if_neg (by omega),zL,if_neg (by omega),zL,if_neg (by omega),Q29 _ _ _ _ hi]; rfl
  ·rw [zL,if_neg (by omega),zL,if_neg (by omega),zL,if_neg (by omega),Q2y _ _ _ _ hi]; rfl
  rw [zL,if_pos rfl,hs,if_pos (by omega)]; rfl
 refine⟨by rw [<- hB']; exact hB,fun i hi=>(h.block i hi).only ho (fun b e=>e▸hN),fun i hi=>(h.last i hi).only ho (fun b e=>e▸hN),hf,h.lb,h.ll⟩
def midO (ls:LL) (i j:Nat):VM:=⟨0,0,ls.take i++zT (8 - i) [],(List.range j).map (fun k=>(Q0D (ls.getD (8+k) [])).getD (0,[]))++zT (4 - j) (0,[]),[]⟩
theorem Q6w (ls:LL):midO ls 0 0=rawV:=by simp [midO,rawV]
theorem Q58 {ls:LL} {i j:Nat} (hl:8<=ls.length) (hi:i<8):Go.Proofs.YtckjnbjiafgibaaGreat.setB (midO ls i j) i (ls.getD i [])=midO ls (i+1) j:=by
 unfold Go.Proofs.YtckjnbjiafgibaaGreat.setB midO;simp only;congr 1
 have hlt:(ls.take i).length=i:=by rw [List.length_take]; omega
 rw [List.set_append_right _ _ (by omega),hlt,Nat.sub_self,show 8 - i=(8 - (i+1))+1 by omega,List.replicate_succ,List.set_cons_zero,zW (by omega),List.append_assoc,zQ,zD (by omega)];rfl
theorem Q4P {ls:LL} {i j:Nat} (hj:j<4):Go.Proofs.YtckjnbjiafgibaaGreat.setL (midO ls i j) j ((Q0D (ls.getD (8+j) [])).getD (0,[]))=midO ls i (j+1):=by
 unfold Go.Proofs.YtckjnbjiafgibaaGreat.setL midO;simp only;congr 1
 rw [List.set_append_right _ _ (by simp),show j - ((List.range j).map fun k=>(Q0D (ls.getD (8+k) [])).getD (0,[])).length=0 by simp,show 4 - j=(4 - (j+1))+1 by omega,List.replicate_succ,List.set_cons_zero,List.range_succ,List.map_append,List.append_assoc];rfl
theorem Q7B {ls:LL} {l:List Nat} (hl:ls.length=13):(⟨l.getD 0 0,l.getD 1 0,(midO ls 8 4).blocks,(midO ls 8 4).last,nI (l.drop 3)⟩:VM)=Q4a ls l:=by
 unfold Q4a midO nI
 simp
end
section
open Go.RowKit Go.Maps
attribute [local irreducible] wpList
def Q0V (b:UInt8):List UInt8:=zT 16 b
def sixF (b:UInt8) (i j:Nat):zC:=if j<i then vb b else .int .u8 0
theorem Q95 (b:UInt8):Array.replicate 16 (Value.int .u8 0)=rng 16 (sixF b 0):=by
 apply Array.ext_getElem?
 intro j;rcases zF j 16 with h | h
 ·rw [Q0N _ _ _ h,Array.getElem?_replicate,if_pos h]; rfl
 rw [zG (by simpa using h),zG (by rw [Q0n]; exact h)]
theorem Q8O (b:UInt8) (i:Nat) (hi:i<16):(rng 16 (sixF b i)).setIfInBounds i (vb b)=rng 16 (sixF b (i+1)):=by
 apply Array.ext_getElem?
 intro j;rw [zL,Q0n];rcases zF j 16 with h | h
 ·rw [Q0N _ _ _ h,Q0N _ _ _ h];unfold sixF;by_cases e:i=j
  ·subst e; rw [if_pos rfl,if_pos h,if_pos (by omega)]
  rw [if_neg e];have:(j<i)=(j<i+1):=propext (by omega);simp only [this]
 rw [if_neg (by omega),zG (by rw [Q0n]; exact h),zG (by rw [Q0n]; exact h)]
theorem sixF_end (b:UInt8):(rng 16 (sixF b 16)).toList=(Q0V b).map vb:=by
 apply List.ext_getElem?
 intro j;rcases zF j 16 with h | h
 ·rw [Array.getElem?_toList,Q0N _ _ _ h];unfold sixF Q0V;rw [if_pos h,zK,List.getElem?_replicate,if_pos h]; rfl
 rw [Array.getElem?_toList,zG (by rw [Q0n]; exact h),List.getElem?_eq_none (by simp [Q0V]; exact h)]
theorem Q21 (b:UInt8) (w:zB) :
 zJ zM 11 #[vb b] w fun e w'=>∃ v,e=.returned v/\OwnB w' w.heap.size v (Q0V b)/\zE w.heap.size w w':=by
 obtain⟨i0,hi0,hz0,hz1,hz2⟩:=info_parts Q1f;have hmk:(Instr.makeSlice 28 (.int .i64 16) (.int .i64 16)).run zM w=.ok (.slice (some ⟨w.heap.size,0,none⟩) 16 16) (w.alloc (.cells (rng 16 (sixF b 0)) 5)):=by have h:=Q1Q (P:=zM) 28 5 i0 _ Tryz.underlying28 hi0 hz0 .i64 .i64 16 16 (by omega) (by rw [hz2]; omega) (by omega) w;rw [hz1] at h;rw [show ((16:Nat):Int)=16 from rfl] at h;rw [h,show madeCells (Value.int .u8 0).cells (16*1)=Array.replicate 16 (.int .u8 0) from by kernel_rfl,Q95 b]
 have hb0:=Q0a w (.cells (rng 16 (sixF b 0)) 5);have hk0:Blk (w.alloc (.cells (rng 16 (sixF b 0)) 5)) w.heap.size 5 (rng 16 (sixF b 0)):=Blk.newAt rfl;have HB0:=sH hb0;have HK0:=sH hk0;obtain⟨g,hg⟩:∃ g,g=w.heap.size:=⟨_,rfl⟩;rw [<- hg] at hmk HK0;have hgw:w.heap.size<=g:=by omega
 have HG:=sH hg;generalize w.alloc (.cells (rng 16 (sixF b 0)) 5)=w1 at hmk HB0 HK0;have hvb:vb b=.int .u8 (bi b):=rfl;clear hb0 hk0 hg;go_enter Tryz.func11,Tryz.ntmps11
 go_wp2_with fail
 clear hmk;go_loopw [4] (fun iv wr=>∃ i:Nat,i<=16/\iv=.int .i64 i/\Blk wr g 5 (rng 16 (sixF b i))/\zE w.heap.size w wr) (fun iv _=>16 - (intOf iv).toNat)
 case atStart=>exact⟨0,by omega,rfl,HK0.out,HB0.out⟩
 obtain⟨i,hi,rfl,hk,hb⟩:=hrel;have HK:=sH hk;have HB:=sH hb;clear hk hb;by_cases hin:i<16
 ·have hinI:(i:Int)<16:=by omega
  have cc:wr.cell? ⟨g,i,none⟩=some (sixF b i i):=(HK.out.cell i).trans (Q0N _ _ _ hin);have ff:=HK.out.frozen i;have hk2:=HK.out.set_ i (vb b);rw [Q8O b i hin] at hk2;have hT:=Q05.setCell wr ⟨g,i,none⟩ (vb b);have HK2:=sH hk2;have HB2:=sH (hT.below HB.out hgw);clear hk2 hT;go_wp2_with fail
  go_roundw
  case rel=>exact⟨i+1,by omega,by go_num,HK2.out,HB2.out⟩
  case measure=>simp [intOf]; omega
 obtain rfl:i=16:=by omega
 have hinI:¬ (16:Int)<16:=by omega
 go_wp2_with fail
 go_ret
 refine⟨_,rfl,⟨by simp [Q0V],.inr ⟨g,16,_,rfl,hgw,HK.out,by simp [Q0V],by unfold maxLen; omega,by rw [Q0n],?_⟩⟩,HB.out⟩;rw [sixF_end,zU (by simp [Q0V])]
def Q0B (c s e b:Int):Wish:=⟨c,s,1,e,1,b,[],0,0,[]⟩
def Q2C (c s e k:Int) (b:UInt8):Wish:=⟨c,s,1,e,2,k,Q0V b,0,0,[]⟩
def Q2d (e:Int):Wish:=⟨0,0,1,e,5,0,[],0,0,[1,2,3,4]⟩
theorem Q6o (x y:Wish) (A B A' B':Option zA) (n c n' c' m d m' d':Nat):spl (Q02 x A n c A' n' c') 0 (Q02 y B m d B' m' d').toList=Q02 y B m d B' m' d':=Q0h (Q02 x A n c A' n' c') (Q02 y B m d B' m' d') rfl
theorem Q12 (c s e b:Int) (w:zB) :
 zJ zM 7 #[.int .i64 c,.int .i64 s,.int .i64 e,.int .i64 b] w fun r w'=>r=.returned (.agg (Q02 (Q0B c s e b) none 0 0 none 0 0))/\zE w.heap.size w w':=by
 go_enter Tryz.func7,Tryz.ntmps7
 go_wp2_with (refine Q00 (o:=⟨none,_,_,_,_,_⟩) rfl 31 (.tmp 8) (.tmp 13) rfl w.heap.size 0 (Q02 (Q0B c s e b) none 0 0 none 0 0) rfl rfl 31 (Q02 Q3b none 0 0 none 0 0) (Blk.newAt rfl) (Q22 _ _ _ _ _ _ _) (by simp [Q02]) (Q2h _ _ _ _ _ _ _) ?_; intro w3 hT3 hD3; rw [Q6o] at hD3)
 refine bodyPost_ret (Q0x rfl _ _ w.heap.size 10 31 _ _ rfl hD3 Tryz.underlying31 rfl rfl rfl) rfl ⟨rfl,?_⟩;exact hT3.below ((zP _ _).alloc (zN _) _) (zN _)
theorem Q5s (c s e k:Int) (b:UInt8) (w:zB) :
 zJ zM 12 #[.int .i64 c,.int .i64 s,.int .i64 e,.int .i64 k,vb b] w fun r w'=>∃ A q,r=.returned (.agg (Q02 (Q2C c s e k b) A 16 q none 0 0))/\OwnB w' w.heap.size (.slice A 16 q) (Q0V b)/\zE w.heap.size w w':=by
 have hX:=Q0a w (.cells (Q02 Q3b none 0 0 none 0 0) 31);have hk0:Blk (w.alloc (.cells (Q02 Q3b none 0 0 none 0 0) 31)) w.heap.size 31 (Q02 Q3b none 0 0 none 0 0):=Blk.newAt rfl;have HX:=sH hX;have HK:=sH hk0;have hZ:Q02 Q3b none 0 0 none 0 0=#[.int .i64 0,.int .i64 0,.int .i64 0,.int .i64 0,.int .i64 0,.int .i64 0,.slice none 0 0,.int .i64 0,.int .i64 0,.slice none 0 0]:=rfl;obtain⟨g,hg⟩:∃ g,g=w.heap.size:=⟨_,rfl⟩;have hgw:w.heap.size<=g:=by omega
 have hvb:vb b=.int .u8 (bi b):=rfl;have HSX:=sH (fun W=>Q21 b W);rw [hvb] at HSX ⊢;clear hX hk0;go_enter Tryz.func12,Tryz.ntmps12
 go_upto_region 1 with fail
 rw [<- hZ];generalize zY w _=w1 at HX HK ⊢;rw [<- hg] at HK ⊢;clear hg hZ;go_wp2_with fail
 refine(HSX.out w1).mono ?_;rintro _ w2 ⟨v,rfl,ho,hb⟩;obtain⟨A,q,hv,q1,q2,q3,q4⟩:=Q03 ho;have e16:(Q0V b).length=16:=by simp [Q0V]
 rw [e16] at hv;subst hv;have HO:=sH ho;have HK2:=sH (HK.out.below' hb);have HB2:=sH (HX.out.trans (hb.mono HX.out.size));have hgl:=HK.out.lt;have hs1:=HX.out.size;clear ho hb q3 q1 e16;go_wp2_with (refine Q00 (o:=⟨none,_,_,_,_,_⟩) rfl 31 (.tmp 10) (.tmp 17) rfl g 0 (Q02 (Q2C c s e k b) A 16 q none 0 0) rfl rfl 31 (Q02 Q3b none 0 0 none 0 0) HK2.out (Q22 _ _ _ _ _ _ _) (by simp [Q02]) (Q2h _ _ _ _ _ _ _) ?_; intro w3 hT3 hD3; rw [Q6o] at hD3)
 refine bodyPost_ret (Q0x rfl _ _ g 10 31 _ _ rfl hD3 Tryz.underlying31 rfl rfl rfl) rfl ⟨A,q,rfl,?_,hT3.below HB2.out hgw⟩;exact(HO.out.more hs1).keep fun b hb=>hT3.block b (fun e=>by have:=HO.out.ge hb; omega)
theorem Q2F (e:Int) (w:zB) :
 zJ zM 13 #[.int .i64 e] w fun r w'=>∃ A q,r=.returned (.agg (Q02 (Q2d e) none 0 0 A 4 q))/\Q04 w' w'.heap.size 1 A 4 ([1,2,3,4].map vn)/\(∀ a,A=some a->w.heap.size<=a.block)/\4<=q/\zE w.heap.size w w':=by
 have hk0:Blk (w.alloc (.cells (Q02 Q3b none 0 0 none 0 0) 31)) w.heap.size 31 (Q02 Q3b none 0 0 none 0 0):=Blk.newAt rfl;have hk1:=hk0.alloc (.cells #[.int .i64 1,.int .i64 2,.int .i64 3,.int .i64 4] 3);have hr:=Q0m (w.alloc (.cells (Q02 Q3b none 0 0 none 0 0) 31)) #[.int .i64 1,.int .i64 2,.int .i64 3,.int .i64 4] 3;have hz:(w.alloc (.cells (Q02 Q3b none 0 0 none 0 0) 31)).heap.size=w.heap.size+1:=by simp
 rw [hz] at hr;have HK:=sH hk1;have HR:=sH hr;clear hk0 hk1 hr hz;go_enter Tryz.func13,Tryz.ntmps13
 go_wp2_with (refine Q00 (o:=⟨none,_,_,_,_,_⟩) rfl 31 (.tmp 2) (.tmp 5) rfl w.heap.size 0 (Q02 (Q2d e) none 0 0 (some ⟨w.heap.size+1,0,none⟩) 4 4) rfl rfl 31 (Q02 Q3b none 0 0 none 0 0) HK.out (Q22 _ _ _ _ _ _ _) (by simp [Q02]) (Q2h _ _ _ _ _ _ _) ?_; intro w3 hT3 hD3; rw [Q6o] at hD3)
 refine bodyPost_ret (Q0x rfl _ _ w.heap.size 10 31 _ _ rfl hD3 Tryz.underlying31 rfl rfl rfl) rfl ⟨_,4,rfl,?_,fun a ha=>?_,zN _,?_⟩
 ·refine(Only.of_turned (N:=fun b=>b=w.heap.size) hT3 rfl).reads (HR.out.more (by simp)) fun a _ ha e=>?_
  injection ha with ha
  subst ha;simp only at e;omega
 ·injection ha with ha; subst ha; exact Nat.le_succ _
 exact hT3.below (((zP _ _).alloc (zN _) _).alloc (by simp) _) (zN _)
end
section
open Go.RowKit Go.Maps
attribute [local irreducible] wpList Q0t
theorem Q7k {w:zB} {c s e b:Int} (h:I64 c/\I64 s/\I64 e/\I64 b):Q14 w w.heap.size (Q0B c s e b) none (Q0B c s e b).data.length 0 none (Q0B c s e b).next.length 0 :=⟨Q04.none_,by simp [Q0B],by simp [Q0B],Q04.none_,by simp [Q0B],by simp [Q0B],⟨h.1,h.2.1,by show I64 1; unfold I64; omega,h.2.2.1,by show I64 1; unfold I64; omega,h.2.2.2,by show I64 0; unfold I64; omega,by show I64 0; unfold I64; omega,fun z hz=>by simp [Q0B] at hz⟩⟩
end
section
open Go.RowKit
theorem Q0i {o:Oper} {ops:Array Oper} {tm:Array zC} {j d:Nat} {b:Bool} (hg:o.guard=some (j,b)) (hd:(ops[j]?).bind (·.dst)=some d) (he:tm[d]?.getD undef=.bool b):zI o (yielded ops tm)=true:=by
 unfold zI yielded;rw [hg];simp only [hd,Option.bind_some];cases ht:tm[d]? with
 | none=>rw [ht] at he; simp [undef] at he
 | some v =>
  rw [ht] at he;simp only [Option.getD_some] at he;subst he
  simp
end
end Go.Proofs.YtckjnbjiafgibaaGreat
