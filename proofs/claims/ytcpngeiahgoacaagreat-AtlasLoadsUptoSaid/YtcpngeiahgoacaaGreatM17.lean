/- Parts of the proof, in one text. -/
import Derived.Test.YtcpngeiahgoacaaGreatM16
import Derived.Test.YtcpngeiahgoacaaGreatM12
import Derived.Test.YtcpngeiahgoacaaGreatM11
namespace Go.Proofs.YtcpngeiahgoacaaGreat
set_option linter.unusedVariables false
set_option linter.unusedSimpArgs false
set_option maxRecDepth 100000
set_option maxHeartbeats 16000000
open _root_.Bool renaming false_eq_true->zM
open _root_.Go renaming World->zA,Value->zB
open _root_.Go.Proofs.Tryz renaming underlying42->zO,underlying102->zP,underlying47->zQ
open _root_.Go.RowKit renaming Below->zD
open _root_.Go.RowKit.Below renaming refl->zG
open _root_.Go.Value renaming oneCell'->zL
open _root_.Go.World renaming cell?_of_block->zJ
open _root_.List renaming getElem?_eq_getElem->zC,length_drop->zE,getD_eq_getElem?_getD->zH,getElem_mem->zI
open _root_.Nat renaming le_refl->zF,zero_add->zK
open _root_.Option.some renaming inj->zN
section
open Go.RowKit Go.Maps
attribute [local irreducible] wpList Q0h
def ToldPost (w:zA) (B:Nat) (u:zB) (nl:List Int) (o:Option (Nat×Ans)) (e:Ending) (w':zA):Prop :=
 zD w.heap.size w w'/\(o=none->∃ D:Array zB,e=.returned (.tuple #[.agg D,.bool false])/\D.size=5/\D.all (·.oneCell')=true) /\
 ∀ x,o=some x->∃ A c,e=.returned (.tuple #[.agg (lsC x.1 x.2 A c),.bool true])/\(∀ W,OwnN W B u nl->Q08 W W.heap.size 1 A x.2.nodes.length (x.2.nodes.map vn))/\x.2.nodes.length<=c/\c<=maxLen/\∀ a,0<x.2.nodes.length->A=some a->u.ownBlock=some a.block
theorem Q19 {l:List Nat} (h:badT l):Q3l l=none:=if_pos h
theorem Q8k {l:List Nat} (h:¬ badT l):Q3l l=some (l.getD 0 0,⟨l.getD 1 0,[],l.getD 2 0,nI (l.drop 4)⟩):=if_neg h
theorem Q3C:(Tryz.prog.info? 102).map (·.size)=some Q0Z.size:=by kernel_rfl
theorem Q1o {w wc:zA} {g:Nat} {t:TypeId} {a b c d e:zB} (h:Blk wc g t #[a,b,c,d,e]) (hX:zD w.heap.size w wc) (hg:w.heap.size<=g) (a' b' c' d' e':zB) (W:zA) (hW:W=(((((wc.setCell ⟨g,0,none⟩ a').setCell ⟨g,1,none⟩ b').setCell ⟨g,2,none⟩ c').setCell ⟨g,3,none⟩ d').setCell ⟨g,4,none⟩ e').drew) :
 Blk W g t #[a',b',c',d',e']/\zD w.heap.size w W/\∀ k,k≠g->W.heap[k]?=wc.heap[k]?:=by
 obtain⟨w1,e1⟩:∃ x,x=wc.setCell ⟨g,0,none⟩ a':=⟨_,rfl⟩;obtain⟨w2,e2⟩:∃ x,x=w1.setCell ⟨g,1,none⟩ b':=⟨_,rfl⟩;obtain⟨w3,e3⟩:∃ x,x=w2.setCell ⟨g,2,none⟩ c':=⟨_,rfl⟩;obtain⟨w4,e4⟩:∃ x,x=w3.setCell ⟨g,3,none⟩ d':=⟨_,rfl⟩;obtain⟨w5,e5⟩:∃ x,x=w4.setCell ⟨g,4,none⟩ e':=⟨_,rfl⟩;have h1:Blk w1 g t #[a',b,c,d,e]:=e1▸h.set_ 0 a';have h2:Blk w2 g t #[a',b',c,d,e]:=e2▸h1.set_ 1 b';have h3:Blk w3 g t #[a',b',c',d,e]:=e3▸h2.set_ 2 c';have h4:Blk w4 g t #[a',b',c',d',e]:=e4▸h3.set_ 3 d';have h5:Blk w5 g t #[a',b',c',d',e']:=e5▸h4.set_ 4 e';have t1:Q0b g wc w1:=e1▸Q0b.setCell wc ⟨g,0,none⟩ a';have t2:Q0b g w1 w2:=e2▸Q0b.setCell w1 ⟨g,1,none⟩ b';have t3:Q0b g w2 w3:=e3▸Q0b.setCell w2 ⟨g,2,none⟩ c';have t4:Q0b g w3 w4:=e4▸Q0b.setCell w3 ⟨g,3,none⟩ d';have t5:Q0b g w4 w5:=e5▸Q0b.setCell w4 ⟨g,4,none⟩ e';have hT:=(((t1.trans t2).trans t3).trans t4).trans t5;have hb:=hT.below hX hg;rw [<- e1,<- e2,<- e3,<- e4,<- e5] at hW;subst hW;exact⟨h5.drew,⟨hb.os,hb.tape,hb.output,hb.size,hb.block⟩,fun k hk=>hT.block k hk⟩
theorem QdR (v:zB) (l:List Nat) (w:zA) (B:Nat) (h:OwnN w B v (nI l)) (hl:l.length<=1000000000000) (hm:∀ x,x∈l->x<=maxN) :
 Calls Tryz.prog 105 #[v] w (ToldPost w B v (nI l) (Q3l l)):=by
 have hX:=Q04 w (.cells Q0Z 102);have hk0:Blk (w.alloc (.cells Q0Z 102)) w.heap.size 102 Q0Z:=Blk.newAt rfl;have hZ:Q0Z=#[.int .i64 0,.int .i64 0,.slice none 0 0,.int .i64 0,.slice none 0 0]:=rfl;have HX:=sH hX;have HK:=sH hk0;obtain⟨o,ho⟩:∃ o,o=Q3l l:=⟨_,rfl⟩;have HO:=sH ho;obtain⟨g2,hg2⟩:∃ g,g=w.heap.size:=⟨_,rfl⟩;have hgw:w.heap.size<=g2:=by omega
 obtain⟨n,hn⟩:∃ n,n=l.length:=⟨_,rfl⟩;have HN:=sH hn;rw [<- ho];by_cases h4:n<4
 ·have h4b:(n:Int)<4:=by omega
  have hon:o=none:=by rw [HO.out,Q19 (.inl (by omega))]
  obtain⟨A,c,hv,_⟩:=Q0i h;rw [Q1U,<- hn] at hv;subst hv;subst hon;clear h hm hX hk0 ho hn;go_enter Tryz.func105,Tryz.ntmps105
  go_upto_region 1 with fail
  rw [<- hZ];generalize World.alloc w _=w1 at HX HK ⊢;rw [<- hg2] at HK ⊢;have hlw:=HK.out.lt;clear hg2 hZ;go_wp2_with (refine Q00 (o:=⟨none,_,_,_,_,_⟩) rfl 102 (.tmp 2) (.tmp 24) rfl g2 0 Q0Z rfl rfl 102 _ HK.out Q3C (by simp [Q0Z]) (by simp [Q0Z,zL]) ?_; intro w9 hT9 hD9)
  exact bodyPost_ret (Q09 rfl _ _ g2 5 102 _ _ rfl hD9 zP rfl rfl rfl) rfl ⟨hT9.below HX.out hgw,fun _=>⟨_,rfl,rfl,by simp [Q0Z,spl,zL]⟩,fun q hq=>by cases hq⟩
 have h4b:¬ (n:Int)<4:=by omega
 obtain⟨g,c,rfl,hgB,hcc,hrd,hcell⟩:=Q35 h (by omega);have hcm:c<=maxLen:=by
  obtain⟨_,c',e,_,q,_⟩:=Q0i h;injection e with _ _ e3
  rw [e3]; exact q
 have hgl:g<w.heap.size:=(Q07 h (b:=g) (by rfl)).2;have c0:=(hX.cell (p:=⟨g,0,none⟩) hgl).trans (hcell 0 (by omega));have c1:=(hX.cell (p:=⟨g,1,none⟩) hgl).trans (hcell 1 (by omega));have c2:=(hX.cell (p:=⟨g,2,none⟩) hgl).trans (hcell 2 (by omega));have c3:=(hX.cell (p:=⟨g,3,none⟩) hgl).trans (hcell 3 (by omega));obtain⟨l0,hl0⟩:∃ k,k=l.getD 0 0:=⟨_,rfl⟩;obtain⟨l1,hl1⟩:∃ k,k=l.getD 1 0:=⟨_,rfl⟩;obtain⟨l2,hl2⟩:∃ k,k=l.getD 2 0:=⟨_,rfl⟩;obtain⟨l3,hl3⟩:∃ k,k=l.getD 3 0:=⟨_,rfl⟩;rw [<- hl0] at c0;rw [<- hl1] at c1;rw [<- hl2] at c2;rw [<- hl3] at c3;rw [<- hn] at hcc hrd ⊢;obtain⟨ns,hns⟩:∃ k,k=nI (l.drop 4):=⟨_,rfl⟩;have hbd:badT l <-> (l3+4≠n\/22<=l2)\/¬ (l1=0\/l1=5\/l1=180)\/(4<n/\Q1C ns=false)\/¬ (0<l0\/(l1=0/\l2=0/\n=4)):=by
  unfold badT;rw [<- hl0,<- hl1,<- hl2,<- hl3,<- hn,<- hns];constructor
  ·rintro (q | q | q | q | q | q)
   ·omega
   ·exact .inl (.inl q)
   ·exact .inl (.inr q)
   ·exact .inr (.inl q)
   ·exact .inr (.inr (.inl q))
   exact .inr (.inr (.inr q))
  rintro ((q | q) | q | q | q)
  ·exact .inr (.inl q)
  ·exact .inr (.inr (.inl q))
  ·exact .inr (.inr (.inr (.inl q)))
  ·exact .inr (.inr (.inr (.inr (.inl q))))
  exact .inr (.inr (.inr (.inr (.inr q))))
 have HBD:=sH hbd;have HGD:=sH (show ¬ badT l->o=some (l0,⟨l1,[],l2,ns⟩) from fun hb=>by rw [HO.out,Q8k hb,<- hl0,<- hl1,<- hl2,<- hns]);have HRD:=sH (fun(W:zA) (hW:OwnN W B (.slice (some ⟨g,0,none⟩) n c) (nI l))=>(Q1y hW).2);have HRW:=sH (fun(W:zA) (hb:zD w.heap.size w W)=>(hrd.below hb).more hb.size);have hmn:∀ z,z∈ns->I64 z:=fun z hz=>by rw [hns] at hz;obtain⟨k,hk,rfl⟩:=List.mem_map.1 hz;have:=hm k (List.mem_of_mem_drop hk);unfold maxN at this;unfold I64; omega
 have HMN:=sH hmn;have b0:l0<=maxN:=by rw [hl0,zH,zC (by omega)]; exact hm _ (zI _)
 have b1:l1<=maxN:=by rw [hl1,zH,zC (by omega)]; exact hm _ (zI _)
 unfold maxN at b0 b1;have hn12:n<=1000000000000:=by omega
 have HNS:=sH hns;have h0n:(0:Int)<(n:Int):=by omega
 have h1n:(1:Int)<(n:Int):=by omega
 have h2n:(2:Int)<(n:Int):=by omega
 have h3n:(3:Int)<(n:Int):=by omega
 have h0N:0<n:=by omega
 have h1N:1<n:=by omega
 have h2N:2<n:=by omega
 have h3N:3<n:=by omega
 clear h hm hX hk0 ho hn hbd hrd hcell hl0 hl1 hl2 hl3 hmn hns;go_enter Tryz.func105,Tryz.ntmps105
 go_upto_region 1 with fail
 rw [<- hZ];generalize World.alloc w _=w1 at HX HK c0 c1 c2 c3 ⊢;rw [<- hg2] at HK ⊢;have hlw:=HK.out.lt;have hX1:=HX.out.size;clear hg2 hZ
 go_cut [23] (fun s23 wx=>s23=.bool (decide (l3+4≠n\/22<=l2))/\wx=w1)
 case first =>
  by_cases b3:l3+4=n
  ·have b3b:((l3:Int) != (n:Int) - 4)=false:=by simp; omega
   by_cases b2:22<=l2
   ·have b2b:(22:Int)<=(l2:Int):=by omega
    go_wp2_with fail
    go_meet
    exact⟨by rw [decide_eq_true (.inr b2)],rfl⟩
   have b2b:¬ (22:Int)<=(l2:Int):=by omega
   go_wp2_with fail
   go_meet
   exact⟨by rw [decide_eq_false (by omega)],rfl⟩
  have b3b:((l3:Int) != (n:Int) - 4)=true:=by simp; omega
  go_wp2_with fail
  go_meet
  exact⟨by rw [decide_eq_true (.inl b3)],rfl⟩
 obtain⟨rfl,rfl⟩:=hcut;by_cases hb1:l3+4≠n\/22<=l2
 ·have hon:o=none:=by rw [HO.out,Q19 (HBD.out.2 (.inl hb1))]
  rw [decide_eq_true hb1];subst hon;clear c0 c1 c2 c3;go_wp2_with (refine Q00 (o:=⟨none,_,_,_,_,_⟩) rfl 102 (.tmp 2) (.tmp 24) rfl g2 0 Q0Z rfl rfl 102 _ HK.out Q3C (by simp [Q0Z]) (by simp [Q0Z,zL]) ?_; intro w9 hT9 hD9)
  exact bodyPost_ret (Q09 rfl _ _ g2 5 102 _ _ rfl hD9 zP rfl rfl rfl) rfl ⟨hT9.below HX.out hgw,fun _=>⟨_,rfl,rfl,by simp [Q0Z,spl,zL]⟩,fun q hq=>by cases hq⟩
 rw [decide_eq_false hb1];have hl22:l2<=21:=by omega
 by_cases hb2:l1=0\/l1=5\/l1=180
 ·have HS1:=sH (fun(W:zA)=>Q0U (P:=Tryz.prog) (t:=42) (e:=3) zO (by kernel_rfl) (some ⟨g,0,none⟩) n c 4 4 rfl (by omega) W);have hr1:=fun W hW=>(HRD.out W hW).sub (l:=4) (k:=n) (cap:=c) (by omega) (zF _) hcc
  have hr2:=fun W hb=>(HRW.out W hb).sub (l:=4) (k:=n) (cap:=c) (by omega) (zF _) hcc
  obtain⟨A1,hA1⟩:∃ A1,A1=(if c=4 then(some (⟨g,0,none⟩:Addr)) else(some (⟨g,0,none⟩:Addr)).map (·.add 4)):=⟨_,rfl⟩;simp only [Nat.mul_one] at hr1 hr2;rw [<- hA1] at HS1 hr1 hr2;obtain⟨m4,hm4⟩:∃ m4,m4=n - 4:=⟨_,rfl⟩;obtain⟨d4,hd4⟩:∃ d4,d4=c - 4:=⟨_,rfl⟩;rw [<- hm4] at HS1 hr1 hr2;rw [<- hd4] at HS1;have e1:(((nI l).map vn).drop 4).take m4=ns.map vn:=by rw [HNS.out];unfold nI;rw [List.take_of_length_le (by simp only [zE,List.length_map]; rw [<- HN.out]; omega)];simp only [List.map_drop]
  rw [e1] at hr1 hr2;have hlen:ns.length=m4:=by rw [HNS.out,Q1U,zE,<- HN.out]; omega
  have hA1b:∀ a,A1=some a->a.block=g:=fun a ha=>by
   rw [hA1] at ha;split at ha
   ·rw [<- zN ha]
   rw [<- zN ha]; exact Q0a _ _
  have HR1:=sH hr1;have HR2:=sH hr2;have HLEN:=sH hlen;have HA1:=sH hA1b;have hmd:m4<=d4:=by omega
  have hdm:d4<=maxLen:=by omega
  have hn4:n=4 <-> m4=0:=by omega
  have HN4:=sH hn4;have hm41:m4<=1000000000000:=by have:=HN.out; omega
  clear hA1 hr1 hr2 e1 hlen hA1b hm4 hd4 hn4;rcases hb2 with hl1 | hl1 | hl1
  ·have hl1b:((l1:Int) == 0)=true:=by simp [hl1]
   have HL1:=sH hl1;clear hl1;go_upto_region 9 with fail
   have hs1:=fun W=>HS1.out W
   have k0:wc.cell? ⟨g2,0,none⟩=some (.int .i64 0):=HK.out.cell 0;have k1:wc.cell? ⟨g2,1,none⟩=some (.int .i64 0):=HK.out.cell 1;have k2:wc.cell? ⟨g2,2,none⟩=some (.slice none 0 0):=HK.out.cell 2;have k3:wc.cell? ⟨g2,3,none⟩=some (.int .i64 0):=HK.out.cell 3;have k4:wc.cell? ⟨g2,4,none⟩=some (.slice none 0 0):=HK.out.cell 4;have kf0:wc.frozen? ⟨g2,0,none⟩=false:=HK.out.frozen 0;have kf1:wc.frozen? ⟨g2,1,none⟩=false:=HK.out.frozen 1;have kf2:wc.frozen? ⟨g2,2,none⟩=false:=HK.out.frozen 2;have kf3:wc.frozen? ⟨g2,3,none⟩=false:=HK.out.frozen 3;have kf4:wc.frozen? ⟨g2,4,none⟩=false:=HK.out.frozen 4;obtain⟨hB9,hX9,hk9⟩:=Q1o HK.out HX.out hgw (.int .i64 (l0:Int)) (.int .i64 (l1:Int)) (.slice none 0 0) (.int .i64 (l2:Int)) (.slice A1 m4 d4) _ rfl;have HBX:=sH hB9;have HXX:=sH hX9;have HKX:=sH hk9;clear hB9 hX9 hk9;have C1:=sH ((zJ (a:=⟨g,1,none⟩) (HKX.out g (by omega))).trans c1);have C2:=sH ((zJ (a:=⟨g,2,none⟩) (HKX.out g (by omega))).trans c2);go_region
   generalize World.drew _=w9 at HBX HXX HKX C1 C2 ⊢;clear hs1 k0 k1 k2 k3 k4 kf0 kf1 kf2 kf3 kf4 c0 c1 c2 c3 HKX;have hX9s:=HXX.out.size;have hl9:=HBX.out.lt;have k4:w9.cell? ⟨g2,4,none⟩=some (.slice A1 m4 d4):=HBX.out.cell 4;by_cases m0:m4=0
   ·subst m0;go_upto_region 13 with fail
    clear k4;by_cases hl0:0<l0
    ·have hl0I:(0:Int)<(l0:Int):=by omega
     have k0:w9.cell? ⟨g2,0,none⟩=some (.int .i64 (l0:Int)):=HBX.out.cell 0;have k1:w9.cell? ⟨g2,1,none⟩=some (.int .i64 (l1:Int)):=HBX.out.cell 1;have k2:w9.cell? ⟨g2,2,none⟩=some (.slice none 0 0):=HBX.out.cell 2;have k3:w9.cell? ⟨g2,3,none⟩=some (.int .i64 (l2:Int)):=HBX.out.cell 3;have k4:w9.cell? ⟨g2,4,none⟩=some (.slice A1 0 d4):=HBX.out.cell 4;have kf0:w9.frozen? ⟨g2,0,none⟩=false:=HBX.out.frozen 0;have kf1:w9.frozen? ⟨g2,1,none⟩=false:=HBX.out.frozen 1;have kf2:w9.frozen? ⟨g2,2,none⟩=false:=HBX.out.frozen 2;have kf3:w9.frozen? ⟨g2,3,none⟩=false:=HBX.out.frozen 3;have kf4:w9.frozen? ⟨g2,4,none⟩=false:=HBX.out.frozen 4;have c1:=C1.out;have c2:=C2.out;obtain⟨hB8,hX8,hk8⟩:=Q1o HBX.out HXX.out hgw (.int .i64 (l0:Int)) (.int .i64 (l1:Int)) (.slice none 0 0) (.int .i64 (l2:Int)) (.slice A1 0 d4) _ rfl;have HB8:=sH hB8;have HX8:=sH hX8;have HK8:=sH hk8;clear hB8 hX8 hk8;go_upto_region 13 with fail
     go_region
     generalize World.drew _=w8 at HB8 HX8 HK8 ⊢;clear k0 k1 k2 k3 k4 kf0 kf1 kf2 kf3 kf4 c1 c2;go_wp2_with fail
     refine bodyPost_ret (Q09 rfl _ _ g2 5 102 _ _ rfl HB8.out zP rfl rfl rfl) rfl ?_;have ho:o=some (l0,⟨l1,[],l2,ns⟩):=HGD.out (fun hb=>by
      have:=HBD.out.1 hb;rcases this with q | q | q | q
      ·exact hb1 q
      ·have:=HL1.out; omega
      ·exact absurd q.1 (by have:=HN4.out.2 (by simp); omega)
      exact q (.inl hl0))
     subst ho;have hbl:=HX8.out;refine⟨hbl,(fun q=>by cases q),fun x hx=>?_⟩;obtain rfl:=zN hx;refine⟨A1,d4,?_,?_,?_,hdm,fun a h0 ha=>?_⟩
     ·show _=Ending.returned (.tuple #[.agg #[_,_,_,_,.slice A1 ns.length d4],.bool true]);rw [HLEN.out];rfl
     ·intro W hW;show Q08 W _ 1 A1 ns.length (ns.map vn);rw [HLEN.out];exact HR1.out W hW
     ·show ns.length<=d4;rw [HLEN.out]; exact hmd
     rw [HA1.out a ha]; rfl
    have hl0I:¬ (0:Int)<(l0:Int):=by omega
    by_cases hl2:l2=0
    ·have hl2b:((l2:Int) == 0)=true:=by simp [hl2]
     have HL2:=sH hl2;clear hl2;have k0:w9.cell? ⟨g2,0,none⟩=some (.int .i64 (l0:Int)):=HBX.out.cell 0;have k1:w9.cell? ⟨g2,1,none⟩=some (.int .i64 (l1:Int)):=HBX.out.cell 1;have k2:w9.cell? ⟨g2,2,none⟩=some (.slice none 0 0):=HBX.out.cell 2;have k3:w9.cell? ⟨g2,3,none⟩=some (.int .i64 (l2:Int)):=HBX.out.cell 3;have k4:w9.cell? ⟨g2,4,none⟩=some (.slice A1 0 d4):=HBX.out.cell 4;have kf0:w9.frozen? ⟨g2,0,none⟩=false:=HBX.out.frozen 0;have kf1:w9.frozen? ⟨g2,1,none⟩=false:=HBX.out.frozen 1;have kf2:w9.frozen? ⟨g2,2,none⟩=false:=HBX.out.frozen 2;have kf3:w9.frozen? ⟨g2,3,none⟩=false:=HBX.out.frozen 3;have kf4:w9.frozen? ⟨g2,4,none⟩=false:=HBX.out.frozen 4;have c1:=C1.out;have c2:=C2.out;obtain⟨hB8,hX8,hk8⟩:=Q1o HBX.out HXX.out hgw (.int .i64 (l0:Int)) (.int .i64 (l1:Int)) (.slice none 0 0) (.int .i64 (l2:Int)) (.slice A1 0 d4) _ rfl;have HB8:=sH hB8;have HX8:=sH hX8;have HK8:=sH hk8;clear hB8 hX8 hk8;go_upto_region 13 with fail
     go_region
     generalize World.drew _=w8 at HB8 HX8 HK8 ⊢;clear k0 k1 k2 k3 k4 kf0 kf1 kf2 kf3 kf4 c1 c2;go_wp2_with fail
     refine bodyPost_ret (Q09 rfl _ _ g2 5 102 _ _ rfl HB8.out zP rfl rfl rfl) rfl ?_;have ho:o=some (l0,⟨l1,[],l2,ns⟩):=HGD.out (fun hb=>by
      have:=HBD.out.1 hb;rcases this with q | q | q | q
      ·exact hb1 q
      ·have:=HL1.out; omega
      ·exact absurd q.1 (by have:=HN4.out.2 (by simp); omega)
      exact q (.inr ⟨HL1.out,HL2.out,HN4.out.2 (by simp)⟩))
     subst ho;have hbl:=HX8.out;refine⟨hbl,(fun q=>by cases q),fun x hx=>?_⟩;obtain rfl:=zN hx;refine⟨A1,d4,?_,?_,?_,hdm,fun a h0 ha=>?_⟩
     ·show _=Ending.returned (.tuple #[.agg #[_,_,_,_,.slice A1 ns.length d4],.bool true]);rw [HLEN.out];rfl
     ·intro W hW;show Q08 W _ 1 A1 ns.length (ns.map vn);rw [HLEN.out];exact HR1.out W hW
     ·show ns.length<=d4;rw [HLEN.out]; exact hmd
     rw [HA1.out a ha]; rfl
    have hl2b:((l2:Int) == 0)=false:=by simp [hl2]
    have k0:w9.cell? ⟨g2,0,none⟩=some (.int .i64 (l0:Int)):=HBX.out.cell 0;have k1:w9.cell? ⟨g2,1,none⟩=some (.int .i64 (l1:Int)):=HBX.out.cell 1;have k2:w9.cell? ⟨g2,2,none⟩=some (.slice none 0 0):=HBX.out.cell 2;have k3:w9.cell? ⟨g2,3,none⟩=some (.int .i64 (l2:Int)):=HBX.out.cell 3;have k4:w9.cell? ⟨g2,4,none⟩=some (.slice A1 0 d4):=HBX.out.cell 4;have kf0:w9.frozen? ⟨g2,0,none⟩=false:=HBX.out.frozen 0;have kf1:w9.frozen? ⟨g2,1,none⟩=false:=HBX.out.frozen 1;have kf2:w9.frozen? ⟨g2,2,none⟩=false:=HBX.out.frozen 2;have kf3:w9.frozen? ⟨g2,3,none⟩=false:=HBX.out.frozen 3;have kf4:w9.frozen? ⟨g2,4,none⟩=false:=HBX.out.frozen 4;have c1:=C1.out;have c2:=C2.out;obtain⟨hB8,hX8,hk8⟩:=Q1o HBX.out HXX.out hgw (.int .i64 (l0:Int)) (.int .i64 (l1:Int)) (.slice none 0 0) (.int .i64 (l2:Int)) (.slice A1 0 d4) _ rfl;have HB8:=sH hB8;have HX8:=sH hX8;have HK8:=sH hk8;clear hB8 hX8 hk8;go_upto_region 13 with fail
    go_region
    generalize World.drew _=w8 at HB8 HX8 HK8 ⊢;clear k0 k1 k2 k3 k4 kf0 kf1 kf2 kf3 kf4 c1 c2;go_wp2_with fail
    refine bodyPost_ret (Q09 rfl _ _ g2 5 102 _ _ rfl HB8.out zP rfl rfl rfl) rfl ?_;have ho:o=none:=by rw [HO.out,Q19 (HBD.out.2 (.inr (.inr (.inr (fun q=>by omega)))))]
    subst ho;exact⟨HX8.out,fun _=>⟨_,rfl,rfl,by simp [zL]⟩,fun q hq=>by cases hq⟩
   have hm4I:(0:Int)<(m4:Int):=by omega
   have hm40:((m4:Int) == 0)=false:=by simp [m0]
   have HCK:=sH (Q5Q (Q39 1 ns) none 0 0 A1 m4 d4 w9 w9.heap.size ⟨Q08.none_,by simp,by simp,HR2.out w9 HXX.out,by omega,by omega,⟨by show I64 0; unfold I64; omega,by show I64 0; unfold I64; omega,by show I64 ((1:Nat):Int); unfold I64; omega,by show I64 0; unfold I64; omega,by show I64 5; unfold I64; omega,by show I64 0; unfold I64; omega,by show I64 0; unfold I64; omega,by show I64 0; unfold I64; omega,HMN.out⟩⟩ (zF _));rw [Q2U (by omega) (by omega)] at HCK;obtain⟨cb,hcb⟩:∃ b,b=Q1C ns:=⟨_,rfl⟩;rw [<- hcb] at HCK;have HCB:=sH hcb.symm;clear hcb;unfold Q39 Q06 at HCK;go_wp2_with fail
   refine HCK.out.mono ?_;rintro _ w10 ⟨rfl,hb10⟩;have HB9':=sH (HBX.out.below' hb10);have HX9':=sH (HXX.out.trans (hb10.mono hX9s));have C1':=sH ((hb10.cell (p:=⟨g,1,none⟩) (by show g<_; omega)).trans C1.out);have C2':=sH ((hb10.cell (p:=⟨g,2,none⟩) (by show g<_; omega)).trans C2.out);clear hb10 HCK HBX HXX C1 C2 k4
   rename Hid (Blk w10 g2 102 _)=>HBX
   rename Hid (zD w.heap.size w w10)=>HXX
   rename Hid (w10.cell? ⟨g,1,none⟩=_)=>C1
   rename Hid (w10.cell? ⟨g,2,none⟩=_)=>C2
   cases cb with
   | true =>
    simp only [if_true];go_upto_region 13 with fail
    by_cases hl0:0<l0
    ·have hl0I:(0:Int)<(l0:Int):=by omega
     have k0:w10.cell? ⟨g2,0,none⟩=some (.int .i64 (l0:Int)):=HBX.out.cell 0;have k1:w10.cell? ⟨g2,1,none⟩=some (.int .i64 (l1:Int)):=HBX.out.cell 1;have k2:w10.cell? ⟨g2,2,none⟩=some (.slice none 0 0):=HBX.out.cell 2;have k3:w10.cell? ⟨g2,3,none⟩=some (.int .i64 (l2:Int)):=HBX.out.cell 3;have k4:w10.cell? ⟨g2,4,none⟩=some (.slice A1 m4 d4):=HBX.out.cell 4;have kf0:w10.frozen? ⟨g2,0,none⟩=false:=HBX.out.frozen 0;have kf1:w10.frozen? ⟨g2,1,none⟩=false:=HBX.out.frozen 1;have kf2:w10.frozen? ⟨g2,2,none⟩=false:=HBX.out.frozen 2;have kf3:w10.frozen? ⟨g2,3,none⟩=false:=HBX.out.frozen 3;have kf4:w10.frozen? ⟨g2,4,none⟩=false:=HBX.out.frozen 4;have c1:=C1.out;have c2:=C2.out;obtain⟨hB8,hX8,hk8⟩:=Q1o HBX.out HXX.out hgw (.int .i64 (l0:Int)) (.int .i64 (l1:Int)) (.slice none 0 0) (.int .i64 (l2:Int)) (.slice A1 m4 d4) _ rfl;have HB8:=sH hB8;have HX8:=sH hX8;have HK8:=sH hk8;clear hB8 hX8 hk8;go_upto_region 13 with fail
     go_region
     generalize World.drew _=w8 at HB8 HX8 HK8 ⊢;clear k0 k1 k2 k3 k4 kf0 kf1 kf2 kf3 kf4 c1 c2;go_wp2_with fail
     refine bodyPost_ret (Q09 rfl _ _ g2 5 102 _ _ rfl HB8.out zP rfl rfl rfl) rfl ?_;have ho:o=some (l0,⟨l1,[],l2,ns⟩):=HGD.out (fun hb=>by
      have:=HBD.out.1 hb;rcases this with q | q | q | q
      ·exact hb1 q
      ·have:=HL1.out; omega
      ·rw [HCB.out] at q; exact absurd q.2 (by simp)
      exact q (.inl hl0))
     subst ho;have hbl:=HX8.out;refine⟨hbl,(fun q=>by cases q),fun x hx=>?_⟩;obtain rfl:=zN hx;refine⟨A1,d4,?_,?_,?_,hdm,fun a h0 ha=>?_⟩
     ·show _=Ending.returned (.tuple #[.agg #[_,_,_,_,.slice A1 ns.length d4],.bool true]);rw [HLEN.out];rfl
     ·intro W hW;show Q08 W _ 1 A1 ns.length (ns.map vn);rw [HLEN.out];exact HR1.out W hW
     ·show ns.length<=d4;rw [HLEN.out]; exact hmd
     rw [HA1.out a ha]; rfl
    have hl0I:¬ (0:Int)<(l0:Int):=by omega
    by_cases hl2:l2=0
    ·have hl2b:((l2:Int) == 0)=true:=by simp [hl2]
     have HL2:=sH hl2;clear hl2;have k0:w10.cell? ⟨g2,0,none⟩=some (.int .i64 (l0:Int)):=HBX.out.cell 0;have k1:w10.cell? ⟨g2,1,none⟩=some (.int .i64 (l1:Int)):=HBX.out.cell 1;have k2:w10.cell? ⟨g2,2,none⟩=some (.slice none 0 0):=HBX.out.cell 2;have k3:w10.cell? ⟨g2,3,none⟩=some (.int .i64 (l2:Int)):=HBX.out.cell 3;have k4:w10.cell? ⟨g2,4,none⟩=some (.slice A1 m4 d4):=HBX.out.cell 4;have kf0:w10.frozen? ⟨g2,0,none⟩=false:=HBX.out.frozen 0;have kf1:w10.frozen? ⟨g2,1,none⟩=false:=HBX.out.frozen 1;have kf2:w10.frozen? ⟨g2,2,none⟩=false:=HBX.out.frozen 2;have kf3:w10.frozen? ⟨g2,3,none⟩=false:=HBX.out.frozen 3;have kf4:w10.frozen? ⟨g2,4,none⟩=false:=HBX.out.frozen 4;have c1:=C1.out;have c2:=C2.out;obtain⟨hB8,hX8,hk8⟩:=Q1o HBX.out HXX.out hgw (.int .i64 (l0:Int)) (.int .i64 (l1:Int)) (.slice none 0 0) (.int .i64 (l2:Int)) (.slice A1 m4 d4) _ rfl;have HB8:=sH hB8;have HX8:=sH hX8;have HK8:=sH hk8;clear hB8 hX8 hk8;go_upto_region 13 with fail
     go_region
     generalize World.drew _=w8 at HB8 HX8 HK8 ⊢;clear k0 k1 k2 k3 k4 kf0 kf1 kf2 kf3 kf4 c1 c2;go_wp2_with fail
     refine bodyPost_ret (Q09 rfl _ _ g2 5 102 _ _ rfl HB8.out zP rfl rfl rfl) rfl ?_;have ho:o=none:=by rw [HO.out,Q19 (HBD.out.2 (.inr (.inr (.inr (fun q=>by have:=HN4.out; omega)))))]
     subst ho;exact⟨HX8.out,fun _=>⟨_,rfl,rfl,by simp [zL]⟩,fun q hq=>by cases hq⟩
    have hl2b:((l2:Int) == 0)=false:=by simp [hl2]
    have k0:w10.cell? ⟨g2,0,none⟩=some (.int .i64 (l0:Int)):=HBX.out.cell 0;have k1:w10.cell? ⟨g2,1,none⟩=some (.int .i64 (l1:Int)):=HBX.out.cell 1;have k2:w10.cell? ⟨g2,2,none⟩=some (.slice none 0 0):=HBX.out.cell 2;have k3:w10.cell? ⟨g2,3,none⟩=some (.int .i64 (l2:Int)):=HBX.out.cell 3;have k4:w10.cell? ⟨g2,4,none⟩=some (.slice A1 m4 d4):=HBX.out.cell 4;have kf0:w10.frozen? ⟨g2,0,none⟩=false:=HBX.out.frozen 0;have kf1:w10.frozen? ⟨g2,1,none⟩=false:=HBX.out.frozen 1;have kf2:w10.frozen? ⟨g2,2,none⟩=false:=HBX.out.frozen 2;have kf3:w10.frozen? ⟨g2,3,none⟩=false:=HBX.out.frozen 3;have kf4:w10.frozen? ⟨g2,4,none⟩=false:=HBX.out.frozen 4;have c1:=C1.out;have c2:=C2.out;obtain⟨hB8,hX8,hk8⟩:=Q1o HBX.out HXX.out hgw (.int .i64 (l0:Int)) (.int .i64 (l1:Int)) (.slice none 0 0) (.int .i64 (l2:Int)) (.slice A1 m4 d4) _ rfl;have HB8:=sH hB8;have HX8:=sH hX8;have HK8:=sH hk8;clear hB8 hX8 hk8;go_upto_region 13 with fail
    go_region
    generalize World.drew _=w8 at HB8 HX8 HK8 ⊢;clear k0 k1 k2 k3 k4 kf0 kf1 kf2 kf3 kf4 c1 c2;go_wp2_with fail
    refine bodyPost_ret (Q09 rfl _ _ g2 5 102 _ _ rfl HB8.out zP rfl rfl rfl) rfl ?_;have ho:o=none:=by rw [HO.out,Q19 (HBD.out.2 (.inr (.inr (.inr (fun q=>by omega)))))]
    subst ho;exact⟨HX8.out,fun _=>⟨_,rfl,rfl,by simp [zL]⟩,fun q hq=>by cases hq⟩
   | false =>
    have ho:o=none:=by rw [HO.out,Q19 (HBD.out.2 (.inr (.inr (.inl ⟨by have:=HN4.out; omega,HCB.out⟩))))]
    subst ho;simp only [zM,if_false];go_wp2_with (refine Q00 (o:=⟨none,_,_,_,_,_⟩) rfl 102 (.tmp 2) (.tmp 57) rfl g2 0 Q0Z rfl rfl 102 _ HBX.out Q3C (by simp [Q0Z]) (by simp [Q0Z,zL]) ?_; intro w11 hT9 hD9)
    exact bodyPost_ret (Q09 rfl _ _ g2 5 102 _ _ rfl hD9 zP rfl rfl rfl) rfl ⟨hT9.below HXX.out hgw,fun _=>⟨_,rfl,rfl,by simp [Q0Z,spl,zL]⟩,fun q hq=>by cases hq⟩
  ·have hl1b:((l1:Int) == 5)=true:=by simp [hl1]
   have hl1b0:((l1:Int) == 0)=false:=by simp [hl1]
   have HL1:=sH hl1;clear hl1;go_upto_region 9 with fail
   have hs1:=fun W=>HS1.out W
   have k0:wc.cell? ⟨g2,0,none⟩=some (.int .i64 0):=HK.out.cell 0;have k1:wc.cell? ⟨g2,1,none⟩=some (.int .i64 0):=HK.out.cell 1;have k2:wc.cell? ⟨g2,2,none⟩=some (.slice none 0 0):=HK.out.cell 2;have k3:wc.cell? ⟨g2,3,none⟩=some (.int .i64 0):=HK.out.cell 3;have k4:wc.cell? ⟨g2,4,none⟩=some (.slice none 0 0):=HK.out.cell 4;have kf0:wc.frozen? ⟨g2,0,none⟩=false:=HK.out.frozen 0;have kf1:wc.frozen? ⟨g2,1,none⟩=false:=HK.out.frozen 1;have kf2:wc.frozen? ⟨g2,2,none⟩=false:=HK.out.frozen 2;have kf3:wc.frozen? ⟨g2,3,none⟩=false:=HK.out.frozen 3;have kf4:wc.frozen? ⟨g2,4,none⟩=false:=HK.out.frozen 4;obtain⟨hB9,hX9,hk9⟩:=Q1o HK.out HX.out hgw (.int .i64 (l0:Int)) (.int .i64 (l1:Int)) (.slice none 0 0) (.int .i64 (l2:Int)) (.slice A1 m4 d4) _ rfl;have HBX:=sH hB9;have HXX:=sH hX9;have HKX:=sH hk9;clear hB9 hX9 hk9;have C1:=sH ((zJ (a:=⟨g,1,none⟩) (HKX.out g (by omega))).trans c1);have C2:=sH ((zJ (a:=⟨g,2,none⟩) (HKX.out g (by omega))).trans c2);go_region
   generalize World.drew _=w9 at HBX HXX HKX C1 C2 ⊢;clear hs1 k0 k1 k2 k3 k4 kf0 kf1 kf2 kf3 kf4 c0 c1 c2 c3 HKX;have hX9s:=HXX.out.size;have hl9:=HBX.out.lt;have k4:w9.cell? ⟨g2,4,none⟩=some (.slice A1 m4 d4):=HBX.out.cell 4;by_cases m0:m4=0
   ·subst m0;go_upto_region 13 with fail
    clear k4;by_cases hl0:0<l0
    ·have hl0I:(0:Int)<(l0:Int):=by omega
     have k0:w9.cell? ⟨g2,0,none⟩=some (.int .i64 (l0:Int)):=HBX.out.cell 0;have k1:w9.cell? ⟨g2,1,none⟩=some (.int .i64 (l1:Int)):=HBX.out.cell 1;have k2:w9.cell? ⟨g2,2,none⟩=some (.slice none 0 0):=HBX.out.cell 2;have k3:w9.cell? ⟨g2,3,none⟩=some (.int .i64 (l2:Int)):=HBX.out.cell 3;have k4:w9.cell? ⟨g2,4,none⟩=some (.slice A1 0 d4):=HBX.out.cell 4;have kf0:w9.frozen? ⟨g2,0,none⟩=false:=HBX.out.frozen 0;have kf1:w9.frozen? ⟨g2,1,none⟩=false:=HBX.out.frozen 1;have kf2:w9.frozen? ⟨g2,2,none⟩=false:=HBX.out.frozen 2;have kf3:w9.frozen? ⟨g2,3,none⟩=false:=HBX.out.frozen 3;have kf4:w9.frozen? ⟨g2,4,none⟩=false:=HBX.out.frozen 4;have c1:=C1.out;have c2:=C2.out;obtain⟨hB8,hX8,hk8⟩:=Q1o HBX.out HXX.out hgw (.int .i64 (l0:Int)) (.int .i64 (l1:Int)) (.slice none 0 0) (.int .i64 (l2:Int)) (.slice A1 0 d4) _ rfl;have HB8:=sH hB8;have HX8:=sH hX8;have HK8:=sH hk8;clear hB8 hX8 hk8;go_upto_region 13 with fail
     go_region
     generalize World.drew _=w8 at HB8 HX8 HK8 ⊢;clear k0 k1 k2 k3 k4 kf0 kf1 kf2 kf3 kf4 c1 c2;go_wp2_with fail
     refine bodyPost_ret (Q09 rfl _ _ g2 5 102 _ _ rfl HB8.out zP rfl rfl rfl) rfl ?_;have ho:o=some (l0,⟨l1,[],l2,ns⟩):=HGD.out (fun hb=>by
      have:=HBD.out.1 hb;rcases this with q | q | q | q
      ·exact hb1 q
      ·have:=HL1.out; omega
      ·exact absurd q.1 (by have:=HN4.out.2 (by simp); omega)
      exact q (.inl hl0))
     subst ho;have hbl:=HX8.out;refine⟨hbl,(fun q=>by cases q),fun x hx=>?_⟩;obtain rfl:=zN hx;refine⟨A1,d4,?_,?_,?_,hdm,fun a h0 ha=>?_⟩
     ·show _=Ending.returned (.tuple #[.agg #[_,_,_,_,.slice A1 ns.length d4],.bool true]);rw [HLEN.out];rfl
     ·intro W hW;show Q08 W _ 1 A1 ns.length (ns.map vn);rw [HLEN.out];exact HR1.out W hW
     ·show ns.length<=d4;rw [HLEN.out]; exact hmd
     rw [HA1.out a ha]; rfl
    have hl0I:¬ (0:Int)<(l0:Int):=by omega
    have k0:w9.cell? ⟨g2,0,none⟩=some (.int .i64 (l0:Int)):=HBX.out.cell 0;have k1:w9.cell? ⟨g2,1,none⟩=some (.int .i64 (l1:Int)):=HBX.out.cell 1;have k2:w9.cell? ⟨g2,2,none⟩=some (.slice none 0 0):=HBX.out.cell 2;have k3:w9.cell? ⟨g2,3,none⟩=some (.int .i64 (l2:Int)):=HBX.out.cell 3;have k4:w9.cell? ⟨g2,4,none⟩=some (.slice A1 0 d4):=HBX.out.cell 4;have kf0:w9.frozen? ⟨g2,0,none⟩=false:=HBX.out.frozen 0;have kf1:w9.frozen? ⟨g2,1,none⟩=false:=HBX.out.frozen 1;have kf2:w9.frozen? ⟨g2,2,none⟩=false:=HBX.out.frozen 2;have kf3:w9.frozen? ⟨g2,3,none⟩=false:=HBX.out.frozen 3;have kf4:w9.frozen? ⟨g2,4,none⟩=false:=HBX.out.frozen 4;have c1:=C1.out;have c2:=C2.out;obtain⟨hB8,hX8,hk8⟩:=Q1o HBX.out HXX.out hgw (.int .i64 (l0:Int)) (.int .i64 (l1:Int)) (.slice none 0 0) (.int .i64 (l2:Int)) (.slice A1 0 d4) _ rfl;have HB8:=sH hB8;have HX8:=sH hX8;have HK8:=sH hk8;clear hB8 hX8 hk8;go_upto_region 13 with fail
    go_region
    generalize World.drew _=w8 at HB8 HX8 HK8 ⊢;clear k0 k1 k2 k3 k4 kf0 kf1 kf2 kf3 kf4 c1 c2;go_wp2_with fail
    refine bodyPost_ret (Q09 rfl _ _ g2 5 102 _ _ rfl HB8.out zP rfl rfl rfl) rfl ?_;have ho:o=none:=by rw [HO.out,Q19 (HBD.out.2 (.inr (.inr (.inr (fun q=>by have:=HL1.out; omega)))))]
    subst ho;exact⟨HX8.out,fun _=>⟨_,rfl,rfl,by simp [zL]⟩,fun q hq=>by cases hq⟩
   have hm4I:(0:Int)<(m4:Int):=by omega
   have hm40:((m4:Int) == 0)=false:=by simp [m0]
   have HCK:=sH (Q5Q (Q39 1 ns) none 0 0 A1 m4 d4 w9 w9.heap.size ⟨Q08.none_,by simp,by simp,HR2.out w9 HXX.out,by omega,by omega,⟨by show I64 0; unfold I64; omega,by show I64 0; unfold I64; omega,by show I64 ((1:Nat):Int); unfold I64; omega,by show I64 0; unfold I64; omega,by show I64 5; unfold I64; omega,by show I64 0; unfold I64; omega,by show I64 0; unfold I64; omega,by show I64 0; unfold I64; omega,HMN.out⟩⟩ (zF _));rw [Q2U (by omega) (by omega)] at HCK;obtain⟨cb,hcb⟩:∃ b,b=Q1C ns:=⟨_,rfl⟩;rw [<- hcb] at HCK;have HCB:=sH hcb.symm;clear hcb;unfold Q39 Q06 at HCK;go_wp2_with fail
   refine HCK.out.mono ?_;rintro _ w10 ⟨rfl,hb10⟩;have HB9':=sH (HBX.out.below' hb10);have HX9':=sH (HXX.out.trans (hb10.mono hX9s));have C1':=sH ((hb10.cell (p:=⟨g,1,none⟩) (by show g<_; omega)).trans C1.out);have C2':=sH ((hb10.cell (p:=⟨g,2,none⟩) (by show g<_; omega)).trans C2.out);clear hb10 HCK HBX HXX C1 C2 k4
   rename Hid (Blk w10 g2 102 _)=>HBX
   rename Hid (zD w.heap.size w w10)=>HXX
   rename Hid (w10.cell? ⟨g,1,none⟩=_)=>C1
   rename Hid (w10.cell? ⟨g,2,none⟩=_)=>C2
   cases cb with
   | true =>
    simp only [if_true];go_upto_region 13 with fail
    by_cases hl0:0<l0
    ·have hl0I:(0:Int)<(l0:Int):=by omega
     have k0:w10.cell? ⟨g2,0,none⟩=some (.int .i64 (l0:Int)):=HBX.out.cell 0;have k1:w10.cell? ⟨g2,1,none⟩=some (.int .i64 (l1:Int)):=HBX.out.cell 1;have k2:w10.cell? ⟨g2,2,none⟩=some (.slice none 0 0):=HBX.out.cell 2;have k3:w10.cell? ⟨g2,3,none⟩=some (.int .i64 (l2:Int)):=HBX.out.cell 3;have k4:w10.cell? ⟨g2,4,none⟩=some (.slice A1 m4 d4):=HBX.out.cell 4;have kf0:w10.frozen? ⟨g2,0,none⟩=false:=HBX.out.frozen 0;have kf1:w10.frozen? ⟨g2,1,none⟩=false:=HBX.out.frozen 1;have kf2:w10.frozen? ⟨g2,2,none⟩=false:=HBX.out.frozen 2;have kf3:w10.frozen? ⟨g2,3,none⟩=false:=HBX.out.frozen 3;have kf4:w10.frozen? ⟨g2,4,none⟩=false:=HBX.out.frozen 4;have c1:=C1.out;have c2:=C2.out;obtain⟨hB8,hX8,hk8⟩:=Q1o HBX.out HXX.out hgw (.int .i64 (l0:Int)) (.int .i64 (l1:Int)) (.slice none 0 0) (.int .i64 (l2:Int)) (.slice A1 m4 d4) _ rfl;have HB8:=sH hB8;have HX8:=sH hX8;have HK8:=sH hk8;clear hB8 hX8 hk8;go_upto_region 13 with fail
     go_region
     generalize World.drew _=w8 at HB8 HX8 HK8 ⊢;clear k0 k1 k2 k3 k4 kf0 kf1 kf2 kf3 kf4 c1 c2;go_wp2_with fail
     refine bodyPost_ret (Q09 rfl _ _ g2 5 102 _ _ rfl HB8.out zP rfl rfl rfl) rfl ?_;have ho:o=some (l0,⟨l1,[],l2,ns⟩):=HGD.out (fun hb=>by
      have:=HBD.out.1 hb;rcases this with q | q | q | q
      ·exact hb1 q
      ·have:=HL1.out; omega
      ·rw [HCB.out] at q; exact absurd q.2 (by simp)
      exact q (.inl hl0))
     subst ho;have hbl:=HX8.out;refine⟨hbl,(fun q=>by cases q),fun x hx=>?_⟩;obtain rfl:=zN hx;refine⟨A1,d4,?_,?_,?_,hdm,fun a h0 ha=>?_⟩
     ·show _=Ending.returned (.tuple #[.agg #[_,_,_,_,.slice A1 ns.length d4],.bool true]);rw [HLEN.out];rfl
     ·intro W hW;show Q08 W _ 1 A1 ns.length (ns.map vn);rw [HLEN.out];exact HR1.out W hW
     ·show ns.length<=d4;rw [HLEN.out]; exact hmd
     rw [HA1.out a ha]; rfl
    have hl0I:¬ (0:Int)<(l0:Int):=by omega
    have k0:w10.cell? ⟨g2,0,none⟩=some (.int .i64 (l0:Int)):=HBX.out.cell 0;have k1:w10.cell? ⟨g2,1,none⟩=some (.int .i64 (l1:Int)):=HBX.out.cell 1;have k2:w10.cell? ⟨g2,2,none⟩=some (.slice none 0 0):=HBX.out.cell 2;have k3:w10.cell? ⟨g2,3,none⟩=some (.int .i64 (l2:Int)):=HBX.out.cell 3;have k4:w10.cell? ⟨g2,4,none⟩=some (.slice A1 m4 d4):=HBX.out.cell 4;have kf0:w10.frozen? ⟨g2,0,none⟩=false:=HBX.out.frozen 0;have kf1:w10.frozen? ⟨g2,1,none⟩=false:=HBX.out.frozen 1;have kf2:w10.frozen? ⟨g2,2,none⟩=false:=HBX.out.frozen 2;have kf3:w10.frozen? ⟨g2,3,none⟩=false:=HBX.out.frozen 3;have kf4:w10.frozen? ⟨g2,4,none⟩=false:=HBX.out.frozen 4;have c1:=C1.out;have c2:=C2.out;obtain⟨hB8,hX8,hk8⟩:=Q1o HBX.out HXX.out hgw (.int .i64 (l0:Int)) (.int .i64 (l1:Int)) (.slice none 0 0) (.int .i64 (l2:Int)) (.slice A1 m4 d4) _ rfl;have HB8:=sH hB8;have HX8:=sH hX8;have HK8:=sH hk8;clear hB8 hX8 hk8;go_upto_region 13 with fail
    go_region
    generalize World.drew _=w8 at HB8 HX8 HK8 ⊢;clear k0 k1 k2 k3 k4 kf0 kf1 kf2 kf3 kf4 c1 c2;go_wp2_with fail
    refine bodyPost_ret (Q09 rfl _ _ g2 5 102 _ _ rfl HB8.out zP rfl rfl rfl) rfl ?_;have ho:o=none:=by rw [HO.out,Q19 (HBD.out.2 (.inr (.inr (.inr (fun q=>by have:=HL1.out; omega)))))]
    subst ho;exact⟨HX8.out,fun _=>⟨_,rfl,rfl,by simp [zL]⟩,fun q hq=>by cases hq⟩
   | false =>
    have ho:o=none:=by rw [HO.out,Q19 (HBD.out.2 (.inr (.inr (.inl ⟨by have:=HN4.out; omega,HCB.out⟩))))]
    subst ho;simp only [zM,if_false];go_wp2_with (refine Q00 (o:=⟨none,_,_,_,_,_⟩) rfl 102 (.tmp 2) (.tmp 57) rfl g2 0 Q0Z rfl rfl 102 _ HBX.out Q3C (by simp [Q0Z]) (by simp [Q0Z,zL]) ?_; intro w11 hT9 hD9)
    exact bodyPost_ret (Q09 rfl _ _ g2 5 102 _ _ rfl hD9 zP rfl rfl rfl) rfl ⟨hT9.below HXX.out hgw,fun _=>⟨_,rfl,rfl,by simp [Q0Z,spl,zL]⟩,fun q hq=>by cases hq⟩
  have hl1b:((l1:Int) == 180)=true:=by simp [hl1]
  have hl1b0:((l1:Int) == 0)=false:=by simp [hl1]
  have hl1b5:((l1:Int) == 5)=false:=by simp [hl1]
  have HL1:=sH hl1;clear hl1;go_upto_region 9 with fail
  have hs1:=fun W=>HS1.out W
  have k0:wc.cell? ⟨g2,0,none⟩=some (.int .i64 0):=HK.out.cell 0;have k1:wc.cell? ⟨g2,1,none⟩=some (.int .i64 0):=HK.out.cell 1;have k2:wc.cell? ⟨g2,2,none⟩=some (.slice none 0 0):=HK.out.cell 2;have k3:wc.cell? ⟨g2,3,none⟩=some (.int .i64 0):=HK.out.cell 3;have k4:wc.cell? ⟨g2,4,none⟩=some (.slice none 0 0):=HK.out.cell 4;have kf0:wc.frozen? ⟨g2,0,none⟩=false:=HK.out.frozen 0;have kf1:wc.frozen? ⟨g2,1,none⟩=false:=HK.out.frozen 1;have kf2:wc.frozen? ⟨g2,2,none⟩=false:=HK.out.frozen 2;have kf3:wc.frozen? ⟨g2,3,none⟩=false:=HK.out.frozen 3;have kf4:wc.frozen? ⟨g2,4,none⟩=false:=HK.out.frozen 4;obtain⟨hB9,hX9,hk9⟩:=Q1o HK.out HX.out hgw (.int .i64 (l0:Int)) (.int .i64 (l1:Int)) (.slice none 0 0) (.int .i64 (l2:Int)) (.slice A1 m4 d4) _ rfl;have HBX:=sH hB9;have HXX:=sH hX9;have HKX:=sH hk9;clear hB9 hX9 hk9;have C1:=sH ((zJ (a:=⟨g,1,none⟩) (HKX.out g (by omega))).trans c1);have C2:=sH ((zJ (a:=⟨g,2,none⟩) (HKX.out g (by omega))).trans c2);go_region
  generalize World.drew _=w9 at HBX HXX HKX C1 C2 ⊢;clear hs1 k0 k1 k2 k3 k4 kf0 kf1 kf2 kf3 kf4 c0 c1 c2 c3 HKX;have hX9s:=HXX.out.size;have hl9:=HBX.out.lt;have k4:w9.cell? ⟨g2,4,none⟩=some (.slice A1 m4 d4):=HBX.out.cell 4;by_cases m0:m4=0
  ·subst m0;go_upto_region 13 with fail
   clear k4;by_cases hl0:0<l0
   ·have hl0I:(0:Int)<(l0:Int):=by omega
    have k0:w9.cell? ⟨g2,0,none⟩=some (.int .i64 (l0:Int)):=HBX.out.cell 0;have k1:w9.cell? ⟨g2,1,none⟩=some (.int .i64 (l1:Int)):=HBX.out.cell 1;have k2:w9.cell? ⟨g2,2,none⟩=some (.slice none 0 0):=HBX.out.cell 2;have k3:w9.cell? ⟨g2,3,none⟩=some (.int .i64 (l2:Int)):=HBX.out.cell 3;have k4:w9.cell? ⟨g2,4,none⟩=some (.slice A1 0 d4):=HBX.out.cell 4;have kf0:w9.frozen? ⟨g2,0,none⟩=false:=HBX.out.frozen 0;have kf1:w9.frozen? ⟨g2,1,none⟩=false:=HBX.out.frozen 1;have kf2:w9.frozen? ⟨g2,2,none⟩=false:=HBX.out.frozen 2;have kf3:w9.frozen? ⟨g2,3,none⟩=false:=HBX.out.frozen 3;have kf4:w9.frozen? ⟨g2,4,none⟩=false:=HBX.out.frozen 4;have c1:=C1.out;have c2:=C2.out;obtain⟨hB8,hX8,hk8⟩:=Q1o HBX.out HXX.out hgw (.int .i64 (l0:Int)) (.int .i64 (l1:Int)) (.slice none 0 0) (.int .i64 (l2:Int)) (.slice A1 0 d4) _ rfl;have HB8:=sH hB8;have HX8:=sH hX8;have HK8:=sH hk8;clear hB8 hX8 hk8;go_upto_region 13 with fail
    go_region
    generalize World.drew _=w8 at HB8 HX8 HK8 ⊢;clear k0 k1 k2 k3 k4 kf0 kf1 kf2 kf3 kf4 c1 c2;go_wp2_with fail
    refine bodyPost_ret (Q09 rfl _ _ g2 5 102 _ _ rfl HB8.out zP rfl rfl rfl) rfl ?_;have ho:o=some (l0,⟨l1,[],l2,ns⟩):=HGD.out (fun hb=>by
     have:=HBD.out.1 hb;rcases this with q | q | q | q
     ·exact hb1 q
     ·have:=HL1.out; omega
     ·exact absurd q.1 (by have:=HN4.out.2 (by simp); omega)
     exact q (.inl hl0))
    subst ho;have hbl:=HX8.out;refine⟨hbl,(fun q=>by cases q),fun x hx=>?_⟩;obtain rfl:=zN hx;refine⟨A1,d4,?_,?_,?_,hdm,fun a h0 ha=>?_⟩
    ·show _=Ending.returned (.tuple #[.agg #[_,_,_,_,.slice A1 ns.length d4],.bool true]);rw [HLEN.out];rfl
    ·intro W hW;show Q08 W _ 1 A1 ns.length (ns.map vn);rw [HLEN.out];exact HR1.out W hW
    ·show ns.length<=d4;rw [HLEN.out]; exact hmd
    rw [HA1.out a ha]; rfl
   have hl0I:¬ (0:Int)<(l0:Int):=by omega
   have k0:w9.cell? ⟨g2,0,none⟩=some (.int .i64 (l0:Int)):=HBX.out.cell 0;have k1:w9.cell? ⟨g2,1,none⟩=some (.int .i64 (l1:Int)):=HBX.out.cell 1;have k2:w9.cell? ⟨g2,2,none⟩=some (.slice none 0 0):=HBX.out.cell 2;have k3:w9.cell? ⟨g2,3,none⟩=some (.int .i64 (l2:Int)):=HBX.out.cell 3;have k4:w9.cell? ⟨g2,4,none⟩=some (.slice A1 0 d4):=HBX.out.cell 4;have kf0:w9.frozen? ⟨g2,0,none⟩=false:=HBX.out.frozen 0;have kf1:w9.frozen? ⟨g2,1,none⟩=false:=HBX.out.frozen 1;have kf2:w9.frozen? ⟨g2,2,none⟩=false:=HBX.out.frozen 2;have kf3:w9.frozen? ⟨g2,3,none⟩=false:=HBX.out.frozen 3;have kf4:w9.frozen? ⟨g2,4,none⟩=false:=HBX.out.frozen 4;have c1:=C1.out;have c2:=C2.out;obtain⟨hB8,hX8,hk8⟩:=Q1o HBX.out HXX.out hgw (.int .i64 (l0:Int)) (.int .i64 (l1:Int)) (.slice none 0 0) (.int .i64 (l2:Int)) (.slice A1 0 d4) _ rfl;have HB8:=sH hB8;have HX8:=sH hX8;have HK8:=sH hk8;clear hB8 hX8 hk8;go_upto_region 13 with fail
   go_region
   generalize World.drew _=w8 at HB8 HX8 HK8 ⊢;clear k0 k1 k2 k3 k4 kf0 kf1 kf2 kf3 kf4 c1 c2;go_wp2_with fail
   refine bodyPost_ret (Q09 rfl _ _ g2 5 102 _ _ rfl HB8.out zP rfl rfl rfl) rfl ?_;have ho:o=none:=by rw [HO.out,Q19 (HBD.out.2 (.inr (.inr (.inr (fun q=>by have:=HL1.out; omega)))))]
   subst ho;exact⟨HX8.out,fun _=>⟨_,rfl,rfl,by simp [zL]⟩,fun q hq=>by cases hq⟩
  have hm4I:(0:Int)<(m4:Int):=by omega
  have hm40:((m4:Int) == 0)=false:=by simp [m0]
  have HCK:=sH (Q5Q (Q39 1 ns) none 0 0 A1 m4 d4 w9 w9.heap.size ⟨Q08.none_,by simp,by simp,HR2.out w9 HXX.out,by omega,by omega,⟨by show I64 0; unfold I64; omega,by show I64 0; unfold I64; omega,by show I64 ((1:Nat):Int); unfold I64; omega,by show I64 0; unfold I64; omega,by show I64 5; unfold I64; omega,by show I64 0; unfold I64; omega,by show I64 0; unfold I64; omega,by show I64 0; unfold I64; omega,HMN.out⟩⟩ (zF _));rw [Q2U (by omega) (by omega)] at HCK;obtain⟨cb,hcb⟩:∃ b,b=Q1C ns:=⟨_,rfl⟩;rw [<- hcb] at HCK;have HCB:=sH hcb.symm;clear hcb;unfold Q39 Q06 at HCK;go_wp2_with fail
  refine HCK.out.mono ?_;rintro _ w10 ⟨rfl,hb10⟩;have HB9':=sH (HBX.out.below' hb10);have HX9':=sH (HXX.out.trans (hb10.mono hX9s));have C1':=sH ((hb10.cell (p:=⟨g,1,none⟩) (by show g<_; omega)).trans C1.out);have C2':=sH ((hb10.cell (p:=⟨g,2,none⟩) (by show g<_; omega)).trans C2.out);clear hb10 HCK HBX HXX C1 C2 k4
  rename Hid (Blk w10 g2 102 _)=>HBX
  rename Hid (zD w.heap.size w w10)=>HXX
  rename Hid (w10.cell? ⟨g,1,none⟩=_)=>C1
  rename Hid (w10.cell? ⟨g,2,none⟩=_)=>C2
  cases cb with
  | true =>
   simp only [if_true];go_upto_region 13 with fail
   by_cases hl0:0<l0
   ·have hl0I:(0:Int)<(l0:Int):=by omega
    have k0:w10.cell? ⟨g2,0,none⟩=some (.int .i64 (l0:Int)):=HBX.out.cell 0;have k1:w10.cell? ⟨g2,1,none⟩=some (.int .i64 (l1:Int)):=HBX.out.cell 1;have k2:w10.cell? ⟨g2,2,none⟩=some (.slice none 0 0):=HBX.out.cell 2;have k3:w10.cell? ⟨g2,3,none⟩=some (.int .i64 (l2:Int)):=HBX.out.cell 3;have k4:w10.cell? ⟨g2,4,none⟩=some (.slice A1 m4 d4):=HBX.out.cell 4;have kf0:w10.frozen? ⟨g2,0,none⟩=false:=HBX.out.frozen 0;have kf1:w10.frozen? ⟨g2,1,none⟩=false:=HBX.out.frozen 1;have kf2:w10.frozen? ⟨g2,2,none⟩=false:=HBX.out.frozen 2;have kf3:w10.frozen? ⟨g2,3,none⟩=false:=HBX.out.frozen 3;have kf4:w10.frozen? ⟨g2,4,none⟩=false:=HBX.out.frozen 4;have c1:=C1.out;have c2:=C2.out;obtain⟨hB8,hX8,hk8⟩:=Q1o HBX.out HXX.out hgw (.int .i64 (l0:Int)) (.int .i64 (l1:Int)) (.slice none 0 0) (.int .i64 (l2:Int)) (.slice A1 m4 d4) _ rfl;have HB8:=sH hB8;have HX8:=sH hX8;have HK8:=sH hk8;clear hB8 hX8 hk8;go_upto_region 13 with fail
    go_region
    generalize World.drew _=w8 at HB8 HX8 HK8 ⊢;clear k0 k1 k2 k3 k4 kf0 kf1 kf2 kf3 kf4 c1 c2;go_wp2_with fail
    refine bodyPost_ret (Q09 rfl _ _ g2 5 102 _ _ rfl HB8.out zP rfl rfl rfl) rfl ?_;have ho:o=some (l0,⟨l1,[],l2,ns⟩):=HGD.out (fun hb=>by
     have:=HBD.out.1 hb;rcases this with q | q | q | q
     ·exact hb1 q
     ·have:=HL1.out; omega
     ·rw [HCB.out] at q; exact absurd q.2 (by simp)
     exact q (.inl hl0))
    subst ho;have hbl:=HX8.out;refine⟨hbl,(fun q=>by cases q),fun x hx=>?_⟩;obtain rfl:=zN hx;refine⟨A1,d4,?_,?_,?_,hdm,fun a h0 ha=>?_⟩
    ·show _=Ending.returned (.tuple #[.agg #[_,_,_,_,.slice A1 ns.length d4],.bool true]);rw [HLEN.out];rfl
    ·intro W hW;show Q08 W _ 1 A1 ns.length (ns.map vn);rw [HLEN.out];exact HR1.out W hW
    ·show ns.length<=d4;rw [HLEN.out]; exact hmd
    rw [HA1.out a ha]; rfl
   have hl0I:¬ (0:Int)<(l0:Int):=by omega
   have k0:w10.cell? ⟨g2,0,none⟩=some (.int .i64 (l0:Int)):=HBX.out.cell 0;have k1:w10.cell? ⟨g2,1,none⟩=some (.int .i64 (l1:Int)):=HBX.out.cell 1;have k2:w10.cell? ⟨g2,2,none⟩=some (.slice none 0 0):=HBX.out.cell 2;have k3:w10.cell? ⟨g2,3,none⟩=some (.int .i64 (l2:Int)):=HBX.out.cell 3;have k4:w10.cell? ⟨g2,4,none⟩=some (.slice A1 m4 d4):=HBX.out.cell 4;have kf0:w10.frozen? ⟨g2,0,none⟩=false:=HBX.out.frozen 0;have kf1:w10.frozen? ⟨g2,1,none⟩=false:=HBX.out.frozen 1;have kf2:w10.frozen? ⟨g2,2,none⟩=false:=HBX.out.frozen 2;have kf3:w10.frozen? ⟨g2,3,none⟩=false:=HBX.out.frozen 3;have kf4:w10.frozen? ⟨g2,4,none⟩=false:=HBX.out.frozen 4;have c1:=C1.out;have c2:=C2.out;obtain⟨hB8,hX8,hk8⟩:=Q1o HBX.out HXX.out hgw (.int .i64 (l0:Int)) (.int .i64 (l1:Int)) (.slice none 0 0) (.int .i64 (l2:Int)) (.slice A1 m4 d4) _ rfl;have HB8:=sH hB8;have HX8:=sH hX8;have HK8:=sH hk8;clear hB8 hX8 hk8;go_upto_region 13 with fail
   go_region
   generalize World.drew _=w8 at HB8 HX8 HK8 ⊢;clear k0 k1 k2 k3 k4 kf0 kf1 kf2 kf3 kf4 c1 c2;go_wp2_with fail
   refine bodyPost_ret (Q09 rfl _ _ g2 5 102 _ _ rfl HB8.out zP rfl rfl rfl) rfl ?_;have ho:o=none:=by rw [HO.out,Q19 (HBD.out.2 (.inr (.inr (.inr (fun q=>by have:=HL1.out; omega)))))]
   subst ho;exact⟨HX8.out,fun _=>⟨_,rfl,rfl,by simp [zL]⟩,fun q hq=>by cases hq⟩
  | false =>
   have ho:o=none:=by rw [HO.out,Q19 (HBD.out.2 (.inr (.inr (.inl ⟨by have:=HN4.out; omega,HCB.out⟩))))]
   subst ho;simp only [zM,if_false];go_wp2_with (refine Q00 (o:=⟨none,_,_,_,_,_⟩) rfl 102 (.tmp 2) (.tmp 57) rfl g2 0 Q0Z rfl rfl 102 _ HBX.out Q3C (by simp [Q0Z]) (by simp [Q0Z,zL]) ?_; intro w11 hT9 hD9)
   exact bodyPost_ret (Q09 rfl _ _ g2 5 102 _ _ rfl hD9 zP rfl rfl rfl) rfl ⟨hT9.below HXX.out hgw,fun _=>⟨_,rfl,rfl,by simp [Q0Z,spl,zL]⟩,fun q hq=>by cases hq⟩
 have hon:o=none:=by rw [HO.out,Q19 (HBD.out.2 (.inr (.inl hb2)))]
 have d0:((l1:Int) == 0)=false:=by simp; omega
 have d5:((l1:Int) == 5)=false:=by simp; omega
 have d180:((l1:Int) == 180)=false:=by simp; omega
 subst hon;go_wp2_with (refine Q00 (o:=⟨none,_,_,_,_,_⟩) rfl 102 (.tmp 2) (.tmp 29) rfl g2 0 Q0Z rfl rfl 102 _ HK.out Q3C (by simp [Q0Z]) (by simp [Q0Z,zL]) ?_; intro w11 hT9 hD9)
 exact bodyPost_ret (Q09 rfl _ _ g2 5 102 _ _ rfl hD9 zP rfl rfl rfl) rfl ⟨hT9.below HX.out hgw,fun _=>⟨_,rfl,rfl,by simp [Q0Z,spl,zL]⟩,fun q hq=>by cases hq⟩
theorem Q2q {P:Program} {fn:Func} {p u v:Tmp} {ty:TypeId} (h:fn.results=#[.tmp u,.cell p ty,.tmp v]) (tmps:Array zB) (w:zA) (g n:Nat) (t:TypeId) (cs:Array zB) (d:TypeDesc)
 (hp:tmps.getD p undef=.pointer (some ⟨g,0,none⟩)) (hB:Blk w g t cs)
 (hu:P.underlying ty=some d) (hd:(match d with | .struct _ | .array _ _=>true | _=>false)=true) (hi:(P.info? ty).map (·.size)=some n) (hn:cs.size=n) :
 (results fn tmps).run P w=.ok (.tuple #[tmps.getD u undef,.agg cs,tmps.getD v undef]) w:=by
 have hp':tmps[p]?.getD undef=.pointer (some ⟨g,0,none⟩):=by simpa using hp
 simp [results,h,hp',asAddr,Q1k w g 0 n t ty cs cs d hB hu hd hi hn (fun j _=>by rw [zK])]
def Q7g (w:zA) (o:Option (Nat×Ans)) (e:Ending) (w':zA):Prop :=
 zD w.heap.size w w'/\(o=none->∃ (st:Int) (D:Array zB),e=.returned (.tuple #[.int .i64 st,.agg D,.bool false])/\D.size=4/\D.all (·.oneCell')=true) /\
 ∀ x,o=some x->∃ A c,e=.returned (.tuple #[.int .i64 (x.1:Int),.agg (raN x.2 A c),.bool true])/\OwnN w' w.heap.size (.slice A x.2.nodes.length c) x.2.nodes
theorem Qaw (v:zB) (l:List Nat) (w:zA) (B:Nat) (h:OwnN w B v (nI l)) (hl:l.length<=1000000000000) (hm:∀ x,x∈l->x<=maxN) :
 Calls Tryz.prog 110 #[v] w (Q7g w (Q3l l)):=by
 have hX:=Q04 w (.cells (anC 0 none 0 0 0 none 0 0) 47);have hk0:Blk (w.alloc (.cells (anC 0 none 0 0 0 none 0 0) 47)) w.heap.size 47 (anC 0 none 0 0 0 none 0 0):=Blk.newAt rfl;have hZ:anC 0 none 0 0 0 none 0 0=#[.int .i64 0,.slice none 0 0,.int .i64 0,.slice none 0 0]:=rfl;have HX:=sH hX;have HK:=sH hk0;obtain⟨o,ho⟩:∃ o,o=Q3l l:=⟨_,rfl⟩;have HO:=sH ho;obtain⟨g2,hg2⟩:∃ g,g=w.heap.size:=⟨_,rfl⟩;have hgw:w.heap.size<=g2:=by omega
 obtain⟨n,hn⟩:∃ n,n=l.length:=⟨_,rfl⟩;have HN:=sH hn;rw [<- ho];by_cases h4:n<4
 ·have h4b:(n:Int)<4:=by omega
  have hon:o=none:=by rw [HO.out,Q19 (.inl (by omega))]
  obtain⟨A,c,hv,_⟩:=Q0i h;rw [Q1U,<- hn] at hv;subst hv;subst hon;clear h hm hX hk0 ho hn;go_enter Tryz.func110,Tryz.ntmps110
  go_upto_region 1 with fail
  rw [<- hZ];generalize World.alloc w _=w1 at HX HK ⊢;rw [<- hg2] at HK ⊢;have hlw:=HK.out.lt;clear hg2 hZ;go_wp2_with (refine Q00 (o:=⟨none,_,_,_,_,_⟩) rfl 47 (.tmp 3) (.tmp 44) rfl g2 0 (anC 0 none 0 0 0 none 0 0) rfl rfl 47 _ HK.out (by kernel_rfl) (by simp [anC]) (by simp [anC,zL]) ?_; intro w9 hT9 hD9)
  rw [Q21 _ rfl] at hD9;refine bodyPost_ret (Q2q rfl _ _ g2 4 47 _ _ rfl hD9 zQ rfl rfl rfl) rfl ⟨hT9.below HX.out hgw,fun _=>⟨0,anC 0 none 0 0 0 none 0 0,rfl,rfl,by simp [anC,zL]⟩,fun q hq=>by cases hq⟩
 have h4b:¬ (n:Int)<4:=by omega
 obtain⟨g,c,rfl,hgB,hcc,hrd,hcell⟩:=Q35 h (by omega);have hgl:g<w.heap.size:=(Q07 h (b:=g) (by rfl)).2;have c0:=(hX.cell (p:=⟨g,0,none⟩) hgl).trans (hcell 0 (by omega));have c1:=(hX.cell (p:=⟨g,1,none⟩) hgl).trans (hcell 1 (by omega));have c2:=(hX.cell (p:=⟨g,2,none⟩) hgl).trans (hcell 2 (by omega));have c3:=(hX.cell (p:=⟨g,3,none⟩) hgl).trans (hcell 3 (by omega));obtain⟨l0,hl0⟩:∃ k,k=l.getD 0 0:=⟨_,rfl⟩;obtain⟨l1,hl1⟩:∃ k,k=l.getD 1 0:=⟨_,rfl⟩;obtain⟨l2,hl2⟩:∃ k,k=l.getD 2 0:=⟨_,rfl⟩;obtain⟨l3,hl3⟩:∃ k,k=l.getD 3 0:=⟨_,rfl⟩;rw [<- hl0] at c0;rw [<- hl1] at c1;rw [<- hl2] at c2;rw [<- hl3] at c3;rw [<- hn] at hcc hrd ⊢;obtain⟨ns,hns⟩:∃ k,k=nI (l.drop 4):=⟨_,rfl⟩;have hbd:badT l <-> (l3+4≠n\/22<=l2)\/¬ (l1=0\/l1=5\/l1=180)\/(4<n/\Q1C ns=false)\/¬ (0<l0\/(l1=0/\l2=0/\n=4)):=by
  unfold badT;rw [<- hl0,<- hl1,<- hl2,<- hl3,<- hn,<- hns];constructor
  ·rintro (q | q | q | q | q | q)
   ·omega
   ·exact .inl (.inl q)
   ·exact .inl (.inr q)
   ·exact .inr (.inl q)
   ·exact .inr (.inr (.inl q))
   exact .inr (.inr (.inr q))
  rintro ((q | q) | q | q | q)
  ·exact .inr (.inl q)
  ·exact .inr (.inr (.inl q))
  ·exact .inr (.inr (.inr (.inl q)))
  ·exact .inr (.inr (.inr (.inr (.inl q))))
  exact .inr (.inr (.inr (.inr (.inr q))))
 have HBD:=sH hbd;have HGD:=sH (show ¬ badT l->o=some (l0,⟨l1,[],l2,ns⟩) from fun hb=>by rw [HO.out,Q8k hb,<- hl0,<- hl1,<- hl2,<- hns]);have HRD:=sH (fun(W:zA) (hW:OwnN W B (.slice (some ⟨g,0,none⟩) n c) (nI l))=>(Q1y hW).2);have HRW:=sH (fun(W:zA) (hb:zD w.heap.size w W)=>(hrd.below hb).more hb.size);have hmn:∀ z,z∈ns->I64 z:=fun z hz=>by rw [hns] at hz;obtain⟨k,hk,rfl⟩:=List.mem_map.1 hz;have:=hm k (List.mem_of_mem_drop hk);unfold maxN at this;unfold I64; omega
 have HMN:=sH hmn;have b0:l0<=maxN:=by rw [hl0,zH,zC (by omega)]; exact hm _ (zI _)
 have b1:l1<=maxN:=by rw [hl1,zH,zC (by omega)]; exact hm _ (zI _)
 unfold maxN at b0 b1;have hn12:n<=1000000000000:=by omega
 have HNS:=sH hns;have h0n:(0:Int)<(n:Int):=by omega
 have h1n:(1:Int)<(n:Int):=by omega
 have h2n:(2:Int)<(n:Int):=by omega
 have h3n:(3:Int)<(n:Int):=by omega
 have h0N:0<n:=by omega
 have h1N:1<n:=by omega
 have h2N:2<n:=by omega
 have h3N:3<n:=by omega
 clear h hm hX hk0 ho hn hbd hrd hcell hl0 hl1 hl2 hl3 hmn hns;go_enter Tryz.func110,Tryz.ntmps110
 go_upto_region 1 with fail
 rw [<- hZ];generalize World.alloc w _=w1 at HX HK c0 c1 c2 c3 ⊢;rw [<- hg2] at HK ⊢;have hlw:=HK.out.lt;have hX1:=HX.out.size;clear hg2 hZ
 go_cut [43] (fun s43 wx=>s43=.bool (decide (l3+4≠n\/¬ (l1=0\/l1=5\/l1=180)\/22<=l2))/\wx=w1)
 case first =>
  by_cases b3:l3+4=n
  ·have b3b:((l3:Int) != (n:Int) - 4)=false:=by simp; omega
   by_cases q0:l1=0
   ·have q0b:((l1:Int) != 0)=false:=by simp [q0]
    by_cases b2:22<=l2
    ·have b2b:(22:Int)<=(l2:Int):=by omega
     go_wp2_with fail
     go_meet
     exact⟨by rw [decide_eq_true (.inr (.inr b2))],rfl⟩
    have b2b:¬ (22:Int)<=(l2:Int):=by omega
    go_wp2_with fail
    go_meet
    exact⟨by rw [decide_eq_false (by omega)],rfl⟩
   have q0b:((l1:Int) != 0)=true:=by simp [q0]
   by_cases q5:l1=5
   ·have q5b:((l1:Int) != 5)=false:=by simp [q5]
    clear q0;by_cases b2:22<=l2
    ·have b2b:(22:Int)<=(l2:Int):=by omega
     go_wp2_with fail
     go_meet
     exact⟨by rw [decide_eq_true (.inr (.inr b2))],rfl⟩
    have b2b:¬ (22:Int)<=(l2:Int):=by omega
    go_wp2_with fail
    go_meet
    exact⟨by rw [decide_eq_false (by omega)],rfl⟩
   have q5b:((l1:Int) != 5)=true:=by simp; omega
   by_cases q180:l1=180
   ·have q180b:((l1:Int) != 180)=false:=by simp [q180]
    clear q0 q5;by_cases b2:22<=l2
    ·have b2b:(22:Int)<=(l2:Int):=by omega
     go_wp2_with fail
     go_meet
     exact⟨by rw [decide_eq_true (.inr (.inr b2))],rfl⟩
    have b2b:¬ (22:Int)<=(l2:Int):=by omega
    go_wp2_with fail
    go_meet
    exact⟨by rw [decide_eq_false (by omega)],rfl⟩
   have q180b:((l1:Int) != 180)=true:=by simp; omega
   go_wp2_with fail
   go_meet
   exact⟨by rw [decide_eq_true (.inr (.inl (by omega)))],rfl⟩
  have b3b:((l3:Int) != (n:Int) - 4)=true:=by simp; omega
  go_wp2_with fail
  go_meet
  exact⟨by rw [decide_eq_true (.inl b3)],rfl⟩
 obtain⟨rfl,rfl⟩:=hcut;by_cases hb1:l3+4≠n\/¬ (l1=0\/l1=5\/l1=180)\/22<=l2
 ·have hon:o=none:=by
   rw [HO.out,Q19 (HBD.out.2 ?_)];rcases hb1 with q | q | q
   ·exact .inl (.inl q)
   ·exact .inr (.inl q)
   exact .inl (.inr q)
  rw [decide_eq_true hb1];subst hon;clear c0 c1 c2 c3;go_wp2_with (refine Q00 (o:=⟨none,_,_,_,_,_⟩) rfl 47 (.tmp 3) (.tmp 44) rfl g2 0 (anC 0 none 0 0 0 none 0 0) rfl rfl 47 _ HK.out (by kernel_rfl) (by simp [anC]) (by simp [anC,zL]) ?_; intro w9 hT9 hD9)
  rw [Q21 _ rfl] at hD9;refine bodyPost_ret (Q2q rfl _ _ g2 4 47 _ _ rfl hD9 zQ rfl rfl rfl) rfl ⟨hT9.below HX.out hgw,fun _=>⟨0,anC 0 none 0 0 0 none 0 0,rfl,rfl,by simp [anC,zL]⟩,fun q hq=>by cases hq⟩
 rw [decide_eq_false hb1];have hl22:l2<=21:=by omega
 have HS1:=sH (fun(W:zA)=>Q0U (P:=Tryz.prog) (t:=42) (e:=3) zO (by kernel_rfl) (some ⟨g,0,none⟩) n c 4 4 rfl (by omega) W);obtain⟨A1,hA1⟩:∃ A1,A1=(if c=4 then(some (⟨g,0,none⟩:Addr)) else(some (⟨g,0,none⟩:Addr)).map (·.add 4)):=⟨_,rfl⟩;have hr1:=(HRW.out wc HX.out).sub (l:=4) (k:=n) (cap:=c) (by omega) (zF _) hcc;simp only [Nat.mul_one] at hr1;rw [<- hA1] at HS1 hr1;obtain⟨m4,hm4⟩:∃ m4,m4=n - 4:=⟨_,rfl⟩;rw [<- hm4] at HS1 hr1;have e1:(((nI l).map vn).drop 4).take m4=ns.map vn:=by rw [HNS.out];unfold nI;rw [List.take_of_length_le (by simp only [zE,List.length_map]; rw [<- HN.out]; omega)];simp only [List.map_drop]
 rw [e1] at hr1;have HXK:=sH (show ns.length=m4 by rw [HNS.out,Q1U,zE,<- HN.out]; omega);have HCI:=sH (fun(W:zA) (hb:zD wc.heap.size wc W)=>Q4E A1 m4 (c - 4) ns W wc.heap.size (hr1.below hb) hb.size (by omega));have HN1:=sH h1n;have HN2:=sH h2n;have C0:=sH (fun(W:zA) (hb:zD wc.heap.size wc W)=>(hb.cell (p:=⟨g,0,none⟩) (by show g<wc.heap.size; have:=HX.out.size; omega)).trans c0);have C1:=sH (fun(W:zA) (hb:zD wc.heap.size wc W)=>(hb.cell (p:=⟨g,1,none⟩) (by show g<wc.heap.size; have:=HX.out.size; omega)).trans c1);have C2:=sH (fun(W:zA) (hb:zD wc.heap.size wc W)=>(hb.cell (p:=⟨g,2,none⟩) (by show g<wc.heap.size; have:=HX.out.size; omega)).trans c2);have hm12:m4<=1000000000000:=by omega
 have HBAD:=sH (show badT l <-> (0<m4/\Q1C ns=false)\/¬ (0<l0\/(l1=0/\l2=0/\m4=0)) by
  rw [HBD.out];constructor
  ·rintro (q | q | q | q)
   iterate 2 ·omega
   ·exact .inl ⟨by omega,q.2⟩
   exact .inr (by omega)
  rintro (q | q)
  ·exact .inr (.inr (.inl ⟨by omega,q.2⟩))
  exact .inr (.inr (.inr (by omega))))
 clear hA1 hr1 e1 hm4 c0 c1 c2 c3 hb1;go_upto_region 3 with fail
 refine Q0m 11 82 (fun jx W v=>match jx with | 0=>v=.slice (some ⟨g,0,none⟩) n c | 1=>v=.pointer (some ⟨g,1,none⟩) | 2=>v=.int .i64 (l1:Int) | 3=>v=.slice (some ⟨g,0,none⟩) n c | 4=>v=.pointer (some ⟨g,2,none⟩) | 5=>v=.int .i64 (l2:Int) | 6=>v=.slice (some ⟨g,0,none⟩) n c | 7=>v=.slice A1 m4 (c - 4) | 8=>∃ A' c',v=.slice A' m4 c'/\OwnN W wc.heap.size (.slice A' m4 c') ns | 9=>∃ A' c',v=.agg (anC (l1:Int) none 0 0 (l2:Int) A' m4 c')/\OwnN W wc.heap.size (.slice A' m4 c') ns | 10=>∃ q,v=.pointer (some ⟨q,0,none⟩)/\wc.heap.size<=q/\Blk W q 47 (anC 0 none 0 0 0 none 0 0) | _=>True) [45,46,47,48,49,50,51,52,53,54,5] (by kernel_rfl) (by kernel_rfl) (by kernel_rfl) (by first | rfl | simp) (by kernel_rfl) (fun jx=>?last) ?heads ?_
 case last =>
  match jx with
  | 0 | 1 | 2 | 3 | 4 | 5 | 6 | 7 | jx+11=>exact Q15.pure _
  | 8=>exact fun W W' v ⟨A',c',h1,h2⟩ hb=>⟨A',c',h1,h2.below_ hb⟩
  | 9=>exact fun W W' v ⟨A',c',h1,h2⟩ hb=>⟨A',c',h1,h2.below_ hb⟩
  | 10=>exact fun W W' v ⟨q,h1,h2,h3⟩ hb=>⟨q,h1,h2,h3.below' hb⟩
 case heads =>
  simp only [tT];and_intros;rotate_right;trivial;all_goals intro a W hb hkp hd
  ·have e0:(_:zB)=.slice (some ⟨g,0,none⟩) n c:=sK hkp 0;exact sV
  ·have e0:=sJ (hd 0) 45;have hlt:=HN1.out;exact sV
  ·have e0:=sJ (hd 1) 46;have cc:=C1.out W hb;exact sV
  ·have e0:(_:zB)=.slice (some ⟨g,0,none⟩) n c:=sK hkp 0;exact sV
  ·have e0:=sJ (hd 3) 48;have hlt:=HN2.out;exact sV
  ·have e0:=sJ (hd 4) 49;have cc:=C2.out W hb;exact sV
  ·have e0:(_:zB)=.slice (some ⟨g,0,none⟩) n c:=sK hkp 0;exact sV
  ·have e0:=sJ (hd 6) 51;have e0:=sJ (hd 6) 51;exact Q0j rfl (.slice A1 m4 (c - 4)) (Q9D 42 (.tmp 51) (some (.const (.int .i64 4))) rfl (some ⟨g,0,none⟩) n c (by simpa [Act.eval] using e0) (some (.int .i64 4)) rfl zO _ (HS1.out W)) rfl
  ·have e0:=sJ (hd 7) 52;have e0:=sJ (hd 7) 52;refine Q0u rfl 87 #[.slice A1 m4 (c - 4)] (by go_simp) ((HCI.out W hb).mono ?_);rintro e w' ⟨v,rfl,ho,hb'⟩;obtain⟨A',c',h1,_,_,_,_⟩:=Q0i ho;rw [HXK.out] at h1;subst h1;exact⟨_,rfl,hb',A',c',rfl,OwnN.more ho hb.size⟩
  ·have e0:=sJ (hd 2) 47;have e1:=sJ (hd 5) 50;have e0:=sJ (hd 2) 47;have e2:=sJ (hd 5) 50;obtain⟨A',c',e1,h1⟩:=(sG (hd 8) 53:);exact Q0j rfl (.agg (anC (l1:Int) none 0 0 (l2:Int) A' m4 c')) (by go_simp; rfl) ⟨A',c',rfl,h1⟩
  exact Q1X rfl (.pointer (some ⟨W.heap.size,0,none⟩)) (W.alloc (.cells (anC 0 none 0 0 0 none 0 0) 47)) (by go_simp; try rfl) (Q04 _ _) ⟨W.heap.size,rfl,hb.size,Blk.new W _ _⟩
 intro ff W hbW hd;obtain⟨A',c',e54,ho⟩:=hd 9 (by omega) _ 54 rfl rfl;obtain⟨g5,e5,hg5,hq5⟩:=hd 10 (by omega) _ 5 rfl rfl;have HW3:=sH hbW;have hs3:=hbW.size;have HO3:=sH ho;have HQ5:=sH hq5;have HN5:=sH (fun b (hb:(Value.slice A' m4 c').ownBlock=some b)=>(show b≠g5 from fun e=>Q05 ho hq5 (by decide) (by rw [hb,e])));clear hd hbW ho hq5;simp only [Q0F,tU,e54,e5];try simp only [Act.put,sA]
 go_upto_region 4 with(refine Q00 (o:=⟨none,_,_,_,_,_⟩) rfl 47 (.tmp 5) (.tmp 54) rfl g5 0 (anC (l1:Int) none 0 0 (l2:Int) A' m4 c') rfl rfl 47 (anC 0 none 0 0 0 none 0 0) HQ5.out (by kernel_rfl) (by simp [anC]) (by simp [anC,zL]) ?_; intro w5 hT5 hD5)
 rw [Q21 _ rfl] at hD5;have hb5:zD wc.heap.size wc w5:=hT5.below HW3.out hg5;have hc5:w5.cell? ⟨g5,3,none⟩=some (.slice A' m4 c'):=hD5.cell 3;have hl5:=hD5.lt;have hs5:=hb5.size;have HB5:=sH hb5;have HD5:=sH hD5;have HO5:=sH (HO3.out.keep_ fun b hb=>hT5.block b (HN5.out b hb));have HK5:=sH (HK.out.below' hb5);clear hT5 hD5 hb5 HQ5 HN5;go_upto_region 5 with(refine Q00 (o:=⟨none,_,_,_,_,_⟩) rfl 44 (.tmp 6) (.tmp 57) rfl w5.heap.size 0 (Q06 (QbQ ns) none 0 0 A' m4 c') rfl rfl 44 (Q06 Q2T none 0 0 none 0 0) (Blk.newAt rfl) (Q2c _ _ _ _ _ _ _) (by simp [Q06]) (Q2B _ _ _ _ _ _ _) ?_; intro w6 hT6 hD6; rw [Qdw] at hD6)
 have hb6:zD w5.heap.size w5 w6:=hT6.below ((zG _ _).alloc (zF _) _) (zF _);obtain⟨g6,hg6⟩:∃ x,x=w5.heap.size:=⟨_,rfl⟩;rw [<- hg6] at hD6 ⊢;have hc6:w6.cell? ⟨g5,3,none⟩=some (.slice A' m4 c'):=(hb6.cell (p:=⟨g5,3,none⟩) hl5).trans hc5;have hs6:=hb6.size;have HB6:=sH (HB5.out.trans (hb6.mono (by have:=HB5.out.size; omega)));have HD6:=sH hD6;have HD56:=sH (HD5.out.below' hb6);have HO6:=sH (HO5.out.below_ hb6);have HK6:=sH (HK5.out.below' hb6);clear hT6 hD6 hb6 hg6 hc5 HD5 HO5 HK5 HB5 HO3 HW3 HK;obtain⟨mb,hmb⟩:∃ b,b=(decide (m4=0) || Q1C ns):=⟨_,rfl⟩;have HMB:=sH hmb;have HRS:=sH (Q0i HO6.out);try simp only [Act.put,sA]
 obtain⟨wq,hwq⟩:∃ x,x=wc:=⟨_,rfl⟩;subst hwq
 go_cut [7] (fun s7 wx=>s7=.bool mb/\zD w6.heap.size w6 wx)
 case first =>
  by_cases h0:m4=0
  ·have h0I:((m4:Int) == 0)=true:=by simp [h0]
   have hmt:mb=true:=by rw [hmb,decide_eq_true h0]; rfl
   subst hmt;clear h0 hmb;go_wp2_with fail
   go_meet
   exact⟨rfl,zG _ _⟩
  have h0I:((m4:Int) == 0)=false:=by simp [h0]
  have hmt:mb=Q1C ns:=by rw [hmb,decide_eq_false h0]; rfl
  obtain⟨A7,c7,q1,q2,q3,q4,_⟩:=HRS.out;rw [HXK.out] at q1 q2 q4;injection q1 with q1 _ q5
  subst q1 q5;have HCK:=sH (Q9X (QbQ ns) none 0 0 A' m4 c' w6 w6.heap.size ⟨Q08.none_,by simp,by simp,q4,q2,by omega,⟨by show I64 0; unfold I64; omega,by show I64 0; unfold I64; omega,by show I64 1; unfold I64; omega,by show I64 0; unfold I64; omega,by show I64 5; unfold I64; omega,by show I64 0; unfold I64; omega,by show I64 0; unfold I64; omega,by show I64 0; unfold I64; omega,fun z hz=>HMN.out z hz⟩⟩ (zF _));rw [Qd3,<- hmt] at HCK;clear hmt hmb h0 q2 q3 q4;go_wp2_with (refine Q5q (o:=⟨some 63,_,_,_,_,_⟩) (Q02 (j:=4) (d:=62) (b:=false) rfl rfl (by first | rfl | (simp; omega))) 44 (.tmp 6) rfl g6 0 10 rfl 44 _ (Q06 (QbQ ns) none 0 0 A' m4 c') _ HD6.out Tryz.underlying44 rfl rfl rfl (fun _ _=>by rw [zK]) ?_)
  refine HCK.out.mono ?_;rintro _ w8 ⟨rfl,hb8⟩;have HB8:=sH hb8;clear hb8 HCK;cases mb with
  | false =>
   simp only [zM,if_false];go_wp2_with fail
   go_meet
   exact⟨rfl,HB8.out⟩
  | true =>
   simp only [if_true];go_wp2_with fail
   go_meet
   exact⟨rfl,HB8.out⟩
 obtain⟨rfl,hbx⟩:=hcut;have HBX:=sH (HB6.out.trans (hbx.mono HB6.out.size));have c0:=C0.out wc HBX.out;have HDX:=sH (HD56.out.below' hbx);have HKX:=sH (HK6.out.below' hbx);have HOX:=sH (HO6.out.below_ hbx);have HFX:=sH (HX.out.trans (HBX.out.mono HX.out.size));have HQW:=sH HX.out.size;have HN0:=sH h0n;have C0X:=sH (fun(W:zA) (hb:zD wc.heap.size wc W)=>C0.out W (HBX.out.trans (hb.mono HBX.out.size)));have HEND:=sH (fun(fb:Bool) (hfb:fb=true <-> ¬ badT l) (w10:zA) (hbel:zD w.heap.size w w10) (hown:OwnN w10 w.heap.size (.slice A' m4 c') ns)=>(show Q7g w o (.returned (.tuple #[.int .i64 (l0:Int),.agg (anC (l1:Int) none 0 0 (l2:Int) A' m4 c'),.bool fb])) w10 from by
  refine⟨hbel,fun e=>?_,fun x hx=>?_⟩
  ·cases fb with
   | false=>exact⟨l0,_,rfl,rfl,by simp [anC,zL]⟩
   | true =>have:=HGD.out (hfb.1 rfl);rw [e] at this; cases this
  have hnb:¬ badT l:=fun hb=>by rw [HO.out,Q19 hb] at hx; cases hx
  obtain rfl:fb=true:=hfb.2 hnb;rw [HGD.out hnb] at hx;obtain rfl:=zN hx;have hxk:=HXK.out;refine⟨A',c',?_,?_⟩
  ·show _=Ending.returned (.tuple #[.int .i64 (l0:Int),.agg (anC (l1:Int) none 0 0 (l2:Int) A' ns.length c'),.bool true]);rw [hxk]
  show OwnN w10 w.heap.size (.slice A' ns.length c') ns;rw [hxk]; exact hown))
 have HMT:=sH (show mb=true <-> ¬ (0<m4/\Q1C ns=false) by
  rw [HMB.out];by_cases hz:m4=0
  ·rw [decide_eq_true hz]; simp; omega
  rw [decide_eq_false hz,Bool.false_or];constructor
  ·intro e q; rw [e] at q; cases q.2
  intro q;cases hc:Q1C ns with
  | true=>rfl
  | false=>exact absurd ⟨by omega,hc⟩ q)
 clear hbx hmb;by_cases h0:l0=0
 ·have h0b:((l0:Int) == 0)=true:=by simp [h0]
  have H0:=sH h0;clear h0;cases mb with
  | false =>
   go_upto_region 8 with fail
   refine Q1d 7 82 (fun jx W v=>match jx with | 0=>v=.slice (some ⟨g,0,none⟩) n c | 1=>v=.pointer (some ⟨g,0,none⟩) | 2=>v=.int .i64 (l0:Int) | 3=>v=.agg (anC (l1:Int) none 0 0 (l2:Int) A' m4 c') | 4=>v=.bool false | 5=>v=.int .i64 (l0:Int) | 6=>True | _=>True) (fun s W=>match s with | 0=>zD wc.heap.size wc W | _=>zD w.heap.size w W/\Blk W g2 47 (anC (l1:Int) none 0 0 (l2:Int) A' m4 c')/\OwnN W w.heap.size (.slice A' m4 c') ns) (Q0b g2) [6] (fun _=>[]) (fun _=>[]) [77,78,79,80,81,2] (by kernel_rfl) (by kernel_rfl) (by kernel_rfl) (by kernel_rfl) (by kernel_rfl) (by kernel_rfl) (by first | rfl | simp) (by kernel_rfl) (fun jx=>?last) ?lastR ?jay (zG _ _) ?heads ?_
   case last =>
    match jx with
    | 0 | 1 | 2 | 3 | 4 | 5 | 6 | jx+7=>exact Q15.pure _
   case lastR =>
    intro s jx W W' v hsl hdd hlt hs hj hp hr;match jx with
    | 0 | 1 | 2 | 3 | 4 | 5 | 6 | jx+7=>exact hp
   case jay =>
    intro s W W' hj hb;match s,hj with
    | 0,hj=>exact Below.trans hj (hb.mono (Below.size hj))
    | s+1,⟨h1,h2,h3⟩=>exact⟨h1.trans (hb.mono h1.size),h2.below' hb,h3.below_ hb⟩
   case heads =>
    simp only [tT];refine⟨?_,?_,?_,?_,?_,?_,?_,trivial⟩
    all_goals try(rw [if_neg (by decide)];intro s a W hst hj hkp hd)
    ·obtain rfl:=Q0x hst rfl (by kernel_rfl);have hb:zD wc.heap.size wc W:=hj;have e0:(_:zB)=.slice (some ⟨g,0,none⟩) n c:=sK hkp 0;exact sV
    ·obtain rfl:=Q0x hst rfl (by kernel_rfl);have hb:zD wc.heap.size wc W:=hj;have e0:=sJ (hd 0) 77;have hlt:=HN0.out;exact sV
    ·obtain rfl:=Q0x hst rfl (by kernel_rfl);have hb:zD wc.heap.size wc W:=hj;have e0:=sJ (hd 1) 78;have cc:=C0X.out W hb;exact sV
    ·obtain rfl:=Q0x hst rfl (by kernel_rfl);have hb:zD wc.heap.size wc W:=hj;have e0:a.eval (.tmp 5)=.pointer (some ⟨g5,0,none⟩):=by have:=hkp.at_ (d:=5) (by kernel_rfl); rw [this]; rfl
     exact Q0j rfl (.agg (anC (l1:Int) none 0 0 (l2:Int) A' m4 c')) (Q0p 47 (.tmp 5) rfl g5 0 4 e0 47 _ (anC (l1:Int) none 0 0 (l2:Int) A' m4 c') _ (HDX.out.below' hb) zQ rfl rfl rfl (fun _ _=>by rw [zK])) rfl
    ·have e0:(_:zB)=.bool false:=sK hkp 7;exact sV
    ·obtain rfl:=Q0x hst rfl (by kernel_rfl);have hb:zD wc.heap.size wc W:=hj;have e0:=sJ (hd 2) 79;exact sV
    rw [if_pos (by decide)];intro s a W hs hj hkp hd;obtain rfl:=Q5e hs;have hj0:zD wc.heap.size wc W:=hj;have e80:=sJ (hd 3) 80;have e3:a.eval (.tmp 3)=.pointer (some ⟨g2,0,none⟩):=by have:=hkp.at_ (d:=3) (by kernel_rfl); rw [this]; rfl
    have e80':a.eval (.tmp 80)=.agg (anC (l1:Int) none 0 0 (l2:Int) A' m4 c'):=by simpa [Act.eval] using e80
    refine Q2x rfl 47 (.tmp 3) (.tmp 80) rfl g2 0 (anC (l1:Int) none 0 0 (l2:Int) A' m4 c') e3 e80' 47 (anC 0 none 0 0 0 none 0 0) (HKX.out.below' hj0) (by kernel_rfl) (by simp [anC]) (by simp [anC,zL]) fun W' hT hB=>?_
    rw [Q21 _ rfl] at hB;exact⟨hT,⟨hT.below (HFX.out.trans (hj0.mono HFX.out.size)) hgw,hB,(OwnN.more (HOX.out.below_ hj0) HQW.out).keep_ fun b hb=>hT.block b fun e=>Q05 (HOX.out.below_ hj0) (HKX.out.below' hj0) (by decide) (by rw [hb,e])⟩,trivial⟩
   intro f9 W9 hj9 hd9;obtain⟨hF9,hK9,hO9⟩:=hj9;have f2:f9 2=.int .i64 (l0:Int):=hd9 5 (by omega) (by decide) _ 2 rfl rfl;have f81:f9 81=.bool false:=hd9 4 (by omega) (by decide) _ 81 rfl rfl;have HE9:=sH (HEND.out false (by rw [HBAD.out]; exact⟨fun e=>(by cases e),fun q=>HMT.out.2 fun hh=>q (.inl hh)⟩));have HK9:=sH hK9;have HF9:=sH hF9;have HO9:=sH hO9;clear hd9 hF9 hK9 hO9;simp only [Q0F,tU,f2,f81];try simp only [Act.put,sA]
   go_wp2_with fail
   refine bodyPost_ret (Q2q (p:=3) (u:=2) (v:=4) rfl _ _ g2 4 47 _ _ rfl HK9.out zQ rfl rfl rfl) rfl (HE9.out W9 HF9.out HO9.out)
  | true =>
   have HSA:=sH (Q4X (l1:Int) 0 (l2:Int) 0 none 0 0 A' m4 c' none 0 0 none 0 0 [] [] ns [] wc wc.heap.size Q08.none_ (Q1y HOX.out).2 Q08.none_ Q08.none_ (zF _) (by unfold maxLen; omega) (by unfold maxLen; omega) (by unfold maxLen; omega) (by unfold maxLen; omega));obtain⟨fb,hfb⟩:∃ b,b=decide ((l1:Int)=0/\([]:List UInt8)=[]/\(l2:Int)=0/\ns=[]):=⟨_,rfl⟩;rw [<- hfb] at HSA;have HFB:=sH (show fb=true <-> ¬ badT l by
    rw [HBAD.out,hfb,decide_eq_true_iff];have hz:ns=[] <-> m4=0:=by rw [<- HXK.out]; exact List.length_eq_zero_iff.symm
    rw [hz];have q1:=HMT.out.1 rfl;have q0:=H0.out;constructor
    ·rintro ⟨e1,_,e2,e3⟩ q;rcases q with q | q
     ·exact q1 q
     exact q (.inr ⟨by omega,by omega,e3⟩)
    intro q;have q2:0<l0\/(l1=0/\l2=0/\m4=0):=Decidable.byContradiction fun e=>q (.inr e)
    rcases q2 with q2 | ⟨q2,q3,q4⟩
    ·omega
    exact⟨by omega,rfl,by omega,q4⟩)
   clear hfb;go_wp2_with (refine Q2l (o:=⟨some 73,_,_,_,_,_⟩) (Q02 (j:=1) (d:=72) (b:=true) rfl rfl (by first | rfl | (simp; omega))) 47 (.tmp 5) rfl g5 0 4 rfl 47 _ (anC (l1:Int) none 0 0 (l2:Int) A' m4 c') _ HDX.out zQ rfl rfl rfl (fun _ _=>by rw [zK]) ?_)
   refine HSA.out.mono ?_;rintro _ wc ⟨rfl,hb9⟩;have HD2:=sH (HDX.out.below' hb9);have HK2:=sH (HKX.out.below' hb9);have HO2:=sH (HOX.out.below_ hb9);have HF2:=sH (HFX.out.trans (hb9.mono HFX.out.size));have C02:=sH (fun(W:zA) (hb:zD wc.heap.size wc W)=>C0X.out W (hb9.trans (hb.mono hb9.size)));clear hb9 HSA c0;have c0:=C02.out wc (zG _ _);go_upto_region 8 with fail
   refine Q1d 7 82 (fun jx W v=>match jx with | 0=>v=.slice (some ⟨g,0,none⟩) n c | 1=>v=.pointer (some ⟨g,0,none⟩) | 2=>v=.int .i64 (l0:Int) | 3=>v=.agg (anC (l1:Int) none 0 0 (l2:Int) A' m4 c') | 4=>v=.bool fb | 5=>v=.int .i64 (l0:Int) | 6=>True | _=>True) (fun s W=>match s with | 0=>zD wc.heap.size wc W | _=>zD w.heap.size w W/\Blk W g2 47 (anC (l1:Int) none 0 0 (l2:Int) A' m4 c')/\OwnN W w.heap.size (.slice A' m4 c') ns) (Q0b g2) [6] (fun _=>[]) (fun _=>[]) [77,78,79,80,81,2] (by kernel_rfl) (by kernel_rfl) (by kernel_rfl) (by kernel_rfl) (by kernel_rfl) (by kernel_rfl) (by first | rfl | simp) (by kernel_rfl) (fun jx=>?last) ?lastR ?jay (zG _ _) ?heads ?_
   case last =>
    match jx with
    | 0 | 1 | 2 | 3 | 4 | 5 | 6 | jx+7=>exact Q15.pure _
   case lastR =>
    intro s jx W W' v hsl hdd hlt hs hj hp hr;match jx with
    | 0 | 1 | 2 | 3 | 4 | 5 | 6 | jx+7=>exact hp
   case jay =>
    intro s W W' hj hb;match s,hj with
    | 0,hj=>exact Below.trans hj (hb.mono (Below.size hj))
    | s+1,⟨h1,h2,h3⟩=>exact⟨h1.trans (hb.mono h1.size),h2.below' hb,h3.below_ hb⟩
   case heads =>
    simp only [tT];refine⟨?_,?_,?_,?_,?_,?_,?_,trivial⟩
    all_goals try(rw [if_neg (by decide)];intro s a W hst hj hkp hd)
    ·obtain rfl:=Q0x hst rfl (by kernel_rfl);have hb:zD wc.heap.size wc W:=hj;have e0:(_:zB)=.slice (some ⟨g,0,none⟩) n c:=sK hkp 0;exact sV
    ·obtain rfl:=Q0x hst rfl (by kernel_rfl);have hb:zD wc.heap.size wc W:=hj;have e0:=sJ (hd 0) 77;have hlt:=HN0.out;exact sV
    ·obtain rfl:=Q0x hst rfl (by kernel_rfl);have hb:zD wc.heap.size wc W:=hj;have e0:=sJ (hd 1) 78;have cc:=C02.out W hb;exact sV
    ·obtain rfl:=Q0x hst rfl (by kernel_rfl);have hb:zD wc.heap.size wc W:=hj;have e0:a.eval (.tmp 5)=.pointer (some ⟨g5,0,none⟩):=by have:=hkp.at_ (d:=5) (by kernel_rfl); rw [this]; rfl
     exact Q0j rfl (.agg (anC (l1:Int) none 0 0 (l2:Int) A' m4 c')) (Q0p 47 (.tmp 5) rfl g5 0 4 e0 47 _ (anC (l1:Int) none 0 0 (l2:Int) A' m4 c') _ (HD2.out.below' hb) zQ rfl rfl rfl (fun _ _=>by rw [zK])) rfl
    ·have e0:(_:zB)=.bool fb:=sK hkp 7;exact sV
    ·obtain rfl:=Q0x hst rfl (by kernel_rfl);have hb:zD wc.heap.size wc W:=hj;have e0:=sJ (hd 2) 79;exact sV
    rw [if_pos (by decide)];intro s a W hs hj hkp hd;obtain rfl:=Q5e hs;have hj0:zD wc.heap.size wc W:=hj;have e80:=sJ (hd 3) 80;have e3:a.eval (.tmp 3)=.pointer (some ⟨g2,0,none⟩):=by have:=hkp.at_ (d:=3) (by kernel_rfl); rw [this]; rfl
    have e80':a.eval (.tmp 80)=.agg (anC (l1:Int) none 0 0 (l2:Int) A' m4 c'):=by simpa [Act.eval] using e80
    refine Q2x rfl 47 (.tmp 3) (.tmp 80) rfl g2 0 (anC (l1:Int) none 0 0 (l2:Int) A' m4 c') e3 e80' 47 (anC 0 none 0 0 0 none 0 0) (HK2.out.below' hj0) (by kernel_rfl) (by simp [anC]) (by simp [anC,zL]) fun W' hT hB=>?_
    rw [Q21 _ rfl] at hB;exact⟨hT,⟨hT.below (HF2.out.trans (hj0.mono HF2.out.size)) hgw,hB,(OwnN.more (HO2.out.below_ hj0) HQW.out).keep_ fun b hb=>hT.block b fun e=>Q05 (HO2.out.below_ hj0) (HK2.out.below' hj0) (by decide) (by rw [hb,e])⟩,trivial⟩
   intro f9 W9 hj9 hd9;obtain⟨hF9,hK9,hO9⟩:=hj9;have f2:f9 2=.int .i64 (l0:Int):=hd9 5 (by omega) (by decide) _ 2 rfl rfl;have f81:f9 81=.bool fb:=hd9 4 (by omega) (by decide) _ 81 rfl rfl;have HE9:=sH (HEND.out fb HFB.out);have HK9:=sH hK9;have HF9:=sH hF9;have HO9:=sH hO9;clear hd9 hF9 hK9 hO9;simp only [Q0F,tU,f2,f81];try simp only [Act.put,sA]
   go_wp2_with fail
   refine bodyPost_ret (Q2q (p:=3) (u:=2) (v:=4) rfl _ _ g2 4 47 _ _ rfl HK9.out zQ rfl rfl rfl) rfl (HE9.out W9 HF9.out HO9.out)
 have h0b:((l0:Int) == 0)=false:=by simp [h0]
 have H0:=sH h0;clear h0;go_upto_region 8 with fail
 refine Q1d 7 82 (fun jx W v=>match jx with | 0=>v=.slice (some ⟨g,0,none⟩) n c | 1=>v=.pointer (some ⟨g,0,none⟩) | 2=>v=.int .i64 (l0:Int) | 3=>v=.agg (anC (l1:Int) none 0 0 (l2:Int) A' m4 c') | 4=>v=.bool mb | 5=>v=.int .i64 (l0:Int) | 6=>True | _=>True) (fun s W=>match s with | 0=>zD wc.heap.size wc W | _=>zD w.heap.size w W/\Blk W g2 47 (anC (l1:Int) none 0 0 (l2:Int) A' m4 c')/\OwnN W w.heap.size (.slice A' m4 c') ns) (Q0b g2) [6] (fun _=>[]) (fun _=>[]) [77,78,79,80,81,2] (by kernel_rfl) (by kernel_rfl) (by kernel_rfl) (by kernel_rfl) (by kernel_rfl) (by kernel_rfl) (by first | rfl | simp) (by kernel_rfl) (fun jx=>?last) ?lastR ?jay (zG _ _) ?heads ?_
 case last =>
  match jx with
  | 0 | 1 | 2 | 3 | 4 | 5 | 6 | jx+7=>exact Q15.pure _
 case lastR =>
  intro s jx W W' v hsl hdd hlt hs hj hp hr;match jx with
  | 0 | 1 | 2 | 3 | 4 | 5 | 6 | jx+7=>exact hp
 case jay =>
  intro s W W' hj hb;match s,hj with
  | 0,hj=>exact Below.trans hj (hb.mono (Below.size hj))
  | s+1,⟨h1,h2,h3⟩=>exact⟨h1.trans (hb.mono h1.size),h2.below' hb,h3.below_ hb⟩
 case heads =>
  simp only [tT];refine⟨?_,?_,?_,?_,?_,?_,?_,trivial⟩
  all_goals try(rw [if_neg (by decide)];intro s a W hst hj hkp hd)
  ·obtain rfl:=Q0x hst rfl (by kernel_rfl);have hb:zD wc.heap.size wc W:=hj;have e0:(_:zB)=.slice (some ⟨g,0,none⟩) n c:=sK hkp 0;exact sV
  ·obtain rfl:=Q0x hst rfl (by kernel_rfl);have hb:zD wc.heap.size wc W:=hj;have e0:=sJ (hd 0) 77;have hlt:=HN0.out;exact sV
  ·obtain rfl:=Q0x hst rfl (by kernel_rfl);have hb:zD wc.heap.size wc W:=hj;have e0:=sJ (hd 1) 78;have cc:=C0X.out W hb;exact sV
  ·obtain rfl:=Q0x hst rfl (by kernel_rfl);have hb:zD wc.heap.size wc W:=hj;have e0:a.eval (.tmp 5)=.pointer (some ⟨g5,0,none⟩):=by have:=hkp.at_ (d:=5) (by kernel_rfl); rw [this]; rfl
   exact Q0j rfl (.agg (anC (l1:Int) none 0 0 (l2:Int) A' m4 c')) (Q0p 47 (.tmp 5) rfl g5 0 4 e0 47 _ (anC (l1:Int) none 0 0 (l2:Int) A' m4 c') _ (HDX.out.below' hb) zQ rfl rfl rfl (fun _ _=>by rw [zK])) rfl
  ·have e0:(_:zB)=.bool mb:=sK hkp 7;exact sV
  ·obtain rfl:=Q0x hst rfl (by kernel_rfl);have hb:zD wc.heap.size wc W:=hj;have e0:=sJ (hd 2) 79;exact sV
  rw [if_pos (by decide)];intro s a W hs hj hkp hd;obtain rfl:=Q5e hs;have hj0:zD wc.heap.size wc W:=hj;have e80:=sJ (hd 3) 80;have e3:a.eval (.tmp 3)=.pointer (some ⟨g2,0,none⟩):=by have:=hkp.at_ (d:=3) (by kernel_rfl); rw [this]; rfl
  have e80':a.eval (.tmp 80)=.agg (anC (l1:Int) none 0 0 (l2:Int) A' m4 c'):=by simpa [Act.eval] using e80
  refine Q2x rfl 47 (.tmp 3) (.tmp 80) rfl g2 0 (anC (l1:Int) none 0 0 (l2:Int) A' m4 c') e3 e80' 47 (anC 0 none 0 0 0 none 0 0) (HKX.out.below' hj0) (by kernel_rfl) (by simp [anC]) (by simp [anC,zL]) fun W' hT hB=>?_
  rw [Q21 _ rfl] at hB;exact⟨hT,⟨hT.below (HFX.out.trans (hj0.mono HFX.out.size)) hgw,hB,(OwnN.more (HOX.out.below_ hj0) HQW.out).keep_ fun b hb=>hT.block b fun e=>Q05 (HOX.out.below_ hj0) (HKX.out.below' hj0) (by decide) (by rw [hb,e])⟩,trivial⟩
 intro f9 W9 hj9 hd9;obtain⟨hF9,hK9,hO9⟩:=hj9;have f2:f9 2=.int .i64 (l0:Int):=hd9 5 (by omega) (by decide) _ 2 rfl rfl;have f81:f9 81=.bool mb:=hd9 4 (by omega) (by decide) _ 81 rfl rfl;have HE9:=sH (HEND.out mb (by rw [HBAD.out,HMT.out]; exact⟨fun e q=>q.elim e (fun q=>q (.inl (by have:=H0.out; omega))),fun q e=>q (.inl e)⟩));have HK9:=sH hK9;have HF9:=sH hF9;have HO9:=sH hO9;clear hd9 hF9 hK9 hO9;simp only [Q0F,tU,f2,f81];try simp only [Act.put,sA]
 go_wp2_with fail
 refine bodyPost_ret (Q2q (p:=3) (u:=2) (v:=4) rfl _ _ g2 4 47 _ _ rfl HK9.out zQ rfl rfl rfl) rfl (HE9.out W9 HF9.out HO9.out)
end
section
open Go.RowKit Go.Maps
theorem Qde {cs:List Srv} {s:Srv} {o z:Int} (hs:s∈cs):(Q0S cs s.f z=false/\Q22 s.now o z) <-> (o∈s.now/\z<=28/\Q0S cs s.f z=false):=by
 constructor
 ·rintro ⟨h1,h2,h3,h4,h5⟩;exact⟨h2,h5,h1⟩
 rintro ⟨h1,h2,h3⟩;have h4:=Q4e h3;refine⟨h3,h1,fun e=>h4.2 (Q7k hs (Q6d e)),?_,h2⟩;have:=h4.1;omega
end
end Go.Proofs.YtcpngeiahgoacaaGreat
