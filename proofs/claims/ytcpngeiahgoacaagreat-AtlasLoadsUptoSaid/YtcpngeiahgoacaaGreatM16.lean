/- Parts of the proof, in one text. -/
import Derived.Test.YtcpngeiahgoacaaGreatM12
import Derived.Test.YtcpngeiahgoacaaGreatM11
import Derived.Test.YtcpngeiahgoacaaGreatM15
import Derived.Test.YtcpngeiahgoacaaGreatM3
import Derived.BigRegion
import Derived.Deep.DeepCutAuto
import Derived.Test.YtcpngeiahgoacaaGreatM6
import Derived.IntWalk
import Derived.Test.YtcpngeiahgoacaaGreatM13
namespace Go.Proofs.YtcpngeiahgoacaaGreat
set_option linter.unusedVariables false
set_option linter.unusedSimpArgs false
set_option maxRecDepth 100000
set_option maxHeartbeats 16000000
open _root_.Array renaming getElem?_toList->zP
open _root_.Go renaming Addr->zA,World->zB,Value->zC,Calls->zG
open _root_.Go.Proofs.Tryz renaming prog->zH,underlying42->zU,underlying77->zV,underlying44->zW
open _root_.Go.RowKit renaming Below->zE
open _root_.Go.RowKit.Below renaming refl->zK
open _root_.Go.Value renaming oneCell'->zN
open _root_.Go.World renaming alloc->zS
open _root_.List renaming getElem?_eq_getElem->zD,length_drop->zF,length_append->zJ,map_append->zL,take_of_length_le->zO,take_succ_eq_append_getElem->zQ,mem_singleton->zT
open _root_.Nat renaming le_refl->zI,zero_add->zM
open _root_.Option.some renaming inj->zR
section
open Go.RowKit Go.Maps
attribute [local irreducible] wpList Q0h
def Qef (w:zB) (V:ALoc) (N:Nat->Prop) (L:LL) (asked:Nat) (p:AM×Ans×Nat) (err ep:Nat) (nodes:List Int) (r:Ending) (w':zB):Prop :=r=.returned (.bool (decide (p.2.2=0/\p.2.1.err=err/\p.2.1.epoch=ep/\p.2.1.nodes=nodes)))/\Q1A w w' V N p.1 L asked 6
theorem AAt.has_all {w:zB} {V:ALoc} {N:Nat->Prop} {m:AM} {b:Nat} (hb:V.has b):V.all b:=by
 rcases hb with e | e | e | e
 ·exact .inl e
 ·exact .inr (.inl e)
 ·exact .inr (.inr (.inr (.inr (.inr e))))
 exact .inr (.inr (.inl e))
theorem Qe1 (w:zB) (V:ALoc) (N:Nat->Prop) (m:AM) (L:LL) (asked:Nat) (h:AAt w V N m) (hN:∀ b,N b->b<w.heap.size) (hbk:Q0y w V.k L asked) (hin:Q20 L (Q0g m)) (has:asked<=700000)
 (x:Wish) (A:Option zA) (n c:Nat) (A':Option zA) (n' c':Nat) (B:Nat) (hx:Q2g w B x A n c A' n' c') (hB:B<=w.heap.size)
 (err ep:Nat) (nodes:List Int) (D:Option zA) (k d:Nat) (hy:Q08 w B 1 D k (nodes.map vn)) (hyp:∀ a,0<k->D=some a->N a.block/\¬ V.all a.block) (hk:k<=1000000) :
 zG zH 53 #[.pointer (some ⟨V.g,0,none⟩),.agg (Q06 x A n c A' n' c'),.int .i64 (err:Int),.int .i64 (ep:Int),.slice D k d] w (Qef w V N L asked (doQ m x) err ep nodes):=by
 have hX:zE w.heap.size w (w.alloc (.cells (Q06 x A n c A' n' c') 44)):=Q04 _ _;have k3:Blk (w.alloc (.cells (Q06 x A n c A' n' c') 44)) w.heap.size 44 (Q06 x A n c A' n' c'):=Blk.newAt rfl;have hz1:(w.alloc (.cells (Q06 x A n c A' n' c') 44)).heap.size=w.heap.size+1:=by simp
 have HV:=sH h;have HNN:=sH hN;have HX:=sH hX;have K3:=sH k3;have HY:=sH hy;have HYP:=sH hyp;have HDO:=sH (fun(W:zB) (hb:zE w.heap.size w W)=>aDo_any W V _ m L asked (h.later hb) (fun b hn=>hn.elim (fun e=>by have:=hN b e; have:=hb.size; omega) (fun e=>e.2)) (hbk.below hb) hin has x A n c A' n' c' B (hx.below (hb.mono hB)) (by have:=hb.size; omega));obtain⟨g4,hg4⟩:∃ b,b=w.heap.size:=⟨_,rfl⟩;obtain⟨p,hp⟩:∃ p,p=doQ m x:=⟨_,rfl⟩;rw [<- hp] at HDO ⊢;clear h hN hbk hin hx hX k3 hy hyp hp;obtain⟨W0,hW0⟩:∃ W0,W0=Q06 x A n c A' n' c':=⟨_,rfl⟩;have hws:W0.size=10:=by rw [hW0]; simp [Q06]
 rw [<- hW0] at HX K3 HDO hz1 ⊢;clear hW0;go_enter Tryz.func53,Tryz.ntmps53
 go_upto_region 1 with fail
 generalize zS w _=w1 at HX K3 hz1 ⊢;rw [<- hg4] at K3 ⊢;have hl3:=K3.out.lt;have hw1:w.heap.size<=w1.heap.size:=by omega
 have hgw4:w.heap.size<=g4:=by omega
 clear hg4 hz1;go_wp2_with (refine Q01 (o:=⟨some 15,_,_,_,_,_⟩) rfl 44 (.tmp 6) rfl g4 0 10 rfl 44 _ W0 _ K3.out zW rfl rfl hws (fun _ _=>by rw [zM]; try rfl) ?_)
 refine(HDO.out w1 HX.out).mono ?_;rintro _ w2 ⟨Dc,rfl,hds,hans,hvd⟩;obtain⟨⟨pm,pa,pf⟩,hpe⟩:∃ r,r=p:=⟨_,rfl⟩;subst hpe;simp only at hvd hans ⊢;have HVD:=sH (Q1A.fold HNN.out HV.out.all (fun b hb=>.inr (.inr hb)) HX.out hvd).1;have HY2:=sH (hvd.only.reads ((HY.out.below (HX.out.mono hB)).more (show B<=w1.heap.size by omega)) (fun a h0 ha e=>by
  have hh:=HYP.out a h0 ha;rcases e with e | e
  ·exact hh.2 (AAt.has_all (w:=w) (m:=m) (N:=N) e)
  exact e (.inl hh.1)))
 have hs2:=hvd.only.size;obtain⟨A3,q3,hDe,ho3⟩:=hans;have hd1:Dc.all (·.oneCell')=true:=by rw [hDe]; exact Q2C _ _ _ _ _ _ _ _
 obtain⟨A4,q4,e4,b1,b2,r3,_⟩:=Q0i ho3;injection e4 with e5 _ e6
 subst e5 e6;have HR3:=sH r3;have HDE:=sH hDe;obtain⟨kn,hkn⟩:∃ q,q=pa.nodes.length:=⟨_,rfl⟩;rw [<- hkn] at b1 HR3 HDE;clear hvd ho3 HDO r3 hDe hkn;by_cases hz:pf=0
 ·have hzb:((pf:Int) == 0)=true:=by simp [hz]
  go_upto_region 2 with(refine Q00 (o:=⟨none,_,_,_,_,_⟩) rfl 47 (.tmp 11) (.tmp 17) rfl w2.heap.size 0 Dc rfl rfl 47 (anC 0 none 0 0 0 none 0 0) (Blk.newAt rfl) (by rw [hds]; kernel_rfl) (by rw [hds]; simp [anC]) hd1 ?_; intro w5 hT5 hD5)
  rw [Q0c _ _ (by rw [hds]; rfl)] at hD5;have hb5:zE w2.heap.size w2 w5:=hT5.below ((zK _ _).alloc (zI _) _) (zI _);have HD5:=sH hD5;have hs5:=hb5.size;have HSA:=sH (Q4X pa.err err pa.epoch ep none 0 0 A3 kn q3 none 0 0 D k d [] [] pa.nodes nodes w5 w2.heap.size Q08.none_ (HR3.out.below hb5) Q08.none_ (HY2.out.below hb5) hs5 (by unfold maxLen; omega) (Nat.le_trans b1 b2) (by unfold maxLen; omega) (by unfold maxLen; omega));rw [<- HDE.out] at HSA;unfold anC at HSA;have HVD5:=sH (HVD.out.after hb5);obtain⟨g6,hg6⟩:∃ g,g=w2.heap.size:=⟨_,rfl⟩;rw [<- hg6] at HD5 ⊢;clear hT5 hD5 hb5 hg6;go_wp2_with (refine Q3d (o:=⟨some 22,_,_,_,_,_⟩) rfl 47 (.tmp 11) rfl g6 0 4 rfl 47 _ Dc _ HD5.out Tryz.underlying47 rfl rfl hds (fun _ _=>by rw [zM]) ?_)
  refine HSA.out.mono ?_;rintro _ w6 ⟨rfl,hb6⟩;have HVD6:=sH (HVD5.out.after hb6);clear hb6 HSA;go_wp2_with fail
  go_ret
  refine⟨Q0C ?_,HVD6.out⟩;rw [Bool.eq_iff_iff];simp only [Bool.and_eq_true,decide_eq_true_eq];constructor
  ·rintro ⟨h1,h2,h3⟩; exact⟨hz,by omega,by omega,h3⟩
  rintro ⟨_,h1,h2,h3⟩; exact⟨by omega,by omega,h3⟩
 have hzb:((pf:Int) == 0)=false:=by simpa using hz
 have HZ:=sH hz;clear hz;go_upto_region 2 with(refine Q00 (o:=⟨none,_,_,_,_,_⟩) rfl 47 (.tmp 11) (.tmp 17) rfl w2.heap.size 0 Dc rfl rfl 47 (anC 0 none 0 0 0 none 0 0) (Blk.newAt rfl) (by rw [hds]; kernel_rfl) (by rw [hds]; simp [anC]) hd1 ?_; intro w5 hT5 hD5)
 have HVD5:=sH (HVD.out.after (hT5.below ((zK _ _).alloc (zI _) _) (zI _)));clear hT5 hD5;go_wp2_with fail
 go_ret
 refine⟨Q0C ?_,HVD5.out⟩;rw [decide_eq_false];rintro ⟨h1,_⟩;exact HZ.out h1
theorem Q7X (w:zB) (g gc T:Nat) (N:Nat->Prop) (m:AM) (S:ASl) (h:ADat w g gc (some ⟨T,0,none⟩) N m S) :
 zG zH 55 #[.pointer (some ⟨g,0,none⟩)] w fun e w'=>e=.returned (.int .i64 (m.chunks.length:Int))/\w'=w:=by
 have hc1:w.cell? ⟨g,1,none⟩=some (.slice (some ⟨gc,0,none⟩) m.chunks.length S.cap):=(h.blk.cell 1).trans (Q1N _ _ _ _ 1 (by omega));have HNO:=sH (Q3a w g T ((h.blk.cell 0).trans (Q1N _ _ _ _ 0 (by omega))));obtain⟨n,hn⟩:∃ n,n=m.chunks.length:=⟨_,rfl⟩;rw [<- hn] at hc1 ⊢;clear h hn;go_enter Tryz.func55,Tryz.ntmps55
 go_wp2_with fail
 refine HNO.out.mono ?_;rintro _ _ ⟨rfl,rfl⟩;go_wp2_with fail
 go_ret
 exact⟨rfl,rfl⟩
def Q3w (c s b:Int):Wish:={ client:=c,stamp:=s,group:=0,epoch:=0,kind:=3,block:=b,data:=[],old:=0,new:=0,next:=[] }
def Q3K (c s b o z:Int):Wish:={ client:=c,stamp:=s,group:=0,epoch:=0,kind:=4,block:=b,data:=[],old:=o,new:=z,next:=[] }
theorem Q8B (c s b:Int) (w:zB) :
 zG zH 52 #[.int .i64 c,.int .i64 s,.int .i64 b] w fun e w'=>e=.returned (.agg (Q06 (Q3w c s b) none 0 0 none 0 0))/\zE w.heap.size w w':=by
 have hX:zE w.heap.size w (w.alloc (.cells (Q06 Q2T none 0 0 none 0 0) 44)):=Q04 _ _;have hk:Blk (w.alloc (.cells (Q06 Q2T none 0 0 none 0 0) 44)) w.heap.size 44 (Q06 Q2T none 0 0 none 0 0):=Blk.newAt rfl;have HZ:=sH (show Q06 Q2T none 0 0 none 0 0=#[.int .i64 0,.int .i64 0,.int .i64 0,.int .i64 0,.int .i64 0,.int .i64 0,.slice none 0 0,.int .i64 0,.int .i64 0,.slice none 0 0] from rfl);have HX:=sH hX;have HK:=sH hk;obtain⟨g,hg⟩:∃ g,g=w.heap.size:=⟨_,rfl⟩;clear hX hk;go_enter Tryz.func52,Tryz.ntmps52
 go_upto_region 1 with fail
 rw [<- HZ.out];generalize zS w _=w1 at HX HK ⊢;rw [<- hg] at HK ⊢;have hgw:w.heap.size<=g:=by omega
 clear hg;go_wp2_with (refine Q00 (o:=⟨none,_,_,_,_,_⟩) rfl 44 (.tmp 6) (.tmp 10) rfl g 0 (Q06 (Q3w c s b) none 0 0 none 0 0) rfl rfl 44 (Q06 Q2T none 0 0 none 0 0) HK.out (Q2c _ _ _ _ _ _ _) (by simp [Q06]) (Q2B _ _ _ _ _ _ _) ?_; intro w3 hT3 hD3; rw [Qdw] at hD3)
 refine bodyPost_ret (Q0t rfl _ _ g 10 44 _ _ rfl hD3 zW rfl rfl rfl) rfl ?_;exact⟨rfl,hT3.below HX.out hgw⟩
theorem Q3u (c s b o z:Int) (w:zB) :
 zG zH 54 #[.int .i64 c,.int .i64 s,.int .i64 b,.int .i64 o,.int .i64 z] w fun e w'=>e=.returned (.agg (Q06 (Q3K c s b o z) none 0 0 none 0 0))/\zE w.heap.size w w':=by
 have hX:zE w.heap.size w (w.alloc (.cells (Q06 Q2T none 0 0 none 0 0) 44)):=Q04 _ _;have hk:Blk (w.alloc (.cells (Q06 Q2T none 0 0 none 0 0) 44)) w.heap.size 44 (Q06 Q2T none 0 0 none 0 0):=Blk.newAt rfl;have HZ:=sH (show Q06 Q2T none 0 0 none 0 0=#[.int .i64 0,.int .i64 0,.int .i64 0,.int .i64 0,.int .i64 0,.int .i64 0,.slice none 0 0,.int .i64 0,.int .i64 0,.slice none 0 0] from rfl);have HX:=sH hX;have HK:=sH hk;obtain⟨g,hg⟩:∃ g,g=w.heap.size:=⟨_,rfl⟩;clear hX hk;go_enter Tryz.func54,Tryz.ntmps54
 go_upto_region 1 with fail
 rw [<- HZ.out];generalize zS w _=w1 at HX HK ⊢;rw [<- hg] at HK ⊢;have hgw:w.heap.size<=g:=by omega
 clear hg;go_wp2_with (refine Q00 (o:=⟨none,_,_,_,_,_⟩) rfl 44 (.tmp 10) (.tmp 16) rfl g 0 (Q06 (Q3K c s b o z) none 0 0 none 0 0) rfl rfl 44 (Q06 Q2T none 0 0 none 0 0) HK.out (Q2c _ _ _ _ _ _ _) (by simp [Q06]) (Q2B _ _ _ _ _ _ _) ?_; intro w3 hT3 hD3; rw [Qdw] at hD3)
 refine bodyPost_ret (Q0t rfl _ _ g 10 44 _ _ rfl hD3 zW rfl rfl rfl) rfl ?_;exact⟨rfl,hT3.below HX.out hgw⟩
def twoL:List (Int×List Int):=[(1,[5,6,7,8]),(1,[9,10,11,12])]
theorem atwo_any (w:zB) :
 zG zH 51 #[] w fun e w'=>∃ A c,e=.returned (.slice A 2 c)/\Q2p w' A 2 twoL/\zE w.heap.size w w':=by
 go_enter Tryz.func51,Tryz.ntmps51
 go_wp2_with fail
 have h1:=Q04 w (.cells #[.int .i64 5,.int .i64 6,.int .i64 7,.int .i64 8] 3);have k1:Blk (w.alloc (.cells #[.int .i64 5,.int .i64 6,.int .i64 7,.int .i64 8] 3)) w.heap.size 3 #[.int .i64 5,.int .i64 6,.int .i64 7,.int .i64 8]:=Blk.newAt rfl;have hs1:(w.alloc (.cells #[.int .i64 5,.int .i64 6,.int .i64 7,.int .i64 8] 3)).heap.size=w.heap.size+1:=by simp
 generalize w.alloc (.cells #[.int .i64 5,.int .i64 6,.int .i64 7,.int .i64 8] 3)=w1 at h1 k1 hs1 ⊢;have h2:=Q04 w1 (.cells #[.int .i64 9,.int .i64 10,.int .i64 11,.int .i64 12] 3);have k2:Blk (w1.alloc (.cells #[.int .i64 9,.int .i64 10,.int .i64 11,.int .i64 12] 3)) w1.heap.size 3 #[.int .i64 9,.int .i64 10,.int .i64 11,.int .i64 12]:=Blk.newAt rfl;have hs2:(w1.alloc (.cells #[.int .i64 9,.int .i64 10,.int .i64 11,.int .i64 12] 3)).heap.size=w1.heap.size+1:=by simp
 generalize w1.alloc (.cells #[.int .i64 9,.int .i64 10,.int .i64 11,.int .i64 12] 3)=w2 at h2 k2 hs2 ⊢;have h3:=Q04 w2 (.cells #[.int .i64 1,.slice (some ⟨w.heap.size,0,none⟩) 4 4,.int .i64 1,.slice (some ⟨w.heap.size+1,0,none⟩) 4 4] 77);have k3:Blk (w2.alloc (.cells #[.int .i64 1,.slice (some ⟨w.heap.size,0,none⟩) 4 4,.int .i64 1,.slice (some ⟨w.heap.size+1,0,none⟩) 4 4] 77)) w2.heap.size 77 #[.int .i64 1,.slice (some ⟨w.heap.size,0,none⟩) 4 4,.int .i64 1,.slice (some ⟨w.heap.size+1,0,none⟩) 4 4]:=Blk.newAt rfl;generalize w2.alloc (.cells #[.int .i64 1,.slice (some ⟨w.heap.size,0,none⟩) 4 4,.int .i64 1,.slice (some ⟨w.heap.size+1,0,none⟩) 4 4] 77)=w3 at h3 k3 ⊢;have k13:Blk w3 w.heap.size 3 #[.int .i64 5,.int .i64 6,.int .i64 7,.int .i64 8]:=(k1.below' h2).below' h3;have k23:Blk w3 (w.heap.size+1) 3 #[.int .i64 9,.int .i64 10,.int .i64 11,.int .i64 12]:=by rw [<- hs1]; exact k2.below' h3
 have hrd:∀ (q a b c d:Int) (g:Nat),Blk w3 g 3 #[.int .i64 a,.int .i64 b,.int .i64 c,.int .i64 d]->Q08 w3 w3.heap.size 1 (some ⟨g,0,none⟩) 4 ([a,b,c,d].map vn):=fun q a b c d g hb=>⟨rfl,fun _=>⟨⟨g,0,none⟩,rfl,hb.lt,fun j u hu=>by rw [Q11,zM,hb.cell,<- zP]; exact hu⟩⟩
 have e:w2.heap.size=w.heap.size+1+1:=by omega
 go_ret
 refine⟨some ⟨w.heap.size+1+1,0,none⟩,2,rfl,⟨rfl,fun _=>⟨w2.heap.size,_,by rw [e],k3,fun i f l hi=>?_⟩⟩,(h1.trans (h2.mono (by omega))).trans (h3.mono (by omega))⟩;match i,hi with
 | 0,hi =>obtain⟨rfl,rfl⟩:=Prod.mk.inj (zR hi);exact⟨_,_,rfl,rfl,hrd 0 _ _ _ _ _ k13,by decide⟩
 | 1,hi =>obtain⟨rfl,rfl⟩:=Prod.mk.inj (zR hi);exact⟨_,_,rfl,rfl,hrd 0 _ _ _ _ _ k23,by decide⟩
 | i+2,hi=>simp [twoL] at hi
theorem Q1H.at_ {w:zB} {B f i:Nat} {v:zC} {ls:List (List Int)} {nA:Nat->Option zA} {nC:Nat->Nat} {l:List Int} (h:Q1H w B v f ls nA nC) (hi:ls[i]?=some l):∃ gl cap,v=.slice (some ⟨gl,0,none⟩) ls.length cap/\B<=gl/\gl<w.heap.size/\w.cell? ⟨gl,i*2+1,none⟩=some (.slice (nA i) l.length (nC i)):=by
 have hil:i<ls.length:=(List.getElem?_eq_some_iff.1 hi).1;have hr:=h.row;rcases h.row.2 with⟨_,h0⟩ | ⟨gl,cap,cur,hv,h2,h3,h4,h5,h6,h7⟩
 ·omega
 have hB:Blk w gl 77 cur:=h3;refine⟨gl,cap,hv,h2,hB.lt,?_⟩;rw [hB.cell];have:=(Q38 f nA nC ls 0 i l hi).2;rw [zM] at this;rw [<- this,<- h7,List.getElem?_take,if_pos (by omega),zP]
structure ALSt (w0:zB) (V:ALoc) (N:Nat->Prop) (m:AM) (a:Nat) (W:zB):Prop where
 vat:AAt W V N m
 book:∃ L a',Q0y W V.k L a'/\a'<=a/\Q20 L (Q0g m)
 low:zE w0.heap.size w0 W
 nlt:∀ b,N b->b<W.heap.size
 old:∀ b,b<w0.heap.size->N b
 new:∀ b,V.all b->w0.heap.size<=b
theorem ALSt.below {w0 W W':zB} {V:ALoc} {N:Nat->Prop} {m:AM} {a:Nat} (h:ALSt w0 V N m a W) (hb:zE W.heap.size W W'):ALSt w0 V N m a W':=by obtain⟨L,a',h1,h2,h3⟩:=h.book;exact⟨h.vat.below hb,⟨L,a',h1.below hb,h2,h3⟩,h.low.trans (hb.mono h.low.size),fun b hn=>by have:=h.nlt b hn; have:=hb.size; omega,h.old,h.new⟩
theorem ALSt.only {w0 W W':zB} {V:ALoc} {N:Nat->Prop} {m:AM} {a:Nat} (h:ALSt w0 V N m a W) (ho:Only (V.hasN N) W W'):zE w0.heap.size w0 W' :=
 h.low.trans (ho.below h.low.size fun b hb hv=>by
  rcases hv with e | e
  ·exact absurd (h.new b (AAt.has_all (w:=w0) (m:=m) (N:=N) e)) (by omega)
  exact e (h.old b hb))
theorem ALSt.did {w0 W W':zB} {V:ALoc} {N:Nat->Prop} {m m':AM} {a a' q asked:Nat} {L:LL} (h:ALSt w0 V N m a W) (hd:Q1A W W' V N m' L asked q) (hq:asked+q<=a'):ALSt w0 V N m' a' W':=by obtain⟨L',b',h1,h2,h3,h4⟩:=hd.book;exact⟨hd.vat,⟨L',b',h1,by omega,h4⟩,h.only hd.only,fun b hn=>by have:=h.nlt b hn; have:=hd.only.size; omega,h.old,h.new⟩
theorem ALSt.later {w0 W W':zB} {V:ALoc} {N:Nat->Prop} {m:AM} {a:Nat} (h:ALSt w0 V N m a W) (hb:zE W.heap.size W W'):ALSt w0 V (fun b=>N b\/(W.heap.size<=b/\b<W'.heap.size)) m a W':=by obtain⟨L,a',h1,h2,h3⟩:=h.book;exact⟨h.vat.later hb,⟨L,a',h1.below hb,h2,h3⟩,h.low.trans (hb.mono h.low.size),fun b hn=>hn.elim (fun e=>by have:=h.nlt b e; have:=hb.size; omega) (fun e=>e.2),fun b hb'=>.inl (h.old b hb'),h.new⟩
theorem ALoc.all_lt {w:zB} {V:ALoc} {N:Nat->Prop} {m:AM} {L:LL} {a:Nat} (h:AAt w V N m) (hb:Q0y w V.k L a):∀ b,V.all b->b<w.heap.size:=fun b hb'=>by
 obtain⟨S,hd⟩:=h.dat;have hl:=hb.lt;rcases hb' with e | e | e | e
 ·rw [e]; exact hd.lt.1
 ·rw [e]; exact hd.lt.2
 ·rcases e with e | e | e <;> rw [e]
  ·exact hl.1
  ·exact hl.2.1
  exact hl.2.2
 exact h.tree.lt e
theorem ALSt.start {w0 W W':zB} {V:ALoc} {m:AM} {asked:Nat} {L:LL} (hb:zE w0.heap.size w0 W) (hk:w0.heap.size<=V.k.g/\w0.heap.size<=V.k.b1/\w0.heap.size<=V.k.b2) (h:ANew W W' V.k V L asked m):ALSt w0 V (fun b=>V.all b\/b<W.heap.size) m (asked+30) W':=by
 obtain⟨L',a',h1,h2,h3,h4⟩:=h.book;have hs:=hb.size;refine⟨h.vat,⟨L',a',h1,by omega,h4⟩,hb.trans (h.only.below hs fun b hb' hn=>by rcases hn with e | e | e <;> omega),fun b hn=>hn.elim (fun e=>ALoc.all_lt h.vat h1 b e) (fun e=>by have:=h.only.size; omega),fun b hb'=>.inr (by omega),fun b hb'=>?_⟩;rcases hb' with e | e | e | e
 ·have:=h.new.1; omega
 ·have:=h.new.2.1; omega
 ·rcases e with e | e | e <;> omega
 have:=h.new.2.2 b e; omega
theorem ALSt.does_ {w0 W0 W:zB} {V:ALoc} {N:Nat->Prop} {m:AM} {a:Nat} (h:ALSt w0 V N m a W0) (hb:zE W0.heap.size W0 W) (ha:a<=700000) (x:Wish) (hx:Q2g W W.heap.size x none 0 0 none 0 0)
 (err ep:Nat) (nodes:List Int) (D:Option zA) (k d:Nat) (hy:Q08 W W.heap.size 1 D k (nodes.map vn)) (hyp:∀ a,0<k->D=some a->W0.heap.size<=a.block) (hk:k<=1000000)
 (m':AM) (hm':(doQ m x).1=m') (hres:(doQ m x).2.2=0/\(doQ m x).2.1.err=err/\(doQ m x).2.1.epoch=ep/\(doQ m x).2.1.nodes=nodes) (args:Array zC) (hargs:args=#[.pointer (some ⟨V.g,0,none⟩),.agg (Q06 x none 0 0 none 0 0),.int .i64 (err:Int),.int .i64 (ep:Int),.slice D k d]) :
 zG zH 53 args W fun e W'=>e=.returned (.bool true)/\ALSt w0 V (fun b=>N b\/(W0.heap.size<=b/\b<W.heap.size)) m' (a+6) W':=by
 have hl:=h.later hb;obtain⟨L,a',h1,h2,h3⟩:=hl.book;subst hargs;refine(Qe1 W V _ m L a' hl.vat hl.nlt h1 h3 (by omega) x none 0 0 none 0 0 _ hx (zI _) err ep nodes D k d hy (fun ad h0 hA=>?_) hk).mono ?_
 ·obtain⟨ad',e,hlt,_⟩:=hy.2 h0;rw [hA] at e;injection e with e
  subst e;have h5:=hyp ad h0 hA;exact⟨.inr ⟨h5,hlt⟩,fun hv=>by have:=h.nlt _ (h.vat.all _ hv); omega⟩
 rintro e W' ⟨rfl,hd⟩;subst hm';exact⟨by rw [decide_eq_true hres],hl.did hd (by omega)⟩
theorem QdX {w:zB} {c s b:Int} (h:I64 c/\I64 s/\I64 b):Q2g w w.heap.size (Q3w c s b) none 0 0 none 0 0 :=⟨Q08.none_,by simp [Q3w],by simp [Q3w],Q08.none_,by simp [Q3w],by simp [Q3w],⟨h.1,h.2.1,by show I64 0; unfold I64; omega,by show I64 0; unfold I64; omega,by show I64 3; unfold I64; omega,h.2.2,by show I64 0; unfold I64; omega,by show I64 0; unfold I64; omega,fun z hz=>by simp [Q3w] at hz⟩⟩
theorem Qcj {w:zB} {c s b o z:Int} (h:I64 c/\I64 s/\I64 b/\I64 o/\I64 z):Q2g w w.heap.size (Q3K c s b o z) none 0 0 none 0 0 :=⟨Q08.none_,by simp [Q3K],by simp [Q3K],Q08.none_,by simp [Q3K],by simp [Q3K],⟨h.1,h.2.1,by show I64 0; unfold I64; omega,by show I64 0; unfold I64; omega,by show I64 4; unfold I64; omega,h.2.2.1,h.2.2.2.1,h.2.2.2.2,fun z hz=>by simp [Q3K] at hz⟩⟩
def ak0:AM:=Q0G [⟨1,[5,6,7,8],[]⟩,⟨1,[9,10,11,12],[]⟩]
theorem newQ_two:newQ twoL=some ak0:=by kernel_rfl
def ak1:AM:=(doQ ak0 (Q3w 31 1 2)).1
def ak2:AM:=(doQ ak1 (Q3w 31 1 2)).1
def ak3:AM:=(doQ ak2 (Q3K 34 1 1 6 20)).1
def ak4:AM:=(doQ ak3 (Q3K 34 2 1 6 21)).1
def ak5:AM:=(doQ ak4 (Q3K 34 3 1 7 6)).1
def ak6:AM:=(doQ ak5 (Q3K 31 2 1 7 21)).1
def Q6x (m:AM) (x:Wish) (err ep:Nat) (nodes:List Int):Prop:=(doQ m x).2.2=0/\(doQ m x).2.1.err=err/\(doQ m x).2.1.epoch=ep/\(doQ m x).2.1.nodes=nodes
instance (m:AM) (x:Wish) (err ep:Nat) (nodes:List Int):Decidable (Q6x m x err ep nodes):=by unfold Q6x; infer_instance
theorem ak_0:Q6x ak0 (Q3w 31 1 2) 0 0 [9,10,11,12]:=by decide +kernel
theorem ak_1:Q6x ak1 (Q3w 31 1 2) 0 0 [9,10,11,12]:=by decide +kernel
theorem ak_2:Q6x ak2 (Q3K 34 1 1 6 20) 0 1 []:=by decide +kernel
theorem ak_3:Q6x ak3 (Q3K 34 2 1 6 21) 180 1 []:=by decide +kernel
theorem ak_4:Q6x ak4 (Q3K 34 3 1 7 6) 180 1 []:=by decide +kernel
theorem ak_5:Q6x ak5 (Q3K 31 2 1 7 21) 180 0 []:=by decide +kernel
theorem ak_6:(ak6.chunks[0]?.map fun s=>Q12 s.first s.moves)=some [[5,6,7,8],[5,7,8,20]]/\ak6.chunks.length=2:=by decide +kernel
theorem Qe5 (w:zB) (a b c d:Int):Q08 (w.alloc (.cells #[.int .i64 a,.int .i64 b,.int .i64 c,.int .i64 d] 3)) (w.alloc (.cells #[.int .i64 a,.int .i64 b,.int .i64 c,.int .i64 d] 3)).heap.size 1 (some ⟨w.heap.size,0,none⟩) 4 ([a,b,c,d].map vn):=by have hk:Blk (w.alloc (.cells #[.int .i64 a,.int .i64 b,.int .i64 c,.int .i64 d] 3)) w.heap.size 3 #[.int .i64 a,.int .i64 b,.int .i64 c,.int .i64 d]:=Blk.newAt rfl;exact⟨rfl,fun _=>⟨⟨w.heap.size,0,none⟩,rfl,hk.lt,fun j u hu=>by rw [Q11,zM,hk.cell,<- zP]; exact hu⟩⟩
theorem Q4T (w:zB) :
 zG zH 46 #[] w fun e w'=>e=.returned (.bool true)/\zE w.heap.size w w':=by
 go_enter Tryz.func46,Tryz.ntmps46
 go_wp2_with fail
 refine(Q68 w).mono ?_;rintro _ w1 ⟨k,rfl,hbk,hkn,hb1⟩;have HB1:=sH hb1;have HKN:=sH hkn;have HBK:=sH hbk;have hs1:=hb1.size;clear hb1 hkn hbk;go_wp2_with fail
 refine(atwo_any w1).mono ?_;rintro _ wt ⟨At,ct,rfl,hct,hbt⟩;have HNW:=sH (aNew_any k [] 0 At 2 ct twoL wt (HBK.out.below hbt) (by omega) hct (by omega));have HBT:=sH (HB1.out.trans (hbt.mono hs1));clear hct hbt;go_wp2_with fail
 refine HNW.out.mono ?_;rintro _ w2 ⟨_,hgo⟩;obtain⟨V,rfl,hna⟩:=hgo ak0 newQ_two;have hkk:=hna.kk;subst hkk;have HS0:=sH (ALSt.start HBT.out HKN.out hna);clear hgo hna HNW HBK HBT HB1 HKN;have hI0:∀ z:Int,0<=z->z<=1000->I64 z:=fun z h1 h2=>by unfold I64; omega
 go_wp2_with fail
 refine(Q8B _ _ _ _).mono ?_;rintro _ q0 ⟨rfl,hbq0⟩;have hb0:=hbq0.trans ((Q04 q0 (.cells #[.int .i64 9,.int .i64 10,.int .i64 11,.int .i64 12] 3)).mono hbq0.size);have HD0:=sH (HS0.out.does_ hb0 (by omega) (Q3w 31 1 2) (QdX ⟨hI0 31 (by omega) (by omega),hI0 1 (by omega) (by omega),hI0 2 (by omega) (by omega)⟩) 0 0 [9,10,11,12] _ 4 4 (Qe5 q0 9 10 11 12) (fun a _ ha=>by injection ha with ha; subst ha; exact hbq0.size) (by omega) ak1 rfl ak_0 _ rfl);clear hb0 hbq0 hI0;go_wp2_with fail
 refine HD0.out.mono ?_;rintro _ d0 ⟨rfl,hs0⟩;have HS1:=sH hs0;clear hs0 HD0 HS0;have hI1:∀ z:Int,0<=z->z<=1000->I64 z:=fun z h1 h2=>by unfold I64; omega
 go_wp2_with fail
 refine(Q8B _ _ _ _).mono ?_;rintro _ q1 ⟨rfl,hbq1⟩;have hb1:=hbq1.trans ((Q04 q1 (.cells #[.int .i64 9,.int .i64 10,.int .i64 11,.int .i64 12] 3)).mono hbq1.size);have HD1:=sH (HS1.out.does_ hb1 (by omega) (Q3w 31 1 2) (QdX ⟨hI1 31 (by omega) (by omega),hI1 1 (by omega) (by omega),hI1 2 (by omega) (by omega)⟩) 0 0 [9,10,11,12] _ 4 4 (Qe5 q1 9 10 11 12) (fun a _ ha=>by injection ha with ha; subst ha; exact hbq1.size) (by omega) ak2 rfl ak_1 _ rfl);clear hb1 hbq1 hI1;go_wp2_with fail
 refine HD1.out.mono ?_;rintro _ d1 ⟨rfl,hs1⟩;have HS2:=sH hs1;clear hs1 HD1 HS1;have hI2:∀ z:Int,0<=z->z<=1000->I64 z:=fun z h1 h2=>by unfold I64; omega
 go_wp2_with fail
 refine(Q3u _ _ _ _ _ _).mono ?_;rintro _ q2 ⟨rfl,hbq2⟩;have HD2:=sH (HS2.out.does_ hbq2 (by omega) (Q3K 34 1 1 6 20) (Qcj ⟨hI2 34 (by omega) (by omega),hI2 1 (by omega) (by omega),hI2 1 (by omega) (by omega),hI2 6 (by omega) (by omega),hI2 20 (by omega) (by omega)⟩) 0 1 [] none 0 0 Q08.none_ (fun a h0 _=>by omega) (by omega) ak3 rfl ak_2 _ rfl);clear hbq2 hI2;go_wp2_with fail
 refine HD2.out.mono ?_;rintro _ d2 ⟨rfl,hs2⟩;have HS3:=sH hs2;clear hs2 HD2 HS2;have hI3:∀ z:Int,0<=z->z<=1000->I64 z:=fun z h1 h2=>by unfold I64; omega
 go_wp2_with fail
 refine(Q3u _ _ _ _ _ _).mono ?_;rintro _ q3 ⟨rfl,hbq3⟩;have HD3:=sH (HS3.out.does_ hbq3 (by omega) (Q3K 34 2 1 6 21) (Qcj ⟨hI3 34 (by omega) (by omega),hI3 2 (by omega) (by omega),hI3 1 (by omega) (by omega),hI3 6 (by omega) (by omega),hI3 21 (by omega) (by omega)⟩) 180 1 [] none 0 0 Q08.none_ (fun a h0 _=>by omega) (by omega) ak4 rfl ak_3 _ rfl);clear hbq3 hI3;go_wp2_with fail
 refine HD3.out.mono ?_;rintro _ d3 ⟨rfl,hs3⟩;have HS4:=sH hs3;clear hs3 HD3 HS3;have hI4:∀ z:Int,0<=z->z<=1000->I64 z:=fun z h1 h2=>by unfold I64; omega
 go_wp2_with fail
 refine(Q3u _ _ _ _ _ _).mono ?_;rintro _ q4 ⟨rfl,hbq4⟩;have HD4:=sH (HS4.out.does_ hbq4 (by omega) (Q3K 34 3 1 7 6) (Qcj ⟨hI4 34 (by omega) (by omega),hI4 3 (by omega) (by omega),hI4 1 (by omega) (by omega),hI4 7 (by omega) (by omega),hI4 6 (by omega) (by omega)⟩) 180 1 [] none 0 0 Q08.none_ (fun a h0 _=>by omega) (by omega) ak5 rfl ak_4 _ rfl);clear hbq4 hI4;go_wp2_with fail
 refine HD4.out.mono ?_;rintro _ d4 ⟨rfl,hs4⟩;have HS5:=sH hs4;clear hs4 HD4 HS4;have hI5:∀ z:Int,0<=z->z<=1000->I64 z:=fun z h1 h2=>by unfold I64; omega
 go_wp2_with fail
 refine(Q3u _ _ _ _ _ _).mono ?_;rintro _ q5 ⟨rfl,hbq5⟩;have HD5:=sH (HS5.out.does_ hbq5 (by omega) (Q3K 31 2 1 7 21) (Qcj ⟨hI5 31 (by omega) (by omega),hI5 2 (by omega) (by omega),hI5 1 (by omega) (by omega),hI5 7 (by omega) (by omega),hI5 21 (by omega) (by omega)⟩) 180 0 [] none 0 0 Q08.none_ (fun a h0 _=>by omega) (by omega) ak6 rfl ak_5 _ rfl);clear hbq5 hI5;go_wp2_with fail
 refine HD5.out.mono ?_;rintro _ d5 ⟨rfl,hs5⟩;have HS6:=sH hs5;clear hs5 HD5 HS5;obtain⟨S,hd⟩:=HS6.out.vat.dat;obtain⟨s,hs⟩:∃ s,ak6.chunks[0]?=some s:=⟨_,zD (by rw [ak_6.2]; omega)⟩;have hcr:Q12 s.first s.moves=[[5,6,7,8],[5,7,8,20]]:=by have:=ak_6.1;rw [hs] at this;exact zR this
 have HCW:=sH (Q8l _ _ _ 0 _ _ _ _ s hd hs);have HCR:=sH hcr;clear hd hs hcr;go_wp2_with fail
 refine HCW.out.mono ?_;rintro _ w7 ⟨v,nA,nC,rfl,hown,hb7⟩;rw [HCR.out] at hown;obtain⟨gl,cap,rfl,hgl,hgl2,hcl⟩:=hown.at_ (i:=1) (l:=[5,7,8,20]) rfl;have hnd:=Q1y (hown.nodes 1 [5,7,8,20] rfl);obtain⟨An,hAn⟩:∃ A,A=nA 1:=⟨_,rfl⟩;obtain⟨cn,hcn⟩:∃ c,c=nC 1:=⟨_,rfl⟩;rw [<- hAn] at hnd hcl;rw [<- hcn] at hcl;have hcl':w7.cell? ⟨gl,3,none⟩=some (.slice An 4 cn):=hcl;have hb8:=Q04 w7 (.cells #[.int .i64 5,.int .i64 7,.int .i64 8,.int .i64 20] 3);have HEQ:=sH (Q4H An (some ⟨w7.heap.size,0,none⟩) 4 4 cn 4 [5,7,8,20] [5,7,8,20] _ w7.heap.size _ (hnd.2.below hb8) (Qe5 w7 5 7 8 20) (by unfold maxLen; omega) (by unfold maxLen; omega));have HS7:=sH (HS6.out.below (hb7.trans (hb8.mono hb7.size)));have hz2:[[5,6,7,8],[5,7,8,(20:Int)]].length=2:=rfl;rw [hz2];clear hown hcl hnd hAn hcn hb7 hb8 HCW HS6 hgl hgl2 hz2;go_wp2_with fail
 refine HEQ.out.mono ?_;rintro _ _ ⟨rfl,q,rfl⟩;rw [decide_eq_true trivial];have HS8:=sH (HS7.out.below (Q0v (zK _ _) q));clear HEQ HS7 hcl';obtain⟨S,hd⟩:=HS8.out.vat.dat;have HCH:=sH (Q7X _ _ _ _ _ _ _ hd);rw [ak_6.2] at HCH;clear hd;go_wp2_with fail
 refine HCH.out.mono ?_;rintro _ _ ⟨rfl,rfl⟩;go_wp2_with fail
 go_ret
 exact⟨rfl,HS8.out.low⟩
theorem QdS (w:zB) (V:ALoc) (N:Nat->Prop) (m:AM) (h:AAt w V N m) :
 zG zH 59 #[.pointer (some ⟨V.g,0,none⟩)] w fun e w'=>e=.returned (.tuple #[.agg (bRow (Q2z (Q0g m))),.int .i64 0])/\zE w.heap.size w w':=by
 obtain⟨S,hd⟩:=h.dat;have hX:=Q04 w (.cells inkZ 60);have hk0:Blk (w.alloc (.cells inkZ 60)) w.heap.size 60 inkZ:=Blk.newAt rfl;have c0:=((hd.below hX).blk.cell 0).trans (Q1N _ _ _ _ 0 (by omega));have HN:=sH (Q3a (w.alloc (.cells inkZ 60)) V.g V.T.t c0);have HR:=sH (QaE (w.alloc (.cells inkZ 60)) V.T V.k (Q0g m) (h.tree.below hX));have hln:=Q0z m;have hds:(bRow (Q2z (Q0g m))).size=32:=Q0E (Qa2 (Q0g m) (by omega) (by omega)).2;have hdo:=Q0K (Q2z (Q0g m));obtain⟨D,hD⟩:∃ D,D=bRow (Q2z (Q0g m)):=⟨_,rfl⟩;rw [<- hD] at HR hds hdo ⊢;have HDS:=sH hds;have HDO:=sH hdo;have HZ:=sH Q1Y;have HZS:=sH (show inkZ.size=32 by simp [inkZ,bRow]);have HX:=sH hX;have HK:=sH hk0;have C0:=sH c0;obtain⟨g,hg⟩:∃ g,g=w.heap.size:=⟨_,rfl⟩;clear h hd hX hk0 c0 hD hds hdo hln;go_enter Tryz.func59,Tryz.ntmps59
 go_upto_region 1 with fail
 rw [<- HZ.out];generalize zS w _=w1 at HN HR HX HK C0 ⊢;rw [<- hg] at HK ⊢;have hgw:w.heap.size<=g:=by omega
 have c0:=C0.out;clear hg;go_wp2_with fail
 refine HN.out.mono ?_;rintro _ _ ⟨rfl,rfl⟩;go_wp2_with fail
 refine HR.out.mono ?_;rintro _ w2 ⟨rfl,hb2⟩;have HB2:=sH (HX.out.trans (hb2.mono HX.out.size));have HK2:=sH (HK.out.below' hb2);clear hb2;go_wp2_with (refine Q00 (o:=⟨none,_,_,_,_,_⟩) rfl 60 (.tmp 2) (.tmp 12) rfl g 0 D rfl rfl 60 inkZ HK2.out (by rw [HDS.out]; rfl) (by rw [HDS.out,HZS.out]; omega) HDO.out ?_; intro w5 hT5 hD5; rw [Q0c _ _ (by rw [HDS.out,HZS.out])] at hD5)
 refine bodyPost_ret (Q09 rfl _ _ g 32 60 _ _ rfl hD5 Tryz.underlying60 rfl rfl HDS.out) rfl ⟨rfl,?_⟩;exact hT5.below HB2.out hgw
def Qb1 (w:zB) (m:AM) (e:Ending) (w':zB):Prop:=∃ v vs,e=.returned v/\OwnL w' w.heap.size v (Q0g m) vs/\zE w.heap.size w w'
theorem Q7z (w:zB) (V:ALoc) (N:Nat->Prop) (m:AM) (h:AAt w V N m) :
 zG zH 57 #[.pointer (some ⟨V.g,0,none⟩)] w (Qb1 w m):=by
 obtain⟨S,hd⟩:=h.dat;have HN:=sH (Q3a w V.g V.T.t ((hd.blk.cell 0).trans (Q1N _ _ _ _ 0 (by omega))));have HL:=sH (fun(i:Nat) (hi:i<6) (W:zB) (hb:zE w.heap.size w W)=>QaI W V.g V.gc i _ N m S (hd.below hb) hi);have hlen:=Q0z m;have HLN:=sH hlen;obtain⟨i0,hi0,hz0,hz1,hz2⟩:=info_parts Q5r;clear h hd hlen;go_enter Tryz.func57,Tryz.ntmps57
 go_wp2_with fail
 refine HN.out.mono ?_;rintro _ _ ⟨rfl,rfl⟩;go_wp2_with fail
 go_loopw [3,7] (fun ov iv wr=>∃ (i:Nat) (vs:List zC),i<=6/\iv=.int .i64 i/\OwnL wr w.heap.size ov ((Q0g m).take i) vs/\zE w.heap.size w wr) (fun _ iv _=>6 - (intOf iv).toNat)
 case atStart=>exact⟨0,[],by omega,rfl,OwnL.nil _ _,zK _ _⟩
 obtain⟨i,vs,hi,rfl,hov,hbel⟩:=hrel;have HOV:=sH hov;have HB:=sH hbel;have hsz:=hbel.size;by_cases hin:i<6
 ·have hinI:(i:Int)<6:=by omega
  have htl:((Q0g m).take i).length=i:=by rw [List.length_take,HLN.out]; omega
  have HTL:=sH htl;have HLF:=sH (HL.out i hin wr hbel);have htk:(Q0g m).take (i+1)=(Q0g m).take i++[Q1v m i]:=by have hl:=HLN.out;have hg:=Q1T m i hin;rw [zD (by omega)] at hg;rw [zQ (by omega),zR hg]
  have HTK:=sH htk;clear hov hbel htl htk;generalize Q1v m i=x at HLF HTK;go_wp2_with fail
  refine HLF.out.mono ?_;rintro _ w3 ⟨u0,rfl,hu,hb3⟩;obtain⟨Au,cu,hue,_⟩:=Q0f hu;subst hue;obtain⟨nu,hnu⟩:∃ k,k=x.length:=⟨_,rfl⟩;rw [<- hnu] at hu ⊢;obtain⟨u,hu0⟩:∃ u,u=Value.slice Au nu cu:=⟨_,rfl⟩;rw [<- hu0] at hu;have HU:=sH (hu.more hsz);have HB3:=sH hb3;have hs3:=hb3.size;have hr3:=Q0N w3 #[u] 22;have HR3:=sH hr3;have HU0:=sH hu0;have HW:=sH (show (w3.alloc (.cells #[u] 22)).ownsRow w.heap.size 22 1 _ i vs from by have:=(Q0d HOV.out.row (w':=w3) fun b hb''=>hb3.block b (Q07 HOV.out.row hb'').2).alloc (.cells #[u] 22);rw [HTL.out] at this;exact this)
  rw [hu0] at HW HR3;clear hu hb3 hr3 HLF hnu hu0;go_wp2_with (at_builtin; go_must (refine Q03 _ rfl (.tmp 10) (.tmp 14) 23 rfl w.heap.size 22 i0 _ 1 24 Tryz.underlying23 hi0 hz0 hz1 hz2 rfl (by omega) _ i vs rfl HW.out (w3.heap.size+1) (some ⟨w3.heap.size,0,none⟩) 1 1 [.slice Au nu cu] rfl HR3.out ?c1 ?c2 ?c3 ?c4 ?_))
  case c1=>intro z hz; rw [zT] at hz; subst hz; rfl
  case c2=>unfold maxLen; omega
  case c3=>omega
  case c4=>simp; omega
  intro v6 w6 hown6 hg6 hor6;rw [<- HU0.out] at hown6 hg6;have ho6:OwnL w6 w.heap.size v6 ((Q0g m).take (i+1)) (vs++[u]):=by rw [HTK.out];exact HOV.out.push HB3.out HU.out (by rw [HTL.out]; exact hown6) hg6
  have hb6:zE w.heap.size w w6:=Q0e ((HB.out.trans (HB3.out.mono hsz)).trans ((Q04 w3 (.cells #[u] 22)).mono (by omega))) (by simp; omega) hg6 (fun b hb=>(Q07 HOV.out.row hb).1);have HO6:=sH ho6;have HB6:=sH hb6;clear hown6 hg6 hor6 ho6 hb6;go_wp2_with fail
  go_roundw
  case rel=>exact⟨i+1,_,by omega,by go_num,HO6.out,HB6.out⟩
  case measure=>simp [intOf]; omega
 obtain rfl:i=6:=by omega
 have hinI:¬ (6:Int)<6:=by omega
 have he:(Q0g m).take 6=Q0g m:=zO (by rw [HLN.out]; omega);rw [he] at HOV;clear hov hbel he;go_wp2_with fail
 go_ret
 exact⟨_,_,rfl,HOV.out,HB.out⟩
def Q7M (m:AM):List UInt8:=((Q0g m).map strB).flatten
def Q62 (w:zB) (m:AM) (e:Ending) (w':zB):Prop:=∃ v,e=.returned (.tuple #[v,.int .i64 0])/\OwnB w' w.heap.size v (Q7M m)/\zE w.heap.size w w'
theorem QbZ:∀ (l:LL),(∀ x,x∈l->x.length<=120)->(l.map strB).flatten.length<=128*l.length
 | [],_=>by simp
 | x :: t,h=>by
  rw [List.map_cons,List.flatten_cons,zJ,List.length_cons];have h1:=QbZ t fun y hy=>h y (List.mem_cons_of_mem _ hy)
  have h2:=h x (List.mem_cons_self ..);have h3:=(Q2D (n:=x.length) (by unfold maxN; omega)).2;have h4:(strB x).length=(numB x.length).length+x.length:=by unfold strB; rw [zJ]
  omega
theorem Qd2 (w:zB) (V:ALoc) (N:Nat->Prop) (m:AM) (h:AAt w V N m) :
 zG zH 58 #[.pointer (some ⟨V.g,0,none⟩)] w (Q62 w m):=by
 obtain⟨S,hd⟩:=h.dat;have hok:=hd.ok;have HN:=sH (Q3a w V.g V.T.t ((hd.blk.cell 0).trans (Q1N _ _ _ _ 0 (by omega))));have HLV:=sH (Q7z w V N m h);have hlen:=Q0z m;have hbl:∀ x,x∈Q0g m->x.length<=120:=fun x hx=>by obtain⟨i,_,rfl⟩:=List.mem_map.1 hx;exact Q3E hok i
 have hfl:=QbZ _ hbl;rw [hlen] at hfl;obtain⟨ls,hls⟩:∃ ls,ls=Q0g m:=⟨_,rfl⟩;unfold Q62 Q7M;unfold Qb1 at HLV;rw [<- hls] at HLV hlen hbl hfl ⊢;have HLN:=sH hlen;have HBL:=sH hbl;obtain⟨i0,hi0,hz0,hz1,hz2⟩:=info_parts Q1E;clear h hd hlen hbl hls hok;go_enter Tryz.func58,Tryz.ntmps58
 go_wp2_with fail
 refine HN.out.mono ?_;rintro _ _ ⟨rfl,rfl⟩;go_wp2_with fail
 refine HLV.out.mono ?_;rintro _ w1 ⟨v,vs,rfl,how,hb1⟩;obtain⟨A,c,rfl,hc,_,hrows,hge⟩:=how.slice;rw [HLN.out] at hc hrows ⊢;have HR:=sH hrows;have HB1:=sH hb1;have hs1:=hb1.size;clear how hrows hb1 hge HLV HN;go_wp2_with fail
 go_loopw [4,14] (fun ov iv wr=>∃ i:Nat,i<=6/\iv=.int .i64 i/\OwnB wr w1.heap.size ov ((ls.take i).map strB).flatten/\zE w1.heap.size w1 wr) (fun _ iv _=>6 - (intOf iv).toNat)
 case atStart=>exact⟨0,by omega,rfl,OwnB.nil _ _,zK _ _⟩
 obtain⟨i,hi,rfl,hov,hbel⟩:=hrel;have HOV:=sH hov;have HB:=sH hbel;have hsz:=hbel.size;clear hov hbel;by_cases hin:i<6
 ·have hinI:(i:Int)<6:=by omega
  have h0I:(0:Int)<=(i:Int):=by omega
  obtain⟨ad,hA,hadb,hcell⟩:=HR.out.2 (by omega);subst hA;have hxi:i<ls.length:=by have:=HLN.out; omega
  obtain⟨Ak,mk,ck,hck,hrk⟩:=hcell i ls[i] (zD hxi);have hck':=(HB.out.cell (show (ad.add i).block<w1.heap.size by rw [Q0a]; omega)).trans hck;have hmk:ls[i].length=mk:=by have:=hrk.1; simpa using this
  have hm120:mk<=120:=by have:=HBL.out _ (List.getElem_mem hxi); omega
  have HST:=sH (str_any Ak mk ck ls[i] wr wr.heap.size ((hrk.below HB.out).more hsz) (zI _) (by omega));obtain⟨ys,hys⟩:∃ ys,ys=((ls.take i).map strB).flatten:=⟨_,rfl⟩;have htk:((ls.take (i+1)).map strB).flatten=((ls.take i).map strB).flatten++strB ls[i]:=by rw [zQ hxi,zL,List.flatten_append]; simp only [List.map_cons,List.map_nil,List.flatten_cons,List.flatten_nil,List.append_nil]
  have htl:((ls.take (i+1)).map strB).flatten.length<=(ls.map strB).flatten.length:=by
   conv=>rhs; rw [<- List.take_append_drop (i+1) ls,zL,List.flatten_append,zJ]
   omega
  rw [htk,zJ] at htl;rw [<- hys] at HOV htk htl;have HTK:=sH htk;clear hys;generalize strB ls[i]=x at HTK HST htl;clear hcell hck hrk hmk htk;go_wp2_with fail
  refine HST.out.mono ?_;rintro _ w2 ⟨v2,rfl,ho2,hb2⟩;obtain⟨A2,c2,rfl,p1,p2,p3,p4⟩:=Q0f ho2;obtain⟨nx,hnx⟩:∃ k,k=x.length:=⟨_,rfl⟩;rw [<- hnx] at p3 htl ⊢;have HNX:=sH hnx;have HP3:=sH p3;have HO2:=sH (HOV.out.below hb2);have HWN:=sH HO2.out.row;have HB2:=sH (HB.out.trans (hb2.mono hsz));have hs2:=hb2.size;clear ho2 hb2 p1 p2 p3 p4 HST hnx;go_wp2_with (at_builtin; go_must (refine Q03 _ rfl (.tmp 26) (.tmp 27) 22 rfl w1.heap.size 5 i0 _ 1 1 Tryz.underlying22 hi0 hz0 hz1 hz2 rfl (by omega) _ _ _ rfl HWN.out w2.heap.size A2 nx c2 (x.map vb) rfl HP3.out ?c1 ?c2 ?c3 ?c4 ?_))
  case c1=>intro u hu; obtain⟨y,_,rfl⟩:=List.mem_map.1 hu; rfl
  case c2=>unfold maxLen; omega
  case c3=>omega
  case c4=>omega
  intro v3 w3 hown3 hg3 hor3;have HB3:=sH (Q0e HB2.out (by omega) hg3 (fun b hb=>HO2.out.ge hb));have HO3:=sH (show OwnB w3 w1.heap.size v3 ((ls.take (i+1)).map strB).flatten by unfold OwnB;rw [HTK.out,zJ,zL,<- HNX.out];exact hown3)
  clear hown3 hg3 hor3;go_wp2_with fail
  go_roundw
  case rel=>exact⟨i+1,by omega,by go_num,HO3.out,HB3.out⟩
  case measure=>simp [intOf]; omega
 obtain rfl:i=6:=by omega
 have hinI:¬ (6:Int)<6:=by omega
 go_wp2_with fail
 go_ret2
 refine⟨_,rfl,?_,HB1.out.trans (HB.out.mono hs1)⟩;have:=HOV.out;rw [zO (by have:=HLN.out; omega)] at this;exact this.more hs1
end
section
open Go.RowKit Go.Maps
def badF (l:List Nat):Prop:=l.length<2\/l.getD 0 0<1\/22<l.getD 0 0\/2<l.getD 1 0\/l.length≠2+(3*l.getD 1 0+1)+2*(l.getD 0 0 - 1)
instance (l:List Nat):Decidable (badF l):=by unfold badF; infer_instance
def Q26 (l:List Nat):Option ((Int×List Int)×List Int):=if badF l then none else some ((((l.getD 1 0:Nat):Int),nI ((l.drop 2).take (3*l.getD 1 0+1))),nI (l.drop (2+(3*l.getD 1 0+1))))
def badT (l:List Nat):Prop:=l.length<4\/l.getD 3 0+4≠l.length\/22<=l.getD 2 0\/¬ (l.getD 1 0=0\/l.getD 1 0=5\/l.getD 1 0=180)\/(4<l.length/\Q1C (nI (l.drop 4))=false)\/¬ (0<l.getD 0 0\/(l.getD 1 0=0/\l.getD 2 0=0/\l.length=4))
instance (l:List Nat):Decidable (badT l):=by unfold badT; infer_instance
def Q3l (l:List Nat):Option (Nat×Ans):=if badT l then none else some (l.getD 0 0,⟨l.getD 1 0,[],l.getD 2 0,nI (l.drop 4)⟩)
instance (l:List Int) (o n:Int):Decidable (Q22 l o n):=by unfold Q22; infer_instance
def Q2a:List Srv->Nat->List Int->Option (List Srv)
 | cs,i,o :: n :: t=>match cs[i]? with
  | none=>none
  | some s=>if Q0S cs s.f n=false/\Q22 s.now o n then Q2a (cs.set i (Q1Z s o n)) i t else none
 | cs,_,_=>some cs
def Q6M (cs:List (Int×List Int)) (ms:Nat->List Int) (f:Nat->List Nat):Option AM :=
 match Q24 cs with
 | none=>none
 | some ss=>match Q2a ss 0 (ms 0) with
  | none=>none
  | some s1=>match Q2a s1 1 (ms 1) with
   | none=>none
   | some s2=>if ∀ i,i<4->(Q3l (f (2+i))).isSome=true then some ⟨s2,(List.range 4).map (fun i=>(Q3l (f (2+i))).getD (0,okA))⟩ else none
def Q9V (f:Nat->List Nat):Option AM :=
 if f 1=[0] then match Q26 (f 0) with
  | none=>none
  | some p=>Q6M [p.1] (fun i=>if i=0 then p.2 else []) f
 else match Q26 (f 0) with
  | none=>none
  | some p=>match Q26 (f 1) with
   | none=>none
   | some q=>Q6M [p.1,q.1] (fun i=>if i=0 then p.2 else q.2) f
instance (ls:LL):Decidable (∀ i,i<6->(Q2u (ls.getD i [])).isSome=true):=Nat.decidableBallLT 6 (fun i _=>(Q2u (ls.getD i [])).isSome=true)
def Q3h (ls:LL):Option AM :=if ls.length=6/\(∀ i,i<6->(Q2u (ls.getD i [])).isSome=true) then Q9V (fun i=>(Q2u (ls.getD i [])).getD []) else none
def Q2O (b:List UInt8):Option AM×Nat :=
 let r:=Q3p 6 b []
 if r.2.2≠0 then(none,r.2.2) else if 0<r.2.1.length then(none,4) else match Q3h r.1 with
  | none=>(none,2)
  | some m=>(some m,0)
end
section
open Go.RowKit Go.Maps
attribute [local irreducible] wpList Q0h
theorem Qam (A:Option zA) (n c:Nat) (xs:List UInt8) (w:zB) (B:Nat) (h:Q08 w B 1 A n (xs.map vb)) (hB:B<=w.heap.size) (hc:n<=c) (hn:n<=1000000000000) :
 zG zH 101 #[.slice A n c] w (Q99 w (Q2u xs)):=by
 obtain⟨o,ho⟩:∃ o,o=Q2u xs:=⟨_,rfl⟩;rw [<- ho];have HO:=sH ho;have HST:=sH (show PsSt w xs n A n c (.slice none 0 0) xs [] w from⟨h.more hB,hc,OwnN.nil_ _ _,by simp,by cases Q2u xs <;> rfl,fun x hx=>by simp at hx,zK _ _⟩);obtain⟨i0,hi0,hz0,hz1,hz2⟩:=info_parts Q3e;obtain⟨n0,hn0⟩:∃ k,k=n:=⟨_,rfl⟩;rw [<- hn0] at hn;have HST2:=sH (show PsSt w xs n0 A n c (.slice none 0 0) xs [] w from hn0▸HST.out);clear h ho HST hc hn0;go_enter Tryz.func101,Tryz.ntmps101
 go_wp2_with fail
 go_loopw [0,2] (fun bv lv wr=>∃ (A:Option zA) (n c:Nat) (rest:List UInt8) (done:List Nat),bv=.slice A n c/\PsSt w xs n0 A n c lv rest done wr) (fun bv _ _=>(match bv with | .slice _ n _=>n | _=>0))
 case atStart=>exact⟨_,_,_,_,_,rfl,HST2.out⟩
 obtain⟨A,n,c,rest,done,rfl,hps⟩:=hrel;have HPS:=sH hps;have hrl:rest.length=n:=by have:=hps.rd.1; simpa using this
 have HRL:=sH hrl;have hsz:=hps.low.size;have hlen:=hps.len;clear hps hrl;by_cases h0:n=0
 ·subst h0;have hre:rest=[]:=List.eq_nil_of_length_eq_zero (by have:=HRL.out; omega);have hnum:o=some done:=by
   have:=HPS.out.num;rw [hre] at this;rw [HO.out,this];simp [Q9W]
  have HOWN:=sH HPS.out.own;have HMAX:=sH HPS.out.max;have HLOW:=sH HPS.out.low;clear hre HPS HRL HO hlen;subst hnum;go_wp2_with fail
  go_ret2
  exact⟨_,rfl,HOWN.out,HMAX.out,HLOW.out⟩
 have h0b:(0:Int)<(n:Int):=by omega
 have hne:rest≠[]:=by intro e; have:=HRL.out; rw [e] at this; simp at this; omega
 have HTN:=sH (Q7A A n c rest wr wr.heap.size HPS.out.rd (zI _) HPS.out.cap (by omega));have htm:=Qcm rest;have HBADN:=sH (fun(he:(tn rest).2.2≠0)=>Qan hne he);have HNEXT:=sH (fun(he:(tn rest).2.2=0)=>Q8t hne he);have HSHR:=sH (fun(he:(tn rest).2.2=0)=>Q5s he);obtain⟨p,hp⟩:∃ p,p=tn rest:=⟨_,rfl⟩;rw [<- hp] at HTN htm HBADN HNEXT HSHR;obtain⟨k,r,e⟩:=p;simp only at HTN htm HBADN HNEXT HSHR;have HTM:=sH htm;clear hne hp htm;obtain⟨Al,cl,hlv,hlc,_,_,_⟩:=Q0i HPS.out.own;rw [Q1U] at hlv hlc;subst hlv;go_wp2_with fail
 refine HTN.out.mono ?_;rintro _ w2 ⟨v,rfl,ho2,hb2⟩;obtain⟨A1,c1,hv,q1,q2,hr1,_⟩:=Q0f ho2;subst hv;have HR1:=sH hr1;have HOB:=sH ho2;have HL2:=sH (HPS.out.low.trans (hb2.mono hsz));have HOW2:=sH (HPS.out.own.below_ hb2);have hs2:=hb2.size;clear ho2 hb2 hr1 HTN;by_cases he:e=0
 ·have heb:((e:Int) != 0)=false:=by simp [he]
  have hshr:=HSHR.out he;have hnx:=HNEXT.out he;rw [HRL.out] at hshr;have HNX:=sH hnx;have HW:=sH (show (w2.alloc (.cells #[.int .i64 (k:Int)] 3)).ownsRow w.heap.size 3 1 (.slice Al done.length cl) done.length ((nI done).map vn) from by have:=World.ownsRow.alloc HOW2.out (.cells #[.int .i64 (k:Int)] 3);rw [Q1U] at this;exact this)
  have HR3:=sH (Q0N w2 #[.int .i64 (k:Int)] 3);have HR1b:=sH (HR1.out.below (Q04 w2 (.cells #[.int .i64 (k:Int)] 3)));obtain⟨dn,hdn⟩:∃ d,d=done.length:=⟨_,rfl⟩;rw [<- hdn] at HW hlen ⊢;have HDN:=sH hdn;obtain⟨rl,hrl⟩:∃ d,d=r.length:=⟨_,rfl⟩;rw [<- hrl] at hshr HR1b q1 ⊢;have HRLE:=sH hrl;clear hnx hdn hrl;go_wp2_with (at_builtin; go_must (refine Q03 _ rfl (.tmp 18) (.tmp 20) 42 rfl w.heap.size 3 i0 _ 1 8 zU hi0 hz0 hz1 hz2 rfl (by omega) _ dn ((nI done).map vn) rfl HW.out (w2.heap.size+1) (some ⟨w2.heap.size,0,none⟩) 1 1 [.int .i64 (k:Int)] rfl HR3.out ?c1 ?c2 ?c3 ?c4 ?_))
  case c1=>intro z hz; rw [zT] at hz; subst hz; rfl
  case c2=>unfold maxLen; omega
  case c3=>omega
  case c4=>simp; omega
  intro v6 w6 hown6 hg6 hor6;have hps6:PsSt w xs n0 A1 rl c1 v6 r (done++[k]) w6:=by
   have hge:∀ b,(Value.slice Al dn cl).ownBlock=some b->w.heap.size<=b:=fun b hb=>(Q07 HW.out hb).1
   have hal:=Q04 w2 (.cells #[.int .i64 (k:Int)] 3);have hsz2:=HL2.out.size;refine⟨?_,q1,?_,?_,?_,?_,?_⟩
   ·have hob:=HOB.out.below hal;have hk:=hob.keep (w':=w6) fun b hb=>by
     obtain⟨cur,hcur⟩:=Q5M hob hb;exact hg6.block b (hob.lt hb) (fun e=>Q05 HW.out hcur (by decide) e.symm)
    rw [HRLE.out];exact hk.reads.2.2.2.1
   ·unfold OwnN;rw [Q1U,zJ,<- HDN.out];have e2:nI (done++[k])=nI done++[(k:Int)]:=by simp [nI]
    rw [e2,zL];exact hown6
   ·rw [zJ,<- HDN.out];simp only [List.length_cons,List.length_nil];omega
   ·rw [HPS.out.num,HNX.out];cases Q2u r with
    | none=>rfl
    | some l=>simp
   ·intro x hx;rcases List.mem_append.1 hx with hx | hx
    ·exact HPS.out.max x hx
    rw [zT] at hx; subst hx; exact HTM.out
   exact Q0e (HL2.out.trans (hal.mono hsz2)) (by simp; omega) hg6 (fun b hb=>hge b hb)
  have HPS6:=sH hps6;clear hown6 hg6 hor6 hps6;go_wp2_with fail
  go_roundw
  case rel=>exact⟨_,_,_,_,_,rfl,HPS6.out⟩
  case measure=>simp; omega
 have heb:((e:Int) != 0)=true:=by simpa using he
 have ho:o=none:=by rw [HO.out,HPS.out.num,HBADN.out he]; rfl
 subst ho;go_wp2_with fail
 go_ret2
 exact⟨_,rfl,OwnN.nil_ _ _,(fun l hl=>by cases hl),HL2.out⟩
theorem Q1q {P:Program} {fn:Func} {p u v:Tmp} {ty:TypeId} (h:fn.results=#[.cell p ty,.tmp u,.tmp v]) (tmps:Array zC) (w:zB) (g n:Nat) (t:TypeId) (cs:Array zC) (d:TypeDesc)
 (hp:tmps.getD p undef=.pointer (some ⟨g,0,none⟩)) (hB:Blk w g t cs)
 (hu:P.underlying ty=some d) (hd:(match d with | .struct _ | .array _ _=>true | _=>false)=true) (hi:(P.info? ty).map (·.size)=some n) (hn:cs.size=n) :
 (results fn tmps).run P w=.ok (.tuple #[.agg cs,tmps.getD u undef,tmps.getD v undef]) w:=by
 have hp':tmps[p]?.getD undef=.pointer (some ⟨g,0,none⟩):=by simpa using hp
 simp [results,h,hp',asAddr,Q1k w g 0 n t ty cs cs d hB hu hd hi hn (fun j _=>by rw [zM])]
def Qeq (w:zB) (B:Nat) (u:zC) (nl:List Int) (o:Option ((Int×List Int)×List Int)) (e:Ending) (w':zB):Prop :=
 zE w.heap.size w w'/\(o=none->e=.returned (.tuple #[.agg (crC 0 none 0 0),.slice none 0 0,.bool false])) /\
 ∀ q,o=some q->∃ (f:Nat) (A1:Option zA) (c1:Nat) (A2:Option zA) (c2:Nat),q.1.1=(f:Int)/\f<=2/\e=.returned (.tuple #[.agg (crC f A1 q.1.2.length c1),.slice A2 q.2.length c2,.bool true])/\(∀ W,OwnN W B u nl->Q08 W W.heap.size 1 A1 q.1.2.length (q.1.2.map vn))/\(∀ W,OwnN W B u nl->Q08 W W.heap.size 1 A2 q.2.length (q.2.map vn))/\q.2.length<=c2
theorem Q6j (f:Int) (A:Option zA) (n c:Nat) (f':Int) (A':Option zA) (n' c':Nat):spl (crC f A n c) 0 (crC f' A' n' c').toList=crC f' A' n' c':=rfl
theorem Q35 {w:zB} {B:Nat} {v:zC} {l:List Nat} (h:OwnN w B v (nI l)) (h0:0<l.length):∃ g c,v=.slice (some ⟨g,0,none⟩) l.length c/\B<=g/\l.length<=c/\Q08 w w.heap.size 1 (some ⟨g,0,none⟩) l.length ((nI l).map vn)/\∀ j,j<l.length->w.cell? ⟨g,j,none⟩=some (.int .i64 ((l.getD j 0:Nat):Int)):=by
 obtain⟨Al,cl,hlv,q1,_,q3,q4⟩:=Q0i h;rw [Q1U] at hlv q1 q3;rcases h.2 with⟨hv,h0'⟩ | ⟨g,cap,cur,hv,hg,_⟩
 ·rw [Q1U] at h0'; omega
 rw [Q1U] at hv;rw [hv] at hlv;injection hlv with e1 e2 e3
 subst e3;refine⟨g,cap,hv,hg,q1,e1▸q3,fun j hj=>?_⟩;obtain⟨ad,hA,_,hc⟩:=(e1▸q3:Q08 w w.heap.size 1 (some ⟨g,0,none⟩) l.length ((nI l).map vn)).2 h0;injection hA with hA
 subst hA;have:=hc j (.int .i64 ((l.getD j 0:Nat):Int)) (by unfold nI;rw [List.getElem?_map,List.getElem?_map,zD hj,List.getD_eq_getElem?_getD,zD hj]; rfl)
 rw [Q11,zM] at this;exact this
theorem Q33 {l:List Nat} (h:badF l):Q26 l=none:=if_pos h
theorem QcV (v:zC) (l:List Nat) (w:zB) (B:Nat) (h:OwnN w B v (nI l)) (hl:l.length<=1000000000000) (hm:∀ x,x∈l->x<=maxN) :
 zG zH 103 #[v] w (Qeq w B v (nI l) (Q26 l)):=by
 have hX:=Q04 w (.cells (crC 0 none 0 0) 77);have hk0:Blk (w.alloc (.cells (crC 0 none 0 0) 77)) w.heap.size 77 (crC 0 none 0 0):=Blk.newAt rfl;have hZ:crC 0 none 0 0=#[.int .i64 0,.slice none 0 0]:=rfl;have HX:=sH hX;have HK:=sH hk0;obtain⟨o,ho⟩:∃ o,o=Q26 l:=⟨_,rfl⟩;have HO:=sH ho;obtain⟨g2,hg2⟩:∃ g,g=w.heap.size:=⟨_,rfl⟩;have hgw:w.heap.size<=g2:=by omega
 obtain⟨n,hn⟩:∃ n,n=l.length:=⟨_,rfl⟩;have HN:=sH hn;rw [<- ho];by_cases h2:n<2
 ·have h2b:(n:Int)<2:=by omega
  have hon:o=none:=by rw [HO.out,Q33 (.inl (by omega))]
  obtain⟨A,c,hv,_⟩:=Q0i h;rw [Q1U,<- hn] at hv;subst hv;subst hon;clear h hm hX hk0 ho hn;go_enter Tryz.func103,Tryz.ntmps103
  go_upto_region 1 with fail
  rw [<- hZ];generalize zS w _=w1 at HX HK ⊢;rw [<- hg2] at HK ⊢;have hlw:=HK.out.lt;clear hg2 hZ;go_wp2_with (refine Q00 (o:=⟨none,_,_,_,_,_⟩) rfl 77 (.tmp 2) (.tmp 27) rfl g2 0 (crC 0 none 0 0) rfl rfl 77 _ HK.out (by kernel_rfl) (by simp [crC]) (by simp [crC,zN]) ?_; intro w9 hT9 hD9)
  refine bodyPost_ret (Q1q rfl _ _ g2 2 77 _ _ rfl hD9 zV rfl rfl rfl) rfl ⟨hT9.below HX.out hgw,fun _=>by rw [Q6j]; rfl,fun q hq=>by cases hq⟩
 have h2b:¬ (n:Int)<2:=by omega
 obtain⟨g,c,rfl,hgB,hcc,hrd,hcell⟩:=Q35 h (by omega);have c0:=hcell 0 (by omega);have c1:=hcell 1 (by omega);obtain⟨l0,hl0⟩:∃ k,k=l.getD 0 0:=⟨_,rfl⟩;obtain⟨l1,hl1⟩:∃ k,k=l.getD 1 0:=⟨_,rfl⟩;rw [<- hl0] at c0;rw [<- hl1] at c1;rw [<- hn] at hcc hrd ⊢;have hbd:badF l <-> (l0<1\/22<l0\/2<l1)\/n≠2+(3*l1+1)+2*(l0 - 1):=by unfold badF;rw [<- hl0,<- hl1,<- hn];omega
 have HBD:=sH hbd;have HRD:=sH (fun(W:zB) (hW:OwnN W B (.slice (some ⟨g,0,none⟩) n c) (nI l))=>(Q1y hW).2);have c0':=(hX.cell (p:=⟨g,0,none⟩) (by have:=(Q07 h (b:=g) (by rfl)).2; exact this)).trans c0;have c1':=(hX.cell (p:=⟨g,1,none⟩) (by have:=(Q07 h (b:=g) (by rfl)).2; exact this)).trans c1;have hgl:g<w.heap.size:=(Q07 h (b:=g) (by rfl)).2;have HL0:=sH hl0;have HL1:=sH hl1;have h1n:(1:Int)<(n:Int):=by omega
 have h0n:(0:Int)<(n:Int):=by omega
 have h1N:1<n:=by omega
 have h0N:0<n:=by omega
 clear h hm hX hk0 ho hn hbd hrd hcell c0 c1 hl0 hl1;go_enter Tryz.func103,Tryz.ntmps103
 go_upto_region 1 with fail
 rw [<- hZ];generalize zS w _=w1 at HX HK c0' c1' ⊢;rw [<- hg2] at HK ⊢;have hlw:=HK.out.lt;clear hg2 hZ
 go_cut [26] (fun s26 wx=>s26=.bool (decide (l0<1\/22<l0\/2<l1))/\wx=w1)
 case first =>
  by_cases b0:l0<1
  ·have b0b:(l0:Int)<1:=by omega
   go_wp2_with fail
   go_meet
   exact⟨by rw [decide_eq_true (.inl b0)],rfl⟩
  have b0b:¬ (l0:Int)<1:=by omega
  by_cases b1:22<l0
  ·have b1b:(22:Int)<(l0:Int):=by omega
   go_wp2_with fail
   go_meet
   exact⟨by rw [decide_eq_true (.inr (.inl b1))],rfl⟩
  have b1b:¬ (22:Int)<(l0:Int):=by omega
  by_cases b2:2<l1
  ·have b2b:(2:Int)<(l1:Int):=by omega
   go_wp2_with fail
   go_meet
   exact⟨by rw [decide_eq_true (.inr (.inr b2))],rfl⟩
  have b2b:¬ (2:Int)<(l1:Int):=by omega
  go_wp2_with fail
  go_meet
  exact⟨by rw [decide_eq_false (by omega)],rfl⟩
 obtain⟨rfl,rfl⟩:=hcut;by_cases hbad:l0<1\/22<l0\/2<l1
 ·have hon:o=none:=by rw [HO.out,Q33 (HBD.out.2 (.inl hbad))]
  rw [decide_eq_true hbad];subst hon;clear c0' c1';go_wp2_with (refine Q00 (o:=⟨none,_,_,_,_,_⟩) rfl 77 (.tmp 2) (.tmp 27) rfl g2 0 (crC 0 none 0 0) rfl rfl 77 _ HK.out (by kernel_rfl) (by simp [crC]) (by simp [crC,zN]) ?_; intro w9 hT9 hD9)
  refine bodyPost_ret (Q1q rfl _ _ g2 2 77 _ _ rfl hD9 zV rfl rfl rfl) rfl ⟨hT9.below HX.out hgw,fun _=>by rw [Q6j]; rfl,fun q hq=>by cases hq⟩
 rw [decide_eq_false hbad];by_cases hnn:n=2+(3*l1+1)+2*(l0 - 1)
 ·have hnnb:((n:Int) != 2+(3*(l1:Int)+1)+2*((l0:Int) - 1))=false:=by simp; omega
  have hgood:¬ badF l:=fun hb=>(HBD.out.1 hb).elim hbad (fun e=>e hnn)
  have HOG:=sH (show o=some ((((l1:Nat):Int),nI ((l.drop 2).take (3*l1+1))),nI (l.drop (2+(3*l1+1)))) from by rw [HO.out,HL1.out];exact if_neg hgood)
  obtain⟨k,hk⟩:∃ k,k=3*l1+1:=⟨_,rfl⟩;have hkI:(k:Int)=3*(l1:Int)+1:=by omega
  have HS1:=sH (fun(W:zB)=>Q5F (P:=zH) (t:=42) (e:=3) zU (by kernel_rfl) (some ⟨g,0,none⟩) n c 2 (2+k) 2 (2+(3*(l1:Int)+1)) rfl (by omega) (by omega) (by omega) W);have HS2:=sH (fun(W:zB)=>Q0U (P:=zH) (t:=42) (e:=3) zU (by kernel_rfl) (some ⟨g,0,none⟩) n c (2+k) (2+(3*(l1:Int)+1)) (by omega) (by omega) W);have hr1:=fun W hW=>(HRD.out W hW).sub (l:=2) (k:=2+k) (cap:=c) (by omega) (by omega) hcc
  have hr2:=fun W hW=>(HRD.out W hW).sub (l:=2+k) (k:=n) (cap:=c) (by omega) (zI _) hcc
  obtain⟨A1,hA1⟩:∃ A1,A1=(if c=2 then(some (⟨g,0,none⟩:zA)) else(some (⟨g,0,none⟩:zA)).map (·.add 2)):=⟨_,rfl⟩;obtain⟨A2,hA2⟩:∃ A2,A2=(if c=2+k then(some (⟨g,0,none⟩:zA)) else(some (⟨g,0,none⟩:zA)).map (·.add (2+k))):=⟨_,rfl⟩;simp only [Nat.mul_one] at hr1 hr2;rw [<- hA1] at HS1 hr1;rw [<- hA2] at HS2 hr2;have hk2:2+k - 2=k:=by omega
  obtain⟨m2,hm2⟩:∃ m2,m2=n - (2+k):=⟨_,rfl⟩;obtain⟨d2,hd2⟩:∃ d2,d2=c - (2+k):=⟨_,rfl⟩;have hmd:m2<=d2:=by omega
  rw [hk2] at HS1 hr1;rw [<- hm2] at HS2 hr2;rw [<- hd2] at HS2;have e1:(((nI l).map vn).drop 2).take k=(nI ((l.drop 2).take k)).map vn:=by unfold nI; simp only [List.map_drop,List.map_take]
  have e2:(((nI l).map vn).drop (2+k)).take m2=(nI (l.drop (2+k))).map vn:=by unfold nI;rw [zO (by simp only [zF,List.length_map]; rw [<- HN.out]; omega)];simp only [List.map_drop]
  rw [e1] at hr1;rw [e2] at hr2;have len1:(nI ((l.drop 2).take k)).length=k:=by rw [Q1U,List.length_take,zF,<- HN.out]; omega
  have len2:(nI (l.drop (2+k))).length=m2:=by rw [Q1U,zF,<- HN.out]; omega
  have HR1:=sH hr1;have HR2:=sH hr2;have HL1N:=sH len1;have HL2N:=sH len2;rw [<- hk] at HOG;have hl12:l1<=2:=by omega
  have hl01:1<=l0:=by omega
  have hwr:IntKind.i64.wrap (2+(3*(l1:Int)+1))=2+(3*(l1:Int)+1):=IntWalk.i64_in _ (by omega);have hl02:l0<=22:=by omega
  clear hnn hk hk2 hA1 hA2 hr1 hr2 e1 e2 len1 len2 hm2 hd2 hgood hbad;go_upto_region 6 with fail
  have hs1:=fun W=>HS1.out W
  have hs2:=fun W=>HS2.out W
  have k0:wc.cell? ⟨g2,0,none⟩=some (.int .i64 0):=HK.out.cell 0;have k1:wc.cell? ⟨g2,1,none⟩=some (.slice none 0 0):=HK.out.cell 1;have kf0:wc.frozen? ⟨g2,0,none⟩=false:=HK.out.frozen 0;have kf1:wc.frozen? ⟨g2,1,none⟩=false:=HK.out.frozen 1;have hB9:Blk ((wc.setCell ⟨g2,0,none⟩ (.int .i64 (l1:Int))).setCell ⟨g2,1,none⟩ (.slice A1 k (c - 2))).drew g2 77 (crC l1 A1 k (c - 2)):=((HK.out.set_ 0 (.int .i64 (l1:Int))).set_ 1 (.slice A1 k (c - 2))).drew;have hT9:=(Q0b.setCell wc ⟨g2,0,none⟩ (.int .i64 (l1:Int))).trans (Q0b.setCell (wc.setCell ⟨g2,0,none⟩ (.int .i64 (l1:Int))) ⟨g2,1,none⟩ (.slice A1 k (c - 2)));have hX9:zE w.heap.size w ((wc.setCell ⟨g2,0,none⟩ (.int .i64 (l1:Int))).setCell ⟨g2,1,none⟩ (.slice A1 k (c - 2))).drew:=by have h:=hT9.below HX.out hgw;exact⟨h.os,h.tape,h.output,h.size,h.block⟩
  have HB9:=sH hB9;have HX9:=sH hX9;clear hB9 hX9 hT9;go_region
  generalize World.drew _=w9 at HB9 HX9 ⊢;clear hs1 hs2 k0 k1 kf0 kf1 c0' c1';go_wp2_with fail
  refine bodyPost_ret (Q1q rfl _ _ g2 2 77 _ _ rfl HB9.out zV rfl rfl rfl) rfl ?_;have hbl:=HX9.out;refine⟨hbl,?_,fun q hq=>?_⟩
  ·intro e;rw [HOG.out] at e; cases e
  rw [HOG.out] at hq;obtain rfl:=zR hq;refine⟨l1,A1,c - 2,A2,d2,rfl,hl12,?_,?_,?_,?_⟩
  ·simp only [HL1N.out,HL2N.out];rfl
  ·simp only [HL1N.out];exact fun W hW=>HR1.out W hW
  ·simp only [HL2N.out];exact fun W hW=>HR2.out W hW
  simp only [HL2N.out]; exact hmd
 have hon:o=none:=by rw [HO.out,Q33 (HBD.out.2 (.inr hnn))]
 have hnnb:((n:Int) != 2+(3*(l1:Int)+1)+2*((l0:Int) - 1))=true:=by simp; omega
 subst hon;go_wp2_with (refine Q00 (o:=⟨none,_,_,_,_,_⟩) rfl 77 (.tmp 2) (.tmp 44) rfl g2 0 (crC 0 none 0 0) rfl rfl 77 _ HK.out (by kernel_rfl) (by simp [crC]) (by simp [crC,zN]) ?_; intro w9 hT9 hD9)
 refine bodyPost_ret (Q1q rfl _ _ g2 2 77 _ _ rfl hD9 zV rfl rfl rfl) rfl ⟨hT9.below HX.out hgw,fun _=>by rw [Q6j]; rfl,fun q hq=>by cases hq⟩
def Q8H (w:zB) (o:Option ((Int×List Int)×List Int)) (e:Ending) (w':zB):Prop :=
 zE w.heap.size w w'/\(o=none->e=.returned (.tuple #[.agg (crC 0 none 0 0),.int .i64 0,.bool false])) /\
 ∀ q,o=some q->∃ (f:Nat) (A1:Option zA) (c1:Nat),q.1.1=(f:Int)/\f<=2/\q.1.2.length=3*f+1/\e=.returned (.tuple #[.agg (crC f A1 q.1.2.length c1),.int .i64 ((2+(3*f+1):Nat):Int),.bool true])/\OwnN w' w.heap.size (.slice A1 q.1.2.length c1) q.1.2
theorem Q82 {P:Program} {o:Oper} {a:Act} {W:zB} (t:TypeId) (x:Operand) (lo hi:Option Operand) (ho:o.op=.slice t x lo hi none) (A:Option zA) (len cap:Nat) (hx:a.eval x=.slice A len cap) (lv:Option zC) (hl:lo.map a.eval=lv) (hv:Option zC) (hh:hi.map a.eval=hv) {e:TypeId} (hu:P.underlying t=some (.slice e)) (r:zC) (h:(Instr.slice t (.slice A len cap) lv hv none).run P W=.ok r W):(execOp a.eval o).run P W=.ok (.value r) W:=by subst hl hh;unfold execOp;simp only [ho,hx,Option.map_none,Instr.sliceAt,Sem.run_bind,run_underlying hu,Result.andThen_ok,h];rfl
theorem Qbl (v:zC) (l:List Nat) (w:zB) (B:Nat) (h:OwnN w B v (nI l)) (hl:l.length<=1000000000000) (hm:∀ x,x∈l->x<=maxN) :
 zG zH 107 #[v] w (Q8H w (Q26 l)):=by
 have hX:=Q04 w (.cells (crC 0 none 0 0) 77);have hk0:Blk (w.alloc (.cells (crC 0 none 0 0) 77)) w.heap.size 77 (crC 0 none 0 0):=Blk.newAt rfl;have hZ:crC 0 none 0 0=#[.int .i64 0,.slice none 0 0]:=rfl;have HX:=sH hX;have HK:=sH hk0;obtain⟨o,ho⟩:∃ o,o=Q26 l:=⟨_,rfl⟩;have HO:=sH ho;obtain⟨g2,hg2⟩:∃ g,g=w.heap.size:=⟨_,rfl⟩;have hgw:w.heap.size<=g2:=by omega
 obtain⟨n,hn⟩:∃ n,n=l.length:=⟨_,rfl⟩;have HN:=sH hn;rw [<- ho];by_cases h2:n<2
 ·have h2b:(n:Int)<2:=by omega
  have hon:o=none:=by rw [HO.out,Q33 (.inl (by omega))]
  obtain⟨A,c,hv,_⟩:=Q0i h;rw [Q1U,<- hn] at hv;subst hv;subst hon;clear h hm hX hk0 ho hn;go_enter Tryz.func107,Tryz.ntmps107
  go_upto_region 1 with fail
  rw [<- hZ];generalize zS w _=w1 at HX HK ⊢;rw [<- hg2] at HK ⊢;have hlw:=HK.out.lt;clear hg2 hZ;go_wp2_with (refine Q00 (o:=⟨none,_,_,_,_,_⟩) rfl 77 (.tmp 2) (.tmp 27) rfl g2 0 (crC 0 none 0 0) rfl rfl 77 _ HK.out (by kernel_rfl) (by simp [crC]) (by simp [crC,zN]) ?_; intro w9 hT9 hD9)
  refine bodyPost_ret (Q1q rfl _ _ g2 2 77 _ _ rfl hD9 zV rfl rfl rfl) rfl ⟨hT9.below HX.out hgw,fun _=>by rw [Q6j]; rfl,fun q hq=>by cases hq⟩
 have h2b:¬ (n:Int)<2:=by omega
 obtain⟨g,c,rfl,hgB,hcc,hrd,hcell⟩:=Q35 h (by omega);have c0:=hcell 0 (by omega);have c1:=hcell 1 (by omega);obtain⟨l0,hl0⟩:∃ k,k=l.getD 0 0:=⟨_,rfl⟩;obtain⟨l1,hl1⟩:∃ k,k=l.getD 1 0:=⟨_,rfl⟩;rw [<- hl0] at c0;rw [<- hl1] at c1;rw [<- hn] at hcc hrd ⊢;have hbd:badF l <-> (l0<1\/22<l0\/2<l1)\/n≠2+(3*l1+1)+2*(l0 - 1):=by unfold badF;rw [<- hl0,<- hl1,<- hn];omega
 have HBD:=sH hbd;have HRD:=sH (fun(W:zB) (hW:OwnN W B (.slice (some ⟨g,0,none⟩) n c) (nI l))=>(Q1y hW).2);have c0':=(hX.cell (p:=⟨g,0,none⟩) (by have:=(Q07 h (b:=g) (by rfl)).2; exact this)).trans c0;have c1':=(hX.cell (p:=⟨g,1,none⟩) (by have:=(Q07 h (b:=g) (by rfl)).2; exact this)).trans c1;have hgl:g<w.heap.size:=(Q07 h (b:=g) (by rfl)).2;have HL0:=sH hl0;have HL1:=sH hl1;have HOW':=sH (show OwnN (w.alloc (.cells (crC 0 none 0 0) 77)) B (.slice (some ⟨g,0,none⟩) n c) (nI l) from by rw [hn]; exact h.below_ hX);have h1n:(1:Int)<(n:Int):=by omega
 have h0n:(0:Int)<(n:Int):=by omega
 have h1N:1<n:=by omega
 have h0N:0<n:=by omega
 clear h hm hX hk0 ho hn hbd hrd hcell c0 c1 hl0 hl1;go_enter Tryz.func107,Tryz.ntmps107
 go_upto_region 1 with fail
 rw [<- hZ];generalize zS w _=w1 at HX HK c0' c1' HOW' ⊢;rw [<- hg2] at HK ⊢;have hlw:=HK.out.lt;clear hg2 hZ
 go_cut [26] (fun s26 wx=>s26=.bool (decide (l0<1\/22<l0\/2<l1))/\wx=w1)
 case first =>
  by_cases b0:l0<1
  ·have b0b:(l0:Int)<1:=by omega
   go_wp2_with fail
   go_meet
   exact⟨by rw [decide_eq_true (.inl b0)],rfl⟩
  have b0b:¬ (l0:Int)<1:=by omega
  by_cases b1:22<l0
  ·have b1b:(22:Int)<(l0:Int):=by omega
   go_wp2_with fail
   go_meet
   exact⟨by rw [decide_eq_true (.inr (.inl b1))],rfl⟩
  have b1b:¬ (22:Int)<(l0:Int):=by omega
  by_cases b2:2<l1
  ·have b2b:(2:Int)<(l1:Int):=by omega
   go_wp2_with fail
   go_meet
   exact⟨by rw [decide_eq_true (.inr (.inr b2))],rfl⟩
  have b2b:¬ (2:Int)<(l1:Int):=by omega
  go_wp2_with fail
  go_meet
  exact⟨by rw [decide_eq_false (by omega)],rfl⟩
 obtain⟨rfl,rfl⟩:=hcut;by_cases hbad:l0<1\/22<l0\/2<l1
 ·have hon:o=none:=by rw [HO.out,Q33 (HBD.out.2 (.inl hbad))]
  rw [decide_eq_true hbad];subst hon;clear c0' c1';go_wp2_with (refine Q00 (o:=⟨none,_,_,_,_,_⟩) rfl 77 (.tmp 2) (.tmp 27) rfl g2 0 (crC 0 none 0 0) rfl rfl 77 _ HK.out (by kernel_rfl) (by simp [crC]) (by simp [crC,zN]) ?_; intro w9 hT9 hD9)
  refine bodyPost_ret (Q1q rfl _ _ g2 2 77 _ _ rfl hD9 zV rfl rfl rfl) rfl ⟨hT9.below HX.out hgw,fun _=>by rw [Q6j]; rfl,fun q hq=>by cases hq⟩
 rw [decide_eq_false hbad];by_cases hnn:n=2+(3*l1+1)+2*(l0 - 1)
 ·have hnnb:((n:Int) != 2+(3*(l1:Int)+1)+2*((l0:Int) - 1))=false:=by simp; omega
  have hgood:¬ badF l:=fun hb=>(HBD.out.1 hb).elim hbad (fun e=>e hnn)
  have HOG:=sH (show o=some ((((l1:Nat):Int),nI ((l.drop 2).take (3*l1+1))),nI (l.drop (2+(3*l1+1)))) from by rw [HO.out,HL1.out];exact if_neg hgood)
  obtain⟨k,hk⟩:∃ k,k=3*l1+1:=⟨_,rfl⟩;have hkI:(k:Int)=3*(l1:Int)+1:=by omega
  have HS1:=sH (fun(W:zB)=>Q5F (P:=zH) (t:=42) (e:=3) zU (by kernel_rfl) (some ⟨g,0,none⟩) n c 2 (2+k) 2 (2+(3*(l1:Int)+1)) rfl (by omega) (by omega) (by omega) W);obtain⟨A1,hA1⟩:∃ A1,A1=(if c=2 then(some (⟨g,0,none⟩:zA)) else(some (⟨g,0,none⟩:zA)).map (·.add 2)):=⟨_,rfl⟩;rw [<- hA1] at HS1;have hk2:2+k - 2=k:=by omega
  obtain⟨xs,hxs⟩:∃ xs,xs=nI ((l.drop 2).take k):=⟨_,rfl⟩;have hOW:OwnN wc B (.slice (some ⟨g,0,none⟩) n c) (nI l):=HOW'.out;have hr1:=(HRD.out wc hOW).sub (l:=2) (k:=2+k) (cap:=c) (by omega) (by omega) hcc;simp only [Nat.mul_one] at hr1;rw [<- hA1,hk2] at hr1;rw [hk2] at HS1;have e1:(((nI l).map vn).drop 2).take k=(nI ((l.drop 2).take k)).map vn:=by unfold nI; simp only [List.map_drop,List.map_take]
  rw [e1,<- hxs] at hr1;have HXK:=sH (show xs.length=k by rw [hxs,Q1U,List.length_take,zF,<- HN.out]; omega);have HCI:=sH (fun(W:zB) (hb:zE wc.heap.size wc W)=>Q4E A1 k (c - 2) xs W wc.heap.size (hr1.below hb) hb.size (by omega));rw [<- hk,<- hxs] at HOG;have hl12:l1<=2:=by omega
  have hwr:IntKind.i64.wrap (2+(3*(l1:Int)+1))=2+(3*(l1:Int)+1):=IntWalk.i64_in _ (by omega);have HWR:=sH hwr;have HN1:=sH h1n;have C1:=sH (fun(W:zB) (hb:zE wc.heap.size wc W)=>(hb.cell (p:=⟨g,1,none⟩) (by show g<wc.heap.size; have:=HX.out.size; omega)).trans c1');have HKE:=sH hkI;have HKN:=sH hk;have hl02:l0<=22:=by omega
  have hl01:1<=l0:=by omega
  clear hnn hk2 hA1 hr1 e1 hgood hbad hOW hxs hk;go_upto_region 6 with fail
  refine Q1d 12 56 (fun jx W v=>match jx with | 0=>v=.slice (some ⟨g,0,none⟩) n c | 1=>v=.pointer (some ⟨g,1,none⟩) | 2=>v=.int .i64 (l1:Int) | 3=>v=.slice (some ⟨g,0,none⟩) n c | 4=>v=.int .i64 (3*(l1:Int)+1) | 5=>v=.int .i64 (2+(3*(l1:Int)+1)) | 6=>v=.slice A1 k (c - 2) | 7=>∃ A' c',v=.slice A' k c'/\OwnN W wc.heap.size (.slice A' k c') xs | 8=>∃ A' c',v=.agg (crC (l1:Int) A' k c')/\OwnN W wc.heap.size (.slice A' k c') xs | 9=>v=.int .i64 (3*(l1:Int)+1) | 10=>v=.int .i64 (2+(3*(l1:Int)+1)) | 11=>True | _=>True) (fun s W=>match s with | 0=>zE wc.heap.size wc W | _=>∃ A' c',zE w.heap.size w W/\Blk W g2 77 (crC (l1:Int) A' k c')/\OwnN W w.heap.size (.slice A' k c') xs) (Q0b g2) [11] (fun _=>[]) (fun _=>[]) [45,46,47,48,49,50,51,52,53,54,55] (by kernel_rfl) (by kernel_rfl) (by kernel_rfl) (by kernel_rfl) (by kernel_rfl) (by kernel_rfl) (by first | rfl | simp) (by kernel_rfl) (fun jx=>?last) ?lastR ?jay (zK _ _) ?heads ?_
  case last =>
   match jx with
   | 0 | 1 | 2 | 3 | 4 | 5 | 6 | 9 | 10 | 11 | jx+12=>exact Q15.pure _
   | 7=>exact fun W W' v ⟨A',c',h1,h2⟩ hb=>⟨A',c',h1,h2.below_ hb⟩
   | 8=>exact fun W W' v ⟨A',c',h1,h2⟩ hb=>⟨A',c',h1,h2.below_ hb⟩
  case lastR =>
   intro s jx W W' v hsl hdd hlt hs hj hp hr;match jx with
   | 0 | 1 | 2 | 3 | 4 | 5 | 6 | 9 | 10 | 11 | jx+12=>exact hp
   | 7 =>
   obtain rfl:s=0:=by simpa using hsl
   have hj0:zE wc.heap.size wc W:=hj;obtain⟨A',c',h1,h2⟩:=hp;exact⟨A',c',h1,h2.keep_ fun b hb=>hr.block b fun e=>Q05 h2 (HK.out.below' hj0) (by decide) (by rw [hb,e])⟩
   | 8 =>
   obtain rfl:s=0:=by simpa using hsl
   have hj0:zE wc.heap.size wc W:=hj;obtain⟨A',c',h1,h2⟩:=hp;exact⟨A',c',h1,h2.keep_ fun b hb=>hr.block b fun e=>Q05 h2 (HK.out.below' hj0) (by decide) (by rw [hb,e])⟩
  case jay =>
   intro s W W' hj hb;match s,hj with
   | 0,hj=>exact Below.trans hj (hb.mono (Below.size hj))
   | s+1,⟨A',c',h1,h2,h3⟩=>exact⟨A',c',h1.trans (hb.mono h1.size),h2.below' hb,h3.below_ hb⟩
  case heads =>
   simp only [tT];and_intros;rotate_right;trivial
   all_goals try(rw [if_neg (by decide)];intro s a W hst hj hkp hd)
   ·obtain rfl:=Q0x hst rfl (by kernel_rfl);have hb:zE wc.heap.size wc W:=hj;have e0:(_:zC)=.slice (some ⟨g,0,none⟩) n c:=sK hkp 0;exact sV
   ·obtain rfl:=Q0x hst rfl (by kernel_rfl);have hb:zE wc.heap.size wc W:=hj;have e0:=sJ (hd 0) 45;have hlt:=HN1.out;exact sV
   ·obtain rfl:=Q0x hst rfl (by kernel_rfl);have hb:zE wc.heap.size wc W:=hj;have e0:=sJ (hd 1) 46;have cc:=C1.out W hb;exact sV
   ·obtain rfl:=Q0x hst rfl (by kernel_rfl);have hb:zE wc.heap.size wc W:=hj;have e0:(_:zC)=.slice (some ⟨g,0,none⟩) n c:=sK hkp 0;exact sV
   ·obtain rfl:=Q0x hst rfl (by kernel_rfl);have hb:zE wc.heap.size wc W:=hj;have e0:(_:zC)=.int .i64 (3*(l1:Int)+1):=sK hkp 5;exact sV
   ·obtain rfl:=Q0x hst rfl (by kernel_rfl);have hb:zE wc.heap.size wc W:=hj;have e0:=sJ (hd 4) 49;have hw:=HWR.out;exact Q0j rfl (.int .i64 (2+(3*(l1:Int)+1))) (by go_simp) rfl
   ·obtain rfl:=Q0x hst rfl (by kernel_rfl);have hb:zE wc.heap.size wc W:=hj;have e0:=sJ (hd 3) 48;have e0:=sJ (hd 3) 48;have e1:=sJ (hd 5) 50;exact Q0j rfl (.slice A1 k (c - 2)) (Q82 42 (.tmp 48) (some (.const (.int .i64 2))) (some (.tmp 50)) rfl (some ⟨g,0,none⟩) n c (by simpa [Act.eval] using e0) (some (.int .i64 2)) rfl (some (.int .i64 (2+(3*(l1:Int)+1)))) (by show some (a.eval (.tmp 50))=_; rw [show a.eval (.tmp 50)=.int .i64 (2+(3*(l1:Int)+1)) by simpa [Act.eval] using e1]) zU _ (HS1.out W)) rfl
   ·obtain rfl:=Q0x hst rfl (by kernel_rfl);have hb:zE wc.heap.size wc W:=hj;have e0:=sJ (hd 6) 51;have e0:=sJ (hd 6) 51;refine Q0u rfl 87 #[.slice A1 k (c - 2)] (by go_simp) ((HCI.out W hb).mono ?_);rintro e w' ⟨v,rfl,ho,hb'⟩;obtain⟨A',c',h1,_,_,_,_⟩:=Q0i ho;rw [HXK.out] at h1;subst h1;exact⟨_,rfl,hb',A',c',rfl,OwnN.more ho hb.size⟩
   ·obtain rfl:=Q0x hst rfl (by kernel_rfl);have hb:zE wc.heap.size wc W:=hj;have e0:=sJ (hd 2) 47;have e0:=sJ (hd 2) 47;obtain⟨A',c',e1,h1⟩:=(sG (hd 7) 52:);exact Q0j rfl (.agg (crC (l1:Int) A' k c')) (by go_simp; rfl) ⟨A',c',rfl,h1⟩
   ·have e0:(_:zC)=.int .i64 (3*(l1:Int)+1):=sK hkp 5;exact sV
   ·have e0:=sJ (hd 9) 54;have hw:=HWR.out;exact Q0j rfl (.int .i64 (2+(3*(l1:Int)+1))) (by go_simp) rfl
   rw [if_pos (by decide)];intro s a W hs hj hkp hd;obtain rfl:=Q5e hs;have hj0:zE wc.heap.size wc W:=hj;obtain⟨A',c',e53,ho⟩:=(sG (hd 8) 53:);have e2:a.eval (.tmp 2)=.pointer (some ⟨g2,0,none⟩):=by have:=hkp.at_ (d:=2) (by kernel_rfl); rw [this]; rfl
   have e53':a.eval (.tmp 53)=.agg (crC (l1:Int) A' k c'):=by simpa [Act.eval] using e53
   refine Q2x rfl 77 (.tmp 2) (.tmp 53) rfl g2 0 (crC (l1:Int) A' k c') e2 e53' 77 (crC 0 none 0 0) (HK.out.below' hj0) (Q1M _ _ _ _) (by simp [crC]) (Q1h _ _ _ _) fun W' hT hB=>?_
   rw [Q3i] at hB;exact⟨hT,⟨A',c',hT.below (HX.out.trans (hj0.mono HX.out.size)) hgw,hB,(OwnN.more ho HX.out.size).keep_ fun b hb=>hT.block b fun e=>Q05 ho (HK.out.below' hj0) (by decide) (by rw [hb,e])⟩,trivial⟩
  intro ff W hj hd;obtain⟨A',c',hlw,hbk,hoo⟩:=hj;have f55:ff 55=.int .i64 (2+(3*(l1:Int)+1)):=hd 10 (by omega) (by decide) _ 55 rfl rfl;have HLW:=sH hlw;have HBK:=sH hbk;have HOO:=sH hoo;clear hd hlw hbk hoo;simp only [Q0F,tU,f55];try simp only [Act.put,sA]
  go_wp2_with fail
  refine bodyPost_ret (Q1q rfl _ _ g2 2 77 _ _ rfl HBK.out zV rfl rfl rfl) rfl ⟨HLW.out,fun e=>?_,fun q hq=>?_⟩
  ·rw [HOG.out] at e; cases e
  rw [HOG.out] at hq;obtain rfl:=zR hq;have hkk:=HKN.out;refine⟨l1,A',c',rfl,hl12,by show xs.length=_; rw [HXK.out]; exact hkk,?_,?_⟩
  ·show _=Ending.returned (.tuple #[.agg (crC (l1:Int) A' xs.length c'),.int .i64 ((2+(3*l1+1):Nat):Int),.bool true]);rw [HXK.out,show ((2+(3*l1+1):Nat):Int)=2+(3*(l1:Int)+1) by omega];rfl
  show OwnN W w.heap.size (.slice A' xs.length c') xs;rw [HXK.out];exact HOO.out
 have hon:o=none:=by rw [HO.out,Q33 (HBD.out.2 (.inr hnn))]
 have hnnb:((n:Int) != 2+(3*(l1:Int)+1)+2*((l0:Int) - 1))=true:=by simp; omega
 subst hon;go_wp2_with (refine Q00 (o:=⟨none,_,_,_,_,_⟩) rfl 77 (.tmp 2) (.tmp 44) rfl g2 0 (crC 0 none 0 0) rfl rfl 77 _ HK.out (by kernel_rfl) (by simp [crC]) (by simp [crC,zN]) ?_; intro w9 hT9 hD9)
 refine bodyPost_ret (Q1q rfl _ _ g2 2 77 _ _ rfl hD9 zV rfl rfl rfl) rfl ⟨hT9.below HX.out hgw,fun _=>by rw [Q6j]; rfl,fun q hq=>by cases hq⟩
end
end Go.Proofs.YtcpngeiahgoacaaGreat
