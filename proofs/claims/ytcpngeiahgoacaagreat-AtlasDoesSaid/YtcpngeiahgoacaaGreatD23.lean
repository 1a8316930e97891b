/- Parts of the proof, in one text: AtHe, AtRo, AtLv, AtBy, AoM, AoA, AoB, RaL, AoC, RaM, RaN, AoD, AoF, RaO, AlO, AlOM, AlEM, AlEP, AlEF, RaP. -/
import Derived.Test.YtcpngeiahgoacaaGreatD22
import Derived.Test.YtcpngeiahgoacaaGreatD8
import Derived.Test.YtcpngeiahgoacaaGreatD17
import Derived.BigRegion
import Derived.IntWalk
import Derived.Deep.DeepCutAuto
import Derived.Test.YtcpngeiahgoacaaGreatD19
import Derived.Test.YtcpngeiahgoacaaGreatD16
import Derived.Test.YtcpngeiahgoacaaGreatD21
import Derived.Test.YtcpngeiahgoacaaGreatD14
import Derived.Test.YtcpngeiahgoacaaGreatD18
import Derived.Test.YtcpngeiahgoacaaGreatD12
namespace Go.Proofs.YtcpngeiahgoacaaGreat
set_option linter.unusedVariables false
set_option linter.unusedSimpArgs false
set_option maxRecDepth 100000
set_option maxHeartbeats 16000000
section
open Go.RowKit Go.Maps
attribute [local irreducible] wpList Q0i
def Q2q (w:World) (p:Ans×Bool) (r:Ending) (w':World):Prop:=∃ D,r=.returned (.tuple #[.agg D,.bool p.2])/\D.size=4/\AnsN w' w.heap.size D p.1/\Below w.heap.size w w'
theorem Qbr (w:World) (V:ALoc) (N:Nat->Prop) (m:AM) (h:AAt w V N m)
 (x:Wish) (A:Option Addr) (n c:Nat) (A':Option Addr) (n' c':Nat) (B:Nat) (hx:Q0Y w B x A n c A' n' c') (hB:B<=w.heap.size) (hq:inQ x=true) :
 Calls Tryz.prog 39 #[.pointer (some ⟨V.g,0,none⟩),.agg (Q05 x A n c A' n' c')] w (Q2q w (oldQ m x)):=by
 obtain⟨S,hd⟩:=h.dat;obtain⟨cl1,cl2,_⟩:=Q2L hq;have hmb:mayB x=true:=by unfold inQ at hq; rw [Bool.and_eq_true] at hq; exact hq.1
 have hkd:x.kind=3\/x.kind=4:=by unfold inQ at hq; rw [Bool.and_eq_true] at hq; exact of_decide_eq_true hq.2
 have hX:Below w.heap.size w ((w.alloc (.cells (Q05 x A n c A' n' c') 44)).alloc (.cells (anC 0 none 0 0 0 none 0 0) 47)):=((Below.refl _ _).alloc (Nat.le_refl _) _).alloc (by simp) _;have k3:Blk ((w.alloc (.cells (Q05 x A n c A' n' c') 44)).alloc (.cells (anC 0 none 0 0 0 none 0 0) 47)) w.heap.size 44 (Q05 x A n c A' n' c'):=(Blk.newAt rfl).alloc _;have k4:Blk ((w.alloc (.cells (Q05 x A n c A' n' c') 44)).alloc (.cells (anC 0 none 0 0 0 none 0 0) 47)) (w.heap.size+1) 47 (anC 0 none 0 0 0 none 0 0):=Blk.newAt (by simp);have hz1:((w.alloc (.cells (Q05 x A n c A' n' c') 44)).alloc (.cells (anC 0 none 0 0 0 none 0 0) 47)).heap.size=w.heap.size+2:=by simp
 have HD0:=Lib.hid hd;have HX:=Lib.hid hX;have K3:=Lib.hid k3;have K4:=Lib.hid k4;have HZ1:=Lib.hid hz1;have HCK:=Lib.hid (fun(W:World) (hb:Below w.heap.size w W)=>(show Calls Tryz.prog 77 #[.agg (Q05 x A n c A' n' c')] W fun e w'=>e=.returned (.int .i64 0)/\Below W.heap.size W w' from by have h:=Q6S x A n c A' n' c' W B (hx.below (hb.mono hB)) (by have:=hb.size; omega); rw [hmb] at h; exact h));have HNO:=Lib.hid (fun(W:World) (hb:Below w.heap.size w W)=>Q2g W V.g V.T.t (((hd.below hb).blk.cell 0).trans (Q1D _ _ _ _ 0 (by omega))));have HOL:=Lib.hid (fun(W:World) (hb:Below w.heap.size w W)=>QaK W V.g V.gc _ _ _ S (hd.below hb) x A n c A' n' c' ⟨cl1,cl2⟩);obtain⟨P,hP⟩:∃ P,P=Q2q w (oldQ m x):=⟨_,rfl⟩;rw [<- hP];have HPG:=Lib.hid (show ∀ w' D,D.size=4->AnsN w' w.heap.size D (oldQ m x).1->Below w.heap.size w w'->P (.returned (.tuple #[.agg D,.bool (oldQ m x).2])) w' from fun w' D hs ha hb=>by
  rw [hP]; exact⟨D,rfl,hs,ha,hb⟩)
 obtain⟨oa,hoa⟩:∃ q,q=(oldQ m x).1:=⟨_,rfl⟩;obtain⟨ob,hob⟩:∃ q,q=(oldQ m x).2:=⟨_,rfl⟩;rw [<- hoa,<- hob] at HPG HOL;obtain⟨g3,hg3⟩:∃ b,b=w.heap.size:=⟨_,rfl⟩;obtain⟨g4,hg4⟩:∃ b,b=w.heap.size+1:=⟨_,rfl⟩;obtain⟨W0,hW0⟩:∃ W0,W0=Q05 x A n c A' n' c':=⟨_,rfl⟩;have hws:W0.size=10:=by rw [hW0]; simp [Q05]
 have hw4:W0[4]?=some (.int .i64 x.kind):=by rw [hW0]; rfl
 rw [<- hW0] at HX K3 K4 HZ1 HCK HOL ⊢;have HW4:=Lib.hid hw4;have HKD:=Lib.hid hkd;clear h hd hX k3 k4 hz1 hP hx hW0 hw4 hq hmb hkd hoa hob;go_enter Tryz.func39,Tryz.ntmps39
 go_upto_region 1 with fail
 rw [<- anZ];generalize World.alloc (World.alloc w _) _=w1 at HX K3 K4 HZ1 ⊢;rw [<- hg4] at K4 ⊢;rw [<- hg3] at K3 ⊢;have hz1:=HZ1.out;have hgw3:w.heap.size<=g3:=by omega
 have hgw4:w.heap.size<=g4:=by omega
 have hg34:g3≠g4:=by omega
 have hw1:w.heap.size<=w1.heap.size:=by omega
 have hl3:=K3.out.lt;have hl4:=K4.out.lt;clear hg3 hg4 HZ1 hz1;go_wp2_with fail
 refine(HNO.out w1 HX.out).mono ?_;rintro _ _ ⟨rfl,rfl⟩;go_wp2_with (refine Q1I (o:=⟨some 9,_,_,_,_,_⟩) rfl 44 (.tmp 3) rfl g3 0 10 rfl 44 _ W0 _ K3.out Tryz.underlying44 rfl rfl hws (fun _ _=>by rw [Nat.zero_add]) ?_)
 refine(HCK.out w1 HX.out).mono ?_;rintro _ w2 ⟨rfl,hb2⟩;have HB2:=Lib.hid (HX.out.trans (hb2.mono hw1));have K32:=Lib.hid (K3.out.below' hb2);have K42:=Lib.hid (K4.out.below' hb2);have e4:w2.cell? ⟨g3,4,none⟩=some (.int .i64 x.kind):=(K32.out.cell 4).trans HW4.out;have HO2:=Lib.hid (HOL.out w2 HB2.out);have hs2:=HB2.out.size;have hl42:=K42.out.lt;clear hb2 K3 K4 HX HCK HNO HOL;have fin:∀ (k:Int),x.kind=k->True:=fun _ _=>trivial
 clear fin;by_cases hk3:x.kind=3
 ·have hk3b:(x.kind != 3)=false:=by simp [hk3]
  clear hk3;go_wp2_with (refine Q03 (o:=⟨some 25,_,_,_,_,_⟩) rfl 44 (.tmp 3) rfl g3 0 10 rfl 44 _ W0 _ K32.out Tryz.underlying44 rfl rfl hws (fun _ _=>by rw [Nat.zero_add]) ?_)
  refine HO2.out.mono ?_;rintro _ w5 ⟨D,rfl,ha5,hb5⟩;obtain⟨A5,c5,hD5,ho5⟩:=ha5;have hs5:=hb5.size;have hds:D.size=4:=by rw [hD5]; rfl
  have hd1:D.all (·.oneCell')=true:=by rw [hD5]; exact Q0G _ _ _ _ _ _ _ _
  have HA5:=Lib.hid (show AnsN w5 w2.heap.size D oa from⟨A5,c5,hD5,ho5⟩);have HB5:=Lib.hid (HB2.out.trans (hb5.mono hs2));have K45:=Lib.hid (K42.out.below' hb5);clear hD5 ho5 hb5 HO2;go_wp2_with (refine Q01 (o:=⟨none,_,_,_,_,_⟩) rfl 47 (.tmp 4) (.tmp 27) rfl g4 0 D rfl rfl 47 (anC 0 none 0 0 0 none 0 0) K45.out (by rw [hds]; kernel_rfl) (by rw [hds]; simp [anC]) hd1 ?_; intro w8 hT8 hD8; rw [Q08 _ _ (by rw [hds]; rfl)] at hD8)
  refine bodyPost_ret (Q0b rfl _ _ g4 4 47 _ _ rfl hD8 Tryz.underlying47 rfl rfl hds) rfl ?_;exact HPG.out w8 D hds ((HA5.out.keepN (fun b h1 h2=>hT8.block b (by omega))).more (by omega)) (hT8.below HB5.out hgw4)
 ·have hk3b:(x.kind != 3)=true:=by simpa using hk3
  have hk4b:(x.kind != 4)=false:=by
   rcases HKD.out with e | e
   ·exact absurd e hk3
   ·simp [e]
  clear hk3;go_wp2_with (refine Q03 (o:=⟨some 25,_,_,_,_,_⟩) rfl 44 (.tmp 3) rfl g3 0 10 rfl 44 _ W0 _ K32.out Tryz.underlying44 rfl rfl hws (fun _ _=>by rw [Nat.zero_add]) ?_)
  refine HO2.out.mono ?_;rintro _ w5 ⟨D,rfl,ha5,hb5⟩;obtain⟨A5,c5,hD5,ho5⟩:=ha5;have hs5:=hb5.size;have hds:D.size=4:=by rw [hD5]; rfl
  have hd1:D.all (·.oneCell')=true:=by rw [hD5]; exact Q0G _ _ _ _ _ _ _ _
  have HA5:=Lib.hid (show AnsN w5 w2.heap.size D oa from⟨A5,c5,hD5,ho5⟩);have HB5:=Lib.hid (HB2.out.trans (hb5.mono hs2));have K45:=Lib.hid (K42.out.below' hb5);clear hD5 ho5 hb5 HO2;go_wp2_with (refine Q01 (o:=⟨none,_,_,_,_,_⟩) rfl 47 (.tmp 4) (.tmp 27) rfl g4 0 D rfl rfl 47 (anC 0 none 0 0 0 none 0 0) K45.out (by rw [hds]; kernel_rfl) (by rw [hds]; simp [anC]) hd1 ?_; intro w8 hT8 hD8; rw [Q08 _ _ (by rw [hds]; rfl)] at hD8)
  refine bodyPost_ret (Q0b rfl _ _ g4 4 47 _ _ rfl hD8 Tryz.underlying47 rfl rfl hds) rfl ?_;exact HPG.out w8 D hds ((HA5.out.keepN (fun b h1 h2=>hT8.block b (by omega))).more (by omega)) (hT8.below HB5.out hgw4)
end
section
open Go.RowKit Go.Maps
attribute [local irreducible] wpList Q0i
theorem Qd6 (w:World) (V:ALoc) (N:Nat->Prop) (m:AM) (h:AAt w V N m) :
 Calls Tryz.prog 59 #[.pointer (some ⟨V.g,0,none⟩)] w fun e w'=>e=.returned (.tuple #[.agg (bRow (Q2o (Q0g m))),.int .i64 0])/\Below w.heap.size w w':=by
 obtain⟨S,hd⟩:=h.dat;have hX:=Q07 w (.cells inkZ 60);have hk0:Blk (w.alloc (.cells inkZ 60)) w.heap.size 60 inkZ:=Blk.newAt rfl;have c0:=((hd.below hX).blk.cell 0).trans (Q1D _ _ _ _ 0 (by omega));have HN:=Lib.hid (Q2g (w.alloc (.cells inkZ 60)) V.g V.T.t c0);have HR:=Lib.hid (Q9A (w.alloc (.cells inkZ 60)) V.T V.k (Q0g m) (h.tree.below hX));have hln:=Q0B m;have hds:(bRow (Q2o (Q0g m))).size=32:=Q0E (Q9H (Q0g m) (by omega) (by omega)).2;have hdo:=Q0K (Q2o (Q0g m));obtain⟨D,hD⟩:∃ D,D=bRow (Q2o (Q0g m)):=⟨_,rfl⟩;rw [<- hD] at HR hds hdo ⊢;have HDS:=Lib.hid hds;have HDO:=Lib.hid hdo;have HZ:=Lib.hid Q1T;have HZS:=Lib.hid (show inkZ.size=32 by simp [inkZ,bRow]);have HX:=Lib.hid hX;have HK:=Lib.hid hk0;have C0:=Lib.hid c0;obtain⟨g,hg⟩:∃ g,g=w.heap.size:=⟨_,rfl⟩;clear h hd hX hk0 c0 hD hds hdo hln;go_enter Tryz.func59,Tryz.ntmps59
 go_upto_region 1 with fail
 rw [<- HZ.out];generalize World.alloc w _=w1 at HN HR HX HK C0 ⊢;rw [<- hg] at HK ⊢;have hgw:w.heap.size<=g:=by omega
 have c0:=C0.out;clear hg;go_wp2_with fail
 refine HN.out.mono ?_;rintro _ _ ⟨rfl,rfl⟩;go_wp2_with fail
 refine HR.out.mono ?_;rintro _ w2 ⟨rfl,hb2⟩;have HB2:=Lib.hid (HX.out.trans (hb2.mono HX.out.size));have HK2:=Lib.hid (HK.out.below' hb2);clear hb2;go_wp2_with (refine Q01 (o:=⟨none,_,_,_,_,_⟩) rfl 60 (.tmp 2) (.tmp 12) rfl g 0 D rfl rfl 60 inkZ HK2.out (by rw [HDS.out]; rfl) (by rw [HDS.out,HZS.out]; omega) HDO.out ?_; intro w5 hT5 hD5; rw [Q08 _ _ (by rw [HDS.out,HZS.out])] at hD5)
 refine bodyPost_ret (Q0b rfl _ _ g 32 60 _ _ rfl hD5 Tryz.underlying60 rfl rfl HDS.out) rfl ⟨rfl,?_⟩;exact hT5.below HB2.out hgw
end
section
open Go.RowKit Go.Maps
attribute [local irreducible] wpList Q0i
def Qaj (w:World) (m:AM) (e:Ending) (w':World):Prop:=∃ v vs,e=.returned v/\OwnL w' w.heap.size v (Q0g m) vs/\Below w.heap.size w w'
theorem Q6J (w:World) (V:ALoc) (N:Nat->Prop) (m:AM) (h:AAt w V N m) :
 Calls Tryz.prog 57 #[.pointer (some ⟨V.g,0,none⟩)] w (Qaj w m):=by
 obtain⟨S,hd⟩:=h.dat;have HN:=Lib.hid (Q2g w V.g V.T.t ((hd.blk.cell 0).trans (Q1D _ _ _ _ 0 (by omega))));have HL:=Lib.hid (fun(i:Nat) (hi:i<6) (W:World) (hb:Below w.heap.size w W)=>Q9f W V.g V.gc i _ N m S (hd.below hb) hi);have hlen:=Q0B m;have HLN:=Lib.hid hlen;obtain⟨i0,hi0,hz0,hz1,hz2⟩:=info_parts QaS;clear h hd hlen;go_enter Tryz.func57,Tryz.ntmps57
 go_wp2_with fail
 refine HN.out.mono ?_;rintro _ _ ⟨rfl,rfl⟩;go_wp2_with fail
 go_loopw [3,7] (fun ov iv wr=>∃ (i:Nat) (vs:List Value),i<=6/\iv=.int .i64 i/\OwnL wr w.heap.size ov ((Q0g m).take i) vs/\Below w.heap.size w wr) (fun _ iv _=>6 - (intOf iv).toNat)
 case atStart=>exact⟨0,[],by omega,rfl,OwnL.nil _ _,Below.refl _ _⟩
 case round =>
  obtain⟨i,vs,hi,rfl,hov,hbel⟩:=hrel;have HOV:=Lib.hid hov;have HB:=Lib.hid hbel;have hsz:=hbel.size;by_cases hin:i<6
  ·have hinI:(i:Int)<6:=by omega
   have htl:((Q0g m).take i).length=i:=by rw [List.length_take,HLN.out]; omega
   have HTL:=Lib.hid htl;have HLF:=Lib.hid (HL.out i hin wr hbel);have htk:(Q0g m).take (i+1)=(Q0g m).take i++[Q1w m i]:=by
    have hl:=HLN.out;have hg:=Q1P m i hin;rw [List.getElem?_eq_getElem (by omega)] at hg;rw [List.take_succ_eq_append_getElem (by omega),Option.some.inj hg]
   have HTK:=Lib.hid htk;clear hov hbel htl htk;generalize Q1w m i=x at HLF HTK;go_wp2_with fail
   refine HLF.out.mono ?_;rintro _ w3 ⟨u0,rfl,hu,hb3⟩;obtain⟨Au,cu,hue,_⟩:=Q0p hu;subst hue;obtain⟨nu,hnu⟩:∃ k,k=x.length:=⟨_,rfl⟩;rw [<- hnu] at hu ⊢;obtain⟨u,hu0⟩:∃ u,u=Value.slice Au nu cu:=⟨_,rfl⟩;rw [<- hu0] at hu;have HU:=Lib.hid (hu.more hsz);have HB3:=Lib.hid hb3;have hs3:=hb3.size;have hr3:=Q1m w3 #[u] 22;have HR3:=Lib.hid hr3;have HU0:=Lib.hid hu0;have HW:=Lib.hid (show (w3.alloc (.cells #[u] 22)).ownsRow w.heap.size 22 1 _ i vs from by
    have:=(Q0f HOV.out.row (w':=w3) fun b hb''=>hb3.block b (Q0a HOV.out.row hb'').2).alloc (.cells #[u] 22);rw [HTL.out] at this;exact this)
   rw [hu0] at HW HR3;clear hu hb3 hr3 HLF hnu hu0;go_wp2_with (at_builtin; go_must (refine Q06 _ rfl (.tmp 10) (.tmp 14) 23 rfl w.heap.size 22 i0 _ 1 24 Tryz.underlying23 hi0 hz0 hz1 hz2 rfl (by omega) _ i vs rfl HW.out (w3.heap.size+1) (some ⟨w3.heap.size,0,none⟩) 1 1 [.slice Au nu cu] rfl HR3.out ?c1 ?c2 ?c3 ?c4 ?_))
   case c1=>intro z hz; rw [List.mem_singleton] at hz; subst hz; rfl
   case c2=>unfold maxLen; omega
   case c3=>omega
   case c4=>simp; omega
   intro v6 w6 hown6 hg6 hor6;rw [<- HU0.out] at hown6 hg6;have ho6:OwnL w6 w.heap.size v6 ((Q0g m).take (i+1)) (vs++[u]):=by
    rw [HTK.out];exact HOV.out.push HB3.out HU.out (by rw [HTL.out]; exact hown6) hg6
   have hb6:Below w.heap.size w w6:=Q0k ((HB.out.trans (HB3.out.mono hsz)).trans ((Q07 w3 (.cells #[u] 22)).mono (by omega))) (by simp; omega) hg6 (fun b hb=>(Q0a HOV.out.row hb).1);have HO6:=Lib.hid ho6;have HB6:=Lib.hid hb6;clear hown6 hg6 hor6 ho6 hb6;go_wp2_with fail
   go_roundw
   case rel=>exact⟨i+1,_,by omega,by go_num,HO6.out,HB6.out⟩
   case measure=>simp [intOf]; omega
  ·obtain rfl:i=6:=by omega
   have hinI:¬ (6:Int)<6:=by omega
   have he:(Q0g m).take 6=Q0g m:=List.take_of_length_le (by rw [HLN.out]; omega);rw [he] at HOV;clear hov hbel he;go_wp2_with fail
   go_ret
   exact⟨_,_,rfl,HOV.out,HB.out⟩
end
section
open Go.RowKit Go.Maps
attribute [local irreducible] wpList Q0i
def Q6U (m:AM):List UInt8:=((Q0g m).map strB).flatten
def Q5F (w:World) (m:AM) (e:Ending) (w':World):Prop:=∃ v,e=.returned (.tuple #[v,.int .i64 0])/\OwnB w' w.heap.size v (Q6U m)/\Below w.heap.size w w'
theorem Qb3:∀ (l:List (List UInt8)),(∀ x,x∈l->x.length<=120)->(l.map strB).flatten.length<=128*l.length
 | [],_=>by simp
 | x :: t,h=>by
  rw [List.map_cons,List.flatten_cons,List.length_append,List.length_cons];have h1:=Qb3 t fun y hy=>h y (List.mem_cons_of_mem _ hy)
  have h2:=h x (List.mem_cons_self ..);have h3:=(Q2N (n:=x.length) (by unfold maxN; omega)).2;have h4:(strB x).length=(numB x.length).length+x.length:=by unfold strB; rw [List.length_append]
  omega
theorem Qc8 (w:World) (V:ALoc) (N:Nat->Prop) (m:AM) (h:AAt w V N m) :
 Calls Tryz.prog 58 #[.pointer (some ⟨V.g,0,none⟩)] w (Q5F w m):=by
 obtain⟨S,hd⟩:=h.dat;have hok:=hd.ok;have HN:=Lib.hid (Q2g w V.g V.T.t ((hd.blk.cell 0).trans (Q1D _ _ _ _ 0 (by omega))));have HLV:=Lib.hid (Q6J w V N m h);have hlen:=Q0B m;have hbl:∀ x,x∈Q0g m->x.length<=120:=fun x hx=>by
  obtain⟨i,_,rfl⟩:=List.mem_map.1 hx;exact Q3l hok i
 have hfl:=Qb3 _ hbl;rw [hlen] at hfl;obtain⟨ls,hls⟩:∃ ls,ls=Q0g m:=⟨_,rfl⟩;unfold Q5F Q6U;unfold Qaj at HLV;rw [<- hls] at HLV hlen hbl hfl ⊢;have HLN:=Lib.hid hlen;have HBL:=Lib.hid hbl;obtain⟨i0,hi0,hz0,hz1,hz2⟩:=info_parts Q1O;clear h hd hlen hbl hls hok;go_enter Tryz.func58,Tryz.ntmps58
 go_wp2_with fail
 refine HN.out.mono ?_;rintro _ _ ⟨rfl,rfl⟩;go_wp2_with fail
 refine HLV.out.mono ?_;rintro _ w1 ⟨v,vs,rfl,how,hb1⟩;obtain⟨A,c,rfl,hc,_,hrows,hge⟩:=how.slice;rw [HLN.out] at hc hrows ⊢;have HR:=Lib.hid hrows;have HB1:=Lib.hid hb1;have hs1:=hb1.size;clear how hrows hb1 hge HLV HN;go_wp2_with fail
 go_loopw [4,14] (fun ov iv wr=>∃ i:Nat,i<=6/\iv=.int .i64 i/\OwnB wr w1.heap.size ov ((ls.take i).map strB).flatten/\Below w1.heap.size w1 wr) (fun _ iv _=>6 - (intOf iv).toNat)
 case atStart=>exact⟨0,by omega,rfl,OwnB.nil _ _,Below.refl _ _⟩
 case round =>
  obtain⟨i,hi,rfl,hov,hbel⟩:=hrel;have HOV:=Lib.hid hov;have HB:=Lib.hid hbel;have hsz:=hbel.size;clear hov hbel;by_cases hin:i<6
  ·have hinI:(i:Int)<6:=by omega
   have h0I:(0:Int)<=(i:Int):=by omega
   obtain⟨ad,hA,hadb,hcell⟩:=HR.out.2 (by omega);subst hA;have hxi:i<ls.length:=by have:=HLN.out; omega
   obtain⟨Ak,mk,ck,hck,hrk⟩:=hcell i ls[i] (List.getElem?_eq_getElem hxi);have hck':=(HB.out.cell (show (ad.add i).block<w1.heap.size by rw [Q0e]; omega)).trans hck;have hmk:ls[i].length=mk:=by have:=hrk.1; simpa using this
   have hm120:mk<=120:=by have:=HBL.out _ (List.getElem_mem hxi); omega
   have HST:=Lib.hid (str_any Ak mk ck ls[i] wr wr.heap.size ((hrk.below HB.out).more hsz) (Nat.le_refl _) (by omega));obtain⟨ys,hys⟩:∃ ys,ys=((ls.take i).map strB).flatten:=⟨_,rfl⟩;have htk:((ls.take (i+1)).map strB).flatten=((ls.take i).map strB).flatten++strB ls[i]:=by rw [List.take_succ_eq_append_getElem hxi,List.map_append,List.flatten_append]; simp only [List.map_cons,List.map_nil,List.flatten_cons,List.flatten_nil,List.append_nil]
   have htl:((ls.take (i+1)).map strB).flatten.length<=(ls.map strB).flatten.length:=by
    conv=>rhs; rw [<- List.take_append_drop (i+1) ls,List.map_append,List.flatten_append,List.length_append]
    omega
   rw [htk,List.length_append] at htl;rw [<- hys] at HOV htk htl;have HTK:=Lib.hid htk;clear hys;generalize strB ls[i]=x at HTK HST htl;clear hcell hck hrk hmk htk;go_wp2_with fail
   refine HST.out.mono ?_;rintro _ w2 ⟨v2,rfl,ho2,hb2⟩;obtain⟨A2,c2,rfl,p1,p2,p3,p4⟩:=Q0p ho2;obtain⟨nx,hnx⟩:∃ k,k=x.length:=⟨_,rfl⟩;rw [<- hnx] at p3 htl ⊢;have HNX:=Lib.hid hnx;have HP3:=Lib.hid p3;have HO2:=Lib.hid (HOV.out.below hb2);have HWN:=Lib.hid HO2.out.row;have HB2:=Lib.hid (HB.out.trans (hb2.mono hsz));have hs2:=hb2.size;clear ho2 hb2 p1 p2 p3 p4 HST hnx;go_wp2_with (at_builtin; go_must (refine Q06 _ rfl (.tmp 26) (.tmp 27) 22 rfl w1.heap.size 5 i0 _ 1 1 Tryz.underlying22 hi0 hz0 hz1 hz2 rfl (by omega) _ _ _ rfl HWN.out w2.heap.size A2 nx c2 (x.map vb) rfl HP3.out ?c1 ?c2 ?c3 ?c4 ?_))
   case c1=>intro u hu; obtain⟨y,_,rfl⟩:=List.mem_map.1 hu; rfl
   case c2=>unfold maxLen; omega
   case c3=>omega
   case c4=>omega
   intro v3 w3 hown3 hg3 hor3;have HB3:=Lib.hid (Q0k HB2.out (by omega) hg3 (fun b hb=>HO2.out.ge hb));have HO3:=Lib.hid (show OwnB w3 w1.heap.size v3 ((ls.take (i+1)).map strB).flatten by
    unfold OwnB;rw [HTK.out,List.length_append,List.map_append,<- HNX.out];exact hown3)
   clear hown3 hg3 hor3;go_wp2_with fail
   go_roundw
   case rel=>exact⟨i+1,by omega,by go_num,HO3.out,HB3.out⟩
   case measure=>simp [intOf]; omega
  ·obtain rfl:i=6:=by omega
   have hinI:¬ (6:Int)<6:=by omega
   go_wp2_with fail
   go_ret2
   refine⟨_,rfl,?_,HB1.out.trans (HB.out.mono hs1)⟩;have:=HOV.out;rw [List.take_of_length_le (by have:=HLN.out; omega)] at this;exact this.more hs1
end
section
open Go.RowKit Go.Maps
instance (l:List Int) (o n:Int):Decidable (Q3v l o n):=by unfold Q3v; infer_instance
end
section
open Go.RowKit Go.Maps
def rmS (S:RASl) (i:Nat) (A:Option Addr) (c:Nat):RASl:={ S with mA:=upd S.mA i A,mC:=upd S.mC i c }
def rlS (S:RASl) (j:Nat) (A:Option Addr) (c:Nat):RASl:={ S with lA:=upd S.lA j A,lC:=upd S.lC j c }
theorem Q4t {m:AM} {i:Nat} {s:Srv} {o z:Int} (hs:m.chunks[i]?=some s) (q:Nat):Q1o (mvQ m i s o z) q=if q=i then s.moves++[(o,z)] else Q1o m q:=by
 have hil:=(List.getElem?_eq_some_iff.1 hs).1;unfold Q1o mvQ;simp only [List.getElem?_set];by_cases e:q=i
 ·subst e;rw [if_pos rfl,if_pos hil,if_pos rfl];rfl
 ·rw [if_neg (fun h=>e h.symm),if_neg e]
theorem Qc5 {m:AM} {S:RASl} {i:Nat} {s:Srv} {o z:Int} {A:Option Addr} {c:Nat} (hi:i<2) (hs:m.chunks[i]?=some s):Q1G (mvQ m i s o z) (rmS S i A c)=(Q1G m S).setIfInBounds (1+i) (.slice A (s.moves.length+1) c):=by
 unfold Q1G;rw [Q2f];refine Q1n fun j hj=>?_
 unfold raF;by_cases e:j=1+i
 ·subst e;rw [if_pos rfl,if_neg (by omega),if_pos (by omega),show 1+i - 1=i by omega,Q4t hs,if_pos rfl];show Value.slice (upd S.mA i A i) _ (upd S.mC i c i)=_;rw [Q1i,Q1i]
  simp
 ·rw [if_neg e];by_cases e0:j=0
  ·subst e0;rw [if_pos rfl,if_pos rfl];show Value.slice S.fA (m.chunks.set i _).length S.fC=_;rw [List.length_set]
  ·rw [if_neg e0,if_neg e0];by_cases e3:j<3
   ·rw [if_pos e3,if_pos e3,Q4t hs,if_neg (by omega)];show Value.slice (upd S.mA i A (j - 1)) _ (upd S.mC i c (j - 1))=_;rw [Q1f _ _ _ (by omega),Q1f _ _ _ (by omega)]
   ·rw [if_neg e3,if_neg e3];rfl
theorem Q1a.moved {w w2:World} {g i:Nat} {N:Nat->Prop} {m:AM} {S:RASl} {s:Srv} {o z:Int} {A:Option Addr} {c:Nat} (h:Q1a w g N m S) (hp:Q5m m S g) (hi:i<2) (hs:m.chunks[i]?=some s) (hsz:w.heap.size<=w2.heap.size)
 (hk:∀ b,b<w.heap.size->b≠g->(Value.slice (S.mA i) s.moves.length (S.mC i)).ownBlock≠some b->w2.heap[b]?=w.heap[b]?)
 (hB:Blk w2 g 153 ((Q1G m S).setIfInBounds (1+i) (.slice A (s.moves.length+1) c)))
 (hrow:w2.ownsRow 0 168 2 (.slice A (s.moves.length+1) c) (s.moves.length+1) (Q0F (s.moves++[(o,z)])))
 (hor:∀ b,(Value.slice A (s.moves.length+1) c).ownBlock=some b->¬ N b/\((Value.slice (S.mA i) s.moves.length (S.mC i)).ownBlock=some b\/w.heap.size<=b))
 (hok:AOk (mvQ m i s o z)):Q1a w2 g N (mvQ m i s o z) (rmS S i A c)/\Q5m (mvQ m i s o z) (rmS S i A c) g:=by
 have hil:=(List.getElem?_eq_some_iff.1 hs).1;have hlen:(mvQ m i s o z).chunks.length=m.chunks.length:=by unfold mvQ; simp
 have hmi:=h.mv i hi;rw [Q1b hs] at hmi;have hown:∀ q,q<2->(Value.slice ((rmS S i A c).mA q) (Q1o (mvQ m i s o z) q).length ((rmS S i A c).mC q))=if q=i then .slice A (s.moves.length+1) c else .slice (S.mA q) (Q1o m q).length (S.mC q):=fun q hq=>by
  show Value.slice (upd S.mA i A q) _ (upd S.mC i c q)=_;rw [Q4t hs];by_cases e:q=i
  ·subst e;rw [if_pos rfl,if_pos rfl,Q1i,Q1i]
   simp
  ·rw [if_neg e,if_neg e,Q1f _ _ _ e,Q1f _ _ _ e]
 have hrw:∀ b,b<w.heap.size->RW (mvQ m i s o z) (rmS S i A c) g b->RW m S g b:=fun b hb hr=>by
  rcases hr with e | ⟨q,hq,e⟩
  ·exact .inl e
  ·rw [hown q hq] at e;by_cases eq:q=i
   ·rw [if_pos eq] at e;rcases(hor b e).2 with e2 | e2
    ·exact .inr ⟨i,hi,by rw [Q1b hs]; exact e2⟩
    ·omega
   ·rw [if_neg eq] at e;exact .inr ⟨q,hq,e⟩
 have hfar:∀ {A':Option Addr} {C:Nat} {xs:List Int},FarN w N A' C xs->(∀ a,0<xs.length->A'=some a->¬ RW m S g a.block)->FarN w2 N A' C xs:=fun {A' C xs} hf hn=>by
  refine⟨?_,hf.cap,hf.far⟩;refine⟨hf.rd.1,fun h0=>?_⟩;obtain⟨ad,e,hbl,hc⟩:=hf.rd.2 h0;have hnr:=hn ad h0 e;refine⟨ad,e,by omega,fun k v hv=>?_⟩;rw [<- hc k v hv];unfold World.cell?;have:(ad.add k).block=ad.block:=Q0e _ _;rw [this,hk ad.block hbl (fun e=>hnr (.inl e)) (fun e=>hnr (.inr ⟨i,hi,by rw [Q1b hs]; exact e⟩))]
 have hget:∀ {q:Nat} {x:Srv},(mvQ m i s o z).chunks[q]?=some x->∃ y,m.chunks[q]?=some y/\x.first=y.first/\x.f=y.f:=fun {q x} hx=>by
  rcases Q6L hx hil with⟨rfl,rfl⟩ | ⟨_,e⟩
  ·exact⟨s,hs,rfl,rfl⟩
  ·exact⟨x,e,rfl,rfl⟩
 have hmap:(mvQ m i s o z).chunks.map (·.first)=m.chunks.map (·.first):=by
  apply List.ext_getElem?
  intro q;rw [List.getElem?_map,List.getElem?_map];unfold mvQ;rw [List.getElem?_set];by_cases e:i=q
  ·subst e;rw [if_pos rfl,if_pos hil,hs]; rfl
  ·rw [if_neg e]
 have hrg:∀ b,(Value.slice S.fA m.chunks.length S.fC).ownBlock=some b->w2.heap[b]?=w.heap[b]?:=fun b hb=>by
  refine hk b (Q0a h.row hb).2 (fun e=>?_) (fun e=>?_)
  ·exact Q09 h.row h.cells (by decide) (by rw [hb,e])
  ·rcases h.row.2 with⟨e1,_⟩ | ⟨gf,cap,cur,e1,_,hh,_⟩
   ·rw [e1] at hb; cases hb
   ·rw [e1] at hb;have hb':gf=b:=by simpa [Value.ownBlock] using hb
    subst hb';have hBk:Blk w gf 77 cur:=hh;exact Q09 hmi hBk (by decide) e
 have hmk:∀ q,q<2->q≠i->∀ b,(Value.slice (S.mA q) (Q1o m q).length (S.mC q)).ownBlock=some b->w2.heap[b]?=w.heap[b]?/\∀ b',(Value.slice (S.mA i) s.moves.length (S.mC i)).ownBlock=some b'->b'≠b:=fun q hq hqi b hb=>by
  have hap:∀ b',(Value.slice (S.mA i) s.moves.length (S.mC i)).ownBlock=some b'->b'≠b:=fun b' hb' e=>by
   subst e;rw [<- Q1b hs] at hb';obtain⟨rfl,rfl⟩ | ⟨rfl,rfl⟩:(q=0/\i=1)\/(q=1/\i=0):=by omega
   ·exact h.apart _ hb hb'
   ·exact h.apart _ hb' hb
  refine⟨hk b (Q0a (h.mv q hq) hb).2 (fun e=>?_) (fun e=>hap b e rfl),hap⟩;exact Q09 (h.mv q hq) h.cells (by decide) (by rw [hb,e])
 refine⟨⟨?_,?_,fun x hx=>?_,fun q x hx=>?_,fun q hq=>?_,?_,fun q hq=>?_,hok,h.out,?_,fun q hq b hb=>?_⟩,⟨fun q x hx a h0 ha hr=>?_,fun q hq a h0 ha hr=>?_⟩⟩
 ·rw [Qc5 hi hs]; exact hB
 ·rw [hmap,hlen]; exact Q0f h.row hrg
 ·rcases Q3o hx with rfl | hx
  ·exact h.same s (List.mem_of_getElem? hs)
  ·exact h.same x hx
 ·obtain⟨y,hy,e1,_⟩:=hget hx;rw [e1];exact hfar (h.first q y hy) (fun a h0 ha=>hp.first q y hy a h0 ha)
 ·rw [hown q hq,Q4t hs];by_cases e:q=i
  ·rw [if_pos e,if_pos e];simpa using hrow
  ·rw [if_neg e,if_neg e];exact Q0f (h.mv q hq) fun b hb=>(hmk q hq e b hb).1
 ·intro b hb hb2;rw [hown 0 (by omega)] at hb;rw [hown 1 (by omega)] at hb2;obtain rfl | rfl:i=0\/i=1:=by omega
  ·rw [if_pos rfl] at hb;rw [if_neg (by omega)] at hb2;rcases(hor b hb).2 with e | e
   ·exact(hmk 1 (by omega) (by omega) b hb2).2 b e rfl
   ·have:=(Q0a (h.mv 1 (by omega)) hb2).2; omega
  ·rw [if_neg (by omega)] at hb;rw [if_pos rfl] at hb2;rcases(hor b hb2).2 with e | e
   ·exact(hmk 0 (by omega) (by omega) b hb).2 b e rfl
   ·have:=(Q0a (h.mv 0 (by omega)) hb).2; omega
 ·exact hfar (h.nodes q hq) (fun a h0 ha=>hp.nodes q hq a h0 ha)
 ·intro b hb;rw [hlen] at hb;exact h.rout b hb
 ·rw [hown q hq] at hb;by_cases e:q=i
  ·rw [if_pos e] at hb;exact(hor b hb).1
  ·rw [if_neg e] at hb;exact h.mout q hq b hb
 ·obtain⟨y,hy,e1,_⟩:=hget hx;rw [e1] at h0;have hlt:a.block<w.heap.size:=by
   obtain⟨ad,e,hbl,_⟩:=(h.first q y hy).rd.2 h0;have ha':S.nA q=some a:=ha;rw [ha'] at e;injection e with e
   rw [e]; exact hbl
  exact hp.first q y hy a h0 ha (hrw _ hlt hr)
 ·have hlt:a.block<w.heap.size:=by
   obtain⟨ad,e,hbl,_⟩:=(h.nodes q hq).rd.2 h0;have ha':S.lA q=some a:=ha;rw [ha'] at e;injection e with e
   rw [e]; exact hbl
  exact hp.nodes q hq a h0 ha (hrw _ hlt hr)
theorem Qbm {m:AM} {S:RASl} {j st:Nat} {a:Ans} {A:Option Addr} {c:Nat} (hj:j<4) (hl:m.last.length=4) (q:Nat) (hq:q<23):(Q1G (lsQ m j st a) (rlS S j A c))[q]?=if q=3+j then some (.int .i64 (st:Int)) else if 7+j*4<=q/\q<11+j*4 then(raN a A c)[q - (7+j*4)]? else(Q1G m S)[q]?:=by
 rw [Q3q _ _ _ hq,Q3q _ _ _ hq];unfold raF;by_cases e0:q=0
 ·rw [if_pos e0,if_neg (by omega),if_neg (by omega),if_pos e0]; rfl
 ·rw [if_neg e0,if_neg e0];by_cases e1:q<3
  ·rw [if_pos e1,if_neg (by omega),if_neg (by omega),if_pos e1]; rfl
  ·rw [if_neg e1,if_neg e1];by_cases e2:q<7
   ·rw [if_pos e2,if_pos e2];by_cases e3:q=3+j
    ·rw [if_pos e3,e3,show 3+j - 3=j by omega,Q3T hl hj]
    ·rw [if_neg e3,if_neg (by omega),Q2Z (by omega)]
   ·rw [if_neg e2,if_neg e2,if_neg (by omega)];by_cases e3:7+j*4<=q/\q<11+j*4
    ·rw [if_pos e3,show (q - 7) / 4=j by omega,show (q - 7) % 4=q - (7+j*4) by omega,Q3T hl hj];show some (((raN a (upd S.lA j A j) (upd S.lC j c j))[q - (7+j*4)]?).getD undef)=_;rw [Q1i,Q1i];have hs:(raN a A c).size=4:=rfl;rw [Array.getElem?_eq_getElem (by omega)];rfl
    ·rw [if_neg e3,Q2Z (by omega)];show some (((raN _ (upd S.lA j A _) (upd S.lC j c _))[_]?).getD undef)=_;rw [Q1f _ _ _ (by omega),Q1f _ _ _ (by omega)]
theorem Q1a.told {w w2:World} {g j st:Nat} {N:Nat->Prop} {m:AM} {S:RASl} {a:Ans} {A:Option Addr} {c:Nat} {C:Array Value} (h:Q1a w g N m S) (hp:Q5m m S g) (hj:j<4) (hsz:w.heap.size<=w2.heap.size)
 (hk:∀ b,b<w.heap.size->b≠g->w2.heap[b]?=w.heap[b]?)
 (hB:Blk w2 g 153 C) (hC:C.size=23) (hCq:∀ q,q<23->C[q]?=if q=3+j then some (.int .i64 (st:Int)) else if 7+j*4<=q/\q<11+j*4 then(raN a A c)[q - (7+j*4)]? else(Q1G m S)[q]?)
 (hf:FarN w2 N A c a.nodes) (hfw:∀ ad,0<a.nodes.length->A=some ad->¬ RW m S g ad.block)
 (hok:AOk (lsQ m j st a)):Q1a w2 g N (lsQ m j st a) (rlS S j A c)/\Q5m (lsQ m j st a) (rlS S j A c) g:=by
 have hfar:∀ {A':Option Addr} {C:Nat} {xs:List Int},FarN w N A' C xs->(∀ a,0<xs.length->A'=some a->¬ RW m S g a.block)->FarN w2 N A' C xs:=fun {A' C xs} hf hn=>by
  refine⟨?_,hf.cap,hf.far⟩;refine⟨hf.rd.1,fun h0=>?_⟩;obtain⟨ad,e,hbl,hc⟩:=hf.rd.2 h0;have hnr:=hn ad h0 e;refine⟨ad,e,by omega,fun k v hv=>?_⟩;rw [<- hc k v hv];unfold World.cell?;have:(ad.add k).block=ad.block:=Q0e _ _;rw [this,hk ad.block hbl (fun e=>hnr (.inl e))]
 have hce:Q1G (lsQ m j st a) (rlS S j A c)=C:=by
  apply Array.ext_getElem?
  intro q;rcases Nat.lt_or_ge q 23 with hq | hq
  ·rw [Qbm hj h.ok.last q hq,hCq q hq]
  ·rw [Array.getElem?_eq_none (by rw [Q2y]; exact hq),Array.getElem?_eq_none (by omega)]
 refine⟨⟨by rw [hce]; exact hB,Q0f h.row fun b hb=>hk b (Q0a h.row hb).2 (fun e=>Q09 h.row h.cells (by decide) (e▸hb)),h.same,fun q x hx=>hfar (h.first q x hx) (hp.first q x hx),fun q hq=>Q0f (h.mv q hq) fun b hb=>hk b (Q0a (h.mv q hq) hb).2 (fun e=>Q09 (h.mv q hq) h.cells (by decide) (e▸hb)),h.apart,fun q hq=>?_,hok,h.out,h.rout,h.mout⟩,⟨hp.first,fun q hq ad h0 ha=>?_⟩⟩
 ·show FarN w2 N (upd S.lA j A q) (upd S.lC j c q) _;by_cases e:q=j
  ·subst e;rw [Q1i,Q1i,Q3T h.ok.last hq];exact hf
  ·rw [Q1f _ _ _ e,Q1f _ _ _ e,Q2Z e];exact hfar (h.nodes q hq) (hp.nodes q hq)
 ·have ha':upd S.lA j A q=some ad:=ha;by_cases e:q=j
  ·subst e;rw [Q1i] at ha';rw [Q3T h.ok.last hq] at h0;exact hfw ad h0 ha'
  ·rw [Q1f _ _ _ e] at ha';rw [Q2Z e] at h0;exact hp.nodes q hq ad h0 ha'
end
section
open Go.RowKit Go.Maps
attribute [local irreducible] wpList Q0i
theorem Q1J.shape {w:World} {B f:Nat} {v:Value} {ls:List (List Int)} {nA:Nat->Option Addr} {nC:Nat->Nat} (h:Q1J w B v f ls nA nC) (h0:0<ls.length) (hl:∀ l,l∈ls->l.length<=1000):∃ g cap,v=.slice (some ⟨g,0,none⟩) ls.length cap/\ls.length<=cap/\∀ k,k<=ls.length->Q2p w (some ⟨g,0,none⟩) k (Q4J f (ls.take k)):=by
 obtain⟨A,c,hv,hc⟩:=h.crewsAt hl;rcases h.row.2 with⟨e,h1⟩ | ⟨gl,cap,cur,e,h2,h3,h4,h5,h6,h7⟩
 ·omega
 ·rw [hv] at e;injection e with e1 e2 e3
  subst e1 e3;exact⟨gl,c,hv,h4,hc⟩
theorem Q1J.elem {w:World} {B f g:Nat} {n c:Nat} {ls:List (List Int)} {nA:Nat->Option Addr} {nC:Nat->Nat} {i:Nat} {l:List Int} (h:Q1J w B (.slice (some ⟨g,0,none⟩) n c) f ls nA nC) (hi:ls[i]?=some l):∃ Ai ci C cur,C=crC f Ai l.length ci/\C.size=2/\Blk w g 77 cur/\(∀ j,j<2->cur[i*2+j]?=C[j]?)/\w.cell? ⟨g,i*2+1,none⟩=some (.slice Ai l.length ci)/\Q0d w w.heap.size 1 Ai l.length (l.map vn):=by
 have hil:i<ls.length:=(List.getElem?_eq_some_iff.1 hi).1;rcases h.row.2 with⟨e,h1⟩ | ⟨gl,cap,cur,e,h2,h3,h4,h5,h6,h7⟩
 ·omega
 ·injection e with e1 e2 e3
  injection e1 with e1
  injection e1 with e1 _ _
  subst e1;have hB:Blk w g 77 cur:=h3;have hg:=Q2R f nA nC ls 0 i l hi;rw [Nat.zero_add] at hg;have ht:∀ q,q<ls.length*2->cur[q]?=(Q1C f nA nC 0 ls)[q]?:=fun q hq'=>by
   rw [<- h7,List.getElem?_take,if_pos hq',Array.getElem?_toList]
  refine⟨nA i,nC i,_,cur,rfl,rfl,hB,fun j hj=>?_,?_,?_⟩
  ·obtain rfl | rfl:j=0\/j=1:=by omega
   ·rw [Nat.add_zero,ht _ (by omega)]; exact hg.1
   ·rw [ht _ (by omega)]; exact hg.2
  ·rw [hB.cell,ht _ (by omega)]; exact hg.2
  ·exact(Q1K (h.nodes i l hi)).2
end
section
open Go.RowKit Go.Maps
theorem Q94 {P:Program} {ops:Array Oper} {o:Oper} {a:Act} {w:World} {R:World->World->Prop} {J:World->Prop} {p:World->Value->Prop} (hgd:o.guard=none) (s x:Operand) (t:TypeId)
 (ho:o.op=.call { callee:=.builtin .append,args:=#[s,x],argTypes:=#[t,t] })
 (base:Nat) (e:TypeId) (i:TypeInfo) (z:Value) (size bytes:Nat) (ht:P.underlying t=some (.slice e)) (hi:P.info? e=some i) (hz:i.zero=some z)
 (hsize:i.size=size) (hby:i.bytes=bytes) (hzs:z.cells.size=size) (hsz:0<size)
 (v:Value) (n:Nat) (xs:List Value) (hs:a.eval s=v) (hown:w.ownsRow base e size v n xs)
 (B:Nat) (A:Option Addr) (m c:Nat) (news:List Value) (hx:a.eval x=.slice A m c) (hr:Q0d w B size A m news) (h1:∀ u∈news,u.oneCell'=true)
 (h63:n+m<=maxLen) (hbytes:(n+m)*bytes<=140737488355328) (hbase:base<=w.heap.size)
 (h:∀ v' w',w'.ownsRow base e size v' (n+m) (xs++news)->w.grownBy w' v.ownBlock->(v'.ownBlock=v.ownBlock\/v'.ownBlock=some w.heap.size)->R w w'/\J w'/\p w' v'):Q3Z P ops o a w R J p:=fun K Q' hK=>by
 have hw:Region.wanted o (yielded ops a.tmps)=true:=by simp [Region.wanted,hgd]
 rw [if_pos hw];exact Q2K w s x t ho base e i z size bytes ht hi hz hsize hby hzs hsz v n xs hs hown B A m c news hx hr h1 h63 hbytes hbase fun v' w' h2 h3 h4=>by
  obtain⟨q1,q2,q3⟩:=h v' w' h2 h3 h4;exact hK v' w' q1 q2 q3
structure MvUp (w6:World) (old:Value) (mn:Nat) (ms:List (Int×Int)) (o z:Int) (A2:Option Addr) (c2:Nat) (W:World):Prop where
 only:Only (fun b=>old.ownBlock=some b) w6 W
 row:W.ownsRow 0 168 2 (.slice A2 (mn+1) c2) (mn+1) (Q0F (ms++[(o,z)]))
 or_:(Value.slice A2 (mn+1) c2).ownBlock=old.ownBlock\/∃ b,(Value.slice A2 (mn+1) c2).ownBlock=some b/\w6.heap.size<=b
theorem MvUp.below {w6 W W':World} {old:Value} {mn:Nat} {ms:List (Int×Int)} {o z:Int} {A2:Option Addr} {c2:Nat} (h:MvUp w6 old mn ms o z A2 c2 W) (hb:Below W.heap.size W W'):MvUp w6 old mn ms o z A2 c2 W' :=
 ⟨h.only.trans (Only.of_below hb),Q0f h.row fun b hb'=>hb.block b (Q0a h.row hb').2,h.or_⟩
theorem rmv_info:(Tryz.prog.info? 168).map (fun i=>(i.zero,i.size,i.bytes))=some (some (.agg #[.int .i64 0,.int .i64 0]),2,16):=by kernel_rfl
theorem RAWr.crewsAt_ {w:World} {B g:Nat} {v:Value} {m:AM} {s:Srv} {nA:Nat->Option Addr} {nC:Nat->Nat} (hok:SOk s) (hown:Q1J w B v s.f (Q0U s.first s.moves) nA nC):∃ gl cl Ai cai C cur,v=.slice (some ⟨gl,0,none⟩) (s.moves.length+1) cl/\C=crC s.f Ai s.now.length cai/\C.size=2/\Blk w gl 77 cur/\(∀ j,j<2->cur[s.moves.length*2+j]?=C[j]?)/\Q0d w w.heap.size 1 Ai s.now.length (s.now.map vn):=by
 have hshort:∀ x,x∈Q0U s.first s.moves->x.length<=1000:=fun x hx=>by
  obtain⟨q,hq,rfl⟩:=List.getElem_of_mem hx;rw [Q1r] at hq;have:=Q4j s.first s.moves q (by omega);rw [List.getElem?_eq_getElem (by rw [Q1r]; omega)] at this;rw [Option.some.inj this];have:=((hok.mv.take q).now hok.crew).short.2;omega
 obtain⟨gl,cl,hv,hccl,_⟩:=hown.shape (by rw [Q1r]; omega) hshort;subst hv;have hat:(Q0U s.first s.moves)[s.moves.length]?=some s.now:=by
  have:=Q4j s.first s.moves s.moves.length (Nat.le_refl _);rw [List.take_length] at this;exact this
 obtain⟨Ai,cai,C,cur,hC,hCs,hBL,hCV,_,hrdn⟩:=hown.elem hat;exact⟨gl,cl,Ai,cai,C,cur,by rw [Q1r],hC,hCs,hBL,hCV,hrdn⟩
end
end Go.Proofs.YtcpngeiahgoacaaGreat
