/- Parts of the proof, in one text: RaE, RaF, RaH, AtHf. -/
import Derived.Test.YtcpngeiahgoacaaGreatD26
import Derived.Test.YtcpngeiahgoacaaGreatD21
import Derived.Test.YtcpngeiahgoacaaGreatD23
import Derived.Test.YtcpngeiahgoacaaGreatD18
import Derived.Test.YtcpngeiahgoacaaGreatD22
import Derived.Test.YtcpngeiahgoacaaGreatD14
import Derived.Test.YtcpngeiahgoacaaGreatD11
import Derived.Test.YtcpngeiahgoacaaGreatD3
import Derived.Test.YtcpngeiahgoacaaGreatD10
namespace Go.Proofs.YtcpngeiahgoacaaGreat
set_option linter.unusedVariables false
set_option linter.unusedSimpArgs false
set_option maxRecDepth 100000
set_option maxHeartbeats 16000000
section
open Go.RowKit Go.Maps
attribute [local irreducible] wpList Q0i
theorem QbC {w:World} {g:Nat} {x y z u:Int} (h:Blk w g 3 #[.int .i64 x,.int .i64 y,.int .i64 z,.int .i64 u]):Q0d w w.heap.size 1 (some ⟨g,0,none⟩) 4 ([x,y,z,u].map vn) :=
 ⟨rfl,fun _=>⟨_,rfl,h.lt,fun j t ht=>by
  have hj:j<4:=by
   have:=(List.getElem?_eq_some_iff.1 ht).1;simpa using this
  rw [Q13,Nat.zero_add,h.cell j];obtain rfl | rfl | rfl | rfl:j=0\/j=1\/j=2\/j=3:=by omega
  all_goals exact ht⟩⟩
theorem Q44 (m:AM) (i:Nat) (hi:i<6):(Q0g m).take (i+1)=(Q0g m).take i++[Q1w m i]:=by
 have hl:i<(Q0g m).length:=by rw [Q0B]; exact hi
 rw [List.take_succ_eq_append_getElem hl];simp [Q0g]
def Q9I (w:World) (m:AM) (e:Ending) (w':World):Prop:=∃ v vs,e=.returned v/\OwnL w' w.heap.size v (Q0g m) vs/\Below w.heap.size w w'
theorem Q4b (w:World) (g:Nat) (N:Nat->Prop) (m:AM) (S:RASl) (h:Q1a w g N m S) :
 Calls Tryz.prog 93 #[.pointer (some ⟨g,0,none⟩)] w (Q9I w m):=by
 have HD:=Lib.hid (fun(W:World) (hb:Below w.heap.size w W)=>h.below hb);have HCH0:=Lib.hid (Q6n w g 0 N m S h (by omega));obtain⟨i0,hi0,hz0,hz1,hz2⟩:=info_parts Q1O;obtain⟨j0,hj0,hy0,hy1,hy2⟩:=info_parts QaS;have hlen:=fun i=>Q3l h.ok i
 have HLEN:=Lib.hid hlen;unfold Q9I;clear h hlen;go_enter Tryz.func93,Tryz.ntmps93
 go_wp2_with fail
 refine HCH0.out.mono ?_;rintro _ w1 ⟨v0,rfl,ho0,hb1⟩;have HB1:=Lib.hid hb1;have hs1:=hb1.size;have HCH1:=Lib.hid (Q6n w1 g 1 N m S (HD.out w1 hb1) (by omega));have HO0:=Lib.hid ho0;obtain⟨A0,c0,rfl,_⟩:=Q0p ho0;obtain⟨n0,hn0⟩:∃ n,n=(Q1w m 0).length:=⟨_,rfl⟩;rw [<- hn0] at HO0 ⊢;clear hb1 ho0 HCH0 hn0;go_wp2_with fail
 refine HCH1.out.mono ?_;rintro _ w2 ⟨v1,rfl,ho1,hb2⟩;obtain⟨A1,c1,rfl,_⟩:=Q0p ho1;obtain⟨n1,hn1⟩:∃ n,n=(Q1w m 1).length:=⟨_,rfl⟩;rw [<- hn1] at ho1 ⊢;have HO02:=Lib.hid (HO0.out.below hb2);have HO1:=Lib.hid (ho1.more hs1);have HB2:=Lib.hid (HB1.out.trans (hb2.mono hs1));have hs2:=HB2.out.size;have hX:=Q07 w2 (.cells #[.slice A0 n0 c0,.slice A1 n1 c1] 22);have hk9:Blk (w2.alloc (.cells #[.slice A0 n0 c0,.slice A1 n1 c1] 22)) w2.heap.size 22 #[.slice A0 n0 c0,.slice A1 n1 c1]:=Blk.newAt rfl;have HST:=Lib.hid (show OwnL (w2.alloc (.cells #[.slice A0 n0 c0,.slice A1 n1 c1] 22)) w.heap.size (.slice (some ⟨w2.heap.size,0,none⟩) 2 2) ((Q0g m).take 2) [.slice A0 n0 c0,.slice A1 n1 c1] from by
  have e:(Q0g m).take 2=[Q1w m 0,Q1w m 1]:=by
   rw [Q44 m 1 (by omega),Q44 m 0 (by omega)]; simp
  rw [e];refine⟨⟨rfl,.inr ⟨w2.heap.size,2,_,rfl,hs2,hk9,Nat.le_refl _,by unfold maxLen; omega,rfl,rfl⟩⟩,fun k x hx=>?_⟩;match k,hx with
  | 0,hx=>rw [<- Option.some.inj hx]; exact⟨_,rfl,HO02.out.below hX⟩
  | 1,hx=>rw [<- Option.some.inj hx]; exact⟨_,rfl,HO1.out.below hX⟩)
 have HX:=Lib.hid (HB2.out.trans (hX.mono hs2));clear ho1 hb2 hX hk9 HO0 HCH1 hn1;go_wp2_with fail
 generalize World.alloc w2 _=w3 at HST HX ⊢;go_loopw [3,4] (fun ov iv wr=>∃ (i:Nat) (vs:List Value),i<=4/\iv=.int .i64 i/\OwnL wr w.heap.size ov ((Q0g m).take (2+i)) vs/\Below w.heap.size w wr) (fun _ iv _=>4 - (intOf iv).toNat)
 case atStart=>exact⟨0,_,by omega,rfl,HST.out,HX.out⟩
 clear HST HX HB1 HB2;case round =>
  obtain⟨i,vs,hi,rfl,hov,hlow⟩:=hrel;have HOV:=Lib.hid hov;have HL:=Lib.hid hlow;have hls:=hlow.size;by_cases hin:i<4
  ·have hinI:(i:Int)<4:=by omega
   have hd:=HD.out wr hlow;have hok:=hd.ok;have hlst:=hok.lst i;have hfar:=hd.nodes i hin;have hst:=hd.cStamp i hin;have hblk:=hd.cells;have hgl:=hblk.lt;have hcs:=fun j hj=>Q6s m S i j hin hj
   have hlq:Q1w m (2+i)=Q0M [((Q0u m i).1:Int),((Q0u m i).2.err:Int),((Q0u m i).2.epoch:Int),((Q0u m i).2.nodes.length:Int)]++Q0M (Q0u m i).2.nodes:=by
    unfold Q1w Q5l;rw [if_neg (by omega),show 2+i - 2=i by omega];unfold Q7l;rw [Q56]
   have hnb:=hlst.2.1.bound;have hst1:=hlst.1;have her:=hlst.2.1.err;have hep:=hlst.2.1.epoch;obtain⟨st,hste⟩:∃ k,k=(Q0u m i).1:=⟨_,rfl⟩;obtain⟨er,here⟩:∃ k,k=(Q0u m i).2.err:=⟨_,rfl⟩;obtain⟨ep,hepe⟩:∃ k,k=(Q0u m i).2.epoch:=⟨_,rfl⟩;obtain⟨ns,hns⟩:∃ k,k=(Q0u m i).2.nodes:=⟨_,rfl⟩;obtain⟨ln,hln⟩:∃ k,k=ns.length:=⟨_,rfl⟩;obtain⟨lA,hlA⟩:∃ k,k=S.lA i:=⟨_,rfl⟩;obtain⟨lC,hlC⟩:∃ k,k=S.lC i:=⟨_,rfl⟩;obtain⟨D,hDe⟩:∃ D,D=raN (Q0u m i).2 (S.lA i) (S.lC i):=⟨_,rfl⟩;rw [<- hDe] at hcs;rw [<- hste] at hst hlq hst1;rw [<- here] at hlq her;rw [<- hepe] at hlq hep;rw [<- hns,<- hln] at hlq hnb;rw [<- hns,<- hlA,<- hlC] at hfar;have hrd:=hfar.rd;rw [<- hln] at hrd;have hd0:D[0]?=some (.int .i64 (er:Int)):=by rw [hDe,here]; rfl
   have hd2:D[2]?=some (.int .i64 (ep:Int)):=by rw [hDe,hepe]; rfl
   have hd3:D[3]?=some (.slice lA ln lC):=by rw [hDe,hlA,hlC,hln,hns]; rfl
   have hds:D.size=4:=by rw [hDe]; rfl
   have hdo:D.all (·.oneCell')=true:=by rw [hDe]; simp [raN,anC,Value.oneCell']
   have HD0:=Lib.hid hd0;have HD2:=Lib.hid hd2;have HD3:=Lib.hid hd3;have HBL:=Lib.hid hblk;have HCS:=Lib.hid hcs;have HLQ:=Lib.hid hlq;have HLN:=Lib.hid hln;have HRD:=Lib.hid hrd;have hln7:ln<=7:=hnb.1;have HNUM:=Lib.hid (show ∀ z,z∈[(st:Int),(er:Int),(ep:Int),(ln:Int)]->NumI z from fun z hz=>by
    unfold NumI;unfold maxN at hst1;rcases List.mem_cons.1 hz with rfl | hz
    ·omega
    ·rcases List.mem_cons.1 hz with rfl | hz
     ·omega
     ·rcases List.mem_cons.1 hz with rfl | hz
      ·omega
      ·rw [List.mem_singleton.1 hz]; omega)
   have HNN:=Lib.hid (show ∀ z,z∈ns->NumI z from fun z hz=>by have:=hnb.2 z hz; unfold NumI; omega);have hst':=hst;have hgw:g<wr.heap.size:=hgl;obtain⟨Ao,co,hovv,_⟩:=hov.slice;have htl:((Q0g m).take (2+i)).length=2+i:=by rw [List.length_take,Q0B]; omega
   rw [htl] at hovv;have HTL:=Lib.hid htl;have hvl:vs.length=2+i:=by have:=hov.row.1; omega
   have HVL:=Lib.hid hvl;subst hovv;have HST:=Lib.hid hst;clear hov hlow hd hok hlst hfar hblk hcs hlq hnb hst1 her hep hste here hepe hns hln hlA hlC hDe hrd hd0 hd2 hd3 htl hvl hst' hst hgl;go_upto_region 6 with(first
    | (refine Q03 (o:=⟨some 21,_,_,_,_,_⟩) rfl 47 (.tmp 20) rfl g (7+i*4) 4 rfl 153 _ D _ HBL.out Tryz.underlying47 rfl rfl hds HCS.out ?_)
    | (refine Q01 (o:=⟨none,_,_,_,_,_⟩) rfl 47 (.tmp 5) (.tmp 21) rfl wr.heap.size 0 D rfl rfl 47 (anC 0 none 0 0 0 none 0 0) (Blk.newAt rfl) (by rw [hds]; kernel_rfl) (by rw [hds]; simp [anC]) hdo ?_; intro w5 hT5 hD5))
   rw [Q08 _ _ (by rw [hds]; rfl)] at hD5;have hb5:Below wr.heap.size wr w5:=hT5.below ((Below.refl _ _).alloc (Nat.le_refl _) _) (Nat.le_refl _);obtain⟨q5,hq5⟩:∃ x,x=wr.heap.size:=⟨_,rfl⟩;rw [<- hq5] at hD5 ⊢;have hs5:=hb5.size;have HB5:=Lib.hid hb5;have C0:=Lib.hid (fun(W:World) (hb:Below w5.heap.size w5 W)=>(hb.cell (p:=⟨q5,0,none⟩) hD5.lt).trans ((hD5.cell 0).trans HD0.out):∀ W,Below w5.heap.size w5 W->W.cell? ⟨q5,0,none⟩=some (.int .i64 (er:Int)));have C2:=Lib.hid (fun(W:World) (hb:Below w5.heap.size w5 W)=>(hb.cell (p:=⟨q5,2,none⟩) hD5.lt).trans ((hD5.cell 2).trans HD2.out):∀ W,Below w5.heap.size w5 W->W.cell? ⟨q5,2,none⟩=some (.int .i64 (ep:Int)));have C3:=Lib.hid (fun(W:World) (hb:Below w5.heap.size w5 W)=>(hb.cell (p:=⟨q5,3,none⟩) hD5.lt).trans ((hD5.cell 3).trans HD3.out):∀ W,Below w5.heap.size w5 W->W.cell? ⟨q5,3,none⟩=some (.slice lA ln lC));have CS:=Lib.hid (fun(W:World) (hb:Below w5.heap.size w5 W)=>((hb5.trans (hb.mono hs5)).cell (p:=⟨g,3+i,none⟩) hgw).trans HST.out);clear hT5 hD5 hb5 hq5 HD0 HD2 HD3;refine Q0l 15 46 (fun jx W v=>match jx with | 0=>v=.pointer (some ⟨g,0,none⟩) | 1=>v=.int .i64 (i:Int) | 2=>v=.pointer (some ⟨g,0,none⟩) | 3=>v=.pointer (some ⟨g,3,none⟩) | 4=>v=.pointer (some ⟨g,3+i,none⟩) | 5=>v=.int .i64 (st:Int) | 6=>v=.pointer (some ⟨q5,0,none⟩) | 7=>v=.int .i64 (er:Int) | 8=>v=.pointer (some ⟨q5,2,none⟩) | 9=>v=.int .i64 (ep:Int) | 10=>v=.pointer (some ⟨q5,3,none⟩) | 11=>v=.slice lA ln lC | 12=>v=.int .i64 (ln:Int) | 13=>∃ g9,v=.slice (some ⟨g9,0,none⟩) 4 4/\Blk W g9 3 #[.int .i64 (st:Int),.int .i64 (er:Int),.int .i64 (ep:Int),.int .i64 (ln:Int)] | 14=>OwnB W wr.heap.size v (Q0M [(st:Int),(er:Int),(ep:Int),(ln:Int)]) | _=>True) [22,23,24,25,26,27,28,29,30,31,32,33,34,35,36] (by kernel_rfl) (by kernel_rfl) (by kernel_rfl) (by first | rfl | simp) (by kernel_rfl) (fun jx=>?last) ?heads ?_
   case last =>
    match jx with
    | 0 | 1 | 2 | 3 | 4 | 5 | 6 | 7 | 8 | 9 | 10 | 11 | 12 | jx+15=>exact Q16.pure _
    | 13=>exact fun W W' v ⟨g9,h1,h2⟩ hb=>⟨g9,h1,h2.below' hb⟩
    | 14=>exact fun W W' v h hb=>h.below hb
   case heads =>
    simp only [List.take_succ_cons,List.take_zero];refine⟨?_,?_,?_,?_,?_,?_,?_,?_,?_,?_,?_,?_,?_,?_,?_,trivial⟩;all_goals intro a W hb hkp hd
    ·have e0:a.tmps[0]?.getD undef=.pointer (some ⟨g,0,none⟩):=hkp.get (by kernel_rfl) rfl;exact Q00 rfl _ (by go_simp) rfl
    ·have e0:a.tmps[4]?.getD undef=.int .i64 (i:Int):=hkp.get (by kernel_rfl) rfl;exact Q00 rfl _ (by go_simp) rfl
    ·have e0:(_:Value)=.pointer (some ⟨g,0,none⟩):=(hd 0 (by kernel_rfl)).get 22 rfl rfl;exact Q00 rfl _ (by go_simp) rfl
    ·have e0:(_:Value)=.pointer (some ⟨g,0,none⟩):=(hd 2 (by kernel_rfl)).get 24 rfl rfl;exact Q00 rfl _ (by go_simp) rfl
    ·have e0:(_:Value)=.pointer (some ⟨g,3,none⟩):=(hd 3 (by kernel_rfl)).get 25 rfl rfl;have e1:(_:Value)=.int .i64 (i:Int):=(hd 1 (by kernel_rfl)).get 23 rfl rfl;have hlt:=hinI;exact Q00 rfl _ (by go_simp) rfl
    ·have e0:(_:Value)=.pointer (some ⟨g,3+i,none⟩):=(hd 4 (by kernel_rfl)).get 26 rfl rfl;have cc:=CS.out W hb;exact Q00 rfl _ (by go_simp) rfl
    ·have e0:a.tmps[5]?.getD undef=.pointer (some ⟨q5,0,none⟩):=hkp.get (by kernel_rfl) rfl;exact Q00 rfl _ (by go_simp) rfl
    ·have e0:(_:Value)=.pointer (some ⟨q5,0,none⟩):=(hd 6 (by kernel_rfl)).get 28 rfl rfl;have cc:=C0.out W hb;exact Q00 rfl _ (by go_simp) rfl
    ·have e0:a.tmps[5]?.getD undef=.pointer (some ⟨q5,0,none⟩):=hkp.get (by kernel_rfl) rfl;exact Q00 rfl _ (by go_simp) rfl
    ·have e0:(_:Value)=.pointer (some ⟨q5,2,none⟩):=(hd 8 (by kernel_rfl)).get 30 rfl rfl;have cc:=C2.out W hb;exact Q00 rfl _ (by go_simp) rfl
    ·have e0:a.tmps[5]?.getD undef=.pointer (some ⟨q5,0,none⟩):=hkp.get (by kernel_rfl) rfl;exact Q00 rfl _ (by go_simp) rfl
    ·have e0:(_:Value)=.pointer (some ⟨q5,3,none⟩):=(hd 10 (by kernel_rfl)).get 32 rfl rfl;have cc:=C3.out W hb;exact Q00 rfl _ (by go_simp) rfl
    ·have e0:(_:Value)=.slice lA ln lC:=(hd 11 (by kernel_rfl)).get 33 rfl rfl;exact Q00 rfl _ (by go_simp) rfl
    ·have e0:(_:Value)=.int .i64 (st:Int):=(hd 5 (by kernel_rfl)).get 27 rfl rfl;have e1:(_:Value)=.int .i64 (er:Int):=(hd 7 (by kernel_rfl)).get 29 rfl rfl;have e2:(_:Value)=.int .i64 (ep:Int):=(hd 9 (by kernel_rfl)).get 31 rfl rfl;have e3:(_:Value)=.int .i64 (ln:Int):=(hd 12 (by kernel_rfl)).get 34 rfl rfl;exact Q21 rfl (.slice (some ⟨W.heap.size,0,none⟩) 4 4) (W.alloc (.cells #[.int .i64 (st:Int),.int .i64 (er:Int),.int .i64 (ep:Int),.int .i64 (ln:Int)] 3)) (by go_simp) (Q07 _ _) ⟨W.heap.size,rfl,Blk.new W _ _⟩
    ·obtain⟨g9,e0,h9⟩:=(hd 13 (by kernel_rfl)).get 35 rfl rfl;refine Q0w rfl 139 #[.slice (some ⟨g9,0,none⟩) 4 4] (by go_simp) ((Q3m (some ⟨g9,0,none⟩) 4 4 [(st:Int),(er:Int),(ep:Int),(ln:Int)] W W.heap.size (QbC h9) (Nat.le_refl _) (by omega) HNUM.out).mono ?_);rintro e w' ⟨v,rfl,ho,hb'⟩;exact⟨v,rfl,hb',ho.more (by have:=hb.size; omega)⟩
   intro ff w6 hb6 hd;have h36:OwnB w6 wr.heap.size (ff 36) (Q0M [(st:Int),(er:Int),(ep:Int),(ln:Int)]):=hd 14 (by omega) _ 36 rfl rfl;simp only [Q0H,List.drop_succ_cons,List.drop_zero];clear hd;have c36:=C3.out w6 hb6;have HB6:=Lib.hid (HB5.out.trans (hb6.mono hs5));have HO6:=Lib.hid h36;have hs6:=HB6.out.size;have HNM:=Lib.hid (Q3m lA ln lC ns w6 wr.heap.size (HRD.out.below HB6.out) hs6 (by omega) HNN.out);have hl0:=Q27 _ HNUM.out;have hl1:=Q27 _ HNN.out;rw [<- HLN.out] at hl1;simp only [List.length_cons,List.length_nil] at hl0;clear h36 hb6;try simp only [Act.put,sA1,sA2,sA3]
   generalize ff 36=bv at HO6 ⊢;go_wp2_with fail
   refine HNM.out.mono ?_;rintro _ w7 ⟨v3,rfl,ho3,hb7⟩;obtain⟨A2,c2,rfl,p1,p2,p3,p4⟩:=Q0p ho3;obtain⟨nx,hnx⟩:∃ k,k=(Q0M ns).length:=⟨_,rfl⟩;rw [<- hnx] at p3 hl1 ⊢;have HNX:=Lib.hid hnx;have HP3:=Lib.hid p3;have HO7:=Lib.hid (HO6.out.below hb7);have HB7:=Lib.hid (HB6.out.trans (hb7.mono hs6));have hs7:=HB7.out.size;have HOVR:=Lib.hid HOV.out;clear ho3 hb7 p1 p2 p3 p4 HNM hnx c36;go_wp2_with (at_builtin; go_must (refine Q06 _ rfl (.tmp 38) (.tmp 41) 22 rfl wr.heap.size 5 i0 _ 1 1 Tryz.underlying22 hi0 hz0 hz1 hz2 rfl (by omega) _ _ _ rfl HO7.out.row w7.heap.size A2 nx c2 ((Q0M ns).map vb) rfl HP3.out ?c1 ?c2 ?c3 ?c4 ?_))
   case c1=>intro u hu; obtain⟨y,_,rfl⟩:=List.mem_map.1 hu; rfl
   case c2=>unfold maxLen; omega
   case c3=>omega
   case c4=>omega
   intro v8 w8 hown8 hg8 hor8;have hb8:Below wr.heap.size wr w8:=Q0k HB7.out (by omega) hg8 (fun b hb=>HO7.out.ge hb);have ho8:OwnB w8 wr.heap.size v8 (Q1w m (2+i)):=by
    unfold OwnB;rw [HLQ.out,List.length_append,List.map_append,<- HNX.out];exact hown8
   have hs8:=hb8.size;have hl120:=HLEN.out (2+i);obtain⟨A8,c8,hv8,_⟩:=Q0p ho8;obtain⟨n8,hn8⟩:∃ k,k=(Q1w m (2+i)).length:=⟨_,rfl⟩;rw [<- hn8] at hv8;have HO8:=Lib.hid (ho8.more (B':=w.heap.size) hls);have HB8:=Lib.hid hb8;have HU:=Lib.hid hv8;have HW:=Lib.hid (show (w8.alloc (.cells #[v8] 22)).ownsRow w.heap.size 22 1 (.slice Ao (2+i) co) (2+i) vs from by
    have:=(Q0f HOVR.out.row (w':=w8) fun b hb''=>hb8.block b (Q0a HOVR.out.row hb'').2).alloc (.cells #[v8] 22);rw [HTL.out] at this;exact this)
   have HR8:=Lib.hid (Q1m w8 #[v8] 22);rw [hv8] at HW HR8 ⊢;clear hown8 hg8 hor8 hb8 ho8 hv8 HB7 HO7 HO6 hn8;go_wp2_with (at_builtin; go_must (refine Q06 _ rfl (.tmp 37) (.tmp 43) 23 rfl w.heap.size 22 j0 _ 1 24 Tryz.underlying23 hj0 hy0 hy1 hy2 rfl (by omega) _ (2+i) vs rfl HW.out (w8.heap.size+1) (some ⟨w8.heap.size,0,none⟩) 1 1 [.slice A8 n8 c8] rfl HR8.out ?c1 ?c2 ?c3 ?c4 ?_))
   case c1=>first | rfl | (intro z hz; rw [List.mem_singleton] at hz; subst hz; rfl)
   case c2=>unfold maxLen; omega
   case c3=>omega
   case c4=>first | omega | (simp; omega)
   intro v9 w9 hown9 hg9 hor9;rw [<- HU.out] at hown9 hg9;have ho9:OwnL w9 w.heap.size v9 ((Q0g m).take (2+(i+1))) (vs++[v8]):=by
    rw [show 2+(i+1)=(2+i)+1 by omega,Q44 m (2+i) (by omega)];exact HOVR.out.push HB8.out HO8.out (by rw [HTL.out]; exact hown9) hg9
   have hb9:Below w.heap.size w w9:=Q0k ((HL.out.trans (HB8.out.mono hls)).trans ((Q07 w8 (.cells #[v8] 22)).mono (by omega))) (by simp; omega) hg9 (fun b hb=>(Q0a HOVR.out.row hb).1);have HO9:=Lib.hid ho9;have HB9:=Lib.hid hb9;clear hown9 hg9 hor9 ho9 hb9;go_wp2_with fail
   go_roundw
   case rel=>exact⟨i+1,_,by omega,by go_num,HO9.out,HB9.out⟩
   case measure=>simp [intOf]; omega
  ·obtain rfl:i=4:=by omega
   have hinI:¬ (4:Int)<4:=by omega
   rw [List.take_of_length_le (by rw [Q0B]; omega)] at hov;have HOV2:=Lib.hid hov;clear hov hlow;go_wp2_with fail
   go_ret
   first | exact⟨_,rfl,⟨_,HOV2.out⟩,HL.out⟩ | exact⟨_,_,rfl,HOV2.out,HL.out⟩
end
section
open Go.RowKit Go.Maps
attribute [local irreducible] wpList Q0i
def Q4R (w:World) (m:AM) (e:Ending) (w':World):Prop:=∃ v,e=.returned v/\OwnB w' w.heap.size v (Q6U m)/\Below w.heap.size w w'
theorem Qab (w:World) (g:Nat) (N0:Nat->Prop) (m:AM) (S:RASl) (h:Q1a w g N0 m S) :
 Calls Tryz.prog 94 #[.pointer (some ⟨g,0,none⟩)] w (Q4R w m):=by
 have hok:=h.ok;have HLV:=Lib.hid (Q4b w g N0 m S h);have hlen:=Q0B m;have hbl:∀ x,x∈Q0g m->x.length<=120:=fun x hx=>by
  obtain⟨i,_,rfl⟩:=List.mem_map.1 hx;exact Q3l hok i
 have hfl:=Q8f _ hbl;rw [hlen] at hfl;obtain⟨ls,hls⟩:∃ ls,ls=Q0g m:=⟨_,rfl⟩;unfold Q4R Q6U;unfold Q9I at HLV;rw [<- hls] at HLV hlen hbl hfl ⊢;have HLN:=Lib.hid hlen;have HBL:=Lib.hid hbl;obtain⟨i0,hi0,hz0,hz1,hz2⟩:=info_parts Q1O;clear h hlen hbl hls hok;go_enter Tryz.func94,Tryz.ntmps94
 go_wp2_with fail
 refine HLV.out.mono ?_;rintro _ w1 ⟨v,vs,rfl,how,hb1⟩;obtain⟨A,c,rfl,hc,_,hrows,hge⟩:=how.slice;rw [HLN.out] at hc hrows ⊢;have HR:=Lib.hid hrows;have HB1:=Lib.hid hb1;have hs1:=hb1.size;clear how hrows hb1 hge HLV;go_wp2_with fail
 go_loopw [3,5] (fun ov iv wr=>∃ i:Nat,i<=6/\iv=.int .i64 i/\OwnB wr w1.heap.size ov ((ls.take i).map strB).flatten/\Below w1.heap.size w1 wr) (fun _ iv _=>6 - (intOf iv).toNat)
 case atStart=>exact⟨0,by omega,rfl,OwnB.nil _ _,Below.refl _ _⟩
 case round =>
  obtain⟨i,hi,rfl,hov,hbel⟩:=hrel;have HOV:=Lib.hid hov;have HB:=Lib.hid hbel;have hsz:=hbel.size;clear hov hbel;by_cases hin:i<6
  ·have hinI:(i:Int)<6:=by omega
   have h0I:(0:Int)<=(i:Int):=by omega
   obtain⟨ad,hA,hadb,hcell⟩:=HR.out.2 (by omega);subst hA;have hxi:i<ls.length:=by have:=HLN.out; omega
   obtain⟨Ak,mk,ck,hck,hrk⟩:=hcell i ls[i] (List.getElem?_eq_getElem hxi);have hck':=(HB.out.cell (show (ad.add i).block<w1.heap.size by rw [Q0e]; omega)).trans hck;have hmk:ls[i].length=mk:=by have:=hrk.1; simpa using this
   have hm120:mk<=120:=by have:=HBL.out _ (List.getElem_mem hxi); omega
   have HST:=Lib.hid (Qbz Ak mk ck ls[i] wr wr.heap.size ((hrk.below HB.out).more hsz) (Nat.le_refl _) (by omega));obtain⟨ys,hys⟩:∃ ys,ys=((ls.take i).map strB).flatten:=⟨_,rfl⟩;have htk:((ls.take (i+1)).map strB).flatten=((ls.take i).map strB).flatten++strB ls[i]:=by rw [List.take_succ_eq_append_getElem hxi,List.map_append,List.flatten_append]; simp only [List.map_cons,List.map_nil,List.flatten_cons,List.flatten_nil,List.append_nil]
   have htl:((ls.take (i+1)).map strB).flatten.length<=(ls.map strB).flatten.length:=by
    conv=>rhs; rw [<- List.take_append_drop (i+1) ls,List.map_append,List.flatten_append,List.length_append]
    omega
   rw [htk,List.length_append] at htl;rw [<- hys] at HOV htk htl;have HTK:=Lib.hid htk;clear hys;generalize strB ls[i]=x at HTK HST htl;clear hcell hck hrk hmk htk;go_wp2_with fail
   refine HST.out.mono ?_;rintro _ w2 ⟨v2,rfl,ho2,hb2⟩;obtain⟨A2,c2,rfl,p1,p2,p3,p4⟩:=Q0p ho2;obtain⟨nx,hnx⟩:∃ k,k=x.length:=⟨_,rfl⟩;rw [<- hnx] at p3 htl ⊢;have HNX:=Lib.hid hnx;have HP3:=Lib.hid p3;have HO2:=Lib.hid (HOV.out.below hb2);have HWN:=Lib.hid HO2.out.row;have HB2:=Lib.hid (HB.out.trans (hb2.mono hsz));have hs2:=hb2.size;clear ho2 hb2 p1 p2 p3 p4 HST hnx;go_wp2_with (at_builtin; go_must (refine Q06 _ rfl (.tmp 24) (.tmp 25) 22 rfl w1.heap.size 5 i0 _ 1 1 Tryz.underlying22 hi0 hz0 hz1 hz2 rfl (by omega) _ _ _ rfl HWN.out w2.heap.size A2 nx c2 (x.map vb) rfl HP3.out ?c1 ?c2 ?c3 ?c4 ?_))
   case c1=>intro u hu; obtain⟨y,_,rfl⟩:=List.mem_map.1 hu; rfl
   case c2=>unfold maxLen; omega
   case c3=>omega
   case c4=>omega
   intro v3 w3 hown3 hg3 hor3;have HB3:=Lib.hid (Q0k HB2.out (by omega) hg3 (fun b hb=>HO2.out.ge hb));have HO3:=Lib.hid (show OwnB w3 w1.heap.size v3 ((ls.take (i+1)).map strB).flatten by
    unfold OwnB;rw [HTK.out,List.length_append,List.map_append,<- HNX.out];exact hown3)
   clear hown3 hg3 hor3;go_wp2_with fail
   go_roundw
   case rel=>exact⟨i+1,by omega,by go_num,HO3.out,HB3.out⟩
   case measure=>simp [intOf]; omega
  ·obtain rfl:i=6:=by omega
   have hinI:¬ (6:Int)<6:=by omega
   go_wp2_with fail
   go_ret
   refine⟨_,rfl,?_,HB1.out.trans (HB.out.mono hs1)⟩;have:=HOV.out;rw [List.take_of_length_le (by have:=HLN.out; omega)] at this;exact this.more hs1
theorem OwnL.kept_a {w:World} {B0 r:Nat} {A:Option Addr} {n c:Nat} {N:Nat->Prop} {ls:List (List UInt8)} {vs:List Value} (h:OwnL w B0 (.slice A n c) ls vs) (hr:r<B0) (hN:∀ b,B0<=b->b<w.heap.size->N b):Q4q w r N A n ls:=fun W hs hk=>by
 have h2:OwnL W B0 (.slice A n c) ls vs:=h.keep fun b hb hl=>hk b hl (by
  rintro (e | e)
  ·omega
  ·exact e (hN b hb hl))
 obtain⟨A',c',e,_,_,q,_⟩:=h2.slice;injection e with e1 e2 e3
 subst e1 e2;exact q
theorem QbB (w:World) (g r k:Nat) (N0:Nat->Prop) (m:AM) (S:RASl) (N:Nat->Prop) (h:Q1a w g N0 m S) (hb:RBk w r N k) (hk:k<=800000) (hN:∀ b,N b->b<w.heap.size) :
 Calls Tryz.prog 95 #[.pointer (some ⟨g,0,none⟩),.pointer (some ⟨r,0,none⟩)] w fun e w'=>e=.returned (.agg (bRow (Q2o (Q0g m))))/\RBk w' r N (k+24)/\Only (RM r N) w w':=by
 have hrl:=hb.lt;have hX:=Q07 w (.cells inkZ 60);have hk0:Blk (w.alloc (.cells inkZ 60)) w.heap.size 60 inkZ:=Blk.newAt rfl;have HX:=Lib.hid hX;have HK:=Lib.hid hk0;have HBK:=Lib.hid hb;have HLV:=Lib.hid (Q4b _ g N0 m S (h.below hX));unfold Q9I at HLV;have hok:=h.ok;have hlen:=Q0B m;have HLEN:=Lib.hid (fun x (hx:x∈Q0g m)=>(show x.length<65536 by
  obtain⟨i,_,rfl⟩:=List.mem_map.1 hx;have:=Q3l hok i; omega))
 have HNN:=Lib.hid hN;have HZ:=Lib.hid Q1T;have HZS:=Lib.hid (show inkZ.size=32 by simp [inkZ,bRow]);obtain⟨hone,hrl32⟩:=Q9H (Q0g m) (by omega) (by omega);have hds:=Q0E hrl32;have hdo:=Q0K (Q2o (Q0g m));obtain⟨D,hD⟩:∃ D,D=bRow (Q2o (Q0g m)):=⟨_,rfl⟩;have HDE:=Lib.hid hD;rw [<- hD] at hds hdo ⊢;have HDS:=Lib.hid hds;have HDO:=Lib.hid hdo;have HLN:=Lib.hid hlen;obtain⟨g4,hg4⟩:∃ x,x=w.heap.size:=⟨_,rfl⟩;have hgw:w.heap.size<=g4:=by omega
 clear h hb hX hk0 hok hlen hN hone hrl32 hds hdo hD;go_enter Tryz.func95,Tryz.ntmps95
 go_upto_region 1 with fail
 rw [<- HZ.out];generalize World.alloc w _=w1 at HX HK HLV ⊢;rw [<- hg4] at HK ⊢;have hl4:=HK.out.lt;have hs1:=HX.out.size;clear hg4;go_wp2_with fail
 refine HLV.out.mono ?_;rintro _ w2 ⟨v,vs,rfl,how,hb2⟩;obtain⟨A,c,rfl,hc,_,_,_⟩:=how.slice;rw [HLN.out] at how ⊢;have hs2:=hb2.size;have hX2:Below w.heap.size w w2:=HX.out.trans (hb2.mono hs1);have HRT:=Lib.hid (Qah w2 r k (fun b=>N b\/(w.heap.size<=b/\b<w2.heap.size)) A 6 c (Q0g m) (HBK.out.later hX2) hk (how.kept_a (by omega) fun b h1 h2=>.inr ⟨by omega,h2⟩) HLN.out (fun b hb=>by
  rcases hb with hb | hb
  ·have:=HNN.out b hb; omega
  ·exact hb.2) HLEN.out (by omega) (by omega))
 rw [<- HDE.out] at HRT;have HK2:=Lib.hid (HK.out.below' hb2);have HX2:=Lib.hid hX2;clear how hb2 hX2 HLV;go_wp2_with fail
 refine HRT.out.mono ?_;rintro _ w3 ⟨rfl,hbk3,ho3⟩;have hs3:=ho3.size;have HK3:=Lib.hid (ho3.blk HK2.out (by
  rintro (e | e)
  ·omega
  ·exact e (.inr ⟨hgw,by omega⟩)))
 have HB3:=Lib.hid hbk3;have HO3:=Lib.hid ((Only.of_below HX2.out).trans (ho3.mono fun b _=>RM.mono (N:=N) fun b=>.inl));clear hbk3 ho3 HRT;go_upto_region 2 with(refine Q01 (o:=⟨none,_,_,_,_,_⟩) rfl 60 (.tmp 5) (.tmp 12) rfl w3.heap.size 0 D rfl rfl 60 inkZ (by rw [HZ.out]; exact Blk.newAt rfl) (by rw [HDS.out]; rfl) (by rw [HDS.out,HZS.out]; omega) HDO.out ?_; intro w4 hT4 hD4; rw [Q08 _ _ (by rw [HDS.out,HZS.out])] at hD4)
 have hb4:Below w3.heap.size w3 w4:=hT4.below ((Below.refl _ _).alloc (Nat.le_refl _) _) (Nat.le_refl _);have hs4:=hb4.size;have HB4:=Lib.hid (HB3.out.below hb4);have HO4:=Lib.hid (HO3.out.trans (Only.of_below hb4));have HK4:=Lib.hid (HK3.out.below' hb4);have HD4:=Lib.hid hD4;obtain⟨g5,hg5⟩:∃ x,x=w3.heap.size:=⟨_,rfl⟩;rw [<- hg5] at HD4 ⊢;clear hT4 hD4 hb4 hg5 HB3 HO3 HK3;go_wp2_with (first
  | (refine Q03 (o:=⟨some 14,_,_,_,_,_⟩) rfl 60 (.tmp 5) rfl g5 0 32 rfl 60 D D _ HD4.out Tryz.underlying60 rfl rfl HDS.out (fun _ _=>by rw [Nat.zero_add]) ?_)
  | (refine Q01 (o:=⟨none,_,_,_,_,_⟩) rfl 60 (.tmp 4) (.tmp 14) rfl g4 0 D rfl rfl 60 inkZ HK4.out (by rw [HDS.out]; rfl) (by rw [HDS.out,HZS.out]; omega) HDO.out ?_; intro w5 hT5 hD5; rw [Q08 _ _ (by rw [HDS.out,HZS.out])] at hD5))
 refine bodyPost_ret (Q0h rfl _ _ g4 32 60 _ _ rfl hD5 Tryz.underlying60 rfl rfl HDS.out) rfl ⟨rfl,?_,?_⟩
 ·exact(HB4.out.turned hT5 (.inr ⟨hgw,by omega⟩) (by omega)).less (by omega) fun b=>.inl
 ·exact⟨hT5.os.trans HO4.out.os,hT5.tape.trans HO4.out.tape,hT5.output.trans HO4.out.output,by rw [hT5.size]; exact HO4.out.size,fun i hi hn=>(hT5.block i (by omega)).trans (HO4.out.block i hi hn)⟩
end
section
open Go.RowKit Go.Maps
attribute [local irreducible] wpList Q0i
theorem Qbi (xss:List (List UInt8)):Q16 fun W v=>∃ A c,v=.slice A 6 c/\Q4w W W.heap.size A 6 xss:=fun W W' v ⟨A,c,h1,h2⟩ hb=>⟨A,c,h1,(h2.below hb).more hb.size⟩
theorem lasts_bs (n:Nat) (bs:List UInt8):Q16 fun W v=>∃ A c,v=.slice A n c/\n<=c/\Q0d W W.heap.size 1 A n (bs.map vb):=fun W W' v ⟨A,c,h1,h2,h3⟩ hb=>⟨A,c,h1,h2,(h3.below hb).more hb.size⟩
theorem lasts_bk (B:Nat):Q16 fun W v=>∃ r,v=.pointer (some ⟨r,0,none⟩)/\B<=r/\RBk W r (fun b=>b<B) 0:=fun W W' v ⟨r,h1,h2,h3⟩ hb=>⟨r,h1,h2,h3.below hb⟩
theorem QbM {l:List Int} {a:List (Int×Int)} {x:List Int} (h:x∈Q0U l a):∃ i,i<=a.length/\x=nowL l (a.take i):=by
 obtain⟨i,hi,rfl⟩:=List.getElem_of_mem h;rw [Q1r] at hi;have:=Q4j l a i (by omega);exact⟨i,by omega,by rw [List.getElem?_eq_getElem (by rw [Q1r]; omega)] at this; exact Option.some.inj this⟩
theorem QbY {m:AM} (h:AOk m) (c:Nat):(crLs m c).length<=22/\∀ l,l∈crLs m c->l.length<=7:=by
 unfold crLs;split
 ·exact⟨by simp,fun l hl=>by cases hl⟩
 ·cases hs:m.chunks[c - 1]? with
  | none=>exact⟨by simp,fun l hl=>by cases hl⟩
  | some s =>
   have hok:=h.srv s (List.mem_of_getElem? hs);refine⟨by rw [Q1r]; have:=hok.len; omega,fun l hl=>?_⟩;obtain⟨i,_,rfl⟩:=QbM hl;exact((hok.mv.take i).now hok.crew).short.2
theorem Qco (w:World) (V:ALoc) (N N2:Nat->Prop) (m:AM) (g:Nat) (S:RASl) (h:AAt w V N m) (hr:Q1a w g N2 m S) :
 Calls Tryz.prog 42 #[.pointer (some ⟨V.g,0,none⟩),.pointer (some ⟨g,0,none⟩)] w fun e w'=>e=.returned (.bool true)/\Below w.heap.size w w':=by
 have HV:=Lib.hid (fun(W:World) (hb:Below w.heap.size w W)=>h.below hb);have HRV:=Lib.hid (fun(W:World) (hb:Below w.heap.size w W)=>hr.below hb);have hok:=hr.ok;have hlvn:=Q0B m;have hml:∀ x,x∈Q0g m->x.length<=120:=fun x hx=>by
  obtain⟨i,_,rfl⟩:=List.mem_map.1 hx;exact Q3l hok i
 have hbm:(Q6U m).length<=maxLen:=by
  have:=Q8f (Q0g m) hml;unfold Q6U maxLen;omega
 have hone:=Q9H (Q0g m) (by omega) (by omega);have hds:(bRow (Q2o (Q0g m))).size=32:=Q0E hone.2;have hdo:=Q0K (Q2o (Q0g m));have hneq:=fun(W:World)=>Qc1 (Q2o (Q0g m)) (Q2o (Q0g m)) hone.2 hone.2 W
 obtain⟨D,hD⟩:∃ D,D=bRow (Q2o (Q0g m)):=⟨_,rfl⟩;have HDE:=Lib.hid hD;rw [<- hD] at hds hdo hneq;simp only [bne_self_eq_false] at hneq;have HNEQ:=Lib.hid hneq;have HDS:=Lib.hid hds;have HDO:=Lib.hid hdo;have HZ:=Lib.hid Q1T;have HZS:=Lib.hid (show inkZ.size=32 by simp [inkZ,bRow]);have HML:=Lib.hid (fun(x:List UInt8) (hx:x∈Q0g m)=>(show x.length<=maxLen by have:=hml x hx; unfold maxLen; omega));have HBM:=Lib.hid hbm;have HLVN:=Lib.hid hlvn;have HOK:=Lib.hid hok;have HBY:=Lib.hid (Qc8 w V N m h);unfold Q5F at HBY;clear h hr hD hds hdo hneq hml hbm hlvn hone hok;go_enter Tryz.func42,Tryz.ntmps42
 go_wp2_with fail
 refine HBY.out.mono ?_;rintro _ w2 ⟨v,rfl,ho2,hb2⟩;obtain⟨A2,c2,rfl,_,_,hr2,_⟩:=Q0p ho2;obtain⟨bs,hbs⟩:∃ b,b=Q6U m:=⟨_,rfl⟩;rw [<- hbs] at hr2 ⊢;rw [<- hbs] at HBM;have HBS:=Lib.hid hbs;obtain⟨bn,hbn⟩:∃ b,b=bs.length:=⟨_,rfl⟩;rw [<- hbn] at hr2 ⊢;rw [<- hbn] at HBM;have HBN:=Lib.hid hbn;have HR2':=Lib.hid hr2;have HB2:=Lib.hid hb2;have HRT:=Lib.hid (Qd6 w2 V N m (HV.out w2 hb2));rw [<- HDE.out] at HRT;have hs2:=hb2.size;clear ho2 hb2 hr2 HBY hbs hbn;go_wp2_with fail
 refine HRT.out.mono ?_;rintro _ w3 ⟨rfl,hb3⟩;have hs23:=hb3.size;have HB23:=Lib.hid hb3;clear hb3 HRT;go_upto_region 3 with(refine Q01 (o:=⟨none,_,_,_,_,_⟩) rfl 60 (.tmp 7) (.tmp 21) rfl w3.heap.size 0 D rfl rfl 60 inkZ (by rw [HZ.out]; exact Blk.newAt rfl) (by rw [HDS.out]; rfl) (by rw [HDS.out,HZS.out]; omega) HDO.out ?_; intro w4 hT4 hD4; rw [Q08 _ _ (by rw [HDS.out,HZS.out])] at hD4)
 have hb34:Below w3.heap.size w3 w4:=hT4.below ((Below.refl _ _).alloc (Nat.le_refl _) _) (Nat.le_refl _);have hs34:=hb34.size;have HB4:=Lib.hid (HB2.out.trans ((HB23.out.mono hs2).trans (hb34.mono (by omega))));have HR2:=Lib.hid ((HR2'.out.below (HB23.out.trans (hb34.mono (by omega)))).more (B':=w4.heap.size) (by omega));have K8:=Lib.hid hD4;obtain⟨g8,hg8⟩:∃ x,x=w3.heap.size:=⟨_,rfl⟩;rw [<- hg8] at K8 ⊢;have hs4:=HB4.out.size;have hV4:∀ W,Below w4.heap.size w4 W->AAt W V N m:=fun W hb=>HV.out W (HB4.out.trans (hb.mono hs4))
 have hR4:∀ W,Below w4.heap.size w4 W->Q1a W g N2 m S:=fun W hb=>HRV.out W (HB4.out.trans (hb.mono hs4))
 obtain⟨lv,hlv⟩:∃ l,l=Q0g m:=⟨_,rfl⟩;obtain⟨cn,hcn⟩:∃ l,l=m.chunks.length:=⟨_,rfl⟩;have hal:=fun(W:World) (hb:Below w4.heap.size w4 W)=>Q6J W V N m (hV4 W hb)
 have hrl:=fun(W:World) (hb:Below w4.heap.size w4 W)=>Q4b W g N2 m S (hR4 W hb)
 have hrb:=fun(W:World) (hb:Below w4.heap.size w4 W)=>Qab W g N2 m S (hR4 W hb)
 have hrr:=fun(W:World) (r:Nat) (hb:Below w4.heap.size w4 W) (hk:RBk W r (fun b=>b<w4.heap.size) 0)=>QbB W g r 0 N2 m S (fun b=>b<w4.heap.size) (hR4 W hb) hk (by omega) (fun b h=>by have:=hb.size; omega)
 have hca:=fun(W:World) (hb:Below w4.heap.size w4 W)=>(by
  obtain⟨S',hd'⟩:=(hV4 W hb).dat;exact Q79 W V.g V.gc V.T.t N m S' hd':Calls Tryz.prog 55 #[.pointer (some ⟨V.g,0,none⟩)] W fun e w'=>e=.returned (.int .i64 (m.chunks.length:Int))/\w'=W)
 have hcr:=fun(W:World) (hb:Below w4.heap.size w4 W)=>Q9l W g N2 m S (hR4 W hb)
 unfold Q9I at hrl;unfold Qaj at hal;unfold Q4R at hrb;rw [<- hlv] at HML HLVN HDE;simp only [<- hlv] at hal hrl;simp only [<- HBS.out] at hrb;simp only [<- hlv,<- HDE.out] at hrr;simp only [<- hcn] at hca hcr;have HAL:=Lib.hid hal;have HRL:=Lib.hid hrl;have HRB:=Lib.hid hrb;have HRR:=Lib.hid hrr;have HCA:=Lib.hid hca;have HCR:=Lib.hid hcr;clear hT4 hD4 hb34 hg8 hV4 hR4 hlv hcn hal hrl hrb hrr hca hcr;refine Q4a 34 94 (fun jx W v=>match jx with | 0=>v=.pointer (some ⟨V.g,0,none⟩) | 1=>∃ A c,v=.slice A 6 c/\Q4w W W.heap.size A 6 lv | 2=>v=.pointer (some ⟨g,0,none⟩) | 3=>∃ A c,v=.slice A 6 c/\Q4w W W.heap.size A 6 lv | 4=>v=.bool true | 5=>v=.bool false | 6=>v=.bool false | 7=>v=.int .i64 0 | 8=>v=.bool false | 9=>v=.bool false | 10=>v=.bool false | 11=>v=.slice A2 bn c2 | 12=>v=.pointer (some ⟨g,0,none⟩) | 13=>∃ A c,v=.slice A bn c/\bn<=c/\Q0d W W.heap.size 1 A bn (bs.map vb) | 14=>v=.bool true | 15=>v=.bool false | 16=>v=.bool false | 17=>v=.bool false | 18=>v=.int .i64 0 | 19=>v=.bool false | 20=>v=.bool false | 21=>v=.bool false | 22=>v=.agg D | 23=>v=.pointer (some ⟨g,0,none⟩) | 24=>∃ r,v=.pointer (some ⟨r,0,none⟩)/\w4.heap.size<=r/\RBk W r (fun b=>b<w4.heap.size) 0 | 25=>v=.agg D | 26=>v=.bool false | 27=>v=.bool false | 28=>v=.bool false | 29=>v=.pointer (some ⟨V.g,0,none⟩) | 30=>v=.int .i64 (cn:Int) | 31=>v=.pointer (some ⟨g,0,none⟩) | 32=>v=.int .i64 (cn:Int) | 33=>v=.bool false | _=>True) (fun _ W=>Below w4.heap.size w4 W) (fun _ _=>True) [25] (fun _=>[1,3,13,24]) (fun _=>[]) [23,24,25,26,27,28,29,30,31,32,33,34,35,36,37,38,39,40,41,42,43,44,45,46,47,48,49,50,51,52,53,54,55,56] (by kernel_rfl) (by kernel_rfl) (by kernel_rfl) (by kernel_rfl) (by kernel_rfl) (by kernel_rfl) (by first | rfl | simp) (by kernel_rfl) (fun jx=>?last) ?lastR ?jay (Below.refl _ _) ?heads ?_
 case last =>
  match jx with
  | 0 | 2 | 4 | 5 | 6 | 7 | 8 | 9 | 10 | 11 | 12 | 14 | 15 | 16 | 17 | 18 | 19 | 20 | 21 | 22 | 23 | 25 | 26 | 27 | 28 | 29 | 30 | 31 | 32 | 33 | jx+34=>exact Q16.pure _
  | 1=>exact Qbi _
  | 3=>exact Qbi _
  | 13=>exact lasts_bs _ _
  | 24=>exact lasts_bk _
 case lastR =>
  intro s jx W W' v hsl hdd hlt hs hj hp hr;match jx with
  | 0 | 2 | 4 | 5 | 6 | 7 | 8 | 9 | 10 | 11 | 12 | 14 | 15 | 16 | 17 | 18 | 19 | 20 | 21 | 22 | 23 | 25 | 26 | 27 | 28 | 29 | 30 | 31 | 32 | 33 | jx+34=>exact hp
  | 1=>exact absurd (by decide) hdd
  | 3=>exact absurd (by decide) hdd
  | 13=>exact absurd (by decide) hdd
  | 24=>exact absurd (by decide) hdd
 case jay =>
  intro s W W' hj hb;exact hj.trans (hb.mono hj.size)
 case heads =>
  simp only [List.take_succ_cons,List.take_zero];refine⟨?_,?_,?_,?_,?_,?_,?_,?_,?_,?_,?_,?_,?_,?_,?_,?_,?_,?_,?_,?_,?_,?_,?_,?_,?_,?_,?_,?_,?_,?_,?_,?_,?_,?_,trivial⟩
  ·rw [if_neg (by decide)];intro s a W hb hkp hd;have e0:a.tmps[0]?.getD undef=.pointer (some ⟨V.g,0,none⟩):=hkp.get (by kernel_rfl) rfl;exact Q00 rfl _ (by go_simp) rfl
  ·rw [if_neg (by decide)];intro s a W hb hkp hd;have e0:(_:Value)=.pointer (some ⟨V.g,0,none⟩):=(hd 0 (by kernel_rfl)).get 23 rfl rfl;refine Q0w rfl 57 #[.pointer (some ⟨V.g,0,none⟩)] (by go_simp) ((HAL.out W hb).mono ?_);rintro e w ⟨v,vs,rfl,ho,hb'⟩;obtain⟨A,c,h1,_,_,h4,_⟩:=ho.slice;rw [HLVN.out] at h1 h4;exact⟨v,rfl,hb',A,c,h1,h4⟩
  ·rw [if_neg (by decide)];intro s a W hb hkp hd;have e0:a.tmps[1]?.getD undef=.pointer (some ⟨g,0,none⟩):=hkp.get (by kernel_rfl) rfl;exact Q00 rfl _ (by go_simp) rfl
  ·rw [if_neg (by decide)];intro s a W hb hkp hd;have e0:(_:Value)=.pointer (some ⟨g,0,none⟩):=(hd 2 (by kernel_rfl)).get 25 rfl rfl;refine Q0w rfl 93 #[.pointer (some ⟨g,0,none⟩)] (by go_simp) ((HRL.out W hb).mono ?_);rintro e w ⟨v,vs,rfl,ho,hb'⟩;obtain⟨A,c,h1,_,_,h4,_⟩:=ho.slice;rw [HLVN.out] at h1 h4;exact⟨v,rfl,hb',A,c,h1,h4⟩
  ·rw [if_neg (by decide)];intro s a W hb hkp hd;obtain⟨Aa,ca,e1,r1⟩:=(hd 1 (by kernel_rfl)).get 24 rfl rfl;obtain⟨Ab,cb,e2,r2⟩:=(hd 3 (by kernel_rfl)).get 26 rfl rfl;exact Q0w rfl 15 #[.slice Aa 6 ca,.slice Ab 6 cb] (by go_simp) ((Q7g Aa Ab 6 ca 6 cb lv lv W W.heap.size r1 r2 (Nat.le_refl _) (by omega) (by omega) HML.out HML.out).mono fun e w h=>⟨.bool true,by rw [h.1]; simp,h.2,rfl⟩)
  ·rw [if_neg (by decide)];intro s a W hb hkp hd;have e0:(_:Value)=.bool true:=(hd 4 (by kernel_rfl)).get 27 rfl rfl;exact Q00 rfl _ (by go_simp) rfl
  ·rw [if_neg (by decide)];intro s a W hb hkp hd;have e0:(_:Value)=.bool false:=(hd 5 (by kernel_rfl)).get 28 rfl rfl;exact Q00 rfl _ (by go_simp) rfl
  ·rw [if_neg (by decide)];intro s a W hb hkp hd;have eg:(_:Value)=.bool false:=(hd 6 (by kernel_rfl)).get 29 rfl rfl;have e0:a.tmps[6]?.getD undef=.int .i64 0:=hkp.get (by kernel_rfl) rfl;exact Q00 (Q04 rfl rfl eg) _ (by go_simp) rfl
  ·rw [if_neg (by decide)];intro s a W hb hkp hd;have eg:(_:Value)=.bool false:=(hd 6 (by kernel_rfl)).get 29 rfl rfl;have e0:(_:Value)=.int .i64 0:=(hd 7 (by kernel_rfl)).get 30 rfl rfl;exact Q00 (Q04 rfl rfl eg) _ (by go_simp) rfl
  ·rw [if_neg (by decide)];intro s a W hb hkp hd;have e0:(_:Value)=.bool false:=(hd 6 (by kernel_rfl)).get 29 rfl rfl;have e1:(_:Value)=.bool false:=(hd 8 (by kernel_rfl)).get 31 rfl rfl;exact Q00 rfl _ (by go_simp) rfl
  ·rw [if_neg (by decide)];intro s a W hb hkp hd;have e0:(_:Value)=.bool false:=(hd 9 (by kernel_rfl)).get 32 rfl rfl;exact Q00 rfl _ (by go_simp) rfl
  ·rw [if_neg (by decide)];intro s a W hb hkp hd;have eg:(_:Value)=.bool false:=(hd 10 (by kernel_rfl)).get 33 rfl rfl;have e0:a.tmps[5]?.getD undef=.slice A2 bn c2:=hkp.get (by kernel_rfl) rfl;exact Q00 (Q04 rfl rfl eg) _ (by go_simp) rfl
  ·rw [if_neg (by decide)];intro s a W hb hkp hd;have eg:(_:Value)=.bool false:=(hd 10 (by kernel_rfl)).get 33 rfl rfl;have e0:a.tmps[1]?.getD undef=.pointer (some ⟨g,0,none⟩):=hkp.get (by kernel_rfl) rfl;exact Q00 (Q04 rfl rfl eg) _ (by go_simp) rfl
  ·rw [if_neg (by decide)];intro s a W hb hkp hd;have eg:(_:Value)=.bool false:=(hd 10 (by kernel_rfl)).get 33 rfl rfl;have e0:(_:Value)=.pointer (some ⟨g,0,none⟩):=(hd 12 (by kernel_rfl)).get 35 rfl rfl;refine Q0w (Q04 rfl rfl eg) 94 #[.pointer (some ⟨g,0,none⟩)] (by go_simp) ((HRB.out W hb).mono ?_);rintro e w ⟨v,rfl,ho,hb'⟩;obtain⟨A,c,h1,h2,_,h4,_⟩:=Q0p ho;rw [<- HBN.out] at h1 h2 h4;exact⟨v,rfl,hb',A,c,h1,h2,h4⟩
  ·rw [if_neg (by decide)];intro s a W hb hkp hd;have eg:(_:Value)=.bool false:=(hd 10 (by kernel_rfl)).get 33 rfl rfl;have e0:(_:Value)=.slice A2 bn c2:=(hd 11 (by kernel_rfl)).get 34 rfl rfl;obtain⟨Ab,cb,e2,q2,r2⟩:=(hd 13 (by kernel_rfl)).get 36 rfl rfl;exact Q0w (Q04 rfl rfl eg) 14 #[.slice A2 bn c2,.slice Ab bn cb] (by go_simp) ((Q34 A2 Ab bn bn c2 cb bs bs W W.heap.size W.heap.size ((HR2.out.below hb).more hb.size) r2 HBM.out HBM.out).mono fun e w h=>⟨.bool true,by rw [h.1]; simp,(by obtain⟨k,hk⟩:=h.2; rw [hk]; exact Q0z (Below.refl _ _) _),rfl⟩)
  ·rw [if_neg (by decide)];intro s a W hb hkp hd;have eg:(_:Value)=.bool false:=(hd 10 (by kernel_rfl)).get 33 rfl rfl;have e0:(_:Value)=.bool true:=(hd 14 (by kernel_rfl)).get 37 rfl rfl;exact Q00 (Q04 rfl rfl eg) _ (by go_simp) rfl
  ·rw [if_neg (by decide)];intro s a W hb hkp hd;have e0:(_:Value)=.bool false:=(hd 10 (by kernel_rfl)).get 33 rfl rfl;have e1:(_:Value)=.bool false:=(hd 15 (by kernel_rfl)).get 38 rfl rfl;exact Q00 rfl _ (by go_simp) rfl
  ·rw [if_neg (by decide)];intro s a W hb hkp hd;have e0:(_:Value)=.bool false:=(hd 16 (by kernel_rfl)).get 39 rfl rfl;exact Q00 rfl _ (by go_simp) rfl
  ·rw [if_neg (by decide)];intro s a W hb hkp hd;have eg:(_:Value)=.bool false:=(hd 17 (by kernel_rfl)).get 40 rfl rfl;have e0:a.tmps[8]?.getD undef=.int .i64 0:=hkp.get (by kernel_rfl) rfl;exact Q00 (Q04 rfl rfl eg) _ (by go_simp) rfl
  ·rw [if_neg (by decide)];intro s a W hb hkp hd;have eg:(_:Value)=.bool false:=(hd 17 (by kernel_rfl)).get 40 rfl rfl;have e0:(_:Value)=.int .i64 0:=(hd 18 (by kernel_rfl)).get 41 rfl rfl;exact Q00 (Q04 rfl rfl eg) _ (by go_simp) rfl
  ·rw [if_neg (by decide)];intro s a W hb hkp hd;have e0:(_:Value)=.bool false:=(hd 17 (by kernel_rfl)).get 40 rfl rfl;have e1:(_:Value)=.bool false:=(hd 19 (by kernel_rfl)).get 42 rfl rfl;exact Q00 rfl _ (by go_simp) rfl
  ·rw [if_neg (by decide)];intro s a W hb hkp hd;have e0:(_:Value)=.bool false:=(hd 20 (by kernel_rfl)).get 43 rfl rfl;exact Q00 rfl _ (by go_simp) rfl
  ·rw [if_neg (by decide)];intro s a W hb hkp hd;have eg:(_:Value)=.bool false:=(hd 21 (by kernel_rfl)).get 44 rfl rfl;have e0:a.eval (.tmp 7)=.pointer (some ⟨g8,0,none⟩):=hkp.at_ (by kernel_rfl);exact Q00 (Q04 rfl rfl eg) (.agg D) (Q0m 60 (.tmp 7) rfl g8 0 32 e0 60 _ D _ (K8.out.below' hb) Tryz.underlying60 rfl rfl HDS.out (fun _ _=>by rw [Nat.zero_add])) rfl
  ·rw [if_neg (by decide)];intro s a W hb hkp hd;have eg:(_:Value)=.bool false:=(hd 21 (by kernel_rfl)).get 44 rfl rfl;have e0:a.tmps[1]?.getD undef=.pointer (some ⟨g,0,none⟩):=hkp.get (by kernel_rfl) rfl;exact Q00 (Q04 rfl rfl eg) _ (by go_simp) rfl
  ·rw [if_neg (by decide)];intro s a W hb hkp hd;have eg:(_:Value)=.bool false:=(hd 21 (by kernel_rfl)).get 44 rfl rfl;refine Q0w (Q04 rfl rfl eg) 74 #[] (by go_simp) ((QaG W).mono ?_);rintro e w ⟨r,rfl,h1,h2,h3,h4⟩;exact⟨_,rfl,h4,r,rfl,Nat.le_trans hb.size h1,RBk.start h3 _⟩
  ·rw [if_pos (by decide)];intro s a W hs hb hkp hd;have eg:(_:Value)=.bool false:=(hd 21 (by kernel_rfl)).get 44 rfl rfl;have e0:(_:Value)=.pointer (some ⟨g,0,none⟩):=(hd 23 (by kernel_rfl)).get 46 rfl rfl;obtain⟨r,e2,q2,r2⟩:=(hd 24 (by kernel_rfl)).get 47 rfl rfl;refine Q47 (Q04 rfl rfl eg) 95 #[.pointer (some ⟨g,0,none⟩),.pointer (some ⟨r,0,none⟩)] (by go_simp) ((HRR.out W r hb r2).mono ?_);rintro e w ⟨rfl,h1,h2⟩;have hbw:Below w4.heap.size W w:=h2.below hb.size fun b hb1 hb2=>by
    rcases hb2 with e | e
    ·omega
    ·exact e hb1
   exact⟨_,rfl,trivial,hb.trans hbw,rfl⟩
  ·rw [if_neg (by decide)];intro s a W hb hkp hd;have eg:(_:Value)=.bool false:=(hd 21 (by kernel_rfl)).get 44 rfl rfl;have e0:a.eval (.tmp 45)=.agg D:=(hd 22 (by kernel_rfl)) _ 45 rfl rfl;have e1:a.eval (.tmp 48)=.agg D:=(hd 25 (by kernel_rfl)) _ 48 rfl rfl;exact Q00 (Q04 rfl rfl eg) (.bool false) (Q9C 60 (.tmp 45) (.tmp 48) _ rfl D D e0 e1 Qc2 _ (HNEQ.out W)) rfl
  ·rw [if_neg (by decide)];intro s a W hb hkp hd;have e0:(_:Value)=.bool false:=(hd 21 (by kernel_rfl)).get 44 rfl rfl;have e1:(_:Value)=.bool false:=(hd 26 (by kernel_rfl)).get 49 rfl rfl;exact Q00 rfl _ (by go_simp) rfl
  ·rw [if_neg (by decide)];intro s a W hb hkp hd;have e0:(_:Value)=.bool false:=(hd 27 (by kernel_rfl)).get 50 rfl rfl;exact Q00 rfl _ (by go_simp) rfl
  ·rw [if_neg (by decide)];intro s a W hb hkp hd;have eg:(_:Value)=.bool false:=(hd 28 (by kernel_rfl)).get 51 rfl rfl;have e0:a.tmps[0]?.getD undef=.pointer (some ⟨V.g,0,none⟩):=hkp.get (by kernel_rfl) rfl;exact Q00 (Q04 rfl rfl eg) _ (by go_simp) rfl
  ·rw [if_neg (by decide)];intro s a W hb hkp hd;have eg:(_:Value)=.bool false:=(hd 28 (by kernel_rfl)).get 51 rfl rfl;have e0:(_:Value)=.pointer (some ⟨V.g,0,none⟩):=(hd 29 (by kernel_rfl)).get 52 rfl rfl;exact Q0w (Q04 rfl rfl eg) 55 #[.pointer (some ⟨V.g,0,none⟩)] (by go_simp) ((HCA.out W hb).mono fun e w h=>⟨_,h.1,by rw [h.2]; exact Below.refl _ _,rfl⟩)
  ·rw [if_neg (by decide)];intro s a W hb hkp hd;have eg:(_:Value)=.bool false:=(hd 28 (by kernel_rfl)).get 51 rfl rfl;have e0:a.tmps[1]?.getD undef=.pointer (some ⟨g,0,none⟩):=hkp.get (by kernel_rfl) rfl;exact Q00 (Q04 rfl rfl eg) _ (by go_simp) rfl
  ·rw [if_neg (by decide)];intro s a W hb hkp hd;have eg:(_:Value)=.bool false:=(hd 28 (by kernel_rfl)).get 51 rfl rfl;have e0:(_:Value)=.pointer (some ⟨g,0,none⟩):=(hd 31 (by kernel_rfl)).get 54 rfl rfl;exact Q0w (Q04 rfl rfl eg) 96 #[.pointer (some ⟨g,0,none⟩)] (by go_simp) ((HCR.out W hb).mono fun e w h=>⟨_,h.1,by rw [<- h.2]; exact Below.refl _ _,rfl⟩)
  ·rw [if_neg (by decide)];intro s a W hb hkp hd;have eg:(_:Value)=.bool false:=(hd 28 (by kernel_rfl)).get 51 rfl rfl;have e0:(_:Value)=.int .i64 (cn:Int):=(hd 30 (by kernel_rfl)).get 53 rfl rfl;have e1:(_:Value)=.int .i64 (cn:Int):=(hd 32 (by kernel_rfl)).get 55 rfl rfl;exact Q00 (Q04 rfl rfl eg) _ (by go_simp) rfl
 intro f W hbW hd;have f51:f 51=.bool false:=hd 28 (by omega) (by decide) _ 51 rfl rfl;have f56:f 56=.bool false:=hd 33 (by omega) (by decide) _ 56 rfl rfl;have HLW:=Lib.hid (HB4.out.trans (hbW.mono hs4));clear hd hbW;simp only [Q0H,List.drop_succ_cons,List.drop_zero,f51,f56];try simp only [Act.put,sA1,sA2,sA3]
 go_wp2_with fail
 go_loopw [9] (fun iv wr=>∃ i:Nat,i<=4/\iv=.int .i64 i/\Below w.heap.size w wr) (fun iv _=>4 - (intOf iv).toNat)
 case atStart=>exact⟨0,by omega,rfl,HLW.out⟩
 clear HLW;case round =>
  obtain⟨i,hi,rfl,hlow⟩:=hrel;have HL:=Lib.hid hlow;have hls:=hlow.size;obtain⟨wo,hwo⟩:∃ x,x=wr:=⟨_,rfl⟩;rw [<- hwo] at HL hlow hls ⊢;have HBASE:=Lib.hid hls;clear hwo;by_cases hin:i<4
  ·have hinI:(i:Int)<4:=by omega
   have HCA1:=Lib.hid (Q8a wo V N m i (by omega) (HV.out wo hlow));have HCR1:=Lib.hid (fun(W:World) (hb:Below wo.heap.size wo W)=>Q4C W g N2 m i (by omega) S (HRV.out W (hlow.trans (hb.mono hls))));unfold Q5i at HCA1 HCR1;have hsh:=QbY HOK.out i;obtain⟨ls,hlse⟩:∃ l,l=crLs m i:=⟨_,rfl⟩;obtain⟨f,hf⟩:∃ l,l=crFa m i:=⟨_,rfl⟩;rw [<- hlse,<- hf] at HCA1 HCR1;rw [<- hlse] at hsh;have HSH:=Lib.hid hsh;have hls22:=hsh.1;clear hlow hlse hf hsh;go_wp2_with fail
   refine HCA1.out.mono ?_;rintro _ w5 ⟨v,nA,nC,rfl,how,hb5⟩;obtain⟨Ac,cc,hv,hcat⟩:=how.crewsAt fun l hl=>by have:=HSH.out.2 l hl; omega
   obtain⟨n,hn⟩:∃ n,n=ls.length:=⟨_,rfl⟩;rw [<- hn] at hv hls22;subst hv;have hca1:=hcat ls.length (Nat.le_refl _);rw [List.take_of_length_le (Nat.le_refl _),<- hn] at hca1;have HN:=Lib.hid hn;have HCAT:=Lib.hid hca1;have HOW:=Lib.hid how;have HB5:=Lib.hid hb5;have HCR2:=Lib.hid (HCR1.out w5 hb5);have hs5:=hb5.size;clear how hb5 hcat hca1 hn HCA1 HCR1;go_wp2_with fail
   refine HCR2.out.mono ?_;rintro _ w6 ⟨v2,nA2,nC2,rfl,how2,hb6⟩;obtain⟨Ad,cd,hv2,hcat2⟩:=how2.crewsAt fun l hl=>by have:=HSH.out.2 l hl; omega
   rw [<- HN.out] at hv2;subst hv2;have hca2:=hcat2 ls.length (Nat.le_refl _);rw [List.take_of_length_le (Nat.le_refl _),<- HN.out] at hca2;have HSC:=Lib.hid (Q8C Ac Ad n cc n cd (Q4J f ls) (Q4J f ls) w6 (HCAT.out.below hb6) hca2 (by omega) (by omega));rw [decide_eq_true rfl] at HSC;have HOW6:=Lib.hid (HOW.out.below hb6);have HB6:=Lib.hid (HB5.out.trans (hb6.mono hs5));have hs6:=HB6.out.size;clear how2 hb6 hcat2 hca2 HCR2 HOW HCAT;go_wp2_with fail
   refine HSC.out.mono ?_;rintro _ w7 ⟨rfl,hb7⟩;have HM7:=Lib.hid (Q7h.of (HOW6.out.below hb7) (HB6.out.trans (hb7.mono hs6)));clear hb7 HSC HOW6;go_wp2_with fail
   go_loopw [11] (fun kv W=>∃ k:Nat,k<=n/\kv=.int .i64 k/\Q7h wo.heap.size wo W (.slice Ac n cc) f ls nA nC) (fun kv _=>n - (intOf kv).toNat)
   case atStart=>exact⟨0,by omega,rfl,HM7.out⟩
   clear HM7 HB6 HB5;case round =>
    obtain⟨k,hk,rfl,hm⟩:=hrel;have HM:=Lib.hid hm;by_cases hkn:k<n
    ·have hkI:(k:Int)<(n:Int):=by omega
     have hkl:k<ls.length:=by have:=HN.out; omega
     have hlk:=List.getElem?_eq_getElem hkl;have hlm:=HSH.out.2 _ (List.getElem_mem hkl);generalize ls[k]=l at hlk hlm;obtain⟨gl,hAc,hcl⟩:=hm.cell HN.out.symm hlk;subst hAc;have HLK:=Lib.hid hlk;obtain⟨ln,hln⟩:∃ x,x=l.length:=⟨_,rfl⟩;obtain⟨An,hAn⟩:∃ x,x=nA k:=⟨_,rfl⟩;obtain⟨cn',hcn'⟩:∃ x,x=nC k:=⟨_,rfl⟩;rw [<- hln,<- hAn,<- hcn'] at hcl;rw [<- hln] at hlm;have HLN:=Lib.hid hln;have HAN:=Lib.hid hAn;have HCN:=Lib.hid hcn';clear hm hlk hln hAn hcn';go_wp2_with fail
     go_loopw [12] (fun qv W=>∃ q:Nat,q<=ln/\qv=.int .i64 q/\Q7h wo.heap.size wo W (.slice (some ⟨gl,0,none⟩) n cc) f ls nA nC) (fun qv _=>ln - (intOf qv).toNat)
     case atStart=>exact⟨0,by omega,rfl,HM.out⟩
     clear HM hcl;case round =>
      obtain⟨q,hq,rfl,hm⟩:=hrel;have HM:=Lib.hid hm;obtain⟨gl',hAc,hcl⟩:=hm.cell HN.out.symm HLK.out;injection hAc with hAc
      injection hAc with hAc
      subst hAc;obtain⟨hI,hB⟩:=hm.nin k l HLK.out;rw [<- HLN.out,<- HAN.out,<- HCN.out] at hcl hI hB;by_cases hqn:q<ln
      ·have hqI:(q:Int)<(ln:Int):=by omega
       rcases hI with h0 | ⟨gi,cap,cur,hv,hBk,hcur⟩
       ·omega
       injection hv with hv1 _ hv3
       have hgi:=hB gi (by rw [hv1]; rfl);obtain⟨u,hu⟩:=hcur q hqn;have hcell:=(hBk.cell q).trans hu;have hfz:=hBk.frozen q;have HBk:=Lib.hid hBk;have HGI:=Lib.hid hgi;have hAn:An=some ⟨gi,0,none⟩:=hv1;clear hBk hcur hu hm hv3 hB hgi hv1;rw [hAn] at hcl;clear hAn;go_wp2_with fail
       go_roundw
       case rel=>exact⟨q+1,by omega,by go_num,HM.out.put HGI.out HBk.out q 0⟩
       case measure=>simp [intOf]; omega
      ·obtain rfl:q=ln:=by omega
       have hqI:¬ (q:Int)<(q:Int):=by omega
       clear hm hI hB;go_wp2_with fail
       go_roundw
       case rel=>exact⟨k+1,by omega,by go_num,HM.out⟩
       case measure=>simp [intOf]; omega
    ·obtain rfl:k=n:=by omega
     have hkI:¬ (k:Int)<(k:Int):=by omega
     clear hm;go_wp2_with fail
     go_roundw
     case rel=>exact⟨i+1,by omega,by go_num,HL.out.trans (HM.out.low.mono HBASE.out)⟩
     case measure=>simp [intOf]; omega
  ·obtain rfl:i=4:=by omega
   have hinI:¬ ((4:Nat):Int)<4:=by omega
   clear hlow;go_wp2_with fail
   go_ret
   exact⟨rfl,HL.out⟩
end
section
open Go.RowKit Go.Maps
attribute [local irreducible] wpList Q0i
theorem Q8J (w:World) (V:ALoc) (N:Nat->Prop) (m:AM) (h:AAt w V N m)
 (x:Wish) (A:Option Addr) (n c:Nat) (A':Option Addr) (n' c':Nat) (B:Nat) (hx:Q0Y w B x A n c A' n' c') (hB:B<=w.heap.size) (hq:inQ x=false) :
 Calls Tryz.prog 39 #[.pointer (some ⟨V.g,0,none⟩),.agg (Q05 x A n c A' n' c')] w (Q2q w (okA,false)):=by
 obtain⟨S,hd⟩:=h.dat;have hkd:mayB x=true->x.kind≠3/\x.kind≠4:=fun hm=>by
  unfold inQ at hq;rw [hm,Bool.true_and] at hq;have:=of_decide_eq_false hq;omega
 have hX:Below w.heap.size w ((w.alloc (.cells (Q05 x A n c A' n' c') 44)).alloc (.cells (anC 0 none 0 0 0 none 0 0) 47)):=((Below.refl _ _).alloc (Nat.le_refl _) _).alloc (by simp) _;have k3:Blk ((w.alloc (.cells (Q05 x A n c A' n' c') 44)).alloc (.cells (anC 0 none 0 0 0 none 0 0) 47)) w.heap.size 44 (Q05 x A n c A' n' c'):=(Blk.newAt rfl).alloc _;have k4:Blk ((w.alloc (.cells (Q05 x A n c A' n' c') 44)).alloc (.cells (anC 0 none 0 0 0 none 0 0) 47)) (w.heap.size+1) 47 (anC 0 none 0 0 0 none 0 0):=Blk.newAt (by simp);have hz1:((w.alloc (.cells (Q05 x A n c A' n' c') 44)).alloc (.cells (anC 0 none 0 0 0 none 0 0) 47)).heap.size=w.heap.size+2:=by simp
 have HD0:=Lib.hid hd;have HX:=Lib.hid hX;have K3:=Lib.hid k3;have K4:=Lib.hid k4;have HZ1:=Lib.hid hz1;have HCK:=Lib.hid (fun(W:World) (hb:Below w.heap.size w W)=>Q6S x A n c A' n' c' W B (hx.below (hb.mono hB)) (by have:=hb.size; omega));have HNO:=Lib.hid (fun(W:World) (hb:Below w.heap.size w W)=>Q2g W V.g V.T.t (((hd.below hb).blk.cell 0).trans (Q1D _ _ _ _ 0 (by omega))));obtain⟨P,hP⟩:∃ P,P=Q2q w ((okA,false)):=⟨_,rfl⟩;rw [<- hP];have HPG:=Lib.hid (show ∀ w',Below w.heap.size w w'->P (.returned (.tuple #[.agg (anC 0 none 0 0 0 none 0 0),.bool false])) w' from fun w' hb=>by
  rw [hP]; exact⟨_,rfl,rfl,AnsN.bare _ _ 0 0,hb⟩)
 obtain⟨g3,hg3⟩:∃ b,b=w.heap.size:=⟨_,rfl⟩;obtain⟨g4,hg4⟩:∃ b,b=w.heap.size+1:=⟨_,rfl⟩;obtain⟨W0,hW0⟩:∃ W0,W0=Q05 x A n c A' n' c':=⟨_,rfl⟩;have hws:W0.size=10:=by rw [hW0]; simp [Q05]
 have hw4:W0[4]?=some (.int .i64 x.kind):=by rw [hW0]; rfl
 rw [<- hW0] at HX K3 K4 HZ1 HCK ⊢;have HW4:=Lib.hid hw4;have HKD:=Lib.hid hkd;clear h hd hX k3 k4 hz1 hP hx hW0 hw4 hq hkd;go_enter Tryz.func39,Tryz.ntmps39
 go_upto_region 1 with fail
 rw [<- anZ];generalize World.alloc (World.alloc w _) _=w1 at HX K3 K4 HZ1 ⊢;rw [<- hg4] at K4 ⊢;rw [<- hg3] at K3 ⊢;have hz1:=HZ1.out;have hgw3:w.heap.size<=g3:=by omega
 have hgw4:w.heap.size<=g4:=by omega
 have hg34:g3≠g4:=by omega
 have hw1:w.heap.size<=w1.heap.size:=by omega
 have hl3:=K3.out.lt;have hl4:=K4.out.lt;clear hg3 hg4 HZ1 hz1;go_wp2_with fail
 refine(HNO.out w1 HX.out).mono ?_;rintro _ _ ⟨rfl,rfl⟩;go_wp2_with (refine Q1I (o:=⟨some 9,_,_,_,_,_⟩) rfl 44 (.tmp 3) rfl g3 0 10 rfl 44 _ W0 _ K3.out Tryz.underlying44 rfl rfl hws (fun _ _=>by rw [Nat.zero_add]) ?_)
 refine(HCK.out w1 HX.out).mono ?_;rintro _ w2 ⟨rfl,hb2⟩;have HB2:=Lib.hid (HX.out.trans (hb2.mono hw1));have K32:=Lib.hid (K3.out.below' hb2);have K42:=Lib.hid (K4.out.below' hb2);have e4:w2.cell? ⟨g3,4,none⟩=some (.int .i64 x.kind):=(K32.out.cell 4).trans HW4.out;have hl42:=K42.out.lt;clear hb2 K3 K4 HX HCK HNO;by_cases hmb:mayB x=true
 ·rw [if_pos hmb];have hk3b:(x.kind != 3)=true:=by have:=(HKD.out hmb).1; simpa using this
  have hk4b:(x.kind != 4)=true:=by have:=(HKD.out hmb).2; simpa using this
  clear hmb;go_wp2_with (refine Q01 (o:=⟨none,_,_,_,_,_⟩) rfl 47 (.tmp 4) (.tmp 23) rfl g4 0 (anC 0 none 0 0 0 none 0 0) rfl rfl 47 _ K42.out (Q0P _ _ _ _ _ _ _ _) (by simp [anC]) (Q0G _ _ _ _ _ _ _ _) ?_; intro w7 hT7 hD7; rw [Q19 _ rfl] at hD7)
  refine bodyPost_ret (Q0b rfl _ _ g4 4 47 _ _ rfl hD7 Tryz.underlying47 rfl rfl rfl) rfl ?_;exact HPG.out w7 (hT7.below HB2.out hgw4)
 ·rw [if_neg hmb];clear hmb;go_wp2_with (refine Q01 (o:=⟨none,_,_,_,_,_⟩) rfl 47 (.tmp 4) (.tmp 23) rfl g4 0 (anC 0 none 0 0 0 none 0 0) rfl rfl 47 _ K42.out (Q0P _ _ _ _ _ _ _ _) (by simp [anC]) (Q0G _ _ _ _ _ _ _ _) ?_; intro w7 hT7 hD7; rw [Q19 _ rfl] at hD7)
  refine bodyPost_ret (Q0b rfl _ _ g4 4 47 _ _ rfl hD7 Tryz.underlying47 rfl rfl rfl) rfl ?_;exact HPG.out w7 (hT7.below HB2.out hgw4)
theorem Q8v (w:World) (V:ALoc) (N:Nat->Prop) (m:AM) (h:AAt w V N m)
 (x:Wish) (A:Option Addr) (n c:Nat) (A':Option Addr) (n' c':Nat) (B:Nat) (hx:Q0Y w B x A n c A' n' c') (hB:B<=w.heap.size) :
 Calls Tryz.prog 39 #[.pointer (some ⟨V.g,0,none⟩),.agg (Q05 x A n c A' n' c')] w (Q2q w (Q1y m x)):=by
 cases hq:inQ x with
 | true =>
  have e:Q1y m x=oldQ m x:=by unfold Q1y; rw [if_pos hq]
  rw [e];exact Qbr w V N m h x A n c A' n' c' B hx hB hq
 | false =>
  have e:Q1y m x=(okA,false):=by unfold Q1y; rw [if_neg (by rw [hq]; simp)]
  rw [e];exact Q8J w V N m h x A n c A' n' c' B hx hB hq
end
end Go.Proofs.YtcpngeiahgoacaaGreat
