/- Parts of the proof, in one text. -/
import Derived.Test.YtcpngeiahgoacaaGreatM19
import Derived.Test.YtcpngeiahgoacaaGreatM15
import Derived.Test.YtcpngeiahgoacaaGreatM16
import Derived.Test.YtcpngeiahgoacaaGreatM13
import Derived.Test.YtcpngeiahgoacaaGreatM10
import Derived.Test.YtcpngeiahgoacaaGreatM8
import Derived.Test.YtcpngeiahgoacaaGreatM2
import Derived.Test.YtcpngeiahgoacaaGreatM1
import Derived.Test.YtcpngeiahgoacaaGreatM4
import Derived.Test.YtcpngeiahgoacaaGreatM18
import Derived.Test.YtcpngeiahgoacaaGreatM11
import Derived.Test.YtcpngeiahgoacaaGreatM5
import Derived.BigRegion
import Derived.Deep.DeepCutAuto
namespace Go.Proofs.YtcpngeiahgoacaaGreat
set_option linter.unusedVariables false
set_option linter.unusedSimpArgs false
set_option maxRecDepth 100000
set_option maxHeartbeats 16000000
open _root_.Go renaming World->zA,Value->zB
open _root_.Go.Act renaming put->zN
open _root_.Go.Proofs.Tryz renaming prog->zE,underlying60->zO
open _root_.Go.RowKit renaming Below->zD
open _root_.Go.RowKit.Below renaming refl->zH
open _root_.Go.World renaming alloc->zR
open _root_.List renaming getElem?_eq_getElem->zC,length_append->zG,getD_eq_getElem?_getD->zI,getElem_mem->zJ,map_append->zK,take_of_length_le->zM,take_succ_eq_append_getElem->zP
open _root_.Nat renaming le_refl->zF,zero_add->zL
open _root_.Option.some renaming inj->zQ
section
open Go.RowKit Go.Maps
attribute [local irreducible] wpList Q0h
theorem Qd1 {w:zA} {g:Nat} {x y z u:Int} (h:Blk w g 3 #[.int .i64 x,.int .i64 y,.int .i64 z,.int .i64 u]):Q08 w w.heap.size 1 (some ⟨g,0,none⟩) 4 ([x,y,z,u].map vn) :=
 ⟨rfl,fun _=>⟨_,rfl,h.lt,fun j t ht=>by
  have hj:j<4:=by have:=(List.getElem?_eq_some_iff.1 ht).1;simpa using this
  rw [Q11,zL,h.cell j];obtain rfl | rfl | rfl | rfl:j=0\/j=1\/j=2\/j=3:=by omega
  all_goals exact ht⟩⟩
theorem Q4u (m:AM) (i:Nat) (hi:i<6):(Q0g m).take (i+1)=(Q0g m).take i++[Q1v m i]:=by
 have hl:i<(Q0g m).length:=by rw [Q0z]; exact hi
 rw [zP hl];simp [Q0g]
def QaA (w:zA) (m:AM) (e:Ending) (w':zA):Prop:=∃ v vs,e=.returned v/\OwnL w' w.heap.size v (Q0g m) vs/\zD w.heap.size w w'
theorem Q4B (w:zA) (g:Nat) (N:Nat->Prop) (m:AM) (S:RASl) (h:Q1r w g N m S) :
 Calls zE 93 #[.pointer (some ⟨g,0,none⟩)] w (QaA w m):=by
 have HD:=sH (fun(W:zA) (hb:zD w.heap.size w W)=>h.below hb);have HCH0:=sH (Q7H w g 0 N m S h (by omega));obtain⟨i0,hi0,hz0,hz1,hz2⟩:=info_parts Q1E;obtain⟨j0,hj0,hy0,hy1,hy2⟩:=info_parts Q5r;have hlen:=fun i=>Q3E h.ok i
 have HLEN:=sH hlen;unfold QaA;clear h hlen;go_enter Tryz.func93,Tryz.ntmps93
 go_wp2_with fail
 refine HCH0.out.mono ?_;rintro _ w1 ⟨v0,rfl,ho0,hb1⟩;have HB1:=sH hb1;have hs1:=hb1.size;have HCH1:=sH (Q7H w1 g 1 N m S (HD.out w1 hb1) (by omega));have HO0:=sH ho0;obtain⟨A0,c0,rfl,_⟩:=Q0f ho0;obtain⟨n0,hn0⟩:∃ n,n=(Q1v m 0).length:=⟨_,rfl⟩;rw [<- hn0] at HO0 ⊢;clear hb1 ho0 HCH0 hn0;go_wp2_with fail
 refine HCH1.out.mono ?_;rintro _ w2 ⟨v1,rfl,ho1,hb2⟩;obtain⟨A1,c1,rfl,_⟩:=Q0f ho1;obtain⟨n1,hn1⟩:∃ n,n=(Q1v m 1).length:=⟨_,rfl⟩;rw [<- hn1] at ho1 ⊢;have HO02:=sH (HO0.out.below hb2);have HO1:=sH (ho1.more hs1);have HB2:=sH (HB1.out.trans (hb2.mono hs1));have hs2:=HB2.out.size;have hX:=Q04 w2 (.cells #[.slice A0 n0 c0,.slice A1 n1 c1] 22);have hk9:Blk (w2.alloc (.cells #[.slice A0 n0 c0,.slice A1 n1 c1] 22)) w2.heap.size 22 #[.slice A0 n0 c0,.slice A1 n1 c1]:=Blk.newAt rfl;have HST:=sH (show OwnL (w2.alloc (.cells #[.slice A0 n0 c0,.slice A1 n1 c1] 22)) w.heap.size (.slice (some ⟨w2.heap.size,0,none⟩) 2 2) ((Q0g m).take 2) [.slice A0 n0 c0,.slice A1 n1 c1] from by
  have e:(Q0g m).take 2=[Q1v m 0,Q1v m 1]:=by rw [Q4u m 1 (by omega),Q4u m 0 (by omega)]; simp
  rw [e];refine⟨⟨rfl,.inr ⟨w2.heap.size,2,_,rfl,hs2,hk9,zF _,by unfold maxLen; omega,rfl,rfl⟩⟩,fun k x hx=>?_⟩;match k,hx with
  | 0,hx=>rw [<- zQ hx]; exact⟨_,rfl,HO02.out.below hX⟩
  | 1,hx=>rw [<- zQ hx]; exact⟨_,rfl,HO1.out.below hX⟩)
 have HX:=sH (HB2.out.trans (hX.mono hs2));clear ho1 hb2 hX hk9 HO0 HCH1 hn1;go_wp2_with fail
 generalize zR w2 _=w3 at HST HX ⊢;go_loopw [3,4] (fun ov iv wr=>∃ (i:Nat) (vs:List zB),i<=4/\iv=.int .i64 i/\OwnL wr w.heap.size ov ((Q0g m).take (2+i)) vs/\zD w.heap.size w wr) (fun _ iv _=>4 - (intOf iv).toNat)
 case atStart=>exact⟨0,_,by omega,rfl,HST.out,HX.out⟩
 clear HST HX HB1 HB2
 obtain⟨i,vs,hi,rfl,hov,hlow⟩:=hrel;have HOV:=sH hov;have HL:=sH hlow;have hls:=hlow.size;by_cases hin:i<4
 ·have hinI:(i:Int)<4:=by omega
  have hd:=HD.out wr hlow;have hok:=hd.ok;have hlst:=hok.lst i;have hfar:=hd.nodes i hin;have hst:=hd.cStamp i hin;have hblk:=hd.cells;have hgl:=hblk.lt;have hcs:=fun j hj=>Qbf m S i j hin hj
  have hlq:Q1v m (2+i)=Q0P [((Q0B m i).1:Int),((Q0B m i).2.err:Int),((Q0B m i).2.epoch:Int),((Q0B m i).2.nodes.length:Int)]++Q0P (Q0B m i).2.nodes:=by unfold Q1v Q5H;rw [if_neg (by omega),show 2+i - 2=i by omega];unfold Q88;rw [Q5V]
  have hnb:=hlst.2.1.bound;have hst1:=hlst.1;have her:=hlst.2.1.err;have hep:=hlst.2.1.epoch;obtain⟨st,hste⟩:∃ k,k=(Q0B m i).1:=⟨_,rfl⟩;obtain⟨er,here⟩:∃ k,k=(Q0B m i).2.err:=⟨_,rfl⟩;obtain⟨ep,hepe⟩:∃ k,k=(Q0B m i).2.epoch:=⟨_,rfl⟩;obtain⟨ns,hns⟩:∃ k,k=(Q0B m i).2.nodes:=⟨_,rfl⟩;obtain⟨ln,hln⟩:∃ k,k=ns.length:=⟨_,rfl⟩;obtain⟨lA,hlA⟩:∃ k,k=S.lA i:=⟨_,rfl⟩;obtain⟨lC,hlC⟩:∃ k,k=S.lC i:=⟨_,rfl⟩;obtain⟨D,hDe⟩:∃ D,D=raN (Q0B m i).2 (S.lA i) (S.lC i):=⟨_,rfl⟩;rw [<- hDe] at hcs;rw [<- hste] at hst hlq hst1;rw [<- here] at hlq her;rw [<- hepe] at hlq hep;rw [<- hns,<- hln] at hlq hnb;rw [<- hns,<- hlA,<- hlC] at hfar;have hrd:=hfar.rd;rw [<- hln] at hrd;have hd0:D[0]?=some (.int .i64 (er:Int)):=by rw [hDe,here]; rfl
  have hd2:D[2]?=some (.int .i64 (ep:Int)):=by rw [hDe,hepe]; rfl
  have hd3:D[3]?=some (.slice lA ln lC):=by rw [hDe,hlA,hlC,hln,hns]; rfl
  have hds:D.size=4:=by rw [hDe]; rfl
  have hdo:D.all (·.oneCell')=true:=by rw [hDe]; simp [raN,anC,Value.oneCell']
  have HD0:=sH hd0;have HD2:=sH hd2;have HD3:=sH hd3;have HBL:=sH hblk;have HCS:=sH hcs;have HLQ:=sH hlq;have HLN:=sH hln;have HRD:=sH hrd;have hln7:ln<=7:=hnb.1;have HNUM:=sH (show ∀ z,z∈[(st:Int),(er:Int),(ep:Int),(ln:Int)]->NumI z from fun z hz=>by
   unfold NumI;unfold maxN at hst1;rcases List.mem_cons.1 hz with rfl | hz
   ·omega
   rcases List.mem_cons.1 hz with rfl | hz
   ·omega
   rcases List.mem_cons.1 hz with rfl | hz
   ·omega
   rw [List.mem_singleton.1 hz]; omega)
  have HNN:=sH (show ∀ z,z∈ns->NumI z from fun z hz=>by have:=hnb.2 z hz; unfold NumI; omega);have hst':=hst;have hgw:g<wr.heap.size:=hgl;obtain⟨Ao,co,hovv,_⟩:=hov.slice;have htl:((Q0g m).take (2+i)).length=2+i:=by rw [List.length_take,Q0z]; omega
  rw [htl] at hovv;have HTL:=sH htl;have hvl:vs.length=2+i:=by have:=hov.row.1; omega
  have HVL:=sH hvl;subst hovv;have HST:=sH hst;clear hov hlow hd hok hlst hfar hblk hcs hlq hnb hst1 her hep hste here hepe hns hln hlA hlC hDe hrd hd0 hd2 hd3 htl hvl hst' hst hgl;go_upto_region 6 with(first
   | (refine Q01 (o:=⟨some 21,_,_,_,_,_⟩) rfl 47 (.tmp 20) rfl g (7+i*4) 4 rfl 153 _ D _ HBL.out Tryz.underlying47 rfl rfl hds HCS.out ?_)
   | (refine Q00 (o:=⟨none,_,_,_,_,_⟩) rfl 47 (.tmp 5) (.tmp 21) rfl wr.heap.size 0 D rfl rfl 47 (anC 0 none 0 0 0 none 0 0) (Blk.newAt rfl) (by rw [hds]; kernel_rfl) (by rw [hds]; simp [anC]) hdo ?_; intro w5 hT5 hD5))
  rw [Q0c _ _ (by rw [hds]; rfl)] at hD5;have hb5:zD wr.heap.size wr w5:=hT5.below ((zH _ _).alloc (zF _) _) (zF _);obtain⟨q5,hq5⟩:∃ x,x=wr.heap.size:=⟨_,rfl⟩;rw [<- hq5] at hD5 ⊢;have hs5:=hb5.size;have HB5:=sH hb5;have C0:=sH (fun(W:zA) (hb:zD w5.heap.size w5 W)=>(hb.cell (p:=⟨q5,0,none⟩) hD5.lt).trans ((hD5.cell 0).trans HD0.out):∀ W,zD w5.heap.size w5 W->W.cell? ⟨q5,0,none⟩=some (.int .i64 (er:Int)));have C2:=sH (fun(W:zA) (hb:zD w5.heap.size w5 W)=>(hb.cell (p:=⟨q5,2,none⟩) hD5.lt).trans ((hD5.cell 2).trans HD2.out):∀ W,zD w5.heap.size w5 W->W.cell? ⟨q5,2,none⟩=some (.int .i64 (ep:Int)));have C3:=sH (fun(W:zA) (hb:zD w5.heap.size w5 W)=>(hb.cell (p:=⟨q5,3,none⟩) hD5.lt).trans ((hD5.cell 3).trans HD3.out):∀ W,zD w5.heap.size w5 W->W.cell? ⟨q5,3,none⟩=some (.slice lA ln lC));have CS:=sH (fun(W:zA) (hb:zD w5.heap.size w5 W)=>((hb5.trans (hb.mono hs5)).cell (p:=⟨g,3+i,none⟩) hgw).trans HST.out);clear hT5 hD5 hb5 hq5 HD0 HD2 HD3;refine Q0m 15 46 (fun jx W v=>match jx with | 0=>v=.pointer (some ⟨g,0,none⟩) | 1=>v=.int .i64 (i:Int) | 2=>v=.pointer (some ⟨g,0,none⟩) | 3=>v=.pointer (some ⟨g,3,none⟩) | 4=>v=.pointer (some ⟨g,3+i,none⟩) | 5=>v=.int .i64 (st:Int) | 6=>v=.pointer (some ⟨q5,0,none⟩) | 7=>v=.int .i64 (er:Int) | 8=>v=.pointer (some ⟨q5,2,none⟩) | 9=>v=.int .i64 (ep:Int) | 10=>v=.pointer (some ⟨q5,3,none⟩) | 11=>v=.slice lA ln lC | 12=>v=.int .i64 (ln:Int) | 13=>∃ g9,v=.slice (some ⟨g9,0,none⟩) 4 4/\Blk W g9 3 #[.int .i64 (st:Int),.int .i64 (er:Int),.int .i64 (ep:Int),.int .i64 (ln:Int)] | 14=>OwnB W wr.heap.size v (Q0P [(st:Int),(er:Int),(ep:Int),(ln:Int)]) | _=>True) [22,23,24,25,26,27,28,29,30,31,32,33,34,35,36] (by kernel_rfl) (by kernel_rfl) (by kernel_rfl) (by first | rfl | simp) (by kernel_rfl) (fun jx=>?last) ?heads ?_
  case last =>
   match jx with
   | 0 | 1 | 2 | 3 | 4 | 5 | 6 | 7 | 8 | 9 | 10 | 11 | 12 | jx+15=>exact Q15.pure _
   | 13=>exact fun W W' v ⟨g9,h1,h2⟩ hb=>⟨g9,h1,h2.below' hb⟩
   | 14=>exact fun W W' v h hb=>h.below hb
  case heads =>
   simp only [tT];and_intros;rotate_right;trivial;all_goals intro a W hb hkp hd
   ·have e0:(_:zB)=.pointer (some ⟨g,0,none⟩):=sK hkp 0;exact sV
   ·have e0:(_:zB)=.int .i64 (i:Int):=sK hkp 4;exact sV
   ·have e0:=sJ (hd 0) 22;exact sV
   ·have e0:=sJ (hd 2) 24;exact sV
   ·have e0:=sJ (hd 3) 25;have e1:=sJ (hd 1) 23;have hlt:=hinI;exact sV
   ·have e0:=sJ (hd 4) 26;have cc:=CS.out W hb;exact sV
   ·have e0:(_:zB)=.pointer (some ⟨q5,0,none⟩):=sK hkp 5;exact sV
   ·have e0:=sJ (hd 6) 28;have cc:=C0.out W hb;exact sV
   ·have e0:(_:zB)=.pointer (some ⟨q5,0,none⟩):=sK hkp 5;exact sV
   ·have e0:=sJ (hd 8) 30;have cc:=C2.out W hb;exact sV
   ·have e0:(_:zB)=.pointer (some ⟨q5,0,none⟩):=sK hkp 5;exact sV
   ·have e0:=sJ (hd 10) 32;have cc:=C3.out W hb;exact sV
   ·have e0:=sJ (hd 11) 33;exact sV
   ·have e0:=sJ (hd 5) 27;have e1:=sJ (hd 7) 29;have e2:=sJ (hd 9) 31;have e3:=sJ (hd 12) 34;exact Q1X rfl (.slice (some ⟨W.heap.size,0,none⟩) 4 4) (W.alloc (.cells #[.int .i64 (st:Int),.int .i64 (er:Int),.int .i64 (ep:Int),.int .i64 (ln:Int)] 3)) (by go_simp) (Q04 _ _) ⟨W.heap.size,rfl,Blk.new W _ _⟩
   obtain⟨g9,e0,h9⟩:=(sG (hd 13) 35:);refine Q0u rfl 139 #[.slice (some ⟨g9,0,none⟩) 4 4] (by go_simp) ((Q3T (some ⟨g9,0,none⟩) 4 4 [(st:Int),(er:Int),(ep:Int),(ln:Int)] W W.heap.size (Qd1 h9) (zF _) (by omega) HNUM.out).mono ?_);rintro e w' ⟨v,rfl,ho,hb'⟩;exact⟨v,rfl,hb',ho.more (by have:=hb.size; omega)⟩
  intro ff w6 hb6 hd;have h36:OwnB w6 wr.heap.size (ff 36) (Q0P [(st:Int),(er:Int),(ep:Int),(ln:Int)]):=hd 14 (by omega) _ 36 rfl rfl;simp only [Q0F,tU];clear hd;have c36:=C3.out w6 hb6;have HB6:=sH (HB5.out.trans (hb6.mono hs5));have HO6:=sH h36;have hs6:=HB6.out.size;have HNM:=sH (Q3T lA ln lC ns w6 wr.heap.size (HRD.out.below HB6.out) hs6 (by omega) HNN.out);have hl0:=Q2h _ HNUM.out;have hl1:=Q2h _ HNN.out;rw [<- HLN.out] at hl1;simp only [List.length_cons,List.length_nil] at hl0;clear h36 hb6;try simp only [zN,sA]
  generalize ff 36=bv at HO6 ⊢;go_wp2_with fail
  refine HNM.out.mono ?_;rintro _ w7 ⟨v3,rfl,ho3,hb7⟩;obtain⟨A2,c2,rfl,p1,p2,p3,p4⟩:=Q0f ho3;obtain⟨nx,hnx⟩:∃ k,k=(Q0P ns).length:=⟨_,rfl⟩;rw [<- hnx] at p3 hl1 ⊢;have HNX:=sH hnx;have HP3:=sH p3;have HO7:=sH (HO6.out.below hb7);have HB7:=sH (HB6.out.trans (hb7.mono hs6));have hs7:=HB7.out.size;have HOVR:=sH HOV.out;clear ho3 hb7 p1 p2 p3 p4 HNM hnx c36;go_wp2_with (at_builtin; go_must (refine Q03 _ rfl (.tmp 38) (.tmp 41) 22 rfl wr.heap.size 5 i0 _ 1 1 Tryz.underlying22 hi0 hz0 hz1 hz2 rfl (by omega) _ _ _ rfl HO7.out.row w7.heap.size A2 nx c2 ((Q0P ns).map vb) rfl HP3.out ?c1 ?c2 ?c3 ?c4 ?_))
  case c1=>intro u hu; obtain⟨y,_,rfl⟩:=List.mem_map.1 hu; rfl
  case c2=>unfold maxLen; omega
  case c3=>omega
  case c4=>omega
  intro v8 w8 hown8 hg8 hor8;have hb8:zD wr.heap.size wr w8:=Q0e HB7.out (by omega) hg8 (fun b hb=>HO7.out.ge hb);have ho8:OwnB w8 wr.heap.size v8 (Q1v m (2+i)):=by unfold OwnB;rw [HLQ.out,zG,zK,<- HNX.out];exact hown8
  have hs8:=hb8.size;have hl120:=HLEN.out (2+i);obtain⟨A8,c8,hv8,_⟩:=Q0f ho8;obtain⟨n8,hn8⟩:∃ k,k=(Q1v m (2+i)).length:=⟨_,rfl⟩;rw [<- hn8] at hv8;have HO8:=sH (ho8.more (B':=w.heap.size) hls);have HB8:=sH hb8;have HU:=sH hv8;have HW:=sH (show (w8.alloc (.cells #[v8] 22)).ownsRow w.heap.size 22 1 (.slice Ao (2+i) co) (2+i) vs from by have:=(Q0d HOVR.out.row (w':=w8) fun b hb''=>hb8.block b (Q07 HOVR.out.row hb'').2).alloc (.cells #[v8] 22);rw [HTL.out] at this;exact this)
  have HR8:=sH (Q0N w8 #[v8] 22);rw [hv8] at HW HR8 ⊢;clear hown8 hg8 hor8 hb8 ho8 hv8 HB7 HO7 HO6 hn8;go_wp2_with (at_builtin; go_must (refine Q03 _ rfl (.tmp 37) (.tmp 43) 23 rfl w.heap.size 22 j0 _ 1 24 Tryz.underlying23 hj0 hy0 hy1 hy2 rfl (by omega) _ (2+i) vs rfl HW.out (w8.heap.size+1) (some ⟨w8.heap.size,0,none⟩) 1 1 [.slice A8 n8 c8] rfl HR8.out ?c1 ?c2 ?c3 ?c4 ?_))
  case c1=>first | rfl | (intro z hz; rw [List.mem_singleton] at hz; subst hz; rfl)
  case c2=>unfold maxLen; omega
  case c3=>omega
  case c4=>first | omega | (simp; omega)
  intro v9 w9 hown9 hg9 hor9;rw [<- HU.out] at hown9 hg9;have ho9:OwnL w9 w.heap.size v9 ((Q0g m).take (2+(i+1))) (vs++[v8]):=by rw [show 2+(i+1)=(2+i)+1 by omega,Q4u m (2+i) (by omega)];exact HOVR.out.push HB8.out HO8.out (by rw [HTL.out]; exact hown9) hg9
  have hb9:zD w.heap.size w w9:=Q0e ((HL.out.trans (HB8.out.mono hls)).trans ((Q04 w8 (.cells #[v8] 22)).mono (by omega))) (by simp; omega) hg9 (fun b hb=>(Q07 HOVR.out.row hb).1);have HO9:=sH ho9;have HB9:=sH hb9;clear hown9 hg9 hor9 ho9 hb9;go_wp2_with fail
  go_roundw
  case rel=>exact⟨i+1,_,by omega,by go_num,HO9.out,HB9.out⟩
  case measure=>simp [intOf]; omega
 obtain rfl:i=4:=by omega
 have hinI:¬ (4:Int)<4:=by omega
 rw [zM (by rw [Q0z]; omega)] at hov;have HOV2:=sH hov;clear hov hlow;go_wp2_with fail
 go_ret
 first | exact⟨_,rfl,⟨_,HOV2.out⟩,HL.out⟩ | exact⟨_,_,rfl,HOV2.out,HL.out⟩
def Q5c (w:zA) (m:AM) (e:Ending) (w':zA):Prop:=∃ v,e=.returned v/\OwnB w' w.heap.size v (Q7M m)/\zD w.heap.size w w'
theorem Qbe (w:zA) (g:Nat) (N0:Nat->Prop) (m:AM) (S:RASl) (h:Q1r w g N0 m S) :
 Calls zE 94 #[.pointer (some ⟨g,0,none⟩)] w (Q5c w m):=by
 have hok:=h.ok;have HLV:=sH (Q4B w g N0 m S h);have hlen:=Q0z m;have hbl:∀ x,x∈Q0g m->x.length<=120:=fun x hx=>by obtain⟨i,_,rfl⟩:=List.mem_map.1 hx;exact Q3E hok i
 have hfl:=Q9f _ hbl;rw [hlen] at hfl;obtain⟨ls,hls⟩:∃ ls,ls=Q0g m:=⟨_,rfl⟩;unfold Q5c Q7M;unfold QaA at HLV;rw [<- hls] at HLV hlen hbl hfl ⊢;have HLN:=sH hlen;have HBL:=sH hbl;obtain⟨i0,hi0,hz0,hz1,hz2⟩:=info_parts Q1E;clear h hlen hbl hls hok;go_enter Tryz.func94,Tryz.ntmps94
 go_wp2_with fail
 refine HLV.out.mono ?_;rintro _ w1 ⟨v,vs,rfl,how,hb1⟩;obtain⟨A,c,rfl,hc,_,hrows,hge⟩:=how.slice;rw [HLN.out] at hc hrows ⊢;have HR:=sH hrows;have HB1:=sH hb1;have hs1:=hb1.size;clear how hrows hb1 hge HLV;go_wp2_with fail
 go_loopw [3,5] (fun ov iv wr=>∃ i:Nat,i<=6/\iv=.int .i64 i/\OwnB wr w1.heap.size ov ((ls.take i).map strB).flatten/\zD w1.heap.size w1 wr) (fun _ iv _=>6 - (intOf iv).toNat)
 case atStart=>exact⟨0,by omega,rfl,OwnB.nil _ _,zH _ _⟩
 obtain⟨i,hi,rfl,hov,hbel⟩:=hrel;have HOV:=sH hov;have HB:=sH hbel;have hsz:=hbel.size;clear hov hbel;by_cases hin:i<6
 ·have hinI:(i:Int)<6:=by omega
  have h0I:(0:Int)<=(i:Int):=by omega
  obtain⟨ad,hA,hadb,hcell⟩:=HR.out.2 (by omega);subst hA;have hxi:i<ls.length:=by have:=HLN.out; omega
  obtain⟨Ak,mk,ck,hck,hrk⟩:=hcell i ls[i] (zC hxi);have hck':=(HB.out.cell (show (ad.add i).block<w1.heap.size by rw [Q0a]; omega)).trans hck;have hmk:ls[i].length=mk:=by have:=hrk.1; simpa using this
  have hm120:mk<=120:=by have:=HBL.out _ (zJ hxi); omega
  have HST:=sH (Qcw Ak mk ck ls[i] wr wr.heap.size ((hrk.below HB.out).more hsz) (zF _) (by omega));obtain⟨ys,hys⟩:∃ ys,ys=((ls.take i).map strB).flatten:=⟨_,rfl⟩;have htk:((ls.take (i+1)).map strB).flatten=((ls.take i).map strB).flatten++strB ls[i]:=by rw [zP hxi,zK,List.flatten_append]; simp only [List.map_cons,List.map_nil,List.flatten_cons,List.flatten_nil,List.append_nil]
  have htl:((ls.take (i+1)).map strB).flatten.length<=(ls.map strB).flatten.length:=by
   conv=>rhs; rw [<- List.take_append_drop (i+1) ls,zK,List.flatten_append,zG]
   omega
  rw [htk,zG] at htl;rw [<- hys] at HOV htk htl;have HTK:=sH htk;clear hys;generalize strB ls[i]=x at HTK HST htl;clear hcell hck hrk hmk htk;go_wp2_with fail
  refine HST.out.mono ?_;rintro _ w2 ⟨v2,rfl,ho2,hb2⟩;obtain⟨A2,c2,rfl,p1,p2,p3,p4⟩:=Q0f ho2;obtain⟨nx,hnx⟩:∃ k,k=x.length:=⟨_,rfl⟩;rw [<- hnx] at p3 htl ⊢;have HNX:=sH hnx;have HP3:=sH p3;have HO2:=sH (HOV.out.below hb2);have HWN:=sH HO2.out.row;have HB2:=sH (HB.out.trans (hb2.mono hsz));have hs2:=hb2.size;clear ho2 hb2 p1 p2 p3 p4 HST hnx;go_wp2_with (at_builtin; go_must (refine Q03 _ rfl (.tmp 24) (.tmp 25) 22 rfl w1.heap.size 5 i0 _ 1 1 Tryz.underlying22 hi0 hz0 hz1 hz2 rfl (by omega) _ _ _ rfl HWN.out w2.heap.size A2 nx c2 (x.map vb) rfl HP3.out ?c1 ?c2 ?c3 ?c4 ?_))
  case c1=>intro u hu; obtain⟨y,_,rfl⟩:=List.mem_map.1 hu; rfl
  case c2=>unfold maxLen; omega
  case c3=>omega
  case c4=>omega
  intro v3 w3 hown3 hg3 hor3;have HB3:=sH (Q0e HB2.out (by omega) hg3 (fun b hb=>HO2.out.ge hb));have HO3:=sH (show OwnB w3 w1.heap.size v3 ((ls.take (i+1)).map strB).flatten by unfold OwnB;rw [HTK.out,zG,zK,<- HNX.out];exact hown3)
  clear hown3 hg3 hor3;go_wp2_with fail
  go_roundw
  case rel=>exact⟨i+1,by omega,by go_num,HO3.out,HB3.out⟩
  case measure=>simp [intOf]; omega
 obtain rfl:i=6:=by omega
 have hinI:¬ (6:Int)<6:=by omega
 go_wp2_with fail
 go_ret
 refine⟨_,rfl,?_,HB1.out.trans (HB.out.mono hs1)⟩;have:=HOV.out;rw [zM (by have:=HLN.out; omega)] at this;exact this.more hs1
theorem OwnL.kept_a {w:zA} {B0 r:Nat} {A:Option Addr} {n c:Nat} {N:Nat->Prop} {ls:LL} {vs:List zB} (h:OwnL w B0 (.slice A n c) ls vs) (hr:r<B0) (hN:∀ b,B0<=b->b<w.heap.size->N b):Q4L w r N A n ls:=fun W hs hk=>by
 have h2:OwnL W B0 (.slice A n c) ls vs:=h.keep fun b hb hl=>hk b hl (by
  rintro (e | e)
  ·omega
  exact e (hN b hb hl))
 obtain⟨A',c',e,_,_,q,_⟩:=h2.slice;injection e with e1 e2 e3
 subst e1 e2;exact q
theorem QcZ (w:zA) (g r k:Nat) (N0:Nat->Prop) (m:AM) (S:RASl) (N:Nat->Prop) (h:Q1r w g N0 m S) (hb:RBk w r N k) (hk:k<=800000) (hN:∀ b,N b->b<w.heap.size) :
 Calls zE 95 #[.pointer (some ⟨g,0,none⟩),.pointer (some ⟨r,0,none⟩)] w fun e w'=>e=.returned (.agg (bRow (Q2z (Q0g m))))/\RBk w' r N (k+24)/\Only (RM r N) w w':=by
 have hrl:=hb.lt;have hX:=Q04 w (.cells inkZ 60);have hk0:Blk (w.alloc (.cells inkZ 60)) w.heap.size 60 inkZ:=Blk.newAt rfl;have HX:=sH hX;have HK:=sH hk0;have HBK:=sH hb;have HLV:=sH (Q4B _ g N0 m S (h.below hX));unfold QaA at HLV;have hok:=h.ok;have hlen:=Q0z m;have HLEN:=sH (fun x (hx:x∈Q0g m)=>(show x.length<65536 by obtain⟨i,_,rfl⟩:=List.mem_map.1 hx;have:=Q3E hok i; omega))
 have HNN:=sH hN;have HZ:=sH Q1Y;have HZS:=sH (show inkZ.size=32 by simp [inkZ,bRow]);obtain⟨hone,hrl32⟩:=Qa2 (Q0g m) (by omega) (by omega);have hds:=Q0E hrl32;have hdo:=Q0K (Q2z (Q0g m));obtain⟨D,hD⟩:∃ D,D=bRow (Q2z (Q0g m)):=⟨_,rfl⟩;have HDE:=sH hD;rw [<- hD] at hds hdo ⊢;have HDS:=sH hds;have HDO:=sH hdo;have HLN:=sH hlen;obtain⟨g4,hg4⟩:∃ x,x=w.heap.size:=⟨_,rfl⟩;have hgw:w.heap.size<=g4:=by omega
 clear h hb hX hk0 hok hlen hN hone hrl32 hds hdo hD;go_enter Tryz.func95,Tryz.ntmps95
 go_upto_region 1 with fail
 rw [<- HZ.out];generalize zR w _=w1 at HX HK HLV ⊢;rw [<- hg4] at HK ⊢;have hl4:=HK.out.lt;have hs1:=HX.out.size;clear hg4;go_wp2_with fail
 refine HLV.out.mono ?_;rintro _ w2 ⟨v,vs,rfl,how,hb2⟩;obtain⟨A,c,rfl,hc,_,_,_⟩:=how.slice;rw [HLN.out] at how ⊢;have hs2:=hb2.size;have hX2:zD w.heap.size w w2:=HX.out.trans (hb2.mono hs1);have HRT:=sH (QbA w2 r k (fun b=>N b\/(w.heap.size<=b/\b<w2.heap.size)) A 6 c (Q0g m) (HBK.out.later hX2) hk (how.kept_a (by omega) fun b h1 h2=>.inr ⟨by omega,h2⟩) HLN.out (fun b hb=>by
  rcases hb with hb | hb
  ·have:=HNN.out b hb; omega
  exact hb.2) HLEN.out (by omega) (by omega))
 rw [<- HDE.out] at HRT;have HK2:=sH (HK.out.below' hb2);have HX2:=sH hX2;clear how hb2 hX2 HLV;go_wp2_with fail
 refine HRT.out.mono ?_;rintro _ w3 ⟨rfl,hbk3,ho3⟩;have hs3:=ho3.size;have HK3:=sH (ho3.blk HK2.out (by
  rintro (e | e)
  ·omega
  exact e (.inr ⟨hgw,by omega⟩)))
 have HB3:=sH hbk3;have HO3:=sH ((Only.of_below HX2.out).trans (ho3.mono fun b _=>RM.mono (N:=N) fun b=>.inl));clear hbk3 ho3 HRT;go_upto_region 2 with(refine Q00 (o:=⟨none,_,_,_,_,_⟩) rfl 60 (.tmp 5) (.tmp 12) rfl w3.heap.size 0 D rfl rfl 60 inkZ (by rw [HZ.out]; exact Blk.newAt rfl) (by rw [HDS.out]; rfl) (by rw [HDS.out,HZS.out]; omega) HDO.out ?_; intro w4 hT4 hD4; rw [Q0c _ _ (by rw [HDS.out,HZS.out])] at hD4)
 have hb4:zD w3.heap.size w3 w4:=hT4.below ((zH _ _).alloc (zF _) _) (zF _);have hs4:=hb4.size;have HB4:=sH (HB3.out.below hb4);have HO4:=sH (HO3.out.trans (Only.of_below hb4));have HK4:=sH (HK3.out.below' hb4);have HD4:=sH hD4;obtain⟨g5,hg5⟩:∃ x,x=w3.heap.size:=⟨_,rfl⟩;rw [<- hg5] at HD4 ⊢;clear hT4 hD4 hb4 hg5 HB3 HO3 HK3;go_wp2_with (first
  | (refine Q01 (o:=⟨some 14,_,_,_,_,_⟩) rfl 60 (.tmp 5) rfl g5 0 32 rfl 60 D D _ HD4.out zO rfl rfl HDS.out (fun _ _=>by rw [zL]) ?_)
  | (refine Q00 (o:=⟨none,_,_,_,_,_⟩) rfl 60 (.tmp 4) (.tmp 14) rfl g4 0 D rfl rfl 60 inkZ HK4.out (by rw [HDS.out]; rfl) (by rw [HDS.out,HZS.out]; omega) HDO.out ?_; intro w5 hT5 hD5; rw [Q0c _ _ (by rw [HDS.out,HZS.out])] at hD5))
 refine bodyPost_ret (Q0t rfl _ _ g4 32 60 _ _ rfl hD5 zO rfl rfl HDS.out) rfl ⟨rfl,?_,?_⟩
 ·exact(HB4.out.turned hT5 (.inr ⟨hgw,by omega⟩) (by omega)).less (by omega) fun b=>.inl
 exact⟨hT5.os.trans HO4.out.os,hT5.tape.trans HO4.out.tape,hT5.output.trans HO4.out.output,by rw [hT5.size]; exact HO4.out.size,fun i hi hn=>(hT5.block i (by omega)).trans (HO4.out.block i hi hn)⟩
theorem QbS (xss:LL):Q15 fun W v=>∃ A c,v=.slice A 6 c/\Q45 W W.heap.size A 6 xss:=fun W W' v ⟨A,c,h1,h2⟩ hb=>⟨A,c,h1,(h2.below hb).more hb.size⟩
theorem lasts_bs (n:Nat) (bs:List UInt8):Q15 fun W v=>∃ A c,v=.slice A n c/\n<=c/\Q08 W W.heap.size 1 A n (bs.map vb):=fun W W' v ⟨A,c,h1,h2,h3⟩ hb=>⟨A,c,h1,h2,(h3.below hb).more hb.size⟩
theorem lasts_bk (B:Nat):Q15 fun W v=>∃ r,v=.pointer (some ⟨r,0,none⟩)/\B<=r/\RBk W r (fun b=>b<B) 0:=fun W W' v ⟨r,h1,h2,h3⟩ hb=>⟨r,h1,h2,h3.below hb⟩
theorem QcT {l:List Int} {a:List (Int×Int)} {x:List Int} (h:x∈Q12 l a):∃ i,i<=a.length/\x=nowL l (a.take i):=by obtain⟨i,hi,rfl⟩:=List.getElem_of_mem h;rw [Q1J] at hi;have:=Q5o l a i (by omega);exact⟨i,by omega,by rw [zC (by rw [Q1J]; omega)] at this; exact zQ this⟩
theorem QcH {m:AM} (h:AOk m) (c:Nat):(crLs m c).length<=22/\∀ l,l∈crLs m c->l.length<=7:=by
 unfold crLs;split
 ·exact⟨by simp,fun l hl=>by cases hl⟩
 cases hs:m.chunks[c - 1]? with
 | none=>exact⟨by simp,fun l hl=>by cases hl⟩
 | some s =>have hok:=h.srv s (List.mem_of_getElem? hs);refine⟨by rw [Q1J]; have:=hok.len; omega,fun l hl=>?_⟩;obtain⟨i,_,rfl⟩:=QcT hl;exact((hok.mv.take i).now hok.crew).short.2
theorem Qab (w:zA) (V:ALoc) (N N2:Nat->Prop) (m:AM) (g:Nat) (S:RASl) (h:AAt w V N m) (hr:Q1r w g N2 m S) :
 Calls zE 42 #[.pointer (some ⟨V.g,0,none⟩),.pointer (some ⟨g,0,none⟩)] w fun e w'=>e=.returned (.bool true)/\zD w.heap.size w w':=by
 have HV:=sH (fun(W:zA) (hb:zD w.heap.size w W)=>h.below hb);have HRV:=sH (fun(W:zA) (hb:zD w.heap.size w W)=>hr.below hb);have hok:=hr.ok;have hlvn:=Q0z m;have hml:∀ x,x∈Q0g m->x.length<=120:=fun x hx=>by obtain⟨i,_,rfl⟩:=List.mem_map.1 hx;exact Q3E hok i
 have hbm:(Q7M m).length<=maxLen:=by have:=Q9f (Q0g m) hml;unfold Q7M maxLen;omega
 have hone:=Qa2 (Q0g m) (by omega) (by omega);have hds:(bRow (Q2z (Q0g m))).size=32:=Q0E hone.2;have hdo:=Q0K (Q2z (Q0g m));have hneq:=fun(W:zA)=>Qd0 (Q2z (Q0g m)) (Q2z (Q0g m)) hone.2 hone.2 W
 obtain⟨D,hD⟩:∃ D,D=bRow (Q2z (Q0g m)):=⟨_,rfl⟩;have HDE:=sH hD;rw [<- hD] at hds hdo hneq;simp only [bne_self_eq_false] at hneq;have HNEQ:=sH hneq;have HDS:=sH hds;have HDO:=sH hdo;have HZ:=sH Q1Y;have HZS:=sH (show inkZ.size=32 by simp [inkZ,bRow]);have HML:=sH (fun(x:List UInt8) (hx:x∈Q0g m)=>(show x.length<=maxLen by have:=hml x hx; unfold maxLen; omega));have HBM:=sH hbm;have HLVN:=sH hlvn;have HOK:=sH hok;have HBY:=sH (Qd2 w V N m h);unfold Q62 at HBY;clear h hr hD hds hdo hneq hml hbm hlvn hone hok;go_enter Tryz.func42,Tryz.ntmps42
 go_wp2_with fail
 refine HBY.out.mono ?_;rintro _ w2 ⟨v,rfl,ho2,hb2⟩;obtain⟨A2,c2,rfl,_,_,hr2,_⟩:=Q0f ho2;obtain⟨bs,hbs⟩:∃ b,b=Q7M m:=⟨_,rfl⟩;rw [<- hbs] at hr2 ⊢;rw [<- hbs] at HBM;have HBS:=sH hbs;obtain⟨bn,hbn⟩:∃ b,b=bs.length:=⟨_,rfl⟩;rw [<- hbn] at hr2 ⊢;rw [<- hbn] at HBM;have HBN:=sH hbn;have HR2':=sH hr2;have HB2:=sH hb2;have HRT:=sH (QdS w2 V N m (HV.out w2 hb2));rw [<- HDE.out] at HRT;have hs2:=hb2.size;clear ho2 hb2 hr2 HBY hbs hbn;go_wp2_with fail
 refine HRT.out.mono ?_;rintro _ w3 ⟨rfl,hb3⟩;have hs23:=hb3.size;have HB23:=sH hb3;clear hb3 HRT;go_upto_region 3 with(refine Q00 (o:=⟨none,_,_,_,_,_⟩) rfl 60 (.tmp 7) (.tmp 21) rfl w3.heap.size 0 D rfl rfl 60 inkZ (by rw [HZ.out]; exact Blk.newAt rfl) (by rw [HDS.out]; rfl) (by rw [HDS.out,HZS.out]; omega) HDO.out ?_; intro w4 hT4 hD4; rw [Q0c _ _ (by rw [HDS.out,HZS.out])] at hD4)
 have hb34:zD w3.heap.size w3 w4:=hT4.below ((zH _ _).alloc (zF _) _) (zF _);have hs34:=hb34.size;have HB4:=sH (HB2.out.trans ((HB23.out.mono hs2).trans (hb34.mono (by omega))));have HR2:=sH ((HR2'.out.below (HB23.out.trans (hb34.mono (by omega)))).more (B':=w4.heap.size) (by omega));have K8:=sH hD4;obtain⟨g8,hg8⟩:∃ x,x=w3.heap.size:=⟨_,rfl⟩;rw [<- hg8] at K8 ⊢;have hs4:=HB4.out.size;have hV4:∀ W,zD w4.heap.size w4 W->AAt W V N m:=fun W hb=>HV.out W (HB4.out.trans (hb.mono hs4))
 have hR4:∀ W,zD w4.heap.size w4 W->Q1r W g N2 m S:=fun W hb=>HRV.out W (HB4.out.trans (hb.mono hs4))
 obtain⟨lv,hlv⟩:∃ l,l=Q0g m:=⟨_,rfl⟩;obtain⟨cn,hcn⟩:∃ l,l=m.chunks.length:=⟨_,rfl⟩;have hal:=fun(W:zA) (hb:zD w4.heap.size w4 W)=>Q7z W V N m (hV4 W hb)
 have hrl:=fun(W:zA) (hb:zD w4.heap.size w4 W)=>Q4B W g N2 m S (hR4 W hb)
 have hrb:=fun(W:zA) (hb:zD w4.heap.size w4 W)=>Qbe W g N2 m S (hR4 W hb)
 have hrr:=fun(W:zA) (r:Nat) (hb:zD w4.heap.size w4 W) (hk:RBk W r (fun b=>b<w4.heap.size) 0)=>QcZ W g r 0 N2 m S (fun b=>b<w4.heap.size) (hR4 W hb) hk (by omega) (fun b h=>by have:=hb.size; omega)
 have hca:=fun(W:zA) (hb:zD w4.heap.size w4 W)=>(by obtain⟨S',hd'⟩:=(hV4 W hb).dat;exact Q7X W V.g V.gc V.T.t N m S' hd':Calls zE 55 #[.pointer (some ⟨V.g,0,none⟩)] W fun e w'=>e=.returned (.int .i64 (m.chunks.length:Int))/\w'=W)
 have hcr:=fun(W:zA) (hb:zD w4.heap.size w4 W)=>QaP W g N2 m S (hR4 W hb)
 unfold QaA at hrl;unfold Qb1 at hal;unfold Q5c at hrb;rw [<- hlv] at HML HLVN HDE;simp only [<- hlv] at hal hrl;simp only [<- HBS.out] at hrb;simp only [<- hlv,<- HDE.out] at hrr;simp only [<- hcn] at hca hcr;have HAL:=sH hal;have HRL:=sH hrl;have HRB:=sH hrb;have HRR:=sH hrr;have HCA:=sH hca;have HCR:=sH hcr;clear hT4 hD4 hb34 hg8 hV4 hR4 hlv hcn hal hrl hrb hrr hca hcr;refine Q4w 34 94 (fun jx W v=>match jx with | 0=>v=.pointer (some ⟨V.g,0,none⟩) | 1=>∃ A c,v=.slice A 6 c/\Q45 W W.heap.size A 6 lv | 2=>v=.pointer (some ⟨g,0,none⟩) | 3=>∃ A c,v=.slice A 6 c/\Q45 W W.heap.size A 6 lv | 4=>v=.bool true | 5=>v=.bool false | 6=>v=.bool false | 7=>v=.int .i64 0 | 8=>v=.bool false | 9=>v=.bool false | 10=>v=.bool false | 11=>v=.slice A2 bn c2 | 12=>v=.pointer (some ⟨g,0,none⟩) | 13=>∃ A c,v=.slice A bn c/\bn<=c/\Q08 W W.heap.size 1 A bn (bs.map vb) | 14=>v=.bool true | 15=>v=.bool false | 16=>v=.bool false | 17=>v=.bool false | 18=>v=.int .i64 0 | 19=>v=.bool false | 20=>v=.bool false | 21=>v=.bool false | 22=>v=.agg D | 23=>v=.pointer (some ⟨g,0,none⟩) | 24=>∃ r,v=.pointer (some ⟨r,0,none⟩)/\w4.heap.size<=r/\RBk W r (fun b=>b<w4.heap.size) 0 | 25=>v=.agg D | 26=>v=.bool false | 27=>v=.bool false | 28=>v=.bool false | 29=>v=.pointer (some ⟨V.g,0,none⟩) | 30=>v=.int .i64 (cn:Int) | 31=>v=.pointer (some ⟨g,0,none⟩) | 32=>v=.int .i64 (cn:Int) | 33=>v=.bool false | _=>True) (fun _ W=>zD w4.heap.size w4 W) (fun _ _=>True) [25] (fun _=>[1,3,13,24]) (fun _=>[]) [23,24,25,26,27,28,29,30,31,32,33,34,35,36,37,38,39,40,41,42,43,44,45,46,47,48,49,50,51,52,53,54,55,56] (by kernel_rfl) (by kernel_rfl) (by kernel_rfl) (by kernel_rfl) (by kernel_rfl) (by kernel_rfl) (by first | rfl | simp) (by kernel_rfl) (fun jx=>?last) ?lastR ?jay (zH _ _) ?heads ?_
 case last =>
  match jx with
  | 0 | 2 | 4 | 5 | 6 | 7 | 8 | 9 | 10 | 11 | 12 | 14 | 15 | 16 | 17 | 18 | 19 | 20 | 21 | 22 | 23 | 25 | 26 | 27 | 28 | 29 | 30 | 31 | 32 | 33 | jx+34=>exact Q15.pure _
  | 1=>exact QbS _
  | 3=>exact QbS _
  | 13=>exact lasts_bs _ _
  | 24=>exact lasts_bk _
 case lastR =>
  intro s jx W W' v hsl hdd hlt hs hj hp hr;match jx with
  | 0 | 2 | 4 | 5 | 6 | 7 | 8 | 9 | 10 | 11 | 12 | 14 | 15 | 16 | 17 | 18 | 19 | 20 | 21 | 22 | 23 | 25 | 26 | 27 | 28 | 29 | 30 | 31 | 32 | 33 | jx+34=>exact hp
  | 1=>exact absurd (by decide) hdd
  | 3=>exact absurd (by decide) hdd
  | 13=>exact absurd (by decide) hdd
  | 24=>exact absurd (by decide) hdd
 case jay =>intro s W W' hj hb;exact hj.trans (hb.mono hj.size)
 case heads =>
  simp only [tT];and_intros;rotate_right;trivial
  all_goals try(rw [if_neg (by decide)];intro s a W hb hkp hd)
  ·have e0:(_:zB)=.pointer (some ⟨V.g,0,none⟩):=sK hkp 0;exact sV
  ·have e0:=sJ (hd 0) 23;refine Q0u rfl 57 #[.pointer (some ⟨V.g,0,none⟩)] (by go_simp) ((HAL.out W hb).mono ?_);rintro e w ⟨v,vs,rfl,ho,hb'⟩;obtain⟨A,c,h1,_,_,h4,_⟩:=ho.slice;rw [HLVN.out] at h1 h4;exact⟨v,rfl,hb',A,c,h1,h4⟩
  ·have e0:(_:zB)=.pointer (some ⟨g,0,none⟩):=sK hkp 1;exact sV
  ·have e0:=sJ (hd 2) 25;refine Q0u rfl 93 #[.pointer (some ⟨g,0,none⟩)] (by go_simp) ((HRL.out W hb).mono ?_);rintro e w ⟨v,vs,rfl,ho,hb'⟩;obtain⟨A,c,h1,_,_,h4,_⟩:=ho.slice;rw [HLVN.out] at h1 h4;exact⟨v,rfl,hb',A,c,h1,h4⟩
  ·obtain⟨Aa,ca,e1,r1⟩:=(sG (hd 1) 24:);obtain⟨Ab,cb,e2,r2⟩:=(sG (hd 3) 26:);exact Q0u rfl 15 #[.slice Aa 6 ca,.slice Ab 6 cb] (by go_simp) ((Q84 Aa Ab 6 ca 6 cb lv lv W W.heap.size r1 r2 (zF _) (by omega) (by omega) HML.out HML.out).mono fun e w h=>⟨.bool true,by rw [h.1]; simp,h.2,rfl⟩)
  ·have e0:=sJ (hd 4) 27;exact sV
  ·have e0:=sJ (hd 5) 28;exact sV
  ·have eg:=sJ (hd 6) 29;have e0:(_:zB)=.int .i64 0:=sK hkp 6;exact sV (Q02 rfl rfl eg)
  ·have eg:=sJ (hd 6) 29;have e0:=sJ (hd 7) 30;exact sV (Q02 rfl rfl eg)
  ·have e0:=sJ (hd 6) 29;have e1:=sJ (hd 8) 31;exact sV
  ·have e0:=sJ (hd 9) 32;exact sV
  ·have eg:=sJ (hd 10) 33;have e0:(_:zB)=.slice A2 bn c2:=sK hkp 5;exact sV (Q02 rfl rfl eg)
  ·have eg:=sJ (hd 10) 33;have e0:(_:zB)=.pointer (some ⟨g,0,none⟩):=sK hkp 1;exact sV (Q02 rfl rfl eg)
  ·have eg:=sJ (hd 10) 33;have e0:=sJ (hd 12) 35;refine Q0u (Q02 rfl rfl eg) 94 #[.pointer (some ⟨g,0,none⟩)] (by go_simp) ((HRB.out W hb).mono ?_);rintro e w ⟨v,rfl,ho,hb'⟩;obtain⟨A,c,h1,h2,_,h4,_⟩:=Q0f ho;rw [<- HBN.out] at h1 h2 h4;exact⟨v,rfl,hb',A,c,h1,h2,h4⟩
  ·have eg:=sJ (hd 10) 33;have e0:=sJ (hd 11) 34;obtain⟨Ab,cb,e2,q2,r2⟩:=(sG (hd 13) 36:);exact Q0u (Q02 rfl rfl eg) 14 #[.slice A2 bn c2,.slice Ab bn cb] (by go_simp) ((Q2b A2 Ab bn bn c2 cb bs bs W W.heap.size W.heap.size ((HR2.out.below hb).more hb.size) r2 HBM.out HBM.out).mono fun e w h=>⟨.bool true,by rw [h.1]; simp,(by obtain⟨k,hk⟩:=h.2; rw [hk]; exact Q0v (zH _ _) _),rfl⟩)
  ·have eg:=sJ (hd 10) 33;have e0:=sJ (hd 14) 37;exact sV (Q02 rfl rfl eg)
  ·have e0:=sJ (hd 10) 33;have e1:=sJ (hd 15) 38;exact sV
  ·have e0:=sJ (hd 16) 39;exact sV
  ·have eg:=sJ (hd 17) 40;have e0:(_:zB)=.int .i64 0:=sK hkp 8;exact sV (Q02 rfl rfl eg)
  ·have eg:=sJ (hd 17) 40;have e0:=sJ (hd 18) 41;exact sV (Q02 rfl rfl eg)
  ·have e0:=sJ (hd 17) 40;have e1:=sJ (hd 19) 42;exact sV
  ·have e0:=sJ (hd 20) 43;exact sV
  ·have eg:=sJ (hd 21) 44;have e0:a.eval (.tmp 7)=.pointer (some ⟨g8,0,none⟩):=hkp.at_ (by kernel_rfl);exact Q0j (Q02 rfl rfl eg) (.agg D) (Q0p 60 (.tmp 7) rfl g8 0 32 e0 60 _ D _ (K8.out.below' hb) zO rfl rfl HDS.out (fun _ _=>by rw [zL])) rfl
  ·have eg:=sJ (hd 21) 44;have e0:(_:zB)=.pointer (some ⟨g,0,none⟩):=sK hkp 1;exact sV (Q02 rfl rfl eg)
  ·have eg:=sJ (hd 21) 44;refine Q0u (Q02 rfl rfl eg) 74 #[] (by go_simp) ((QbN W).mono ?_);rintro e w ⟨r,rfl,h1,h2,h3,h4⟩;exact⟨_,rfl,h4,r,rfl,Nat.le_trans hb.size h1,RBk.start h3 _⟩
  ·rw [if_pos (by decide)];intro s a W hs hb hkp hd;have eg:=sJ (hd 21) 44;have e0:=sJ (hd 23) 46;obtain⟨r,e2,q2,r2⟩:=(sG (hd 24) 47:);refine Q4q (Q02 rfl rfl eg) 95 #[.pointer (some ⟨g,0,none⟩),.pointer (some ⟨r,0,none⟩)] (by go_simp) ((HRR.out W r hb r2).mono ?_);rintro e w ⟨rfl,h1,h2⟩;have hbw:zD w4.heap.size W w:=h2.below hb.size fun b hb1 hb2=>by
    rcases hb2 with e | e
    ·omega
    exact e hb1
   exact⟨_,rfl,trivial,hb.trans hbw,rfl⟩
  ·have eg:=sJ (hd 21) 44;have e0:a.eval (.tmp 45)=.agg D:=(hd 22 (by kernel_rfl)) _ 45 rfl rfl;have e1:a.eval (.tmp 48)=.agg D:=(hd 25 (by kernel_rfl)) _ 48 rfl rfl;exact Q0j (Q02 rfl rfl eg) (.bool false) (Qa8 60 (.tmp 45) (.tmp 48) _ rfl D D e0 e1 Qcz _ (HNEQ.out W)) rfl
  ·have e0:=sJ (hd 21) 44;have e1:=sJ (hd 26) 49;exact sV
  ·have e0:=sJ (hd 27) 50;exact sV
  ·have eg:=sJ (hd 28) 51;have e0:(_:zB)=.pointer (some ⟨V.g,0,none⟩):=sK hkp 0;exact sV (Q02 rfl rfl eg)
  ·have eg:=sJ (hd 28) 51;have e0:=sJ (hd 29) 52;exact Q0u (Q02 rfl rfl eg) 55 #[.pointer (some ⟨V.g,0,none⟩)] (by go_simp) ((HCA.out W hb).mono fun e w h=>⟨_,h.1,by rw [h.2]; exact zH _ _,rfl⟩)
  ·have eg:=sJ (hd 28) 51;have e0:(_:zB)=.pointer (some ⟨g,0,none⟩):=sK hkp 1;exact sV (Q02 rfl rfl eg)
  ·have eg:=sJ (hd 28) 51;have e0:=sJ (hd 31) 54;exact Q0u (Q02 rfl rfl eg) 96 #[.pointer (some ⟨g,0,none⟩)] (by go_simp) ((HCR.out W hb).mono fun e w h=>⟨_,h.1,by rw [<- h.2]; exact zH _ _,rfl⟩)
  have eg:=sJ (hd 28) 51;have e0:=sJ (hd 30) 53;have e1:=sJ (hd 32) 55;exact sV (Q02 rfl rfl eg)
 intro f W hbW hd;have f51:f 51=.bool false:=hd 28 (by omega) (by decide) _ 51 rfl rfl;have f56:f 56=.bool false:=hd 33 (by omega) (by decide) _ 56 rfl rfl;have HLW:=sH (HB4.out.trans (hbW.mono hs4));clear hd hbW;simp only [Q0F,tU,f51,f56];try simp only [zN,sA]
 go_wp2_with fail
 go_loopw [9] (fun iv wr=>∃ i:Nat,i<=4/\iv=.int .i64 i/\zD w.heap.size w wr) (fun iv _=>4 - (intOf iv).toNat)
 case atStart=>exact⟨0,by omega,rfl,HLW.out⟩
 clear HLW
 obtain⟨i,hi,rfl,hlow⟩:=hrel;have HL:=sH hlow;have hls:=hlow.size;obtain⟨wo,hwo⟩:∃ x,x=wr:=⟨_,rfl⟩;rw [<- hwo] at HL hlow hls ⊢;have HBASE:=sH hls;clear hwo;by_cases hin:i<4
 ·have hinI:(i:Int)<4:=by omega
  have HCA1:=sH (Q9z wo V N m i (by omega) (HV.out wo hlow));have HCR1:=sH (fun(W:zA) (hb:zD wo.heap.size wo W)=>Q89 W g N2 m i (by omega) S (HRV.out W (hlow.trans (hb.mono hls))));unfold Q6g at HCA1 HCR1;have hsh:=QcH HOK.out i;obtain⟨ls,hlse⟩:∃ l,l=crLs m i:=⟨_,rfl⟩;obtain⟨f,hf⟩:∃ l,l=crFa m i:=⟨_,rfl⟩;rw [<- hlse,<- hf] at HCA1 HCR1;rw [<- hlse] at hsh;have HSH:=sH hsh;have hls22:=hsh.1;clear hlow hlse hf hsh;go_wp2_with fail
  refine HCA1.out.mono ?_;rintro _ w5 ⟨v,nA,nC,rfl,how,hb5⟩;obtain⟨Ac,cc,hv,hcat⟩:=how.crewsAt fun l hl=>by have:=HSH.out.2 l hl; omega
  obtain⟨n,hn⟩:∃ n,n=ls.length:=⟨_,rfl⟩;rw [<- hn] at hv hls22;subst hv;have hca1:=hcat ls.length (zF _);rw [zM (zF _),<- hn] at hca1;have HN:=sH hn;have HCAT:=sH hca1;have HOW:=sH how;have HB5:=sH hb5;have HCR2:=sH (HCR1.out w5 hb5);have hs5:=hb5.size;clear how hb5 hcat hca1 hn HCA1 HCR1;go_wp2_with fail
  refine HCR2.out.mono ?_;rintro _ w6 ⟨v2,nA2,nC2,rfl,how2,hb6⟩;obtain⟨Ad,cd,hv2,hcat2⟩:=how2.crewsAt fun l hl=>by have:=HSH.out.2 l hl; omega
  rw [<- HN.out] at hv2;subst hv2;have hca2:=hcat2 ls.length (zF _);rw [zM (zF _),<- HN.out] at hca2;have HSC:=sH (Q9x Ac Ad n cc n cd (Q5a f ls) (Q5a f ls) w6 (HCAT.out.below hb6) hca2 (by omega) (by omega));rw [decide_eq_true rfl] at HSC;have HOW6:=sH (HOW.out.below hb6);have HB6:=sH (HB5.out.trans (hb6.mono hs5));have hs6:=HB6.out.size;clear how2 hb6 hcat2 hca2 HCR2 HOW HCAT;go_wp2_with fail
  refine HSC.out.mono ?_;rintro _ w7 ⟨rfl,hb7⟩;have HM7:=sH (Q81.of (HOW6.out.below hb7) (HB6.out.trans (hb7.mono hs6)));clear hb7 HSC HOW6;go_wp2_with fail
  go_loopw [11] (fun kv W=>∃ k:Nat,k<=n/\kv=.int .i64 k/\Q81 wo.heap.size wo W (.slice Ac n cc) f ls nA nC) (fun kv _=>n - (intOf kv).toNat)
  case atStart=>exact⟨0,by omega,rfl,HM7.out⟩
  clear HM7 HB6 HB5
  obtain⟨k,hk,rfl,hm⟩:=hrel;have HM:=sH hm;by_cases hkn:k<n
  ·have hkI:(k:Int)<(n:Int):=by omega
   have hkl:k<ls.length:=by have:=HN.out; omega
   have hlk:=zC hkl;have hlm:=HSH.out.2 _ (zJ hkl);generalize ls[k]=l at hlk hlm;obtain⟨gl,hAc,hcl⟩:=hm.cell HN.out.symm hlk;subst hAc;have HLK:=sH hlk;obtain⟨ln,hln⟩:∃ x,x=l.length:=⟨_,rfl⟩;obtain⟨An,hAn⟩:∃ x,x=nA k:=⟨_,rfl⟩;obtain⟨cn',hcn'⟩:∃ x,x=nC k:=⟨_,rfl⟩;rw [<- hln,<- hAn,<- hcn'] at hcl;rw [<- hln] at hlm;have HLN:=sH hln;have HAN:=sH hAn;have HCN:=sH hcn';clear hm hlk hln hAn hcn';go_wp2_with fail
   go_loopw [12] (fun qv W=>∃ q:Nat,q<=ln/\qv=.int .i64 q/\Q81 wo.heap.size wo W (.slice (some ⟨gl,0,none⟩) n cc) f ls nA nC) (fun qv _=>ln - (intOf qv).toNat)
   case atStart=>exact⟨0,by omega,rfl,HM.out⟩
   clear HM hcl
   obtain⟨q,hq,rfl,hm⟩:=hrel;have HM:=sH hm;obtain⟨gl',hAc,hcl⟩:=hm.cell HN.out.symm HLK.out;injection hAc with hAc
   injection hAc with hAc
   subst hAc;obtain⟨hI,hB⟩:=hm.nin k l HLK.out;rw [<- HLN.out,<- HAN.out,<- HCN.out] at hcl hI hB;by_cases hqn:q<ln
   ·have hqI:(q:Int)<(ln:Int):=by omega
    rcases hI with h0 | ⟨gi,cap,cur,hv,hBk,hcur⟩
    ·omega
    injection hv with hv1 _ hv3
    have hgi:=hB gi (by rw [hv1]; rfl);obtain⟨u,hu⟩:=hcur q hqn;have hcell:=(hBk.cell q).trans hu;have hfz:=hBk.frozen q;have HBk:=sH hBk;have HGI:=sH hgi;have hAn:An=some ⟨gi,0,none⟩:=hv1;clear hBk hcur hu hm hv3 hB hgi hv1;rw [hAn] at hcl;clear hAn;go_wp2_with fail
    go_roundw
    case rel=>exact⟨q+1,by omega,by go_num,HM.out.put HGI.out HBk.out q 0⟩
    case measure=>simp [intOf]; omega
   obtain rfl:q=ln:=by omega
   have hqI:¬ (q:Int)<(q:Int):=by omega
   clear hm hI hB;go_wp2_with fail
   go_roundw
   case rel=>exact⟨k+1,by omega,by go_num,HM.out⟩
   case measure=>simp [intOf]; omega
  obtain rfl:k=n:=by omega
  have hkI:¬ (k:Int)<(k:Int):=by omega
  clear hm;go_wp2_with fail
  go_roundw
  case rel=>exact⟨i+1,by omega,by go_num,HL.out.trans (HM.out.low.mono HBASE.out)⟩
  case measure=>simp [intOf]; omega
 obtain rfl:i=4:=by omega
 have hinI:¬ ((4:Nat):Int)<4:=by omega
 clear hlow;go_wp2_with fail
 go_ret
 exact⟨rfl,HL.out⟩
end
section
open Go.RowKit
def InB (w:zA) (v:zB) (t:Nat):Prop:=t=0\/∃ gi cap cur,v=.slice (some ⟨gi,0,none⟩) t cap/\Blk w gi 5 cur/\∀ p,p<t->∃ x:UInt8,cur[p]?=some (vb x)
theorem InB.of_own {w:zA} {B:Nat} {v:zB} {xs:List UInt8} (h:OwnB w B v xs):InB w v xs.length:=by
 rcases h.2 with⟨_,h0⟩ | ⟨g,cap,cur,rfl,hg,hh,h1,h2,h3,h4⟩
 ·exact .inl h0
 refine .inr ⟨g,cap,cur,rfl,hh,fun p hp=>⟨xs[p],?_⟩⟩;have:(cur.toList.take (xs.length*1))[p]?=some (vb xs[p]):=by rw [h4,List.getElem?_map,zC hp]; rfl
 rw [Nat.mul_one,List.getElem?_take,if_pos hp] at this;simpa using this
theorem QaR (x:UInt8):(bi x+1) % 256=bi (x+1):=by unfold bi; rw [UInt8.toNat_add]; simp
theorem bump_set {cur:Array zB} {t j:Nat} (h:∀ p,p<t->∃ x:UInt8,cur[p]?=some (vb x)) (u:UInt8):∀ p,p<t->∃ x:UInt8,(cur.setIfInBounds j (vb u))[p]?=some (vb x):=fun p hp=>by
 obtain⟨y,hy⟩:=h p hp;by_cases e:j=p
 ·subst e;exact⟨u,by rw [Array.getElem?_setIfInBounds,if_pos rfl,if_pos (by rcases Nat.lt_or_ge j cur.size with h | h; exact h; rw [Array.getElem?_eq_none h] at hy; cases hy)]⟩
 exact⟨y,by rw [Array.getElem?_setIfInBounds,if_neg e]; exact hy⟩
end
section
open Go.RowKit Go.Maps
theorem InB.put {w:zA} {v:zB} {t:Nat} (h:InB w v t) (g i:Nat) (x:UInt8):InB (w.setCell ⟨g,i,none⟩ (vb x)) v t:=by
 rcases h with h | ⟨gi,cap,cur,hv,hb,hc⟩
 ·exact .inl h
 by_cases e:gi=g
 ·subst e;exact .inr ⟨gi,cap,_,hv,hb.set_ i (vb x),bump_set hc x⟩
 exact .inr ⟨gi,cap,cur,hv,(Q0b.setCell w ⟨g,i,none⟩ (vb x)).blk hb e,hc⟩
theorem InB.below {w w':zA} {v:zB} {t:Nat} (h:InB w v t) (hb:zD w.heap.size w w'):InB w' v t:=by
 rcases h with h | ⟨gi,cap,cur,hv,hk,hc⟩
 ·exact .inl h
 exact .inr ⟨gi,cap,cur,hv,hk.below' hb,hc⟩
def Mid (B E:Nat) (b:Nat):Prop:=B<=b/\b<E
structure Q42 (B E:Nat) (wm wr:zA) (iv:zB) (n:Nat) (pv:zB) (vs:List zB):Prop where
 inb:InB wr iv n
 ib:∀ b,iv.ownBlock=some b->Mid B E b
 row:wr.ownsRow B 22 1 pv vs.length vs
 rin:∀ u,u∈vs->∃ A m c,u=.slice A m c/\InB wr u m/\(∀ b,u.ownBlock=some b->Mid B E b)/\m<=maxLen
 only:Only (Mid B E) wm wr
theorem Q42.put {B E:Nat} {wm wr:zA} {iv:zB} {n:Nat} {pv:zB} {vs:List zB} (h:Q42 B E wm wr iv n pv vs) {g:Nat} {cur:Array zB} (hg:Mid B E g) (hk:Blk wr g 5 cur) (i:Nat) (x:UInt8):Q42 B E wm (wr.setCell ⟨g,i,none⟩ (vb x)) iv n pv vs:=by
 refine⟨h.inb.put g i x,h.ib,?_,fun u hu=>?_,h.only.trans (Only.of_turned (Q0b.setCell wr ⟨g,i,none⟩ (vb x)) hg)⟩
 ·refine Q0d h.row fun b hb=>(Q0b.setCell wr ⟨g,i,none⟩ (vb x)).block b fun e=>?_
  subst e;exact Q05 h.row hk (by decide) hb
 obtain⟨A,m,c,h1,h2,h3⟩:=h.rin u hu;exact⟨A,m,c,h1,h2.put g i x,h3⟩
theorem Q42.drewN {B E:Nat} {wm wr:zA} {iv:zB} {n:Nat} {pv:zB} {vs:List zB} (h:Q42 B E wm wr iv n pv vs) (k:Nat):Q42 B E wm (wr.drewN k) iv n pv vs :=⟨h.inb,h.ib,h.row,h.rin,h.only.drewN k⟩
theorem Q42.low {B E:Nat} {w wm wr:zA} {iv:zB} {n:Nat} {pv:zB} {vs:List zB} (h:Q42 B E wm wr iv n pv vs) (hb:zD B w wm) (hB:B<=wm.heap.size):zD B w wr :=hb.trans (h.only.below hB fun b h1 h2=>by have:=h2.1; omega)
theorem Q42.start {B:Nat} {wl wm:zA} {iv pv:zB} {xs:List UInt8} {xss:LL} {vs:List zB} (h1:OwnB wl B iv xs) (h2:OwnL wl B pv xss vs) (hb:zD wl.heap.size wl wm):Q42 B wl.heap.size wm wm iv xs.length pv vs:=by
 have hl:vs.length=xss.length:=by have:=h2.row.1; omega
 refine⟨(InB.of_own h1).below hb,fun b hb'=>⟨h1.ge hb',h1.lt hb'⟩,?_,fun u hu=>?_,Only.refl _ _⟩
 ·rw [hl];exact Q0d h2.row fun b hb'=>hb.block b (Q07 h2.row hb').2
 obtain⟨k,hk,rfl⟩:=List.getElem_of_mem hu;have hk2:k<xss.length:=by omega
 obtain⟨u,h3,h4⟩:=h2.at_ k xss[k] (zC hk2);rw [zC hk] at h3;rw [zQ h3];obtain⟨A,c,h5,q1,q2,_⟩:=Q0f h4;exact⟨A,_,c,h5,(InB.of_own h4).below hb,fun b hb'=>⟨h4.ge hb',h4.lt hb'⟩,Nat.le_trans q1 q2⟩
theorem Q42.at_ {B E:Nat} {wm wr:zA} {iv:zB} {n g:Nat} {c k:Nat} {vs:List zB} {m:Nat} {u:zB} (h:Q42 B E wm wr iv n (.slice (some ⟨g,0,none⟩) m c) vs) (hk:vs[k]?=some u) (hm:vs.length=m):wr.cell? ⟨g,k,none⟩=some u/\∃ A' m' c',u=.slice A' m' c'/\InB wr u m'/\(∀ b,u.ownBlock=some b->Mid B E b)/\m'<=maxLen:=by
 have hr:=h.row;rw [hm] at hr;have hkl:k<vs.length:=(List.getElem?_eq_some_iff.1 hk).1;have hku:vs[k]=u:=by rw [zC hkl] at hk; exact zQ hk
 have hmem:u∈vs:=hku▸zJ hkl;refine⟨?_,h.rin u hmem⟩;rcases hr.2 with⟨hv,h0⟩ | ⟨g',cap,cur,hv,hg,hh,q1,q2,q3,q4⟩
 ·omega
 injection hv with e1 e2 e3
 injection e1 with e1
 injection e1 with e1
 subst e1;have:(cur.toList.take (m*1))[k]?=some u:=by rw [q4,hk]
 rw [Nat.mul_one,List.getElem?_take,if_pos (by omega)] at this;have hb:Blk wr g 22 cur:=hh;rw [hb.cell k];simpa using this
theorem Q42.first {B E:Nat} {wm wr:zA} {iv:zB} {n:Nat} {A:Option Addr} {c:Nat} {vs:List zB} {m:Nat} (h:Q42 B E wm wr iv n (.slice A m c) vs) (hm:vs.length=m) (h0:0<m):∃ g,A=some ⟨g,0,none⟩:=by
 have hr:=h.row;rw [hm] at hr;rcases hr.2 with⟨hv,h0'⟩ | ⟨g',cap,cur,hv,hg,hh,q1,q2,q3,q4⟩
 ·omega
 injection hv with e1 e2 e3
 exact⟨g',e1⟩
theorem QdI {w:zA} {base base':Nat} {e:TypeId} {size:Nat} {v:zB} {n:Nat} {xs:List zB} (h:w.ownsRow base e size v n xs) (hb:base'<=base):w.ownsRow base' e size v n xs:=by
 refine⟨h.1,?_⟩;rcases h.2 with h1 | ⟨g,cap,cur,h1,h2,h3⟩
 ·exact .inl h1
 exact .inr ⟨g,cap,cur,h1,Nat.le_trans hb h2,h3⟩
theorem OwnL.more {w:zA} {B B':Nat} {v:zB} {xss:LL} {vs:List zB} (h:OwnL w B v xss vs) (hB:B'<=B):OwnL w B' v xss vs :=⟨QdI h.row hB,fun k x hx=>by obtain⟨u,h1,h2⟩:=h.at_ k x hx;exact⟨u,h1,h2.more hB⟩⟩
end
section
open Go.RowKit Go.Maps
attribute [local irreducible] wpList Q0h
theorem QaO (k:Book) (L:LL) (asked:Nat) (A:Option Addr) (n c:Nat) (xss:LL) (w:zA) (hbk:Q0y w k L asked) (has:asked<=600000) (hr:Q61 w w.heap.size A n xss) (hn:n<=1000000000000) (hlx:∀ x,x∈xss->x.length<=1000000000000) :
 Calls zE 49 #[.pointer (some ⟨k.g,0,none⟩),.slice A n c] w (Q4c w k L asked (Q3h xss)):=by
 have hxl:=hr.1;obtain⟨o,ho⟩:∃ o,o=Q3h xss:=⟨_,rfl⟩;rw [<- ho];have HO:=sH ho;clear ho;by_cases h6:n=6
 ·have h6b:((n:Int) != 6)=false:=by simp [h6]
  obtain⟨ad,hA,hadb,hcell⟩:=hr.2 (by omega);subst hA;have HXL:=sH (show xss.length=6 by omega);have HBK:=sH hbk;have HLX:=sH hlx;have hkl:=hbk.lt;have HCELL:=sH (fun(W:zA) (hb:zD w.heap.size w W) (q:Nat) (hq:q<6)=>(show ∃ Ak mk ck,W.cell? (ad.add q)=some (.slice Ak mk ck)/\Q08 W w.heap.size 1 Ak mk ((xss.getD q []).map vb)/\mk<=ck/\mk<=1000000000000 from by
   have hqx:q<xss.length:=by omega
   obtain⟨Ak,mk,ck,h1,h2,h3⟩:=hcell q xss[q] (zC hqx);have e:xss.getD q []=xss[q]:=by rw [zI,zC hqx]; rfl
   rw [e];have hmk:xss[q].length=mk:=by have:=h2.1; simpa using this
   exact⟨Ak,mk,ck,(hb.cell (by rw [Q0a]; exact hadb)).trans h1,h2.below hb,h3,by have:=hlx _ (zJ hqx); omega⟩))
  obtain⟨g6,hg⟩:∃ g,g=w.heap.size:=⟨_,rfl⟩;have HST:=sH (show NmSt w g6 xss 0 (w.alloc (.cells (sixV (fun _=>undef) 0) 154)) from⟨⟨fun _=>undef,Blk.newAt hg,fun j h=>by omega⟩,fun j h=>by omega,fun j h=>by omega,Q04 _ _,by omega⟩);rw [Qax] at HST;have hgw:w.heap.size<=g6:=by omega
  clear hr hbk hlx hcell hxl;subst h6;go_enter Tryz.func49,Tryz.ntmps49
  go_upto_region 4 with fail
  generalize zR w _=w1 at HST ⊢;rw [<- hg];clear hg;go_wp2_with fail
  go_loopw [27] (fun iv wr=>∃ i:Nat,i<=6/\iv=.int .i64 i/\NmSt w g6 xss i wr) (fun iv _=>6 - (intOf iv).toNat)
  case atStart=>exact⟨0,by omega,rfl,HST.out⟩
  obtain⟨i,hi,rfl,hst⟩:=hrel;have HS:=sH hst;have hlow:=hst.low.size;clear hst HST;by_cases hin:i<6
  ·have hinI:(i:Int)<6:=by omega
   have h0I:(0:Int)<=(i:Int):=by omega
   obtain⟨Ak,mk,ck,h1,h2,h3,h4⟩:=HCELL.out wr HS.out.low i hin;have HNM:=sH (Qam Ak mk ck (xss.getD i []) wr w.heap.size h2 hlow h3 h4);obtain⟨oq,hoq⟩:∃ q,q=Q2u (xss.getD i []):=⟨_,rfl⟩;rw [<- hoq] at HNM;have HOQ:=sH hoq;clear h2 hoq;go_wp2_with fail
   refine HNM.out.mono ?_;rintro _ w2 ⟨v,rfl,hown,hmx,hb2⟩;have hs2:=hb2.size;have HB2:=sH hb2;have HOW:=sH hown;have HMX:=sH hmx;obtain⟨Av,cv,hv,_⟩:=Q0i hown;obtain⟨ln,hln⟩:∃ q,q=(nI (oq.getD [])).length:=⟨_,rfl⟩;rw [<- hln] at hv;subst hv;clear hb2 hown hmx hln HNM h1;cases oq with
   | none =>
    have hon:o=none:=by
     rw [HO.out];refine Q5U fun hh=>?_
     have:=hh.2 i hin;rw [<- HOQ.out] at this;cases this
    subst hon;go_wp2_with fail
    go_ret2
    exact⟨fun _=>⟨rfl,HS.out.low.trans (HB2.out.mono hlow)⟩,fun m hm=>by cases hm⟩
   | some l =>
    have hnf:numF xss i=l:=by unfold numF; rw [<- HOQ.out]; rfl
    have hpush:=HS.out.push (v:=.slice Av ln cv) HB2.out (by rw [hnf]; exact HOW.out) (by rw [hnf]; exact HMX.out) (by rw [<- HOQ.out]; rfl);have HPU:=sH hpush;obtain⟨vs,hb6,_⟩:=(HS.out.below HB2.out).blk;have cc:w2.cell? ⟨g6,i,none⟩=some (.slice none 0 0):=(hb6.cell i).trans (by rw [Q3Y _ _ _ hin,if_neg (by omega)]);have cf:w2.frozen? ⟨g6,i,none⟩=false:=hb6.frozen i;clear hnf hpush hb6;go_wp2_with fail
    go_roundw
    case rel=>exact⟨i+1,by omega,by go_num,HPU.out⟩
    case measure=>simp [intOf]; omega
  obtain rfl:i=6:=by omega
  go_upto_region 13 with fail
  obtain⟨nch,hnch⟩:∃ q:Nat,q=if numF xss 1=[0] then 1 else 2:=⟨_,rfl⟩
  have HNCH:=sH hnch;have hn12:1<=nch/\nch<=2:=by rw [hnch]; split <;> omega
  clear hnch;obtain⟨vs,hb6,hv6⟩:=HS.out.blk;have hv1:=hv6 1 (by omega);obtain⟨A1,c1,hvs,q1,q2,q3,q4⟩:=Q0i hv1;have cc:wr.cell? ⟨g6,1,none⟩=some (.slice A1 (nI (numF xss 1)).length c1):=by rw [<- hvs];exact(hb6.cell 1).trans (by rw [Q3Y _ _ _ (by omega),if_pos (by omega)])
  obtain⟨n1,hn1⟩:∃ q,q=(nI (numF xss 1)).length:=⟨_,rfl⟩;rw [<- hn1] at cc q3 q1;have hal:=Q04 wr (.cells #[.int .i64 0] 3);have HEQ:=sH (Qbp A1 (some ⟨wr.heap.size,0,none⟩) n1 1 c1 1 (nI (numF xss 1)) [0] (wr.alloc (.cells #[.int .i64 0] 3)) _ _ (q3.below hal) (Q0N wr #[.int .i64 0] 3) (by unfold maxLen at q2 ⊢; omega) (by unfold maxLen; omega));have hiff:(nI (numF xss 1)=[0]) <-> (numF xss 1=[0]):=by
   constructor
   ·intro h;match hq:numF xss 1 with
    | []=>rw [hq] at h; simp [nI] at h
    | [x]=>rw [hq] at h; simp [nI] at h; rw [h]
    | x :: y :: t=>rw [hq] at h; simp [nI] at h
   intro h; rw [h]; rfl
  obtain⟨bq,hbq⟩:∃ b,b=decide (nI (numF xss 1)=[0]):=⟨_,rfl⟩;rw [<- hbq] at HEQ;have hnq:nch=if bq=true then 1 else 2:=by
   rw [HNCH.out,hbq];by_cases h:numF xss 1=[0]
   ·rw [if_pos h,if_pos (by rw [decide_eq_true (hiff.2 h)])]
   rw [if_neg h,if_neg (by rw [decide_eq_false (fun e=>h (hiff.1 e))]; simp)]
  have HNQ:=sH hnq;have HNM:=sH (HS.out.below hal);clear hb6 hv6 hv1 hvs q1 q2 q3 q4 hn1 hal hiff hbq hnq;go_wp2_with fail
  refine HEQ.out.mono ?_;rintro _ w3 ⟨rfl,kk,hw3⟩;have HN3:=sH (show NmSt w g6 xss 6 w3 from by rw [hw3]; exact HNM.out.below (Q0v (zH _ _) kk));clear hw3 cc HNM HEQ;have HSX:=sH (show NmSt w g6 xss 6 w3 from HN3.out)
  go_upto_if 49 with(fail)
  go_cut [10] (fun s10 wx=>s10=.slice (some ⟨g6,0,none⟩) nch 6/\NmSt w g6 xss 6 wx)
  case first =>
   cases bq with
   | true =>
    have hnc:=HNQ.out;simp only [if_true] at hnc;subst hnc;go_wp2_with fail
    go_meet
    exact⟨rfl,HN3.out⟩
   | false =>
    have hnc:=HNQ.out;simp only [Bool.false_eq_true,if_false] at hnc;subst hnc;go_wp2_with fail
    go_meet
    exact⟨rfl,HN3.out⟩
  obtain⟨rfl,hnm⟩:=hcut;obtain⟨vs,hsa⟩:=hnm.sa;have HMX:=sH hnm.max;have HIS:=sH hnm.is_;have hwc:=hnm.low.size;have hg6l:=hsa.blk.lt;obtain⟨g12,hg12⟩:∃ g,g=wc.heap.size:=⟨_,rfl⟩;have hcs:ChS w g6 g12 xss vs (fun _=>none) (fun _=>0) (fun _=>undef) 0 (.slice none 0 0) (wc.alloc (.cells (twoV (fun _=>undef) 0) 156)):=⟨hsa.below (Q04 _ _),⟨by simp [Q1S],.inl ⟨rfl,rfl⟩⟩,Blk.newAt hg12,fun j h=>by omega,by omega,by omega⟩;rw [QeH] at hcs;have HCS:=sH hcs;have HGC:=sH (show Q3h xss=Q9V (numF xss) from Q8M HXL.out HIS.out);clear hnm hcs HS hsa HCELL HSX HN3 HNQ;go_upto_region 17 with fail
  generalize zR wc _=wd at HCS ⊢;rw [<- hg12];clear hg12;go_wp2_with fail
  go_loopw [11,54] (fun cv iv wr=>∃ i:Nat,i<=nch/\iv=.int .i64 i/\∃ fA fC ms,ChS w g6 g12 xss vs fA fC ms i cv wr) (fun _ iv _=>nch - (intOf iv).toNat)
  case atStart=>exact⟨0,by omega,rfl,_,_,_,HCS.out⟩
  obtain⟨i,hi,rfl,fA,fC,ms,hcs⟩:=hrel;obtain⟨w3,rfl⟩:∃ x,x=wr:=⟨_,rfl⟩;have HC3:=sH hcs;have hlow3:=hcs.sa.low.size;have hcl3:=hcs.row;clear HCS;by_cases hin:i<nch
  ·have hinI:(i:Int)<(nch:Int):=by omega
   have h0I:(0:Int)<=(i:Int):=by omega
   have hi2:i<2:=by omega
   have hown:=hcs.sa.own i (by omega);obtain⟨Ai,ci,hvi,_⟩:=Q0i hown;obtain⟨ni,hni⟩:∃ q,q=(nI (numF xss i)).length:=⟨_,rfl⟩;rw [<- hni] at hvi;have hnl:=Q5Y xss i;have hnx:(xss.getD i []).length<=1000000000000:=by rw [zI,zC (by have:=HXL.out; omega)];exact HLX.out _ (zJ _)
   have HF:=sH (QcV (vs i) (numF xss i) w3 w.heap.size hown (by omega) (HMX.out i (by omega)));have cc:w3.cell? ⟨g6,i,none⟩=some (vs i):=(hcs.sa.blk.cell i).trans (by rw [Q3Y _ _ _ (by omega),if_pos (by omega)]);obtain⟨u,hu⟩:∃ u,u=vs i:=⟨_,rfl⟩;rw [<- hu] at HF cc hvi;subst hvi;have HU:=sH hu;clear hcs hown hni hnl hnx hu hcl3;go_wp2_with fail
   refine HF.out.mono ?_;rintro e4 w4 ⟨hb4,hno,hso⟩;cases hq:Q26 (numF xss i) with
   | none =>
    have he:=hno hq;subst he;have hon:o=none:=by rw [HO.out,HGC.out]; exact Q9T HNCH.out hin hq
    subst hon;have hlw:=HC3.out.sa.low.trans (hb4.mono hlow3);have hs4:=hb4.size;have HLW:=sH hlw;clear hb4 hno hso hq HF cc hlw;go_wp2_with (refine Q00 (o:=⟨none,_,_,_,_,_⟩) rfl 77 (.tmp 15) (.tmp 62) rfl w4.heap.size 0 (crC 0 none 0 0) rfl rfl 77 (crC 0 none 0 0) (Blk.newAt rfl) (by kernel_rfl) (by simp [crC]) (by simp [crC,Value.oneCell']) ?_; intro w5 hT5 hD5)
    go_ret2
    exact⟨fun _=>⟨rfl,hT5.below (HLW.out.alloc (by omega) _) (by omega)⟩,fun m hm=>by cases hm⟩
   | some q =>
    obtain⟨f,A1,c1,A2,c2,hf,hf2,he,hr1,hr2,hc2⟩:=hso q hq;subst he;have hfq:fstF xss i=q:=by unfold fstF; rw [hq]; rfl
    rw [<- hfq] at hf hr1 hr2 hc2 ⊢;have hFS:=(⟨by rw [hq,hfq],⟨f,hf,hf2⟩,by rw [<- HU.out]; exact hr1,⟨A2,c2,rfl,by rw [<- HU.out]; exact hr2,hc2⟩⟩:FsOk w.heap.size xss (vs i) i A1 c1 (.slice A2 (fstF xss i).2.length c2));have HFS:=sH hFS;obtain⟨E,hE⟩:∃ E,E=crC f A1 (fstF xss i).1.2.length c1:=⟨_,rfl⟩;have hes:E.size=2:=by rw [hE]; rfl
    have he1:E.all (·.oneCell')=true:=by rw [hE]; exact Q1h _ _ _ _
    rw [<- hE];have HER:=sH (show E.toList=Q5G (fstF xss i) A1 c1 from by rw [hE]; unfold Q5G; rw [hf]; rfl);have HB4:=sH hb4;have hs4:=hb4.size;obtain⟨n2,hn2⟩:∃ k,k=(fstF xss i).2.length:=⟨_,rfl⟩;rw [<- hn2] at HFS ⊢;have hfold:Array.foldl (fun(cs:Array zB) (x:zB×Nat)=>cs.setIfInBounds x.snd x.fst) #[Value.int .i64 0,Value.slice none 0 0] E.zipIdx 0 2=E:=by rw [hE]; rfl
    have HFO:=sH hfold;clear hno hso hq hfq hf hr1 hr2 hc2 hFS hE HF cc hn2 hb4 hfold;go_upto_region 21 with(refine Q00 (o:=⟨none,_,_,_,_,_⟩) rfl 77 (.tmp 15) (.tmp 62) rfl w4.heap.size 0 E rfl rfl 77 #[.int .i64 0,.slice none 0 0] (Blk.newAt rfl) (by rw [hes]; kernel_rfl) (by rw [hes]; simp) he1 ?_; intro w5 hT5 hD5)
    rw [Q0c _ _ (by rw [hes]; rfl)] at hD5;have hb5:zD w4.heap.size w4 w5:=hT5.below ((zH _ _).alloc (zF _) _) (zF _);obtain⟨g15,hg15⟩:∃ b,b=w4.heap.size:=⟨_,rfl⟩;rw [<- hg15] at hD5 ⊢;have hs5:=hb5.size;have K15:=sH hD5;have HB5:=sH (HB4.out.trans (hb5.mono hs4));have hb6:=Q04 w5 (.cells E 77);have HB6:=sH (HB5.out.trans (hb6.mono (by omega)));have HC6:=sH (HC3.out.below HB6.out);have HROW6:=sH HC6.out.row;have HRD6:=sH (Q4R w5 E hes);obtain⟨i0,hi0,hz0,hz1,hz2⟩:=info_parts Q74;have hlt5:=hD5.lt;have hfold:=HFO.out;have hi40:i<=40:=by omega
    have hlw6:=HC6.out.sa.low.size;simp only [zR] at hlw6;clear hT5 hD5 hg15 hb5 hb6 HB4;go_wp2_with (first
     | refine Q01 (o:=⟨some 69,_,_,_,_,_⟩) rfl 77 (.tmp 15) rfl g15 0 2 rfl 77 _ E _ K15.out Tryz.underlying77 rfl rfl hes (fun _ _=>by rw [zL]) ?_
     | (at_builtin; go_must (refine Q03 _ rfl (.tmp 68) (.tmp 70) 74 rfl w.heap.size 77 i0 _ 2 32 Tryz.underlying74 hi0 hz0 hz1 hz2 rfl (by omega) _ _ _ rfl HROW6.out _ (some ⟨w5.heap.size,0,none⟩) 1 1 E.toList rfl HRD6.out ?d1 ?d2 ?d3 ?d4 ?_)))
    case d1=>exact fun u hu=>(Array.all_eq_true'.1 he1) u (by simpa using hu)
    case d2=>unfold maxLen; omega
    case d3=>first | omega | (simp; omega)
    case d4=>first | omega | (simp; omega)
    intro v6 w6 hown6 hg6' hor6;have hpu:=HC3.out.push HB6.out (by rw [<- HER.out]; exact hown6) hg6' HFS.out;have HPU:=sH hpu;have n12:=Q05 HC6.out.row HC6.out.arr (by decide);have a2:Blk w6 g12 156 (twoV ms i):=(hg6'.block g12 HC6.out.arr.lt (fun e=>n12 e.symm)).trans HC6.out.arr;have ca:w6.cell? ⟨g12,i,none⟩=some (.slice none 0 0):=(a2.cell i).trans (by rw [Qe2 _ _ _ hi2,if_neg (by omega)]);have cf:w6.frozen? ⟨g12,i,none⟩=false:=a2.frozen i;clear hown6 hg6' hor6 hpu n12 a2 HROW6 HRD6 hfold;go_wp2_with fail
    go_roundw
    case rel=>exact⟨i+1,by omega,by go_num,_,_,_,HPU.out⟩
    case measure=>simp [intOf]; omega
  obtain rfl:nch=i:=by omega
  have hl7:∀ j,j<nch->(fstF xss j).1.2.length<=100:=fun j hj=>by have:=(Q4S (HC3.out.ok j hj).is_).1; omega
  obtain⟨Ac,cc,hcv,hcr⟩:=HC3.out.crews (by omega) hl7;subst hcv;obtain⟨cl,hcl⟩:∃ l,l=(List.range nch).map (fun j=>(fstF xss j).1):=⟨_,rfl⟩;obtain⟨mv,hmv⟩:∃ f:Nat->List Int,f=fun j=>if j<nch then(fstF xss j).2 else []:=⟨_,rfl⟩
  have hgo:Q3h xss=Q6M cl mv (numF xss):=by rw [HGC.out,hcl,hmv]; exact Q92 HNCH.out (fun j hj=>(HC3.out.ok j hj).is_)
  rw [<- hcl] at hcr;have HGO:=sH hgo;have HMV:=sH hmv;have HCL:=sH hcl;have HBG:=sH (Qa5 Ac nch cc cl w3 hcr (by omega));clear hl7 hcr hgo hmv hcl hcs hcl3 hin hi;go_wp2_with fail
  refine HBG.out.mono ?_;rintro e4 w4 ⟨hb4,hno,hso⟩;have hs4:=hb4.size;cases hq:Q24 cl with
  | none =>
   have he:=hno hq;subst he;have hon:o=none:=by rw [HO.out,HGO.out]; unfold Q6M; rw [hq]
   subst hon;have HLW:=sH (HC3.out.sa.low.trans (hb4.mono hlow3));clear hb4 hno hso hq HBG;go_wp2_with fail
   go_ret2
   exact⟨fun _=>⟨rfl,HLW.out⟩,fun m hm=>by cases hm⟩
  | some acc =>
   obtain⟨g,v,nA,nC,he,hraw⟩:=hso acc hq;subst he;obtain⟨hck,hbare,hlen⟩:=Q5n hq;obtain⟨gc,arr,cap,hv,hgcB,hgg,hdat⟩:=hraw.dat hck;have hgB:=hraw.gB;obtain⟨T,hT⟩:∃ T,T=totQ acc mv:=⟨_,rfl⟩;have HOC:=sH (show Q3h xss=endQ T (numF xss) from by rw [HGO.out,QbY hq,hT]);have HOH:=sH (show OhSt w3 g gc nch T mv 0 acc w4 from⟨⟨_,hdat⟩,hb4,by rw [hlen,HCL.out]; simp,by rw [hT,QaH],fun j s _ hs=>hbare s (List.mem_of_getElem? hs)⟩);have HSW:=sH (fun(W:zA) (hb:zD w3.heap.size w3 W)=>HC3.out.sa.below hb);obtain⟨M2,hM2⟩:∃ M,M=twoV ms nch:=⟨_,rfl⟩;have harr:=(HC3.out.below hb4).arr;rw [<- hM2] at harr;have HARR:=sH harr;have hm2s:M2.size=2:=by rw [hM2]; exact Q0A _ _
   have HMS:=sH (show ∀ j,j<2->∃ A n c,M2[j]?=some (.slice A n c)/\n=(mv j).length/\n<=c/\n<=42/\(0<n->j<nch)/\∀ W,zD w3.heap.size w3 W->Q08 W W.heap.size 1 A n ((mv j).map vn) from fun j hj=>by
    rw [hM2,Qe2 _ _ _ hj,HMV.out];by_cases hjn:j<nch
    ·have hok:=HC3.out.ok j hjn;obtain⟨A,c,h1,h2,h3⟩:=hok.mv;refine⟨A,_,c,by rw [if_pos hjn,h1],by show _=(if j<nch then _ else _:List Int).length; rw [if_pos hjn],h3,(Q4S hok.is_).2,fun _=>hjn,fun W hb=>?_⟩;show Q08 W _ 1 A _ ((if j<nch then _ else _:List Int).map vn);rw [if_pos hjn];exact h2 W ((HSW.out W hb).own j (by omega))
    refine⟨none,0,0,by rw [if_neg hjn],by show _=(if j<nch then _ else _:List Int).length; rw [if_neg hjn]; rfl,zF _,by omega,fun h=>by omega,fun W hb=>?_⟩;show Q08 W _ 1 none 0 ((if j<nch then _ else _:List Int).map vn);rw [if_neg hjn];exact Q08.none_)
   clear hb4 hno hso hq hraw hck hbare hlen hv hdat hT hM2 harr HBG HGO;go_wp2_with (refine Q01 (o:=⟨some 79,_,_,_,_,_⟩) rfl 156 (.tmp 12) rfl g12 0 2 rfl 156 _ M2 _ HARR.out Tryz.underlying156 rfl rfl hm2s (fun _ _=>by rw [zL]) ?_)
   go_loopw [80] (fun iv wr=>∃ i:Nat,i<=2/\iv=.int .i64 i/\∃ cs,OhSt w3 g gc nch T mv i cs wr) (fun iv _=>2 - (intOf iv).toNat)
   case atStart=>exact⟨0,by omega,rfl,_,HOH.out⟩
   obtain⟨i,hi,rfl,cs,hoh⟩:=hrel;obtain⟨w5,rfl⟩:∃ x,x=wr:=⟨_,rfl⟩;have HH:=sH hoh;clear hoh HOH;by_cases hin:i<2
   ·have hinI:(i:Int)<2:=by omega
    have h0I:(0:Int)<=(i:Int):=by omega
    obtain⟨A,n,c2,hM,hnl,hnc,hn42,hnn,hrd⟩:=HMS.out i hin;have HOM:=sH (HH.out.enter hin (by omega) (by rw [<- hnl]; exact hnn));have HRD:=sH hrd;have HNL:=sH hnl;have HIX:=sH (fun(W:zA)=>Q5R (P:=zE) (t:=156) (e:=42) Tryz.underlying156 (by kernel_rfl) (fun w=>by go_simp) M2 i (.slice A n c2) hin hM W);clear hnl hrd hnn hM;go_wp2_with (refine Q27 (o:=⟨some 83,_,_,_,_,_⟩) rfl (.slice A n c2) (by have h:=HIX.out w5; go_simp) ?_)
    go_loopw [20] (fun mvv wr=>∃ (A:Option Addr) (n c2:Nat) (rest:List Int) (cs:List Srv),mvv=.slice A n c2/\rest.length=n/\n<=c2/\(∀ W,zD w3.heap.size w3 W->Q08 W W.heap.size 1 A n (rest.map vn))/\OmSt w3 g gc nch T mv i cs rest wr) (fun mvv _=>match mvv with | .slice _ n _=>n | _=>0)
    case atStart=>exact⟨_,_,_,_,_,rfl,HNL.out.symm,hnc,HRD.out,HOM.out⟩
    obtain⟨A,n,c2,rest,cs,rfl,hrl,hnc,hrd,hom⟩:=hrel;obtain⟨w6,rfl⟩:∃ x,x=wr:=⟨_,rfl⟩;clear HOM HH HRD HNL;have HM:=sH hom;have HRD:=sH hrd;have HRL:=sH hrl;have hlow6:=hom.low.size;clear hom hrd hrl;by_cases hn1:1<n
    ·have hn1I:(1:Int)<(n:Int):=by omega
     have hn0I:(0:Int)<(n:Int):=by omega
     have hn0:0<n:=by omega
     obtain⟨ov,z,t,rfl⟩:∃ a b t,rest=a :: b :: t:=by
      match rest,HRL.out with
      | a :: b :: t,_=>exact⟨a,b,t,rfl⟩
      | [x],h=>simp at h; omega
      | [],h=>simp at h; omega
     have hwi:i<nch:=HM.out.has (by simp);obtain⟨s,hs⟩:∃ s,cs[i]?=some s:=⟨_,zC (by have:=HM.out.len; omega)⟩;obtain⟨ad,hA,had,_⟩:=(HRD.out w3 (zH _ _)).2 hn0;subst hA;obtain⟨ad',hA,_,hcell⟩:=(HRD.out w6 HM.out.low).2 hn0;injection hA with hA
     subst hA;have c0:w6.cell? (ad.add 0)=some (.int .i64 ov):=hcell 0 (.int .i64 ov) rfl;have c1:w6.cell? (ad.add 1)=some (.int .i64 z):=hcell 1 (.int .i64 z) rfl;obtain⟨bq,hbq⟩:∃ b,b=decide (Q0S cs s.f z=false/\Q22 s.now ov z):=⟨_,rfl⟩;have HMVE:=sH (fun(W:zA) (hb:zD w6.heap.size w6 W)=>HM.out.move_ hs hgg ⟨hgB,hgcB⟩ hb bq hbq);obtain⟨K,hK⟩:∃ K:zA->Prop,K=fun W=>zD w3.heap.size w3 W/\(bq=true->OmSt w3 g gc nch T mv i (cs.set i (Q1Z s ov z)) t W):=⟨_,rfl⟩
     have HKS:=sH (show ∀ W W',K W->zD W.heap.size W W'->K W' from fun W W' h hb=>by rw [hK] at h ⊢;exact⟨h.1.trans (hb.mono h.1.size),fun e=>(h.2 e).below hb⟩)
     have HKO:=sH (show ∀ W,K W->zD w3.heap.size w3 W/\(bq=true->OmSt w3 g gc nch T mv i (cs.set i (Q1Z s ov z)) t W) from fun W h=>by rw [hK] at h; exact h);have HKI:=sH (show ∀ W,(zD w3.heap.size w3 W/\(bq=true->OmSt w3 g gc nch T mv i (cs.set i (Q1Z s ov z)) t W))->K W from fun W h=>by rw [hK]; exact h);have HBQ:=sH hbq;have HSS:=sH hs;have hb0:(ad.add 0).block<w3.heap.size:=by rw [Q0a]; exact had
     have hb1:(ad.add 1).block<w3.heap.size:=by rw [Q0a]; exact had
     have hw36:=HM.out.low.size;have HJ0:=sH (show MvJ w6 (ad.add 0) (ad.add 1) ov z K 0 w6 from⟨c0,c1,⟨by omega,by omega⟩,fun _=>zH _ _,fun e=>by omega⟩);have HSL:=sH (fun(W:zA)=>Q0U (P:=zE) (t:=42) (e:=3) Tryz.underlying42 (by kernel_rfl) (some ad) n c2 2 2 rfl (by omega) W);clear hcell c0 c1 hbq hK hs;go_upto_region 33 with fail
     refine Q1I 9 125 (fun jx W v=>match jx with | 0=>v=.pointer (some ⟨g,0,none⟩) | 1=>v=.int .i64 (i:Int) | 2=>v=.slice (some ad) n c2 | 3=>v=.pointer (some (ad.add 0)) | 4=>v=.int .i64 ov | 5=>v=.slice (some ad) n c2 | 6=>v=.pointer (some (ad.add 1)) | 7=>v=.int .i64 z | _=>v=.bool bq) (MvJ w6 (ad.add 0) (ad.add 1) ov z K) (fun _ _=>True) [8] [89,90,91,92,93,94,95,96,97] (by kernel_rfl) (by kernel_rfl) (by kernel_rfl) (by kernel_rfl) (by first | rfl | simp) (by kernel_rfl) (fun jx=>?last) ?lastR (fun s W W' h1 h2=>h1.later_ HKS.out h2) HJ0.out ?heads ?_
     case last =>
      match jx with
      | 0 | 1 | 2 | 3 | 4 | 5 | 6 | 7 | jx+8=>exact Q15.pure _
     case lastR =>
      intro s jx W W' u hsl hs hj hp hR;match jx with
      | 0 | 1 | 2 | 3 | 4 | 5 | 6 | 7 | jx+8=>exact hp
     case heads =>
      simp only [tT];and_intros;rotate_right;trivial
      all_goals try(rw [if_neg (by decide)];intro s a W hj hkp hd)
      ·have e0:(_:zB)=.pointer (some ⟨g,0,none⟩):=sK hkp 18;exact sV
      ·have e0:(_:zB)=.int .i64 (i:Int):=sK hkp 19;exact sV
      ·have e0:(_:zB)=.slice (some ad) n c2:=sK hkp 20;exact sV
      ·have e0:=sJ (hd 2) 91;exact sV
      ·have e0:=sJ (hd 3) 92;have cc:W.cell? ad=some (.int .i64 ov):=hj.c0;exact sV
      ·have e0:(_:zB)=.slice (some ad) n c2:=sK hkp 20;exact sV
      ·have e0:=sJ (hd 5) 94;exact sV
      ·have e0:=sJ (hd 6) 95;have cc:W.cell? { block:=ad.block,off:=ad.off+1 }=some (.int .i64 z):=hj.c1;exact sV
      rw [if_pos (by decide)];intro s a W hs hj hkp hd;have e0:=sJ (hd 0) 89;have e1:=sJ (hd 1) 90;have e2:=sJ (hd 4) 93;have e3:=sJ (hd 7) 96;have h0:s=0:=by
       match s,hs with
       | 0,_=>rfl
       | s+1,hs=>simp at hs
      subst h0;refine Q4q rfl 104 #[.pointer (some ⟨g,0,none⟩),.int .i64 (i:Int),.int .i64 ov,.int .i64 z] (by go_simp) ((HMVE.out W (hj.zero rfl)).mono ?_);rintro e w' ⟨rfl,q1,q2,q3⟩;exact⟨_,rfl,trivial,⟨(World.cell?_of_block (q2 _ hb0)).trans hj.c0,(World.cell?_of_block (q2 _ hb1)).trans hj.c1,⟨by have:=hj.lt.1; omega,by have:=hj.lt.2; omega⟩,fun e=>by omega,fun _=>HKI.out _ q1⟩,rfl⟩
     intro fv W hj hd;have h97:fv 97=.bool bq:=hd 8 (by omega) _ 97 rfl rfl;obtain⟨hlW,hsW⟩:=HKO.out W (hj.one rfl);have HLW:=sH hlW;have HSW2:=sH hsW;simp only [Q0F,tU,h97];clear hd hj h97 hlW hsW HJ0 HMVE HKS HKO HKI;try simp only [zN,sA]
     cases bq with
     | true =>
      have HNX:=sH (HSW2.out rfl);obtain⟨A',hA'⟩:∃ A',A'=(if c2=2 then(some ad) else(some ad).map (·.add 2)):=⟨_,rfl⟩;have hrd2:∀ W,zD w3.heap.size w3 W->Q08 W W.heap.size 1 A' (n - 2) (t.map vn):=fun W hb=>by
       have:=(HRD.out W hb).sub (l:=2) (k:=n) (cap:=c2) hn1 (zF _) hnc;simp only [Nat.mul_one] at this;rw [<- hA'] at this;have e:(((ov :: z :: t).map vn).drop 2).take (n - 2)=t.map vn:=by show (t.map vn).take (n - 2)=_;exact zM (by have:=HRL.out; simp at this ⊢; omega)
       rw [e] at this;exact this
      have HRD2:=sH hrd2;rw [<- hA'] at HSL;clear hrd2 hA';go_wp2_with (refine Q27 (o:=⟨some 88,_,_,_,_,_⟩) rfl (.slice A' (n - 2) (c2 - 2)) (by have h:=HSL.out W; go_simp) ?_)
      go_roundw
      case rel=>exact⟨_,_,_,_,_,rfl,by have:=HRL.out; simp at this; omega,by omega,HRD2.out,HNX.out⟩
      case measure=>simp; omega
     | false =>
      have hon:o=none:=by rw [HO.out,HOC.out,HM.out.fail HSS.out (of_decide_eq_false HBQ.out.symm)];rfl
      subst hon;have HLR:=sH (show zD w.heap.size w W from(HC3.out.sa.low.trans (HLW.out.mono hlow3)));go_wp2_with fail
      go_ret2
      exact⟨fun _=>⟨rfl,HLR.out⟩,fun m hm=>by cases hm⟩
    have hn1I:¬ (1:Int)<(n:Int):=by omega
    have HE:=sH (HM.out.leave hin (by have:=HRL.out; omega));go_wp2_with fail
    go_roundw
    case rel=>exact⟨i+1,by omega,by go_num,_,HE.out⟩
    case measure=>simp [intOf]; omega
   obtain rfl:i=2:=by omega
   have hkh:∀ b,k.has b->b<w.heap.size:=fun b hb=>by rcases hb with e | e | e <;> omega
   obtain⟨hTs,hoa⟩:=HH.out.answers (w:=w) (k:=k) (f:=numF xss) (by omega) hkh;have HTS:=sH hTs;have HOA:=sH hoa;have HKH:=sH hkh;clear hTs hoa HH hkh;go_wp2_with fail
   go_loopw [100] (fun jv wr=>∃ j:Nat,j<=4/\jv=.int .i64 j/\OaSt w w3 g gc k cs (numF xss) j wr) (fun jv _=>4 - (intOf jv).toNat)
   case atStart=>exact⟨0,by omega,rfl,HOA.out⟩
   obtain⟨j,hj,rfl,hoa⟩:=hrel;obtain⟨w6,rfl⟩:∃ x,x=wr:=⟨_,rfl⟩;clear HOA;have HA:=sH hoa;have hlow6:=hoa.low.size;have hsa:=HSW.out w6 hoa.low;have HLA:=sH (HC3.out.sa.low.trans (hoa.low.mono hlow3));clear hoa;by_cases hj4:j<4
   ·have hjI:(j:Int)<4:=by omega
    have h0j:(0:Int)<=(j:Int):=by omega
    have hj6:(2:Int)+(j:Int)<6:=by omega
    have hj06:(0:Int)<=(2:Int)+(j:Int):=by omega
    have hjn:((2:Int)+(j:Int)).toNat=2+j:=by omega
    have hown:=hsa.own (2+j) (by omega);obtain⟨Ai,ci,hvi,_⟩:=Q0i hown;obtain⟨ni,hni⟩:∃ q,q=(nI (numF xss (2+j))).length:=⟨_,rfl⟩;rw [<- hni] at hvi;have hnl:=Q5Y xss (2+j);have hnx:(xss.getD (2+j) []).length<=1000000000000:=by rw [zI,zC (by have:=HXL.out; omega)];exact HLX.out _ (zJ _)
    have HTD:=sH (QdR (vs (2+j)) (numF xss (2+j)) w6 w.heap.size hown (by omega) (HMX.out (2+j) (by omega)));have cc6:w6.cell? ⟨g6,2+j,none⟩=some (vs (2+j)):=(hsa.blk.cell (2+j)).trans (by rw [Q3Y _ _ _ (by omega),if_pos (by omega)]);obtain⟨u,hu⟩:∃ u,u=vs (2+j):=⟨_,rfl⟩;rw [<- hu] at HTD cc6 hvi hown;have HOWN:=sH hown;subst hvi;clear hsa hown hni hnl hnx hu;go_wp2_with fail
    refine HTD.out.mono ?_;rintro e7 w7 ⟨hb7,hno,hso⟩;have hs7:=hb7.size;cases hq:Q3l (numF xss (2+j)) with
    | none =>
     obtain⟨D,he,hds,hd1⟩:=hno hq;subst he;have hon:o=none:=by rw [HO.out,HOC.out,HTS.out]; exact Qag hj4 hq
     subst hon;have HLW:=sH (HLA.out.trans (hb7.mono HLA.out.size));have hlw7:=HLW.out.size;clear hb7 hno hso hq HTD cc6;go_wp2_with (refine Q00 (o:=⟨none,_,_,_,_,_⟩) rfl 102 (.tmp 22) (.tmp 109) rfl w7.heap.size 0 D rfl rfl 102 #[.int .i64 0,.int .i64 0,.slice none 0 0,.int .i64 0,.slice none 0 0] (Blk.newAt rfl) (by rw [hds]; kernel_rfl) (by rw [hds]; simp) hd1 ?_; intro w8 hT8 hD8)
     go_ret2
     exact⟨fun _=>⟨rfl,hT8.below (HLW.out.alloc (by omega) _) (by omega)⟩,fun m hm=>by cases hm⟩
    | some x =>
     obtain⟨A,c3,he,hrd,hc,hcm,hob⟩:=hso x hq;subst he;obtain⟨D,hD⟩:∃ D,D=lsC x.1 x.2 A c3:=⟨_,rfl⟩;have hds:D.size=5:=by rw [hD]; rfl
     have hd1:D.all (·.oneCell')=true:=by rw [hD]; simp [lsC,Value.oneCell']
     rw [<- hD];have HB7:=sH hb7;have HPT:=sH (fun(W:zA) (hb:zD w6.heap.size w6 W)=>HA.out.put (A:=A) (c:=c3) (u:=.slice Ai ni ci) hj4 hgg ⟨hgB,hgcB⟩ HKH.out hb hq (HMX.out (2+j) (by omega)) (HOWN.out.below_ hb) hrd ⟨hc,hcm⟩ hob);rw [<- hD] at HPT;clear hb7 hno hso hq hrd hc hcm hob hD HTD cc6;go_upto_region 40 with(refine Q00 (o:=⟨none,_,_,_,_,_⟩) rfl 102 (.tmp 22) (.tmp 109) rfl w7.heap.size 0 D rfl rfl 102 #[.int .i64 0,.int .i64 0,.slice none 0 0,.int .i64 0,.slice none 0 0] (Blk.newAt rfl) (by rw [hds]; kernel_rfl) (by rw [hds]; simp) hd1 ?_; intro w8 hT8 hD8)
     rw [Q0c _ _ (by rw [hds]; rfl)] at hD8;have hb8:zD w7.heap.size w7 w8:=hT8.below ((zH _ _).alloc (zF _) _) (zF _);obtain⟨g22,hg22⟩:∃ b,b=w7.heap.size:=⟨_,rfl⟩;rw [<- hg22] at hD8 ⊢;have K22:=sH hD8;have HB8:=sH (HB7.out.trans (hb8.mono hs7));have hs8:=HB8.out.size;clear hT8 hD8 hb8 hg22 HB7;go_upto_region 42 with fail
     refine Q0r 6 125 (by kernel_rfl) (by kernel_rfl) (by kernel_rfl) (by first | rfl | simp) ?_;simp only [tT,tU];refine tD (.pointer (some ⟨g,0,none⟩)) ?_;try simp only [zN,sA]
     refine tD (.int .i64 (j:Int)) ?_;try simp only [zN,sA]
     refine Q0Q rfl 102 (.tmp 22) rfl g22 0 5 rfl 102 _ D _ K22.out Tryz.underlying102 rfl rfl hds (fun _ _=>by rw [zL]) ?_;try simp only [zN,sA]
     refine tC (.pointer (some ⟨g,0,none⟩)) ?_;try simp only [zN,sA]
     refine tC (.pointer (some ⟨g,2,none⟩)) ?_;try simp only [zN,sA]
     refine tC (.pointer (some ⟨g,2+j*5,none⟩)) ?_;try simp only [zN,sA]
     refine Q0M ?_;intro w9 hb9;obtain⟨c0,hB0,hz0,hput⟩:=HPT.out w9 (HB8.out.trans (hb9.mono hs8));have HB0:=sH hB0;have HPU:=sH hput;clear hb9 hB0 hput HPT;go_wp2_with (refine Q00 (o:=⟨none,_,_,_,_,_⟩) rfl 102 (.tmp 118) (.tmp 115) rfl g (2+j*5) D rfl rfl 105 c0 HB0.out (by rw [hds]; kernel_rfl) (by rw [hds,hz0]; omega) hd1 ?_; intro w10 hT10 hD10)
     have HNX:=sH (HPU.out w10 hT10 hD10);clear hT10 hD10 HPU HB0;go_wp2_with fail
     go_roundw
     case rel=>((repeat apply Exists.intro); exact⟨⟨j+1,by omega,by go_num,HNX.out⟩,rfl⟩)
     case measure=>simp [intOf]; omega
   obtain rfl:j=4:=by omega
   have hom:o=some (midA cs (numF xss) 4):=by rw [HO.out,HOC.out,HTS.out]; exact Qaa HA.out.told
   obtain⟨S,hd⟩:=HA.out.dat;have hgl:=hd.lt;have HPL:=sH (Q7p (fun b=>b<w.heap.size) k L asked g gc (midA cs (numF xss) 4) S w6 (HBK.out.below HLA.out) has hd (fun e=>by have:=HKH.out _ e; omega) (fun e=>by have:=HKH.out _ e; omega) hgg);have HOM:=sH hom;have hkl':=hkl;clear hsa hom hd;go_wp2_with fail
   refine HPL.out.mono ?_;rintro _ w7 ⟨TL,rfl,hpl⟩;have HFIN:=sH (ANew.of_planted hpl HLA.out hkl' (by omega) (by omega) hgl.1 hgl.2 hgg);clear hpl HPL;go_wp2_with fail
   go_ret2
   refine⟨fun h=>?_,fun m hm=>?_⟩
   ·rw [HOM.out] at h; cases h
   rw [HOM.out] at hm;obtain rfl:=zQ hm;exact⟨_,rfl,HFIN.out⟩
 have h6b:((n:Int) != 6)=true:=by simp; omega
 have hon:o=none:=by rw [HO.out]; exact Q5U fun hh=>h6 (by omega)
 subst hon;clear hr hbk hlx hxl;go_enter Tryz.func49,Tryz.ntmps49
 go_wp2_with fail
 go_ret2
 exact⟨fun _=>⟨rfl,zH _ _⟩,fun m hm=>by cases hm⟩
end
end Go.Proofs.YtcpngeiahgoacaaGreat
