/- Parts of the proof, in one text. -/
import Derived.Test.YtckjnbjiafgibaaGreatL7
namespace Go.Proofs.YtckjnbjiafgibaaGreat
set_option linter.unusedVariables false
set_option linter.unusedSimpArgs false
set_option maxRecDepth 100000
set_option maxHeartbeats 16000000
open _root_.Array renaming getElem?_eq_none->zG,getElem?_toList->zT
open _root_.Go renaming Addr->zA,World->zB,Value->zC,Calls->zI
open _root_.Go.Act renaming put->zS
open _root_.Go.Proofs.Tryz renaming prog->zJ
open _root_.Go.RowKit renaming Below->zE
open _root_.Go.RowKit.Below renaming refl->zM
open _root_.Go.Value renaming ownBlock->zH,oneCell'->zQ
open _root_.List renaming getElem?_eq_getElem->zD,length_append->zL,append_assoc->zN,getElem?_take->zO,replicate->zR,take_succ_eq_append_getElem->zU,mem_of_getElem?->zW
open _root_.Nat renaming lt_or_ge->zF,le_refl->zK,zero_add->zP
open _root_.Option.some renaming inj->zV
section
open Go.RowKit Go.Maps
attribute [local irreducible] wpList Q0c
structure QaY (w:zB) (s:Srv) (S:ASl) (i:Nat):Prop where
 first:Q04 w w.heap.size 1 (S.fA i) s.first.length (s.first.map vn)
 mv:w.ownsRow 0 119 2 (.slice (S.mA i) s.moves.length (S.mC i)) s.moves.length (Q0s s.moves)
 ok:SOk s
theorem QaY.below {w w':zB} {s:Srv} {S:ASl} {i:Nat} (h:QaY w s S i) (hb:zE w.heap.size w w'):QaY w' s S i :=⟨(h.first.below hb).more hb.size,Q0k h.mv (fun b hb'=>hb.block b (Q0f h.mv hb').2),h.ok⟩
theorem ADat.srvIn {w:zB} {g gc:Nat} {t:Option zA} {N:Nat->Prop} {m:AM} {S:ASl} (h:ADat w g gc t N m S) {i:Nat} {s:Srv} (hs:m.chunks[i]?=some s):QaY w s S i :=⟨(h.first i s hs).rd,h.mv i s hs,h.ok.srv s (zW hs)⟩
theorem Qbo (b:Nat) (s:Srv) (S:ASl) (i:Nat) (z:Int) (w:zB) (h:QaY w s S i) (hc:w.cell? ⟨b,0,none⟩=some (.int .i64 z)) :
 zI zJ 103 #[.agg (srvC s S i),.pointer (some ⟨b,0,none⟩)] w fun e w'=>e=.returned (.bool (Q3w s z))/\zE w.heap.size w w':=by
 have hmf:∀ (fn:Fn) (first cap:Array zC) (w:zB),(Instr.makeFunc fn first cap).run zJ w=.ok (.func fn first cap) w:=fun _ _ _ _=>rfl
 have hX:=Q02 w (.cells (srvC s S i) 117);have hl:=World.block_lt_of_cell? _ _ hc;have hk:Blk (w.alloc (.cells (srvC s S i) 117)) w.heap.size 117 (srvC s S i):=Blk.newAt rfl;have h1:=h.below hX;have hcl:=h.ok.len;have HH:=sH (Q48 s.f (S.fA i) s.first.length (S.fC i) s.first z _ h1.first h.ok.crew);have HC:=sH (fun(W:zB) (hb:zE w.heap.size w W)=>Q5Y (S.mA i) s.moves.length (S.mC i) b s.moves z W (h.below hb).mv ((hb.cell hl).trans hc) (by omega));have HCB:=sH ((hX.cell hl).trans hc);have HU:=sH (show Q3w s z=(decide (z∈s.first) || s.moves.any (fun m=>decide (m.2=z))) from rfl);have HX:=sH hX;have HK:=sH hk;obtain⟨D,hD⟩:∃ D,D=srvC s S i:=⟨_,rfl⟩;obtain⟨C,hC⟩:∃ C,C=crC s.f (S.fA i) s.first.length (S.fC i):=⟨_,rfl⟩;have hcs:C.size=2:=by rw [hC]; rfl
 have hd:∀ j,j<2->D[0+j]?=C[j]?:=fun j hj=>by
  rw [hD,hC,zP];obtain rfl | rfl:j=0\/j=1:=by omega
  iterate 2 ·rfl
 have hd4:D[4]?=some (.slice (S.mA i) s.moves.length (S.mC i)):=by rw [hD]; rfl
 obtain⟨mn,hmn⟩:∃ k,k=s.moves.length:=⟨_,rfl⟩;rw [<- hmn] at HC hd4;rw [<- hD] at HX HK HH HCB ⊢;rw [<- hC] at HH;have HD2:=sH hd;have HD4:=sH hd4;obtain⟨g,hg⟩:∃ g,g=w.heap.size:=⟨_,rfl⟩;generalize s.moves.any (fun m=>decide (m.2=z))=r2 at HC HU;generalize Q3w s z=res at HU ⊢;clear h hc hX hk h1 hD hC hd hd4 hmn;go_enter Tryz.func103,Tryz.ntmps103
 go_upto_region 1 with fail
 generalize World.alloc w _=w1 at HX HK HH HCB ⊢;rw [<- hg] at HK ⊢;have hgl:=HK.out.lt;clear hg;have hcb:=HCB.out;go_wp2_with (refine Q01 (o:=⟨some 5,_,_,_,_,_⟩) rfl 69 (.tmp 4) rfl g 0 2 rfl 117 _ C _ HK.out Tryz.underlying69 rfl rfl hcs HD2.out ?_)
 refine HH.out.mono ?_;rintro _ w2 ⟨rfl,hb2⟩;have hs2:=HX.out.size;have HB2:=sH (HX.out.trans (hb2.mono hs2));have HCC:=sH (HC.out w2 HB2.out);have c4:w2.cell? ⟨g,4,none⟩=some (.slice (S.mA i) mn (S.mC i)):=((HK.out.below' hb2).cell 4).trans HD4.out;clear hb2 HH HK HC hcb;by_cases hin:z∈s.first
 ·rw [decide_eq_true hin] at HU ⊢;have hr:res=true:=by rw [HU.out]; rfl
  subst hr;clear hin;go_wp2_with fail
  go_ret
  exact⟨rfl,HB2.out⟩
 rw [decide_eq_false hin] at HU ⊢;have hr:res=r2:=by rw [HU.out]; rfl
 subst hr;clear hin;go_wp2_with fail
 refine HCC.out.mono ?_;rintro _ w3 ⟨rfl,hb3⟩;have HB3:=sH (HB2.out.trans (hb3.mono HB2.out.size));clear hb3 HCC;go_wp2_with fail
 go_ret
 exact⟨rfl,HB3.out⟩
theorem Q8K (w:zB) (g gc b:Nat) (t:Option zA) (N:Nat->Prop) (m:AM) (S:ASl) (z:Int) (h:ADat w g gc t N m S) (hb:w.cell? ⟨b,0,none⟩=some (.int .i64 z)) :
 zI zJ 115 #[.slice (some ⟨gc,0,none⟩) m.chunks.length S.cap,.func (.func 103) #[] #[.pointer (some ⟨b,0,none⟩)]] w fun e w'=>∃ r:Int,e=.returned (.int .i64 r)/\-1<=r/\r<=1000/\decide (0<=r)=m.chunks.any (fun s=>Q3w s z)/\zE w.heap.size w w':=by
 have hn2:=h.ok.one;have hbl:=World.block_lt_of_cell? _ _ hb;have H:=sH (fun(W:zB) (hb:zE w.heap.size w W)=>h.below hb);have HB:=sH (fun(W:zB) (h:zE w.heap.size w W)=>(h.cell hbl).trans hb);obtain⟨cs,hcs⟩:∃ cs,cs=m.chunks:=⟨_,rfl⟩;have HCS:=sH hcs;rw [<- hcs] at hn2 ⊢;obtain⟨n,hn⟩:∃ n,n=cs.length:=⟨_,rfl⟩;rw [<- hn] at hn2 ⊢;have HML:=sH hn;clear h hb hbl hcs hn;go_enter Tryz.func115,Tryz.ntmps115
 go_wp2_with fail
 go_loopw [5,8] (fun _ iv wr=>∃ i:Nat,i<=n/\iv=.int .i64 (i:Int)/\(∀ (k:Nat) (hk:k<cs.length),k<i->Q3w cs[k] z=false)/\zE w.heap.size w wr) (fun _ iv _=>n - (intOf iv).toNat)
 case atStart=>exact⟨0,by omega,rfl,fun k hk h=>by omega,zM _ _⟩
 obtain⟨i,hi,rfl,hno,hbel⟩:=hrel;have HNO:=sH hno;have HBE:=sH hbel;clear hno hbel;by_cases hin:i<n
 ·have hinI:(i:Int)<(n:Int):=by omega
  have hil:i<cs.length:=by have:=HML.out; omega
  have hget:m.chunks[i]?=some cs[i]:=by rw [<- HCS.out,zD hil]
  have hdat:=H.out wr HBE.out;have hU:=Qbo b cs[i] S i z wr (hdat.srvIn hget) (HB.out wr HBE.out);have hsrv:=hdat.srv i cs[i] hget;have HBL:=sH hdat.row;obtain⟨s,hs⟩:∃ s,s=cs[i]:=⟨_,rfl⟩;rw [<- hs] at hU hsrv;obtain⟨D,hD⟩:∃ D,D=srvC s S i:=⟨_,rfl⟩;have hds:D.size=5:=by rw [hD]; rfl
  rw [<- hD] at hU hsrv;have HU:=sH hU;have HSV:=sH hsrv;have HSE:=sH hs;generalize hu:Q3w s z=u at HU;have HUE:=sH hu;clear hget hdat hU hsrv hs hD hu;go_wp2_with (refine Q01 (o:=⟨some 15,_,_,_,_,_⟩) rfl 117 (.tmp 14) rfl gc (i*5) 5 rfl 117 _ D _ HBL.out Tryz.underlying117 rfl rfl hds HSV.out ?_)
  refine HU.out.mono ?_;rintro _ w2 ⟨rfl,hb2⟩;have HB2:=sH (HBE.out.trans (hb2.mono HBE.out.size));clear hb2 HU;cases u with
  | true =>
   have hany:cs.any (fun s=>Q3w s z)=true:=List.any_eq_true.2 ⟨cs[i],List.getElem_mem hil,by rw [<- HSE.out]; exact HUE.out⟩;have HANY:=sH hany;clear hany;go_wp2_with fail
   go_ret
   exact⟨i,rfl,by omega,by omega,by rw [HANY.out]; exact decide_eq_true (by omega),HB2.out⟩
  | false =>
   have HN2:=sH (show ∀ (k:Nat) (hk:k<cs.length),k<i+1->Q3w cs[k] z=false from fun k hk h=>by
    rcases zF k i with e | e
    ·exact HNO.out k hk e
    obtain rfl:k=i:=by omega
    rw [<- HSE.out]; exact HUE.out)
   go_wp2_with fail
   go_roundw
   case rel=>exact⟨i+1,by omega,by go_num,HN2.out,HB2.out⟩
   case measure=>simp [intOf]; omega
 have hinI:¬ (i:Int)<(n:Int):=by omega
 have hany:cs.any (fun s=>Q3w s z)=false:=List.any_eq_false.2 fun s hs=>by obtain⟨k,hk,rfl⟩:=List.mem_iff_getElem.1 hs;have:=HNO.out k hk (by have:=HML.out; omega);rw [this]; simp
 have HANY:=sH hany;clear hany;go_wp2_with fail
 go_ret
 exact⟨-1,rfl,by omega,by omega,by rw [HANY.out]; rfl,HBE.out⟩
theorem Q6U (w:zB) (g gc f:Nat) (t:Option zA) (N:Nat->Prop) (m:AM) (S:ASl) (z:Int) (h:ADat w g gc t N m S) (hf:f<=2) :
 zI zJ 87 #[.pointer (some ⟨g,0,none⟩),.int .i64 (f:Int),.int .i64 z] w fun e w'=>e=.returned (.bool (Q0H m.chunks f z))/\zE w.heap.size w w':=by
 have hmf:∀ (fn:Fn) (first cap:Array zC) (w:zB),(Instr.makeFunc fn first cap).run zJ w=.ok (.func fn first cap) w:=fun _ _ _ _=>rfl
 have hX:=Q02 w (.cells #[.int .i64 z] 3);have hk:Blk (w.alloc (.cells #[.int .i64 z] 3)) w.heap.size 3 #[.int .i64 z]:=Blk.newAt rfl;have h1:=h.below hX;have c1:=(h1.blk.cell 1).trans (Q1a _ _ _ _ 1 (by omega));have HI:=sH (Q8K _ g gc w.heap.size t N m S z h1 ((hk.cell 0).trans rfl));have HX:=sH hX;have HU:=sH (show Q0H m.chunks f z=(decide (z<=3*(f:Int)+1) || m.chunks.any (fun s=>Q3w s z)) from rfl);have hc0:=(hk.cell 0).trans (show (#[Value.int .i64 z])[0]?=some (.int .i64 z) from rfl);have hc1:(w.alloc (.cells #[.int .i64 z] 3)).cell? ⟨g,1,none⟩=some (.slice (some ⟨gc,0,none⟩) m.chunks.length S.cap):=c1;obtain⟨n,hn⟩:∃ n,n=m.chunks.length:=⟨_,rfl⟩;rw [<- hn] at hc1 HI;have hlg:=h.lt;generalize m.chunks.any (fun s=>Q3w s z)=r2 at HI HU;generalize Q0H m.chunks f z=res at HU ⊢;have HC0:=sH hc0;have HC1:=sH hc1;obtain⟨q,hq⟩:∃ g,g=w.heap.size:=⟨_,rfl⟩;clear h hX hk h1 c1 hn hc0 hc1;go_enter Tryz.func87,Tryz.ntmps87
 go_upto_region 1 with fail
 generalize World.alloc w _=w1 at HX HI HC0 HC1 ⊢;rw [<- hq] at HI HC0 ⊢;have c0:=HC0.out;have c1:=HC1.out;clear hq;by_cases hle:z<=3*(f:Int)+1
 ·rw [decide_eq_true hle] at HU;have hr:res=true:=by rw [HU.out]; rfl
  subst hr;go_wp2_with fail
  go_ret
  exact⟨rfl,HX.out⟩
 rw [decide_eq_false hle] at HU;have hr:res=r2:=by rw [HU.out]; rfl
 subst hr;have HCO:=sH (show zI zJ 102 #[.slice (some ⟨gc,0,none⟩) n S.cap,.func (.func 103) #[] #[.pointer (some ⟨q,0,none⟩)]] w1 fun e w'=>e=.returned (.bool res)/\zE w1.heap.size w1 w' by
  clear c0 c1 hmf;go_enter Tryz.func102,Tryz.ntmps102
  go_wp2_with fail
  refine HI.out.mono ?_;rintro _ w2 ⟨r,rfl,h1,h2,h3,hb2⟩;have HB2:=sH hb2;have H3:=sH h3;clear hb2 h3;go_wp2_with fail
  go_ret
  exact⟨Q0C (by first | exact H3.out | (rw [<- H3.out])),HB2.out⟩)
 go_wp2_with fail
 refine HCO.out.mono ?_;rintro _ w2 ⟨rfl,hb2⟩;have HB2:=sH (HX.out.trans (hb2.mono HX.out.size));clear hb2 HCO HI;go_wp2_with fail
 go_ret
 exact⟨rfl,HB2.out⟩
theorem Q3z:(Tryz.prog.info? 81).map (·.size)=some 5:=by kernel_rfl
theorem Q6m (S:ASl) (m:AM) (i:Nat):(Q1R S m i).all (·.oneCell')=true:=by simp [Q1R,zQ]
def Q0A:Array zC:=#[.int .i64 0,.int .i64 0,.slice none 0 0,.int .i64 0,.slice none 0 0]
theorem Qb8 (w:zB) (g gc j i:Nat) (t:Option zA) (N:Nat->Prop) (m:AM) (S:ASl) (h:ADat w g gc t N m S) (hj:j<4) (hi:i=j+2) :
 zI zJ 66 #[.pointer (some ⟨g,0,none⟩),.int .i64 (i:Int)] w fun e w'=>∃ v,e=.returned v/\OwnB w' w.heap.size v (Q2q (Q72 (Q0u m j)))/\zE w.heap.size w w':=by
 have hlo:=h.ok.lst j;have hnb:=hlo.2.1.bound;have hlc:=fun q hq=>Q7p t gc m S j q hj hq
 have hnd:=h.nodes j hj;have hlt:=h.lt.1;have HLC:=sH hlc;have HB:=sH h.blk;have HND:=sH hnd.rd;have hnum:=QaR h.ok (j+2);have hle:Q5t m (j+2)=Q72 (Q0u m j):=by unfold Q5t; rw [if_neg (by omega)]; rfl
 rw [hle] at hnum;have HNUM:=sH hnum;have hln:(Q72 (Q0u m j)).length=4+(Q0u m j).2.nodes.length:=by unfold Q72; rw [zL]; rfl
 have HLI:=sH (show Q72 (Q0u m j)=[((Q0u m j).1:Int),((Q0u m j).2.err:Int),((Q0u m j).2.epoch:Int),((Q0u m j).2.nodes.length:Int)]++(Q0u m j).2.nodes from rfl);have HLN:=sH hln;have hD:Q1R S m j=#[.int .i64 ((Q0u m j).1:Int),.int .i64 ((Q0u m j).2.err:Int),.slice none 0 0,.int .i64 ((Q0u m j).2.epoch:Int),.slice (S.lA j) (Q0u m j).2.nodes.length (S.lC j)]:=rfl;have hone:=Q6m S m j;have hsz:(Q1R S m j).size=5:=rfl;generalize Q1R S m j=D at HLC hD hone hsz;obtain⟨st,hst⟩:∃ k,k=(Q0u m j).1:=⟨_,rfl⟩;obtain⟨er,her⟩:∃ k,k=(Q0u m j).2.err:=⟨_,rfl⟩;obtain⟨ep,hep⟩:∃ k,k=(Q0u m j).2.epoch:=⟨_,rfl⟩;obtain⟨ns,hns⟩:∃ k,k=(Q0u m j).2.nodes:=⟨_,rfl⟩;generalize Q72 (Q0u m j)=li at HNUM HLI HLN ⊢;rw [<- hst,<- her,<- hep,<- hns] at hD HLI;rw [<- hns] at HND hnb HLN;obtain⟨n,hn⟩:∃ n,n=ns.length:=⟨_,rfl⟩;rw [<- hn] at hD HLI HND hnb HLN;have HN:=sH hn;have HD:=sH hD;have HONE:=sH hone;have HSZ:=sH hsz;have hn7:n<=7:=hnb.1;have hi2:(2:Int)<=(i:Int):=by omega
 have hij:(i:Int) - 2=(j:Int):=by omega
 obtain⟨i0,hi0,hz0,hz1,hz2⟩:=info_parts Q4f;have hZ:Q0A=#[.int .i64 0,.int .i64 0,.slice none 0 0,.int .i64 0,.slice none 0 0]:=rfl;clear h hlo hlc hnd hnum hle hln hD hone hsz hst her hep hns hn hi hnb;go_enter Tryz.func66,Tryz.ntmps66
 go_upto_region 3 with(first
  | (refine Q01 (o:=⟨some 19,_,_,_,_,_⟩) rfl 81 (.tmp 18) rfl g (2+j*5) 5 rfl 84 _ D _ HB.out Tryz.underlying81 rfl rfl HSZ.out HLC.out ?_)
  | (refine Q00 (o:=⟨none,_,_,_,_,_⟩) rfl 81 (.tmp 5) (.tmp 19) rfl w.heap.size 0 D rfl rfl 81 Q0A (by rw [hZ]; exact Blk.newAt rfl) (by rw [HSZ.out]; exact Q3z) (by rw [HSZ.out]; simp [Q0A]) HONE.out ?_; intro w1 hT1 hD1; rw [Q0a _ _ (by rw [HSZ.out]; rfl)] at hD1))
 have hb1:zE w.heap.size w w1:=hT1.below (Q02 w _) (zK _);have hs1:=hb1.size;obtain⟨g5,hg5⟩:∃ g,g=w.heap.size:=⟨_,rfl⟩;rw [<- hg5] at hD1 ⊢;rw [HD.out] at hD1;have c0:w1.cell? ⟨g5,0,none⟩=some (.int .i64 (st:Int)):=(hD1.cell 0).trans rfl;have c1:w1.cell? ⟨g5,1,none⟩=some (.int .i64 (er:Int)):=(hD1.cell 1).trans rfl;have c3:w1.cell? ⟨g5,3,none⟩=some (.int .i64 (ep:Int)):=(hD1.cell 3).trans rfl;have c4:w1.cell? ⟨g5,4,none⟩=some (.slice (S.lA j) n (S.lC j)):=(hD1.cell 4).trans rfl;have hgl:=hD1.lt;have HB1:=sH hb1;have HW:=sH (World.ownsRow_lit (base:=w.heap.size) (e:=3) (size:=1) w1 #[.int .i64 (st:Int),.int .i64 (er:Int),.int .i64 (ep:Int),.int .i64 (n:Int)] 4 (by omega) (by unfold maxLen; omega) rfl);have HND1:=sH (HND.out.below hb1);have HND2:=sH (HND1.out.alloc hs1 (.cells #[.int .i64 (st:Int),.int .i64 (er:Int),.int .i64 (ep:Int),.int .i64 (n:Int)] 3));clear hT1 hD1 hb1 hg5 HB HLC HND;go_wp2_with (at_builtin; go_must (refine Q05 _ rfl (.tmp 33) (.tmp 36) 29 rfl w.heap.size 3 i0 _ 1 8 Tryz.underlying29 hi0 hz0 hz1 hz2 rfl (by omega) _ 4 _ rfl HW.out w.heap.size (S.lA j) n (S.lC j) (ns.map vn) rfl HND2.out ?c1 ?c2 ?c3 ?c4 ?_))
 case c1=>intro u hu; first | rfl | (obtain⟨y,_,rfl⟩:=List.mem_map.1 hu; rfl)
 case c2=>unfold maxLen; omega
 case c3=>omega
 case c4=>first | omega | (simp; omega)
 intro v2 w2 hown2 hg2 hor2;have hb2:zE w.heap.size w w2:=Q0i (HB1.out.trans ((Q02 w1 _).mono hs1)) (by simp; omega) hg2 (fun b hb=>by
  have:b=w1.heap.size:=by simpa [zH] using hb.symm
  omega)
 have hob:OwnN w2 w.heap.size v2 li:=by unfold OwnN;rw [HLN.out,HLI.out];simpa [vn] using hown2
 obtain⟨A2,k2,rfl,hk2,_,hr2,_⟩:=Q0e hob;have HB2:=sH hb2;have hln:=HLN.out;have HNU:=sH (Q5k A2 li.length k2 li w2 _ hr2 (zK _) HNUM.out (by omega));generalize li.length=ll at HNU ⊢;clear hown2 hg2 hor2 hb2 hob hr2 hln hk2 HND1 HND2 HW c0 c1 c3 c4;go_wp2_with fail
 refine HNU.out.mono ?_;rintro _ w3 ⟨v3,rfl,ho3,hb3⟩;have HO3:=sH ho3;have HB3:=sH (HB2.out.trans (hb3.mono HB2.out.size));have hs2:=HB2.out.size;clear ho3 hb3 HNU;go_wp2_with fail
 go_ret
 exact⟨_,rfl,HO3.out.more hs2,HB3.out⟩
theorem Q5L:(Tryz.prog.info? 117).map (·.size)=some 5:=by kernel_rfl
theorem Qbc:(Tryz.prog.info? 119).map (·.size)=some 2:=by kernel_rfl
theorem Q9l (s:Srv) (S:ASl) (i:Nat):(srvC s S i).all (·.oneCell')=true:=by simp [srvC,zQ]
def Q61:Array zC:=#[.int .i64 0,.slice none 0 0,.int .i64 0,.slice none 0 0,.slice none 0 0]
theorem Q8l:∀ (l:List (Int×Int)) (i:Nat) (h:i<l.length),Q1E (l.take (i+1))=Q1E (l.take i)++[l[i].1,l[i].2]:=fun l i h=>by rw [zU h,Q4a]; rfl
theorem Qbv (w:zB) (g gc i:Nat) (t:Option zA) (N:Nat->Prop) (m:AM) (S:ASl) (h:ADat w g gc t N m S) (hi:i<2) (hn:m.chunks.length<=i) :
 zI zJ 66 #[.pointer (some ⟨g,0,none⟩),.int .i64 (i:Int)] w fun e w'=>∃ v,e=.returned v/\OwnB w' w.heap.size v (Q2q [0])/\zE w.heap.size w w':=by
 have hc1:w.cell? ⟨g,1,none⟩=some (.slice (some ⟨gc,0,none⟩) m.chunks.length S.cap):=(h.blk.cell 1).trans (Q1a _ _ _ _ 1 (by omega));obtain⟨n,hne⟩:∃ n,n=m.chunks.length:=⟨_,rfl⟩;rw [<- hne] at hc1 hn;have hX:=Q02 w (.cells #[.int .i64 0] 3);have hk:Blk (w.alloc (.cells #[.int .i64 0] 3)) w.heap.size 3 #[.int .i64 0]:=Blk.newAt rfl;have HX:=sH hX;have HNU:=sH (Q5k (some ⟨w.heap.size,0,none⟩) 1 1 [0] (w.alloc (.cells #[.int .i64 0] 3)) _ (Q0l w #[.int .i64 0] 3) (by simp) (fun z hz=>by rw [List.mem_singleton.1 hz]; exact Q3q (by omega) (by omega)) (by omega));have hin:(n:Int)<=(i:Int):=by omega
 have hi2:¬ (2:Int)<=(i:Int):=by omega
 have hi2n:¬ 2<=i:=by omega
 generalize Q2q [0]=res at HNU ⊢;clear h hne hX hk;go_enter Tryz.func66,Tryz.ntmps66
 go_wp2_with fail
 refine HNU.out.mono ?_;rintro _ w3 ⟨v3,rfl,ho3,hb3⟩;have hs2:=HX.out.size;have HO3:=sH ho3;have HB3:=sH (HX.out.trans (hb3.mono hs2));clear ho3 hb3 HNU;go_wp2_with fail
 go_ret
 exact⟨_,rfl,HO3.out.more hs2,HB3.out⟩
theorem QaN (w:zB) (g gc i:Nat) (t:Option zA) (N:Nat->Prop) (m:AM) (S:ASl) (h:ADat w g gc t N m S) (s:Srv) (hs:m.chunks[i]?=some s) :
 zI zJ 66 #[.pointer (some ⟨g,0,none⟩),.int .i64 (i:Int)] w fun e w'=>∃ v,e=.returned v/\OwnB w' w.heap.size v (Q2q (Q2t s))/\zE w.heap.size w w':=by
 have hil:i<m.chunks.length:=(List.getElem?_eq_some_iff.1 hs).1;have hc1:w.cell? ⟨g,1,none⟩=some (.slice (some ⟨gc,0,none⟩) m.chunks.length S.cap):=(h.blk.cell 1).trans (Q1a _ _ _ _ 1 (by omega));have h2:=h.ok.one;have hsi:=h.srvIn hs;have hok:=hsi.ok;have hlt:=h.lt;have HLC:=sH (h.srv i s hs);have HB:=sH h.row;have HFR:=sH hsi.first;have HMV:=sH hsi.mv;have hnum:∀ z,z∈Q2t s->NumI z:=fun z hz=>by have:=hok.chunk z hz; exact Q3q this.1 this.2
 have HNUM:=sH hnum;have hcl:=hok.chunk_len;have hml:=hok.len;have hfl:=hok.crew.short;have hff:=hok.crew.faults;have hchl:(Q2t s).length=2+s.first.length+2*s.moves.length:=by unfold Q2t; rw [zL,Q3u]; simp; omega
 obtain⟨n,hne⟩:∃ n,n=m.chunks.length:=⟨_,rfl⟩;rw [<- hne] at hc1 hil h2;obtain⟨mn,hmn⟩:∃ n,n=s.moves.length:=⟨_,rfl⟩;obtain⟨fn,hfn⟩:∃ n,n=s.first.length:=⟨_,rfl⟩;have hD:srvC s S i=#[.int .i64 (s.f:Int),.slice (S.fA i) fn (S.fC i),.int .i64 (s.f:Int),.slice (S.nA i) s.now.length (S.nC i),.slice (S.mA i) mn (S.mC i)]:=by rw [hmn,hfn]; rfl
 have hone:=Q9l s S i;have hsz:(srvC s S i).size=5:=rfl;generalize srvC s S i=D at HLC hD hone hsz;rw [<- hfn] at HFR hfl hchl;rw [<- hmn] at HMV hml hchl;have HCH:=sH (show Q2t s=((((mn+1:Nat):Int) :: (s.f:Int) :: s.first)++Q1E s.moves) by rw [hmn]; rfl);have HCHL:=sH hchl;have HMN:=sH hmn;have HFN:=sH hfn;have HD:=sH hD;have HONE:=sH hone;have HSZ:=sH hsz;obtain⟨i0,hi0,hz0,hz1,hz2⟩:=info_parts Q4f;have hZ:Q61=#[.int .i64 0,.slice none 0 0,.int .i64 0,.slice none 0 0,.slice none 0 0]:=rfl;obtain⟨f,hf⟩:∃ f,f=s.f:=⟨_,rfl⟩;have HF:=sH hf;rw [<- hf] at HD HCH hff;have hinI:¬ (n:Int)<=(i:Int):=by omega
 have hinN:¬ n<=i:=by omega
 have hiI:(i:Int)<(n:Int):=by omega
 have hi2:¬ (2:Int)<=(i:Int):=by omega
 have hi2n:¬ 2<=i:=by omega
 generalize hch:Q2t s=ch at HNUM HCH HCHL hcl ⊢;generalize s.moves=ms at HMV HMN HCH;generalize s.first=fs at HFR HFN HCH;generalize s.now=nw at HD;have hl1:=hlt.1;have hl2:=hlt.2;clear h hsi hok hs hnum hne hmn hfn hD hone hsz hf hch hlt hchl;go_enter Tryz.func66,Tryz.ntmps66
 go_upto_region 8 with(first
  | (refine Q01 (o:=⟨some 56,_,_,_,_,_⟩) rfl 117 (.tmp 55) rfl gc (i*5) 5 rfl 117 _ D _ HB.out Tryz.underlying117 rfl rfl HSZ.out HLC.out ?_)
  | (refine Q00 (o:=⟨none,_,_,_,_,_⟩) rfl 117 (.tmp 7) (.tmp 56) rfl w.heap.size 0 D rfl rfl 117 Q61 (by rw [hZ]; exact Blk.newAt rfl) (by rw [HSZ.out]; exact Q5L) (by rw [HSZ.out]; simp [Q61]) HONE.out ?_; intro w1 hT1 hD1; rw [Q0a _ _ (by rw [HSZ.out]; rfl)] at hD1))
 have hb1:zE w.heap.size w w1:=hT1.below (Q02 w _) (zK _);have hs1:=hb1.size;obtain⟨g7,hg7⟩:∃ g,g=w.heap.size:=⟨_,rfl⟩;rw [<- hg7] at hD1 ⊢;rw [HD.out] at hD1;have c0:w1.cell? ⟨g7,0,none⟩=some (.int .i64 (f:Int)):=(hD1.cell 0).trans rfl;have c1:w1.cell? ⟨g7,1,none⟩=some (.slice (S.fA i) fn (S.fC i)):=(hD1.cell 1).trans rfl;have c4:w1.cell? ⟨g7,4,none⟩=some (.slice (S.mA i) mn (S.mC i)):=(hD1.cell 4).trans rfl;have hgl:=hD1.lt;have HD1:=sH hD1;have HB1:=sH hb1;have hmI:((mn+1:Nat):Int)=(mn:Int)+1:=by omega
 have HW:=sH (World.ownsRow_lit (base:=w.heap.size) (e:=3) (size:=1) w1 #[.int .i64 ((mn:Int)+1),.int .i64 (f:Int)] 2 (by omega) (by unfold maxLen; omega) rfl);have HFR2:=sH ((HFR.out.below hb1).alloc hs1 (.cells #[.int .i64 ((mn:Int)+1),.int .i64 (f:Int)] 3));have HMV1:=sH (fun(W:zB) (hb:zE w.heap.size w W)=>(Q0k HMV.out (fun q hq=>hb.block q (Q0f HMV.out hq).2):W.ownsRow 0 119 2 (.slice (S.mA i) mn (S.mC i)) mn (Q0s ms)));have hg7w:w.heap.size<=g7:=by omega
 clear hT1 hD1 hb1 hg7 HB HLC HFR HMV;go_wp2_with (at_builtin; go_must (refine Q05 _ rfl (.tmp 64) (.tmp 67) 29 rfl w.heap.size 3 i0 _ 1 8 Tryz.underlying29 hi0 hz0 hz1 hz2 rfl (by omega) _ 2 _ rfl HW.out w.heap.size (S.fA i) fn (S.fC i) (fs.map vn) rfl HFR2.out ?c1 ?c2 ?c3 ?c4 ?_))
 case c1=>intro u hu; first | rfl | (obtain⟨y,_,rfl⟩:=List.mem_map.1 hu; rfl)
 case c2=>unfold maxLen; omega
 case c3=>omega
 case c4=>first | omega | (simp; omega)
 intro v2 w2 hown2 hg2 hor2;have hb12:zE w1.heap.size w1 w2:=Q0i (Q02 w1 _) (by simp) hg2 (fun b hb=>by
  have:b=w1.heap.size:=by simpa [zH] using hb.symm
  omega)
 have hob:OwnN w2 w.heap.size v2 (((mn+1:Nat):Int) :: (f:Int) :: fs):=by
  unfold OwnN;have hle:(((mn+1:Nat):Int) :: (f:Int) :: fs).length=2+fn:=by rw [HFN.out]; simp; omega
  rw [hle];simpa [vn,hmI] using hown2
 have HOB:=sH hob;have HB2:=sH (HB1.out.trans (hb12.mono hs1));have c42:w2.cell? ⟨g7,4,none⟩=some (.slice (S.mA i) mn (S.mC i)):=(hb12.cell hgl).trans c4;clear hown2 hg2 hor2 hb12 hob HW HFR2 c0 c1 c4 HD1;go_wp2_with fail
 go_loopw [8,72] (fun lv kv wr=>∃ k:Nat,k<=mn/\kv=.int .i64 (k:Int)/\OwnN wr w.heap.size lv ((((mn+1:Nat):Int) :: (f:Int) :: fs)++Q1E (ms.take k))/\zE w.heap.size w wr) (fun _ kv _=>mn - (intOf kv).toNat)
 case atStart=>exact⟨0,by omega,rfl,by simpa [Q1E] using HOB.out,HB2.out⟩
 obtain⟨k,hk,rfl,hov,hbel⟩:=hrel;have HOV:=sH hov;have HBE:=sH hbel;have hsz:=hbel.size;clear hov hbel;by_cases hin:k<mn
 ·have hkI:(k:Int)<(mn:Int):=by omega
  obtain⟨q,cap,cur,hv,_,hB,_,_,_,ht⟩:∃ q cap cur,Value.slice (S.mA i) mn (S.mC i)=.slice (some ⟨q,0,none⟩) mn cap/\0<=q/\Blk wr q 119 cur/\mn<=cap/\cap<=maxLen/\cur.size=cap*2/\cur.toList.take (mn*2)=Q0s ms:=by
   rcases(HMV1.out wr HBE.out).2 with⟨_,h1⟩ | h
   ·omega
   exact h
  injection hv with hA _ hc
  have hkl:k<ms.length:=by have:=HMN.out; omega
  obtain⟨y,hy⟩:∃ y,y=ms[k]:=⟨_,rfl⟩;obtain⟨yo,yn⟩:=y;obtain⟨E,hE⟩:∃ E:Array zC,E=#[.int .i64 yo,.int .i64 yn]:=⟨_,rfl⟩;have hes:E.size=2:=by rw [hE]; rfl
  have heo:E.all (·.oneCell')=true:=by rw [hE]; simp [zQ]
  have hcur:∀ j,j<2->cur[k*2+j]?=E[j]?:=fun j hj=>by
   have hg:=Q2Z ms k hkl;rw [<- ht,zO,if_pos (by omega),zO,if_pos (by omega),zT,zT,<- hy] at hg;rw [hE];obtain rfl | rfl:j=0\/j=1:=by omega
   ·exact hg.1
   exact hg.2
  have hsn:=Q8l ms k hkl;rw [<- hy] at hsn;have HSN:=sH hsn;have HCUR:=sH hcur;have HBL:=sH hB;have HE:=sH hE;have HES:=sH hes;have HEO:=sH heo;have hal:S.mA i=some ⟨q,0,none⟩:=hA;clear hcur hB ht hE hc hy hA hsn hes heo;rw [hal];go_upto_region 12 with(first
   | (refine Q01 (o:=⟨some 75,_,_,_,_,_⟩) rfl 119 (.tmp 74) rfl q (k*2) 2 rfl 119 _ E _ HBL.out Tryz.underlying119 rfl rfl HES.out HCUR.out ?_)
   | (refine Q00 (o:=⟨none,_,_,_,_,_⟩) rfl 119 (.tmp 10) (.tmp 75) rfl wr.heap.size 0 E rfl rfl 119 #[.int .i64 0,.int .i64 0] (Blk.newAt rfl) (by rw [HES.out]; exact Qbc) (by rw [HES.out]; simp) HEO.out ?_; intro w3 hT3 hD3; rw [Q0a _ _ (by rw [HES.out]; rfl)] at hD3))
  have hb3:zE wr.heap.size wr w3:=hT3.below (Q02 wr _) (zK _);have hs3:=hb3.size;obtain⟨g10,hg10⟩:∃ g,g=wr.heap.size:=⟨_,rfl⟩;rw [<- hg10] at hD3 ⊢;rw [HE.out] at hD3;have d0:w3.cell? ⟨g10,0,none⟩=some (.int .i64 yo):=(hD3.cell 0).trans rfl;have d1:w3.cell? ⟨g10,1,none⟩=some (.int .i64 yn):=(hD3.cell 1).trans rfl;have HOV3:=sH (HOV.out.below_ hb3);have HB3:=sH (HBE.out.trans (hb3.mono hsz));obtain⟨ys,hys⟩:∃ ys,ys=(((mn+1:Nat):Int) :: (f:Int) :: fs)++Q1E (ms.take k):=⟨_,rfl⟩;have hysl:ys.length=2+fn+2*k:=by rw [hys,zL,Q3u,List.length_take,HFN.out];simp only [List.length_cons];have:=HMN.out;omega
  rw [<- hys] at HOV3;have hb4:=Q02 w3 (.cells #[.int .i64 yo,.int .i64 yn] 3);have HOV4:=sH (HOV3.out.below_ hb4);have HRD:=sH (Q0l w3 #[.int .i64 yo,.int .i64 yn] 3);have hs4:=hb4.size;have HB4:=sH (HB3.out.trans (hb4.mono (by omega)));have HYS:=sH hys;have HOW4:=sH (show (w3.alloc (.cells #[.int .i64 yo,.int .i64 yn] 3)).ownsRow w.heap.size 3 1 _ ys.length (ys.map vn) from HOV4.out);have hy64:ys.length<=60:=by omega
  clear hT3 hD3 hb3 hg10 hys HOV HOV3 hb4 hysl;go_wp2_with (at_builtin; go_must (refine Q05 _ rfl (.tmp 76) (.tmp 81) 29 rfl w.heap.size 3 i0 _ 1 8 Tryz.underlying29 hi0 hz0 hz1 hz2 rfl (by omega) _ _ _ rfl HOW4.out _ (some ⟨w3.heap.size,0,none⟩) 2 2 [.int .i64 yo,.int .i64 yn] rfl HRD.out ?d1 ?d2 ?d3 ?d4 ?_))
  case d1=>first | (intro u hu; simp only [List.mem_cons,List.not_mem_nil,or_false] at hu; rcases hu with rfl | rfl <;> rfl) | simp [zQ] | exact⟨rfl,rfl⟩
  case d2=>unfold maxLen; omega
  case d3=>omega
  case d4=>first | omega | (simp; omega)
  intro v5 w5 hown5 hg5 hor5;have HB5:=sH (Q0i HB4.out (by omega) hg5 (fun b hb=>OwnN.ge_ HOV4.out hb));have HO5:=sH (show OwnN w5 w.heap.size v5 ((((mn+1:Nat):Int) :: (f:Int) :: fs)++Q1E (ms.take (k+1))) by rw [HSN.out,<- zN,<- HYS.out];unfold OwnN;rw [zL,List.map_append];exact hown5)
  clear hown5 hg5 hor5;go_wp2_with fail
  go_roundw
  case rel=>first | exact⟨k+1,by omega,by go_num,HO5.out,HB5.out⟩ | (repeat apply Exists.intro; exact⟨⟨k+1,by omega,by go_num,HO5.out,HB5.out⟩,rfl⟩)
  case measure=>simp [intOf]; omega
 obtain rfl:k=mn:=by omega
 have hkI:¬ (k:Int)<(k:Int):=by omega
 have ht:ms.take k=ms:=List.take_of_length_le (by have:=HMN.out; omega);rw [ht,<- HCH.out] at HOV;obtain⟨A2,k2,hv2,hk2,_,hr2,_⟩:=Q0e HOV.out;subst hv2;have HNU:=sH (Q5k A2 ch.length k2 ch wr _ hr2 (zK _) HNUM.out (by omega));generalize ch.length=ll at HNU ⊢;clear hr2 hk2 ht;go_wp2_with fail
 refine HNU.out.mono ?_;rintro _ w3 ⟨v3,rfl,ho3,hb3⟩;have HO3:=sH ho3;have HB3:=sH (HBE.out.trans (hb3.mono hsz));clear ho3 hb3 HNU;go_wp2_with fail
 go_ret
 exact⟨_,rfl,HO3.out.more hsz,HB3.out⟩
theorem Q8e (w:zB) (g gc i:Nat) (t:Option zA) (N:Nat->Prop) (m:AM) (S:ASl) (h:ADat w g gc t N m S) (hi:i<6) :
 zI zJ 66 #[.pointer (some ⟨g,0,none⟩),.int .i64 (i:Int)] w fun e w'=>∃ v,e=.returned v/\OwnB w' w.heap.size v (Q1C m i)/\zE w.heap.size w w':=by
 by_cases h2:i<2
 ·cases hs:m.chunks[i]? with
  | none =>
   have e:Q1C m i=Q2q [0]:=by unfold Q1C Q5t; rw [if_pos h2,hs]
   rw [e];exact Qbv w g gc i t N m S h h2 (List.getElem?_eq_none_iff.1 hs)
  | some s =>
   have e:Q1C m i=Q2q (Q2t s):=by unfold Q1C Q5t; rw [if_pos h2,hs]
   rw [e];exact QaN w g gc i t N m S h s hs
 have e:Q1C m i=Q2q (Q72 (Q0u m (i - 2))):=by unfold Q1C Q5t; rw [if_neg h2]
 rw [e];exact Qb8 w g gc (i - 2) i t N m S h (by omega) (by omega)
theorem Q7l (w:zB) (g gc i:Nat) (T:Q18) (k:Book) (N:Nat->Prop) (m:AM) (S:ASl) (ls L:LL) (asked:Nat) (h:ADat w g gc (some ⟨T.t,0,none⟩) N m S) (hi:i<6) (hT:Q1v w T k ls) (hl:ls.length=6) (hbk:Q0h w k L asked) (has:asked<=900000) :
 zI zJ 63 #[.pointer (some ⟨g,0,none⟩),.int .i64 (i:Int)] w fun e w'=>e=.returned (.int .i64 0)/\SetBy w w' T k ls (ls.set i (Q1C m i)) L asked 3:=by
 have hll:=Q82 h.ok i;have lg:=h.blk.lt;have HD:=sH (fun(W:zB) (hb:zE w.heap.size w W)=>h.below hb);have HL:=sH (fun(W:zB) (hb:zE w.heap.size w W)=>Q8e W g gc i _ N m S (h.below hb) hi);have HS:=sH (fun(W:zB) (hb:zE w.heap.size w W) (A:Option zA) (c:Nat) (hr:Q04 W W.heap.size 1 A (Q1C m i).length ((Q1C m i).map vb))=>Q8O T k ls L asked i A (Q1C m i).length c (Q1C m i) W W.heap.size (hT.below hb) (hbk.below hb) hr (zK _) (by omega) (by omega) has);have hc:w.cell? ⟨g,0,none⟩=some (.pointer (some ⟨T.t,0,none⟩)):=(h.blk.cell 0).trans (Q1a _ _ _ _ 0 (by omega));have HC:=sH (fun(W:zB) (hb:zE w.heap.size w W)=>(hb.cell (p:=⟨g,0,none⟩) lg).trans hc);clear h hT hbk hc;generalize Q1C m i=xs at HL HS hll ⊢;go_enter Tryz.func63,Tryz.ntmps63
 go_upto_region 1 with fail
 refine Q17 8 14 (fun jx W v=>match jx with | 0=>v=.pointer (some ⟨g,0,none⟩) | 1=>v=.pointer (some ⟨g,0,none⟩) | 2=>v=.pointer (some ⟨g,0,none⟩) | 3=>v=.pointer (some ⟨T.t,0,none⟩) | 4=>v=.int .i64 (i:Int) | 5=>v=.pointer (some ⟨g,0,none⟩) | 6=>v=.int .i64 (i:Int) | _=>OwnB W w.heap.size v xs) [5,6,7,8,9,10,11,12] (by kernel_rfl) (by kernel_rfl) (by kernel_rfl) (by simp) (by kernel_rfl) (fun jx=>?last) ?heads ?_
 case last =>
  match jx with
  | 0 | 1 | 2 | 3 | 4 | 5 | 6=>exact Q2w.pure _
  | jx+7=>exact Q5f _ _
 case heads =>
  simp only [tT];refine⟨?_,?_,?_,?_,?_,?_,?_,?_,trivial⟩;all_goals intro a W hb hkp hd
  ·have e0:(_:zC)=.pointer (some ⟨g,0,none⟩):=sK hkp 0;exact sV
  ·have e0:=sJ (hd 0) 5;exact sV
  ·have e0:=sJ (hd 1) 6;exact sV
  ·have e0:=sJ (hd 2) 7;have cc:=HC.out W hb;exact sV
  ·have e0:(_:zC)=.int .i64 (i:Int):=sK hkp 1;exact sV
  ·have e0:(_:zC)=.pointer (some ⟨g,0,none⟩):=sK hkp 0;exact sV
  ·have e0:(_:zC)=.int .i64 (i:Int):=sK hkp 1;exact sV
  have e0:=sJ (hd 5) 10;have e1:=sJ (hd 6) 11;refine Q1m rfl 66 #[.pointer (some ⟨g,0,none⟩),.int .i64 (i:Int)] (by go_simp) ((HL.out W hb).mono ?_);rintro e w' ⟨v,rfl,ho,hb'⟩;exact⟨v,rfl,hb',ho.more hb.size⟩
 intro f W hb hd;have h8:f 8=.pointer (some ⟨T.t,0,none⟩):=hd 3 (by omega) _ 8 rfl rfl;have h9:f 9=.int .i64 (i:Int):=hd 4 (by omega) _ 9 rfl rfl;have h12:OwnB W w.heap.size (f 12) xs:=hd 7 (by omega) _ 12 rfl rfl;obtain⟨A,c,e12,q1,q2,r12,q3⟩:=Q0m h12;have HST:=sH (HS.out W hb A c r12);have HBW:=sH hb;simp only [Q19,tU,h8,h9,e12];clear hd h12 hb r12;try simp only [zS,sA]
 go_wp2_with fail
 refine HST.out.mono ?_;rintro _ w2 ⟨rfl,h1,h2,h3⟩;have H1:=sH h1;have H2:=sH h2;have H3:=sH h3;clear h1 h2 h3;go_wp2_with fail
 go_ret
 exact⟨rfl,H1.out,H2.out,(Only.of_below HBW.out).trans H3.out⟩
theorem Q8U (m:AM) (i:Nat) (h:i<6):((Q07 m).take i++zR (6 - i) []).set i (Q1C m i)=(Q07 m).take (i+1)++zR (6 - (i+1)) []:=by
 have hl:((Q07 m).take i).length=i:=by rw [List.length_take,Q0r]; omega
 have hg:=Q1c m i h;have hi:i<(Q07 m).length:=by rw [Q0r]; exact h
 rw [zD hi] at hg;rw [List.set_append_right _ _ (by omega),hl,Nat.sub_self,show 6 - i=(6 - (i+1))+1 by omega,List.replicate_succ,List.set_cons_zero,zU hi,zV hg,zN];rfl
theorem Qbs (t t':Option zA) (gc:Nat) (m:AM) (S:ASl):(aCs t gc m S).setIfInBounds 0 (.pointer t')=aCs t' gc m S:=by
 apply Array.ext_getElem?
 intro j;rw [Array.getElem?_setIfInBounds];by_cases h:0=j
 ·subst h;rw [if_pos rfl,Q29,if_pos (by omega),Q1a _ _ _ _ _ (by omega)]; rfl
 rw [if_neg h];rcases zF j 22 with h2 | h2
 ·rw [Q1a _ _ _ _ _ h2,Q1a _ _ _ _ _ h2];simp only [aF,if_neg (show ¬ j=0 from fun e=>h e.symm)]
 rw [zG (by rw [Q29]; exact h2),zG (by rw [Q29]; exact h2)]
theorem ADat.head {w w':zB} {g gc:Nat} {t t':Option zA} {N:Nat->Prop} {m m':AM} {S S':ASl} (h:ADat w g gc t N m S) (ho:Only (fun b=>b=g) w w') (hg:g≠gc) (hb:Blk w' g 84 (aCs t' gc m' S')) (hc:m'.chunks=m.chunks) (hok:AOk m')
 (hS:S'={ S with lA:=S'.lA,lC:=S'.lC }) (hn:∀ i,i<4->FarN w' (fun b=>N b\/IsMv S m.chunks.length b) (S'.lA i) (S'.lC i) (Q0u m' i).2.nodes):ADat w' g gc t' N m' S':=by
 have hM:∀ b,b=g->N b:=fun b e=>e▸h.gN.1
 rw [hS] at hb ⊢;refine⟨hb,ho.blk h.row (fun e=>hg e.symm),?_,?_,?_,?_,?_,?_,?_,?_,h.gN,hok⟩
 ·rw [hc]; exact h.cap
 ·rw [hc]; exact h.srv
 ·rw [hc]; exact fun i s hs=>(h.first i s hs).only ho (fun b hb=>.inl (hM b hb))
 ·rw [hc]; exact fun i s hs=>(h.now i s hs).only ho (fun b hb=>.inl (hM b hb))
 ·rw [hc]; exact hn
 ·rw [hc];intro i s hs;refine Q0k (h.mv i s hs) (fun b hb=>?_);have hi:i<m.chunks.length:=(List.getElem?_eq_some_iff.1 hs).1;have hl:=(Q0f (h.mv i s hs) hb).2;refine ho.block b hl fun hmb=>?_
  have hmv:IsMv S m.chunks.length b:=by
   rcases(h.mv i s hs).2 with⟨e,_⟩ | ⟨g',cap',cur',e,_⟩
   ·rw [e] at hb; cases hb
   rw [e] at hb;injection e with e1
   exact⟨i,⟨g',0,none⟩,hi,e1,by simpa [zH] using hb⟩
  exact h.mvN b hmv (hM b hmb)
 ·rw [hc]; exact h.mvN
 rw [hc]; exact h.mvap
theorem ADat.plant {w:zB} {g gc:Nat} {t t':Option zA} {N:Nat->Prop} {m:AM} {S:ASl} (h:ADat w g gc t N m S) (hg:g≠gc):ADat (w.setCell ⟨g,0,none⟩ (.pointer t')) g gc t' N m S:=by have ho:Only (fun b=>b=g) w (w.setCell ⟨g,0,none⟩ (.pointer t')):=Only.of_turned (Q06.setCell w ⟨g,0,none⟩ (.pointer t')) rfl;have hb:=h.blk.set_ 0 (.pointer t');rw [Qbs] at hb;exact h.head ho hg hb rfl h.ok rfl (fun i hi=>(h.nodes i hi).only ho (fun b e=>.inl (e▸h.gN.1)))
structure PlSt (M:Nat->Prop) (w wr:zB) (g gc:Nat) (T:Q18) (k:Book) (L:LL) (asked:Nat) (m:AM) (i:Nat):Prop where
 tree:Q1v wr T k ((Q07 m).take i++zR (6 - i) [])
 book:∃ L' a',Q0h wr k L' a'/\a'<=asked+9+3*i/\(∀ x,x∈L->x∈L')/\Q1f L' ((Q07 m).take i++zR (6 - i) [])
 only:Only (fun b=>b=g\/k.has b) w wr
 blk:∃ S,ADat wr g gc (some ⟨T.t,0,none⟩) (fun b=>b=g\/b=gc\/k.has b\/T.has b\/M b) m S
 new:∀ b,T.has b->w.heap.size<=b
theorem Q5g (M:Nat->Prop) (k:Book) (L:LL) (asked g gc:Nat) (m:AM) (S:ASl) (w:zB) (hbk:Q0h w k L asked) (has:asked<=600000) (h:ADat w g gc none (fun b=>b=g\/b=gc\/k.has b\/M b) m S) (hgk:¬ k.has g) (hgck:¬ k.has gc) (hgg:g≠gc) :
 zI zJ 60 #[.pointer (some ⟨g,0,none⟩),.pointer (some ⟨k.g,0,none⟩)] w fun e w'=>∃ T:Q18,e=.returned (.tuple #[.pointer (some ⟨g,0,none⟩),.int .i64 0])/\PlSt M w w' g gc T k L asked m 6:=by
 have lg:=h.lt;have HBK:=sH hbk;have HD:=sH h;have hlt:=hbk.lt;have hln:=Q0r m;have HN:=sH (Q8u k L asked 6 w hbk (.inr rfl) (by omega));clear h hbk;go_enter Tryz.func60,Tryz.ntmps60
 go_wp2_with fail
 refine HN.out.mono ?_;rintro _ w2 ⟨T,rfl,hT,hnew,⟨L2,a2,hbk2,ha2,hL2,hin2⟩,ho2⟩;have hd1:ADat w g gc none (fun b=>b=g\/b=gc\/k.has b\/T.has b\/M b) m S:=HD.out.mono (fun b hb hn=>by
  rcases hn with e | e | e | e | e
  ·exact .inl e
  ·exact .inr (.inl e)
  ·exact .inr (.inr (.inl e))
  ·have:=hnew b e; omega
  exact .inr (.inr (.inr e))) ⟨.inl rfl,.inr (.inl rfl)⟩
 have hd2:=hd1.only (Only.of_book ho2) (fun b h=>.inr (.inr (.inl h))) hgk hgck;have hgl:=hd2.blk.lt;have c0:w2.cell? ⟨g,0,none⟩=some (.pointer none):=(hd2.blk.cell 0).trans (Q1a _ _ _ _ 0 (by omega));have f0:=hd2.blk.frozen 0;have HT:=sH hT;have HNEW:=sH hnew;have HB2:=sH hbk2;have HL2:=sH hL2;have HI2:=sH hin2;have HO2:=sH ho2;have HD2:=sH hd2;have hs2:=ho2.size;clear hT hnew hbk2 hL2 hin2 ho2 hd1 hd2 HN;go_upto_region 5 with fail
 have hgT:∀ b,T.has b->b≠g:=fun b hb e=>by have:=HNEW.out b hb; omega
 have hgcT:∀ b,T.has b->b≠gc:=fun b hb e=>by have:=HNEW.out b hb; omega
 have hst:PlSt M w (w2.setCell ⟨g,0,none⟩ (.pointer (some ⟨T.t,0,none⟩))) g gc T k L asked m 0:=by have ho3:Only (fun b=>b=g) w2 (w2.setCell ⟨g,0,none⟩ (.pointer (some ⟨T.t,0,none⟩))):=Only.of_turned (Q06.setCell w2 ⟨g,0,none⟩ (.pointer (some ⟨T.t,0,none⟩))) rfl;exact⟨HT.out.only ho3 (fun b hb e=>hgT b hb e),⟨L2,a2,HB2.out.only ho3 (fun e=>hgk (.inl e.symm)) (fun e=>hgk (.inr (.inl e.symm))) (fun e=>hgk (.inr (.inr e.symm))),by omega,HL2.out,HI2.out⟩,((Only.of_book HO2.out).mono fun b _ h=>.inr h).trans (ho3.mono fun b _ h=>.inl h),⟨S,HD2.out.plant hgg⟩,HNEW.out⟩
 have HST:=sH hst;generalize w2.setCell ⟨g,0,none⟩ (.pointer (some ⟨T.t,0,none⟩))=w3 at HST ⊢;clear hst c0 f0 HD2 HT HB2 HL2 HI2 HO2;go_wp2_with fail
 go_loopw [22] (fun iv wr=>∃ i:Nat,i<=6/\iv=.int .i64 i/\PlSt M w wr g gc T k L asked m i) (fun iv _=>6 - (intOf iv).toNat)
 case atStart=>exact⟨0,by omega,rfl,HST.out⟩
 obtain⟨i,hi,rfl,hst⟩:=hrel;have HS:=sH hst;clear hst;by_cases hin:i<6
 ·have hinI:(i:Int)<6:=by omega
  obtain⟨S1,hd1⟩:=HS.out.blk;obtain⟨L1,a1,q1,q2,q3,q4⟩:=HS.out.book;have hll:((Q07 m).take i++zR (6 - i) ([]:List UInt8)).length=6:=by rw [zL,List.length_take,hln,List.length_replicate]; omega
  have HV:=sH (Q7l wr g gc i T k _ m S1 _ L1 a1 hd1 hin HS.out.tree hll q1 (by omega));rw [Q8U m i hin] at HV;have HD1:=sH hd1;have HQ3:=sH q3;have HQ4:=sH q4;clear hd1 q1 q3 q4 hll;go_wp2_with fail
  refine HV.out.mono ?_;rintro _ w4 ⟨rfl,hsb⟩;have hst4:PlSt M w w4 g gc T k L asked m (i+1):=by
   obtain⟨L',a',p1,p2,p3,p4⟩:=hsb.book;refine⟨hsb.tree,⟨L',a',p1,by omega,fun x hx=>p3 x (HQ3.out x hx),p4 L1 (fun _ h=>h) HQ4.out⟩,?_,⟨S1,HD1.out.only hsb.only (fun b hb=>?_) ?_ ?_⟩,HS.out.new⟩
   ·have h1:=HS.out.only;have h2:=hsb.only;refine⟨h2.os.trans h1.os,h2.tape.trans h1.tape,h2.output.trans h1.output,Nat.le_trans h1.size h2.size,fun b hb hn=>(h2.block b (by have:=h1.size; omega) ?_).trans (h1.block b hb hn)⟩;rintro (e | e)
    ·have:=HS.out.new b (.inr (.inr e)); omega
    exact hn (.inr e)
   ·rcases hb with e | e
    ·exact .inr (.inr (.inr (.inl (.inr (.inr e)))))
    exact .inr (.inr (.inl e))
   ·rintro (e | e)
    ·exact hgT g (.inr (.inr e)) rfl
    exact hgk e
   rintro (e | e)
   ·exact hgcT gc (.inr (.inr e)) rfl
   exact hgck e
  have HST4:=sH hst4;clear hst4 hsb HV;go_wp2_with fail
  go_roundw
  case rel=>exact⟨i+1,by omega,by go_num,HST4.out⟩
  case measure=>simp [intOf]; omega
 obtain rfl:i=6:=by omega
 have hinI:¬ (6:Int)<6:=by omega
 go_wp2_with fail
 go_ret2
 exact⟨rfl,T,HS.out⟩
def Q3S (nA:Nat->Option zA) (nC:Nat->Nat) (i:Nat) (s:Srv):List zC:=[.int .i64 (s.f:Int),.slice (nA i) s.first.length (nC i),.int .i64 (s.f:Int),.slice (nA i) s.first.length (nC i),.slice none 0 0]
def Q0L (nA:Nat->Option zA) (nC:Nat->Nat):Nat->List Srv->List zC
 | _,[]=>[]
 | i,s :: t=>Q3S nA nC i s++Q0L nA nC (i+1) t
theorem Q8J (nA:Nat->Option zA) (nC:Nat->Nat):∀ (l:List Srv) (i:Nat),(Q0L nA nC i l).length=l.length*5
 | [],_=>by simp [Q0L]
 | s :: t,i=>by show (Q3S nA nC i s++Q0L nA nC (i+1) t).length=(t.length+1)*5;rw [zL,Q8J nA nC t (i+1)];show 5+t.length*5=_;omega
theorem Q5H (nA:Nat->Option zA) (nC:Nat->Nat) (s:Srv):∀ (l:List Srv) (i:Nat),Q0L nA nC i (l++[s])=Q0L nA nC i l++Q3S nA nC (i+l.length) s
 | [],i=>by simp [Q0L]
 | q :: t,i=>by show Q3S nA nC i q++Q0L nA nC (i+1) (t++[s])=(Q3S nA nC i q++Q0L nA nC (i+1) t)++_;rw [Q5H nA nC s t (i+1),zN,List.length_cons,show i+1+t.length=i+(t.length+1) by omega]
theorem Q4E (nA nA':Nat->Option zA) (nC nC':Nat->Nat):∀ (l:List Srv) (i:Nat),(∀ k,i<=k->k<i+l.length->nA k=nA' k/\nC k=nC' k)->Q0L nA nC i l=Q0L nA' nC' i l
 | [],_,_=>rfl
 | s :: t,i,h=>by
  have h1:=h i (zK _) (by simp);have h2:=Q4E nA nA' nC nC' t (i+1) fun k hk hk2=>h k (by omega) (by simp; omega)
  show Q3S nA nC i s++Q0L nA nC (i+1) t=Q3S nA' nC' i s++Q0L nA' nC' (i+1) t;rw [h2];unfold Q3S;rw [h1.1,h1.2]
theorem Q5E (nA:Nat->Option zA) (nC:Nat->Nat):∀ (l:List Srv) (i k j:Nat) (s:Srv),l[k]?=some s->j<5->(Q0L nA nC i l)[k*5+j]?=(Q3S nA nC (i+k) s)[j]?
 | [],_,_,_,_,h,_=>by simp at h
 | q :: t,i,0,j,s,h,hj=>by
  obtain rfl:q=s:=by simpa using h
  show (Q3S nA nC i q++Q0L nA nC (i+1) t)[0*5+j]?=_;rw [List.getElem?_append_left (by show 0*5+j<5; omega),Nat.zero_mul,zP,Nat.add_zero]
 | q :: t,i,k+1,j,s,h,hj=>by have:=Q5E nA nC t (i+1) k j s (by simpa using h) hj;show (Q3S nA nC i q++Q0L nA nC (i+1) t)[(k+1)*5+j]?=_;rw [List.getElem?_append_right (by show 5<=(k+1)*5+j; omega),show (k+1)*5+j - (Q3S nA nC i q).length=k*5+j by show (k+1)*5+j - 5=_; omega,this,show i+1+k=i+(k+1) by omega]
def bgF (t:Option zA) (v:zC) (j:Nat):zC :=if j=0 then .pointer t else if j=1 then v else(#[Value.int .i64 0,.int .i64 0,.slice none 0 0,.int .i64 0,.slice none 0 0]:Array zC).getD ((j - 2) % 5) undef
def bgC (t:Option zA) (v:zC):Array zC:=rng 22 (bgF t v)
theorem Q4W (t:Option zA) (v:zC):(bgC t v).size=22:=Q0q _ _
theorem Q5y (t:Option zA) (v:zC) (j:Nat) (h:j<22):(bgC t v)[j]?=some (bgF t v j):=Q15 _ _ _ h
theorem bgC_set (t:Option zA) (v v':zC):(bgC t v).setIfInBounds 1 v'=bgC t v':=by
 apply Array.ext_getElem?
 intro j;rw [Array.getElem?_setIfInBounds];by_cases h:1=j
 ·subst h;rw [if_pos rfl,Q4W,if_pos (by omega),Q5y _ _ _ (by omega)]; rfl
 rw [if_neg h];rcases zF j 22 with h2 | h2
 ·rw [Q5y _ _ _ h2,Q5y _ _ _ h2];unfold bgF;rw [if_neg (show ¬ j=1 from fun e=>h e.symm),if_neg (show ¬ j=1 from fun e=>h e.symm)]
 rw [zG (by rw [Q4W]; exact h2),zG (by rw [Q4W]; exact h2)]
theorem Q5b (cs:List Srv) (i:Nat):Q0u (Q1k cs) i=(0,okA):=by unfold Q0u Q1k;simp only [List.getD_eq_getElem?_getD,List.getElem?_replicate];split <;> rfl
structure Q30 (w:zB) (g B:Nat) (acc:List Srv) (v:zC) (nA:Nat->Option zA) (nC:Nat->Nat):Prop where
 blk:Blk w g 84 (bgC none v)
 row:w.ownsRow B 117 5 v acc.length (Q0L nA nC 0 acc)
 nodes:∀ i s,acc[i]?=some s->OwnN w B (.slice (nA i) s.first.length (nC i)) s.first
 bare:∀ s,s∈acc->s.moves=[]
 gB:B<=g
 nil0:acc=[]->v=.slice none 0 0
theorem Q30.below {w w':zB} {g B:Nat} {acc:List Srv} {v:zC} {nA:Nat->Option zA} {nC:Nat->Nat} (h:Q30 w g B acc v nA nC) (hb:zE w.heap.size w w'):Q30 w' g B acc v nA nC :=⟨h.blk.below' hb,Q0k h.row (fun b hb'=>hb.block b (Q0f h.row hb').2),fun i s hs=>(h.nodes i s hs).below_ hb,h.bare,h.gB,h.nil0⟩
def bgS (arr:Array zC) (cap:Nat) (nA:Nat->Option zA) (nC:Nat->Nat):ASl:=⟨arr,cap,nA,nC,nA,nC,fun _=>none,fun _=>0,fun _=>none,fun _=>0⟩
theorem Q9t {s:Srv} (h:s.moves=[]):s.now=s.first:=by unfold Srv.now; rw [h]; rfl
theorem Q6Y {w:zB} {B g:Nat} {A:Option zA} {n c:Nat} {xs:List Int} {t:TypeId} {cs:Array zC} (h:OwnN w B (.slice A n c) xs) (hb:Blk w g t cs) (ht:3≠t):∀ a,A=some a->a.block≠g:=by
 intro a ha e;have:=Q09 h hb ht;rcases h.2 with⟨h1,_⟩ | ⟨q,cap,cur,h1,_⟩
 ·injection h1 with h1; rw [ha] at h1; cases h1
 injection h1 with h1
 rw [ha] at h1;injection h1 with h1
 subst h1;exact this (by rw [ha]; exact congrArg some e)
theorem Q30.dat {w:zB} {g B:Nat} {acc:List Srv} {v:zC} {nA:Nat->Option zA} {nC:Nat->Nat} (h:Q30 w g B acc v nA nC) (hc:COk acc):∃ gc arr cap,v=.slice (some ⟨gc,0,none⟩) acc.length cap/\B<=gc/\g≠gc/\ADat w g gc none (fun b=>b=g\/b=gc\/b<B) (Q1k acc) (bgS arr cap nA nC):=by
 rcases h.row.2 with⟨_,h0⟩ | ⟨gc,cap,cur,hv,h2,h3,h4,h5,h6,h7⟩
 ·have:=hc.one; omega
 have hB:Blk w gc 117 cur:=h3;have hne:g≠gc:=Blk.ne_ h.blk hB (by decide);have hmv:∀ b,¬ IsMv (bgS cur cap nA nC) (Q1k acc).chunks.length b:=fun b hb=>by obtain⟨i,a,_,ha,_⟩:=hb;cases ha
 have hfar:∀ i s,acc[i]?=some s->FarN w (fun b=>(b=g\/b=gc\/b<B)\/IsMv (bgS cur cap nA nC) (Q1k acc).chunks.length b) (nA i) (nC i) s.first:=fun i s hs=>by
  have ho:=h.nodes i s hs;obtain⟨A',c',e,q1,q2,q3,q4⟩:=Q0e ho;injection e with e1 _ e2
  subst e1 e2;refine⟨q3,⟨q1,q2⟩,fun a h0 ha hn=>?_⟩;rcases hn with(e | e | e) | e
  ·exact Q6Y ho h.blk (by decide) a ha e
  ·exact Q6Y ho hB (by decide) a ha e
  ·have:=q4 a ha; omega
  exact hmv _ e
 refine⟨gc,cur,cap,hv,h2,hne,?_,hB,⟨h6,h4,h5⟩,?_,hfar,?_,?_,?_,fun b hb=>absurd hb (hmv b),fun i j a b _ _ _ ha _=>(by cases ha),⟨.inl rfl,.inr (.inl rfl)⟩,Qaq hc⟩
 ·have:aCs none gc (Q1k acc) (bgS cur cap nA nC)=bgC none v:=by
   apply Array.ext_getElem?
   intro j;rcases zF j 22 with hj | hj
   ·rw [Q1a _ _ _ _ _ hj,Q5y _ _ _ hj];unfold aF bgF;split
    ·rfl
    split
    ·rw [hv]; rfl
    unfold Q1R;rw [Q5b];rfl
   rw [zG (by rw [Q29]; exact hj),zG (by rw [Q4W]; exact hj)]
  rw [this]; exact h.blk
 ·intro i s hs j hj;have hs':acc[i]?=some s:=hs;have hi:i<acc.length:=(List.getElem?_eq_some_iff.1 hs').1;have hg:=Q5E nA nC acc 0 i j s hs' hj;rw [<- h7,zO,if_pos (by omega),zT,zP] at hg;show cur[i*5+j]?=_;rw [hg,<- zT];congr 1
  have hb:=h.bare s (zW hs');unfold Q3S srvC;rw [Q9t hb,hb];rfl
 ·intro i s hs;have hb:=h.bare s (zW (show acc[i]?=some s from hs));rw [Q9t hb];exact hfar i s hs
 ·intro i hi;rw [Q5b];exact⟨Q04.none_,⟨by simp [okA],by unfold maxLen bgS; simp⟩,fun a h0 _=>by simp [okA] at h0⟩
 intro i s hs;have hb:=h.bare s (zW (show acc[i]?=some s from hs));rw [hb];exact⟨by simp [Q0s],.inl ⟨rfl,rfl⟩⟩
theorem Qaz (w:zB) (g f:Nat) (t:Option zA) (z:Int) (h:Blk w g 84 (bgC t (.slice none 0 0))) (hf:f<=2) :
 zI zJ 87 #[.pointer (some ⟨g,0,none⟩),.int .i64 (f:Int),.int .i64 z] w fun e w'=>e=.returned (.bool (Q0H [] f z))/\zE w.heap.size w w':=by
 have hmf:∀ (fn:Fn) (first cap:Array zC) (w:zB),(Instr.makeFunc fn first cap).run zJ w=.ok (.func fn first cap) w:=fun _ _ _ _=>rfl
 have hX:=Q02 w (.cells #[.int .i64 z] 3);have hk:Blk (w.alloc (.cells #[.int .i64 z] 3)) w.heap.size 3 #[.int .i64 z]:=Blk.newAt rfl;have hc1:(w.alloc (.cells #[.int .i64 z] 3)).cell? ⟨g,1,none⟩=some (.slice none 0 0):=((h.below' hX).cell 1).trans (Q5y _ _ 1 (by omega));have HX:=sH hX;have hc0:=(hk.cell 0).trans (show (#[Value.int .i64 z])[0]?=some (.int .i64 z) from rfl);have HU:=sH (show Q0H [] f z=(decide (z<=3*(f:Int)+1) || false) from rfl);have hlg:=h.lt;generalize Q0H [] f z=res at HU ⊢;have HC0:=sH hc0;have HC1:=sH hc1;obtain⟨q,hq⟩:∃ g,g=w.heap.size:=⟨_,rfl⟩;clear h hX hk hc0 hc1;go_enter Tryz.func87,Tryz.ntmps87
 go_upto_region 1 with fail
 generalize World.alloc w _=w1 at HX HC0 HC1 ⊢;rw [<- hq] at HC0 ⊢;have c0:=HC0.out;have c1:=HC1.out;clear hq;by_cases hle:z<=3*(f:Int)+1
 ·rw [decide_eq_true hle] at HU;have hr:res=true:=by rw [HU.out]; rfl
  subst hr;go_wp2_with fail
  go_ret
  exact⟨rfl,HX.out⟩
 rw [decide_eq_false hle] at HU;have hr:res=false:=by rw [HU.out]; rfl
 subst hr;have HIN:=sH (show zI zJ 115 #[.slice none 0 0,.func (.func 103) #[] #[.pointer (some ⟨q,0,none⟩)]] w1 fun e w'=>e=.returned (.int .i64 (-1))/\w1=w' by
  clear c0 c1 hmf;go_enter Tryz.func115,Tryz.ntmps115
  go_wp2_with fail
  go_loopw [5,8] (fun _ iv wr=>iv=.int .i64 0/\w1=wr) (fun _ iv _=>0)
  case atStart=>exact⟨rfl,rfl⟩
  obtain⟨rfl,rfl⟩:=hrel;go_wp2_with fail
  go_ret
  exact⟨rfl,rfl⟩)
 have HCO:=sH (show zI zJ 102 #[.slice none 0 0,.func (.func 103) #[] #[.pointer (some ⟨q,0,none⟩)]] w1 fun e w'=>e=.returned (.bool false)/\w1=w' by
  clear c0 c1 hmf;go_enter Tryz.func102,Tryz.ntmps102
  go_wp2_with fail
  refine HIN.out.mono ?_;rintro _ _ ⟨rfl,rfl⟩;go_wp2_with fail
  go_ret
  exact⟨rfl,rfl⟩)
 go_wp2_with fail
 refine HCO.out.mono ?_;rintro _ _ ⟨rfl,rfl⟩;go_wp2_with fail
 go_ret
 exact⟨rfl,HX.out⟩
theorem Q30.used {w:zB} {g B:Nat} {acc:List Srv} {v:zC} {nA:Nat->Option zA} {nC:Nat->Nat} (h:Q30 w g B acc v nA nC) (hc:acc=[]\/COk acc) (f:Nat) (z:Int) (hf:f<=2) :
 zI zJ 87 #[.pointer (some ⟨g,0,none⟩),.int .i64 (f:Int),.int .i64 z] w fun e w'=>e=.returned (.bool (Q0H acc f z))/\zE w.heap.size w w':=by
 rcases hc with rfl | hc
 ·have hv:=h.nil0 rfl;subst hv;exact Qaz w g f none z h.blk hf
 obtain⟨gc,arr,cap,rfl,_,_,hd⟩:=h.dat hc;exact Q6U w g gc f none _ (Q1k acc) _ z hd hf
structure Q1g (w:zB) (A:Option zA) (n:Nat) (cs:List (Int×List Int)):Prop where
 len:cs.length=n
 row:0<n->∃ q cur,A=some ⟨q,0,none⟩/\Blk w q 69 cur/\∀ i f l,cs[i]?=some (f,l)->∃ Ai ci,cur[i*2]?=some (.int .i64 f)/\cur[i*2+1]?=some (.slice Ai l.length ci)/\Q04 w w.heap.size 1 Ai l.length (l.map vn)/\l.length<=17592186044416
def Q81 (w:zB) (cs:List (Int×List Int)) (e:Ending) (w':zB):Prop :=zE w.heap.size w w'/\(Q1S cs=none->e=.returned (.pointer none))/\(∀ acc,Q1S cs=some acc->∃ g v nA nC,e=.returned (.pointer (some ⟨g,0,none⟩))/\Q30 w' g w.heap.size acc v nA nC)
theorem CPre.cok {f0:Int} {acc:List Srv} (h:CPre f0 acc) (h1:1<=acc.length) (h2:acc.length<=2):COk acc:=by refine⟨⟨h1,h2⟩,fun s hs=>(h.srv s hs).1,?_,h.apart,h.high⟩;exact⟨f0.toNat,fun s hs=>by have:=(h.srv s hs).2.1; omega⟩
theorem Q56 {acc:List Srv} {f0 f:Int} {l:List Int} {t:List (Int×List Int)} (h:¬ (okCB f l=true/\f=f0/\l.any (Q0H acc f.toNat)=false)):Q2g acc f0 ((f,l) :: t)=none:=by unfold Q2g;rw [if_neg];rintro ⟨h1,h2,h3⟩;exact h ⟨by unfold okCB; rw [decide_eq_true ⟨h1.1,h1.2.1,h1.2.2.1⟩,h1.2.2.2]; rfl,h2,h3⟩
theorem Q9L {acc:List Srv} {f0 f:Int} {l:List Int} {t:List (Int×List Int)} (h1:okCB f l=true) (h2:f=f0) (h3:l.any (Q0H acc f.toNat)=false):Q2g acc f0 ((f,l) :: t)=Q2g (acc++[⟨f.toNat,l,[]⟩]) f0 t:=by rw [Q2g,if_pos];unfold okCB at h1;rw [Bool.and_eq_true] at h1;have h4:=of_decide_eq_true h1.1;exact⟨⟨h4.1,h4.2.1,h4.2.2,h1.2⟩,h2,h3⟩
theorem Q30.turned_crew {w w':zB} {g g5 B:Nat} {acc:List Srv} {v:zC} {nA:Nat->Option zA} {nC:Nat->Nat} {cs:Array zC} (h:Q30 w g B acc v nA nC) (ht:Q06 g5 w w') (hb:Blk w g5 69 cs) (hg:g5≠g):Q30 w' g B acc v nA nC :=⟨(ht.block g (fun e=>hg e.symm)).trans h.blk,Q0k h.row (fun b hb'=>ht.block b (fun e=>Q09 h.row hb (by decide) (e▸hb'))),fun i s hs=>(h.nodes i s hs).keep_ fun b hb'=>ht.block b (fun e=>Q09 (h.nodes i s hs) hb (by decide) (e▸hb')),h.bare,h.gB,h.nil0⟩
theorem sv_info:(Tryz.prog.info? 117).map (fun i=>(i.zero,i.size,i.bytes))=some (some (.agg Q61),5,88):=by kernel_rfl
theorem Q4N {a b c:zB} {row:Option Nat} (h:a.grownBy b row) (hb:zE b.heap.size b c):a.grownBy c row:=⟨hb.os.trans h.os,hb.tape.trans h.tape,hb.output.trans h.output,Nat.le_trans h.size hb.size,fun i hi hn=>(hb.block i (Nat.lt_of_lt_of_le hi h.size)).trans (h.block i hi hn)⟩
theorem Q30.push {w7 W:zB} {g B:Nat} {acc:List Srv} {v v':zC} {nA:Nat->Option zA} {nC:Nat->Nat} {f:Int} {l:List Int} {A6:Option zA} {c6:Nat} (h:Q30 w7 g B acc v nA nC) (hg:w7.grownBy W v.ownBlock) (ho:OwnN w7 B (.slice A6 l.length c6) l)
 (hrow:W.ownsRow B 117 5 v' (acc.length+1) (Q0L nA nC 0 acc++[.int .i64 f,.slice A6 l.length c6,.int .i64 f,.slice A6 l.length c6,.slice none 0 0])) (hf:((f.toNat:Nat):Int)=f) :
 Q30 (W.setCell ⟨g,1,none⟩ v') g B (acc++[⟨f.toNat,l,[]⟩]) v' (fun k=>if k=acc.length then A6 else nA k) (fun k=>if k=acc.length then c6 else nC k):=by
 have hT:=Q06.setCell W ⟨g,1,none⟩ v';have hbl:Blk W g 84 (bgC none v):=h.blk.grown hg (fun e=>Q09 h.row h.blk (by decide) e.symm);have hkeep:∀ {u:zC} {xs:List Int},OwnN w7 B u xs->OwnN (W.setCell ⟨g,1,none⟩ v') B u xs:=fun {u xs} hu=>by
  have h1:OwnN W B u xs:=hu.keep_ fun b hb=>hg.block b (Q0f hu hb).2 (fun e=>by
   rcases h.row.2 with⟨e1,_⟩ | ⟨gc,cap,cur,e1,_,e3,_⟩
   ·rw [e1] at e; cases e
   have hB:Blk w7 gc 117 cur:=e3;rw [e1] at e;have e':b=gc:=by simpa [zH] using e
   exact Q09 hu hB (by decide) (e'▸hb))
  exact h1.keep_ fun b hb=>hT.block b (fun e=>Q09 h1 hbl (by decide) (by have e':b=g:=e; rw [e'] at hb; exact hb))
 refine⟨?_,?_,?_,?_,h.gB,fun e=>by simp at e⟩
 ·have:=hbl.set_ 1 v';rw [bgC_set] at this;exact this
 ·have hr2:=Q0k hrow (w':=W.setCell ⟨g,1,none⟩ v') (fun b hb=>hT.block b (fun e=>Q09 hrow hbl (by decide) (by have e':b=g:=e; rw [e'] at hb; exact hb)));have e1:Q0L (fun k=>if k=acc.length then A6 else nA k) (fun k=>if k=acc.length then c6 else nC k) 0 (acc++[⟨f.toNat,l,[]⟩])=Q0L nA nC 0 acc++[.int .i64 f,.slice A6 l.length c6,.int .i64 f,.slice A6 l.length c6,.slice none 0 0]:=by
   rw [Q5H,Q4E _ nA _ nC acc 0 (fun k _ hk=>⟨if_neg (by omega),if_neg (by omega)⟩)];unfold Q3S;simp only [zP,if_true,hf]
  rw [e1,zL];exact hr2
 ·intro i s hs;rcases zF i acc.length with hi | hi
  ·rw [List.getElem?_append_left hi] at hs;rw [if_neg (by omega),if_neg (by omega)];exact hkeep (h.nodes i s hs)
  have hi2:i=acc.length:=by have:=(List.getElem?_eq_some_iff.1 hs).1;rw [zL,List.length_singleton] at this; omega
  subst hi2;rw [List.getElem?_append_right (zK _),Nat.sub_self] at hs;obtain rfl:=zV hs;simp only [if_true];exact hkeep ho
 intro s hs;rcases List.mem_append.1 hs with hs | hs
 ·exact h.bare s hs
 rw [List.mem_singleton.1 hs]
structure BgSt (w:zB) (g:Nat) (cs:List (Int×List Int)) (f0:Int) (o:Option (List Srv)) (i:Nat) (wr:zB):Prop where
 raw:∃ acc v nA nC,Q30 wr g w.heap.size acc v nA nC/\CPre f0 acc/\acc.length=i/\Q2g acc f0 (cs.drop i)=o
 low:zE w.heap.size w wr
theorem Q4d (A:Option zA) (n c:Nat) (cs:List (Int×List Int)) (w:zB) (h:Q1g w A n cs) (hn:n<=17592186044416) :
 zI zJ 59 #[.slice A n c] w (Q81 w cs):=by
 have hl:=h.len;by_cases h1:n<1
 ·have hcs:cs=[]:=List.eq_nil_of_length_eq_zero (by omega);have hno:Q1S cs=none:=by rw [hcs]; rfl
  have HP:=sH (show ∀ w',zE w.heap.size w w'->Q81 w cs (.returned (.pointer none)) w' from fun w' hb=>⟨hb,fun _=>rfl,fun acc e=>by rw [hno] at e; cases e⟩);have h1I:(n:Int)<1:=by omega
  clear h hl hno;go_enter Tryz.func59,Tryz.ntmps59
  go_wp2_with fail
  go_ret
  exact HP.out _ (zM _ _)
 by_cases h2:2<n
 ·have hno:Q1S cs=none:=by
   unfold Q1S;cases cs with
   | nil=>rfl
   | cons c0 t=>simp only; rw [if_neg (by omega)]
  have HP:=sH (show ∀ w',zE w.heap.size w w'->Q81 w cs (.returned (.pointer none)) w' from fun w' hb=>⟨hb,fun _=>rfl,fun acc e=>by rw [hno] at e; cases e⟩);have h1I:¬ (n:Int)<1:=by omega
  have h2I:(2:Int)<(n:Int):=by omega
  clear h hl hno;go_enter Tryz.func59,Tryz.ntmps59
  go_wp2_with fail
  go_ret
  exact HP.out _ (zM _ _)
 obtain⟨q,cur,hA,hq,hcur⟩:=h.row (by omega);subst hA;obtain⟨f0,hf0⟩:∃ f0,f0=(cs.getD 0 (0,[])).1:=⟨_,rfl⟩;have hgo:Q1S cs=Q2g [] f0 cs:=by
  unfold Q1S;cases cs with
  | nil=>simp at hl; omega
  | cons c0 t=>simp only; rw [if_pos (by omega),hf0]; rfl
 have hc0:cur[0]?=some (.int .i64 f0):=by
  have h0:0<cs.length:=by omega
  obtain⟨fz,lz⟩:Int×List Int:=cs[0];obtain⟨p,hp⟩:∃ p,p=cs[0]:=⟨_,rfl⟩;obtain⟨fz,lz⟩:=p;obtain⟨Ai,ci,q1,_⟩:=hcur 0 fz lz (by rw [zD h0,<- hp]);rw [hf0,List.getD_eq_getElem?_getD,zD h0,<- hp];simpa using q1
 have HL:=sH hl;have HGO:=sH hgo;have HQ:=sH (fun(W:zB) (hb:zE w.heap.size w W)=>hq.below' hb);have HCUR:=sH hcur;have HC0:=sH hc0;have HB0:=sH (Q02 w (.cells (bgC none (.slice none 0 0)) 84));have hzz:bgC none (.slice none 0 0)=#[.pointer none,.slice none 0 0,.int .i64 0,.int .i64 0,.slice none 0 0,.int .i64 0,.slice none 0 0,.int .i64 0,.int .i64 0,.slice none 0 0,.int .i64 0,.slice none 0 0,.int .i64 0,.int .i64 0,.slice none 0 0,.int .i64 0,.slice none 0 0,.int .i64 0,.int .i64 0,.slice none 0 0,.int .i64 0,.slice none 0 0]:=by kernel_rfl
 have HZZ:=sH hzz;obtain⟨g,hg⟩:∃ g,g=w.heap.size:=⟨_,rfl⟩;have hraw:Q30 (w.alloc (.cells (bgC none (.slice none 0 0)) 84)) g w.heap.size [] (.slice none 0 0) (fun _=>none) (fun _=>0) :=⟨Blk.newAt hg,⟨by simp [Q0L],.inl ⟨rfl,rfl⟩⟩,fun i s hs=>(by simp at hs),fun s hs=>(by cases hs),by omega,fun _=>rfl⟩
 have HRAW:=sH hraw;have h1I:¬ (n:Int)<1:=by omega
 have h2I:¬ (2:Int)<(n:Int):=by omega
 have hql:=hq.lt;clear h hl hgo hq hcur hc0 hzz hraw;obtain⟨o,ho⟩:∃ o,o=Q1S cs:=⟨_,rfl⟩;rw [<- ho] at HGO;have HPN:=sH (show ∀ w',o=none->zE w.heap.size w w'->Q81 w cs (.returned (.pointer none)) w' from fun w' hn hb=>⟨hb,fun _=>rfl,fun acc e=>(by rw [<- ho,hn] at e; cases e)⟩);have HPS:=sH (show ∀ w' acc v nA nC,o=some acc->Q30 w' g w.heap.size acc v nA nC->zE w.heap.size w w'->Q81 w cs (.returned (.pointer (some ⟨g,0,none⟩))) w' from fun w' acc v nA nC hn hr hb=>⟨hb,fun e=>(by rw [<- ho,hn] at e; cases e),fun acc' e=>⟨g,v,nA,nC,rfl,by rw [<- ho,hn] at e; rw [<- zV e]; exact hr⟩⟩);clear ho hf0;go_enter Tryz.func59,Tryz.ntmps59
 go_upto_region 4 with fail
 rw [<- HZZ.out];generalize World.alloc w _=w1 at HB0 HRAW ⊢;rw [<- hg];have hgw:w.heap.size<=g:=by omega
 clear hg HZZ;go_wp2_with fail
 go_loopw [20] (fun iv wr=>∃ i:Nat,i<=n/\iv=.int .i64 (i:Int)/\BgSt w g cs f0 o i wr) (fun iv _=>n - (intOf iv).toNat)
 case atStart=>exact⟨0,by omega,rfl,⟨⟨[],_,_,_,HRAW.out,CPre.nil _,rfl,by rw [HGO.out]; rfl⟩,HB0.out⟩⟩
 obtain⟨i,hi,rfl,hst⟩:=hrel;obtain⟨acc,v,nA,nC,hraw,hpre,hal,hgo⟩:=hst.raw;have HR:=sH hraw;have HPRE:=sH hpre;have HAL:=sH hal;have HG:=sH hgo;have HBL:=sH hst.low;have hsz:=hst.low.size;clear hst hraw hpre hal hgo HRAW HB0;by_cases hin:i<n
 ·have hinI:(i:Int)<(n:Int):=by omega
  have hil:i<cs.length:=by have:=HL.out; omega
  obtain⟨p,hp⟩:∃ p,p=cs[i]:=⟨_,rfl⟩;obtain⟨f,l⟩:=p;obtain⟨Ai,ci,q1,q2,q3,q4⟩:=HCUR.out i f l (by rw [zD hil,<- hp]);have hdr:cs.drop i=(f,l) :: cs.drop (i+1):=by rw [List.drop_eq_getElem_cons hil,<- hp]
  have hgo2:=HG.out;rw [hdr] at hgo2;have HGI:=sH hgo2;have hqb:=HQ.out wr HBL.out;obtain⟨C,hC⟩:∃ C,C=crC f Ai l.length ci:=⟨_,rfl⟩;have hcs2:C.size=2:=by rw [hC]; rfl
  have hco:C.all (·.oneCell')=true:=by rw [hC]; exact Q1L _ _ _ _
  have hcl:∀ j,j<2->cur[i*2+j]?=C[j]?:=fun j hj=>by
   rw [hC];obtain rfl | rfl:j=0\/j=1:=by omega
   ·exact q1
   exact q2
  have HCL:=sH hcl;have HC:=sH hC;have HQB:=sH hqb;have HRD:=sH (q3.below HBL.out);obtain⟨ln,hln⟩:∃ k,k=l.length:=⟨_,rfl⟩;rw [<- hln] at q4 HC HRD;have HLN:=sH hln;clear q1 q2 q3 hp hdr hgo2 hqb hC hcl hln;go_upto_region 7 with(first
   | (refine Q01 (o:=⟨some 23,_,_,_,_,_⟩) rfl 69 (.tmp 22) rfl q (i*2) 2 rfl 69 _ C _ HQB.out Tryz.underlying69 rfl rfl hcs2 HCL.out ?_)
   | (refine Q00 (o:=⟨none,_,_,_,_,_⟩) rfl 69 (.tmp 5) (.tmp 23) rfl wr.heap.size 0 C rfl rfl 69 (crC 0 none 0 0) (by rw [crZ]; exact Blk.newAt rfl) (by rw [hcs2]; exact Q27 0 none 0 0) (by rw [hcs2]; simp [crC]) hco ?_; intro w2 hT2 hD2; rw [Q0a _ _ (by rw [hcs2]; rfl)] at hD2))
  have hb2:zE wr.heap.size wr w2:=hT2.below (Q02 wr _) (zK _);have hs2:=hb2.size;obtain⟨g5,hg5⟩:∃ g,g=wr.heap.size:=⟨_,rfl⟩;rw [<- hg5] at hD2 ⊢;have HD2:=sH hD2;have HR2:=sH (HR.out.below hb2);have HB2:=sH (HBL.out.trans (hb2.mono hsz));have hq2:∀ W,zE w2.heap.size w2 W->W.cell? ⟨q,0,none⟩=some (.int .i64 f0):=fun W hb=>((HQ.out W (HB2.out.trans (hb.mono HB2.out.size))).cell 0).trans HC0.out
  have HQ2:=sH hq2;have hg5w:w.heap.size<=g5:=by omega
  have hg5n:g5≠g:=by have:=HR.out.blk.lt; omega
  have HRD2:=sH (HRD.out.below (hb2.mono hsz));have hs12:=HB2.out.size;have hqz:0<n:=by omega
  have hck:∀ W,zE w2.heap.size w2 W->zI zJ 86 #[.agg C] W fun e w'=>e=.returned (.int .i64 (if okCB f l=true then 0 else 110))/\zE W.heap.size W w':=fun W hb=>by rw [HC.out];exact Q2o f Ai ln ci l W ((HRD2.out.below (hb.mono hs12)).more (by have:=hb.size; omega)) q4
  clear hT2 hD2 hb2 HR HBL HRD HCL HQB hg5;have HCK:=sH hck;have c50:∀ W,zE w2.heap.size w2 W->W.cell? ⟨g5,0,none⟩=some (.int .i64 f):=fun W hb=>((HD2.out.below' hb).cell 0).trans (by rw [HC.out]; rfl)
  have C50:=sH c50;clear hck hq2 c50;by_cases hok:okCB f l=true
  ·rw [if_pos hok] at HCK;have HOK:=sH hok;obtain⟨bq,hbq⟩:∃ b:Bool,b=(f != f0):=⟨_,rfl⟩;refine Q0J 11 67 (by kernel_rfl) (by kernel_rfl) (by kernel_rfl) (by first | rfl | simp) ?_;refine Q0M rfl 69 (.tmp 5) rfl g5 0 2 rfl 69 _ C _ HD2.out Tryz.underlying69 rfl rfl hcs2 (fun _ _=>by rw [zP]) ?_;try simp only [zS,sA]
   refine Q5B rfl rfl 86 #[.agg C] (fun W=>by go_simp) (.int .i64 0) (fun W hb=>HCK.out W hb) ?_;try simp only [zS,sA]
   refine tC (.bool false) ?_;try simp only [zS,sA]
   refine tC (.bool false) ?_;try simp only [zS,sA]
   refine tC (.pointer (some ⟨g5,0,none⟩)) ?_;try simp only [zS,sA]
   refine Q12 rfl rfl (.int .i64 f) (fun W hb=>by have:=C50.out W hb; go_simp) ?_;try simp only [zS,sA]
   refine tC (.slice (some ⟨q,0,none⟩) n c) ?_;try simp only [zS,sA]
   refine tC (.pointer (some ⟨q,0,none⟩)) ?_;try simp only [zS,sA]
   refine tC (.pointer (some ⟨q,0,none⟩)) ?_;try simp only [zS,sA]
   refine Q12 rfl rfl (.int .i64 f0) (fun W hb=>by have:=HQ2.out W hb; go_simp) ?_;try simp only [zS,sA]
   refine tC (.bool bq) ?_;try simp only [zS,sA]
   refine Q1K ?_;intro w3 hb3;have hs3:=hb3.size;have HB3:=sH (HB2.out.trans (hb3.mono hs12));have HR3:=sH (HR2.out.below hb3);have HD3:=sH (HD2.out.below' hb3);have HRD3:=sH (HRD2.out.below (hb3.mono hs12));clear hb3 HR2 HD2 HRD2 HCK HQ2 C50;by_cases hff:f=f0
   ·have hbf:bq=false:=by rw [hbq]; simp [hff]
    subst hbf;clear hbq;obtain⟨hcr,hf0⟩:=okCB_to HOK.out;have hln7:ln<=7:=by rw [HLN.out]; exact hcr.short.2
    have hf2:=hcr.faults;have hfn:((f.toNat:Nat):Int)=f:=by omega
    have c30:w3.cell? ⟨g5,0,none⟩=some (.int .i64 f):=(HD3.out.cell 0).trans (by rw [HC.out]; rfl);have c31:w3.cell? ⟨g5,1,none⟩=some (.slice Ai ln ci):=(HD3.out.cell 1).trans (by rw [HC.out]; rfl);have hg5l:=HD3.out.lt;have HCR:=sH hcr;have HFN:=sH hfn;have hs13:=HB3.out.size;have HRDN:=sH (HRD3.out.more hs13);have hcl':acc.length<=2:=by have:=HAL.out; omega
    have HUS:=sH (fun(W:zB) (hb:zE w3.heap.size w3 W) (z:Int)=>(show zI zJ 87 #[.pointer (some ⟨g,0,none⟩),.int .i64 f,.int .i64 z] W fun e w'=>e=.returned (.bool (Q0H acc f.toNat z))/\zE W.heap.size W w' from by
     have:=(HR3.out.below hb).used (by
      rcases Nat.eq_zero_or_pos acc.length with e | e
      ·exact .inl (List.eq_nil_of_length_eq_zero e)
      exact .inr (HPRE.out.cok e hcl')) f.toNat z hf2
     rw [hfn] at this;exact this))
    have HFF:=sH hff;clear hcr hfn hff;go_wp2_with fail
    go_loopw [39] (fun kv w4=>∃ k:Nat,k<=ln/\kv=.int .i64 (k:Int)/\(∀ (j:Nat) (hj:j<l.length),j<k->Q0H acc f.toNat l[j]=false)/\zE w3.heap.size w3 w4) (fun kv _=>ln - (intOf kv).toNat)
    case atStart=>exact⟨0,by omega,rfl,fun j hj h=>by omega,zM _ _⟩
    obtain⟨k,hk,rfl,hno,hb4⟩:=hrel;have HNO:=sH hno;have HB4:=sH hb4;have hs4:=hb4.size;have c40:wr.cell? ⟨g5,0,none⟩=some (.int .i64 f):=(hb4.cell hg5l).trans c30;have c41:wr.cell? ⟨g5,1,none⟩=some (.slice Ai ln ci):=(hb4.cell hg5l).trans c31;have HD4:=sH (HD3.out.below' hb4);have HR4:=sH (HR3.out.below hb4);clear hno hb4 c30 c31;by_cases hkl:k<ln
    ·have hkI:(k:Int)<(ln:Int):=by omega
     have hkx:k<l.length:=by have:=HLN.out; omega
     obtain⟨ad,u,hA,hadb,hxi,hcell⟩:=(HRDN.out.below HB4.out).at_ hkl;have hu:u=.int .i64 l[k]:=by
      rw [List.getElem?_map,zD hkx] at hxi;injection hxi with hxi
      exact hxi.symm
     subst hu;subst hA;have HU:=sH (HUS.out wr HB4.out l[k]);generalize hz:l[k]=z at hcell HU;generalize hub:Q0H acc f.toNat z=ub at HU;have HZ:=sH hz;have HUB:=sH hub;clear hxi hz hub;go_wp2_with fail
     refine HU.out.mono ?_;rintro _ w5 ⟨rfl,hb5⟩;have HB5:=sH (HB4.out.trans (hb5.mono hs4));clear hb5 HU;cases ub with
     | true =>
      have hbad:¬ (okCB f l=true/\f=f0/\l.any (Q0H acc f.toNat)=false):=fun h=>by have:=List.any_eq_false.1 h.2.2 l[k] (List.getElem_mem hkx);rw [HZ.out,HUB.out] at this;exact this rfl
      have ho:o=none:=by rw [<- HGI.out]; exact Q56 hbad
      have HO:=sH ho;have HBW:=sH (HB3.out.trans (HB5.out.mono hs13));clear hbad ho;go_wp2_with fail
      go_ret
      exact HPN.out _ HO.out HBW.out
     | false =>
      have HN2:=sH (show ∀ (j:Nat) (hj:j<l.length),j<k+1->Q0H acc f.toNat l[j]=false from fun j hj h=>by
       rcases zF j k with e | e
       ·exact HNO.out j hj e
       obtain rfl:j=k:=by omega
       rw [HZ.out]; exact HUB.out)
      go_wp2_with fail
      go_roundw
      case rel=>exact⟨k+1,by omega,by go_num,HN2.out,HB5.out⟩
      case measure=>simp [intOf]; omega
    have hkI:¬ (k:Int)<(ln:Int):=by omega
    have hany:l.any (Q0H acc f.toNat)=false:=List.any_eq_false.2 fun z hz=>by obtain⟨j,hj,rfl⟩:=List.mem_iff_getElem.1 hz;rw [HNO.out j hj (by have:=HLN.out; omega)]; simp
    have HGN:=sH ((Q9L HOK.out HFF.out hany).symm.trans HGI.out);have HPR:=sH (show CPre f0 (acc++[⟨f.toNat,l,[]⟩]) from by have hok2:=HOK.out;unfold okCB at hok2;rw [Bool.and_eq_true] at hok2;have h4:=of_decide_eq_true hok2.1;exact HPRE.out.push (c:=(f,l)) ⟨h4.1,h4.2.1,h4.2.2,hok2.2⟩ HFF.out hany)
    have hs34:=HB4.out.size;have HCN:=sH (Q2c Ai ln ci l wr w.heap.size (HRD3.out.below (HB4.out.mono hs13)) (by omega) (by omega));clear hany HUS HNO HRD3 HRDN;go_wp2_with fail
    refine HCN.out.mono ?_;rintro _ w6 ⟨v6,rfl,ho6,hb6⟩;obtain⟨A6,c6,hv6,_⟩:=Q0e ho6;rw [<- HLN.out] at hv6;subst hv6;have hs6:=hb6.size;have hf51:=(HD4.out.below' hb6).frozen 1;have hc51:w6.cell? ⟨g5,1,none⟩=some (.slice Ai ln ci):=(hb6.cell (show g5<wr.heap.size by omega)).trans c41;have hD7:=(HD4.out.below' hb6).set_ 1 (.slice A6 ln c6);have hT7:=Q06.setCell w6 ⟨g5,1,none⟩ (.slice A6 ln c6);have hC7:C.setIfInBounds 1 (.slice A6 ln c6)=crC f A6 ln c6:=by rw [HC.out]; rfl
    rw [hC7] at hD7;have hO7:OwnN (w6.setCell ⟨g5,1,none⟩ (.slice A6 ln c6)) w.heap.size (.slice A6 ln c6) l:=by
     have:=ho6.keep_ (w':=w6.setCell ⟨g5,1,none⟩ (.slice A6 ln c6)) fun b hb=>hT7.block b (fun e=>by have:=ho6.ge_ hb; have e':b=g5:=e; omega)
     exact OwnN.more this (by omega)
    have hR6:=HR4.out.below hb6;have hR7:Q30 (w6.setCell ⟨g5,1,none⟩ (.slice A6 ln c6)) g w.heap.size acc v nA nC:=hR6.turned_crew hT7 (HD4.out.below' hb6) hg5n;have HB7:=sH ((HB3.out.trans ((HB4.out.trans (hb6.mono hs4)).mono hs13)).setCell (p:=⟨g5,1,none⟩) hg5w (.slice A6 ln c6));have HD7:=sH hD7;have HO7:=sH hO7;have HR7:=sH hR7;clear hD7 hT7 hC7 hO7 hR6 hR7 ho6 hb6 HR4 HD4 HR3 HD3 HCN hs6 c40 c41;go_upto_region 16 with fail
    generalize w6.setCell ⟨g5,1,none⟩ (.slice A6 ln c6)=w7 at HD7 HO7 HR7 HB7 ⊢;clear hf51 hc51;obtain⟨C7,hC7⟩:∃ C7,C7=crC f A6 ln c6:=⟨_,rfl⟩;have hC7s:C7.size=2:=by rw [hC7]; rfl
    rw [<- hC7] at HD7;have HC7:=sH hC7;obtain⟨E,hE⟩:∃ E:Array zC,E=#[.int .i64 f,.slice A6 ln c6,.int .i64 f,.slice A6 ln c6,.slice none 0 0]:=⟨_,rfl⟩;have hEs:E.size=5:=by rw [hE]; rfl
    have HE:=sH hE;clear hC7 hE;have hs7:=HB7.out.size;have hg7:=HR7.out.blk.lt;have hg57:=HD7.out.lt;have c1v:w7.cell? ⟨g,1,none⟩=some v:=(HR7.out.blk.cell 1).trans (Q5y _ _ 1 (by omega));have hvg:v.ownBlock≠some g:=Q09 HR7.out.row HR7.out.blk (by decide);have hvg5:v.ownBlock≠some g5:=Q09 HR7.out.row HD7.out (by decide);have C1V:=sH (fun(W:zB) (h:w7.grownBy W v.ownBlock)=>(World.cell?_of_block (h.block g hg7 (fun e=>hvg e.symm))).trans c1v);have HD7W:=sH (fun(W:zB) (h:w7.grownBy W v.ownBlock)=>HD7.out.grown h (fun e=>hvg5 e.symm));obtain⟨i0,hi0,hz0,hz1,hz2⟩:=info_parts sv_info;have hrl:acc.length<=2:=hcl';obtain⟨m0,hm0⟩:∃ k,k=acc.length:=⟨_,rfl⟩;have HM0:=sH hm0;obtain⟨cells,hcells⟩:∃ l,l=Q0L nA nC 0 acc:=⟨_,rfl⟩;have HCE:=sH hcells;have hrow7:=HR7.out.row;rw [<- hm0,<- hcells] at hrow7;rw [<- hm0] at hrl;have HROW7:=sH hrow7;clear c1v hvg hvg5 hm0 hcells hrow7;refine Q0T 12 67 (fun jx W u=>match jx with
     | 0=>u=.pointer (some ⟨g,0,none⟩)
     | 1=>u=.pointer (some ⟨g,0,none⟩)
     | 2=>u=.pointer (some ⟨g,0,none⟩)
     | 3=>u=.pointer (some ⟨g,1,none⟩)
     | 4=>u=v
     | 5=>u=.agg C7
     | 6=>u=.agg C7
     | 7=>u=.agg E
     | 8=>∃ g9,u=.slice (some ⟨g9,0,none⟩) 1 1/\w7.heap.size<=g9/\Blk W g9 117 E
     | 9=>W.ownsRow w.heap.size 117 5 u (m0+1) (cells++E.toList)
     | 10=>u=.pointer (some ⟨g,0,none⟩)
     | _=>u=.pointer (some ⟨g,1,none⟩)) (fun s W=>w7.grownBy W v.ownBlock/\(s=0->zE w7.heap.size w7 W)) (fun W W'=>W.grownBy W' v.ownBlock) [9] [53,54,55,56,57,58,59,60,61,62,63,64] (by kernel_rfl) (by kernel_rfl) (by kernel_rfl) (by kernel_rfl) (by first | rfl | simp) (by kernel_rfl) (fun jx=>?last) ?lastR (fun s W W' h1 h2=>⟨Q4N h1.1 h2,fun e=>(h1.2 e).trans (h2.mono (h1.2 e).size)⟩) ⟨World.grownBy.refl _ _,fun _=>zM _ _⟩ ?heads ?_
    case last =>
     match jx with
     | 0 | 1 | 2 | 3 | 4 | 5 | 6 | 7 | 10 | jx+11=>exact Q2w.pure _
     | 8=>exact fun W W' u ⟨g9,h1,h2,h3⟩ hb=>⟨g9,h1,h2,h3.below' hb⟩
     | 9=>exact fun W W' u h hb=>Q0k h (fun b hb'=>hb.block b (Q0f h hb').2)
    case lastR =>
     intro s jx W W' u hsl hs hj hp hR;match jx with
     | 0 | 1 | 2 | 3 | 4 | 5 | 6 | 7 | 10 | jx+11=>exact hp
     | 8 =>obtain⟨g9,h1,h2,h3⟩:=hp;exact⟨g9,h1,h2,h3.grown hR (fun e=>by have:=(Q0f HROW7.out e.symm).2; omega)⟩
     | 9 =>
      exfalso
      exact hs 0 (by simp at hsl; omega) rfl
    case heads =>
     simp only [tT];and_intros;rotate_right;trivial
     all_goals try(rw [if_neg (by decide)];intro s a W hj hkp hd)
     iterate 2 ·have e0:(_:zC)=.pointer (some ⟨g,0,none⟩):=sK hkp 3;exact sV
     ·have e0:=sJ (hd 1) 54;exact sV
     ·have e0:=sJ (hd 2) 55;exact sV
     ·have e0:=sJ (hd 3) 56;have cc:=C1V.out W hj.1;exact Q0E rfl v (by go_simp) rfl
     ·have e0:a.eval (.tmp 5)=.pointer (some ⟨g5,0,none⟩):=by have:=hkp.at_ (d:=5) (by kernel_rfl); rw [this]; rfl
      exact Q0E rfl (.agg C7) (Q0n 69 (.tmp 5) rfl g5 0 2 e0 69 _ C7 _ (HD7W.out W hj.1) Tryz.underlying69 rfl rfl hC7s (fun _ _=>by rw [zP])) rfl
     ·have e0:a.eval (.tmp 5)=.pointer (some ⟨g5,0,none⟩):=by have:=hkp.at_ (d:=5) (by kernel_rfl); rw [this]; rfl
      exact Q0E rfl (.agg C7) (Q0n 69 (.tmp 5) rfl g5 0 2 e0 69 _ C7 _ (HD7W.out W hj.1) Tryz.underlying69 rfl rfl hC7s (fun _ _=>by rw [zP])) rfl
     ·have e0:=sJ (hd 5) 58;have e1:=sJ (hd 6) 59;rw [HC7.out] at e0 e1;unfold crC at e0 e1;exact Q0E rfl (.agg E) (by rw [HE.out]; go_simp) rfl
     ·have e0:=sJ (hd 7) 60;exact Q3m rfl (.slice (some ⟨W.heap.size,0,none⟩) 1 1) (W.alloc (.cells E 117)) (by go_simp; rw [HE.out]; rfl) (Q02 _ _) ⟨W.heap.size,rfl,hj.1.size,Blk.new W _ _⟩
     ·rw [if_pos (by decide)];intro s a W hs hj hkp hd;obtain rfl:s=0:=by have:=(List.getElem?_eq_some_iff.1 hs).1; simp at this; omega
      have hbw:=hj.2 rfl;have e57:a.eval (.tmp 57)=v:=by have h:=(sG (hd 4) 57:); simpa [Act.eval] using h
      obtain⟨g9,e61,hg9,hB9⟩:=(sG (hd 8) 61:);have e61':a.eval (.tmp 61)=.slice (some ⟨g9,0,none⟩) 1 1:=by simpa [Act.eval] using e61
      have hrw:W.ownsRow w.heap.size 117 5 v m0 cells:=Q0k HROW7.out (fun b hb'=>hbw.block b (Q0f HROW7.out hb').2);have hrd9:Q04 W W.heap.size 5 (some ⟨g9,0,none⟩) 1 E.toList:=⟨by simp [hEs],fun _=>⟨⟨g9,0,none⟩,rfl,hB9.lt,fun j u hu=>by rw [Q0R,zP,hB9.cell,<- zT]; exact hu⟩⟩;obtain⟨v',W',hrun,ho',hg',hor'⟩:=Q3y (P:=zJ) W w.heap.size 79 79 117 i0 (.agg Q61) 5 88 Tryz.underlying79 hi0 hz0 hz1 hz2 rfl (by omega) v m0 cells hrw W.heap.size (some ⟨g9,0,none⟩) 1 1 E.toList hrd9 (by rw [HE.out]; intro u hu; simp only [List.mem_cons,List.not_mem_nil,or_false] at hu; rcases hu with rfl | rfl | rfl | rfl | rfl <;> rfl) (by unfold maxLen; omega) (by omega) (by have:=hbw.size; omega);exact Q80 rfl v' W' (Q5r (s:=.tmp 57) (x:=.tmp 61) rfl e57 e61' hrun) hg' ⟨⟨hg'.os.trans hj.1.os,hg'.tape.trans hj.1.tape,hg'.output.trans hj.1.output,Nat.le_trans hj.1.size hg'.size,fun b hb hn=>(hg'.block b (by have:=hj.1.size; omega) hn).trans (hj.1.block b hb hn)⟩,fun e=>by omega⟩ ho'
     ·have e0:=sJ (hd 0) 53;exact sV
     have e0:=sJ (hd 10) 63;exact sV
    intro fv W hj hd;have h64:fv 64=.pointer (some ⟨g,1,none⟩):=hd 11 (by omega) _ 64 rfl rfl;obtain⟨v',hv'⟩:∃ v',v'=fv 62:=⟨_,rfl⟩;have h62:W.ownsRow w.heap.size 117 5 (fv 62) (m0+1) (cells++E.toList):=hd 9 (by omega) _ 62 rfl rfl;rw [<- hv'] at h62;obtain⟨A8,c8,hve,_⟩:=Q5x h62;rw [hve] at hv' h62;clear hve v';obtain⟨v',hve⟩:∃ v',v'=Value.slice A8 (m0+1) c8:=⟨_,rfl⟩;rw [<- hve] at h62;have hblW:=HR7.out.blk.grown hj.1 (fun e=>Q09 HR7.out.row HR7.out.blk (by decide) e.symm);have hfzW:=hblW.frozen 1;have hcW:W.cell? ⟨g,1,none⟩=some v:=(hblW.cell 1).trans (Q5y _ _ 1 (by omega));have hraw8:Q30 (W.setCell ⟨g,1,none⟩ v') g w.heap.size (acc++[⟨f.toNat,l,[]⟩]) v' (fun k=>if k=acc.length then A6 else nA k) (fun k=>if k=acc.length then c6 else nC k):=by refine HR7.out.push hj.1 (by rw [<- HLN.out]; exact HO7.out) ?_ HFN.out;rw [<- HLN.out,<- HCE.out,<- HM0.out];rw [HE.out] at h62;exact h62
    rw [hve] at hraw8;have HRAW8:=sH hraw8;have HBW:=sH (show zE w.heap.size w (W.setCell ⟨g,1,none⟩ (.slice A8 (m0+1) c8)) from(Q0i HB7.out (by omega) hj.1 (fun b hb=>(Q0f HROW7.out hb).1)).setCell (p:=⟨g,1,none⟩) hgw _);simp only [Q19,tU,h64,<- hv'];clear hd hj h64 h62 hv' hve hblW hraw8 HD7 HO7 HR7 HB7 HROW7 C1V HD7W HC7 HE HCE;try simp only [zS,sA]
    go_wp2_with fail
    go_roundw
    case rel=>exact⟨i+1,by omega,by go_num,⟨⟨_,_,_,_,HRAW8.out,HPR.out,by rw [zL,HAL.out]; rfl,HGN.out⟩,HBW.out⟩⟩
    case measure=>simp [intOf]; omega
   have hbf:bq=true:=by rw [hbq]; simpa using hff
   subst hbf;have hbad:¬ (okCB f l=true/\f=f0/\l.any (Q0H acc f.toNat)=false):=fun h=>hff h.2.1
   have ho:o=none:=by rw [<- HGI.out]; exact Q56 hbad
   have HO:=sH ho;clear hbad ho hbq;go_wp2_with fail
   go_ret
   exact HPN.out _ HO.out HB3.out
  rw [if_neg hok] at HCK;have hbad:¬ (okCB f l=true/\f=f0/\l.any (Q0H acc f.toNat)=false):=fun h=>hok h.1
  have ho:o=none:=by rw [<- HGI.out]; exact Q56 hbad
  have HO:=sH ho;clear hbad ho;refine Q0J 11 67 (by kernel_rfl) (by kernel_rfl) (by kernel_rfl) (by first | rfl | simp) ?_;refine Q0M rfl 69 (.tmp 5) rfl g5 0 2 rfl 69 _ C _ HD2.out Tryz.underlying69 rfl rfl hcs2 (fun _ _=>by rw [zP]) ?_;try simp only [zS,sA]
  refine Q5B rfl rfl 86 #[.agg C] (fun W=>by go_simp) (.int .i64 110) (fun W hb=>HCK.out W hb) ?_;try simp only [zS,sA]
  refine tC (.bool true) ?_;try simp only [zS,sA]
  refine tC (.bool true) ?_;try simp only [zS,sA]
  refine Q1o rfl rfl ?_;try simp only [zS,sA]
  refine Q1o rfl rfl ?_;try simp only [zS,sA]
  refine Q1o rfl rfl ?_;try simp only [zS,sA]
  refine Q1o rfl rfl ?_;try simp only [zS,sA]
  refine Q1o rfl rfl ?_;try simp only [zS,sA]
  refine Q1o rfl rfl ?_;try simp only [zS,sA]
  refine Q1o rfl rfl ?_;try simp only [zS,sA]
  refine Q1K ?_;intro w3 hb3;have HB3:=sH (HB2.out.trans (hb3.mono hs12));clear hb3;go_wp2_with fail
  go_ret
  exact HPN.out _ HO.out HB3.out
 obtain rfl:i=n:=by omega
 have hinI:¬ (i:Int)<(i:Int):=by omega
 have ho:o=some acc:=by rw [<- HG.out,List.drop_of_length_le (by have:=HL.out; omega)]; rfl
 have HO:=sH ho;clear ho;go_wp2_with fail
 go_ret
 exact HPS.out _ acc v nA nC HO.out HR.out HBL.out
structure ANew (w w':zB) (k:Book) (V:ALoc) (L:LL) (asked:Nat) (m:AM):Prop where
 kk:V.k=k
 vat:AAt w' V (fun b=>V.all b\/b<w.heap.size) m
 new:w.heap.size<=V.g/\w.heap.size<=V.gc/\∀ b,V.T.has b->w.heap.size<=b
 book:∃ L' a',Q0h w' k L' a'/\a'<=asked+30/\(∀ x,x∈L->x∈L')/\Q1f L' (Q07 m)
 only:Only k.has w w'
theorem ANew.of_planted {w w1 w':zB} {g gc:Nat} {T:Q18} {k:Book} {L:LL} {asked:Nat} {m:AM} (h:PlSt (fun b=>b<w.heap.size) w1 w' g gc T k L asked m 6) (hb:zE w.heap.size w w1) (hk:k.g<w.heap.size/\k.b1<w.heap.size/\k.b2<w.heap.size) (hg:w.heap.size<=g) (hgc:w.heap.size<=gc) (hgl:g<w1.heap.size) (hgcl:gc<w1.heap.size) (hne:g≠gc):ANew w w' k ⟨g,gc,T,k⟩ L asked m:=by
 have hkl:∀ b,k.has b->b<w.heap.size:=fun b hb=>by rcases hb with e | e | e <;> omega
 have e:(Q07 m).take 6++zR (6 - 6) ([]:List UInt8)=Q07 m:=by rw [List.take_of_length_le (by rw [Q0r]; exact zK _)]; simp
 obtain⟨L',a',q1,q2,q3,q4⟩:=h.book;rw [e] at q4;have ht:=h.tree;rw [e] at ht;have hs:=hb.size;obtain⟨S,hd⟩:=h.blk;refine⟨rfl,⟨⟨S,hd.mono (fun b _ hn=>?_) ⟨.inl (.inl rfl),.inl (.inr (.inl rfl))⟩⟩,ht,⟨hne,fun hT=>?_,fun hT=>?_,fun hkg=>?_,fun hkg=>?_⟩,fun b hb=>.inl hb⟩,⟨hg,hgc,fun b hb=>by have:=h.new b hb; omega⟩,⟨L',a',q1,by omega,q3,q4⟩,?_⟩
 ·rcases hn with(e | e | e | e) | e
  ·exact .inl e
  ·exact .inr (.inl e)
  ·exact .inr (.inr (.inl e))
  ·exact .inr (.inr (.inr (.inl e)))
  exact .inr (.inr (.inr (.inr e)))
 ·have:=h.new g hT; omega
 ·have:=h.new gc hT; omega
 ·have:=hkl g hkg; omega
 ·have:=hkl gc hkg; omega
 have h1:=h.only;exact⟨h1.os.trans hb.os,h1.tape.trans hb.tape,h1.output.trans hb.output,Nat.le_trans hs h1.size,fun b hb' hn=>(h1.block b (by omega) (fun e=>by
  rcases e with e | e
  ·omega
  exact hn e)).trans (hb.block b hb')⟩
def Q4S (w:zB) (k:Book) (L:LL) (asked:Nat) (o:Option AM) (e:Ending) (w':zB):Prop :=(o=none->e=.returned (.tuple #[.pointer none,.int .i64 2])/\zE w.heap.size w w')/\(∀ m,o=some m->∃ V:ALoc,e=.returned (.tuple #[.pointer (some ⟨V.g,0,none⟩),.int .i64 0])/\ANew w w' k V L asked m)
theorem Q1B (k:Book) (L:LL) (asked:Nat) (A:Option zA) (n c:Nat) (cs:List (Int×List Int)) (w:zB) (hbk:Q0h w k L asked) (has:asked<=600000) (h:Q1g w A n cs) (hn:n<=17592186044416) :
 zI zJ 27 #[.pointer (some ⟨k.g,0,none⟩),.slice A n c] w (Q4S w k L asked (newQ cs)):=by
 have HBG:=sH (Q4d A n c cs w h hn);have HBK:=sH hbk;have hkl:=hbk.lt;obtain⟨o,ho⟩:∃ o,o=newQ cs:=⟨_,rfl⟩;rw [<- ho];have HO:=sH ho;clear h hbk ho;go_enter Tryz.func27,Tryz.ntmps27
 go_wp2_with fail
 refine HBG.out.mono ?_;rintro _ w1 ⟨hb1,hno,hso⟩;have hs1:=hb1.size;cases hb:Q1S cs with
 | none =>
  have ho:o=none:=by rw [HO.out]; unfold newQ; rw [hb]; rfl
  obtain rfl:=hno hb;have HB1:=sH hb1;have HP:=sH (show Q4S w k L asked o (.returned (.tuple #[.pointer none,.int .i64 2])) w1 from⟨fun _=>⟨rfl,hb1⟩,fun m hm=>(by rw [ho] at hm; cases hm)⟩);clear hno hso hb1 ho HBG;go_wp2_with fail
  go_ret2
  exact HP.out
 | some acc =>
  have ho:o=some (Q1k acc):=by rw [HO.out]; unfold newQ; rw [hb]; rfl
  obtain⟨g,v,nA,nC,rfl,hraw⟩:=hso acc hb;have hc:=Q59 hb;obtain⟨gc,arr,cap,hv,hBgc,hne,hdat⟩:=hraw.dat hc.1;have hlt:=hdat.lt;have hd2:ADat w1 g gc none (fun b=>b=g\/b=gc\/k.has b\/b<w.heap.size) (Q1k acc) (bgS arr cap nA nC):=hdat.mono (fun b _ hn=>by
   rcases hn with e | e | e | e
   ·exact .inl e
   ·exact .inr (.inl e)
   ·exact .inr (.inr (by rcases e with e | e | e <;> omega))
   exact .inr (.inr e)) ⟨.inl rfl,.inr (.inl rfl)⟩
  have hgB:=hraw.gB;have HPL:=sH (Q5g (fun b=>b<w.heap.size) k L asked g gc (Q1k acc) _ w1 (HBK.out.below hb1) has hd2 (fun e=>by rcases e with e | e | e <;> omega) (fun e=>by rcases e with e | e | e <;> omega) hne);have HB1:=sH hb1;have HOM:=sH ho;clear hno hso hb1 ho HBG hraw hdat hd2 hv;go_wp2_with fail
  refine HPL.out.mono ?_;rintro _ w2 ⟨T,rfl,hpl⟩;have HP:=sH (show Q4S w k L asked o (.returned (.tuple #[.pointer (some ⟨g,0,none⟩),.int .i64 0])) w2 from⟨fun e=>(by rw [HOM.out] at e; cases e),fun m hm=>⟨⟨g,gc,T,k⟩,rfl,by rw [HOM.out] at hm;rw [<- zV hm];exact ANew.of_planted hpl HB1.out hkl hgB hBgc hlt.1 hlt.2 hne⟩⟩)
  clear hpl HPL;go_wp2_with fail
  go_ret2
  exact HP.out
end
end Go.Proofs.YtckjnbjiafgibaaGreat
