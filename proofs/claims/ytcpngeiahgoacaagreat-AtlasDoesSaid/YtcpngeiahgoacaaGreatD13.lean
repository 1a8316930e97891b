/- Parts of the proof, in one text: AtD, AtE, AtF, AtG, AtH, AtI. -/
import Derived.Test.YtcpngeiahgoacaaGreatD12
import Derived.Test.YtcpngeiahgoacaaGreatD8
namespace Go.Proofs.YtcpngeiahgoacaaGreat
set_option linter.unusedVariables false
set_option linter.unusedSimpArgs false
set_option maxRecDepth 100000
set_option maxHeartbeats 16000000
section
open Go.RowKit Go.Maps
attribute [local irreducible] wpList Q0i
structure Qd7 (w:World) (s:Srv) (S:ASl) (i:Nat):Prop where
 first:Q0d w w.heap.size 1 (S.fA i) s.first.length (s.first.map vn)
 mv:w.ownsRow 0 175 2 (.slice (S.mA i) s.moves.length (S.mC i)) s.moves.length (Q0F s.moves)
 ok:SOk s
theorem Qd7.below {w w':World} {s:Srv} {S:ASl} {i:Nat} (h:Qd7 w s S i) (hb:Below w.heap.size w w'):Qd7 w' s S i :=
 ⟨(h.first.below hb).more hb.size,Q0f h.mv (fun b hb'=>hb.block b (Q0a h.mv hb').2),h.ok⟩
theorem ADat.srvIn {w:World} {g gc:Nat} {t:Option Addr} {N:Nat->Prop} {m:AM} {S:ASl} (h:ADat w g gc t N m S) {i:Nat} {s:Srv} (hs:m.chunks[i]?=some s):Qd7 w s S i :=
 ⟨(h.first i s hs).rd,h.mv i s hs,h.ok.srv s (List.mem_of_getElem? hs)⟩
theorem QcD (b:Nat) (s:Srv) (S:ASl) (i:Nat) (z:Int) (w:World) (h:Qd7 w s S i) (hc:w.cell? ⟨b,0,none⟩=some (.int .i64 z)) :
 Calls Tryz.prog 160 #[.agg (srvC s S i),.pointer (some ⟨b,0,none⟩)] w fun e w'=>e=.returned (.bool (Q2B s z))/\Below w.heap.size w w':=by
 have hmf:∀ (fn:Fn) (first cap:Array Value) (w:World),(Instr.makeFunc fn first cap).run Tryz.prog w=.ok (.func fn first cap) w:=fun _ _ _ _=>rfl
 have hX:=Q07 w (.cells (srvC s S i) 173);have hl:=World.block_lt_of_cell? _ _ hc;have hk:Blk (w.alloc (.cells (srvC s S i) 173)) w.heap.size 173 (srvC s S i):=Blk.newAt rfl;have h1:=h.below hX;have hcl:=h.ok.len;have HH:=Lib.hid (Q4Z s.f (S.fA i) s.first.length (S.fC i) s.first z _ h1.first h.ok.crew);have HC:=Lib.hid (fun(W:World) (hb:Below w.heap.size w W)=>Q7f (S.mA i) s.moves.length (S.mC i) b s.moves z W (h.below hb).mv ((hb.cell hl).trans hc) (by omega));have HCB:=Lib.hid ((hX.cell hl).trans hc);have HU:=Lib.hid (show Q2B s z=(decide (z∈s.first) || s.moves.any (fun m=>decide (m.2=z))) from rfl);have HX:=Lib.hid hX;have HK:=Lib.hid hk;obtain⟨D,hD⟩:∃ D,D=srvC s S i:=⟨_,rfl⟩;obtain⟨C,hC⟩:∃ C,C=crC s.f (S.fA i) s.first.length (S.fC i):=⟨_,rfl⟩;have hcs:C.size=2:=by rw [hC]; rfl
 have hd:∀ j,j<2->D[0+j]?=C[j]?:=fun j hj=>by
  rw [hD,hC,Nat.zero_add];obtain rfl | rfl:j=0\/j=1:=by omega
  iterate 2 ·rfl
 have hd4:D[4]?=some (.slice (S.mA i) s.moves.length (S.mC i)):=by rw [hD]; rfl
 obtain⟨mn,hmn⟩:∃ k,k=s.moves.length:=⟨_,rfl⟩;rw [<- hmn] at HC hd4;rw [<- hD] at HX HK HH HCB ⊢;rw [<- hC] at HH;have HD2:=Lib.hid hd;have HD4:=Lib.hid hd4;obtain⟨g,hg⟩:∃ g,g=w.heap.size:=⟨_,rfl⟩;generalize s.moves.any (fun m=>decide (m.2=z))=r2 at HC HU;generalize Q2B s z=res at HU ⊢;clear h hc hX hk h1 hD hC hd hd4 hmn;go_enter Tryz.func160,Tryz.ntmps160
 go_upto_region 1 with fail
 generalize World.alloc w _=w1 at HX HK HH HCB ⊢;rw [<- hg] at HK ⊢;have hgl:=HK.out.lt;clear hg;have hcb:=HCB.out;go_wp2_with (refine Q03 (o:=⟨some 5,_,_,_,_,_⟩) rfl 77 (.tmp 4) rfl g 0 2 rfl 173 _ C _ HK.out Tryz.underlying77 rfl rfl hcs HD2.out ?_)
 refine HH.out.mono ?_;rintro _ w2 ⟨rfl,hb2⟩;have hs2:=HX.out.size;have HB2:=Lib.hid (HX.out.trans (hb2.mono hs2));have HCC:=Lib.hid (HC.out w2 HB2.out);have c4:w2.cell? ⟨g,4,none⟩=some (.slice (S.mA i) mn (S.mC i)):=((HK.out.below' hb2).cell 4).trans HD4.out;clear hb2 HH HK HC hcb;by_cases hin:z∈s.first
 ·rw [decide_eq_true hin] at HU ⊢;have hr:res=true:=by rw [HU.out]; rfl
  subst hr;clear hin;go_wp2_with fail
  go_ret
  exact⟨rfl,HB2.out⟩
 ·rw [decide_eq_false hin] at HU ⊢;have hr:res=r2:=by rw [HU.out]; rfl
  subst hr;clear hin;go_wp2_with fail
  refine HCC.out.mono ?_;rintro _ w3 ⟨rfl,hb3⟩;have HB3:=Lib.hid (HB2.out.trans (hb3.mono HB2.out.size));clear hb3 HCC;go_wp2_with fail
  go_ret
  exact⟨rfl,HB3.out⟩
theorem Qag (w:World) (g gc b:Nat) (t:Option Addr) (N:Nat->Prop) (m:AM) (S:ASl) (z:Int) (h:ADat w g gc t N m S) (hb:w.cell? ⟨b,0,none⟩=some (.int .i64 z)) :
 Calls Tryz.prog 178 #[.slice (some ⟨gc,0,none⟩) m.chunks.length S.cap,.func (.func 160) #[] #[.pointer (some ⟨b,0,none⟩)]] w fun e w'=>∃ r:Int,e=.returned (.int .i64 r)/\-1<=r/\r<=1000/\decide (0<=r)=m.chunks.any (fun s=>Q2B s z)/\Below w.heap.size w w':=by
 have hn2:=h.ok.one;have hbl:=World.block_lt_of_cell? _ _ hb;have H:=Lib.hid (fun(W:World) (hb:Below w.heap.size w W)=>h.below hb);have HB:=Lib.hid (fun(W:World) (h:Below w.heap.size w W)=>(h.cell hbl).trans hb);obtain⟨cs,hcs⟩:∃ cs,cs=m.chunks:=⟨_,rfl⟩;have HCS:=Lib.hid hcs;rw [<- hcs] at hn2 ⊢;obtain⟨n,hn⟩:∃ n,n=cs.length:=⟨_,rfl⟩;rw [<- hn] at hn2 ⊢;have HML:=Lib.hid hn;clear h hb hbl hcs hn;go_enter Tryz.func178,Tryz.ntmps178
 go_wp2_with fail
 go_loopw [5,8] (fun _ iv wr=>∃ i:Nat,i<=n/\iv=.int .i64 (i:Int)/\(∀ (k:Nat) (hk:k<cs.length),k<i->Q2B cs[k] z=false)/\Below w.heap.size w wr) (fun _ iv _=>n - (intOf iv).toNat)
 case atStart=>exact⟨0,by omega,rfl,fun k hk h=>by omega,Below.refl _ _⟩
 case round =>
  obtain⟨i,hi,rfl,hno,hbel⟩:=hrel;have HNO:=Lib.hid hno;have HBE:=Lib.hid hbel;clear hno hbel;by_cases hin:i<n
  ·have hinI:(i:Int)<(n:Int):=by omega
   have hil:i<cs.length:=by have:=HML.out; omega
   have hget:m.chunks[i]?=some cs[i]:=by rw [<- HCS.out,List.getElem?_eq_getElem hil]
   have hdat:=H.out wr HBE.out;have hU:=QcD b cs[i] S i z wr (hdat.srvIn hget) (HB.out wr HBE.out);have hsrv:=hdat.srv i cs[i] hget;have HBL:=Lib.hid hdat.row;obtain⟨s,hs⟩:∃ s,s=cs[i]:=⟨_,rfl⟩;rw [<- hs] at hU hsrv;obtain⟨D,hD⟩:∃ D,D=srvC s S i:=⟨_,rfl⟩;have hds:D.size=5:=by rw [hD]; rfl
   rw [<- hD] at hU hsrv;have HU:=Lib.hid hU;have HSV:=Lib.hid hsrv;have HSE:=Lib.hid hs;generalize hu:Q2B s z=u at HU;have HUE:=Lib.hid hu;clear hget hdat hU hsrv hs hD hu;go_wp2_with (refine Q03 (o:=⟨some 15,_,_,_,_,_⟩) rfl 173 (.tmp 14) rfl gc (i*5) 5 rfl 173 _ D _ HBL.out Tryz.underlying173 rfl rfl hds HSV.out ?_)
   refine HU.out.mono ?_;rintro _ w2 ⟨rfl,hb2⟩;have HB2:=Lib.hid (HBE.out.trans (hb2.mono HBE.out.size));clear hb2 HU;cases u with
   | true =>
    have hany:cs.any (fun s=>Q2B s z)=true:=List.any_eq_true.2 ⟨cs[i],List.getElem_mem hil,by rw [<- HSE.out]; exact HUE.out⟩;have HANY:=Lib.hid hany;clear hany;go_wp2_with fail
    go_ret
    exact⟨i,rfl,by omega,by omega,by rw [HANY.out]; exact decide_eq_true (by omega),HB2.out⟩
   | false =>
    have HN2:=Lib.hid (show ∀ (k:Nat) (hk:k<cs.length),k<i+1->Q2B cs[k] z=false from fun k hk h=>by
     rcases Nat.lt_or_ge k i with e | e
     ·exact HNO.out k hk e
     ·obtain rfl:k=i:=by omega
      rw [<- HSE.out]; exact HUE.out)
    go_wp2_with fail
    go_roundw
    case rel=>exact⟨i+1,by omega,by go_num,HN2.out,HB2.out⟩
    case measure=>simp [intOf]; omega
  ·have hinI:¬ (i:Int)<(n:Int):=by omega
   have hany:cs.any (fun s=>Q2B s z)=false:=List.any_eq_false.2 fun s hs=>by
    obtain⟨k,hk,rfl⟩:=List.mem_iff_getElem.1 hs;have:=HNO.out k hk (by have:=HML.out; omega);rw [this]; simp
   have HANY:=Lib.hid hany;clear hany;go_wp2_with fail
   go_ret
   exact⟨-1,rfl,by omega,by omega,by rw [HANY.out]; rfl,HBE.out⟩
theorem Q8M (w:World) (g gc f:Nat) (t:Option Addr) (N:Nat->Prop) (m:AM) (S:ASl) (z:Int) (h:ADat w g gc t N m S) (hf:f<=2) :
 Calls Tryz.prog 135 #[.pointer (some ⟨g,0,none⟩),.int .i64 (f:Int),.int .i64 z] w fun e w'=>e=.returned (.bool (Q18 m.chunks f z))/\Below w.heap.size w w':=by
 have hmf:∀ (fn:Fn) (first cap:Array Value) (w:World),(Instr.makeFunc fn first cap).run Tryz.prog w=.ok (.func fn first cap) w:=fun _ _ _ _=>rfl
 have hX:=Q07 w (.cells #[.int .i64 z] 3);have hk:Blk (w.alloc (.cells #[.int .i64 z] 3)) w.heap.size 3 #[.int .i64 z]:=Blk.newAt rfl;have h1:=h.below hX;have c1:=(h1.blk.cell 1).trans (Q1D _ _ _ _ 1 (by omega));have HI:=Lib.hid (Qag _ g gc w.heap.size t N m S z h1 ((hk.cell 0).trans rfl));have HX:=Lib.hid hX;have HU:=Lib.hid (show Q18 m.chunks f z=(decide (z<=3*(f:Int)+1) || m.chunks.any (fun s=>Q2B s z)) from rfl);have hc0:=(hk.cell 0).trans (show (#[Value.int .i64 z])[0]?=some (.int .i64 z) from rfl);have hc1:(w.alloc (.cells #[.int .i64 z] 3)).cell? ⟨g,1,none⟩=some (.slice (some ⟨gc,0,none⟩) m.chunks.length S.cap):=c1;obtain⟨n,hn⟩:∃ n,n=m.chunks.length:=⟨_,rfl⟩;rw [<- hn] at hc1 HI;have hlg:=h.lt;generalize m.chunks.any (fun s=>Q2B s z)=r2 at HI HU;generalize Q18 m.chunks f z=res at HU ⊢;have HC0:=Lib.hid hc0;have HC1:=Lib.hid hc1;obtain⟨q,hq⟩:∃ g,g=w.heap.size:=⟨_,rfl⟩;clear h hX hk h1 c1 hn hc0 hc1;go_enter Tryz.func135,Tryz.ntmps135
 go_upto_region 1 with fail
 generalize World.alloc w _=w1 at HX HI HC0 HC1 ⊢;rw [<- hq] at HI HC0 ⊢;have c0:=HC0.out;have c1:=HC1.out;clear hq;by_cases hle:z<=3*(f:Int)+1
 ·rw [decide_eq_true hle] at HU;have hr:res=true:=by rw [HU.out]; rfl
  subst hr;go_wp2_with fail
  go_ret
  exact⟨rfl,HX.out⟩
 ·rw [decide_eq_false hle] at HU;have hr:res=r2:=by rw [HU.out]; rfl
  subst hr;have HCO:=Lib.hid (show Calls Tryz.prog 159 #[.slice (some ⟨gc,0,none⟩) n S.cap,.func (.func 160) #[] #[.pointer (some ⟨q,0,none⟩)]] w1 fun e w'=>e=.returned (.bool res)/\Below w1.heap.size w1 w' by
   clear c0 c1 hmf;go_enter Tryz.func159,Tryz.ntmps159
   go_wp2_with fail
   refine HI.out.mono ?_;rintro _ w2 ⟨r,rfl,h1,h2,h3,hb2⟩;have HB2:=Lib.hid hb2;have H3:=Lib.hid h3;clear hb2 h3;go_wp2_with fail
   go_ret
   exact⟨Q0N (by first | exact H3.out | (rw [<- H3.out])),HB2.out⟩)
  go_wp2_with fail
  refine HCO.out.mono ?_;rintro _ w2 ⟨rfl,hb2⟩;have HB2:=Lib.hid (HX.out.trans (hb2.mono HX.out.size));clear hb2 HCO HI;go_wp2_with fail
  go_ret
  exact⟨rfl,HB2.out⟩
end
section
open Go.RowKit Go.Maps
attribute [local irreducible] wpList Q0i
theorem Q4H:(Tryz.prog.info? 102).map (·.size)=some 5:=by kernel_rfl
theorem Q7F (S:ASl) (m:AM) (i:Nat):(Q2v S m i).all (·.oneCell')=true:=by simp [Q2v,Value.oneCell']
def Q5M:Array Value:=#[.int .i64 0,.int .i64 0,.slice none 0 0,.int .i64 0,.slice none 0 0]
theorem QcN (w:World) (g gc j i:Nat) (t:Option Addr) (N:Nat->Prop) (m:AM) (S:ASl) (h:ADat w g gc t N m S) (hj:j<4) (hi:i=j+2) :
 Calls Tryz.prog 112 #[.pointer (some ⟨g,0,none⟩),.int .i64 (i:Int)] w fun e w'=>∃ v,e=.returned v/\OwnB w' w.heap.size v (Q0M (Q7l (Q0u m j)))/\Below w.heap.size w w':=by
 have hlo:=h.ok.lst j;have hnb:=hlo.2.1.bound;have hlc:=fun q hq=>Q8o t gc m S j q hj hq
 have hnd:=h.nodes j hj;have hlt:=h.lt.1;have HLC:=Lib.hid hlc;have HB:=Lib.hid h.blk;have HND:=Lib.hid hnd.rd;have hnum:=QcO h.ok (j+2);have hle:Q5l m (j+2)=Q7l (Q0u m j):=by unfold Q5l; rw [if_neg (by omega)]; rfl
 rw [hle] at hnum;have HNUM:=Lib.hid hnum;have hln:(Q7l (Q0u m j)).length=4+(Q0u m j).2.nodes.length:=by unfold Q7l; rw [List.length_append]; rfl
 have HLI:=Lib.hid (show Q7l (Q0u m j)=[((Q0u m j).1:Int),((Q0u m j).2.err:Int),((Q0u m j).2.epoch:Int),((Q0u m j).2.nodes.length:Int)]++(Q0u m j).2.nodes from rfl);have HLN:=Lib.hid hln;have hD:Q2v S m j=#[.int .i64 ((Q0u m j).1:Int),.int .i64 ((Q0u m j).2.err:Int),.slice none 0 0,.int .i64 ((Q0u m j).2.epoch:Int),.slice (S.lA j) (Q0u m j).2.nodes.length (S.lC j)]:=rfl;have hone:=Q7F S m j;have hsz:(Q2v S m j).size=5:=rfl;generalize Q2v S m j=D at HLC hD hone hsz;obtain⟨st,hst⟩:∃ k,k=(Q0u m j).1:=⟨_,rfl⟩;obtain⟨er,her⟩:∃ k,k=(Q0u m j).2.err:=⟨_,rfl⟩;obtain⟨ep,hep⟩:∃ k,k=(Q0u m j).2.epoch:=⟨_,rfl⟩;obtain⟨ns,hns⟩:∃ k,k=(Q0u m j).2.nodes:=⟨_,rfl⟩;generalize Q7l (Q0u m j)=li at HNUM HLI HLN ⊢;rw [<- hst,<- her,<- hep,<- hns] at hD HLI;rw [<- hns] at HND hnb HLN;obtain⟨n,hn⟩:∃ n,n=ns.length:=⟨_,rfl⟩;rw [<- hn] at hD HLI HND hnb HLN;have HN:=Lib.hid hn;have HD:=Lib.hid hD;have HONE:=Lib.hid hone;have HSZ:=Lib.hid hsz;have hn7:n<=7:=hnb.1;have hi2:(2:Int)<=(i:Int):=by omega
 have hij:(i:Int) - 2=(j:Int):=by omega
 obtain⟨i0,hi0,hz0,hz1,hz2⟩:=info_parts Q3I;have hZ:Q5M=#[.int .i64 0,.int .i64 0,.slice none 0 0,.int .i64 0,.slice none 0 0]:=rfl;clear h hlo hlc hnd hnum hle hln hD hone hsz hst her hep hns hn hi hnb;go_enter Tryz.func112,Tryz.ntmps112
 go_upto_region 3 with(first
  | (refine Q03 (o:=⟨some 19,_,_,_,_,_⟩) rfl 102 (.tmp 18) rfl g (2+j*5) 5 rfl 105 _ D _ HB.out Tryz.underlying102 rfl rfl HSZ.out HLC.out ?_)
  | (refine Q01 (o:=⟨none,_,_,_,_,_⟩) rfl 102 (.tmp 5) (.tmp 19) rfl w.heap.size 0 D rfl rfl 102 Q5M (by rw [hZ]; exact Blk.newAt rfl) (by rw [HSZ.out]; exact Q4H) (by rw [HSZ.out]; simp [Q5M]) HONE.out ?_; intro w1 hT1 hD1; rw [Q08 _ _ (by rw [HSZ.out]; rfl)] at hD1))
 have hb1:Below w.heap.size w w1:=hT1.below (Q07 w _) (Nat.le_refl _);have hs1:=hb1.size;obtain⟨g5,hg5⟩:∃ g,g=w.heap.size:=⟨_,rfl⟩;rw [<- hg5] at hD1 ⊢;rw [HD.out] at hD1;have c0:w1.cell? ⟨g5,0,none⟩=some (.int .i64 (st:Int)):=(hD1.cell 0).trans rfl;have c1:w1.cell? ⟨g5,1,none⟩=some (.int .i64 (er:Int)):=(hD1.cell 1).trans rfl;have c3:w1.cell? ⟨g5,3,none⟩=some (.int .i64 (ep:Int)):=(hD1.cell 3).trans rfl;have c4:w1.cell? ⟨g5,4,none⟩=some (.slice (S.lA j) n (S.lC j)):=(hD1.cell 4).trans rfl;have hgl:=hD1.lt;have HB1:=Lib.hid hb1;have HW:=Lib.hid (World.ownsRow_lit (base:=w.heap.size) (e:=3) (size:=1) w1 #[.int .i64 (st:Int),.int .i64 (er:Int),.int .i64 (ep:Int),.int .i64 (n:Int)] 4 (by omega) (by unfold maxLen; omega) rfl);have HND1:=Lib.hid (HND.out.below hb1);have HND2:=Lib.hid (HND1.out.alloc hs1 (.cells #[.int .i64 (st:Int),.int .i64 (er:Int),.int .i64 (ep:Int),.int .i64 (n:Int)] 3));clear hT1 hD1 hb1 hg5 HB HLC HND;go_wp2_with (at_builtin; go_must (refine Q06 _ rfl (.tmp 33) (.tmp 36) 42 rfl w.heap.size 3 i0 _ 1 8 Tryz.underlying42 hi0 hz0 hz1 hz2 rfl (by omega) _ 4 _ rfl HW.out w.heap.size (S.lA j) n (S.lC j) (ns.map vn) rfl HND2.out ?c1 ?c2 ?c3 ?c4 ?_))
 case c1=>intro u hu; first | rfl | (obtain⟨y,_,rfl⟩:=List.mem_map.1 hu; rfl)
 case c2=>unfold maxLen; omega
 case c3=>omega
 case c4=>first | omega | (simp; omega)
 intro v2 w2 hown2 hg2 hor2;have hb2:Below w.heap.size w w2:=Q0k (HB1.out.trans ((Q07 w1 _).mono hs1)) (by simp; omega) hg2 (fun b hb=>by
  have:b=w1.heap.size:=by simpa [Value.ownBlock] using hb.symm
  omega)
 have hob:OwnN w2 w.heap.size v2 li:=by
  unfold OwnN;rw [HLN.out,HLI.out];simpa [vn] using hown2
 obtain⟨A2,k2,rfl,hk2,_,hr2,_⟩:=Q0v hob;have HB2:=Lib.hid hb2;have hln:=HLN.out;have HNU:=Lib.hid (Q6D A2 li.length k2 li w2 _ hr2 (Nat.le_refl _) HNUM.out (by omega));generalize li.length=ll at HNU ⊢;clear hown2 hg2 hor2 hb2 hob hr2 hln hk2 HND1 HND2 HW c0 c1 c3 c4;go_wp2_with fail
 refine HNU.out.mono ?_;rintro _ w3 ⟨v3,rfl,ho3,hb3⟩;have HO3:=Lib.hid ho3;have HB3:=Lib.hid (HB2.out.trans (hb3.mono HB2.out.size));have hs2:=HB2.out.size;clear ho3 hb3 HNU;go_wp2_with fail
 go_ret
 exact⟨_,rfl,HO3.out.more hs2,HB3.out⟩
end
section
open Go.RowKit Go.Maps
attribute [local irreducible] wpList Q0i
theorem Q6v:(Tryz.prog.info? 173).map (·.size)=some 5:=by kernel_rfl
theorem QcR:(Tryz.prog.info? 175).map (·.size)=some 2:=by kernel_rfl
theorem Qbf (s:Srv) (S:ASl) (i:Nat):(srvC s S i).all (·.oneCell')=true:=by simp [srvC,Value.oneCell']
def Q7k:Array Value:=#[.int .i64 0,.slice none 0 0,.int .i64 0,.slice none 0 0,.slice none 0 0]
theorem Qa1:∀ (l:List (Int×Int)) (i:Nat) (h:i<l.length),Q1h (l.take (i+1))=Q1h (l.take i)++[l[i].1,l[i].2]:=fun l i h=>by
 rw [List.take_succ_eq_append_getElem h,Q3V]; rfl
theorem Qch (w:World) (g gc i:Nat) (t:Option Addr) (N:Nat->Prop) (m:AM) (S:ASl) (h:ADat w g gc t N m S) (hi:i<2) (hn:m.chunks.length<=i) :
 Calls Tryz.prog 112 #[.pointer (some ⟨g,0,none⟩),.int .i64 (i:Int)] w fun e w'=>∃ v,e=.returned v/\OwnB w' w.heap.size v (Q0M [0])/\Below w.heap.size w w':=by
 have hc1:w.cell? ⟨g,1,none⟩=some (.slice (some ⟨gc,0,none⟩) m.chunks.length S.cap):=(h.blk.cell 1).trans (Q1D _ _ _ _ 1 (by omega));obtain⟨n,hne⟩:∃ n,n=m.chunks.length:=⟨_,rfl⟩;rw [<- hne] at hc1 hn;have hX:=Q07 w (.cells #[.int .i64 0] 3);have hk:Blk (w.alloc (.cells #[.int .i64 0] 3)) w.heap.size 3 #[.int .i64 0]:=Blk.newAt rfl;have HX:=Lib.hid hX;have HNU:=Lib.hid (Q6D (some ⟨w.heap.size,0,none⟩) 1 1 [0] (w.alloc (.cells #[.int .i64 0] 3)) _ (Q1m w #[.int .i64 0] 3) (by simp) (fun z hz=>by rw [List.mem_singleton.1 hz]; exact Q4k (by omega) (by omega)) (by omega));have hin:(n:Int)<=(i:Int):=by omega
 have hi2:¬ (2:Int)<=(i:Int):=by omega
 have hi2n:¬ 2<=i:=by omega
 generalize Q0M [0]=res at HNU ⊢;clear h hne hX hk;go_enter Tryz.func112,Tryz.ntmps112
 go_wp2_with fail
 refine HNU.out.mono ?_;rintro _ w3 ⟨v3,rfl,ho3,hb3⟩;have hs2:=HX.out.size;have HO3:=Lib.hid ho3;have HB3:=Lib.hid (HX.out.trans (hb3.mono hs2));clear ho3 hb3 HNU;go_wp2_with fail
 go_ret
 exact⟨_,rfl,HO3.out.more hs2,HB3.out⟩
theorem Qdn (w:World) (g gc i:Nat) (t:Option Addr) (N:Nat->Prop) (m:AM) (S:ASl) (h:ADat w g gc t N m S) (s:Srv) (hs:m.chunks[i]?=some s) :
 Calls Tryz.prog 112 #[.pointer (some ⟨g,0,none⟩),.int .i64 (i:Int)] w fun e w'=>∃ v,e=.returned v/\OwnB w' w.heap.size v (Q0M (Q31 s))/\Below w.heap.size w w':=by
 have hil:i<m.chunks.length:=(List.getElem?_eq_some_iff.1 hs).1;have hc1:w.cell? ⟨g,1,none⟩=some (.slice (some ⟨gc,0,none⟩) m.chunks.length S.cap):=(h.blk.cell 1).trans (Q1D _ _ _ _ 1 (by omega));have h2:=h.ok.one;have hsi:=h.srvIn hs;have hok:=hsi.ok;have hlt:=h.lt;have HLC:=Lib.hid (h.srv i s hs);have HB:=Lib.hid h.row;have HFR:=Lib.hid hsi.first;have HMV:=Lib.hid hsi.mv;have hnum:∀ z,z∈Q31 s->NumI z:=fun z hz=>by have:=hok.chunk z hz; exact Q4k this.1 this.2
 have HNUM:=Lib.hid hnum;have hcl:=hok.chunk_len;have hml:=hok.len;have hfl:=hok.crew.short;have hff:=hok.crew.faults;have hchl:(Q31 s).length=2+s.first.length+2*s.moves.length:=by unfold Q31; rw [List.length_append,Q3y]; simp; omega
 obtain⟨n,hne⟩:∃ n,n=m.chunks.length:=⟨_,rfl⟩;rw [<- hne] at hc1 hil h2;obtain⟨mn,hmn⟩:∃ n,n=s.moves.length:=⟨_,rfl⟩;obtain⟨fn,hfn⟩:∃ n,n=s.first.length:=⟨_,rfl⟩;have hD:srvC s S i=#[.int .i64 (s.f:Int),.slice (S.fA i) fn (S.fC i),.int .i64 (s.f:Int),.slice (S.nA i) s.now.length (S.nC i),.slice (S.mA i) mn (S.mC i)]:=by rw [hmn,hfn]; rfl
 have hone:=Qbf s S i;have hsz:(srvC s S i).size=5:=rfl;generalize srvC s S i=D at HLC hD hone hsz;rw [<- hfn] at HFR hfl hchl;rw [<- hmn] at HMV hml hchl;have HCH:=Lib.hid (show Q31 s=((((mn+1:Nat):Int) :: (s.f:Int) :: s.first)++Q1h s.moves) by rw [hmn]; rfl);have HCHL:=Lib.hid hchl;have HMN:=Lib.hid hmn;have HFN:=Lib.hid hfn;have HD:=Lib.hid hD;have HONE:=Lib.hid hone;have HSZ:=Lib.hid hsz;obtain⟨i0,hi0,hz0,hz1,hz2⟩:=info_parts Q3I;have hZ:Q7k=#[.int .i64 0,.slice none 0 0,.int .i64 0,.slice none 0 0,.slice none 0 0]:=rfl;obtain⟨f,hf⟩:∃ f,f=s.f:=⟨_,rfl⟩;have HF:=Lib.hid hf;rw [<- hf] at HD HCH hff;have hinI:¬ (n:Int)<=(i:Int):=by omega
 have hinN:¬ n<=i:=by omega
 have hiI:(i:Int)<(n:Int):=by omega
 have hi2:¬ (2:Int)<=(i:Int):=by omega
 have hi2n:¬ 2<=i:=by omega
 generalize hch:Q31 s=ch at HNUM HCH HCHL hcl ⊢;generalize s.moves=ms at HMV HMN HCH;generalize s.first=fs at HFR HFN HCH;generalize s.now=nw at HD;have hl1:=hlt.1;have hl2:=hlt.2;clear h hsi hok hs hnum hne hmn hfn hD hone hsz hf hch hlt hchl;go_enter Tryz.func112,Tryz.ntmps112
 go_upto_region 8 with(first
  | (refine Q03 (o:=⟨some 56,_,_,_,_,_⟩) rfl 173 (.tmp 55) rfl gc (i*5) 5 rfl 173 _ D _ HB.out Tryz.underlying173 rfl rfl HSZ.out HLC.out ?_)
  | (refine Q01 (o:=⟨none,_,_,_,_,_⟩) rfl 173 (.tmp 7) (.tmp 56) rfl w.heap.size 0 D rfl rfl 173 Q7k (by rw [hZ]; exact Blk.newAt rfl) (by rw [HSZ.out]; exact Q6v) (by rw [HSZ.out]; simp [Q7k]) HONE.out ?_; intro w1 hT1 hD1; rw [Q08 _ _ (by rw [HSZ.out]; rfl)] at hD1))
 have hb1:Below w.heap.size w w1:=hT1.below (Q07 w _) (Nat.le_refl _);have hs1:=hb1.size;obtain⟨g7,hg7⟩:∃ g,g=w.heap.size:=⟨_,rfl⟩;rw [<- hg7] at hD1 ⊢;rw [HD.out] at hD1;have c0:w1.cell? ⟨g7,0,none⟩=some (.int .i64 (f:Int)):=(hD1.cell 0).trans rfl;have c1:w1.cell? ⟨g7,1,none⟩=some (.slice (S.fA i) fn (S.fC i)):=(hD1.cell 1).trans rfl;have c4:w1.cell? ⟨g7,4,none⟩=some (.slice (S.mA i) mn (S.mC i)):=(hD1.cell 4).trans rfl;have hgl:=hD1.lt;have HD1:=Lib.hid hD1;have HB1:=Lib.hid hb1;have hmI:((mn+1:Nat):Int)=(mn:Int)+1:=by omega
 have HW:=Lib.hid (World.ownsRow_lit (base:=w.heap.size) (e:=3) (size:=1) w1 #[.int .i64 ((mn:Int)+1),.int .i64 (f:Int)] 2 (by omega) (by unfold maxLen; omega) rfl);have HFR2:=Lib.hid ((HFR.out.below hb1).alloc hs1 (.cells #[.int .i64 ((mn:Int)+1),.int .i64 (f:Int)] 3));have HMV1:=Lib.hid (fun(W:World) (hb:Below w.heap.size w W)=>(Q0f HMV.out (fun q hq=>hb.block q (Q0a HMV.out hq).2):W.ownsRow 0 175 2 (.slice (S.mA i) mn (S.mC i)) mn (Q0F ms)));have hg7w:w.heap.size<=g7:=by omega
 clear hT1 hD1 hb1 hg7 HB HLC HFR HMV;go_wp2_with (at_builtin; go_must (refine Q06 _ rfl (.tmp 64) (.tmp 67) 42 rfl w.heap.size 3 i0 _ 1 8 Tryz.underlying42 hi0 hz0 hz1 hz2 rfl (by omega) _ 2 _ rfl HW.out w.heap.size (S.fA i) fn (S.fC i) (fs.map vn) rfl HFR2.out ?c1 ?c2 ?c3 ?c4 ?_))
 case c1=>intro u hu; first | rfl | (obtain⟨y,_,rfl⟩:=List.mem_map.1 hu; rfl)
 case c2=>unfold maxLen; omega
 case c3=>omega
 case c4=>first | omega | (simp; omega)
 intro v2 w2 hown2 hg2 hor2;have hb12:Below w1.heap.size w1 w2:=Q0k (Q07 w1 _) (by simp) hg2 (fun b hb=>by
  have:b=w1.heap.size:=by simpa [Value.ownBlock] using hb.symm
  omega)
 have hob:OwnN w2 w.heap.size v2 (((mn+1:Nat):Int) :: (f:Int) :: fs):=by
  unfold OwnN;have hle:(((mn+1:Nat):Int) :: (f:Int) :: fs).length=2+fn:=by rw [HFN.out]; simp; omega
  rw [hle];simpa [vn,hmI] using hown2
 have HOB:=Lib.hid hob;have HB2:=Lib.hid (HB1.out.trans (hb12.mono hs1));have c42:w2.cell? ⟨g7,4,none⟩=some (.slice (S.mA i) mn (S.mC i)):=(hb12.cell hgl).trans c4;clear hown2 hg2 hor2 hb12 hob HW HFR2 c0 c1 c4 HD1;go_wp2_with fail
 go_loopw [8,72] (fun lv kv wr=>∃ k:Nat,k<=mn/\kv=.int .i64 (k:Int)/\OwnN wr w.heap.size lv ((((mn+1:Nat):Int) :: (f:Int) :: fs)++Q1h (ms.take k))/\Below w.heap.size w wr) (fun _ kv _=>mn - (intOf kv).toNat)
 case atStart=>exact⟨0,by omega,rfl,by simpa [Q1h] using HOB.out,HB2.out⟩
 case round =>
  obtain⟨k,hk,rfl,hov,hbel⟩:=hrel;have HOV:=Lib.hid hov;have HBE:=Lib.hid hbel;have hsz:=hbel.size;clear hov hbel;by_cases hin:k<mn
  ·have hkI:(k:Int)<(mn:Int):=by omega
   obtain⟨q,cap,cur,hv,_,hB,_,_,_,ht⟩:∃ q cap cur,Value.slice (S.mA i) mn (S.mC i)=.slice (some ⟨q,0,none⟩) mn cap/\0<=q/\Blk wr q 175 cur/\mn<=cap/\cap<=maxLen/\cur.size=cap*2/\cur.toList.take (mn*2)=Q0F ms:=by
    rcases(HMV1.out wr HBE.out).2 with⟨_,h1⟩ | h
    ·omega
    ·exact h
   injection hv with hA _ hc
   have hkl:k<ms.length:=by have:=HMN.out; omega
   obtain⟨y,hy⟩:∃ y,y=ms[k]:=⟨_,rfl⟩;obtain⟨yo,yn⟩:=y;obtain⟨E,hE⟩:∃ E:Array Value,E=#[.int .i64 yo,.int .i64 yn]:=⟨_,rfl⟩;have hes:E.size=2:=by rw [hE]; rfl
   have heo:E.all (·.oneCell')=true:=by rw [hE]; simp [Value.oneCell']
   have hcur:∀ j,j<2->cur[k*2+j]?=E[j]?:=fun j hj=>by
    have hg:=Q2T ms k hkl;rw [<- ht,List.getElem?_take,if_pos (by omega),List.getElem?_take,if_pos (by omega),Array.getElem?_toList,Array.getElem?_toList,<- hy] at hg;rw [hE];obtain rfl | rfl:j=0\/j=1:=by omega
    ·exact hg.1
    ·exact hg.2
   have hsn:=Qa1 ms k hkl;rw [<- hy] at hsn;have HSN:=Lib.hid hsn;have HCUR:=Lib.hid hcur;have HBL:=Lib.hid hB;have HE:=Lib.hid hE;have HES:=Lib.hid hes;have HEO:=Lib.hid heo;have hal:S.mA i=some ⟨q,0,none⟩:=hA;clear hcur hB ht hE hc hy hA hsn hes heo;rw [hal];go_upto_region 12 with(first
    | (refine Q03 (o:=⟨some 75,_,_,_,_,_⟩) rfl 175 (.tmp 74) rfl q (k*2) 2 rfl 175 _ E _ HBL.out Tryz.underlying175 rfl rfl HES.out HCUR.out ?_)
    | (refine Q01 (o:=⟨none,_,_,_,_,_⟩) rfl 175 (.tmp 10) (.tmp 75) rfl wr.heap.size 0 E rfl rfl 175 #[.int .i64 0,.int .i64 0] (Blk.newAt rfl) (by rw [HES.out]; exact QcR) (by rw [HES.out]; simp) HEO.out ?_; intro w3 hT3 hD3; rw [Q08 _ _ (by rw [HES.out]; rfl)] at hD3))
   have hb3:Below wr.heap.size wr w3:=hT3.below (Q07 wr _) (Nat.le_refl _);have hs3:=hb3.size;obtain⟨g10,hg10⟩:∃ g,g=wr.heap.size:=⟨_,rfl⟩;rw [<- hg10] at hD3 ⊢;rw [HE.out] at hD3;have d0:w3.cell? ⟨g10,0,none⟩=some (.int .i64 yo):=(hD3.cell 0).trans rfl;have d1:w3.cell? ⟨g10,1,none⟩=some (.int .i64 yn):=(hD3.cell 1).trans rfl;have HOV3:=Lib.hid (HOV.out.below_ hb3);have HB3:=Lib.hid (HBE.out.trans (hb3.mono hsz));obtain⟨ys,hys⟩:∃ ys,ys=(((mn+1:Nat):Int) :: (f:Int) :: fs)++Q1h (ms.take k):=⟨_,rfl⟩;have hysl:ys.length=2+fn+2*k:=by
    rw [hys,List.length_append,Q3y,List.length_take,HFN.out];simp only [List.length_cons];have:=HMN.out;omega
   rw [<- hys] at HOV3;have hb4:=Q07 w3 (.cells #[.int .i64 yo,.int .i64 yn] 3);have HOV4:=Lib.hid (HOV3.out.below_ hb4);have HRD:=Lib.hid (Q1m w3 #[.int .i64 yo,.int .i64 yn] 3);have hs4:=hb4.size;have HB4:=Lib.hid (HB3.out.trans (hb4.mono (by omega)));have HYS:=Lib.hid hys;have HOW4:=Lib.hid (show (w3.alloc (.cells #[.int .i64 yo,.int .i64 yn] 3)).ownsRow w.heap.size 3 1 _ ys.length (ys.map vn) from HOV4.out);have hy64:ys.length<=60:=by omega
   clear hT3 hD3 hb3 hg10 hys HOV HOV3 hb4 hysl;go_wp2_with (at_builtin; go_must (refine Q06 _ rfl (.tmp 76) (.tmp 81) 42 rfl w.heap.size 3 i0 _ 1 8 Tryz.underlying42 hi0 hz0 hz1 hz2 rfl (by omega) _ _ _ rfl HOW4.out _ (some ⟨w3.heap.size,0,none⟩) 2 2 [.int .i64 yo,.int .i64 yn] rfl HRD.out ?d1 ?d2 ?d3 ?d4 ?_))
   case d1=>first | (intro u hu; simp only [List.mem_cons,List.not_mem_nil,or_false] at hu; rcases hu with rfl | rfl <;> rfl) | simp [Value.oneCell'] | exact⟨rfl,rfl⟩
   case d2=>unfold maxLen; omega
   case d3=>omega
   case d4=>first | omega | (simp; omega)
   intro v5 w5 hown5 hg5 hor5;have HB5:=Lib.hid (Q0k HB4.out (by omega) hg5 (fun b hb=>OwnN.ge_ HOV4.out hb));have HO5:=Lib.hid (show OwnN w5 w.heap.size v5 ((((mn+1:Nat):Int) :: (f:Int) :: fs)++Q1h (ms.take (k+1))) by
    rw [HSN.out,<- List.append_assoc,<- HYS.out];unfold OwnN;rw [List.length_append,List.map_append];exact hown5)
   clear hown5 hg5 hor5;go_wp2_with fail
   go_roundw
   case rel=>first | exact⟨k+1,by omega,by go_num,HO5.out,HB5.out⟩ | (repeat apply Exists.intro; exact⟨⟨k+1,by omega,by go_num,HO5.out,HB5.out⟩,rfl⟩)
   case measure=>simp [intOf]; omega
  ·obtain rfl:k=mn:=by omega
   have hkI:¬ (k:Int)<(k:Int):=by omega
   have ht:ms.take k=ms:=List.take_of_length_le (by have:=HMN.out; omega);rw [ht,<- HCH.out] at HOV;obtain⟨A2,k2,hv2,hk2,_,hr2,_⟩:=Q0v HOV.out;subst hv2;have HNU:=Lib.hid (Q6D A2 ch.length k2 ch wr _ hr2 (Nat.le_refl _) HNUM.out (by omega));generalize ch.length=ll at HNU ⊢;clear hr2 hk2 ht;go_wp2_with fail
   refine HNU.out.mono ?_;rintro _ w3 ⟨v3,rfl,ho3,hb3⟩;have HO3:=Lib.hid ho3;have HB3:=Lib.hid (HBE.out.trans (hb3.mono hsz));clear ho3 hb3 HNU;go_wp2_with fail
   go_ret
   exact⟨_,rfl,HO3.out.more hsz,HB3.out⟩
theorem Q9f (w:World) (g gc i:Nat) (t:Option Addr) (N:Nat->Prop) (m:AM) (S:ASl) (h:ADat w g gc t N m S) (hi:i<6) :
 Calls Tryz.prog 112 #[.pointer (some ⟨g,0,none⟩),.int .i64 (i:Int)] w fun e w'=>∃ v,e=.returned v/\OwnB w' w.heap.size v (Q1w m i)/\Below w.heap.size w w':=by
 by_cases h2:i<2
 ·cases hs:m.chunks[i]? with
  | none =>
   have e:Q1w m i=Q0M [0]:=by unfold Q1w Q5l; rw [if_pos h2,hs]
   rw [e];exact Qch w g gc i t N m S h h2 (List.getElem?_eq_none_iff.1 hs)
  | some s =>
   have e:Q1w m i=Q0M (Q31 s):=by unfold Q1w Q5l; rw [if_pos h2,hs]
   rw [e];exact Qdn w g gc i t N m S h s hs
 ·have e:Q1w m i=Q0M (Q7l (Q0u m (i - 2))):=by unfold Q1w Q5l; rw [if_neg h2]
  rw [e];exact QcN w g gc (i - 2) i t N m S h (by omega) (by omega)
end
section
open Go.RowKit Go.Maps
attribute [local irreducible] wpList Q0i
theorem Q8d (w:World) (g gc i:Nat) (T:Q1E) (k:Book) (N:Nat->Prop) (m:AM) (S:ASl) (ls L:List (List UInt8)) (asked:Nat) (h:ADat w g gc (some ⟨T.t,0,none⟩) N m S) (hi:i<6) (hT:Q2b w T k ls) (hl:ls.length=6) (hbk:Q0A w k L asked) (has:asked<=900000) :
 Calls Tryz.prog 99 #[.pointer (some ⟨g,0,none⟩),.int .i64 (i:Int)] w fun e w'=>e=.returned (.int .i64 0)/\SetBy w w' T k ls (ls.set i (Q1w m i)) L asked 3:=by
 have hll:=Q3l h.ok i;have lg:=h.blk.lt;have HD:=Lib.hid (fun(W:World) (hb:Below w.heap.size w W)=>h.below hb);have HL:=Lib.hid (fun(W:World) (hb:Below w.heap.size w W)=>Q9f W g gc i _ N m S (h.below hb) hi);have HS:=Lib.hid (fun(W:World) (hb:Below w.heap.size w W) (A:Option Addr) (c:Nat) (hr:Q0d W W.heap.size 1 A (Q1w m i).length ((Q1w m i).map vb))=>Q9U T k ls L asked i A (Q1w m i).length c (Q1w m i) W W.heap.size (hT.below hb) (hbk.below hb) hr (Nat.le_refl _) (by omega) (by omega) has);have hc:w.cell? ⟨g,0,none⟩=some (.pointer (some ⟨T.t,0,none⟩)):=(h.blk.cell 0).trans (Q1D _ _ _ _ 0 (by omega));have HC:=Lib.hid (fun(W:World) (hb:Below w.heap.size w W)=>(hb.cell (p:=⟨g,0,none⟩) lg).trans hc);clear h hT hbk hc;generalize Q1w m i=xs at HL HS hll ⊢;go_enter Tryz.func99,Tryz.ntmps99
 go_upto_region 1 with fail
 refine Q0l 8 14 (fun jx W v=>match jx with | 0=>v=.pointer (some ⟨g,0,none⟩) | 1=>v=.pointer (some ⟨g,0,none⟩) | 2=>v=.pointer (some ⟨g,0,none⟩) | 3=>v=.pointer (some ⟨T.t,0,none⟩) | 4=>v=.int .i64 (i:Int) | 5=>v=.pointer (some ⟨g,0,none⟩) | 6=>v=.int .i64 (i:Int) | _=>OwnB W w.heap.size v xs) [5,6,7,8,9,10,11,12] (by kernel_rfl) (by kernel_rfl) (by kernel_rfl) (by simp) (by kernel_rfl) (fun jx=>?last) ?heads ?_
 case last =>
  match jx with
  | 0 | 1 | 2 | 3 | 4 | 5 | 6=>exact Q16.pure _
  | jx+7=>exact Qda _ _
 case heads =>
  simp only [List.take_succ_cons,List.take_zero];refine⟨?_,?_,?_,?_,?_,?_,?_,?_,trivial⟩;all_goals intro a W hb hkp hd
  ·have e0:a.tmps[0]?.getD undef=.pointer (some ⟨g,0,none⟩):=hkp.get (by kernel_rfl) rfl;exact Q00 rfl _ (by go_simp) rfl
  ·have e0:(_:Value)=.pointer (some ⟨g,0,none⟩):=(hd 0 (by kernel_rfl)).get 5 rfl rfl;exact Q00 rfl _ (by go_simp) rfl
  ·have e0:(_:Value)=.pointer (some ⟨g,0,none⟩):=(hd 1 (by kernel_rfl)).get 6 rfl rfl;exact Q00 rfl _ (by go_simp) rfl
  ·have e0:(_:Value)=.pointer (some ⟨g,0,none⟩):=(hd 2 (by kernel_rfl)).get 7 rfl rfl;have cc:=HC.out W hb;exact Q00 rfl _ (by go_simp) rfl
  ·have e0:a.tmps[1]?.getD undef=.int .i64 (i:Int):=hkp.get (by kernel_rfl) rfl;exact Q00 rfl _ (by go_simp) rfl
  ·have e0:a.tmps[0]?.getD undef=.pointer (some ⟨g,0,none⟩):=hkp.get (by kernel_rfl) rfl;exact Q00 rfl _ (by go_simp) rfl
  ·have e0:a.tmps[1]?.getD undef=.int .i64 (i:Int):=hkp.get (by kernel_rfl) rfl;exact Q00 rfl _ (by go_simp) rfl
  ·have e0:(_:Value)=.pointer (some ⟨g,0,none⟩):=(hd 5 (by kernel_rfl)).get 10 rfl rfl;have e1:(_:Value)=.int .i64 (i:Int):=(hd 6 (by kernel_rfl)).get 11 rfl rfl;refine Q0w rfl 112 #[.pointer (some ⟨g,0,none⟩),.int .i64 (i:Int)] (by go_simp) ((HL.out W hb).mono ?_);rintro e w' ⟨v,rfl,ho,hb'⟩;exact⟨v,rfl,hb',ho.more hb.size⟩
 intro f W hb hd;have h8:f 8=.pointer (some ⟨T.t,0,none⟩):=hd 3 (by omega) _ 8 rfl rfl;have h9:f 9=.int .i64 (i:Int):=hd 4 (by omega) _ 9 rfl rfl;have h12:OwnB W w.heap.size (f 12) xs:=hd 7 (by omega) _ 12 rfl rfl;obtain⟨A,c,e12,q1,q2,r12,q3⟩:=Q0p h12;have HST:=Lib.hid (HS.out W hb A c r12);have HBW:=Lib.hid hb;simp only [Q0H,List.drop_succ_cons,List.drop_zero,h8,h9,e12];clear hd h12 hb r12;try simp only [Act.put,sA1,sA2,sA3]
 go_wp2_with fail
 refine HST.out.mono ?_;rintro _ w2 ⟨rfl,h1,h2,h3⟩;have H1:=Lib.hid h1;have H2:=Lib.hid h2;have H3:=Lib.hid h3;clear h1 h2 h3;go_wp2_with fail
 go_ret
 exact⟨rfl,H1.out,H2.out,(Only.of_below HBW.out).trans H3.out⟩
end
section
open Go.RowKit Go.Maps
attribute [local irreducible] wpList Q0i
theorem Qa0 (m:AM) (i:Nat) (h:i<6):((Q0g m).take i++List.replicate (6 - i) []).set i (Q1w m i)=(Q0g m).take (i+1)++List.replicate (6 - (i+1)) []:=by
 have hl:((Q0g m).take i).length=i:=by rw [List.length_take,Q0B]; omega
 have hg:=Q1P m i h;have hi:i<(Q0g m).length:=by rw [Q0B]; exact h
 rw [List.getElem?_eq_getElem hi] at hg;rw [List.set_append_right _ _ (by omega),hl,Nat.sub_self,show 6 - i=(6 - (i+1))+1 by omega,List.replicate_succ,List.set_cons_zero,List.take_succ_eq_append_getElem hi,Option.some.inj hg,List.append_assoc];rfl
theorem Qcj (t t':Option Addr) (gc:Nat) (m:AM) (S:ASl):(aCs t gc m S).setIfInBounds 0 (.pointer t')=aCs t' gc m S:=by
 apply Array.ext_getElem?
 intro j;rw [Array.getElem?_setIfInBounds];by_cases h:0=j
 ·subst h;rw [if_pos rfl,Q36,if_pos (by omega),Q1D _ _ _ _ _ (by omega)]; rfl
 ·rw [if_neg h];rcases Nat.lt_or_ge j 22 with h2 | h2
  ·rw [Q1D _ _ _ _ _ h2,Q1D _ _ _ _ _ h2];simp only [aF,if_neg (show ¬ j=0 from fun e=>h e.symm)]
  ·rw [Array.getElem?_eq_none (by rw [Q36]; exact h2),Array.getElem?_eq_none (by rw [Q36]; exact h2)]
theorem ADat.head {w w':World} {g gc:Nat} {t t':Option Addr} {N:Nat->Prop} {m m':AM} {S S':ASl} (h:ADat w g gc t N m S) (ho:Only (fun b=>b=g) w w') (hg:g≠gc) (hb:Blk w' g 105 (aCs t' gc m' S')) (hc:m'.chunks=m.chunks) (hok:AOk m')
 (hS:S'={ S with lA:=S'.lA,lC:=S'.lC }) (hn:∀ i,i<4->FarN w' (fun b=>N b\/IsMv S m.chunks.length b) (S'.lA i) (S'.lC i) (Q0u m' i).2.nodes):ADat w' g gc t' N m' S':=by
 have hM:∀ b,b=g->N b:=fun b e=>e▸h.gN.1
 rw [hS] at hb ⊢;refine⟨hb,ho.blk h.row (fun e=>hg e.symm),?_,?_,?_,?_,?_,?_,?_,?_,h.gN,hok⟩
 ·rw [hc]; exact h.cap
 ·rw [hc]; exact h.srv
 ·rw [hc]; exact fun i s hs=>(h.first i s hs).only ho (fun b hb=>.inl (hM b hb))
 ·rw [hc]; exact fun i s hs=>(h.now i s hs).only ho (fun b hb=>.inl (hM b hb))
 ·rw [hc]; exact hn
 ·rw [hc];intro i s hs;refine Q0f (h.mv i s hs) (fun b hb=>?_);have hi:i<m.chunks.length:=(List.getElem?_eq_some_iff.1 hs).1;have hl:=(Q0a (h.mv i s hs) hb).2;refine ho.block b hl fun hmb=>?_
  have hmv:IsMv S m.chunks.length b:=by
   rcases(h.mv i s hs).2 with⟨e,_⟩ | ⟨g',cap',cur',e,_⟩
   ·rw [e] at hb; cases hb
   ·rw [e] at hb;injection e with e1
    exact⟨i,⟨g',0,none⟩,hi,e1,by simpa [Value.ownBlock] using hb⟩
  exact h.mvN b hmv (hM b hmb)
 ·rw [hc]; exact h.mvN
 ·rw [hc]; exact h.mvap
theorem ADat.plant {w:World} {g gc:Nat} {t t':Option Addr} {N:Nat->Prop} {m:AM} {S:ASl} (h:ADat w g gc t N m S) (hg:g≠gc):ADat (w.setCell ⟨g,0,none⟩ (.pointer t')) g gc t' N m S:=by
 have ho:Only (fun b=>b=g) w (w.setCell ⟨g,0,none⟩ (.pointer t')):=Only.of_turned (Q0c.setCell w ⟨g,0,none⟩ (.pointer t')) rfl;have hb:=h.blk.set_ 0 (.pointer t');rw [Qcj] at hb;exact h.head ho hg hb rfl h.ok rfl (fun i hi=>(h.nodes i hi).only ho (fun b e=>.inl (e▸h.gN.1)))
structure PlSt (M:Nat->Prop) (w wr:World) (g gc:Nat) (T:Q1E) (k:Book) (L:List (List UInt8)) (asked:Nat) (m:AM) (i:Nat):Prop where
 tree:Q2b wr T k ((Q0g m).take i++List.replicate (6 - i) [])
 book:∃ L' a',Q0A wr k L' a'/\a'<=asked+9+3*i/\(∀ x,x∈L->x∈L')/\Q1X L' ((Q0g m).take i++List.replicate (6 - i) [])
 only:Only (fun b=>b=g\/k.has b) w wr
 blk:∃ S,ADat wr g gc (some ⟨T.t,0,none⟩) (fun b=>b=g\/b=gc\/k.has b\/T.has b\/M b) m S
 new:∀ b,T.has b->w.heap.size<=b
theorem Qac (M:Nat->Prop) (k:Book) (L:List (List UInt8)) (asked g gc:Nat) (m:AM) (S:ASl) (w:World) (hbk:Q0A w k L asked) (has:asked<=600000) (h:ADat w g gc none (fun b=>b=g\/b=gc\/k.has b\/M b) m S) (hgk:¬ k.has g) (hgck:¬ k.has gc) (hgg:g≠gc) :
 Calls Tryz.prog 89 #[.pointer (some ⟨g,0,none⟩),.pointer (some ⟨k.g,0,none⟩)] w fun e w'=>∃ T:Q1E,e=.returned (.tuple #[.pointer (some ⟨g,0,none⟩),.int .i64 0])/\PlSt M w w' g gc T k L asked m 6:=by
 have lg:=h.lt;have HBK:=Lib.hid hbk;have HD:=Lib.hid h;have hlt:=hbk.lt;have hln:=Q0B m;have HN:=Lib.hid (Qak k L asked 6 w hbk (.inr rfl) (by omega));clear h hbk;go_enter Tryz.func89,Tryz.ntmps89
 go_wp2_with fail
 refine HN.out.mono ?_;rintro _ w2 ⟨T,rfl,hT,hnew,⟨L2,a2,hbk2,ha2,hL2,hin2⟩,ho2⟩;have hd1:ADat w g gc none (fun b=>b=g\/b=gc\/k.has b\/T.has b\/M b) m S:=HD.out.mono (fun b hb hn=>by
  rcases hn with e | e | e | e | e
  ·exact .inl e
  ·exact .inr (.inl e)
  ·exact .inr (.inr (.inl e))
  ·have:=hnew b e; omega
  ·exact .inr (.inr (.inr e))) ⟨.inl rfl,.inr (.inl rfl)⟩
 have hd2:=hd1.only (Only.of_book ho2) (fun b h=>.inr (.inr (.inl h))) hgk hgck;have hgl:=hd2.blk.lt;have c0:w2.cell? ⟨g,0,none⟩=some (.pointer none):=(hd2.blk.cell 0).trans (Q1D _ _ _ _ 0 (by omega));have f0:=hd2.blk.frozen 0;have HT:=Lib.hid hT;have HNEW:=Lib.hid hnew;have HB2:=Lib.hid hbk2;have HL2:=Lib.hid hL2;have HI2:=Lib.hid hin2;have HO2:=Lib.hid ho2;have HD2:=Lib.hid hd2;have hs2:=ho2.size;clear hT hnew hbk2 hL2 hin2 ho2 hd1 hd2 HN;go_upto_region 5 with fail
 have hgT:∀ b,T.has b->b≠g:=fun b hb e=>by have:=HNEW.out b hb; omega
 have hgcT:∀ b,T.has b->b≠gc:=fun b hb e=>by have:=HNEW.out b hb; omega
 have hst:PlSt M w (w2.setCell ⟨g,0,none⟩ (.pointer (some ⟨T.t,0,none⟩))) g gc T k L asked m 0:=by
  have ho3:Only (fun b=>b=g) w2 (w2.setCell ⟨g,0,none⟩ (.pointer (some ⟨T.t,0,none⟩))):=Only.of_turned (Q0c.setCell w2 ⟨g,0,none⟩ (.pointer (some ⟨T.t,0,none⟩))) rfl;exact⟨HT.out.only ho3 (fun b hb e=>hgT b hb e),⟨L2,a2,HB2.out.only ho3 (fun e=>hgk (.inl e.symm)) (fun e=>hgk (.inr (.inl e.symm))) (fun e=>hgk (.inr (.inr e.symm))),by omega,HL2.out,HI2.out⟩,((Only.of_book HO2.out).mono fun b _ h=>.inr h).trans (ho3.mono fun b _ h=>.inl h),⟨S,HD2.out.plant hgg⟩,HNEW.out⟩
 have HST:=Lib.hid hst;generalize w2.setCell ⟨g,0,none⟩ (.pointer (some ⟨T.t,0,none⟩))=w3 at HST ⊢;clear hst c0 f0 HD2 HT HB2 HL2 HI2 HO2;go_wp2_with fail
 go_loopw [22] (fun iv wr=>∃ i:Nat,i<=6/\iv=.int .i64 i/\PlSt M w wr g gc T k L asked m i) (fun iv _=>6 - (intOf iv).toNat)
 case atStart=>exact⟨0,by omega,rfl,HST.out⟩
 case round =>
  obtain⟨i,hi,rfl,hst⟩:=hrel;have HS:=Lib.hid hst;clear hst;by_cases hin:i<6
  ·have hinI:(i:Int)<6:=by omega
   obtain⟨S1,hd1⟩:=HS.out.blk;obtain⟨L1,a1,q1,q2,q3,q4⟩:=HS.out.book;have hll:((Q0g m).take i++List.replicate (6 - i) ([]:List UInt8)).length=6:=by rw [List.length_append,List.length_take,hln,List.length_replicate]; omega
   have HV:=Lib.hid (Q8d wr g gc i T k _ m S1 _ L1 a1 hd1 hin HS.out.tree hll q1 (by omega));rw [Qa0 m i hin] at HV;have HD1:=Lib.hid hd1;have HQ3:=Lib.hid q3;have HQ4:=Lib.hid q4;clear hd1 q1 q3 q4 hll;go_wp2_with fail
   refine HV.out.mono ?_;rintro _ w4 ⟨rfl,hsb⟩;have hst4:PlSt M w w4 g gc T k L asked m (i+1):=by
    obtain⟨L',a',p1,p2,p3,p4⟩:=hsb.book;refine⟨hsb.tree,⟨L',a',p1,by omega,fun x hx=>p3 x (HQ3.out x hx),p4 L1 (fun _ h=>h) HQ4.out⟩,?_,⟨S1,HD1.out.only hsb.only (fun b hb=>?_) ?_ ?_⟩,HS.out.new⟩
    ·have h1:=HS.out.only;have h2:=hsb.only;refine⟨h2.os.trans h1.os,h2.tape.trans h1.tape,h2.output.trans h1.output,Nat.le_trans h1.size h2.size,fun b hb hn=>(h2.block b (by have:=h1.size; omega) ?_).trans (h1.block b hb hn)⟩;rintro (e | e)
     ·have:=HS.out.new b (.inr (.inr e)); omega
     ·exact hn (.inr e)
    ·rcases hb with e | e
     ·exact .inr (.inr (.inr (.inl (.inr (.inr e)))))
     ·exact .inr (.inr (.inl e))
    ·rintro (e | e)
     ·exact hgT g (.inr (.inr e)) rfl
     ·exact hgk e
    ·rintro (e | e)
     ·exact hgcT gc (.inr (.inr e)) rfl
     ·exact hgck e
   have HST4:=Lib.hid hst4;clear hst4 hsb HV;go_wp2_with fail
   go_roundw
   case rel=>exact⟨i+1,by omega,by go_num,HST4.out⟩
   case measure=>simp [intOf]; omega
  ·obtain rfl:i=6:=by omega
   have hinI:¬ (6:Int)<6:=by omega
   go_wp2_with fail
   go_ret2
   exact⟨rfl,T,HS.out⟩
end
section
open Go.RowKit Go.Maps
attribute [local irreducible] wpList Q0i
def Q5p (nA:Nat->Option Addr) (nC:Nat->Nat) (i:Nat) (s:Srv):List Value:=[.int .i64 (s.f:Int),.slice (nA i) s.first.length (nC i),.int .i64 (s.f:Int),.slice (nA i) s.first.length (nC i),.slice none 0 0]
def Q1g (nA:Nat->Option Addr) (nC:Nat->Nat):Nat->List Srv->List Value
 | _,[]=>[]
 | i,s :: t=>Q5p nA nC i s++Q1g nA nC (i+1) t
theorem Qax (nA:Nat->Option Addr) (nC:Nat->Nat):∀ (l:List Srv) (i:Nat),(Q1g nA nC i l).length=l.length*5
 | [],_=>by simp [Q1g]
 | s :: t,i=>by
  show (Q5p nA nC i s++Q1g nA nC (i+1) t).length=(t.length+1)*5;rw [List.length_append,Qax nA nC t (i+1)];show 5+t.length*5=_;omega
theorem Q7a (nA:Nat->Option Addr) (nC:Nat->Nat) (s:Srv):∀ (l:List Srv) (i:Nat),Q1g nA nC i (l++[s])=Q1g nA nC i l++Q5p nA nC (i+l.length) s
 | [],i=>by simp [Q1g]
 | q :: t,i=>by
  show Q5p nA nC i q++Q1g nA nC (i+1) (t++[s])=(Q5p nA nC i q++Q1g nA nC (i+1) t)++_;rw [Q7a nA nC s t (i+1),List.append_assoc,List.length_cons,show i+1+t.length=i+(t.length+1) by omega]
theorem Q65 (nA nA':Nat->Option Addr) (nC nC':Nat->Nat):∀ (l:List Srv) (i:Nat),(∀ k,i<=k->k<i+l.length->nA k=nA' k/\nC k=nC' k)->Q1g nA nC i l=Q1g nA' nC' i l
 | [],_,_=>rfl
 | s :: t,i,h=>by
  have h1:=h i (Nat.le_refl _) (by simp);have h2:=Q65 nA nA' nC nC' t (i+1) fun k hk hk2=>h k (by omega) (by simp; omega)
  show Q5p nA nC i s++Q1g nA nC (i+1) t=Q5p nA' nC' i s++Q1g nA' nC' (i+1) t;rw [h2];unfold Q5p;rw [h1.1,h1.2]
theorem Q6X (nA:Nat->Option Addr) (nC:Nat->Nat):∀ (l:List Srv) (i k j:Nat) (s:Srv),l[k]?=some s->j<5->(Q1g nA nC i l)[k*5+j]?=(Q5p nA nC (i+k) s)[j]?
 | [],_,_,_,_,h,_=>by simp at h
 | q :: t,i,0,j,s,h,hj=>by
  obtain rfl:q=s:=by simpa using h
  show (Q5p nA nC i q++Q1g nA nC (i+1) t)[0*5+j]?=_;rw [List.getElem?_append_left (by show 0*5+j<5; omega),Nat.zero_mul,Nat.zero_add,Nat.add_zero]
 | q :: t,i,k+1,j,s,h,hj=>by
  have:=Q6X nA nC t (i+1) k j s (by simpa using h) hj;show (Q5p nA nC i q++Q1g nA nC (i+1) t)[(k+1)*5+j]?=_;rw [List.getElem?_append_right (by show 5<=(k+1)*5+j; omega),show (k+1)*5+j - (Q5p nA nC i q).length=k*5+j by show (k+1)*5+j - 5=_; omega,this,show i+1+k=i+(k+1) by omega]
def bgF (t:Option Addr) (v:Value) (j:Nat):Value :=
 if j=0 then .pointer t else if j=1 then v else(#[Value.int .i64 0,.int .i64 0,.slice none 0 0,.int .i64 0,.slice none 0 0]:Array Value).getD ((j - 2) % 5) undef
def bgC (t:Option Addr) (v:Value):Array Value:=rng 22 (bgF t v)
theorem Q6g (t:Option Addr) (v:Value):(bgC t v).size=22:=Q0C _ _
theorem Q76 (t:Option Addr) (v:Value) (j:Nat) (h:j<22):(bgC t v)[j]?=some (bgF t v j):=Q1z _ _ _ h
theorem bgC_set (t:Option Addr) (v v':Value):(bgC t v).setIfInBounds 1 v'=bgC t v':=by
 apply Array.ext_getElem?
 intro j;rw [Array.getElem?_setIfInBounds];by_cases h:1=j
 ·subst h;rw [if_pos rfl,Q6g,if_pos (by omega),Q76 _ _ _ (by omega)]; rfl
 ·rw [if_neg h];rcases Nat.lt_or_ge j 22 with h2 | h2
  ·rw [Q76 _ _ _ h2,Q76 _ _ _ h2];unfold bgF;rw [if_neg (show ¬ j=1 from fun e=>h e.symm),if_neg (show ¬ j=1 from fun e=>h e.symm)]
  ·rw [Array.getElem?_eq_none (by rw [Q6g]; exact h2),Array.getElem?_eq_none (by rw [Q6g]; exact h2)]
theorem Q70 (cs:List Srv) (i:Nat):Q0u (Q1t cs) i=(0,okA):=by
 unfold Q0u Q1t;simp only [List.getD_eq_getElem?_getD,List.getElem?_replicate];split <;> rfl
structure Q3J (w:World) (g B:Nat) (acc:List Srv) (v:Value) (nA:Nat->Option Addr) (nC:Nat->Nat):Prop where
 blk:Blk w g 105 (bgC none v)
 row:w.ownsRow B 173 5 v acc.length (Q1g nA nC 0 acc)
 nodes:∀ i s,acc[i]?=some s->OwnN w B (.slice (nA i) s.first.length (nC i)) s.first
 bare:∀ s,s∈acc->s.moves=[]
 gB:B<=g
 nil0:acc=[]->v=.slice none 0 0
theorem Q3J.below {w w':World} {g B:Nat} {acc:List Srv} {v:Value} {nA:Nat->Option Addr} {nC:Nat->Nat} (h:Q3J w g B acc v nA nC) (hb:Below w.heap.size w w'):Q3J w' g B acc v nA nC :=
 ⟨h.blk.below' hb,Q0f h.row (fun b hb'=>hb.block b (Q0a h.row hb').2),fun i s hs=>(h.nodes i s hs).below_ hb,h.bare,h.gB,h.nil0⟩
def bgS (arr:Array Value) (cap:Nat) (nA:Nat->Option Addr) (nC:Nat->Nat):ASl:=⟨arr,cap,nA,nC,nA,nC,fun _=>none,fun _=>0,fun _=>none,fun _=>0⟩
theorem Qb6 {s:Srv} (h:s.moves=[]):s.now=s.first:=by unfold Srv.now; rw [h]; rfl
theorem Q8I {w:World} {B g:Nat} {A:Option Addr} {n c:Nat} {xs:List Int} {t:TypeId} {cs:Array Value} (h:OwnN w B (.slice A n c) xs) (hb:Blk w g t cs) (ht:3≠t):∀ a,A=some a->a.block≠g:=by
 intro a ha e;have:=Q09 h hb ht;rcases h.2 with⟨h1,_⟩ | ⟨q,cap,cur,h1,_⟩
 ·injection h1 with h1; rw [ha] at h1; cases h1
 ·injection h1 with h1
  rw [ha] at h1;injection h1 with h1
  subst h1;exact this (by rw [ha]; exact congrArg some e)
theorem Q3J.dat {w:World} {g B:Nat} {acc:List Srv} {v:Value} {nA:Nat->Option Addr} {nC:Nat->Nat} (h:Q3J w g B acc v nA nC) (hc:COk acc):∃ gc arr cap,v=.slice (some ⟨gc,0,none⟩) acc.length cap/\B<=gc/\g≠gc/\ADat w g gc none (fun b=>b=g\/b=gc\/b<B) (Q1t acc) (bgS arr cap nA nC):=by
 rcases h.row.2 with⟨_,h0⟩ | ⟨gc,cap,cur,hv,h2,h3,h4,h5,h6,h7⟩
 ·have:=hc.one; omega
 ·have hB:Blk w gc 173 cur:=h3;have hne:g≠gc:=Blk.ne_ h.blk hB (by decide);have hmv:∀ b,¬ IsMv (bgS cur cap nA nC) (Q1t acc).chunks.length b:=fun b hb=>by
   obtain⟨i,a,_,ha,_⟩:=hb;cases ha
  have hfar:∀ i s,acc[i]?=some s->FarN w (fun b=>(b=g\/b=gc\/b<B)\/IsMv (bgS cur cap nA nC) (Q1t acc).chunks.length b) (nA i) (nC i) s.first:=fun i s hs=>by
   have ho:=h.nodes i s hs;obtain⟨A',c',e,q1,q2,q3,q4⟩:=Q0v ho;injection e with e1 _ e2
   subst e1 e2;refine⟨q3,⟨q1,q2⟩,fun a h0 ha hn=>?_⟩;rcases hn with(e | e | e) | e
   ·exact Q8I ho h.blk (by decide) a ha e
   ·exact Q8I ho hB (by decide) a ha e
   ·have:=q4 a ha; omega
   ·exact hmv _ e
  refine⟨gc,cur,cap,hv,h2,hne,?_,hB,⟨h6,h4,h5⟩,?_,hfar,?_,?_,?_,fun b hb=>absurd hb (hmv b),fun i j a b _ _ _ ha _=>(by cases ha),⟨.inl rfl,.inr (.inl rfl)⟩,Q9N hc⟩
  ·have:aCs none gc (Q1t acc) (bgS cur cap nA nC)=bgC none v:=by
    apply Array.ext_getElem?
    intro j;rcases Nat.lt_or_ge j 22 with hj | hj
    ·rw [Q1D _ _ _ _ _ hj,Q76 _ _ _ hj];unfold aF bgF;split
     ·rfl
     ·split
      ·rw [hv]; rfl
      ·unfold Q2v;rw [Q70];rfl
    ·rw [Array.getElem?_eq_none (by rw [Q36]; exact hj),Array.getElem?_eq_none (by rw [Q6g]; exact hj)]
   rw [this]; exact h.blk
  ·intro i s hs j hj;have hs':acc[i]?=some s:=hs;have hi:i<acc.length:=(List.getElem?_eq_some_iff.1 hs').1;have hg:=Q6X nA nC acc 0 i j s hs' hj;rw [<- h7,List.getElem?_take,if_pos (by omega),Array.getElem?_toList,Nat.zero_add] at hg;show cur[i*5+j]?=_;rw [hg,<- Array.getElem?_toList];congr 1
   have hb:=h.bare s (List.mem_of_getElem? hs');unfold Q5p srvC;rw [Qb6 hb,hb];rfl
  ·intro i s hs;have hb:=h.bare s (List.mem_of_getElem? (show acc[i]?=some s from hs));rw [Qb6 hb];exact hfar i s hs
  ·intro i hi;rw [Q70];exact⟨Q0d.none_,⟨by simp [okA],by unfold maxLen bgS; simp⟩,fun a h0 _=>by simp [okA] at h0⟩
  ·intro i s hs;have hb:=h.bare s (List.mem_of_getElem? (show acc[i]?=some s from hs));rw [hb];exact⟨by simp [Q0F],.inl ⟨rfl,rfl⟩⟩
theorem Qdl (w:World) (g f:Nat) (t:Option Addr) (z:Int) (h:Blk w g 105 (bgC t (.slice none 0 0))) (hf:f<=2) :
 Calls Tryz.prog 135 #[.pointer (some ⟨g,0,none⟩),.int .i64 (f:Int),.int .i64 z] w fun e w'=>e=.returned (.bool (Q18 [] f z))/\Below w.heap.size w w':=by
 have hmf:∀ (fn:Fn) (first cap:Array Value) (w:World),(Instr.makeFunc fn first cap).run Tryz.prog w=.ok (.func fn first cap) w:=fun _ _ _ _=>rfl
 have hX:=Q07 w (.cells #[.int .i64 z] 3);have hk:Blk (w.alloc (.cells #[.int .i64 z] 3)) w.heap.size 3 #[.int .i64 z]:=Blk.newAt rfl;have hc1:(w.alloc (.cells #[.int .i64 z] 3)).cell? ⟨g,1,none⟩=some (.slice none 0 0):=((h.below' hX).cell 1).trans (Q76 _ _ 1 (by omega));have HX:=Lib.hid hX;have hc0:=(hk.cell 0).trans (show (#[Value.int .i64 z])[0]?=some (.int .i64 z) from rfl);have HU:=Lib.hid (show Q18 [] f z=(decide (z<=3*(f:Int)+1) || false) from rfl);have hlg:=h.lt;generalize Q18 [] f z=res at HU ⊢;have HC0:=Lib.hid hc0;have HC1:=Lib.hid hc1;obtain⟨q,hq⟩:∃ g,g=w.heap.size:=⟨_,rfl⟩;clear h hX hk hc0 hc1;go_enter Tryz.func135,Tryz.ntmps135
 go_upto_region 1 with fail
 generalize World.alloc w _=w1 at HX HC0 HC1 ⊢;rw [<- hq] at HC0 ⊢;have c0:=HC0.out;have c1:=HC1.out;clear hq;by_cases hle:z<=3*(f:Int)+1
 ·rw [decide_eq_true hle] at HU;have hr:res=true:=by rw [HU.out]; rfl
  subst hr;go_wp2_with fail
  go_ret
  exact⟨rfl,HX.out⟩
 ·rw [decide_eq_false hle] at HU;have hr:res=false:=by rw [HU.out]; rfl
  subst hr;have HIN:=Lib.hid (show Calls Tryz.prog 178 #[.slice none 0 0,.func (.func 160) #[] #[.pointer (some ⟨q,0,none⟩)]] w1 fun e w'=>e=.returned (.int .i64 (-1))/\w1=w' by
   clear c0 c1 hmf;go_enter Tryz.func178,Tryz.ntmps178
   go_wp2_with fail
   go_loopw [5,8] (fun _ iv wr=>iv=.int .i64 0/\w1=wr) (fun _ iv _=>0)
   case atStart=>exact⟨rfl,rfl⟩
   case round =>
    obtain⟨rfl,rfl⟩:=hrel;go_wp2_with fail
    go_ret
    exact⟨rfl,rfl⟩)
  have HCO:=Lib.hid (show Calls Tryz.prog 159 #[.slice none 0 0,.func (.func 160) #[] #[.pointer (some ⟨q,0,none⟩)]] w1 fun e w'=>e=.returned (.bool false)/\w1=w' by
   clear c0 c1 hmf;go_enter Tryz.func159,Tryz.ntmps159
   go_wp2_with fail
   refine HIN.out.mono ?_;rintro _ _ ⟨rfl,rfl⟩;go_wp2_with fail
   go_ret
   exact⟨rfl,rfl⟩)
  go_wp2_with fail
  refine HCO.out.mono ?_;rintro _ _ ⟨rfl,rfl⟩;go_wp2_with fail
  go_ret
  exact⟨rfl,HX.out⟩
theorem Q3J.used {w:World} {g B:Nat} {acc:List Srv} {v:Value} {nA:Nat->Option Addr} {nC:Nat->Nat} (h:Q3J w g B acc v nA nC) (hc:acc=[]\/COk acc) (f:Nat) (z:Int) (hf:f<=2) :
 Calls Tryz.prog 135 #[.pointer (some ⟨g,0,none⟩),.int .i64 (f:Int),.int .i64 z] w fun e w'=>e=.returned (.bool (Q18 acc f z))/\Below w.heap.size w w':=by
 rcases hc with rfl | hc
 ·have hv:=h.nil0 rfl;subst hv;exact Qdl w g f none z h.blk hf
 ·obtain⟨gc,arr,cap,rfl,_,_,hd⟩:=h.dat hc;exact Q8M w g gc f none _ (Q1t acc) _ z hd hf
end
end Go.Proofs.YtcpngeiahgoacaaGreat
