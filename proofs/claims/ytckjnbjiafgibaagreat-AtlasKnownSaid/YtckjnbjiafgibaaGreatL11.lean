/- Parts of the proof, in one text. -/
import Derived.Test.YtckjnbjiafgibaaGreatL10
import Derived.Test.YtckjnbjiafgibaaGreatL7
import Derived.Test.YtckjnbjiafgibaaGreatL9
import Derived.Test.YtckjnbjiafgibaaGreatL6
import Derived.BigRegion
import Derived.IntWalk
import Derived.Deep.DeepCutAuto
namespace Go.Proofs.YtckjnbjiafgibaaGreat
set_option linter.unusedVariables false
set_option linter.unusedSimpArgs false
set_option maxRecDepth 100000
set_option maxHeartbeats 16000000
open _root_.Bool renaming false_eq_true->zP
open _root_.Go renaming Addr->zA,World->zB,Value->zC
open _root_.Go.Proofs.Tryz renaming prog->zG
open _root_.Go.RowKit renaming Below->zE
open _root_.Go.RowKit.Below renaming refl->zJ
open _root_.Go.Value renaming oneCell'->zN
open _root_.Go.World renaming cell?_of_block->zM,alloc->zR
open _root_.List renaming getElem?_eq_getElem->zD,length_drop->zF,length_append->zI,getD_eq_getElem?_getD->zK,map_append->zL,take_of_length_le->zO
open _root_.Nat renaming le_refl->zH
open _root_.Option.some renaming inj->zQ
section
open Go.RowKit Go.Maps
attribute [local irreducible] wpList Q0c
def Q2K (m:AM):List UInt8:=((Q07 m).map strB).flatten
def Q4q (w:zB) (m:AM) (e:Ending) (w':zB):Prop:=∃ v,e=.returned (.tuple #[v,.int .i64 0])/\OwnB w' w.heap.size v (Q2K m)/\zE w.heap.size w w'
theorem Q9a:∀ (l:LL),(∀ x,x∈l->x.length<=120)->(l.map strB).flatten.length<=128*l.length
 | [],_=>by simp
 | x :: t,h=>by
  rw [List.map_cons,List.flatten_cons,zI,List.length_cons];have h1:=Q9a t fun y hy=>h y (List.mem_cons_of_mem _ hy)
  have h2:=h x (List.mem_cons_self ..);have h3:=(Q3s (n:=x.length) (by unfold maxN; omega)).2;have h4:(strB x).length=(numB x.length).length+x.length:=by unfold strB; rw [zI]
  omega
theorem Q9z (w:zB) (V:ALoc) (N:Nat->Prop) (m:AM) (h:AAt w V N m) :
 Calls zG 36 #[.pointer (some ⟨V.g,0,none⟩)] w (Q4q w m):=by
 obtain⟨S,hd⟩:=h.dat;have hok:=hd.ok;have HN:=sH (Q2M w V.g V.T.t ((hd.blk.cell 0).trans (Q1a _ _ _ _ 0 (by omega))));have HLV:=sH (Q57 w V N m h);have hlen:=Q0r m;have hbl:∀ x,x∈Q07 m->x.length<=120:=fun x hx=>by obtain⟨i,_,rfl⟩:=List.mem_map.1 hx;exact Q82 hok i
 have hfl:=Q9a _ hbl;rw [hlen] at hfl;obtain⟨ls,hls⟩:∃ ls,ls=Q07 m:=⟨_,rfl⟩;unfold Q4q Q2K;unfold Q8V at HLV;rw [<- hls] at HLV hlen hbl hfl ⊢;have HLN:=sH hlen;have HBL:=sH hbl;obtain⟨i0,hi0,hz0,hz1,hz2⟩:=info_parts Q2p;clear h hd hlen hbl hls hok;go_enter Tryz.func36,Tryz.ntmps36
 go_wp2_with fail
 refine HN.out.mono ?_;rintro _ _ ⟨rfl,rfl⟩;go_wp2_with fail
 refine HLV.out.mono ?_;rintro _ w1 ⟨v,vs,rfl,how,hb1⟩;obtain⟨A,c,rfl,hc,_,hrows,hge⟩:=how.slice;rw [HLN.out] at hc hrows ⊢;have HR:=sH hrows;have HB1:=sH hb1;have hs1:=hb1.size;clear how hrows hb1 hge HLV HN;go_wp2_with fail
 go_loopw [4,14] (fun ov iv wr=>∃ i:Nat,i<=6/\iv=.int .i64 i/\OwnB wr w1.heap.size ov ((ls.take i).map strB).flatten/\zE w1.heap.size w1 wr) (fun _ iv _=>6 - (intOf iv).toNat)
 case atStart=>exact⟨0,by omega,rfl,OwnB.nil _ _,zJ _ _⟩
 obtain⟨i,hi,rfl,hov,hbel⟩:=hrel;have HOV:=sH hov;have HB:=sH hbel;have hsz:=hbel.size;clear hov hbel;by_cases hin:i<6
 ·have hinI:(i:Int)<6:=by omega
  have h0I:(0:Int)<=(i:Int):=by omega
  obtain⟨ad,hA,hadb,hcell⟩:=HR.out.2 (by omega);subst hA;have hxi:i<ls.length:=by have:=HLN.out; omega
  obtain⟨Ak,mk,ck,hck,hrk⟩:=hcell i ls[i] (zD hxi);have hck':=(HB.out.cell (show (ad.add i).block<w1.heap.size by rw [Q0d]; omega)).trans hck;have hmk:ls[i].length=mk:=by have:=hrk.1; simpa using this
  have hm120:mk<=120:=by have:=HBL.out _ (List.getElem_mem hxi); omega
  have HST:=sH (str_any Ak mk ck ls[i] wr wr.heap.size ((hrk.below HB.out).more hsz) (zH _) (by omega));obtain⟨ys,hys⟩:∃ ys,ys=((ls.take i).map strB).flatten:=⟨_,rfl⟩;have htk:((ls.take (i+1)).map strB).flatten=((ls.take i).map strB).flatten++strB ls[i]:=by rw [List.take_succ_eq_append_getElem hxi,zL,List.flatten_append]; simp only [List.map_cons,List.map_nil,List.flatten_cons,List.flatten_nil,List.append_nil]
  have htl:((ls.take (i+1)).map strB).flatten.length<=(ls.map strB).flatten.length:=by
   conv=>rhs; rw [<- List.take_append_drop (i+1) ls,zL,List.flatten_append,zI]
   omega
  rw [htk,zI] at htl;rw [<- hys] at HOV htk htl;have HTK:=sH htk;clear hys;generalize strB ls[i]=x at HTK HST htl;clear hcell hck hrk hmk htk;go_wp2_with fail
  refine HST.out.mono ?_;rintro _ w2 ⟨v2,rfl,ho2,hb2⟩;obtain⟨A2,c2,rfl,p1,p2,p3,p4⟩:=Q0m ho2;obtain⟨nx,hnx⟩:∃ k,k=x.length:=⟨_,rfl⟩;rw [<- hnx] at p3 htl ⊢;have HNX:=sH hnx;have HP3:=sH p3;have HO2:=sH (HOV.out.below hb2);have HWN:=sH HO2.out.row;have HB2:=sH (HB.out.trans (hb2.mono hsz));have hs2:=hb2.size;clear ho2 hb2 p1 p2 p3 p4 HST hnx;go_wp2_with (at_builtin; go_must (refine Q05 _ rfl (.tmp 26) (.tmp 27) 28 rfl w1.heap.size 5 i0 _ 1 1 Tryz.underlying28 hi0 hz0 hz1 hz2 rfl (by omega) _ _ _ rfl HWN.out w2.heap.size A2 nx c2 (x.map vb) rfl HP3.out ?c1 ?c2 ?c3 ?c4 ?_))
  case c1=>intro u hu; obtain⟨y,_,rfl⟩:=List.mem_map.1 hu; rfl
  case c2=>unfold maxLen; omega
  case c3=>omega
  case c4=>omega
  intro v3 w3 hown3 hg3 hor3;have HB3:=sH (Q0i HB2.out (by omega) hg3 (fun b hb=>HO2.out.ge hb));have HO3:=sH (show OwnB w3 w1.heap.size v3 ((ls.take (i+1)).map strB).flatten by unfold OwnB;rw [HTK.out,zI,zL,<- HNX.out];exact hown3)
  clear hown3 hg3 hor3;go_wp2_with fail
  go_roundw
  case rel=>exact⟨i+1,by omega,by go_num,HO3.out,HB3.out⟩
  case measure=>simp [intOf]; omega
 obtain rfl:i=6:=by omega
 have hinI:¬ (6:Int)<6:=by omega
 go_wp2_with fail
 go_ret2
 refine⟨_,rfl,?_,HB1.out.trans (HB.out.mono hs1)⟩;have:=HOV.out;rw [zO (by have:=HLN.out; omega)] at this;exact this.more hs1
end
section
open Go.RowKit Go.Maps
attribute [local irreducible] wpList
def NilA (w:zB) (p:Option zA):Prop:=p=none\/∃ g,p=some ⟨g,0,none⟩/\w.cell? ⟨g,0,none⟩=some (.pointer none)
theorem NilA.below {w w':zB} {p:Option zA} (h:NilA w p) (hb:zE w.heap.size w w'):NilA w' p:=by
 rcases h with rfl | ⟨g,rfl,hc⟩
 ·exact .inl rfl
 exact .inr ⟨g,rfl,(hb.cell (World.block_lt_of_cell? _ _ hc)).trans hc⟩
theorem Q2T (w:zB) (p:Option zA) (h:NilA w p) :
 Calls zG 61 #[.pointer p] w fun e w'=>e=.returned (.bool true)/\w'=w:=by
 rcases h with rfl | ⟨g,rfl,hc⟩
 ·go_enter Tryz.func61,Tryz.ntmps61
  go_wp2
  go_ret
  exact⟨rfl,rfl⟩
 go_enter Tryz.func61,Tryz.ntmps61
 go_wp2
 go_ret
 exact⟨rfl,rfl⟩
theorem Q9F (w:zB) (p:Option zA) (h:NilA w p) :
 Calls zG 34 #[.pointer p] w fun e w'=>e=.returned (.slice none 0 0)/\zE w.heap.size w w':=by
 have HN:=sH (Q2T w p h);clear h;go_enter Tryz.func34,Tryz.ntmps34
 go_wp2_with fail
 refine HN.out.mono ?_;rintro _ w1 ⟨rfl,rfl⟩;go_wp2_with fail
 first | go_ret2 | go_ret
 exact⟨rfl,zJ _ _⟩
theorem Qaj (w:zB) (p:Option zA) (h:NilA w p) :
 Calls zG 36 #[.pointer p] w fun e w'=>e=.returned (.tuple #[.slice none 0 0,.int .i64 1])/\zE w.heap.size w w':=by
 have HN:=sH (Q2T w p h);clear h;go_enter Tryz.func36,Tryz.ntmps36
 go_wp2_with fail
 refine HN.out.mono ?_;rintro _ w1 ⟨rfl,rfl⟩;go_wp2_with fail
 first | go_ret2 | go_ret
 exact⟨rfl,zJ _ _⟩
theorem akZ:anC 0 none 0 0 0 none 0 0=#[.int .i64 0,.slice none 0 0,.int .i64 0,.slice none 0 0]:=rfl
theorem aNilRoot (w:zB) (p:Option zA) (h:NilA w p) :
 Calls zG 38 #[.pointer p] w fun e w'=>e=.returned (.tuple #[.agg inkZ,.int .i64 1])/\zE w.heap.size w w':=by
 have hX:=Q02 w (.cells inkZ 51);have hk0:Blk (w.alloc (.cells inkZ 51)) w.heap.size 51 inkZ:=Blk.newAt rfl;have HN:=sH (Q2T (w.alloc (.cells inkZ 51)) p (h.below hX));have HZ:=sH Q23;have hzs:inkZ.size=32:=by simp [inkZ,bRow]
 have hz1:inkZ.all (·.oneCell')=true:=Q0Q _;obtain⟨D,hD⟩:∃ D,D=inkZ:=⟨_,rfl⟩;have HDE:=sH hD;have HDS:=sH (show D.size=32 by rw [hD]; exact hzs);have HDO:=sH (show D.all (·.oneCell')=true by rw [hD]; exact hz1);have HZS:=sH hzs;have HX:=sH hX;have HK:=sH hk0;obtain⟨g,hg⟩:∃ g,g=w.heap.size:=⟨_,rfl⟩;clear h hX hk0 hD hzs hz1;go_enter Tryz.func38,Tryz.ntmps38
 go_upto_region 1 with fail
 rw [<- HZ.out];generalize zR w _=w1 at HN HX HK ⊢;rw [<- hg] at HK ⊢;have hgw:w.heap.size<=g:=by omega
 clear hg;go_wp2_with fail
 refine HN.out.mono ?_;rintro _ _ ⟨rfl,rfl⟩;go_wp2_with (refine Q00 (o:=⟨none,_,_,_,_,_⟩) rfl 51 (.tmp 2) (.tmp 6) rfl g 0 D rfl (by rw [HDE.out,HZ.out]; rfl) 51 inkZ HK.out (by rw [HDS.out]; rfl) (by rw [HDS.out,HZS.out]; omega) HDO.out ?_; intro w5 hT5 hD5; rw [Q0a _ _ (by rw [HDS.out,HZS.out])] at hD5)
 refine bodyPost_ret (Q03 rfl _ _ g 32 51 _ _ rfl hD5 Tryz.underlying51 rfl rfl HDS.out) rfl ⟨by rw [HDE.out]; rfl,?_⟩;exact hT5.below HX.out hgw
theorem aNilDo (w:zB) (p:Option zA) (ws:Array zC) (hz:ws.size=10) (h:NilA w p) :
 Calls zG 28 #[.pointer p,.agg ws] w fun e w'=>e=.returned (.tuple #[.agg (anC 0 none 0 0 0 none 0 0),.int .i64 1])/\zE w.heap.size w w':=by
 have hX:zE w.heap.size w ((w.alloc (.cells ws 31)).alloc (.cells (anC 0 none 0 0 0 none 0 0) 34)):=((zJ _ _).alloc (zH _) _).alloc (by simp) _;have hk4:Blk ((w.alloc (.cells ws 31)).alloc (.cells (anC 0 none 0 0 0 none 0 0) 34)) (w.heap.size+1) 34 (anC 0 none 0 0 0 none 0 0):=Blk.newAt (by simp);have HN:=sH (Q2T ((w.alloc (.cells ws 31)).alloc (.cells (anC 0 none 0 0 0 none 0 0) 34)) p (h.below hX));have HX:=sH hX;have HK:=sH hk4;obtain⟨g,hg⟩:∃ g,g=w.heap.size+1:=⟨_,rfl⟩;clear h hX hk4;go_enter Tryz.func28,Tryz.ntmps28
 go_upto_region 1 with fail
 rw [<- akZ];generalize zR (zR w _) _=w1 at HN HX HK ⊢;rw [<- hg] at HK ⊢;have hgw:w.heap.size<=g:=by omega
 clear hg;go_wp2_with fail
 refine HN.out.mono ?_;rintro _ _ ⟨rfl,rfl⟩;go_wp2_with (refine Q00 (o:=⟨none,_,_,_,_,_⟩) rfl 34 (.tmp 4) (.tmp 12) rfl g 0 (anC 0 none 0 0 0 none 0 0) rfl rfl 34 (anC 0 none 0 0 0 none 0 0) HK.out (by kernel_rfl) (by simp [anC]) (by simp [anC,zN]) ?_; intro w5 hT5 hD5; rw [Q0a _ _ rfl] at hD5)
 refine bodyPost_ret (Q03 rfl _ _ g 4 34 _ _ rfl hD5 Tryz.underlying34 rfl rfl rfl) rfl ⟨rfl,?_⟩;exact hT5.below HX.out hgw
theorem Qa2 (w:zB) (p:Option zA) (h:NilA w p) :
 Calls zG 32 #[.pointer p] w fun e w'=>e=.returned (.int .i64 0)/\zE w.heap.size w w':=by
 have HN:=sH (Q2T w p h);clear h;go_enter Tryz.func32,Tryz.ntmps32
 go_wp2_with fail
 refine HN.out.mono ?_;rintro _ w1 ⟨rfl,rfl⟩;go_wp2_with fail
 first | go_ret2 | go_ret
 exact⟨rfl,zJ _ _⟩
theorem Qby (w:zB) (p:Option zA) (z:Int) (h:NilA w p) :
 Calls zG 33 #[.pointer p,.int .i64 z] w fun e w'=>e=.returned (.slice none 0 0)/\zE w.heap.size w w':=by
 have HN:=sH (Q2T w p h);clear h;go_enter Tryz.func33,Tryz.ntmps33
 go_wp2_with fail
 refine HN.out.mono ?_;rintro _ w1 ⟨rfl,rfl⟩;go_wp2_with fail
 first | go_ret2 | go_ret
 exact⟨rfl,zJ _ _⟩
theorem Qb4 (w:zB) (p:Option zA) (ws:Array zC) (hz:ws.size=10) (h:NilA w p) :
 Calls zG 39 #[.pointer p,.agg ws] w fun e w'=>e=.returned (.tuple #[.agg (anC 0 none 0 0 0 none 0 0),.bool false])/\zE w.heap.size w w':=by
 have hX:zE w.heap.size w ((w.alloc (.cells ws 31)).alloc (.cells (anC 0 none 0 0 0 none 0 0) 34)):=((zJ _ _).alloc (zH _) _).alloc (by simp) _;have hk4:Blk ((w.alloc (.cells ws 31)).alloc (.cells (anC 0 none 0 0 0 none 0 0) 34)) (w.heap.size+1) 34 (anC 0 none 0 0 0 none 0 0):=Blk.newAt (by simp);have HN:=sH (Q2T ((w.alloc (.cells ws 31)).alloc (.cells (anC 0 none 0 0 0 none 0 0) 34)) p (h.below hX));have HX:=sH hX;have HK:=sH hk4;obtain⟨g,hg⟩:∃ g,g=w.heap.size+1:=⟨_,rfl⟩;clear h hX hk4;go_enter Tryz.func39,Tryz.ntmps39
 go_upto_region 1 with fail
 rw [<- akZ];generalize zR (zR w _) _=w1 at HN HX HK ⊢;rw [<- hg] at HK ⊢;have hgw:w.heap.size<=g:=by omega
 clear hg;go_wp2_with fail
 refine HN.out.mono ?_;rintro _ _ ⟨rfl,rfl⟩;go_wp2_with (refine Q00 (o:=⟨none,_,_,_,_,_⟩) rfl 34 (.tmp 4) (.tmp 23) rfl g 0 (anC 0 none 0 0 0 none 0 0) rfl rfl 34 (anC 0 none 0 0 0 none 0 0) HK.out (by kernel_rfl) (by simp [anC]) (by simp [anC,zN]) ?_; intro w5 hT5 hD5; rw [Q0a _ _ rfl] at hD5)
 refine bodyPost_ret (Q03 rfl _ _ g 4 34 _ _ rfl hD5 Tryz.underlying34 rfl rfl rfl) rfl ⟨rfl,?_⟩;exact hT5.below HX.out hgw
end
section
open Go.RowKit Go.Maps
def badF (l:List Nat):Prop:=l.length<2\/l.getD 0 0<1\/22<l.getD 0 0\/2<l.getD 1 0\/l.length≠2+(3*l.getD 1 0+1)+2*(l.getD 0 0 - 1)
instance (l:List Nat):Decidable (badF l):=by unfold badF; infer_instance
def Q2i (l:List Nat):Option ((Int×List Int)×List Int):=if badF l then none else some ((((l.getD 1 0:Nat):Int),nI ((l.drop 2).take (3*l.getD 1 0+1))),nI (l.drop (2+(3*l.getD 1 0+1))))
def badT (l:List Nat):Prop:=l.length<4\/l.getD 3 0+4≠l.length\/22<=l.getD 2 0\/¬ (l.getD 1 0=0\/l.getD 1 0=5\/l.getD 1 0=180)\/(4<l.length/\Q2m (nI (l.drop 4))=false)\/¬ (0<l.getD 0 0\/(l.getD 1 0=0/\l.getD 2 0=0/\l.length=4))
instance (l:List Nat):Decidable (badT l):=by unfold badT; infer_instance
def Q34 (l:List Nat):Option (Nat×Ans):=if badT l then none else some (l.getD 0 0,⟨l.getD 1 0,[],l.getD 2 0,nI (l.drop 4)⟩)
instance (l:List Int) (o n:Int):Decidable (Q1I l o n):=by unfold Q1I; infer_instance
def Q1n:List Srv->Nat->List Int->Option (List Srv)
 | cs,i,o :: n :: t=>match cs[i]? with
  | none=>none
  | some s=>if Q0H cs s.f n=false/\Q1I s.now o n then Q1n (cs.set i (Q1b s o n)) i t else none
 | cs,_,_=>some cs
def Q4L (cs:List (Int×List Int)) (ms:Nat->List Int) (f:Nat->List Nat):Option AM :=
 match Q1S cs with
 | none=>none
 | some ss=>match Q1n ss 0 (ms 0) with
  | none=>none
  | some s1=>match Q1n s1 1 (ms 1) with
   | none=>none
   | some s2=>if ∀ i,i<4->(Q34 (f (2+i))).isSome=true then some ⟨s2,(List.range 4).map (fun i=>(Q34 (f (2+i))).getD (0,okA))⟩ else none
def Q7W (f:Nat->List Nat):Option AM :=
 if f 1=[0] then match Q2i (f 0) with
  | none=>none
  | some p=>Q4L [p.1] (fun i=>if i=0 then p.2 else []) f
 else match Q2i (f 0) with
  | none=>none
  | some p=>match Q2i (f 1) with
   | none=>none
   | some q=>Q4L [p.1,q.1] (fun i=>if i=0 then p.2 else q.2) f
instance (ls:LL):Decidable (∀ i,i<6->(Q28 (ls.getD i [])).isSome=true):=Nat.decidableBallLT 6 (fun i _=>(Q28 (ls.getD i [])).isSome=true)
def Q2h (ls:LL):Option AM :=if ls.length=6/\(∀ i,i<6->(Q28 (ls.getD i [])).isSome=true) then Q7W (fun i=>(Q28 (ls.getD i [])).getD []) else none
def Q1V (b:List UInt8):Option AM×Nat :=
 let r:=Q3A 6 b []
 if r.2.2≠0 then(none,r.2.2) else if 0<r.2.1.length then(none,4) else match Q2h r.1 with
  | none=>(none,2)
  | some m=>(some m,0)
def NumsPost (w:zB) (o:Option (List Nat)) (e:Ending) (w':zB):Prop:=∃ v,e=.returned (.tuple #[v,.bool o.isSome])/\OwnN w' w.heap.size v (nI (o.getD []))/\(∀ x,x∈o.getD []->x<=maxN)/\zE w.heap.size w w'
end
section
open Go.RowKit Go.Maps
attribute [local irreducible] wpList Q0c
theorem Q4K (A:Option zA) (n c:Nat) (xs:List UInt8) (w:zB) (B:Nat) (h:Q04 w B 1 A n (xs.map vb)) (hB:B<=w.heap.size) (hc:n<=c) (hn:n<=1000000000000) :
 Calls zG 67 #[.slice A n c] w (NumsPost w (Q28 xs)):=by
 obtain⟨o,ho⟩:∃ o,o=Q28 xs:=⟨_,rfl⟩;rw [<- ho];have HO:=sH ho;have HST:=sH (show PsSt w xs n A n c (.slice none 0 0) xs [] w from⟨h.more hB,hc,OwnN.nil_ _ _,by simp,by cases Q28 xs <;> rfl,fun x hx=>by simp at hx,zJ _ _⟩);obtain⟨i0,hi0,hz0,hz1,hz2⟩:=info_parts Q4f;obtain⟨n0,hn0⟩:∃ k,k=n:=⟨_,rfl⟩;rw [<- hn0] at hn;have HST2:=sH (show PsSt w xs n0 A n c (.slice none 0 0) xs [] w from hn0▸HST.out);clear h ho HST hc hn0;go_enter Tryz.func67,Tryz.ntmps67
 go_wp2_with fail
 go_loopw [0,2] (fun bv lv wr=>∃ (A:Option zA) (n c:Nat) (rest:List UInt8) (done:List Nat),bv=.slice A n c/\PsSt w xs n0 A n c lv rest done wr) (fun bv _ _=>(match bv with | .slice _ n _=>n | _=>0))
 case atStart=>exact⟨_,_,_,_,_,rfl,HST2.out⟩
 obtain⟨A,n,c,rest,done,rfl,hps⟩:=hrel;have HPS:=sH hps;have hrl:rest.length=n:=by have:=hps.rd.1; simpa using this
 have HRL:=sH hrl;have hsz:=hps.low.size;have hlen:=hps.len;clear hps hrl;by_cases h0:n=0
 ·subst h0;have hre:rest=[]:=List.eq_nil_of_length_eq_zero (by have:=HRL.out; omega);have hnum:o=some done:=by
   have:=HPS.out.num;rw [hre] at this;rw [HO.out,this];simp [QaE]
  have HOWN:=sH HPS.out.own;have HMAX:=sH HPS.out.max;have HLOW:=sH HPS.out.low;clear hre HPS HRL HO hlen;subst hnum;go_wp2_with fail
  go_ret2
  exact⟨_,rfl,HOWN.out,HMAX.out,HLOW.out⟩
 have h0b:(0:Int)<(n:Int):=by omega
 have hne:rest≠[]:=by intro e; have:=HRL.out; rw [e] at this; simp at this; omega
 have HTN:=sH (Q5K A n c rest wr wr.heap.size HPS.out.rd (zH _) HPS.out.cap (by omega));have htm:=tn_num rest;have HBADN:=sH (fun(he:(tn rest).2.2≠0)=>Qam hne he);have HNEXT:=sH (fun(he:(tn rest).2.2=0)=>Q9U hne he);have HSHR:=sH (fun(he:(tn rest).2.2=0)=>Q5j he);obtain⟨p,hp⟩:∃ p,p=tn rest:=⟨_,rfl⟩;rw [<- hp] at HTN htm HBADN HNEXT HSHR;obtain⟨k,r,e⟩:=p;simp only at HTN htm HBADN HNEXT HSHR;have HTM:=sH htm;clear hne hp htm;obtain⟨Al,cl,hlv,hlc,_,_,_⟩:=Q0e HPS.out.own;rw [Q2J] at hlv hlc;subst hlv;go_wp2_with fail
 refine HTN.out.mono ?_;rintro _ w2 ⟨v,rfl,ho2,hb2⟩;obtain⟨A1,c1,hv,q1,q2,hr1,_⟩:=Q0m ho2;subst hv;have HR1:=sH hr1;have HOB:=sH ho2;have HL2:=sH (HPS.out.low.trans (hb2.mono hsz));have HOW2:=sH (HPS.out.own.below_ hb2);have hs2:=hb2.size;clear ho2 hb2 hr1 HTN;by_cases he:e=0
 ·have heb:((e:Int) != 0)=false:=by simp [he]
  have hshr:=HSHR.out he;have hnx:=HNEXT.out he;rw [HRL.out] at hshr;have HNX:=sH hnx;have HW:=sH (show (w2.alloc (.cells #[.int .i64 (k:Int)] 3)).ownsRow w.heap.size 3 1 (.slice Al done.length cl) done.length ((nI done).map vn) from by have:=World.ownsRow.alloc HOW2.out (.cells #[.int .i64 (k:Int)] 3);rw [Q2J] at this;exact this)
  have HR3:=sH (Q0l w2 #[.int .i64 (k:Int)] 3);have HR1b:=sH (HR1.out.below (Q02 w2 (.cells #[.int .i64 (k:Int)] 3)));obtain⟨dn,hdn⟩:∃ d,d=done.length:=⟨_,rfl⟩;rw [<- hdn] at HW hlen ⊢;have HDN:=sH hdn;obtain⟨rl,hrl⟩:∃ d,d=r.length:=⟨_,rfl⟩;rw [<- hrl] at hshr HR1b q1 ⊢;have HRLE:=sH hrl;clear hnx hdn hrl;go_wp2_with (at_builtin; go_must (refine Q05 _ rfl (.tmp 18) (.tmp 20) 29 rfl w.heap.size 3 i0 _ 1 8 Tryz.underlying29 hi0 hz0 hz1 hz2 rfl (by omega) _ dn ((nI done).map vn) rfl HW.out (w2.heap.size+1) (some ⟨w2.heap.size,0,none⟩) 1 1 [.int .i64 (k:Int)] rfl HR3.out ?c1 ?c2 ?c3 ?c4 ?_))
  case c1=>intro z hz; rw [List.mem_singleton] at hz; subst hz; rfl
  case c2=>unfold maxLen; omega
  case c3=>omega
  case c4=>simp; omega
  intro v6 w6 hown6 hg6 hor6;have hps6:PsSt w xs n0 A1 rl c1 v6 r (done++[k]) w6:=by
   have hge:∀ b,(Value.slice Al dn cl).ownBlock=some b->w.heap.size<=b:=fun b hb=>(Q0f HW.out hb).1
   have hal:=Q02 w2 (.cells #[.int .i64 (k:Int)] 3);have hsz2:=HL2.out.size;refine⟨?_,q1,?_,?_,?_,?_,?_⟩
   ·have hob:=HOB.out.below hal;have hk:=hob.keep (w':=w6) fun b hb=>by
     obtain⟨cur,hcur⟩:=Q4Z hob hb;exact hg6.block b (hob.lt hb) (fun e=>Q09 HW.out hcur (by decide) e.symm)
    rw [HRLE.out];exact hk.reads.2.2.2.1
   ·unfold OwnN;rw [Q2J,zI,<- HDN.out];have e2:nI (done++[k])=nI done++[(k:Int)]:=by simp [nI]
    rw [e2,zL];exact hown6
   ·rw [zI,<- HDN.out];simp only [List.length_cons,List.length_nil];omega
   ·rw [HPS.out.num,HNX.out];cases Q28 r with
    | none=>rfl
    | some l=>simp
   ·intro x hx;rcases List.mem_append.1 hx with hx | hx
    ·exact HPS.out.max x hx
    rw [List.mem_singleton] at hx; subst hx; exact HTM.out
   exact Q0i (HL2.out.trans (hal.mono hsz2)) (by simp; omega) hg6 (fun b hb=>hge b hb)
  have HPS6:=sH hps6;clear hown6 hg6 hor6 hps6;go_wp2_with fail
  go_roundw
  case rel=>exact⟨_,_,_,_,_,rfl,HPS6.out⟩
  case measure=>simp; omega
 have heb:((e:Int) != 0)=true:=by simpa using he
 have ho:o=none:=by rw [HO.out,HPS.out.num,HBADN.out he]; rfl
 subst ho;go_wp2_with fail
 go_ret2
 exact⟨_,rfl,OwnN.nil_ _ _,(fun l hl=>by cases hl),HL2.out⟩
theorem Q25 {P:Program} {fn:Func} {p u v:Tmp} {ty:TypeId} (h:fn.results=#[.cell p ty,.tmp u,.tmp v]) (tmps:Array zC) (w:zB) (g n:Nat) (t:TypeId) (cs:Array zC) (d:TypeDesc)
 (hp:tmps.getD p undef=.pointer (some ⟨g,0,none⟩)) (hB:Blk w g t cs)
 (hu:P.underlying ty=some d) (hd:(match d with | .struct _ | .array _ _=>true | _=>false)=true) (hi:(P.info? ty).map (·.size)=some n) (hn:cs.size=n) :
 (results fn tmps).run P w=.ok (.tuple #[.agg cs,tmps.getD u undef,tmps.getD v undef]) w:=by
 have hp':tmps[p]?.getD undef=.pointer (some ⟨g,0,none⟩):=by simpa using hp
 simp [results,h,hp',asAddr,Q16 w g 0 n t ty cs cs d hB hu hd hi hn (fun j _=>by rw [Nat.zero_add])]
def QaL (w:zB) (B:Nat) (u:zC) (nl:List Int) (o:Option ((Int×List Int)×List Int)) (e:Ending) (w':zB):Prop :=
 zE w.heap.size w w'/\(o=none->e=.returned (.tuple #[.agg (crC 0 none 0 0),.slice none 0 0,.bool false])) /\
 ∀ q,o=some q->∃ (f:Nat) (A1:Option zA) (c1:Nat) (A2:Option zA) (c2:Nat),q.1.1=(f:Int)/\f<=2/\e=.returned (.tuple #[.agg (crC f A1 q.1.2.length c1),.slice A2 q.2.length c2,.bool true])/\(∀ W,OwnN W B u nl->Q04 W W.heap.size 1 A1 q.1.2.length (q.1.2.map vn))/\(∀ W,OwnN W B u nl->Q04 W W.heap.size 1 A2 q.2.length (q.2.map vn))/\q.2.length<=c2
theorem Q8I (f:Int) (A:Option zA) (n c:Nat) (f':Int) (A':Option zA) (n' c':Nat):spl (crC f A n c) 0 (crC f' A' n' c').toList=crC f' A' n' c':=rfl
theorem Q6f {w:zB} {B:Nat} {v:zC} {l:List Nat} (h:OwnN w B v (nI l)) (h0:0<l.length):∃ g c,v=.slice (some ⟨g,0,none⟩) l.length c/\B<=g/\l.length<=c/\Q04 w w.heap.size 1 (some ⟨g,0,none⟩) l.length ((nI l).map vn)/\∀ j,j<l.length->w.cell? ⟨g,j,none⟩=some (.int .i64 ((l.getD j 0:Nat):Int)):=by
 obtain⟨Al,cl,hlv,q1,_,q3,q4⟩:=Q0e h;rw [Q2J] at hlv q1 q3;rcases h.2 with⟨hv,h0'⟩ | ⟨g,cap,cur,hv,hg,_⟩
 ·rw [Q2J] at h0'; omega
 rw [Q2J] at hv;rw [hv] at hlv;injection hlv with e1 e2 e3
 subst e3;refine⟨g,cap,hv,hg,q1,e1▸q3,fun j hj=>?_⟩;obtain⟨ad,hA,_,hc⟩:=(e1▸q3:Q04 w w.heap.size 1 (some ⟨g,0,none⟩) l.length ((nI l).map vn)).2 h0;injection hA with hA
 subst hA;have:=hc j (.int .i64 ((l.getD j 0:Nat):Int)) (by unfold nI;rw [List.getElem?_map,List.getElem?_map,zD hj,zK,zD hj]; rfl)
 rw [Q0R,Nat.zero_add] at this;exact this
theorem Q4u {l:List Nat} (h:badF l):Q2i l=none:=if_pos h
theorem Q65 (v:zC) (l:List Nat) (w:zB) (B:Nat) (h:OwnN w B v (nI l)) (hl:l.length<=1000000000000) (hm:∀ x,x∈l->x<=maxN) :
 Calls zG 69 #[v] w (QaL w B v (nI l) (Q2i l)):=by
 have hX:=Q02 w (.cells (crC 0 none 0 0) 69);have hk0:Blk (w.alloc (.cells (crC 0 none 0 0) 69)) w.heap.size 69 (crC 0 none 0 0):=Blk.newAt rfl;have hZ:crC 0 none 0 0=#[.int .i64 0,.slice none 0 0]:=rfl;have HX:=sH hX;have HK:=sH hk0;obtain⟨o,ho⟩:∃ o,o=Q2i l:=⟨_,rfl⟩;have HO:=sH ho;obtain⟨g2,hg2⟩:∃ g,g=w.heap.size:=⟨_,rfl⟩;have hgw:w.heap.size<=g2:=by omega
 obtain⟨n,hn⟩:∃ n,n=l.length:=⟨_,rfl⟩;have HN:=sH hn;rw [<- ho];by_cases h2:n<2
 ·have h2b:(n:Int)<2:=by omega
  have hon:o=none:=by rw [HO.out,Q4u (.inl (by omega))]
  obtain⟨A,c,hv,_⟩:=Q0e h;rw [Q2J,<- hn] at hv;subst hv;subst hon;clear h hm hX hk0 ho hn;go_enter Tryz.func69,Tryz.ntmps69
  go_upto_region 1 with fail
  rw [<- hZ];generalize zR w _=w1 at HX HK ⊢;rw [<- hg2] at HK ⊢;have hlw:=HK.out.lt;clear hg2 hZ;go_wp2_with (refine Q00 (o:=⟨none,_,_,_,_,_⟩) rfl 69 (.tmp 2) (.tmp 27) rfl g2 0 (crC 0 none 0 0) rfl rfl 69 _ HK.out (by kernel_rfl) (by simp [crC]) (by simp [crC,zN]) ?_; intro w9 hT9 hD9)
  refine bodyPost_ret (Q25 rfl _ _ g2 2 69 _ _ rfl hD9 Tryz.underlying69 rfl rfl rfl) rfl ⟨hT9.below HX.out hgw,fun _=>by rw [Q8I]; rfl,fun q hq=>by cases hq⟩
 have h2b:¬ (n:Int)<2:=by omega
 obtain⟨g,c,rfl,hgB,hcc,hrd,hcell⟩:=Q6f h (by omega);have c0:=hcell 0 (by omega);have c1:=hcell 1 (by omega);obtain⟨l0,hl0⟩:∃ k,k=l.getD 0 0:=⟨_,rfl⟩;obtain⟨l1,hl1⟩:∃ k,k=l.getD 1 0:=⟨_,rfl⟩;rw [<- hl0] at c0;rw [<- hl1] at c1;rw [<- hn] at hcc hrd ⊢;have hbd:badF l <-> (l0<1\/22<l0\/2<l1)\/n≠2+(3*l1+1)+2*(l0 - 1):=by unfold badF;rw [<- hl0,<- hl1,<- hn];omega
 have HBD:=sH hbd;have HRD:=sH (fun(W:zB) (hW:OwnN W B (.slice (some ⟨g,0,none⟩) n c) (nI l))=>(Q2B hW).2);have c0':=(hX.cell (p:=⟨g,0,none⟩) (by have:=(Q0f h (b:=g) (by rfl)).2; exact this)).trans c0;have c1':=(hX.cell (p:=⟨g,1,none⟩) (by have:=(Q0f h (b:=g) (by rfl)).2; exact this)).trans c1;have hgl:g<w.heap.size:=(Q0f h (b:=g) (by rfl)).2;have HL0:=sH hl0;have HL1:=sH hl1;have h1n:(1:Int)<(n:Int):=by omega
 have h0n:(0:Int)<(n:Int):=by omega
 have h1N:1<n:=by omega
 have h0N:0<n:=by omega
 clear h hm hX hk0 ho hn hbd hrd hcell c0 c1 hl0 hl1;go_enter Tryz.func69,Tryz.ntmps69
 go_upto_region 1 with fail
 rw [<- hZ];generalize zR w _=w1 at HX HK c0' c1' ⊢;rw [<- hg2] at HK ⊢;have hlw:=HK.out.lt;clear hg2 hZ
 go_cut [26] (fun s26 wx=>s26=.bool (decide (l0<1\/22<l0\/2<l1))/\wx=w1)
 case first =>
  by_cases b0:l0<1
  ·have b0b:(l0:Int)<1:=by omega
   go_wp2_with fail
   go_meet
   exact⟨by rw [decide_eq_true (.inl b0)],rfl⟩
  have b0b:¬ (l0:Int)<1:=by omega
  by_cases b1:22<l0
  ·have b1b:(22:Int)<(l0:Int):=by omega
   go_wp2_with fail
   go_meet
   exact⟨by rw [decide_eq_true (.inr (.inl b1))],rfl⟩
  have b1b:¬ (22:Int)<(l0:Int):=by omega
  by_cases b2:2<l1
  ·have b2b:(2:Int)<(l1:Int):=by omega
   go_wp2_with fail
   go_meet
   exact⟨by rw [decide_eq_true (.inr (.inr b2))],rfl⟩
  have b2b:¬ (2:Int)<(l1:Int):=by omega
  go_wp2_with fail
  go_meet
  exact⟨by rw [decide_eq_false (by omega)],rfl⟩
 obtain⟨rfl,rfl⟩:=hcut;by_cases hbad:l0<1\/22<l0\/2<l1
 ·have hon:o=none:=by rw [HO.out,Q4u (HBD.out.2 (.inl hbad))]
  rw [decide_eq_true hbad];subst hon;clear c0' c1';go_wp2_with (refine Q00 (o:=⟨none,_,_,_,_,_⟩) rfl 69 (.tmp 2) (.tmp 27) rfl g2 0 (crC 0 none 0 0) rfl rfl 69 _ HK.out (by kernel_rfl) (by simp [crC]) (by simp [crC,zN]) ?_; intro w9 hT9 hD9)
  refine bodyPost_ret (Q25 rfl _ _ g2 2 69 _ _ rfl hD9 Tryz.underlying69 rfl rfl rfl) rfl ⟨hT9.below HX.out hgw,fun _=>by rw [Q8I]; rfl,fun q hq=>by cases hq⟩
 rw [decide_eq_false hbad];by_cases hnn:n=2+(3*l1+1)+2*(l0 - 1)
 ·have hnnb:((n:Int) != 2+(3*(l1:Int)+1)+2*((l0:Int) - 1))=false:=by simp; omega
  have hgood:¬ badF l:=fun hb=>(HBD.out.1 hb).elim hbad (fun e=>e hnn)
  have HOG:=sH (show o=some ((((l1:Nat):Int),nI ((l.drop 2).take (3*l1+1))),nI (l.drop (2+(3*l1+1)))) from by rw [HO.out,HL1.out];exact if_neg hgood)
  obtain⟨k,hk⟩:∃ k,k=3*l1+1:=⟨_,rfl⟩;have hkI:(k:Int)=3*(l1:Int)+1:=by omega
  have HS1:=sH (fun(W:zB)=>Q6W (P:=zG) (t:=29) (e:=3) Tryz.underlying29 (by kernel_rfl) (some ⟨g,0,none⟩) n c 2 (2+k) 2 (2+(3*(l1:Int)+1)) rfl (by omega) (by omega) (by omega) W);have HS2:=sH (fun(W:zB)=>Q0G (P:=zG) (t:=29) (e:=3) Tryz.underlying29 (by kernel_rfl) (some ⟨g,0,none⟩) n c (2+k) (2+(3*(l1:Int)+1)) (by omega) (by omega) W);have hr1:=fun W hW=>(HRD.out W hW).sub (l:=2) (k:=2+k) (cap:=c) (by omega) (by omega) hcc
  have hr2:=fun W hW=>(HRD.out W hW).sub (l:=2+k) (k:=n) (cap:=c) (by omega) (zH _) hcc
  obtain⟨A1,hA1⟩:∃ A1,A1=(if c=2 then(some (⟨g,0,none⟩:zA)) else(some (⟨g,0,none⟩:zA)).map (·.add 2)):=⟨_,rfl⟩;obtain⟨A2,hA2⟩:∃ A2,A2=(if c=2+k then(some (⟨g,0,none⟩:zA)) else(some (⟨g,0,none⟩:zA)).map (·.add (2+k))):=⟨_,rfl⟩;simp only [Nat.mul_one] at hr1 hr2;rw [<- hA1] at HS1 hr1;rw [<- hA2] at HS2 hr2;have hk2:2+k - 2=k:=by omega
  obtain⟨m2,hm2⟩:∃ m2,m2=n - (2+k):=⟨_,rfl⟩;obtain⟨d2,hd2⟩:∃ d2,d2=c - (2+k):=⟨_,rfl⟩;have hmd:m2<=d2:=by omega
  rw [hk2] at HS1 hr1;rw [<- hm2] at HS2 hr2;rw [<- hd2] at HS2;have e1:(((nI l).map vn).drop 2).take k=(nI ((l.drop 2).take k)).map vn:=by unfold nI; simp only [List.map_drop,List.map_take]
  have e2:(((nI l).map vn).drop (2+k)).take m2=(nI (l.drop (2+k))).map vn:=by unfold nI;rw [zO (by simp only [zF,List.length_map]; rw [<- HN.out]; omega)];simp only [List.map_drop]
  rw [e1] at hr1;rw [e2] at hr2;have len1:(nI ((l.drop 2).take k)).length=k:=by rw [Q2J,List.length_take,zF,<- HN.out]; omega
  have len2:(nI (l.drop (2+k))).length=m2:=by rw [Q2J,zF,<- HN.out]; omega
  have HR1:=sH hr1;have HR2:=sH hr2;have HL1N:=sH len1;have HL2N:=sH len2;rw [<- hk] at HOG;have hl12:l1<=2:=by omega
  have hl01:1<=l0:=by omega
  have hwr:IntKind.i64.wrap (2+(3*(l1:Int)+1))=2+(3*(l1:Int)+1):=IntWalk.i64_in _ (by omega);have hl02:l0<=22:=by omega
  clear hnn hk hk2 hA1 hA2 hr1 hr2 e1 e2 len1 len2 hm2 hd2 hgood hbad;go_upto_region 6 with fail
  have hs1:=fun W=>HS1.out W
  have hs2:=fun W=>HS2.out W
  have k0:wc.cell? ⟨g2,0,none⟩=some (.int .i64 0):=HK.out.cell 0;have k1:wc.cell? ⟨g2,1,none⟩=some (.slice none 0 0):=HK.out.cell 1;have kf0:wc.frozen? ⟨g2,0,none⟩=false:=HK.out.frozen 0;have kf1:wc.frozen? ⟨g2,1,none⟩=false:=HK.out.frozen 1;have hB9:Blk ((wc.setCell ⟨g2,0,none⟩ (.int .i64 (l1:Int))).setCell ⟨g2,1,none⟩ (.slice A1 k (c - 2))).drew g2 69 (crC l1 A1 k (c - 2)):=((HK.out.set_ 0 (.int .i64 (l1:Int))).set_ 1 (.slice A1 k (c - 2))).drew;have hT9:=(Q06.setCell wc ⟨g2,0,none⟩ (.int .i64 (l1:Int))).trans (Q06.setCell (wc.setCell ⟨g2,0,none⟩ (.int .i64 (l1:Int))) ⟨g2,1,none⟩ (.slice A1 k (c - 2)));have hX9:zE w.heap.size w ((wc.setCell ⟨g2,0,none⟩ (.int .i64 (l1:Int))).setCell ⟨g2,1,none⟩ (.slice A1 k (c - 2))).drew:=by have h:=hT9.below HX.out hgw;exact⟨h.os,h.tape,h.output,h.size,h.block⟩
  have HB9:=sH hB9;have HX9:=sH hX9;clear hB9 hX9 hT9;go_region
  generalize World.drew _=w9 at HB9 HX9 ⊢;clear hs1 hs2 k0 k1 kf0 kf1 c0' c1';go_wp2_with fail
  refine bodyPost_ret (Q25 rfl _ _ g2 2 69 _ _ rfl HB9.out Tryz.underlying69 rfl rfl rfl) rfl ?_;have hbl:=HX9.out;refine⟨hbl,?_,fun q hq=>?_⟩
  ·intro e;rw [HOG.out] at e; cases e
  rw [HOG.out] at hq;obtain rfl:=zQ hq;refine⟨l1,A1,c - 2,A2,d2,rfl,hl12,?_,?_,?_,?_⟩
  ·simp only [HL1N.out,HL2N.out];rfl
  ·simp only [HL1N.out];exact fun W hW=>HR1.out W hW
  ·simp only [HL2N.out];exact fun W hW=>HR2.out W hW
  simp only [HL2N.out]; exact hmd
 have hon:o=none:=by rw [HO.out,Q4u (HBD.out.2 (.inr hnn))]
 have hnnb:((n:Int) != 2+(3*(l1:Int)+1)+2*((l0:Int) - 1))=true:=by simp; omega
 subst hon;go_wp2_with (refine Q00 (o:=⟨none,_,_,_,_,_⟩) rfl 69 (.tmp 2) (.tmp 44) rfl g2 0 (crC 0 none 0 0) rfl rfl 69 _ HK.out (by kernel_rfl) (by simp [crC]) (by simp [crC,zN]) ?_; intro w9 hT9 hD9)
 refine bodyPost_ret (Q25 rfl _ _ g2 2 69 _ _ rfl hD9 Tryz.underlying69 rfl rfl rfl) rfl ⟨hT9.below HX.out hgw,fun _=>by rw [Q8I]; rfl,fun q hq=>by cases hq⟩
def ToldPost (w:zB) (B:Nat) (u:zC) (nl:List Int) (o:Option (Nat×Ans)) (e:Ending) (w':zB):Prop :=
 zE w.heap.size w w'/\(o=none->∃ D:Array zC,e=.returned (.tuple #[.agg D,.bool false])/\D.size=5/\D.all (·.oneCell')=true) /\
 ∀ x,o=some x->∃ A c,e=.returned (.tuple #[.agg (lsC x.1 x.2 A c),.bool true])/\(∀ W,OwnN W B u nl->Q04 W W.heap.size 1 A x.2.nodes.length (x.2.nodes.map vn))/\x.2.nodes.length<=c/\c<=maxLen/\∀ a,0<x.2.nodes.length->A=some a->u.ownBlock=some a.block
theorem Q0X {l:List Nat} (h:badT l):Q34 l=none:=if_pos h
theorem Qa4 {l:List Nat} (h:¬ badT l):Q34 l=some (l.getD 0 0,⟨l.getD 1 0,[],l.getD 2 0,nI (l.drop 4)⟩):=if_neg h
theorem Q2F:(Tryz.prog.info? 81).map (·.size)=some Q0A.size:=by kernel_rfl
theorem Q0P {w wc:zB} {g:Nat} {t:TypeId} {a b c d e:zC} (h:Blk wc g t #[a,b,c,d,e]) (hX:zE w.heap.size w wc) (hg:w.heap.size<=g) (a' b' c' d' e':zC) (W:zB) (hW:W=(((((wc.setCell ⟨g,0,none⟩ a').setCell ⟨g,1,none⟩ b').setCell ⟨g,2,none⟩ c').setCell ⟨g,3,none⟩ d').setCell ⟨g,4,none⟩ e').drew) :
 Blk W g t #[a',b',c',d',e']/\zE w.heap.size w W/\∀ k,k≠g->W.heap[k]?=wc.heap[k]?:=by
 obtain⟨w1,e1⟩:∃ x,x=wc.setCell ⟨g,0,none⟩ a':=⟨_,rfl⟩;obtain⟨w2,e2⟩:∃ x,x=w1.setCell ⟨g,1,none⟩ b':=⟨_,rfl⟩;obtain⟨w3,e3⟩:∃ x,x=w2.setCell ⟨g,2,none⟩ c':=⟨_,rfl⟩;obtain⟨w4,e4⟩:∃ x,x=w3.setCell ⟨g,3,none⟩ d':=⟨_,rfl⟩;obtain⟨w5,e5⟩:∃ x,x=w4.setCell ⟨g,4,none⟩ e':=⟨_,rfl⟩;have h1:Blk w1 g t #[a',b,c,d,e]:=e1▸h.set_ 0 a';have h2:Blk w2 g t #[a',b',c,d,e]:=e2▸h1.set_ 1 b';have h3:Blk w3 g t #[a',b',c',d,e]:=e3▸h2.set_ 2 c';have h4:Blk w4 g t #[a',b',c',d',e]:=e4▸h3.set_ 3 d';have h5:Blk w5 g t #[a',b',c',d',e']:=e5▸h4.set_ 4 e';have t1:Q06 g wc w1:=e1▸Q06.setCell wc ⟨g,0,none⟩ a';have t2:Q06 g w1 w2:=e2▸Q06.setCell w1 ⟨g,1,none⟩ b';have t3:Q06 g w2 w3:=e3▸Q06.setCell w2 ⟨g,2,none⟩ c';have t4:Q06 g w3 w4:=e4▸Q06.setCell w3 ⟨g,3,none⟩ d';have t5:Q06 g w4 w5:=e5▸Q06.setCell w4 ⟨g,4,none⟩ e';have hT:=(((t1.trans t2).trans t3).trans t4).trans t5;have hb:=hT.below hX hg;rw [<- e1,<- e2,<- e3,<- e4,<- e5] at hW;subst hW;exact⟨h5.drew,⟨hb.os,hb.tape,hb.output,hb.size,hb.block⟩,fun k hk=>hT.block k hk⟩
theorem Q7K (v:zC) (l:List Nat) (w:zB) (B:Nat) (h:OwnN w B v (nI l)) (hl:l.length<=1000000000000) (hm:∀ x,x∈l->x<=maxN) :
 Calls zG 71 #[v] w (ToldPost w B v (nI l) (Q34 l)):=by
 have hX:=Q02 w (.cells Q0A 81);have hk0:Blk (w.alloc (.cells Q0A 81)) w.heap.size 81 Q0A:=Blk.newAt rfl;have hZ:Q0A=#[.int .i64 0,.int .i64 0,.slice none 0 0,.int .i64 0,.slice none 0 0]:=rfl;have HX:=sH hX;have HK:=sH hk0;obtain⟨o,ho⟩:∃ o,o=Q34 l:=⟨_,rfl⟩;have HO:=sH ho;obtain⟨g2,hg2⟩:∃ g,g=w.heap.size:=⟨_,rfl⟩;have hgw:w.heap.size<=g2:=by omega
 obtain⟨n,hn⟩:∃ n,n=l.length:=⟨_,rfl⟩;have HN:=sH hn;rw [<- ho];by_cases h4:n<4
 ·have h4b:(n:Int)<4:=by omega
  have hon:o=none:=by rw [HO.out,Q0X (.inl (by omega))]
  obtain⟨A,c,hv,_⟩:=Q0e h;rw [Q2J,<- hn] at hv;subst hv;subst hon;clear h hm hX hk0 ho hn;go_enter Tryz.func71,Tryz.ntmps71
  go_upto_region 1 with fail
  rw [<- hZ];generalize zR w _=w1 at HX HK ⊢;rw [<- hg2] at HK ⊢;have hlw:=HK.out.lt;clear hg2 hZ;go_wp2_with (refine Q00 (o:=⟨none,_,_,_,_,_⟩) rfl 81 (.tmp 2) (.tmp 24) rfl g2 0 Q0A rfl rfl 81 _ HK.out Q2F (by simp [Q0A]) (by simp [Q0A,zN]) ?_; intro w9 hT9 hD9)
  exact bodyPost_ret (Q03 rfl _ _ g2 5 81 _ _ rfl hD9 Tryz.underlying81 rfl rfl rfl) rfl ⟨hT9.below HX.out hgw,fun _=>⟨_,rfl,rfl,by simp [Q0A,spl,zN]⟩,fun q hq=>by cases hq⟩
 have h4b:¬ (n:Int)<4:=by omega
 obtain⟨g,c,rfl,hgB,hcc,hrd,hcell⟩:=Q6f h (by omega);have hcm:c<=maxLen:=by
  obtain⟨_,c',e,_,q,_⟩:=Q0e h;injection e with _ _ e3
  rw [e3]; exact q
 have hgl:g<w.heap.size:=(Q0f h (b:=g) (by rfl)).2;have c0:=(hX.cell (p:=⟨g,0,none⟩) hgl).trans (hcell 0 (by omega));have c1:=(hX.cell (p:=⟨g,1,none⟩) hgl).trans (hcell 1 (by omega));have c2:=(hX.cell (p:=⟨g,2,none⟩) hgl).trans (hcell 2 (by omega));have c3:=(hX.cell (p:=⟨g,3,none⟩) hgl).trans (hcell 3 (by omega));obtain⟨l0,hl0⟩:∃ k,k=l.getD 0 0:=⟨_,rfl⟩;obtain⟨l1,hl1⟩:∃ k,k=l.getD 1 0:=⟨_,rfl⟩;obtain⟨l2,hl2⟩:∃ k,k=l.getD 2 0:=⟨_,rfl⟩;obtain⟨l3,hl3⟩:∃ k,k=l.getD 3 0:=⟨_,rfl⟩;rw [<- hl0] at c0;rw [<- hl1] at c1;rw [<- hl2] at c2;rw [<- hl3] at c3;rw [<- hn] at hcc hrd ⊢;obtain⟨ns,hns⟩:∃ k,k=nI (l.drop 4):=⟨_,rfl⟩;have hbd:badT l <-> (l3+4≠n\/22<=l2)\/¬ (l1=0\/l1=5\/l1=180)\/(4<n/\Q2m ns=false)\/¬ (0<l0\/(l1=0/\l2=0/\n=4)):=by
  unfold badT;rw [<- hl0,<- hl1,<- hl2,<- hl3,<- hn,<- hns];constructor
  ·rintro (q | q | q | q | q | q)
   ·omega
   ·exact .inl (.inl q)
   ·exact .inl (.inr q)
   ·exact .inr (.inl q)
   ·exact .inr (.inr (.inl q))
   exact .inr (.inr (.inr q))
  rintro ((q | q) | q | q | q)
  ·exact .inr (.inl q)
  ·exact .inr (.inr (.inl q))
  ·exact .inr (.inr (.inr (.inl q)))
  ·exact .inr (.inr (.inr (.inr (.inl q))))
  exact .inr (.inr (.inr (.inr (.inr q))))
 have HBD:=sH hbd;have HGD:=sH (show ¬ badT l->o=some (l0,⟨l1,[],l2,ns⟩) from fun hb=>by rw [HO.out,Qa4 hb,<- hl0,<- hl1,<- hl2,<- hns]);have HRD:=sH (fun(W:zB) (hW:OwnN W B (.slice (some ⟨g,0,none⟩) n c) (nI l))=>(Q2B hW).2);have HRW:=sH (fun(W:zB) (hb:zE w.heap.size w W)=>(hrd.below hb).more hb.size);have hmn:∀ z,z∈ns->I64 z:=fun z hz=>by rw [hns] at hz;obtain⟨k,hk,rfl⟩:=List.mem_map.1 hz;have:=hm k (List.mem_of_mem_drop hk);unfold maxN at this;unfold I64; omega
 have HMN:=sH hmn;have b0:l0<=maxN:=by rw [hl0,zK,zD (by omega)]; exact hm _ (List.getElem_mem _)
 have b1:l1<=maxN:=by rw [hl1,zK,zD (by omega)]; exact hm _ (List.getElem_mem _)
 unfold maxN at b0 b1;have hn12:n<=1000000000000:=by omega
 have HNS:=sH hns;have h0n:(0:Int)<(n:Int):=by omega
 have h1n:(1:Int)<(n:Int):=by omega
 have h2n:(2:Int)<(n:Int):=by omega
 have h3n:(3:Int)<(n:Int):=by omega
 have h0N:0<n:=by omega
 have h1N:1<n:=by omega
 have h2N:2<n:=by omega
 have h3N:3<n:=by omega
 clear h hm hX hk0 ho hn hbd hrd hcell hl0 hl1 hl2 hl3 hmn hns;go_enter Tryz.func71,Tryz.ntmps71
 go_upto_region 1 with fail
 rw [<- hZ];generalize zR w _=w1 at HX HK c0 c1 c2 c3 ⊢;rw [<- hg2] at HK ⊢;have hlw:=HK.out.lt;have hX1:=HX.out.size;clear hg2 hZ
 go_cut [23] (fun s23 wx=>s23=.bool (decide (l3+4≠n\/22<=l2))/\wx=w1)
 case first =>
  by_cases b3:l3+4=n
  ·have b3b:((l3:Int) != (n:Int) - 4)=false:=by simp; omega
   by_cases b2:22<=l2
   ·have b2b:(22:Int)<=(l2:Int):=by omega
    go_wp2_with fail
    go_meet
    exact⟨by rw [decide_eq_true (.inr b2)],rfl⟩
   have b2b:¬ (22:Int)<=(l2:Int):=by omega
   go_wp2_with fail
   go_meet
   exact⟨by rw [decide_eq_false (by omega)],rfl⟩
  have b3b:((l3:Int) != (n:Int) - 4)=true:=by simp; omega
  go_wp2_with fail
  go_meet
  exact⟨by rw [decide_eq_true (.inl b3)],rfl⟩
 obtain⟨rfl,rfl⟩:=hcut;by_cases hb1:l3+4≠n\/22<=l2
 ·have hon:o=none:=by rw [HO.out,Q0X (HBD.out.2 (.inl hb1))]
  rw [decide_eq_true hb1];subst hon;clear c0 c1 c2 c3;go_wp2_with (refine Q00 (o:=⟨none,_,_,_,_,_⟩) rfl 81 (.tmp 2) (.tmp 24) rfl g2 0 Q0A rfl rfl 81 _ HK.out Q2F (by simp [Q0A]) (by simp [Q0A,zN]) ?_; intro w9 hT9 hD9)
  exact bodyPost_ret (Q03 rfl _ _ g2 5 81 _ _ rfl hD9 Tryz.underlying81 rfl rfl rfl) rfl ⟨hT9.below HX.out hgw,fun _=>⟨_,rfl,rfl,by simp [Q0A,spl,zN]⟩,fun q hq=>by cases hq⟩
 rw [decide_eq_false hb1];have hl22:l2<=21:=by omega
 by_cases hb2:l1=0\/l1=5\/l1=180
 ·have HS1:=sH (fun(W:zB)=>Q0G (P:=zG) (t:=29) (e:=3) Tryz.underlying29 (by kernel_rfl) (some ⟨g,0,none⟩) n c 4 4 rfl (by omega) W);have hr1:=fun W hW=>(HRD.out W hW).sub (l:=4) (k:=n) (cap:=c) (by omega) (zH _) hcc
  have hr2:=fun W hb=>(HRW.out W hb).sub (l:=4) (k:=n) (cap:=c) (by omega) (zH _) hcc
  obtain⟨A1,hA1⟩:∃ A1,A1=(if c=4 then(some (⟨g,0,none⟩:zA)) else(some (⟨g,0,none⟩:zA)).map (·.add 4)):=⟨_,rfl⟩;simp only [Nat.mul_one] at hr1 hr2;rw [<- hA1] at HS1 hr1 hr2;obtain⟨m4,hm4⟩:∃ m4,m4=n - 4:=⟨_,rfl⟩;obtain⟨d4,hd4⟩:∃ d4,d4=c - 4:=⟨_,rfl⟩;rw [<- hm4] at HS1 hr1 hr2;rw [<- hd4] at HS1;have e1:(((nI l).map vn).drop 4).take m4=ns.map vn:=by rw [HNS.out];unfold nI;rw [zO (by simp only [zF,List.length_map]; rw [<- HN.out]; omega)];simp only [List.map_drop]
  rw [e1] at hr1 hr2;have hlen:ns.length=m4:=by rw [HNS.out,Q2J,zF,<- HN.out]; omega
  have hA1b:∀ a,A1=some a->a.block=g:=fun a ha=>by
   rw [hA1] at ha;split at ha
   ·rw [<- zQ ha]
   rw [<- zQ ha]; exact Q0d _ _
  have HR1:=sH hr1;have HR2:=sH hr2;have HLEN:=sH hlen;have HA1:=sH hA1b;have hmd:m4<=d4:=by omega
  have hdm:d4<=maxLen:=by omega
  have hn4:n=4 <-> m4=0:=by omega
  have HN4:=sH hn4;have hm41:m4<=1000000000000:=by have:=HN.out; omega
  clear hA1 hr1 hr2 e1 hlen hA1b hm4 hd4 hn4;rcases hb2 with hl1 | hl1 | hl1
  ·have hl1b:((l1:Int) == 0)=true:=by simp [hl1]
   have HL1:=sH hl1;clear hl1;go_upto_region 9 with fail
   have hs1:=fun W=>HS1.out W
   have k0:wc.cell? ⟨g2,0,none⟩=some (.int .i64 0):=HK.out.cell 0;have k1:wc.cell? ⟨g2,1,none⟩=some (.int .i64 0):=HK.out.cell 1;have k2:wc.cell? ⟨g2,2,none⟩=some (.slice none 0 0):=HK.out.cell 2;have k3:wc.cell? ⟨g2,3,none⟩=some (.int .i64 0):=HK.out.cell 3;have k4:wc.cell? ⟨g2,4,none⟩=some (.slice none 0 0):=HK.out.cell 4;have kf0:wc.frozen? ⟨g2,0,none⟩=false:=HK.out.frozen 0;have kf1:wc.frozen? ⟨g2,1,none⟩=false:=HK.out.frozen 1;have kf2:wc.frozen? ⟨g2,2,none⟩=false:=HK.out.frozen 2;have kf3:wc.frozen? ⟨g2,3,none⟩=false:=HK.out.frozen 3;have kf4:wc.frozen? ⟨g2,4,none⟩=false:=HK.out.frozen 4;obtain⟨hB9,hX9,hk9⟩:=Q0P HK.out HX.out hgw (.int .i64 (l0:Int)) (.int .i64 (l1:Int)) (.slice none 0 0) (.int .i64 (l2:Int)) (.slice A1 m4 d4) _ rfl;have HBX:=sH hB9;have HXX:=sH hX9;have HKX:=sH hk9;clear hB9 hX9 hk9;have C1:=sH ((zM (a:=⟨g,1,none⟩) (HKX.out g (by omega))).trans c1);have C2:=sH ((zM (a:=⟨g,2,none⟩) (HKX.out g (by omega))).trans c2);go_region
   generalize World.drew _=w9 at HBX HXX HKX C1 C2 ⊢;clear hs1 k0 k1 k2 k3 k4 kf0 kf1 kf2 kf3 kf4 c0 c1 c2 c3 HKX;have hX9s:=HXX.out.size;have hl9:=HBX.out.lt;have k4:w9.cell? ⟨g2,4,none⟩=some (.slice A1 m4 d4):=HBX.out.cell 4;by_cases m0:m4=0
   ·subst m0;go_upto_region 13 with fail
    clear k4;by_cases hl0:0<l0
    ·have hl0I:(0:Int)<(l0:Int):=by omega
     have k0:w9.cell? ⟨g2,0,none⟩=some (.int .i64 (l0:Int)):=HBX.out.cell 0;have k1:w9.cell? ⟨g2,1,none⟩=some (.int .i64 (l1:Int)):=HBX.out.cell 1;have k2:w9.cell? ⟨g2,2,none⟩=some (.slice none 0 0):=HBX.out.cell 2;have k3:w9.cell? ⟨g2,3,none⟩=some (.int .i64 (l2:Int)):=HBX.out.cell 3;have k4:w9.cell? ⟨g2,4,none⟩=some (.slice A1 0 d4):=HBX.out.cell 4;have kf0:w9.frozen? ⟨g2,0,none⟩=false:=HBX.out.frozen 0;have kf1:w9.frozen? ⟨g2,1,none⟩=false:=HBX.out.frozen 1;have kf2:w9.frozen? ⟨g2,2,none⟩=false:=HBX.out.frozen 2;have kf3:w9.frozen? ⟨g2,3,none⟩=false:=HBX.out.frozen 3;have kf4:w9.frozen? ⟨g2,4,none⟩=false:=HBX.out.frozen 4;have c1:=C1.out;have c2:=C2.out;obtain⟨hB8,hX8,hk8⟩:=Q0P HBX.out HXX.out hgw (.int .i64 (l0:Int)) (.int .i64 (l1:Int)) (.slice none 0 0) (.int .i64 (l2:Int)) (.slice A1 0 d4) _ rfl;have HB8:=sH hB8;have HX8:=sH hX8;have HK8:=sH hk8;clear hB8 hX8 hk8;go_upto_region 13 with fail
     go_region
     generalize World.drew _=w8 at HB8 HX8 HK8 ⊢;clear k0 k1 k2 k3 k4 kf0 kf1 kf2 kf3 kf4 c1 c2;go_wp2_with fail
     refine bodyPost_ret (Q03 rfl _ _ g2 5 81 _ _ rfl HB8.out Tryz.underlying81 rfl rfl rfl) rfl ?_;have ho:o=some (l0,⟨l1,[],l2,ns⟩):=HGD.out (fun hb=>by
      have:=HBD.out.1 hb;rcases this with q | q | q | q
      ·exact hb1 q
      ·have:=HL1.out; omega
      ·exact absurd q.1 (by have:=HN4.out.2 (by simp); omega)
      exact q (.inl hl0))
     subst ho;have hbl:=HX8.out;refine⟨hbl,(fun q=>by cases q),fun x hx=>?_⟩;obtain rfl:=zQ hx;refine⟨A1,d4,?_,?_,?_,hdm,fun a h0 ha=>?_⟩
     ·show _=Ending.returned (.tuple #[.agg #[_,_,_,_,.slice A1 ns.length d4],.bool true]);rw [HLEN.out];rfl
     ·intro W hW;show Q04 W _ 1 A1 ns.length (ns.map vn);rw [HLEN.out];exact HR1.out W hW
     ·show ns.length<=d4;rw [HLEN.out]; exact hmd
     rw [HA1.out a ha]; rfl
    have hl0I:¬ (0:Int)<(l0:Int):=by omega
    by_cases hl2:l2=0
    ·have hl2b:((l2:Int) == 0)=true:=by simp [hl2]
     have HL2:=sH hl2;clear hl2;have k0:w9.cell? ⟨g2,0,none⟩=some (.int .i64 (l0:Int)):=HBX.out.cell 0;have k1:w9.cell? ⟨g2,1,none⟩=some (.int .i64 (l1:Int)):=HBX.out.cell 1;have k2:w9.cell? ⟨g2,2,none⟩=some (.slice none 0 0):=HBX.out.cell 2;have k3:w9.cell? ⟨g2,3,none⟩=some (.int .i64 (l2:Int)):=HBX.out.cell 3;have k4:w9.cell? ⟨g2,4,none⟩=some (.slice A1 0 d4):=HBX.out.cell 4;have kf0:w9.frozen? ⟨g2,0,none⟩=false:=HBX.out.frozen 0;have kf1:w9.frozen? ⟨g2,1,none⟩=false:=HBX.out.frozen 1;have kf2:w9.frozen? ⟨g2,2,none⟩=false:=HBX.out.frozen 2;have kf3:w9.frozen? ⟨g2,3,none⟩=false:=HBX.out.frozen 3;have kf4:w9.frozen? ⟨g2,4,none⟩=false:=HBX.out.frozen 4;have c1:=C1.out;have c2:=C2.out;obtain⟨hB8,hX8,hk8⟩:=Q0P HBX.out HXX.out hgw (.int .i64 (l0:Int)) (.int .i64 (l1:Int)) (.slice none 0 0) (.int .i64 (l2:Int)) (.slice A1 0 d4) _ rfl;have HB8:=sH hB8;have HX8:=sH hX8;have HK8:=sH hk8;clear hB8 hX8 hk8;go_upto_region 13 with fail
     go_region
     generalize World.drew _=w8 at HB8 HX8 HK8 ⊢;clear k0 k1 k2 k3 k4 kf0 kf1 kf2 kf3 kf4 c1 c2;go_wp2_with fail
     refine bodyPost_ret (Q03 rfl _ _ g2 5 81 _ _ rfl HB8.out Tryz.underlying81 rfl rfl rfl) rfl ?_;have ho:o=some (l0,⟨l1,[],l2,ns⟩):=HGD.out (fun hb=>by
      have:=HBD.out.1 hb;rcases this with q | q | q | q
      ·exact hb1 q
      ·have:=HL1.out; omega
      ·exact absurd q.1 (by have:=HN4.out.2 (by simp); omega)
      exact q (.inr ⟨HL1.out,HL2.out,HN4.out.2 (by simp)⟩))
     subst ho;have hbl:=HX8.out;refine⟨hbl,(fun q=>by cases q),fun x hx=>?_⟩;obtain rfl:=zQ hx;refine⟨A1,d4,?_,?_,?_,hdm,fun a h0 ha=>?_⟩
     ·show _=Ending.returned (.tuple #[.agg #[_,_,_,_,.slice A1 ns.length d4],.bool true]);rw [HLEN.out];rfl
     ·intro W hW;show Q04 W _ 1 A1 ns.length (ns.map vn);rw [HLEN.out];exact HR1.out W hW
     ·show ns.length<=d4;rw [HLEN.out]; exact hmd
     rw [HA1.out a ha]; rfl
    have hl2b:((l2:Int) == 0)=false:=by simp [hl2]
    have k0:w9.cell? ⟨g2,0,none⟩=some (.int .i64 (l0:Int)):=HBX.out.cell 0;have k1:w9.cell? ⟨g2,1,none⟩=some (.int .i64 (l1:Int)):=HBX.out.cell 1;have k2:w9.cell? ⟨g2,2,none⟩=some (.slice none 0 0):=HBX.out.cell 2;have k3:w9.cell? ⟨g2,3,none⟩=some (.int .i64 (l2:Int)):=HBX.out.cell 3;have k4:w9.cell? ⟨g2,4,none⟩=some (.slice A1 0 d4):=HBX.out.cell 4;have kf0:w9.frozen? ⟨g2,0,none⟩=false:=HBX.out.frozen 0;have kf1:w9.frozen? ⟨g2,1,none⟩=false:=HBX.out.frozen 1;have kf2:w9.frozen? ⟨g2,2,none⟩=false:=HBX.out.frozen 2;have kf3:w9.frozen? ⟨g2,3,none⟩=false:=HBX.out.frozen 3;have kf4:w9.frozen? ⟨g2,4,none⟩=false:=HBX.out.frozen 4;have c1:=C1.out;have c2:=C2.out;obtain⟨hB8,hX8,hk8⟩:=Q0P HBX.out HXX.out hgw (.int .i64 (l0:Int)) (.int .i64 (l1:Int)) (.slice none 0 0) (.int .i64 (l2:Int)) (.slice A1 0 d4) _ rfl;have HB8:=sH hB8;have HX8:=sH hX8;have HK8:=sH hk8;clear hB8 hX8 hk8;go_upto_region 13 with fail
    go_region
    generalize World.drew _=w8 at HB8 HX8 HK8 ⊢;clear k0 k1 k2 k3 k4 kf0 kf1 kf2 kf3 kf4 c1 c2;go_wp2_with fail
    refine bodyPost_ret (Q03 rfl _ _ g2 5 81 _ _ rfl HB8.out Tryz.underlying81 rfl rfl rfl) rfl ?_;have ho:o=none:=by rw [HO.out,Q0X (HBD.out.2 (.inr (.inr (.inr (fun q=>by omega)))))]
    subst ho;exact⟨HX8.out,fun _=>⟨_,rfl,rfl,by simp [zN]⟩,fun q hq=>by cases hq⟩
   have hm4I:(0:Int)<(m4:Int):=by omega
   have hm40:((m4:Int) == 0)=false:=by simp [m0]
   have HCK:=sH (Q3R (Q2k 1 ns) none 0 0 A1 m4 d4 w9 w9.heap.size ⟨Q04.none_,by simp,by simp,HR2.out w9 HXX.out,by omega,by omega,⟨by show I64 0; unfold I64; omega,by show I64 0; unfold I64; omega,by show I64 ((1:Nat):Int); unfold I64; omega,by show I64 0; unfold I64; omega,by show I64 5; unfold I64; omega,by show I64 0; unfold I64; omega,by show I64 0; unfold I64; omega,by show I64 0; unfold I64; omega,HMN.out⟩⟩ (zH _));rw [Q2X (by omega) (by omega)] at HCK;obtain⟨cb,hcb⟩:∃ b,b=Q2m ns:=⟨_,rfl⟩;rw [<- hcb] at HCK;have HCB:=sH hcb.symm;clear hcb;unfold Q2k Q0g at HCK;go_wp2_with fail
   refine HCK.out.mono ?_;rintro _ w10 ⟨rfl,hb10⟩;have HB9':=sH (HBX.out.below' hb10);have HX9':=sH (HXX.out.trans (hb10.mono hX9s));have C1':=sH ((hb10.cell (p:=⟨g,1,none⟩) (by show g<_; omega)).trans C1.out);have C2':=sH ((hb10.cell (p:=⟨g,2,none⟩) (by show g<_; omega)).trans C2.out);clear hb10 HCK HBX HXX C1 C2 k4
   rename Hid (Blk w10 g2 81 _)=>HBX
   rename Hid (zE w.heap.size w w10)=>HXX
   rename Hid (w10.cell? ⟨g,1,none⟩=_)=>C1
   rename Hid (w10.cell? ⟨g,2,none⟩=_)=>C2
   cases cb with
   | true =>
    simp only [if_true];go_upto_region 13 with fail
    by_cases hl0:0<l0
    ·have hl0I:(0:Int)<(l0:Int):=by omega
     have k0:w10.cell? ⟨g2,0,none⟩=some (.int .i64 (l0:Int)):=HBX.out.cell 0;have k1:w10.cell? ⟨g2,1,none⟩=some (.int .i64 (l1:Int)):=HBX.out.cell 1;have k2:w10.cell? ⟨g2,2,none⟩=some (.slice none 0 0):=HBX.out.cell 2;have k3:w10.cell? ⟨g2,3,none⟩=some (.int .i64 (l2:Int)):=HBX.out.cell 3;have k4:w10.cell? ⟨g2,4,none⟩=some (.slice A1 m4 d4):=HBX.out.cell 4;have kf0:w10.frozen? ⟨g2,0,none⟩=false:=HBX.out.frozen 0;have kf1:w10.frozen? ⟨g2,1,none⟩=false:=HBX.out.frozen 1;have kf2:w10.frozen? ⟨g2,2,none⟩=false:=HBX.out.frozen 2;have kf3:w10.frozen? ⟨g2,3,none⟩=false:=HBX.out.frozen 3;have kf4:w10.frozen? ⟨g2,4,none⟩=false:=HBX.out.frozen 4;have c1:=C1.out;have c2:=C2.out;obtain⟨hB8,hX8,hk8⟩:=Q0P HBX.out HXX.out hgw (.int .i64 (l0:Int)) (.int .i64 (l1:Int)) (.slice none 0 0) (.int .i64 (l2:Int)) (.slice A1 m4 d4) _ rfl;have HB8:=sH hB8;have HX8:=sH hX8;have HK8:=sH hk8;clear hB8 hX8 hk8;go_upto_region 13 with fail
     go_region
     generalize World.drew _=w8 at HB8 HX8 HK8 ⊢;clear k0 k1 k2 k3 k4 kf0 kf1 kf2 kf3 kf4 c1 c2;go_wp2_with fail
     refine bodyPost_ret (Q03 rfl _ _ g2 5 81 _ _ rfl HB8.out Tryz.underlying81 rfl rfl rfl) rfl ?_;have ho:o=some (l0,⟨l1,[],l2,ns⟩):=HGD.out (fun hb=>by
      have:=HBD.out.1 hb;rcases this with q | q | q | q
      ·exact hb1 q
      ·have:=HL1.out; omega
      ·rw [HCB.out] at q; exact absurd q.2 (by simp)
      exact q (.inl hl0))
     subst ho;have hbl:=HX8.out;refine⟨hbl,(fun q=>by cases q),fun x hx=>?_⟩;obtain rfl:=zQ hx;refine⟨A1,d4,?_,?_,?_,hdm,fun a h0 ha=>?_⟩
     ·show _=Ending.returned (.tuple #[.agg #[_,_,_,_,.slice A1 ns.length d4],.bool true]);rw [HLEN.out];rfl
     ·intro W hW;show Q04 W _ 1 A1 ns.length (ns.map vn);rw [HLEN.out];exact HR1.out W hW
     ·show ns.length<=d4;rw [HLEN.out]; exact hmd
     rw [HA1.out a ha]; rfl
    have hl0I:¬ (0:Int)<(l0:Int):=by omega
    by_cases hl2:l2=0
    ·have hl2b:((l2:Int) == 0)=true:=by simp [hl2]
     have HL2:=sH hl2;clear hl2;have k0:w10.cell? ⟨g2,0,none⟩=some (.int .i64 (l0:Int)):=HBX.out.cell 0;have k1:w10.cell? ⟨g2,1,none⟩=some (.int .i64 (l1:Int)):=HBX.out.cell 1;have k2:w10.cell? ⟨g2,2,none⟩=some (.slice none 0 0):=HBX.out.cell 2;have k3:w10.cell? ⟨g2,3,none⟩=some (.int .i64 (l2:Int)):=HBX.out.cell 3;have k4:w10.cell? ⟨g2,4,none⟩=some (.slice A1 m4 d4):=HBX.out.cell 4;have kf0:w10.frozen? ⟨g2,0,none⟩=false:=HBX.out.frozen 0;have kf1:w10.frozen? ⟨g2,1,none⟩=false:=HBX.out.frozen 1;have kf2:w10.frozen? ⟨g2,2,none⟩=false:=HBX.out.frozen 2;have kf3:w10.frozen? ⟨g2,3,none⟩=false:=HBX.out.frozen 3;have kf4:w10.frozen? ⟨g2,4,none⟩=false:=HBX.out.frozen 4;have c1:=C1.out;have c2:=C2.out;obtain⟨hB8,hX8,hk8⟩:=Q0P HBX.out HXX.out hgw (.int .i64 (l0:Int)) (.int .i64 (l1:Int)) (.slice none 0 0) (.int .i64 (l2:Int)) (.slice A1 m4 d4) _ rfl;have HB8:=sH hB8;have HX8:=sH hX8;have HK8:=sH hk8;clear hB8 hX8 hk8;go_upto_region 13 with fail
     go_region
     generalize World.drew _=w8 at HB8 HX8 HK8 ⊢;clear k0 k1 k2 k3 k4 kf0 kf1 kf2 kf3 kf4 c1 c2;go_wp2_with fail
     refine bodyPost_ret (Q03 rfl _ _ g2 5 81 _ _ rfl HB8.out Tryz.underlying81 rfl rfl rfl) rfl ?_;have ho:o=none:=by rw [HO.out,Q0X (HBD.out.2 (.inr (.inr (.inr (fun q=>by have:=HN4.out; omega)))))]
     subst ho;exact⟨HX8.out,fun _=>⟨_,rfl,rfl,by simp [zN]⟩,fun q hq=>by cases hq⟩
    have hl2b:((l2:Int) == 0)=false:=by simp [hl2]
    have k0:w10.cell? ⟨g2,0,none⟩=some (.int .i64 (l0:Int)):=HBX.out.cell 0;have k1:w10.cell? ⟨g2,1,none⟩=some (.int .i64 (l1:Int)):=HBX.out.cell 1;have k2:w10.cell? ⟨g2,2,none⟩=some (.slice none 0 0):=HBX.out.cell 2;have k3:w10.cell? ⟨g2,3,none⟩=some (.int .i64 (l2:Int)):=HBX.out.cell 3;have k4:w10.cell? ⟨g2,4,none⟩=some (.slice A1 m4 d4):=HBX.out.cell 4;have kf0:w10.frozen? ⟨g2,0,none⟩=false:=HBX.out.frozen 0;have kf1:w10.frozen? ⟨g2,1,none⟩=false:=HBX.out.frozen 1;have kf2:w10.frozen? ⟨g2,2,none⟩=false:=HBX.out.frozen 2;have kf3:w10.frozen? ⟨g2,3,none⟩=false:=HBX.out.frozen 3;have kf4:w10.frozen? ⟨g2,4,none⟩=false:=HBX.out.frozen 4;have c1:=C1.out;have c2:=C2.out;obtain⟨hB8,hX8,hk8⟩:=Q0P HBX.out HXX.out hgw (.int .i64 (l0:Int)) (.int .i64 (l1:Int)) (.slice none 0 0) (.int .i64 (l2:Int)) (.slice A1 m4 d4) _ rfl;have HB8:=sH hB8;have HX8:=sH hX8;have HK8:=sH hk8;clear hB8 hX8 hk8;go_upto_region 13 with fail
    go_region
    generalize World.drew _=w8 at HB8 HX8 HK8 ⊢;clear k0 k1 k2 k3 k4 kf0 kf1 kf2 kf3 kf4 c1 c2;go_wp2_with fail
    refine bodyPost_ret (Q03 rfl _ _ g2 5 81 _ _ rfl HB8.out Tryz.underlying81 rfl rfl rfl) rfl ?_;have ho:o=none:=by rw [HO.out,Q0X (HBD.out.2 (.inr (.inr (.inr (fun q=>by omega)))))]
    subst ho;exact⟨HX8.out,fun _=>⟨_,rfl,rfl,by simp [zN]⟩,fun q hq=>by cases hq⟩
   | false =>
    have ho:o=none:=by rw [HO.out,Q0X (HBD.out.2 (.inr (.inr (.inl ⟨by have:=HN4.out; omega,HCB.out⟩))))]
    subst ho;simp only [zP,if_false];go_wp2_with (refine Q00 (o:=⟨none,_,_,_,_,_⟩) rfl 81 (.tmp 2) (.tmp 57) rfl g2 0 Q0A rfl rfl 81 _ HBX.out Q2F (by simp [Q0A]) (by simp [Q0A,zN]) ?_; intro w11 hT9 hD9)
    exact bodyPost_ret (Q03 rfl _ _ g2 5 81 _ _ rfl hD9 Tryz.underlying81 rfl rfl rfl) rfl ⟨hT9.below HXX.out hgw,fun _=>⟨_,rfl,rfl,by simp [Q0A,spl,zN]⟩,fun q hq=>by cases hq⟩
  ·have hl1b:((l1:Int) == 5)=true:=by simp [hl1]
   have hl1b0:((l1:Int) == 0)=false:=by simp [hl1]
   have HL1:=sH hl1;clear hl1;go_upto_region 9 with fail
   have hs1:=fun W=>HS1.out W
   have k0:wc.cell? ⟨g2,0,none⟩=some (.int .i64 0):=HK.out.cell 0;have k1:wc.cell? ⟨g2,1,none⟩=some (.int .i64 0):=HK.out.cell 1;have k2:wc.cell? ⟨g2,2,none⟩=some (.slice none 0 0):=HK.out.cell 2;have k3:wc.cell? ⟨g2,3,none⟩=some (.int .i64 0):=HK.out.cell 3;have k4:wc.cell? ⟨g2,4,none⟩=some (.slice none 0 0):=HK.out.cell 4;have kf0:wc.frozen? ⟨g2,0,none⟩=false:=HK.out.frozen 0;have kf1:wc.frozen? ⟨g2,1,none⟩=false:=HK.out.frozen 1;have kf2:wc.frozen? ⟨g2,2,none⟩=false:=HK.out.frozen 2;have kf3:wc.frozen? ⟨g2,3,none⟩=false:=HK.out.frozen 3;have kf4:wc.frozen? ⟨g2,4,none⟩=false:=HK.out.frozen 4;obtain⟨hB9,hX9,hk9⟩:=Q0P HK.out HX.out hgw (.int .i64 (l0:Int)) (.int .i64 (l1:Int)) (.slice none 0 0) (.int .i64 (l2:Int)) (.slice A1 m4 d4) _ rfl;have HBX:=sH hB9;have HXX:=sH hX9;have HKX:=sH hk9;clear hB9 hX9 hk9;have C1:=sH ((zM (a:=⟨g,1,none⟩) (HKX.out g (by omega))).trans c1);have C2:=sH ((zM (a:=⟨g,2,none⟩) (HKX.out g (by omega))).trans c2);go_region
   generalize World.drew _=w9 at HBX HXX HKX C1 C2 ⊢;clear hs1 k0 k1 k2 k3 k4 kf0 kf1 kf2 kf3 kf4 c0 c1 c2 c3 HKX;have hX9s:=HXX.out.size;have hl9:=HBX.out.lt;have k4:w9.cell? ⟨g2,4,none⟩=some (.slice A1 m4 d4):=HBX.out.cell 4;by_cases m0:m4=0
   ·subst m0;go_upto_region 13 with fail
    clear k4;by_cases hl0:0<l0
    ·have hl0I:(0:Int)<(l0:Int):=by omega
     have k0:w9.cell? ⟨g2,0,none⟩=some (.int .i64 (l0:Int)):=HBX.out.cell 0;have k1:w9.cell? ⟨g2,1,none⟩=some (.int .i64 (l1:Int)):=HBX.out.cell 1;have k2:w9.cell? ⟨g2,2,none⟩=some (.slice none 0 0):=HBX.out.cell 2;have k3:w9.cell? ⟨g2,3,none⟩=some (.int .i64 (l2:Int)):=HBX.out.cell 3;have k4:w9.cell? ⟨g2,4,none⟩=some (.slice A1 0 d4):=HBX.out.cell 4;have kf0:w9.frozen? ⟨g2,0,none⟩=false:=HBX.out.frozen 0;have kf1:w9.frozen? ⟨g2,1,none⟩=false:=HBX.out.frozen 1;have kf2:w9.frozen? ⟨g2,2,none⟩=false:=HBX.out.frozen 2;have kf3:w9.frozen? ⟨g2,3,none⟩=false:=HBX.out.frozen 3;have kf4:w9.frozen? ⟨g2,4,none⟩=false:=HBX.out.frozen 4;have c1:=C1.out;have c2:=C2.out;obtain⟨hB8,hX8,hk8⟩:=Q0P HBX.out HXX.out hgw (.int .i64 (l0:Int)) (.int .i64 (l1:Int)) (.slice none 0 0) (.int .i64 (l2:Int)) (.slice A1 0 d4) _ rfl;have HB8:=sH hB8;have HX8:=sH hX8;have HK8:=sH hk8;clear hB8 hX8 hk8;go_upto_region 13 with fail
     go_region
     generalize World.drew _=w8 at HB8 HX8 HK8 ⊢;clear k0 k1 k2 k3 k4 kf0 kf1 kf2 kf3 kf4 c1 c2;go_wp2_with fail
     refine bodyPost_ret (Q03 rfl _ _ g2 5 81 _ _ rfl HB8.out Tryz.underlying81 rfl rfl rfl) rfl ?_;have ho:o=some (l0,⟨l1,[],l2,ns⟩):=HGD.out (fun hb=>by
      have:=HBD.out.1 hb;rcases this with q | q | q | q
      ·exact hb1 q
      ·have:=HL1.out; omega
      ·exact absurd q.1 (by have:=HN4.out.2 (by simp); omega)
      exact q (.inl hl0))
     subst ho;have hbl:=HX8.out;refine⟨hbl,(fun q=>by cases q),fun x hx=>?_⟩;obtain rfl:=zQ hx;refine⟨A1,d4,?_,?_,?_,hdm,fun a h0 ha=>?_⟩
     ·show _=Ending.returned (.tuple #[.agg #[_,_,_,_,.slice A1 ns.length d4],.bool true]);rw [HLEN.out];rfl
     ·intro W hW;show Q04 W _ 1 A1 ns.length (ns.map vn);rw [HLEN.out];exact HR1.out W hW
     ·show ns.length<=d4;rw [HLEN.out]; exact hmd
     rw [HA1.out a ha]; rfl
    have hl0I:¬ (0:Int)<(l0:Int):=by omega
    have k0:w9.cell? ⟨g2,0,none⟩=some (.int .i64 (l0:Int)):=HBX.out.cell 0;have k1:w9.cell? ⟨g2,1,none⟩=some (.int .i64 (l1:Int)):=HBX.out.cell 1;have k2:w9.cell? ⟨g2,2,none⟩=some (.slice none 0 0):=HBX.out.cell 2;have k3:w9.cell? ⟨g2,3,none⟩=some (.int .i64 (l2:Int)):=HBX.out.cell 3;have k4:w9.cell? ⟨g2,4,none⟩=some (.slice A1 0 d4):=HBX.out.cell 4;have kf0:w9.frozen? ⟨g2,0,none⟩=false:=HBX.out.frozen 0;have kf1:w9.frozen? ⟨g2,1,none⟩=false:=HBX.out.frozen 1;have kf2:w9.frozen? ⟨g2,2,none⟩=false:=HBX.out.frozen 2;have kf3:w9.frozen? ⟨g2,3,none⟩=false:=HBX.out.frozen 3;have kf4:w9.frozen? ⟨g2,4,none⟩=false:=HBX.out.frozen 4;have c1:=C1.out;have c2:=C2.out;obtain⟨hB8,hX8,hk8⟩:=Q0P HBX.out HXX.out hgw (.int .i64 (l0:Int)) (.int .i64 (l1:Int)) (.slice none 0 0) (.int .i64 (l2:Int)) (.slice A1 0 d4) _ rfl;have HB8:=sH hB8;have HX8:=sH hX8;have HK8:=sH hk8;clear hB8 hX8 hk8;go_upto_region 13 with fail
    go_region
    generalize World.drew _=w8 at HB8 HX8 HK8 ⊢;clear k0 k1 k2 k3 k4 kf0 kf1 kf2 kf3 kf4 c1 c2;go_wp2_with fail
    refine bodyPost_ret (Q03 rfl _ _ g2 5 81 _ _ rfl HB8.out Tryz.underlying81 rfl rfl rfl) rfl ?_;have ho:o=none:=by rw [HO.out,Q0X (HBD.out.2 (.inr (.inr (.inr (fun q=>by have:=HL1.out; omega)))))]
    subst ho;exact⟨HX8.out,fun _=>⟨_,rfl,rfl,by simp [zN]⟩,fun q hq=>by cases hq⟩
   have hm4I:(0:Int)<(m4:Int):=by omega
   have hm40:((m4:Int) == 0)=false:=by simp [m0]
   have HCK:=sH (Q3R (Q2k 1 ns) none 0 0 A1 m4 d4 w9 w9.heap.size ⟨Q04.none_,by simp,by simp,HR2.out w9 HXX.out,by omega,by omega,⟨by show I64 0; unfold I64; omega,by show I64 0; unfold I64; omega,by show I64 ((1:Nat):Int); unfold I64; omega,by show I64 0; unfold I64; omega,by show I64 5; unfold I64; omega,by show I64 0; unfold I64; omega,by show I64 0; unfold I64; omega,by show I64 0; unfold I64; omega,HMN.out⟩⟩ (zH _));rw [Q2X (by omega) (by omega)] at HCK;obtain⟨cb,hcb⟩:∃ b,b=Q2m ns:=⟨_,rfl⟩;rw [<- hcb] at HCK;have HCB:=sH hcb.symm;clear hcb;unfold Q2k Q0g at HCK;go_wp2_with fail
   refine HCK.out.mono ?_;rintro _ w10 ⟨rfl,hb10⟩;have HB9':=sH (HBX.out.below' hb10);have HX9':=sH (HXX.out.trans (hb10.mono hX9s));have C1':=sH ((hb10.cell (p:=⟨g,1,none⟩) (by show g<_; omega)).trans C1.out);have C2':=sH ((hb10.cell (p:=⟨g,2,none⟩) (by show g<_; omega)).trans C2.out);clear hb10 HCK HBX HXX C1 C2 k4
   rename Hid (Blk w10 g2 81 _)=>HBX
   rename Hid (zE w.heap.size w w10)=>HXX
   rename Hid (w10.cell? ⟨g,1,none⟩=_)=>C1
   rename Hid (w10.cell? ⟨g,2,none⟩=_)=>C2
   cases cb with
   | true =>
    simp only [if_true];go_upto_region 13 with fail
    by_cases hl0:0<l0
    ·have hl0I:(0:Int)<(l0:Int):=by omega
     have k0:w10.cell? ⟨g2,0,none⟩=some (.int .i64 (l0:Int)):=HBX.out.cell 0;have k1:w10.cell? ⟨g2,1,none⟩=some (.int .i64 (l1:Int)):=HBX.out.cell 1;have k2:w10.cell? ⟨g2,2,none⟩=some (.slice none 0 0):=HBX.out.cell 2;have k3:w10.cell? ⟨g2,3,none⟩=some (.int .i64 (l2:Int)):=HBX.out.cell 3;have k4:w10.cell? ⟨g2,4,none⟩=some (.slice A1 m4 d4):=HBX.out.cell 4;have kf0:w10.frozen? ⟨g2,0,none⟩=false:=HBX.out.frozen 0;have kf1:w10.frozen? ⟨g2,1,none⟩=false:=HBX.out.frozen 1;have kf2:w10.frozen? ⟨g2,2,none⟩=false:=HBX.out.frozen 2;have kf3:w10.frozen? ⟨g2,3,none⟩=false:=HBX.out.frozen 3;have kf4:w10.frozen? ⟨g2,4,none⟩=false:=HBX.out.frozen 4;have c1:=C1.out;have c2:=C2.out;obtain⟨hB8,hX8,hk8⟩:=Q0P HBX.out HXX.out hgw (.int .i64 (l0:Int)) (.int .i64 (l1:Int)) (.slice none 0 0) (.int .i64 (l2:Int)) (.slice A1 m4 d4) _ rfl;have HB8:=sH hB8;have HX8:=sH hX8;have HK8:=sH hk8;clear hB8 hX8 hk8;go_upto_region 13 with fail
     go_region
     generalize World.drew _=w8 at HB8 HX8 HK8 ⊢;clear k0 k1 k2 k3 k4 kf0 kf1 kf2 kf3 kf4 c1 c2;go_wp2_with fail
     refine bodyPost_ret (Q03 rfl _ _ g2 5 81 _ _ rfl HB8.out Tryz.underlying81 rfl rfl rfl) rfl ?_;have ho:o=some (l0,⟨l1,[],l2,ns⟩):=HGD.out (fun hb=>by
      have:=HBD.out.1 hb;rcases this with q | q | q | q
      ·exact hb1 q
      ·have:=HL1.out; omega
      ·rw [HCB.out] at q; exact absurd q.2 (by simp)
      exact q (.inl hl0))
     subst ho;have hbl:=HX8.out;refine⟨hbl,(fun q=>by cases q),fun x hx=>?_⟩;obtain rfl:=zQ hx;refine⟨A1,d4,?_,?_,?_,hdm,fun a h0 ha=>?_⟩
     ·show _=Ending.returned (.tuple #[.agg #[_,_,_,_,.slice A1 ns.length d4],.bool true]);rw [HLEN.out];rfl
     ·intro W hW;show Q04 W _ 1 A1 ns.length (ns.map vn);rw [HLEN.out];exact HR1.out W hW
     ·show ns.length<=d4;rw [HLEN.out]; exact hmd
     rw [HA1.out a ha]; rfl
    have hl0I:¬ (0:Int)<(l0:Int):=by omega
    have k0:w10.cell? ⟨g2,0,none⟩=some (.int .i64 (l0:Int)):=HBX.out.cell 0;have k1:w10.cell? ⟨g2,1,none⟩=some (.int .i64 (l1:Int)):=HBX.out.cell 1;have k2:w10.cell? ⟨g2,2,none⟩=some (.slice none 0 0):=HBX.out.cell 2;have k3:w10.cell? ⟨g2,3,none⟩=some (.int .i64 (l2:Int)):=HBX.out.cell 3;have k4:w10.cell? ⟨g2,4,none⟩=some (.slice A1 m4 d4):=HBX.out.cell 4;have kf0:w10.frozen? ⟨g2,0,none⟩=false:=HBX.out.frozen 0;have kf1:w10.frozen? ⟨g2,1,none⟩=false:=HBX.out.frozen 1;have kf2:w10.frozen? ⟨g2,2,none⟩=false:=HBX.out.frozen 2;have kf3:w10.frozen? ⟨g2,3,none⟩=false:=HBX.out.frozen 3;have kf4:w10.frozen? ⟨g2,4,none⟩=false:=HBX.out.frozen 4;have c1:=C1.out;have c2:=C2.out;obtain⟨hB8,hX8,hk8⟩:=Q0P HBX.out HXX.out hgw (.int .i64 (l0:Int)) (.int .i64 (l1:Int)) (.slice none 0 0) (.int .i64 (l2:Int)) (.slice A1 m4 d4) _ rfl;have HB8:=sH hB8;have HX8:=sH hX8;have HK8:=sH hk8;clear hB8 hX8 hk8;go_upto_region 13 with fail
    go_region
    generalize World.drew _=w8 at HB8 HX8 HK8 ⊢;clear k0 k1 k2 k3 k4 kf0 kf1 kf2 kf3 kf4 c1 c2;go_wp2_with fail
    refine bodyPost_ret (Q03 rfl _ _ g2 5 81 _ _ rfl HB8.out Tryz.underlying81 rfl rfl rfl) rfl ?_;have ho:o=none:=by rw [HO.out,Q0X (HBD.out.2 (.inr (.inr (.inr (fun q=>by have:=HL1.out; omega)))))]
    subst ho;exact⟨HX8.out,fun _=>⟨_,rfl,rfl,by simp [zN]⟩,fun q hq=>by cases hq⟩
   | false =>
    have ho:o=none:=by rw [HO.out,Q0X (HBD.out.2 (.inr (.inr (.inl ⟨by have:=HN4.out; omega,HCB.out⟩))))]
    subst ho;simp only [zP,if_false];go_wp2_with (refine Q00 (o:=⟨none,_,_,_,_,_⟩) rfl 81 (.tmp 2) (.tmp 57) rfl g2 0 Q0A rfl rfl 81 _ HBX.out Q2F (by simp [Q0A]) (by simp [Q0A,zN]) ?_; intro w11 hT9 hD9)
    exact bodyPost_ret (Q03 rfl _ _ g2 5 81 _ _ rfl hD9 Tryz.underlying81 rfl rfl rfl) rfl ⟨hT9.below HXX.out hgw,fun _=>⟨_,rfl,rfl,by simp [Q0A,spl,zN]⟩,fun q hq=>by cases hq⟩
  have hl1b:((l1:Int) == 180)=true:=by simp [hl1]
  have hl1b0:((l1:Int) == 0)=false:=by simp [hl1]
  have hl1b5:((l1:Int) == 5)=false:=by simp [hl1]
  have HL1:=sH hl1;clear hl1;go_upto_region 9 with fail
  have hs1:=fun W=>HS1.out W
  have k0:wc.cell? ⟨g2,0,none⟩=some (.int .i64 0):=HK.out.cell 0;have k1:wc.cell? ⟨g2,1,none⟩=some (.int .i64 0):=HK.out.cell 1;have k2:wc.cell? ⟨g2,2,none⟩=some (.slice none 0 0):=HK.out.cell 2;have k3:wc.cell? ⟨g2,3,none⟩=some (.int .i64 0):=HK.out.cell 3;have k4:wc.cell? ⟨g2,4,none⟩=some (.slice none 0 0):=HK.out.cell 4;have kf0:wc.frozen? ⟨g2,0,none⟩=false:=HK.out.frozen 0;have kf1:wc.frozen? ⟨g2,1,none⟩=false:=HK.out.frozen 1;have kf2:wc.frozen? ⟨g2,2,none⟩=false:=HK.out.frozen 2;have kf3:wc.frozen? ⟨g2,3,none⟩=false:=HK.out.frozen 3;have kf4:wc.frozen? ⟨g2,4,none⟩=false:=HK.out.frozen 4;obtain⟨hB9,hX9,hk9⟩:=Q0P HK.out HX.out hgw (.int .i64 (l0:Int)) (.int .i64 (l1:Int)) (.slice none 0 0) (.int .i64 (l2:Int)) (.slice A1 m4 d4) _ rfl;have HBX:=sH hB9;have HXX:=sH hX9;have HKX:=sH hk9;clear hB9 hX9 hk9;have C1:=sH ((zM (a:=⟨g,1,none⟩) (HKX.out g (by omega))).trans c1);have C2:=sH ((zM (a:=⟨g,2,none⟩) (HKX.out g (by omega))).trans c2);go_region
  generalize World.drew _=w9 at HBX HXX HKX C1 C2 ⊢;clear hs1 k0 k1 k2 k3 k4 kf0 kf1 kf2 kf3 kf4 c0 c1 c2 c3 HKX;have hX9s:=HXX.out.size;have hl9:=HBX.out.lt;have k4:w9.cell? ⟨g2,4,none⟩=some (.slice A1 m4 d4):=HBX.out.cell 4;by_cases m0:m4=0
  ·subst m0;go_upto_region 13 with fail
   clear k4;by_cases hl0:0<l0
   ·have hl0I:(0:Int)<(l0:Int):=by omega
    have k0:w9.cell? ⟨g2,0,none⟩=some (.int .i64 (l0:Int)):=HBX.out.cell 0;have k1:w9.cell? ⟨g2,1,none⟩=some (.int .i64 (l1:Int)):=HBX.out.cell 1;have k2:w9.cell? ⟨g2,2,none⟩=some (.slice none 0 0):=HBX.out.cell 2;have k3:w9.cell? ⟨g2,3,none⟩=some (.int .i64 (l2:Int)):=HBX.out.cell 3;have k4:w9.cell? ⟨g2,4,none⟩=some (.slice A1 0 d4):=HBX.out.cell 4;have kf0:w9.frozen? ⟨g2,0,none⟩=false:=HBX.out.frozen 0;have kf1:w9.frozen? ⟨g2,1,none⟩=false:=HBX.out.frozen 1;have kf2:w9.frozen? ⟨g2,2,none⟩=false:=HBX.out.frozen 2;have kf3:w9.frozen? ⟨g2,3,none⟩=false:=HBX.out.frozen 3;have kf4:w9.frozen? ⟨g2,4,none⟩=false:=HBX.out.frozen 4;have c1:=C1.out;have c2:=C2.out;obtain⟨hB8,hX8,hk8⟩:=Q0P HBX.out HXX.out hgw (.int .i64 (l0:Int)) (.int .i64 (l1:Int)) (.slice none 0 0) (.int .i64 (l2:Int)) (.slice A1 0 d4) _ rfl;have HB8:=sH hB8;have HX8:=sH hX8;have HK8:=sH hk8;clear hB8 hX8 hk8;go_upto_region 13 with fail
    go_region
    generalize World.drew _=w8 at HB8 HX8 HK8 ⊢;clear k0 k1 k2 k3 k4 kf0 kf1 kf2 kf3 kf4 c1 c2;go_wp2_with fail
    refine bodyPost_ret (Q03 rfl _ _ g2 5 81 _ _ rfl HB8.out Tryz.underlying81 rfl rfl rfl) rfl ?_;have ho:o=some (l0,⟨l1,[],l2,ns⟩):=HGD.out (fun hb=>by
     have:=HBD.out.1 hb;rcases this with q | q | q | q
     ·exact hb1 q
     ·have:=HL1.out; omega
     ·exact absurd q.1 (by have:=HN4.out.2 (by simp); omega)
     exact q (.inl hl0))
    subst ho;have hbl:=HX8.out;refine⟨hbl,(fun q=>by cases q),fun x hx=>?_⟩;obtain rfl:=zQ hx;refine⟨A1,d4,?_,?_,?_,hdm,fun a h0 ha=>?_⟩
    ·show _=Ending.returned (.tuple #[.agg #[_,_,_,_,.slice A1 ns.length d4],.bool true]);rw [HLEN.out];rfl
    ·intro W hW;show Q04 W _ 1 A1 ns.length (ns.map vn);rw [HLEN.out];exact HR1.out W hW
    ·show ns.length<=d4;rw [HLEN.out]; exact hmd
    rw [HA1.out a ha]; rfl
   have hl0I:¬ (0:Int)<(l0:Int):=by omega
   have k0:w9.cell? ⟨g2,0,none⟩=some (.int .i64 (l0:Int)):=HBX.out.cell 0;have k1:w9.cell? ⟨g2,1,none⟩=some (.int .i64 (l1:Int)):=HBX.out.cell 1;have k2:w9.cell? ⟨g2,2,none⟩=some (.slice none 0 0):=HBX.out.cell 2;have k3:w9.cell? ⟨g2,3,none⟩=some (.int .i64 (l2:Int)):=HBX.out.cell 3;have k4:w9.cell? ⟨g2,4,none⟩=some (.slice A1 0 d4):=HBX.out.cell 4;have kf0:w9.frozen? ⟨g2,0,none⟩=false:=HBX.out.frozen 0;have kf1:w9.frozen? ⟨g2,1,none⟩=false:=HBX.out.frozen 1;have kf2:w9.frozen? ⟨g2,2,none⟩=false:=HBX.out.frozen 2;have kf3:w9.frozen? ⟨g2,3,none⟩=false:=HBX.out.frozen 3;have kf4:w9.frozen? ⟨g2,4,none⟩=false:=HBX.out.frozen 4;have c1:=C1.out;have c2:=C2.out;obtain⟨hB8,hX8,hk8⟩:=Q0P HBX.out HXX.out hgw (.int .i64 (l0:Int)) (.int .i64 (l1:Int)) (.slice none 0 0) (.int .i64 (l2:Int)) (.slice A1 0 d4) _ rfl;have HB8:=sH hB8;have HX8:=sH hX8;have HK8:=sH hk8;clear hB8 hX8 hk8;go_upto_region 13 with fail
   go_region
   generalize World.drew _=w8 at HB8 HX8 HK8 ⊢;clear k0 k1 k2 k3 k4 kf0 kf1 kf2 kf3 kf4 c1 c2;go_wp2_with fail
   refine bodyPost_ret (Q03 rfl _ _ g2 5 81 _ _ rfl HB8.out Tryz.underlying81 rfl rfl rfl) rfl ?_;have ho:o=none:=by rw [HO.out,Q0X (HBD.out.2 (.inr (.inr (.inr (fun q=>by have:=HL1.out; omega)))))]
   subst ho;exact⟨HX8.out,fun _=>⟨_,rfl,rfl,by simp [zN]⟩,fun q hq=>by cases hq⟩
  have hm4I:(0:Int)<(m4:Int):=by omega
  have hm40:((m4:Int) == 0)=false:=by simp [m0]
  have HCK:=sH (Q3R (Q2k 1 ns) none 0 0 A1 m4 d4 w9 w9.heap.size ⟨Q04.none_,by simp,by simp,HR2.out w9 HXX.out,by omega,by omega,⟨by show I64 0; unfold I64; omega,by show I64 0; unfold I64; omega,by show I64 ((1:Nat):Int); unfold I64; omega,by show I64 0; unfold I64; omega,by show I64 5; unfold I64; omega,by show I64 0; unfold I64; omega,by show I64 0; unfold I64; omega,by show I64 0; unfold I64; omega,HMN.out⟩⟩ (zH _));rw [Q2X (by omega) (by omega)] at HCK;obtain⟨cb,hcb⟩:∃ b,b=Q2m ns:=⟨_,rfl⟩;rw [<- hcb] at HCK;have HCB:=sH hcb.symm;clear hcb;unfold Q2k Q0g at HCK;go_wp2_with fail
  refine HCK.out.mono ?_;rintro _ w10 ⟨rfl,hb10⟩;have HB9':=sH (HBX.out.below' hb10);have HX9':=sH (HXX.out.trans (hb10.mono hX9s));have C1':=sH ((hb10.cell (p:=⟨g,1,none⟩) (by show g<_; omega)).trans C1.out);have C2':=sH ((hb10.cell (p:=⟨g,2,none⟩) (by show g<_; omega)).trans C2.out);clear hb10 HCK HBX HXX C1 C2 k4
  rename Hid (Blk w10 g2 81 _)=>HBX
  rename Hid (zE w.heap.size w w10)=>HXX
  rename Hid (w10.cell? ⟨g,1,none⟩=_)=>C1
  rename Hid (w10.cell? ⟨g,2,none⟩=_)=>C2
  cases cb with
  | true =>
   simp only [if_true];go_upto_region 13 with fail
   by_cases hl0:0<l0
   ·have hl0I:(0:Int)<(l0:Int):=by omega
    have k0:w10.cell? ⟨g2,0,none⟩=some (.int .i64 (l0:Int)):=HBX.out.cell 0;have k1:w10.cell? ⟨g2,1,none⟩=some (.int .i64 (l1:Int)):=HBX.out.cell 1;have k2:w10.cell? ⟨g2,2,none⟩=some (.slice none 0 0):=HBX.out.cell 2;have k3:w10.cell? ⟨g2,3,none⟩=some (.int .i64 (l2:Int)):=HBX.out.cell 3;have k4:w10.cell? ⟨g2,4,none⟩=some (.slice A1 m4 d4):=HBX.out.cell 4;have kf0:w10.frozen? ⟨g2,0,none⟩=false:=HBX.out.frozen 0;have kf1:w10.frozen? ⟨g2,1,none⟩=false:=HBX.out.frozen 1;have kf2:w10.frozen? ⟨g2,2,none⟩=false:=HBX.out.frozen 2;have kf3:w10.frozen? ⟨g2,3,none⟩=false:=HBX.out.frozen 3;have kf4:w10.frozen? ⟨g2,4,none⟩=false:=HBX.out.frozen 4;have c1:=C1.out;have c2:=C2.out;obtain⟨hB8,hX8,hk8⟩:=Q0P HBX.out HXX.out hgw (.int .i64 (l0:Int)) (.int .i64 (l1:Int)) (.slice none 0 0) (.int .i64 (l2:Int)) (.slice A1 m4 d4) _ rfl;have HB8:=sH hB8;have HX8:=sH hX8;have HK8:=sH hk8;clear hB8 hX8 hk8;go_upto_region 13 with fail
    go_region
    generalize World.drew _=w8 at HB8 HX8 HK8 ⊢;clear k0 k1 k2 k3 k4 kf0 kf1 kf2 kf3 kf4 c1 c2;go_wp2_with fail
    refine bodyPost_ret (Q03 rfl _ _ g2 5 81 _ _ rfl HB8.out Tryz.underlying81 rfl rfl rfl) rfl ?_;have ho:o=some (l0,⟨l1,[],l2,ns⟩):=HGD.out (fun hb=>by
     have:=HBD.out.1 hb;rcases this with q | q | q | q
     ·exact hb1 q
     ·have:=HL1.out; omega
     ·rw [HCB.out] at q; exact absurd q.2 (by simp)
     exact q (.inl hl0))
    subst ho;have hbl:=HX8.out;refine⟨hbl,(fun q=>by cases q),fun x hx=>?_⟩;obtain rfl:=zQ hx;refine⟨A1,d4,?_,?_,?_,hdm,fun a h0 ha=>?_⟩
    ·show _=Ending.returned (.tuple #[.agg #[_,_,_,_,.slice A1 ns.length d4],.bool true]);rw [HLEN.out];rfl
    ·intro W hW;show Q04 W _ 1 A1 ns.length (ns.map vn);rw [HLEN.out];exact HR1.out W hW
    ·show ns.length<=d4;rw [HLEN.out]; exact hmd
    rw [HA1.out a ha]; rfl
   have hl0I:¬ (0:Int)<(l0:Int):=by omega
   have k0:w10.cell? ⟨g2,0,none⟩=some (.int .i64 (l0:Int)):=HBX.out.cell 0;have k1:w10.cell? ⟨g2,1,none⟩=some (.int .i64 (l1:Int)):=HBX.out.cell 1;have k2:w10.cell? ⟨g2,2,none⟩=some (.slice none 0 0):=HBX.out.cell 2;have k3:w10.cell? ⟨g2,3,none⟩=some (.int .i64 (l2:Int)):=HBX.out.cell 3;have k4:w10.cell? ⟨g2,4,none⟩=some (.slice A1 m4 d4):=HBX.out.cell 4;have kf0:w10.frozen? ⟨g2,0,none⟩=false:=HBX.out.frozen 0;have kf1:w10.frozen? ⟨g2,1,none⟩=false:=HBX.out.frozen 1;have kf2:w10.frozen? ⟨g2,2,none⟩=false:=HBX.out.frozen 2;have kf3:w10.frozen? ⟨g2,3,none⟩=false:=HBX.out.frozen 3;have kf4:w10.frozen? ⟨g2,4,none⟩=false:=HBX.out.frozen 4;have c1:=C1.out;have c2:=C2.out;obtain⟨hB8,hX8,hk8⟩:=Q0P HBX.out HXX.out hgw (.int .i64 (l0:Int)) (.int .i64 (l1:Int)) (.slice none 0 0) (.int .i64 (l2:Int)) (.slice A1 m4 d4) _ rfl;have HB8:=sH hB8;have HX8:=sH hX8;have HK8:=sH hk8;clear hB8 hX8 hk8;go_upto_region 13 with fail
   go_region
   generalize World.drew _=w8 at HB8 HX8 HK8 ⊢;clear k0 k1 k2 k3 k4 kf0 kf1 kf2 kf3 kf4 c1 c2;go_wp2_with fail
   refine bodyPost_ret (Q03 rfl _ _ g2 5 81 _ _ rfl HB8.out Tryz.underlying81 rfl rfl rfl) rfl ?_;have ho:o=none:=by rw [HO.out,Q0X (HBD.out.2 (.inr (.inr (.inr (fun q=>by have:=HL1.out; omega)))))]
   subst ho;exact⟨HX8.out,fun _=>⟨_,rfl,rfl,by simp [zN]⟩,fun q hq=>by cases hq⟩
  | false =>
   have ho:o=none:=by rw [HO.out,Q0X (HBD.out.2 (.inr (.inr (.inl ⟨by have:=HN4.out; omega,HCB.out⟩))))]
   subst ho;simp only [zP,if_false];go_wp2_with (refine Q00 (o:=⟨none,_,_,_,_,_⟩) rfl 81 (.tmp 2) (.tmp 57) rfl g2 0 Q0A rfl rfl 81 _ HBX.out Q2F (by simp [Q0A]) (by simp [Q0A,zN]) ?_; intro w11 hT9 hD9)
   exact bodyPost_ret (Q03 rfl _ _ g2 5 81 _ _ rfl hD9 Tryz.underlying81 rfl rfl rfl) rfl ⟨hT9.below HXX.out hgw,fun _=>⟨_,rfl,rfl,by simp [Q0A,spl,zN]⟩,fun q hq=>by cases hq⟩
 have hon:o=none:=by rw [HO.out,Q0X (HBD.out.2 (.inr (.inl hb2)))]
 have d0:((l1:Int) == 0)=false:=by simp; omega
 have d5:((l1:Int) == 5)=false:=by simp; omega
 have d180:((l1:Int) == 180)=false:=by simp; omega
 subst hon;go_wp2_with (refine Q00 (o:=⟨none,_,_,_,_,_⟩) rfl 81 (.tmp 2) (.tmp 29) rfl g2 0 Q0A rfl rfl 81 _ HK.out Q2F (by simp [Q0A]) (by simp [Q0A,zN]) ?_; intro w11 hT9 hD9)
 exact bodyPost_ret (Q03 rfl _ _ g2 5 81 _ _ rfl hD9 Tryz.underlying81 rfl rfl rfl) rfl ⟨hT9.below HX.out hgw,fun _=>⟨_,rfl,rfl,by simp [Q0A,spl,zN]⟩,fun q hq=>by cases hq⟩
end
section
open Go.RowKit Go.Maps
def Q2L (w:zB) (B:Nat) (A:Option zA) (n:Nat) (xss:LL):Prop :=xss.length=n/\(0<n->∃ ad,A=some ad/\ad.block<B/\∀ (k:Nat) (x:List UInt8),xss[k]?=some x->∃ Ak mk ck,w.cell? (ad.add k)=some (.slice Ak mk ck)/\Q04 w B 1 Ak mk (x.map vb)/\mk<=ck)
theorem OwnL.rowsC {w:zB} {B0:Nat} {v:zC} {xss:LL} {vs:List zC} (h:OwnL w B0 v xss vs):∃ A c,v=.slice A xss.length c/\xss.length<=c/\Q2L w w.heap.size A xss.length xss:=by
 have hr:=fun A c (hv:v=.slice A xss.length c)=>Q04.of_own (A:=A) (c:=c) (by rw [<- hv]; exact h.row)
 have hrow:∀ A,Q04 w w.heap.size 1 A xss.length vs->Q2L w w.heap.size A xss.length xss:=fun A hrd=>⟨rfl,fun h0=>by obtain⟨ad,rfl,hlt,hc⟩:=hrd.2 h0;refine⟨ad,rfl,hlt,fun k x hx=>?_⟩;obtain⟨u,h1,h2⟩:=h.at_ k x hx;obtain⟨Ak,ck,rfl,h5,_,h3,_⟩:=Q0m h2;exact⟨Ak,x.length,ck,hc k _ h1,h3,h5⟩⟩
 rcases h.row.2 with⟨rfl,h0⟩ | ⟨g,cap,cur,rfl,hg,_,h1,h2,_⟩
 ·exact⟨none,0,by rw [h0],by omega,hrow _ (hr none 0 (by rw [h0]))⟩
 exact⟨_,cap,rfl,h1,hrow _ (hr _ _ rfl)⟩
end
end Go.Proofs.YtckjnbjiafgibaaGreat
