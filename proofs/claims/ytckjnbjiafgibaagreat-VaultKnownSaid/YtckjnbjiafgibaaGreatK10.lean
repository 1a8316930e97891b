/- Parts of the proof, in one text. -/
import Derived.Test.YtckjnbjiafgibaaGreatK9
import Derived.Test.YtckjnbjiafgibaaGreatK6
import Derived.ProofKit
import Derived.Test.YtckjnbjiafgibaaGreatK8
namespace Go.Proofs.YtckjnbjiafgibaaGreat
set_option linter.unusedVariables false
set_option linter.unusedSimpArgs false
set_option maxRecDepth 100000
set_option maxHeartbeats 16000000
open _root_.Array renaming getElem?_eq_getElem->zK,replicate->zL
open _root_.Go renaming Addr->zA,World->zB,Value->zC,Calls->zF
open _root_.Go.Act renaming put->zM
open _root_.Go.Proofs.Tryz renaming prog->zG
open _root_.Go.RowKit renaming Below->zE
open _root_.Go.RowKit.Below renaming refl->zI
open _root_.List renaming getElem?_eq_getElem->zD,getElem?_take->zJ
open _root_.Nat renaming le_refl->zH
section
open Go.RowKit Go.Maps
attribute [local irreducible] wpList
theorem Q9i (A:Option zA) (n c:Nat) (xs:List UInt8) (w:zB) (B:Nat) (h:Q04 w B 1 A n (xs.map vb)) (hB:B<=w.heap.size) (hn:n<65536) :
 zF zG 93 #[.pointer none,.slice A n c] w fun e w'=>e=.returned (.tuple #[.agg inkZ,.int .i64 1])/\zE w.heap.size w w':=by
 have hxn:xs.length=n:=by have:=h.1; simpa using this
 have HXN:=sH hxn;have hX:zE w.heap.size w (w.alloc (.cells inkZ 51)):=(zI _ _).alloc (zH _) _;have hk0:Blk (w.alloc (.cells inkZ 51)) w.heap.size 51 inkZ:=Blk.newAt (by simp);have HRD:=sH h;obtain⟨i0,hi0,hz0,hz1,hz2⟩:=info_parts Q1f;have HZ:=sH Q1O;have HZS:=sH (show inkZ.size=32 by simp [inkZ,bRow]);have hs0:(w.alloc (.cells inkZ 51)).heap.size=w.heap.size+1:=by simp
 have HX:=sH hX;have HK0:=sH hk0;have HS0:=sH hs0;clear h hX hk0 hs0 hxn;obtain⟨g,hg⟩:∃ g,g=w.heap.size:=⟨_,rfl⟩;have hnn:¬ (65536:Int)<=(n:Int):=by omega
 go_enter Tryz.func93,Tryz.ntmps93
 go_upto_region 1 with fail
 rw [<- HZ.out];generalize World.alloc w _=w1 at HX HK0 HS0 ⊢;rw [<- hg] at HK0 HS0 ⊢;have hs1:=HX.out.size;have hg1:g<w1.heap.size:=by have:=HS0.out; omega
 have hgw:w.heap.size<=g:=by omega
 have HRD1:=sH (HRD.out.below (HX.out.mono hB));have HW0:=sH (World.ownsRow_lit (base:=w1.heap.size) (e:=5) (size:=1) w1 #[.int .u8 0] 1 (zH _) (by unfold maxLen; omega) rfl);have HRD2:=sH (HRD1.out.alloc (by omega) (.cells #[.int .u8 0] 5));clear HS0 hg;go_wp2_with (at_builtin; go_must (refine Q06 _ rfl (.tmp 11) (.tmp 12) 28 rfl w1.heap.size 5 i0 _ 1 1 Tryz.underlying28 hi0 hz0 hz1 hz2 rfl (by omega) _ 1 _ rfl HW0.out B A n c (xs.map vb) rfl HRD2.out ?c1 ?c2 ?c3 (by simp) ?_))
 case c1=>intro u hu; rfl
 case c2=>unfold maxLen; omega
 case c3=>omega
 intro v2 w2 hown2 hg2 hor2;have hb2:zE w1.heap.size w1 w2:=Q0p ((zI _ _).alloc (zH _) _) (by simp) hg2 (fun b hb=>by
  have:b=w1.heap.size:=by simpa [Value.ownBlock] using hb.symm
  omega)
 have hob:OwnB w2 w1.heap.size v2 (Q1K xs):=by unfold OwnB Q1K;rw [List.length_cons,HXN.out,List.map_cons,Nat.add_comm];exact hown2
 obtain⟨Ab,cb,rfl,hbc,hbm,hbr,hbB⟩:=Q03 hob;have hll:(Q1K xs).length=n+1:=by unfold Q1K; rw [List.length_cons,HXN.out]
 rw [hll] at hbc hbr ⊢;have HB2:=sH (HX.out.trans (hb2.mono hs1));have HK2:=sH (HK0.out.under hb2);have hs2:=hb2.size;have hof:=Q8f none (.slice Ab (n+1) cb) w2 (.inl rfl);have hsz:inkZ.size=32:=by simp [inkZ,bRow]
 have hon:inkZ.all (·.oneCell')=true:=Q0I _;have HOF:=sH hof;obtain⟨D,hD⟩:∃ D,D=inkZ:=⟨_,rfl⟩;rw [<- hD] at HOF hsz hon;have HD:=sH hD;have HSZ:=sH hsz;have HON:=sH hon;clear hob hb2 hown2 hg2 hor2 hbr hbB hof hsz hon hD HRD1 HRD2 HW0 hll;go_wp2_with fail
 refine HOF.out.mono ?_;rintro _ w3 ⟨rfl,ho3⟩;have HO3:=sH (HB2.out.trans (ho3.mono HB2.out.size));have HK3:=sH (HK2.out.below' ho3);have hs3:=ho3.size;clear ho3;go_wp2_with (refine Q00 (o:=⟨none,_,_,_,_,_⟩) rfl 51 (.tmp 4) (.tmp 15) rfl g 0 D rfl rfl 51 inkZ HK3.out (by rw [HSZ.out]; rfl) (by rw [HSZ.out,HZS.out]; omega) HON.out ?_; intro w5 hT5 hD5; rw [Q0h _ _ (by rw [HSZ.out,HZS.out])] at hD5)
 refine bodyPost_ret (Q07 rfl _ _ g 32 51 _ _ rfl hD5 Tryz.underlying51 rfl rfl HSZ.out) rfl ⟨by rw [HD.out]; rfl,?_⟩;exact hT5.below HO3.out hgw
theorem Q8e (n:Nat) (w:zB) (hn:n=13\/n=6) :
 zF zG 73 #[.pointer none,.int .i64 (n:Int)] w fun e w'=>e=.returned (.tuple #[.pointer none,.int .i64 1])/\zE w.heap.size w w':=by
 have hmf:∀ (fn:Fn) (first cap:Array zC) (w:zB),(Instr.makeFunc fn first cap).run zG w=.ok (.func fn first cap) w:=fun _ _ _ _=>rfl
 have hn2:6<=n/\n<=13:=by omega
 have hn1:¬ (n:Int)<1:=by omega
 have hn1024:¬ (1024:Int)<(n:Int):=by omega
 obtain⟨b2,hb2⟩:∃ b2,b2=w.heap.size:=⟨_,rfl⟩;obtain⟨b3,hb3⟩:∃ b3,b3=w.heap.size+1:=⟨_,rfl⟩;go_enter Tryz.func73,Tryz.ntmps73
 go_upto_region 1 with fail
 have hX:zE w.heap.size w ((w.alloc (.cells #[.pointer none] 22)).alloc (.cells #[.int .i64 (n:Int)] 3)):=((zI _ _).alloc (zH _) _).alloc (by simp) _;have k2:Blk ((w.alloc (.cells #[.pointer none] 22)).alloc (.cells #[.int .i64 (n:Int)] 3)) w.heap.size 22 #[.pointer none]:=(Blk.newAt rfl).alloc _;have k3:Blk ((w.alloc (.cells #[.pointer none] 22)).alloc (.cells #[.int .i64 (n:Int)] 3)) (w.heap.size+1) 3 #[.int .i64 (n:Int)]:=Blk.newAt (by simp);have hz1:((w.alloc (.cells #[.pointer none] 22)).alloc (.cells #[.int .i64 (n:Int)] 3)).heap.size=w.heap.size+2:=by simp
 generalize (w.alloc (.cells #[.pointer none] 22)).alloc (.cells #[.int .i64 (n:Int)] 3)=w1 at hX k2 k3 hz1 ⊢;rw [<- hb3] at k3 ⊢;rw [<- hb2] at k2 hz1 ⊢;have hb2w:w.heap.size<=b2:=by omega
 have hb3w:w.heap.size<=b3:=by omega
 have hb23:b2≠b3:=by omega
 have hw1:w.heap.size<=w1.heap.size:=by omega
 have HX:=sH hX;have K2:=sH k2;have K3:=sH k3;have hl2:=k2.lt;have hl3:=k3.lt;clear hb2 hb3 hX k2 k3 hz1;have c3:w1.cell? ⟨b3,0,none⟩=some (.int .i64 (n:Int)):=(K3.out.cell 0).trans rfl;have c2:w1.cell? ⟨b2,0,none⟩=some (.pointer none):=(K2.out.cell 0).trans rfl;have HLF:=sH (Q9i none 0 0 [] w1 w1.heap.size Q04.none_ (zH _) (by omega));have HZS:=sH (show inkZ.size=32 by simp [inkZ,bRow]);have HZ:=sH Q1O;have hds:inkZ.size=32:=by simp [inkZ,bRow]
 have hdo:inkZ.all (·.oneCell')=true:=Q0I _;obtain⟨D,hD⟩:∃ D,D=inkZ:=⟨_,rfl⟩;rw [<- hD] at HLF hds hdo;have HD:=sH hD;have HDS:=sH hds;have HDO:=sH hdo;clear hD hds hdo;go_wp2_with fail
 refine HLF.out.mono ?_;rintro _ w3 ⟨rfl,ho3⟩;have HO3:=sH (HX.out.trans (ho3.mono HX.out.size));have hs3:=ho3.size;clear ho3 c2 c3 K2 K3 HLF;go_upto_region 4 with(refine Q00 (o:=⟨none,_,_,_,_,_⟩) rfl 51 (.tmp 6) (.tmp 18) rfl w3.heap.size 0 D rfl rfl 51 inkZ (by rw [HZ.out]; exact Blk.newAt rfl) (by rw [HDS.out]; rfl) (by rw [HDS.out,HZS.out]; omega) HDO.out ?_; intro w4 hT4 hD4; rw [Q0h _ _ (by rw [HDS.out,HZS.out])] at hD4)
 have hb4:zE w3.heap.size w3 w4:=hT4.below ((zI _ _).alloc (zH _) _) (zH _);clear hT4 hD4;go_wp2_with fail
 go_ret2
 exact⟨rfl,HO3.out.trans (hb4.mono HO3.out.size)⟩
theorem Q8K (w:zB) (v:zC) :
 zF zG 42 #[.pointer none,v] w fun e w'=>e=.returned (.tuple #[.pointer none,.int .i64 1])/\zE w.heap.size w w':=by
 have HT:=sH (Q8e 13 w (.inl rfl));go_enter Tryz.func42,Tryz.ntmps42
 go_wp2_with fail
 refine HT.out.mono ?_;rintro _ w1 ⟨rfl,hb⟩;go_wp2_with fail
 go_ret2
 exact⟨rfl,hb⟩
theorem vNewNil (q:Nat) (w:zB) (hq:1<=q/\q<=2) :
 zF zG 6 #[.pointer none,.int .i64 (q:Int)] w fun e w'=>e=.returned (.tuple #[.pointer none,.int .i64 1])/\zE w.heap.size w w':=by
 have hq1:¬ (q:Int)<1:=by omega
 have hq2:¬ (2:Int)<(q:Int):=by omega
 obtain⟨i0,hi0,hz0,hz1,hz2⟩:=info_parts Q1f;have hVN:=vC_new q;have hX:=Q0a w (.cells (vC none (midV q 0) noS) 64);have hk0:Blk (w.alloc (.cells (vC none (midV q 0) noS) 64)) w.heap.size 64 (vC none (midV q 0) noS):=Blk.newAt rfl;have hst:Q6l w (w.alloc (.cells (vC none (midV q 0) noS) 64)) w.heap.size q 0 noS:=⟨hk0,fun j hj=>by omega,⟨rfl,rfl,rfl,rfl⟩,hX⟩;have HST:=sH hst;have HVN:=sH hVN;obtain⟨g,hg⟩:∃ g,g=w.heap.size:=⟨_,rfl⟩;have hgw:w.heap.size<=g:=by omega
 clear hst hX hk0 hVN;go_enter Tryz.func6,Tryz.ntmps6
 go_upto_region 4 with fail
 rw [<- HVN.out];generalize World.alloc w _=w1 at HST ⊢;rw [<- hg] at HST ⊢;clear hg HVN;go_wp2_with fail
 go_loopw [17] (fun iv wr=>∃ (i:Nat) (S:VSl),i<=8/\iv=.int .i64 i/\Q6l w wr g q i S) (fun iv _=>8 - (intOf iv).toNat)
 case atStart=>exact⟨0,noS,by omega,rfl,HST.out⟩
 obtain⟨i,S,hi,rfl,hst⟩:=hrel;have HS:=sH hst;have hgl:=hst.blk.lt;have hsz:=hst.low.size;clear hst;by_cases hin:i<8
 ·have hinI:(i:Int)<8:=by omega
  go_upto_region 7 with fail
  refine Q0r 6 32 (fun jx W v=>match jx with | 0=>v=.pointer (some ⟨g,0,none⟩) | 1=>v=.int .i64 (i:Int) | 2=>∃ g',v=.slice (some ⟨g',0,none⟩) 16 16/\wr.heap.size<=g'/\Blk W g' 5 (zL 16 (.int .u8 0)) | 3=>v=.pointer (some ⟨g,0,none⟩) | 4=>v=.pointer (some ⟨g,3,none⟩) | _=>v=.pointer (some ⟨g,3+i,none⟩)) [20,21,22,23,24,25] (by kernel_rfl) (by kernel_rfl) (by kernel_rfl) (by simp) (by kernel_rfl) (fun jx=>?last) ?heads ?_
  case last =>
   match jx with
   | 0 | 1 | 3 | 4 | jx+5=>exact Q1B.pure _
   | 2=>exact fun W W' v ⟨g',h1,h2,h3⟩ hb=>⟨g',h1,h2,h3.below' hb⟩
  case heads =>
   simp only [tT];refine⟨?_,?_,?_,?_,?_,?_,trivial⟩;all_goals intro a W hb hkp hd
   ·have e0:(_:zC)=.pointer (some ⟨g,0,none⟩):=sK hkp 6;exact sV
   ·have e0:(_:zC)=.int .i64 (i:Int):=sK hkp 7;exact sV
   ·refine Q2z rfl (.slice (some ⟨W.heap.size,0,none⟩) 16 16) (W.alloc (.cells (zL 16 (.int .u8 0)) 5)) (by
     go_simp
     have h:=Q1Q (P:=zG) 28 5 i0 _ Tryz.underlying28 hi0 hz0 .i64 .i64 16 16 (by omega) (by rw [hz2]; omega) (by omega) W;rw [hz1] at h;rw [show ((16:Nat):Int)=16 from rfl] at h;rw [h,show madeCells (Value.int .u8 0).cells (16*1)=zL 16 (.int .u8 0) from by kernel_rfl];rfl) ((zI _ _).alloc (zH _) _) ⟨W.heap.size,rfl,hb.size,Blk.new W _ _⟩
   ·have e0:=sJ (hd 0) 20;exact sV
   ·have e0:=sJ (hd 3) 23;exact sV
   have e0:=sJ (hd 4) 24;have e1:=sJ (hd 1) 21;exact sV
  intro f W hb hd;obtain⟨g',h22,hg',hB'⟩:∃ g',f 22=.slice (some ⟨g',0,none⟩) 16 16/\wr.heap.size<=g'/\Blk W g' 5 (zL 16 (.int .u8 0)):=hd 2 (by omega) _ 22 rfl rfl;have h25:f 25=.pointer (some ⟨g,3+i,none⟩):=hd 5 (by omega) _ 25 rfl rfl;have hkW:=HS.out.blk.below' hb;have cc:W.cell? ⟨g,3+i,none⟩=some (.slice (S.bA i) (Q0l (midV q i) i).length (S.bC i)):=(hkW.cell _).trans (Q1l _ _ _ i hin);have ff:=hkW.frozen (3+i);have hB2:=hkW.set_ (3+i) (.slice (some ⟨g',0,none⟩) 16 16);rw [vC_mid q i g' S hin] at hB2;have hT2:=Q05.setCell W ⟨g,3+i,none⟩ (.slice (some ⟨g',0,none⟩) 16 16);have hst2:Q6l w (W.setCell ⟨g,3+i,none⟩ (.slice (some ⟨g',0,none⟩) 16 16)) g q (i+1) (midS S i g'):=by
   refine⟨hB2,fun j hj=>?_,HS.out.rest,hT2.below (HS.out.low.trans (hb.mono hsz)) hgw⟩;by_cases hji:j=i
   ·subst hji;exact⟨g',by simp [midS],by omega,by simp [midS],hT2.blk hB' (by simp only; omega)⟩
   obtain⟨g'',e1,e2,e3,e4⟩:=HS.out.block j (by omega);exact⟨g'',by simp only [midS,if_neg hji]; exact e1,e2,by simp only [midS,if_neg hji]; exact e3,hT2.blk (e4.below' hb) (by simp only; omega)⟩
  have HST2:=sH hst2;simp only [Q0R,tU,h22,h25];clear hd hB' hkW hB2 hT2 hst2;try simp only [zM,sA]
  go_wp2_with fail
  go_roundw
  case rel=>exact⟨i+1,midS S i g',by omega,by go_num,HST2.out⟩
  case measure=>simp [intOf]; omega
 obtain rfl:i=8:=by omega
 have hinI:¬ (8:Int)<8:=by omega
 have HM:=sH (fun v=>Q8K wr v);have HL:=sH HS.out.low;clear HS HST;go_wp2_with fail
 refine(HM.out _).mono ?_;rintro _ w5 ⟨rfl,hb5⟩;go_wp2_with fail
 go_ret2
 exact⟨rfl,HL.out.trans (hb5.mono HL.out.size)⟩
end
section
open Go.RowKit Go.Maps
attribute [local irreducible] wpList Q0t
def Q78 (w:zB) (o:Option VM) (e:Ending) (w':zB):Prop :=(o=none->e=.returned (.tuple #[.pointer none,.int .i64 2])/\zE w.heap.size w w')/\(∀ m,o=some m->e=.returned (.tuple #[.pointer none,.int .i64 1])/\zE w.heap.size w w')
def Q7j (w:zB) (o:Option VM) (n:Nat) (e:Ending) (w':zB):Prop :=(o=none->e=.returned (.tuple #[.pointer none,.int .i64 (n:Int)])/\zE w.heap.size w w')/\(∀ m,o=some m->e=.returned (.tuple #[.pointer none,.int .i64 1])/\zE w.heap.size w w')
theorem Q7O (k:Book) (A:Option zA) (n c:Nat) (xss:LL) (w:zB) (hkl:k.g<w.heap.size/\k.b1<w.heap.size/\k.b2<w.heap.size) (hr:Q23 w w.heap.size A n xss) (hn:n<=1000000000000) (hlx:∀ x,x∈xss->x.length<=1000000000000) :
 zF zG 15 #[.pointer none,.slice A n c] w (Q78 w (Q26 xss)):=by
 have hxl:=hr.1;obtain⟨o,ho⟩:∃ o,o=Q26 xss:=⟨_,rfl⟩;rw [<- ho];have HO:=sH ho;clear ho;by_cases h13:n=13
 ·have h13b:((n:Int) != 13)=false:=by simp [h13]
  obtain⟨ad,hA,hadb,hcell⟩:=hr.2 (by omega);subst hA;have HXL:=sH (show xss.length=13 by omega);have HLX:=sH hlx;have HCELL:=sH (fun(W:zB) (hb:zE w.heap.size w W) (q:Nat) (hq:q<13)=>(show ∃ Ak mk ck,W.cell? (ad.add q)=some (.slice Ak mk ck)/\Q04 W w.heap.size 1 Ak mk ((xss.getD q []).map vb)/\mk<=ck/\mk=(xss.getD q []).length/\mk<=1000000000000 from by
   have hqx:q<xss.length:=by omega
   obtain⟨Ak,mk,ck,h1,h2,h3⟩:=hcell q xss[q] (zD hqx);have e:xss.getD q []=xss[q]:=by rw [List.getD_eq_getElem?_getD,zD hqx]; rfl
   rw [e];have hmk:xss[q].length=mk:=by have:=h2.1; simpa using this
   exact⟨Ak,mk,ck,(hb.cell (by rw [Q09]; exact hadb)).trans h1,h2.below hb,h3,hmk.symm,by have:=hlx _ (List.getElem_mem hqx); omega⟩))
  obtain⟨g,hg⟩:∃ g,g=w.heap.size:=⟨_,rfl⟩;have hRC:=rawC;have HST:=sH (show OpSt w g k xss 0 0 (w.alloc (.cells (vC none rawV rawS) 64)) from⟨⟨rawS,by rw [Q6w]; exact VRaw.new w _ hg⟩,fun q h=>by omega,fun q h=>by omega,Q0a _ _⟩);have HRC:=sH hRC;have hgw:w.heap.size<=g:=by omega
  have hgw2:g<=w.heap.size:=by omega
  clear hr hlx hcell hRC hxl;subst h13;go_enter Tryz.func15,Tryz.ntmps15
  go_upto_region 4 with fail
  rw [<- HRC.out];generalize World.alloc w _=w1 at HST ⊢;rw [<- hg];clear hg;go_wp2_with fail
  go_loopw [18] (fun iv wr=>∃ i:Nat,i<=8/\iv=.int .i64 i/\OpSt w g k xss i 0 wr) (fun iv _=>8 - (intOf iv).toNat)
  case atStart=>exact⟨0,by omega,rfl,HST.out⟩
  obtain⟨i,hi,rfl,hst⟩:=hrel;have HS:=sH hst;have hlow:=hst.low.size;clear hst;by_cases hin:i<8
  ·have hinI:(i:Int)<8:=by omega
   have hin13:(i:Int)<13:=by omega
   have h0I:(0:Int)<=(i:Int):=by omega
   obtain⟨Ak,mk,ck,h1,h2,h3,h4,h5⟩:=HCELL.out wr HS.out.low i (by omega);obtain⟨x,hx⟩:∃ x,x=xss.getD i []:=⟨_,rfl⟩;rw [<- hx] at h2 h4;have HX:=sH hx;have H4:=sH h4;by_cases h16:mk=16
   ·have h16b:((mk:Int) != 16)=false:=by simp [h16]
    obtain⟨S,hraw⟩:=HS.out.raw;have hgl:=hraw.blk.lt;have C1:=sH (fun(W:zB) (hb:zE wr.heap.size wr W)=>(hb.cell (show (ad.add i).block<wr.heap.size by rw [Q09]; omega)).trans h1);have HCL:=sH (fun(W:zB) (hb:zE wr.heap.size wr W)=>Q1t Ak mk ck x W w.heap.size (h2.below (hb.mono hlow)) (by have:=hb.size; omega) (by omega));have HRW:=sH hraw;subst h16;clear h2 hx h4 hraw;go_upto_region 9 with fail
    clear h1;refine Q0r 10 90 (fun jx W v=>match jx with | 0=>v=.pointer (some ⟨g,0,none⟩) | 1=>v=.int .i64 (i:Int) | 2=>v=.slice (some ad) 13 c | 3=>v=.int .i64 (i:Int) | 4=>v=.pointer (some (ad.add i)) | 5=>v=.slice Ak 16 ck | 6=>∃ A' c',v=.slice A' 16 c'/\OwnB W wr.heap.size (.slice A' 16 c') x | 7=>v=.pointer (some ⟨g,0,none⟩) | 8=>v=.pointer (some ⟨g,3,none⟩) | _=>v=.pointer (some ⟨g,3+i,none⟩)) [27,28,29,30,31,32,33,34,35,36] (by kernel_rfl) (by kernel_rfl) (by kernel_rfl) (by simp) (by kernel_rfl) (fun jx=>?last) ?heads ?_
    case last =>
     match jx with
     | 0 | 1 | 2 | 3 | 4 | 5 | 7 | 8 | jx+9=>exact Q1B.pure _
     | 6=>exact fun W W' v ⟨A',c',h1,h2⟩ hb=>⟨A',c',h1,h2.below hb⟩
    case heads =>
     simp only [tT];and_intros;rotate_right;trivial;all_goals intro a W hb hkp hd
     ·have e0:(_:zC)=.pointer (some ⟨g,0,none⟩):=sK hkp 6;exact sV
     ·have e0:(_:zC)=.int .i64 (i:Int):=sK hkp 7;exact sV
     ·have e0:(_:zC)=.slice (some ad) 13 c:=sK hkp 1;exact sV
     ·have e0:(_:zC)=.int .i64 (i:Int):=sK hkp 7;exact sV
     ·have e0:=sJ (hd 2) 29;have e1:=sJ (hd 3) 30;exact sV
     ·have e0:=sJ (hd 4) 31;have cc:=C1.out W hb;exact sV
     ·have e0:=sJ (hd 5) 32;refine Q0z rfl 48 #[.slice Ak 16 ck] (by go_simp) ((HCL.out W hb).mono ?_);rintro e w ⟨v,rfl,ho,hb'⟩;obtain⟨A1,c1,hv,_⟩:=Q03 ho;rw [<- H4.out] at hv;subst hv;exact⟨_,rfl,hb',A1,c1,rfl,ho.more hb.size⟩
     ·have e0:=sJ (hd 0) 27;exact sV
     ·have e0:=sJ (hd 7) 34;exact sV
     have e0:=sJ (hd 8) 35;have e1:=sJ (hd 1) 28;exact sV
    intro f W hbW hd;obtain⟨A',c',hf33,ho33⟩:∃ A' c',f 33=.slice A' 16 c'/\OwnB W wr.heap.size (.slice A' 16 c') x:=hd 6 (by omega) _ 33 rfl rfl;have f36:f 36=.pointer (some ⟨g,3+i,none⟩):=hd 9 (by omega) _ 36 rfl rfl;have hrw:=HRW.out.below hbW;have cb:W.cell? ⟨g,3+i,none⟩=some (.slice (S.bA i) (Q0l (midO xss i 0) i).length (S.bC i)):=(hrw.blk.cell _).trans (Q1l _ _ _ i hin);have fb:=hrw.blk.frozen (3+i);have hT:=Q05.setCell W ⟨g,3+i,none⟩ (.slice A' 16 c');obtain⟨q1,q2,q3,q4,q5⟩:=ho33.reads;have hrs:=hbW.size;have hfar:Far (W.setCell ⟨g,3+i,none⟩ (.slice A' 16 c')) (fun b=>b=g\/k.has b\/b<g) A' c' x:=by
     have hf0:Far W (fun b=>b=g\/k.has b\/b<g) A' c' x:=⟨by rw [<- q1]; exact q4,by omega,fun a h0 ha hN=>by have:=q5 a ha;rcases hN with e | (e | e | e) | e <;> omega⟩
     exact hf0.only (Only.of_turned (N:=fun b=>b=g) hT rfl) (fun b e=>.inl e)
    have hB2:=hrw.blk.set_ (3+i) (.slice A' 16 c');have hnew:=hrw.setB (b:=i) (d:=x) (A:=A') (c:=c') hT (.inl rfl) (by rw [<- q1]; exact hB2) hin hfar;rw [HX.out,Q58 (by rw [HXL.out]; omega) hin] at hnew;have HNX:=sH (show OpSt w g k xss (i+1) 0 (W.setCell ⟨g,3+i,none⟩ (.slice A' 16 c')) from⟨⟨_,hnew⟩,fun q hq=>by
     rcases Nat.lt_or_ge q i with h | h
     ·exact HS.out.b16 q h
     obtain rfl:q=i:=by omega
     rw [<- HX.out]; exact H4.out.symm,fun q hq=>by omega,hT.below (HS.out.low.trans (hbW.mono hlow)) hgw⟩)
    simp only [Q0R,tU,hf33,f36];clear hd hrw hT hfar hB2 hnew hbW ho33 q1 q2 q3 q4 q5;try simp only [zM,sA]
    go_wp2_with fail
    go_roundw
    case rel=>exact⟨i+1,by omega,by go_num,HNX.out⟩
    case measure=>simp [intOf]; omega
   have h16b:((mk:Int) != 16)=true:=by simp; omega
   have ho:o=none:=by
    rw [HO.out];refine Q1S fun hh=>?_
    have:=hh.2.1 i hin;rw [<- HX.out,<- H4.out] at this;exact h16 this
   subst ho;clear h2 hx h4;go_wp2_with fail
   go_ret2
   exact⟨fun _=>⟨rfl,HS.out.low⟩,fun m hm=>by cases hm⟩
  obtain rfl:i=8:=by omega
  have hinI:¬ (8:Int)<8:=by omega
  go_wp2_with fail
  go_loopw [38] (fun jv wr=>∃ j:Nat,j<=4/\jv=.int .i64 j/\OpSt w g k xss 8 j wr) (fun jv _=>4 - (intOf jv).toNat)
  case atStart=>exact⟨0,by omega,rfl,HS.out⟩
  obtain⟨j,hj,rfl,hst⟩:=hrel;have HJ:=sH hst;have hlow:=hst.low.size;clear hst HS;by_cases hjn:j<4
  ·have hjI:(j:Int)<4:=by omega
   have h0I:(0:Int)<=(j:Int):=by omega
   obtain⟨Ak,mk,ck,h1,h2,h3,h4,h5⟩:=HCELL.out wr HJ.out.low (8+j) (by omega);obtain⟨x,hx⟩:∃ x,x=xss.getD (8+j) []:=⟨_,rfl⟩;rw [<- hx] at h2 h4;have HX:=sH hx;have HCL:=sH (Q4B Ak mk ck x wr w.heap.size h2 hlow h3 (by omega));obtain⟨p,hp⟩:∃ p,p=Q0D x:=⟨_,rfl⟩;rw [<- hp] at HCL;have HPP:=sH hp;have h1':wr.cell? (ad.add (8+j))=some (.slice Ak mk ck):=h1;clear h2 hx h4 hp h1;go_wp2_with fail
   refine HCL.out.mono ?_;rintro _ w3 ⟨D,rfl,⟨A3,c3,hDe,ho3⟩,hb3⟩;obtain⟨D2,hD2⟩:∃ D2,D2=D:=⟨_,rfl⟩;rw [<- hD2] at hDe ⊢;have hDs:D2.size=2:=by rw [hDe]; rfl
   have hDo:D2.all (·.oneCell')=true:=by rw [hDe]; simp [Value.oneCell']
   have HDS:=sH hDs;have HDO:=sH hDo;have HDE:=sH hDe;have HO3:=sH ho3;obtain⟨S,hraw⟩:=HJ.out.raw;have hgl:=hraw.blk.lt;have HRW:=sH (hraw.below hb3);have HL3:=sH (HJ.out.low.trans (hb3.mono hlow));have hs3:=hb3.size;clear hDs hDo hDe ho3 hb3 HCL hraw h1' hD2;go_upto_region 15 with(refine Q00 (o:=⟨none,_,_,_,_,_⟩) rfl 61 (.tmp 9) (.tmp 48) rfl w3.heap.size 0 D2 rfl rfl 61 Q1v (Blk.newAt rfl) (by rw [HDS.out]; kernel_rfl) (by rw [HDS.out]; simp [Q1v]) HDO.out ?_; intro w5 hT5 hD5; rw [Q0h _ _ (by rw [HDS.out]; rfl)] at hD5)
   have hb5:zE w3.heap.size w3 w5:=hT5.below ((zI _ _).alloc (zH _) _) (zH _);obtain⟨g9,hg9⟩:∃ g,g=w3.heap.size:=⟨_,rfl⟩;rw [<- hg9] at hD5 ⊢;have HD5:=sH hD5;have HRW5:=sH (HRW.out.below hb5);have HO5:=sH (HO3.out.below hb5);have HL5:=sH (HL3.out.trans (hb5.mono (by have:=HL3.out.size; omega)));have hs5:=hb5.size;clear hT5 hb5 hD5 hg9;cases hpc:p with
   | none =>
    have ho:o=none:=by
     rw [HO.out];refine Q1S fun hh=>?_
     have:=hh.2.2 j hjn;rw [<- HX.out,<- HPP.out,hpc] at this;cases this
    subst ho;simp only [Option.isSome_none];go_wp2_with fail
    go_ret2
    exact⟨fun _=>⟨rfl,HL5.out⟩,fun m hm=>by cases hm⟩
   | some y =>
    have hpe:(Q0D (xss.getD (8+j) [])).getD (0,[])=y:=by rw [<- HX.out,<- HPP.out,hpc]; rfl
    have hpi:(Q0D (xss.getD (8+j) [])).isSome=true:=by rw [<- HX.out,<- HPP.out,hpc]; rfl
    have hde:=HDE.out;rw [hpc] at hde HO5;simp only [Option.getD_some] at hde HO5;have HPE:=sH hpe;have HPI:=sH hpi;have HDE2:=sH hde;simp only [Option.isSome_some];clear hpe hpi hde;go_upto_region 17 with fail
    refine Q0f 6 90 (by kernel_rfl) (by kernel_rfl) (by kernel_rfl) (by simp) ?_;simp only [tT,tU];refine tD (.pointer (some ⟨g,0,none⟩)) ?_;try simp only [zM,sA]
    refine tD (.int .i64 (j:Int)) ?_;try simp only [zM,sA]
    refine Q0w rfl 61 (.tmp 9) rfl g9 0 2 rfl 61 _ D2 _ HD5.out Tryz.underlying61 rfl rfl HDS.out (fun _ _=>by rw [Nat.zero_add]) ?_;try simp only [zM,sA]
    refine tC (.pointer (some ⟨g,0,none⟩)) ?_;try simp only [zM,sA]
    refine tC (.pointer (some ⟨g,11,none⟩)) ?_;try simp only [zM,sA]
    refine tC (.pointer (some ⟨g,11+j*2,none⟩)) ?_;try simp only [zM,sA]
    refine Q0A ?_;intro W hbW;have hrw:=HRW5.out.below hbW;have HRWW:=sH hrw;have HOW:=sH (HO5.out.below hbW);have HLW:=sH (HL5.out.trans (hbW.mono (by have:=HL5.out.size; omega)));have hsW:=hbW.size;clear hbW hrw;go_wp2_with (refine Q00 (o:=⟨none,_,_,_,_,_⟩) rfl 61 (.tmp 57) (.tmp 54) rfl g (11+j*2) D2 rfl rfl 64 _ HRWW.out.blk (by rw [HDS.out]; kernel_rfl) (by rw [HDS.out,Q0H]; omega) HDO.out ?_; intro w7 hT7 hD7)
    rw [HDE2.out] at hD7;obtain⟨q1,q2,q3,q4,q5⟩:=HOW.out.reads;have hfar:Far w7 (fun b=>b=g\/k.has b\/b<g) A3 c3 y.2:=by
     have hf0:Far W (fun b=>b=g\/k.has b\/b<g) A3 c3 y.2:=⟨q4,⟨q2,q3⟩,fun a h0 ha hN=>by have:=q5 a ha;rcases hN with e | (e | e | e) | e <;> omega⟩
     exact hf0.only (Only.of_turned (N:=fun b=>b=g) hT7 rfl) (fun b e=>.inl e)
    have hnew:=HRWW.out.setL (j:=j) (st:=y.1) (d:=y.2) (A:=A3) (c:=c3) hT7 (.inl rfl) hD7 hjn hfar;have hme:=Q4P (ls:=xss) (i:=8) (j:=j) hjn;rw [HPE.out] at hme;rw [hme] at hnew;have HNX:=sH (show OpSt w g k xss 8 (j+1) w7 from⟨⟨_,hnew⟩,HJ.out.b16,fun q hq=>by
     rcases Nat.lt_or_ge q j with h | h
     ·exact HJ.out.cl q h
     obtain rfl:q=j:=by omega
     exact HPI.out,hT7.below HLW.out hgw⟩)
    clear hT7 hD7 q1 q2 q3 q4 q5 hfar hnew hme;go_roundw
    case rel=>exact⟨j+1,by omega,by go_num,HNX.out⟩
    case measure=>simp [intOf]; omega
  obtain rfl:j=4:=by omega
  have hjI:¬ (4:Int)<4:=by omega
  obtain⟨Ak,mk,ck,h1,h2,h3,h4,h5⟩:=HCELL.out wr HJ.out.low 12 (by omega);have HPS:=sH (Q5k Ak mk ck (xss.getD 12 []) wr w.heap.size h2 hlow h3 h5);have hoe:o=match Q2i (xss.getD 12 []) with | none=>none | some l=>some (Q4a xss l):=by rw [HO.out];unfold Q26;rw [if_pos ⟨HXL.out,HJ.out.b16,HJ.out.cl⟩];cases Q2i (xss.getD 12 []) <;> rfl
  obtain⟨sl,hsl⟩:∃ s,s=Q2i (xss.getD 12 []):=⟨_,rfl⟩;rw [<- hsl] at HPS hoe;have HSL:=sH hsl;have HOE:=sH hoe;clear h2 h4 hoe hsl;have c12:wr.cell? ⟨ad.block,ad.off+12,none⟩=some (.slice Ak mk ck):=by rw [show (⟨ad.block,ad.off+12,none⟩:zA)=ad.add 12 by simp [Addr.add]]; exact h1
  clear h1;go_wp2_with fail
  refine HPS.out.mono ?_;rintro _ w3 ⟨v,ys,rfl,hoy,hys,hb3⟩;have HYS:=sH hys;have HOY:=sH hoy;obtain⟨S,hraw⟩:=HJ.out.raw;have hgl:=hraw.blk.lt;have HRW:=sH (hraw.below hb3);have HL3:=sH (HJ.out.low.trans (hb3.mono hlow));have hs3:=hb3.size;obtain⟨Ay,cy,hvy,hcy1,hcy2,hry,hgy⟩:=Q1r hoy;subst hvy;have HRY:=sH hry;have HGY:=sH hgy;clear hys hoy hb3 hraw hry hgy HPS c12;cases hsc:sl with
  | none =>
   have ho:o=none:=by rw [HOE.out,hsc]
   subst ho;simp only [Option.isSome_none];go_wp2_with fail
   go_ret2
   exact⟨fun _=>⟨rfl,HL3.out⟩,fun m hm=>by cases hm⟩
  | some l =>
   have ho:o=some (Q4a xss l):=by rw [HOE.out,hsc]
   have hyl:ys=nI l:=HYS.out l hsc;have hgs:Q0U l:=by
    have:=HSL.out;rw [hsc] at this;unfold Q2i at this;cases hn:Q38 (xss.getD 12 []) with
    | none=>rw [hn] at this; cases this
    | some l' =>
     rw [hn] at this;simp only at this;by_cases hg:Q0U l'
     ·rw [if_pos hg] at this; rw [Option.some.inj this]; exact hg
     rw [if_neg hg] at this; cases this
   have hok:=Q7E HXL.out HJ.out.b16 HJ.out.cl hgs;subst hyl;subst ho;have HOK:=sH hok;have HGS:=sH hgs;obtain⟨ln,hln⟩:∃ k,k=l.length:=⟨_,rfl⟩;have hl3:3<=ln:=by rw [hln]; exact hgs.1
   rw [Q1A,<- hln] at HRY hcy1 ⊢;have HLN:=sH hln;obtain⟨ay,hay,haylt,hcell⟩:=HRY.out.2 (by omega);subst hay;have cell:∀ W,zE w3.heap.size w3 W->∀ q,q<ln->W.cell? (ay.add q)=some (.int .i64 ((l.getD q 0:Nat):Int)):=fun W hb q hq=>(hb.cell (by rw [Q09]; exact haylt)).trans (hcell q _ (by
    have hqd:q<l.length:=by rw [<- hln]; exact hq
    unfold nI;rw [List.getElem?_map,List.getElem?_map,zD hqd,List.getD_eq_getElem?_getD,zD hqd]; rfl))
   have cy0:∀ W,zE w3.heap.size w3 W->W.cell? ay=some (.int .i64 ((l.getD 0 0:Nat):Int)):=fun W hb=>by have:=cell W hb 0 (by omega);rw [show ay.add 0=ay by simp [Addr.add]] at this;exact this
   have cy1:∀ W,zE w3.heap.size w3 W->W.cell? ⟨ay.block,ay.off+1,none⟩=some (.int .i64 ((l.getD 1 0:Nat):Int)):=fun W hb=>by have:=cell W hb 1 (by omega);rw [show ay.add 1=⟨ay.block,ay.off+1,none⟩ by simp [Addr.add]] at this;exact this
   have hbg:ay.block≠g:=fun e=>by have:=HGY.out ay rfl; omega
   have CY0:=sH (fun(W:zB) (h:Only (fun b=>b=g) w3 W)=>(h.cell (p:=ay) haylt hbg).trans (cy0 w3 (zI _ _)));have CY1:=sH (fun(W:zB) (h:Only (fun b=>b=g) w3 W)=>(h.cell (p:=⟨ay.block,ay.off+1,none⟩) haylt hbg).trans (cy1 w3 (zI _ _)));have hsf:=fun(W:zB)=>Q0L (P:=zG) (t:=29) (e:=3) Tryz.underlying29 (by kernel_rfl) (some ay) ln cy 3 3 rfl (by omega) W
   obtain⟨A7,hA7⟩:∃ A7,A7=(if cy=3 then(some ay:Option zA) else(some ay:Option zA).map (·.add 3)):=⟨_,rfl⟩;rw [<- hA7] at hsf;have HSF:=sH hsf;have hrn:=HRY.out.sub (l:=3) (k:=ln) (cap:=cy) (by omega) (zH _) hcy1;rw [Nat.mul_one,Nat.mul_one,<- hA7] at hrn;have e7:(((nI l).map vn).drop 3).take (ln - 3)=(nI (l.drop 3)).map vn:=by rw [List.take_of_length_le (by rw [List.length_drop,List.length_map,Q1A,<- HLN.out]; omega)];unfold nI;rw [List.map_drop,List.map_drop]
   rw [e7] at hrn;have hfar3:FarN w3 (fun b=>b=g\/k.has b\/b<g) A7 (cy - 3) (nI (l.drop 3)):=by
    have hdl:(nI (l.drop 3)).length=ln - 3:=by rw [Q1A,List.length_drop,<- HLN.out]
    refine⟨by rw [hdl]; exact hrn,⟨by rw [hdl]; omega,by omega⟩,fun a h0 ha hN=>?_⟩;have hba:a.block=ay.block:=by
     rw [hA7] at ha;split at ha
     ·injection ha with ha; rw [<- ha]
     simp only [Option.map_some] at ha;injection ha with ha
     rw [<- ha,Q09]
    have:=HGY.out ay rfl;rw [hba] at hN;rcases hN with e | (e | e | e) | e <;> omega
   have HF3:=sH hfar3;have HDL3:=sH (show (nI (l.drop 3)).length=ln - 3 by rw [Q1A,List.length_drop,<- HLN.out]);obtain⟨m3,hm3⟩:∃ q,q=ln - 3:=⟨_,rfl⟩;rw [<- hm3] at HSF HDL3;obtain⟨q0,hq0⟩:∃ q,q=l.getD 0 0:=⟨_,rfl⟩;obtain⟨q1,hq1⟩:∃ q,q=l.getD 1 0:=⟨_,rfl⟩;rw [<- hq0] at CY0;rw [<- hq1] at CY1;have HQ0:=sH hq0;have HQ1:=sH hq1;obtain⟨cs,hcs⟩:∃ cs,cs=vC none (midO xss 8 4) S:=⟨_,rfl⟩;have HCS:=sH hcs;have hcz:cs.size=20:=by rw [hcs]; exact Q0H _ _ _
   have HJ0:=sH (show HdSt w3 g cs w3 from⟨Only.refl _ _,by rw [hcs]; exact HRW.out.blk⟩);have HCZ:=sH hcz;have hlnI:(0:Int)<(ln:Int):=by omega
   have hlnI1:(1:Int)<(ln:Int):=by omega
   have hln0:¬ ln=0:=by omega
   have hln1:0<ln:=by omega
   clear hsf hA7 hrn e7 hfar3 hm3 hq0 hq1 hcs hcz;simp only [Option.isSome_some];clear hok hgs hln hcell cell cy0 cy1;go_upto_region 22 with fail
   refine Q0Y 20 90 (fun jx W v=>match jx with | 0=>v=.pointer (some ⟨g,0,none⟩) | 1=>v=.pointer (some ⟨g,0,none⟩) | 2=>v=.pointer (some ⟨g,0,none⟩) | 3=>v=.slice (some ay) ln cy | 4=>v=.pointer (some ay) | 5=>v=.int .i64 (q0:Int) | 6=>v=.slice (some ay) ln cy | 7=>v=.pointer (some ⟨ay.block,ay.off+1,none⟩) | 8=>v=.int .i64 (q1:Int) | 9=>v=.slice (some ay) ln cy | 10=>v=.slice A7 m3 (cy - 3) | 11=>v=.pointer (some ⟨g,0,none⟩) | 12=>v=.pointer (some ⟨g,1,none⟩) | 13=>True | 14=>v=.pointer (some ⟨g,0,none⟩) | 15=>v=.pointer (some ⟨g,2,none⟩) | 16=>True | 17=>v=.pointer (some ⟨g,0,none⟩) | 18=>v=.pointer (some ⟨g,19,none⟩) | _=>True) (fun s W=>HdSt w3 g (hdC cs q0 q1 (.slice A7 m3 (cy - 3)) s) W) (fun _ _=>True) [13,16,19] [68,69,70,71,72,73,74,75,76,77,78,79,80,81,82,83,84] (by kernel_rfl) (by kernel_rfl) (by kernel_rfl) (by kernel_rfl) (by simp) (by kernel_rfl) (fun jx=>?last) ?lastR ?jay HJ0.out ?heads ?_
   case last =>
    match jx with
    | 0 | 1 | 2 | 3 | 4 | 5 | 6 | 7 | 8 | 9 | 10 | 11 | 12 | 14 | 15 | 17 | 18=>exact Q1B.pure _
    | 13=>exact fun _ _ _ h _=>h
    | 16=>exact fun _ _ _ h _=>h
    | jx+19=>exact fun _ _ _ h _=>h
   case lastR =>
    intro s jx W W' v hsl hs hj hp hr;match jx with
    | 0 | 1 | 2 | 3 | 4 | 5 | 6 | 7 | 8 | 9 | 10 | 11 | 12 | 14 | 15 | 17 | 18=>exact hp
    | 13=>trivial
    | 16=>trivial
    | jx+19=>trivial
   case jay =>intro s W W' hj hb;exact hj.below hb
   case heads =>
    simp only [tT];and_intros;rotate_right;trivial
    all_goals try(rw [if_neg (by decide)];intro s a W hj hkp hd)
    iterate 3 ·have e0:(_:zC)=.pointer (some ⟨g,0,none⟩):=sK hkp 6;exact sV
    ·have e0:(_:zC)=.slice (some ay) ln cy:=sK hkp 11;exact sV
    ·have e0:=sJ (hd 3) 71;exact sV
    ·have e0:=sJ (hd 4) 72;have cc:=CY0.out W hj.only;exact sV
    ·have e0:(_:zC)=.slice (some ay) ln cy:=sK hkp 11;exact sV
    ·have e0:=sJ (hd 6) 74;exact sV
    ·have e0:=sJ (hd 7) 75;have cc:=CY1.out W hj.only;exact sV
    ·have e0:(_:zC)=.slice (some ay) ln cy:=sK hkp 11;exact sV
    ·have e0:=sJ (hd 9) 77;have hsl:=HSF.out W;exact sV
    ·have e0:=sJ (hd 0) 68;exact sV
    ·have e0:=sJ (hd 11) 79;exact sV
    ·rw [if_pos (by decide)];intro s a W hs hj hkp hd;have e0:=sJ (hd 12) 80;have e1:=sJ (hd 5) 73;obtain rfl:s=0:=Q3c (by decide) rfl hs;have hk:=hj.blk.lt;have cc:W.cell? ⟨g,1,none⟩=some ((hdC cs q0 q1 (.slice A7 m3 (cy - 3)) 0)[1]'(by rw [Q2U,HCZ.out]; omega)):=(hj.blk.cell 1).trans (zK _);have ff:=hj.blk.frozen 1;exact Q2p rfl (W.setCell ⟨g,1,none⟩ (.int .i64 (q0:Int))) (by go_simp) trivial (hj.set_ 1 (.int .i64 (q0:Int))) trivial
    ·have e0:=sJ (hd 1) 69;exact sV
    ·have e0:=sJ (hd 14) 81;exact sV
    ·rw [if_pos (by decide)];intro s a W hs hj hkp hd;have e0:=sJ (hd 15) 82;have e1:=sJ (hd 8) 76;obtain rfl:s=1:=Q3c (by decide) rfl hs;have hk:=hj.blk.lt;have cc:W.cell? ⟨g,2,none⟩=some ((hdC cs q0 q1 (.slice A7 m3 (cy - 3)) 1)[2]'(by rw [Q2U,HCZ.out]; omega)):=(hj.blk.cell 2).trans (zK _);have ff:=hj.blk.frozen 2;exact Q2p rfl (W.setCell ⟨g,2,none⟩ (.int .i64 (q1:Int))) (by go_simp) trivial (hj.set_ 2 (.int .i64 (q1:Int))) trivial
    ·have e0:=sJ (hd 2) 70;exact sV
    ·have e0:=sJ (hd 17) 83;exact sV
    rw [if_pos (by decide)];intro s a W hs hj hkp hd;have e0:=sJ (hd 18) 84;have e1:=sJ (hd 10) 78;obtain rfl:s=2:=Q3c (by decide) rfl hs;have hk:=hj.blk.lt;have cc:W.cell? ⟨g,19,none⟩=some ((hdC cs q0 q1 (.slice A7 m3 (cy - 3)) 2)[19]'(by rw [Q2U,HCZ.out]; omega)):=(hj.blk.cell 19).trans (zK _);have ff:=hj.blk.frozen 19;exact Q2p rfl (W.setCell ⟨g,19,none⟩ (.slice A7 m3 (cy - 3))) (by go_simp) trivial (hj.set_ 19 (.slice A7 m3 (cy - 3))) trivial
   intro f W6 hj6 hd6;have hh:HdSt w3 g (hdC cs q0 q1 (.slice A7 m3 (cy - 3)) 3) W6:=hj6;have hbl:Blk W6 g 64 ((((vC none (midO xss 8 4) S).setIfInBounds 1 (.int .i64 (q0:Int))).setIfInBounds 2 (.int .i64 (q1:Int))).setIfInBounds 19 (.slice A7 (nI (l.drop 3)).length (cy - 3))):=by have:=hh.blk;unfold hdC at this;rw [HCS.out] at this;rw [HDL3.out];exact this
   have hraw:=HRW.out.setH hh.only (.inl rfl) hbl (HF3.out.only hh.only (fun b e=>.inl e));have hme:=Q7B (l:=l) HXL.out;rw [<- HQ0.out,<- HQ1.out] at hme;rw [hme] at hraw;have HRD:=sH (hraw.done HOK.out);have hb6:zE w.heap.size w W6:=HL3.out.trans (hh.only.below HL3.out.size fun b hb e=>by omega);have HB6:=sH hb6;have hs6:=hb6.size;have HMD:=sH (Q8K W6 (.pointer (some ⟨g,0,none⟩)));have hgl6:=HRD.out.blk.lt;clear hd6 hj6 hh hbl hraw hme hb6;simp only [Q0R,tU];try simp only [zM,sA]
   go_wp2_with fail
   refine HMD.out.mono ?_;rintro _ w9 ⟨rfl,hb9⟩;have HB9:=sH (HB6.out.trans (hb9.mono HB6.out.size));clear hb9 HMD;go_wp2_with fail
   go_ret2
   exact⟨(fun hm=>by cases hm),fun m hm=>⟨rfl,HB9.out⟩⟩
 have h13b:((n:Int) != 13)=true:=by simp; omega
 have ho:o=none:=by rw [HO.out];exact Q1S fun hh=>h13 (by rw [<- hxl]; exact hh.1)
 subst ho;clear hr hxl hlx;go_enter Tryz.func15,Tryz.ntmps15
 go_wp2_with fail
 go_ret2
 exact⟨fun _=>⟨rfl,zI _ _⟩,fun m hm=>by cases hm⟩
theorem vLoadNil (k:Book) (A:Option zA) (n c:Nat) (xs:List UInt8) (w:zB) (hkl:k.g<w.heap.size/\k.b1<w.heap.size/\k.b2<w.heap.size) (hr:Q04 w w.heap.size 1 A n (xs.map vb)) (hc:n<=c) (hn:n<=1000000000000) :
 zF zG 18 #[.pointer none,.slice A n c] w (Q7j w (Q1u xs).1 (Q1u xs).2):=by
 obtain⟨o,ho⟩:∃ o,o=(Q1u xs).1:=⟨_,rfl⟩;obtain⟨en,hen⟩:∃ o,o=(Q1u xs).2:=⟨_,rfl⟩;rw [<- ho,<- hen];have HO:=sH ho;have HEN:=sH hen;have HKL:=sH hkl;have HST:=sH (show LdSt w xs A n c (.slice none 0 0) xs [] [] 0 w from⟨hr,hc,OwnL.nil _ _,rfl,(fun x hx=>by simp at hx),rfl,zI _ _⟩);obtain⟨i0,hi0,hz0,hz1,hz2⟩:=info_parts Q5K;clear hr hkl ho hen hc;go_enter Tryz.func18,Tryz.ntmps18
 go_wp2_with fail
 go_loopw [1,6,10] (fun bv lv iv wr=>∃ (A:Option zA) (n c:Nat) (rest:List UInt8) (acc:LL) (vs:List zC) (i:Nat),i<=13/\n<=1000000000000/\bv=.slice A n c/\iv=.int .i64 i/\LdSt w xs A n c lv rest acc vs i wr) (fun _ _ iv _=>13 - (intOf iv).toNat)
 case atStart=>exact⟨_,_,_,_,_,_,0,by omega,hn,rfl,rfl,HST.out⟩
 obtain⟨A,n,c,rest,acc,vs,i,hi,hn,rfl,rfl,hst⟩:=hrel;have HS:=sH hst;have hsz:=hst.low.size;have hrl:rest.length=n:=by have:=hst.rd.1; simpa using this
 have HRL:=sH hrl;clear hrl;by_cases hin:i<13
 ·have hinI:(i:Int)<13:=by omega
  have HT:=sH (Q34 A n c 128 rest wr wr.heap.size hst.rd (zH _) hst.cap (by omega) (by omega));have hgo:=HS.out.go.trans ((congrArg (fun q=>Q2X q rest acc) (show 13 - i=(13 - (i+1))+1 by omega)).trans (Q4K _ rest acc));have hl1:=ts_len rest 128;have hl2:=Q7s rest 128;obtain⟨q,hq⟩:∃ q,q=ts rest 128:=⟨_,rfl⟩;rw [<- hq] at HT hgo hl1 hl2;obtain⟨d,r2,e2⟩:=q;simp only at hgo hl1 hl2;have HT2:=sH (show zF zG 56 #[.slice A n c,.int .i64 128] wr _ from HT.out);have HGO:=sH hgo;have HL1:=sH hl1;have HL2:=sH hl2;clear hst HT hq hgo hl1 hl2;go_wp2_with fail
  refine HT2.out.mono ?_;rintro _ w3 ⟨v,v',rfl,hod,hor,hb3⟩;obtain⟨Au,cu,hv,q1,q2,q3,q4⟩:=Q03 hod;obtain⟨A4,c4,hv',p1,p2,p3,p4⟩:=Q03 hor;subst hv hv';have HP3:=sH p3;have hs3:=hb3.size;have hrn:r2.length<=1000000000000:=by have:=HL1.out; have:=HRL.out; omega
  have hdn:d.length<=1000000000000:=by have:=HL2.out; have:=HRL.out; omega
  obtain⟨u,hu⟩:∃ u,u=Value.slice Au d.length cu:=⟨_,rfl⟩;have HOR:=sH (show OwnB w3 w.heap.size (.slice A4 r2.length c4) r2 from hor.more hsz);have HOD:=sH (show OwnB w3 w.heap.size u d from by rw [hu]; exact hod.more hsz);have HB3:=sH hb3;clear hod hor q1 q2 q3 q4 p2 p3 p4 HT2;obtain⟨nd,hnd⟩:∃ k,k=d.length:=⟨_,rfl⟩;obtain⟨nr,hnr⟩:∃ k,k=r2.length:=⟨_,rfl⟩;rw [<- hnd] at hu hdn ⊢;rw [<- hnr] at hrn p1 HP3 HOR ⊢;have HND:=sH hnd;clear hnd hnr;by_cases he:e2=0
  ·subst he;have HW:=sH (show (w3.alloc (.cells #[u] 28)).ownsRow w.heap.size 28 1 _ i vs from by
    have:=(Q15 HS.out.own.row (w':=w3) fun b hb''=>hb3.block b (Q10 HS.out.own.row hb'').2).alloc (.cells #[u] 28);rw [HS.out.al] at this;exact this)
   have HR3:=sH (Q0m w3 #[u] 28);rw [hu] at HW HR3;have HU:=sH hu;clear hb3 hu;go_wp2_with (at_builtin; go_must (refine Q06 _ rfl (.tmp 21) (.tmp 23) 43 rfl w.heap.size 28 i0 _ 1 24 Tryz.underlying43 hi0 hz0 hz1 hz2 rfl (by omega) _ i vs rfl HW.out (w3.heap.size+1) (some ⟨w3.heap.size,0,none⟩) 1 1 [.slice Au nd cu] rfl HR3.out ?c1 ?c2 ?c3 ?c4 ?_))
   case c1=>intro z hz; rw [List.mem_singleton] at hz; subst hz; rfl
   case c2=>unfold maxLen; omega
   case c3=>omega
   case c4=>simp; omega
   intro v6 w6 hown6 hg6 hor6;rw [<- HU.out] at hown6 hg6;have ho6:OwnL w6 w.heap.size v6 (acc++[d]) (vs++[u]):=HS.out.own.push HB3.out HOD.out (by rw [HS.out.al]; exact hown6) hg6;have hb6:zE w.heap.size w w6:=Q0p ((HS.out.low.trans (HB3.out.mono hsz)).trans ((Q0a w3 (.cells #[u] 28)).mono (by omega))) (by simp; omega) hg6 (fun b hb=>(Q10 HS.out.own.row hb).1);have hrd6:Q04 w6 w6.heap.size 1 A4 nr (r2.map vb):=(HS.out.own.push_keep HB3.out hg6 HOR.out).reads.2.2.2.1;have hst6:LdSt w xs A4 nr c4 v6 r2 (acc++[d]) (vs++[u]) (i+1) w6:=⟨hrd6,p1,ho6,by rw [List.length_append,HS.out.al]; rfl,(by
    intro x hx;rcases List.mem_append.1 hx with hx | hx
    ·exact HS.out.ax x hx
    rw [List.mem_singleton] at hx; rw [hx,<- HND.out]; exact hdn),by rw [HGO.out,if_neg (by simp)],hb6⟩
   have HST6:=sH hst6;clear hown6 hg6 hor6 ho6 hb6 hrd6 hst6;go_wp2_with fail
   go_roundw
   case rel=>exact⟨_,_,_,_,_,_,i+1,by omega,hrn,rfl,by go_num,HST6.out⟩
   case measure=>simp [intOf]; omega
  have heb:((e2:Int) != 0)=true:=by simp; omega
  have hlo:Q1u xs=(none,e2):=by unfold Q1u;rw [HGO.out,if_pos he];simp only;rw [if_pos he]
  have ho:o=none:=by rw [HO.out,hlo]
  have he2:en=e2:=by rw [HEN.out,hlo]
  have HLOW:=sH (HS.out.low.trans (hb3.mono hsz));subst ho he2;clear hb3 hu hlo HO HEN HS;go_wp2_with fail
  go_ret2
  exact⟨fun _=>⟨rfl,HLOW.out⟩,fun m hm=>by cases hm⟩
 obtain rfl:i=13:=by omega
 have hinI:¬ (13:Int)<13:=by omega
 have hlg:Q2X 13 xs []=(acc,rest,0):=by rw [HS.out.go]; rfl
 have HLG:=sH hlg;obtain⟨Al,cl,hlv,hcl,hrows⟩:=HS.out.own.rowsC;rw [HS.out.al] at hlv hrows;subst hlv;have HROWS:=sH hrows;clear hst hlg hrows hcl;by_cases h0:n=0
 ·have h0I:¬ (0:Int)<(n:Int):=by omega
  subst h0;have hlo:Q1u xs=match Q26 acc with | none=>(none,2) | some m=>(some m,0):=by unfold Q1u;rw [HLG.out];simp only;rw [if_neg (by simp),if_neg (by rw [HRL.out]; omega)];cases Q26 acc <;> rfl
  have HBW:=sH (show k.g<wr.heap.size/\k.b1<wr.heap.size/\k.b2<wr.heap.size from by have:=HKL.out; omega);have HOP:=sH (Q7O k Al 13 cl acc wr HBW.out HROWS.out (by omega) (fun x hx=>by have:=HS.out.ax x hx; omega));have hoo:o=Q26 acc:=by rw [HO.out,hlo]; cases Q26 acc <;> rfl
  have hee:o=none->en=2:=fun h=>by rw [HEN.out,hlo,<- hoo,h]
  rw [<- hoo] at HOP;have HEE:=sH hee;have HLOW:=sH HS.out.low;clear hlo hoo hee HO HEN HS HLG;go_wp2_with fail
  refine HOP.out.mono ?_;rintro _ w9 ⟨hno,hso⟩;rcases Option.eq_none_or_eq_some o with hoc | ⟨m,hoc⟩
  ·obtain⟨rfl,hb9⟩:=hno hoc;have HB9:=sH (HLOW.out.trans (hb9.mono hsz));have he2:en=2:=HEE.out hoc;subst he2;subst hoc;clear hno hso hb9 HOP;go_wp2_with fail
   go_ret2
   exact⟨fun _=>⟨rfl,HB9.out⟩,fun m hm=>by cases hm⟩
  obtain⟨rfl,hb9⟩:=hso m hoc;have HB9:=sH (HLOW.out.trans (hb9.mono hsz));subst hoc;clear hno hso hb9 HOP;go_wp2_with fail
  go_ret2
  exact⟨(fun hm=>by cases hm),fun m' hm=>⟨rfl,HB9.out⟩⟩
 have h0I:(0:Int)<(n:Int):=by omega
 have hlo:Q1u xs=(none,4):=by unfold Q1u;rw [HLG.out];simp only;rw [if_neg (by simp),if_pos (by rw [HRL.out]; omega)]
 have ho:o=none:=by rw [HO.out,hlo]
 have he2:en=4:=by rw [HEN.out,hlo]
 have HLOW:=sH HS.out.low;subst ho he2;clear hlo HO HEN HS;go_wp2_with fail
 go_ret2
 exact⟨fun _=>⟨rfl,HLOW.out⟩,fun m hm=>by cases hm⟩
end
section
open Go.RowKit Go.Maps
def vk0:VM:=newV 1
def vk1:VM:=(doV vk0 (Q0B 34 1 0 7)).1
def vk2:VM:=(doV vk1 (Q2C 34 9007199254740991 0 7 1)).1
def vk3:VM:=(doV vk2 (Q2d 1)).1
def vk4:VM:=(doV vk3 (Q2d 0)).1
def vk5:VM:=(doV vk4 (Q2d 0)).1
def Q3T:Wish:=⟨31,1,2,0,1,0,[],0,0,[]⟩
def Q3D:Wish:=⟨31,1,0,0,3,1,[],0,0,[]⟩
def Q62:Wish:=⟨0,0,0,0,0,0,[],0,0,[]⟩
theorem Q7K:(doV vk0 Q3T).1=vk0/\(doV vk0 Q3T).2.2=2:=⟨by kernel_rfl,by kernel_rfl⟩
theorem Q7C:(doV vk0 Q3D).1=vk0/\(doV vk0 Q3D).2.2=2:=⟨by kernel_rfl,by kernel_rfl⟩
theorem Q7q:(doV vk0 Q62).1=vk0/\(doV vk0 Q62).2.2=2:=⟨by kernel_rfl,by kernel_rfl⟩
def Q6L:LL:=(Q01 vk5).set 12 [1,1,3,16,0,0,0]
def vkEnd:VM:=(Q26 Q6L).getD vk0
theorem vk_end:Q26 Q6L=some vkEnd:=by kernel_rfl
theorem vk_epoch:vkEnd.epoch=1048576:=by decide +kernel
def Q7P:VM:=(doV vkEnd (Q2d 1048576)).1
def Q1P (n:Nat):LL :=
 if n=0 then(Q01 vk5).take 12 else if n=1 then(Q01 vk5).set 0 (((Q01 vk5).getD 0 []).take 15) else if n=2 then(Q01 vk5).set 8 [0]
 else if n=3 then(Q01 vk5).set 8 ([0,1,16]++Q0V 1) else if n=4 then(Q01 vk5).set 8 [1,1,1,1,1] else if n=5 then(Q01 vk5).set 9 [1,1,0,0]
 else if n=6 then(Q01 vk5).set 12 [1,3,0,0] else if n=7 then(Q01 vk5).set 12 [1,1,3,16,0,1,0] else if n=8 then(Q01 vk5).set 12 [1,1,0,1,1]
 else if n=9 then(Q01 vk5).set 12 [1,1,0,1,2,1,1,1,2] else(Q01 vk5).set 12 [0,0,0]
theorem Q2I:∀ n,n<11->Q26 (Q1P n)=none:=by decide +kernel
theorem Q1D:(Q01 vk5).length=13:=Q0k vk5
theorem vk_trunc:Q1u ((Q27 vk5).take ((Q27 vk5).length - 1))=(none,3):=by kernel_rfl
theorem Q8P:Q1u (Q27 vk5++[0])=(none,4):=by kernel_rfl
theorem vk_none:Q1u []=(none,3):=by kernel_rfl
theorem vk_long:Q1u [1,200]=(none,5):=by kernel_rfl
theorem vk_some:(Q1u (Q27 vk5)).1.isSome=true:=by decide +kernel
theorem Q5L:(Q27 vk5).length=182:=by kernel_rfl
theorem vk_d0:doV vk0 (Q0B 34 1 0 7)=(vk1,Q24 (Q0V 0),0):=by kernel_rfl
theorem vk_d1:doV vk1 (Q2C 34 9007199254740991 0 7 1)=(vk2,okA,0):=by kernel_rfl
theorem vk_d2:doV vk2 (Q2d 1)=(vk3,errA 171 0,0):=by kernel_rfl
theorem vk_d3:doV vk3 (Q2d 0)=(vk4,okA,0):=by kernel_rfl
theorem vk_d4:doV vk4 (Q2d 0)=(vk5,errA 171 1,0):=by kernel_rfl
def vkEnd2:VM:=(doV Q7P (Q0B 31 1 1048576 7)).1
theorem vk_e0:doV vkEnd (Q2d 1048576)=(Q7P,errA 5 0,0):=by kernel_rfl
theorem vk_e1:doV Q7P (Q0B 31 1 1048576 7)=(vkEnd2,Q24 (Q0V 1),0):=by kernel_rfl
theorem vk_short:∀ x,x∈Q6L->x.length<=1000:=by decide +kernel
theorem Q16:∀ n,n<11->∀ x,x∈Q1P n->x.length<=1000:=by decide +kernel
structure LSt (w0:zB) (V:VLoc) (N:Nat->Prop) (m:VM) (a:Nat) (W:zB):Prop where
 vat:VAt W V N m
 book:∃ L a',Q0d W V.k L a'/\a'<=a/\Q0J L (Q01 m)
 low:zE w0.heap.size w0 W
 nlt:∀ b,N b->b<W.heap.size
 new:∀ b,V.has b->w0.heap.size<=b
theorem LSt.below {w0 W W':zB} {V:VLoc} {N:Nat->Prop} {m:VM} {a:Nat} (h:LSt w0 V N m a W) (hb:zE W.heap.size W W'):LSt w0 V N m a W':=by obtain⟨L,a',h1,h2,h3⟩:=h.book;exact⟨h.vat.below hb,⟨L,a',h1.below hb,h2,h3⟩,h.low.trans (hb.mono h.low.size),fun b hn=>by have:=h.nlt b hn; have:=hb.size; omega,h.new⟩
theorem LSt.only {w0 W W':zB} {V:VLoc} {N:Nat->Prop} {m m':VM} {a:Nat} (h:LSt w0 V N m a W) (ho:Only V.has W W'):zE w0.heap.size w0 W' :=h.low.trans (ho.below h.low.size fun b hb hv=>by have:=h.new b hv; omega)
theorem LSt.did {w0 W W':zB} {V:VLoc} {N:Nat->Prop} {m m':VM} {a a' q asked:Nat} {L:LL} (h:LSt w0 V N m a W) (hd:Q1d W W' V N m' L asked q) (hq:asked+q<=a'):LSt w0 V N m' a' W':=by obtain⟨L',b',h1,h2,h3,h4⟩:=hd.book;exact⟨hd.vat,⟨L',b',h1,by omega,h4⟩,h.only (m':=m') hd.only,fun b hn=>by have:=h.nlt b hn; have:=hd.only.size; omega,h.new⟩
theorem LSt.more {w0 W:zB} {V:VLoc} {N:Nat->Prop} {m:VM} {a a':Nat} (h:LSt w0 V N m a W) (ha:a<=a'):LSt w0 V N m a' W:=by obtain⟨L,b,h1,h2,h3⟩:=h.book;exact⟨h.vat,⟨L,b,h1,by omega,h3⟩,h.low,h.nlt,h.new⟩
theorem LSt.mut {w0 W:zB} {V:VLoc} {N:Nat->Prop} {m:VM} {a:Nat} (h:LSt w0 V N m a W):∀ b,V.has b->b<W.heap.size:=fun b hb=>h.nlt b (h.vat.all b hb)
def DidP (w0:zB) (V:VLoc) (N:Nat->Prop) (a:Nat) (W:zB) (p:VM×Ans×Nat) (r:Ending) (W':zB):Prop :=∃ A3 q3,r=.returned (.tuple #[.agg (aC p.2.1.err A3 p.2.1.data.length q3 p.2.1.epoch),.int .i64 (p.2.2:Int)])/\OwnB W' W.heap.size (.slice A3 p.2.1.data.length q3) p.2.1.data/\LSt w0 V N p.1 (a+6) W'/\Only V.has W W'
theorem LSt.do_ {w0 W:zB} {V:VLoc} {N:Nat->Prop} {m:VM} {a:Nat} (h:LSt w0 V N m a W) (ha:a<=700000) (x:Wish) (A:Option zA) (n c:Nat) (A':Option zA) (n' c':Nat) (B:Nat) (hx:Q14 W B x A n c A' n' c') (hB:B<=W.heap.size) (hap:∀ ad,0<n->A=some ad->ad.block≠V.g) :
 zF zG 8 #[.pointer (some ⟨V.g,0,none⟩),.agg (Q02 x A n c A' n' c')] W (DidP w0 V N a W (doV m x)):=by
 obtain⟨L,a',h1,h2,h3⟩:=h.book;refine(Q9f W V N m L a' h.vat h.nlt h1 h3 (by omega) x A n c A' n' c' B hx hB hap).mono ?_;rintro r W' ⟨D,rfl,⟨A3,q3,rfl,ho⟩,hd⟩;exact⟨A3,q3,rfl,ho,h.did hd (by omega),hd.only⟩
theorem LSt.start {w0 W W':zB} {V:VLoc} {m:VM} {asked:Nat} {L:LL} (hb:zE w0.heap.size w0 W) (hk:w0.heap.size<=V.k.g/\w0.heap.size<=V.k.b1/\w0.heap.size<=V.k.b2) (h:Q32 W W' V.k V L asked m):LSt w0 V V.all m (asked+48) W':=by
 obtain⟨L',a',h1,h2,h3,h4⟩:=h.book;have hs:=hb.size;refine⟨h.vat,⟨L',a',h1,by omega,h4⟩,hb.trans (h.only.below hs fun b hb' hn=>by rcases hn with e | e | e <;> omega),VLoc.all_lt h.vat h1,fun b hb'=>?_⟩;rcases hb' with e | e | e
 ·have:=h.new.1; omega
 ·have:=h.new.2 b (.inr (.inr e)); omega
 rcases e with e | e | e <;> omega
theorem LSt.does_ {w0 W:zB} {V:VLoc} {N:Nat->Prop} {m:VM} {a:Nat} (h:LSt w0 V N m a W) (ha:a<=700000)
 (x:Wish) (A:Option zA) (n c:Nat) (A':Option zA) (n' c':Nat) (hx:Q14 W W.heap.size x A n c A' n' c') (hap:∀ a,0<n->A=some a->a.block≠V.g)
 (y:Ans) (D:Option zA) (k d:Nat) (hy:Q04 W W.heap.size 1 D k (y.data.map vb)) (hyp:∀ a,0<k->D=some a->¬ V.has a.block) (hk:k<=1000000)
 (m':VM) (hres:doV m x=(m',y,0)) (args:Array zC) (hargs:args=#[.pointer (some ⟨V.g,0,none⟩),.agg (Q02 x A n c A' n' c'),.agg (aC y.err D k d y.epoch)]) :
 zF zG 10 args W fun e W'=>e=.returned (.bool true)/\LSt w0 V N m' (a+6) W'/\Only V.has W W':=by
 obtain⟨L,a',h1,h2,h3⟩:=h.book;subst hargs;refine(Q4M W V N m L a' h.vat h.nlt h1 h3 (by omega) x A n c A' n' c' _ hx (zH _) hap y D k d hy hyp hk).mono ?_;rintro e W' ⟨rfl,hd⟩;rw [hres] at hd ⊢;exact⟨by rw [decide_eq_true ⟨rfl,rfl,rfl,rfl⟩],h.did hd (by omega),hd.only⟩
structure Q7T (Va Vb:VLoc):Prop where
 ga:¬ Va.has Vb.g
 gb:¬ Vb.has Va.g
 ta:∀ b,Va.T.has b->¬ Vb.has b
 tb:∀ b,Vb.T.has b->¬ Va.has b
theorem Q7T.swap {Va Vb:VLoc} (h:Q7T Va Vb):Q7T Vb Va:=⟨h.gb,h.ga,h.tb,h.ta⟩
structure LSt2 (w0:zB) (Va Vb:VLoc) (N:Nat->Prop) (ma mb:VM) (a:Nat) (W:zB):Prop where
 vata:VAt W Va N ma
 vatb:VAt W Vb N mb
 kk:Vb.k=Va.k
 book:∃ L a',Q0d W Va.k L a'/\a'<=a/\Q0J L (Q01 ma)/\Q0J L (Q01 mb)
 low:zE w0.heap.size w0 W
 nlt:∀ b,N b->b<W.heap.size
 newa:∀ b,Va.has b->w0.heap.size<=b
 newb:∀ b,Vb.has b->w0.heap.size<=b
 apart:Q7T Va Vb
theorem LSt2.swap {w0 W:zB} {Va Vb:VLoc} {N:Nat->Prop} {ma mb:VM} {a:Nat} (h:LSt2 w0 Va Vb N ma mb a W):LSt2 w0 Vb Va N mb ma a W:=by obtain⟨L,a',h1,h2,h3,h4⟩:=h.book;exact⟨h.vatb,h.vata,h.kk.symm,⟨L,a',h.kk▸h1,h2,h4,h3⟩,h.low,h.nlt,h.newb,h.newa,h.apart.swap⟩
theorem LSt2.below {w0 W W':zB} {Va Vb:VLoc} {N:Nat->Prop} {ma mb:VM} {a:Nat} (h:LSt2 w0 Va Vb N ma mb a W) (hb:zE W.heap.size W W'):LSt2 w0 Va Vb N ma mb a W':=by obtain⟨L,a',h1,h2,h3,h4⟩:=h.book;exact⟨h.vata.below hb,h.vatb.below hb,h.kk,⟨L,a',h1.below hb,h2,h3,h4⟩,h.low.trans (hb.mono h.low.size),fun b hn=>by have:=h.nlt b hn; have:=hb.size; omega,h.newa,h.newb,h.apart⟩
theorem LSt2.more {w0 W:zB} {Va Vb:VLoc} {N:Nat->Prop} {ma mb:VM} {a a':Nat} (h:LSt2 w0 Va Vb N ma mb a W) (ha:a<=a'):LSt2 w0 Va Vb N ma mb a' W:=by obtain⟨L,b,h1,h2,h3⟩:=h.book;exact⟨h.vata,h.vatb,h.kk,⟨L,b,h1,by omega,h3⟩,h.low,h.nlt,h.newa,h.newb,h.apart⟩
theorem LSt2.mut {w0 W:zB} {Va Vb:VLoc} {N:Nat->Prop} {ma mb:VM} {a:Nat} (h:LSt2 w0 Va Vb N ma mb a W):∀ b,Va.has b->b<W.heap.size:=fun b hb=>h.nlt b (h.vata.all b hb)
theorem LSt2.did {w0 W W':zB} {Va Vb:VLoc} {N:Nat->Prop} {ma ma' mb:VM} {a a' q asked:Nat} {L:LL} (h:LSt2 w0 Va Vb N ma mb a W) (hin:Q0J L (Q01 mb)) (hd:Q1d W W' Va N ma' L asked q) (hq:asked+q<=a'):LSt2 w0 Va Vb N ma' mb a' W':=by obtain⟨L',b',h1,h2,h3,h4⟩:=hd.book;exact⟨hd.vat,h.vatb.only hd.only (fun b hb=>h.vata.all b hb) h.apart.ga h.apart.tb,h.kk,⟨L',b',h1,by omega,h4,hin.more h3⟩,h.low.trans (hd.only.below h.low.size fun b hb hv=>by have:=h.newa b hv; omega),fun b hn=>by have:=h.nlt b hn; have:=hd.only.size; omega,h.newa,h.newb,h.apart⟩
theorem VLoc.has_all {V:VLoc} {b:Nat} (h:V.has b):V.all b:=by
 rcases h with e | e | e
 ·exact .inl e
 ·exact .inr (.inr (.inr (.inr e)))
 exact .inr (.inl e)
theorem Q32.all_new {W W':zB} {k:Book} {V:VLoc} {L:LL} {asked:Nat} {m:VM} (h:Q32 W W' k V L asked m) {b:Nat} (hb:V.all b):W.heap.size<=b\/k.has b:=by
 rcases hb with e | e | e
 ·left; have:=h.new.1; omega
 ·right; rw [<- h.kk]; exact e
 left; exact h.new.2 b e
theorem Q1a.not_book {w:zB} {T:Q0O} {k:Book} {ls:LL} (h:Q1a w T k ls):∀ b,T.has b->¬ k.has b:=fun b hb=>by
 obtain⟨b1,b2,b3⟩:=h.book;rcases hb with e | e | ⟨j,hj,e⟩
 ·exact e▸b1
 ·exact e▸b2
 exact e▸b3 j hj
structure LvM (w:zB) (g:Nat) (cur:Array zC) (xss:LL):Prop where
 blk:Blk w g 28 cur
 len:xss.length<=cur.size
 at_:∀ (k:Nat) (x:List UInt8),xss[k]?=some x->∃ Ak mk ck,cur[k]?=some (.slice Ak mk ck)/\Q04 w w.heap.size 1 Ak mk (x.map vb)/\mk<=ck/\(∀ a,Ak=some a->a.block≠g)
theorem OwnL.lvm {w:zB} {B0:Nat} {v:zC} {xss:LL} {vs:List zC} (h:OwnL w B0 v xss vs) (h0:0<xss.length):∃ g cap cur,v=.slice (some ⟨g,0,none⟩) xss.length cap/\B0<=g/\xss.length<=cap/\LvM w g cur xss:=by
 rcases h.row.2 with⟨rfl,e⟩ | ⟨g,cap,cur,rfl,hg,hh,h1,h2,h3,h4⟩
 ·omega
 refine⟨g,cap,cur,rfl,hg,h1,hh,by omega,fun k x hx=>?_⟩;obtain⟨u,hu,ho⟩:=h.at_ k x hx;obtain⟨Ak,ck,rfl,q1,q2,q3,q4⟩:=Q03 ho;refine⟨Ak,x.length,ck,?_,q3,q1,fun a ha e=>?_⟩
 ·rw [<- h4,zJ] at hu;split at hu
  ·simpa using hu
  cases hu
 subst ha;obtain⟨cur2,hc2⟩:=Q4f ho (b:=a.block) (by simp [Value.ownBlock]);rw [e] at hc2;have:=hh.symm.trans hc2;cases this
theorem LvM.below {w w':zB} {g:Nat} {cur:Array zC} {xss:LL} (h:LvM w g cur xss) (hb:zE w.heap.size w w'):LvM w' g cur xss :=⟨h.blk.below' hb,h.len,fun k x hx=>by obtain⟨Ak,mk,ck,h1,h2,h3,h4⟩:=h.at_ k x hx;exact⟨Ak,mk,ck,h1,(h2.below hb).more hb.size,h3,h4⟩⟩
theorem LvM.rowsC {w:zB} {g:Nat} {cur:Array zC} {xss:LL} (h:LvM w g cur xss):Q23 w w.heap.size (some ⟨g,0,none⟩) xss.length xss :=
 ⟨rfl,fun _=>⟨_,rfl,h.blk.lt,fun k x hx=>by
  obtain⟨Ak,mk,ck,h1,h2,h3,h4⟩:=h.at_ k x hx;refine⟨Ak,mk,ck,?_,h2,h3⟩;have:=h.blk.cell k;rw [h1] at this;by_cases hk:k=0
  ·subst hk; simpa [Addr.add] using this
  simpa [Addr.add,hk] using this⟩⟩
theorem LvM.set {w:zB} {g:Nat} {cur:Array zC} {xss:LL} (h:LvM w g cur xss) (i:Nat) (A:Option zA) (m c:Nat) (x:List UInt8) (hr:Q04 w w.heap.size 1 A m (x.map vb)) (hc:m<=c) (hA:∀ a,A=some a->a.block≠g) :
 LvM (w.setCell ⟨g,i,none⟩ (.slice A m c)) g (cur.setIfInBounds i (.slice A m c)) (xss.set i x):=by
 have hT:=Q05.setCell w ⟨g,i,none⟩ (.slice A m c);have hsz:=hT.size;have ho:Only (fun b=>b=g) w (w.setCell ⟨g,i,none⟩ (.slice A m c)):=Only.of_turned hT rfl;refine⟨h.blk.set_ i _,by simpa using h.len,fun k y hy=>?_⟩;by_cases hk:i=k
 ·subst hk;have hl:=(List.getElem?_eq_some_iff.1 hy).1;rw [List.length_set] at hl;rw [List.getElem?_set_self hl] at hy;rw [<- Option.some.inj hy];refine⟨A,m,c,?_,?_,hc,hA⟩
  ·rw [Array.getElem?_setIfInBounds,if_pos rfl,if_pos (by have:=h.len; omega)]
  exact(ho.reads hr (fun a _ ha e=>hA a ha e))
 rw [List.getElem?_set_ne hk] at hy;obtain⟨Ak,mk,ck,h1,h2,h3,h4⟩:=h.at_ k y hy;refine⟨Ak,mk,ck,?_,?_,h3,h4⟩
 ·rw [Array.getElem?_setIfInBounds,if_neg hk]; exact h1
 exact(ho.reads h2 (fun a _ ha e=>h4 a ha e))
theorem Q23.take {w:zB} {B n k:Nat} {A:Option zA} {xss:LL} (h:Q23 w B A n xss) (hk:k<=n):Q23 w B A k (xss.take k) :=
 ⟨by rw [List.length_take,h.1]; omega,fun _=>by
  obtain⟨ad,h1,h2,h3⟩:=h.2 (by omega);refine⟨ad,h1,h2,fun j x hx=>h3 j x ?_⟩;rw [zJ] at hx;split at hx
  ·exact hx
  cases hx⟩
theorem LSt.again2 {w0 W W':zB} {Va V:VLoc} {N:Nat->Prop} {ma m:VM} {a asked:Nat} {L:LL} (h:LSt w0 Va N ma a W) (hN:∀ b,Va.all b->N b) (hn:Q32 W W' Va.k V L asked m) (hin:Q0J L (Q01 ma)):LSt2 w0 Va V (fun b=>Va.all b\/V.all b) ma m (asked+48) W':=by
 obtain⟨L',a',q1,q2,q3,q4⟩:=hn.book;have hs:=hn.only.size;have hal:∀ b,Va.all b->b<W.heap.size:=fun b hb=>h.nlt b (hN b hb)
 have hkb:=hn.kk;have hbl:∀ b,V.all b->b<W'.heap.size:=VLoc.all_lt hn.vat (hkb▸q1);have hvb:∀ b,V.all b->W.heap.size<=b\/Va.k.has b:=fun b hb=>hn.all_new hb
 have hTk:=h.vat.tree.not_book;have hm:=h.vat.mono (N':=fun b=>Va.all b\/V.all b) (fun b hb hn'=>by
  rcases hn' with e | e
  ·exact hN b e
  rcases hvb b e with e | e
  ·omega
  exact hN b (.inr (.inl e))) (fun b hb=>.inl (VLoc.has_all hb))
 refine⟨hm.only hn.only (fun b e=>.inl (.inr (.inl e))) h.vat.far.2 hTk,hn.old.mono (fun b hb hn'=>?_) (fun b hb=>.inr (VLoc.has_all hb)),hkb,⟨L',a',q1,by omega,hin.more q3,q4⟩,h.low.trans (hn.only.below h.low.size fun b hb e=>by have:=h.new b (.inr (.inr e)); omega),?_,h.new,?_,⟨?_,?_,?_,?_⟩⟩
 ·rcases hn' with e | e
  ·right; have:=hal b e; have:=hn.new.1; omega
  exact .inl e
 ·rintro b (e | e)
  ·have:=hal b e; omega
  exact hbl b e
 ·intro b hb;rcases hvb b (VLoc.has_all hb) with e | e
  ·have:=h.low.size; omega
  exact h.new b (.inr (.inr e))
 ·intro hv;have:=hal _ (VLoc.has_all hv);have:=hn.new.1;omega
 ·intro hv;rcases hvb _ (VLoc.has_all hv) with e | e
  ·have:=hal Va.g (.inl rfl); omega
  exact h.vat.far.2 e
 ·intro b hb hv;rcases hvb _ (VLoc.has_all hv) with e | e
  ·have:=hal b (.inr (.inr hb)); omega
  exact hTk b hb e
 intro b hb hv;have:=hn.new.2 b hb;have:=hal b (VLoc.has_all hv);omega
theorem LSt2.does2 {w0 W:zB} {V Vb:VLoc} {N:Nat->Prop} {m mb:VM} {a:Nat} (h:LSt2 w0 V Vb N m mb a W) (ha:a<=700000)
 (x:Wish) (A:Option zA) (n c:Nat) (A':Option zA) (n' c':Nat) (hx:Q14 W W.heap.size x A n c A' n' c') (hap:∀ a,0<n->A=some a->a.block≠V.g)
 (y:Ans) (D:Option zA) (k d:Nat) (hy:Q04 W W.heap.size 1 D k (y.data.map vb)) (hyp:∀ a,0<k->D=some a->¬ V.has a.block) (hk:k<=1000000)
 (m':VM) (hres:doV m x=(m',y,0)) (args:Array zC) (hargs:args=#[.pointer (some ⟨V.g,0,none⟩),.agg (Q02 x A n c A' n' c'),.agg (aC y.err D k d y.epoch)]) :
 zF zG 10 args W fun e W'=>e=.returned (.bool true)/\LSt2 w0 V Vb N m' mb (a+6) W'/\Only V.has W W':=by
 obtain⟨L,a',h1,h2,h3,h4⟩:=h.book;subst hargs;refine(Q4M W V N m L a' h.vata h.nlt h1 h3 (by omega) x A n c A' n' c' _ hx (zH _) hap y D k d hy hyp hk).mono ?_;rintro e W' ⟨rfl,hd⟩;rw [hres] at hd ⊢;exact⟨by rw [decide_eq_true ⟨rfl,rfl,rfl,rfl⟩],h.did h4 hd (by omega),hd.only⟩
theorem LSt2.one {w0 W:zB} {Va Vb:VLoc} {N:Nat->Prop} {ma mb:VM} {a:Nat} (h:LSt2 w0 Va Vb N ma mb a W):LSt w0 Va N ma a W:=by obtain⟨L,a',h1,h2,h3,h4⟩:=h.book;exact⟨h.vata,⟨L,a',h1,h2,h3⟩,h.low,h.nlt,h.newa⟩
theorem LSt.open_ {w0 W:zB} {V:VLoc} {N:Nat->Prop} {m mo:VM} {a:Nat} (h:LSt w0 V N m a W) (hN:∀ b,V.all b->N b) (ha:a<=600000) (A:Option zA) (n c:Nat) (xss:LL) (hr:Q23 W W.heap.size A n xss) (hn:n<=1000000) (hlx:∀ x,x∈xss->x.length<=1000) (ho:Q26 xss=some mo) :
 zF zG 15 #[.pointer (some ⟨V.k.g,0,none⟩),.slice A n c] W fun e W'=>∃ V2:VLoc,e=.returned (.tuple #[.pointer (some ⟨V2.g,0,none⟩),.int .i64 0])/\LSt2 w0 V V2 (fun b=>V.all b\/V2.all b) m mo (a+48) W'/\W.heap.size<=V2.g:=by
 obtain⟨L,a',h1,h2,h3⟩:=h.book;refine(Q4w V.k L a' A n c xss W h1 (by omega) hr (by omega) (fun x hx=>by have:=hlx x hx; omega)).mono ?_;rintro e W' ⟨_,hs⟩;obtain⟨V2,rfl,hna⟩:=hs mo ho;exact⟨V2,rfl,(h.again2 hN hna h3).more (by omega),hna.new.1⟩
theorem LSt.openBad {w0 W:zB} {V:VLoc} {N:Nat->Prop} {m:VM} {a:Nat} (h:LSt w0 V N m a W) (ha:a<=600000) (A:Option zA) (n c:Nat) (xss:LL) (hr:Q23 W W.heap.size A n xss) (hn:n<=1000000) (hlx:∀ x,x∈xss->x.length<=1000) (ho:Q26 xss=none) :
 zF zG 15 #[.pointer (some ⟨V.k.g,0,none⟩),.slice A n c] W fun e W'=>e=.returned (.tuple #[.pointer none,.int .i64 2])/\zE W.heap.size W W':=by
 obtain⟨L,a',h1,h2,h3⟩:=h.book;refine(Q4w V.k L a' A n c xss W h1 (by omega) hr (by omega) (fun x hx=>by have:=hlx x hx; omega)).mono ?_;rintro e W' ⟨hs,_⟩;exact hs ho
theorem LSt.loadBad {w0 W:zB} {V:VLoc} {N:Nat->Prop} {m:VM} {a:Nat} (h:LSt w0 V N m a W) (ha:a<=600000) (A:Option zA) (n c:Nat) (xs:List UInt8) (hr:Q04 W W.heap.size 1 A n (xs.map vb)) (hc:n<=c) (hn:n<=1000000) (q:Nat) (z:Int) (hz:(q:Int)=z) (ho:Q1u xs=(none,q)) :
 zF zG 18 #[.pointer (some ⟨V.k.g,0,none⟩),.slice A n c] W fun e W'=>e=.returned (.tuple #[.pointer none,.int .i64 z])/\zE W.heap.size W W':=by
 obtain⟨L,a',h1,h2,h3⟩:=h.book;have hl:=Q92 V.k L a' A n c xs W h1 (by omega) hr hc (by omega);rw [ho] at hl;refine hl.mono ?_;rintro e W' ⟨hs,_⟩;subst hz;exact hs rfl
theorem LSt.loadNone {w0 W:zB} {V:VLoc} {N:Nat->Prop} {m:VM} {a:Nat} (h:LSt w0 V N m a W) (A:Option zA) (n c:Nat) (xs:List UInt8) (hr:Q04 W W.heap.size 1 A n (xs.map vb)) (hc:n<=c) (hn:n<=1000000) (ho:(Q1u xs).1.isSome=true) :
 zF zG 18 #[.pointer none,.slice A n c] W fun e W'=>e=.returned (.tuple #[.pointer none,.int .i64 1])/\zE W.heap.size W W':=by
 obtain⟨L,a',h1,h2,h3⟩:=h.book;obtain⟨x,hx⟩:=Option.isSome_iff_exists.1 ho;refine(vLoadNil V.k A n c xs W h1.lt hr hc (by omega)).mono ?_;rintro e W' ⟨_,hs⟩;exact hs x hx
theorem Q04.take_ {w:zB} {B n k:Nat} {A:Option zA} {xs:List zC} (h:Q04 w B 1 A n xs) (hk:k<=n):Q04 w B 1 A k (xs.take k) :=
 ⟨by have:=h.1; rw [List.length_take]; omega,fun h0=>by
  obtain⟨ad,h1,h2,h3⟩:=h.2 (by omega);refine⟨ad,h1,h2,fun j x hx=>h3 j x ?_⟩;rw [zJ] at hx;split at hx
  ·exact hx
  cases hx⟩
end
end Go.Proofs.YtckjnbjiafgibaaGreat
