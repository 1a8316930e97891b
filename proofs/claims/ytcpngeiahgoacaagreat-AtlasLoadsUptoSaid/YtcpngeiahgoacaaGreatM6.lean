/- Parts of the proof, in one text. -/
import Derived.Test.YtcpngeiahgoacaaGreatM5
import Derived.BigRegion
import Derived.Test.YtcpngeiahgoacaaGreatRows
import Derived.Test.YtcpngeiahgoacaaGreatM1
import Derived.Test.YtcpngeiahgoacaaGreatM4
import Derived.Laws.StructEq
import Derived.Laws.IdiomStrings
import Derived.Laws.BytesArg
import Derived.Deep.DeepCutAuto
namespace Go.Proofs.YtcpngeiahgoacaaGreat
set_option linter.unusedVariables false
set_option linter.unusedSimpArgs false
set_option maxRecDepth 100000
set_option maxHeartbeats 16000000
open _root_.Go renaming Addr->zA,World->zB,Value->zC,Calls->zI
open _root_.Go.Act renaming put->zQ
open _root_.Go.Proofs.Tryz renaming prog->zK,underlying22->zR,underlying60->zS,underlying42->zV
open _root_.Go.RowKit renaming Below->zE
open _root_.Go.RowKit.Below renaming refl->zN
open _root_.Go.Value renaming ownBlock->zF
open _root_.Go.World renaming block_lt_of_cell?->zO
open _root_.List renaming getElem?_eq_getElem->zD,eq_nil_of_length_eq_zero->zH,length_append->zM,take_of_length_le->zP,length_set->zT,take_succ_eq_append_getElem->zU
open _root_.Nat renaming eq_zero_or_pos->zG,le_refl->zL
open _root_.UInt8 renaming ofNat->zJ
section
open Go.RowKit Go.Maps
theorem Q6u (w:zB) (t:Nat) (p:Nat) (h:w.cell? ⟨t,0,none⟩=some (.pointer (some ⟨p,0,none⟩))) :
 zI zK 133 #[.pointer (some ⟨t,0,none⟩)] w fun e w'=>e=.returned (.bool false)/\w=w':=by
 go_enter Tryz.func133,Tryz.ntmps133
 go_wp2
 go_ret
 exact⟨rfl,rfl⟩
theorem QaE (w:zB) (T:Q1G) (k:Book) (ls:LL) (h:Q2e w T k ls) :
 zI zK 85 #[.pointer (some ⟨T.t,0,none⟩)] w fun e w'=>e=.returned (.tuple #[.agg (bRow (Q2z ls)),.int .i64 0])/\zE w.heap.size w w':=by
 have h1:=Qa2 ls h.len.1 h.len.2;have HN:=sH (fun(W:zB) (hb:zE w.heap.size w W)=>Q6u W T.t k.g ((hb.cell h.tlt).trans h.c0));have hX:=Q04 w (.cells inkZ 60);have c6:=(hX.cell (p:=⟨T.t,6,none⟩) h.tlt).trans h.c6;have cr:=(hX.cell (p:=⟨T.r,2,none⟩) h.rlt).trans (h.rj 2 (zL _));rw [h1.1] at cr;have hd:=(h.dig 2 (zL _)).keep (w':=w.alloc (.cells inkZ 60)) (hX.block _ (h.dig 2 (zL _)).lt);rw [h1.1] at hd;obtain⟨cur,hbk,hcs,hct⟩:=hd.row;have hc1:=hd.cap.1;have hdat:∀ j,j<32->cur[0+j]?=(bRow (Q2z ls))[j]?:=fun j hj=>by
  have e:cur.toList[j]?=(Q0o [Q2z ls])[j]?:=by rw [<- hct,List.getElem?_take,if_pos (by simp; omega)]
  rw [Nat.zero_add,<- Array.getElem?_toList,e];simp [Q0o,bRow]
 have hds:=Q0E h1.2;have hdo:=Q0K (Q2z ls);obtain⟨D,hD⟩:∃ D,D=bRow (Q2z ls):=⟨_,rfl⟩;rw [<- hD] at hdat hds hdo ⊢;have HZS:=sH (show inkZ.size=32 by simp [inkZ,bRow]);have HZ:=sH Q1Y;have HDT:=sH hdat;have HDS:=sH hds;have HDO:=sH hdo;have HBK:=sH hbk;have hk0:Blk (w.alloc (.cells inkZ 60)) w.heap.size 60 inkZ:=Blk.newAt rfl;have HK0:=sH hk0;have HX:=sH hX;have C6:=sH c6;have CR:=sH cr;have hgl:T.gs 2<w.heap.size:=(h.dig 2 (zL _)).lt;clear h hd hct hdat hds hdo hbk hk0 hX c6 cr h1 hD hcs;obtain⟨t,ht⟩:∃ t,t=T.t:=⟨_,rfl⟩;obtain⟨r,hr⟩:∃ t,t=T.r:=⟨_,rfl⟩;obtain⟨rc,hrc⟩:∃ t,t=T.rc:=⟨_,rfl⟩;obtain⟨g2,hg2⟩:∃ t,t=T.gs 2:=⟨_,rfl⟩;obtain⟨c2,hc2⟩:∃ t,t=T.cs 2:=⟨_,rfl⟩;rw [<- ht] at HN C6 ⊢;rw [<- hr,<- hrc] at C6;rw [<- hr,<- hg2,<- hc2] at CR;rw [<- hg2] at HBK hgl;clear ht hr hrc hg2 hc2 hc1;have hwl:w.heap.size<(w.alloc (.cells inkZ 60)).heap.size:=by simp
 obtain⟨g,hg⟩:∃ g,g=w.heap.size:=⟨_,rfl⟩;go_enter Tryz.func85,Tryz.ntmps85
 go_upto_region 1 with fail
 rw [<- HZ.out];generalize World.alloc w _=w1 at HX C6 CR HBK HK0 hwl ⊢;rw [<- hg] at HK0 hwl ⊢;have hgw:w.heap.size<=g:=by omega
 clear hg;go_wp2_with fail
 refine(HN.out w1 HX.out).mono ?_;rintro _ _ ⟨rfl,rfl⟩;go_upto_region 3 with fail
 have l6:=zO _ _ C6.out;have lr:=zO _ _ CR.out;have c6:=fun(W:zB) (hb:zE w1.heap.size w1 W)=>(hb.cell l6).trans C6.out
 have cr:=fun(W:zB) (hb:zE w1.heap.size w1 W)=>(hb.cell lr).trans CR.out
 refine Q0r 14 21 (by kernel_rfl) (by kernel_rfl) (by kernel_rfl) (by simp) ?_;simp only [tT,tU];refine tC (.pointer (some ⟨t,0,none⟩)) ?_;try simp only [zQ,sA]
 refine tC (.pointer (some ⟨t,0,none⟩)) ?_;try simp only [zQ,sA]
 refine tC (.pointer (some ⟨t,6,none⟩)) ?_;try simp only [zQ,sA]
 refine Q0k rfl rfl (.slice (some ⟨r,0,none⟩) 3 rc) (fun W hb=>by have:=c6 W hb; go_simp) ?_;try simp only [zQ,sA]
 refine tC (.pointer (some ⟨t,0,none⟩)) ?_;try simp only [zQ,sA]
 refine tC (.pointer (some ⟨t,0,none⟩)) ?_;try simp only [zQ,sA]
 refine tC (.pointer (some ⟨t,6,none⟩)) ?_;try simp only [zQ,sA]
 refine Q0k rfl rfl (.slice (some ⟨r,0,none⟩) 3 rc) (fun W hb=>by have:=c6 W hb; go_simp) ?_;try simp only [zQ,sA]
 refine tC (.int .i64 3) ?_;try simp only [zQ,sA]
 refine Q3r rfl rfl (.int .i64 2) (fun W _=>by go_simp <;> rfl) ?_;try simp only [zQ,sA]
 refine tC (.pointer (some ⟨r,2,none⟩)) ?_;try simp only [zQ,sA]
 refine Q0k rfl rfl (.slice (some ⟨g2,0,none⟩) 1 c2) (fun W hb=>by have:=cr W hb; go_simp) ?_;try simp only [zQ,sA]
 refine tC (.pointer (some ⟨g2,0,none⟩)) ?_;try simp only [zQ,sA]
 refine Q0Q rfl 60 (.tmp 19) rfl g2 0 32 rfl 60 _ D _ HBK.out zS rfl rfl HDS.out HDT.out ?_;try simp only [zQ,sA]
 refine Q0M ?_;intro w2 hb2;have HK2:=sH (HK0.out.below' hb2);have HB2:=sH (HX.out.trans (hb2.mono HX.out.size));clear hb2 c6 cr;go_wp2_with (refine Q00 (o:=⟨none,_,_,_,_,_⟩) rfl 60 (.tmp 2) (.tmp 20) rfl g 0 D rfl rfl 60 inkZ HK2.out (by rw [HDS.out]; rfl) (by rw [HDS.out,HZS.out]; omega) HDO.out ?_; intro w5 hT5 hD5; rw [Q0c _ _ (by rw [HDS.out,HZS.out])] at hD5)
 refine bodyPost_ret (Q09 rfl _ _ g 32 60 _ _ rfl hD5 zS rfl rfl HDS.out) rfl ⟨rfl,?_⟩;exact hT5.below HB2.out (by omega)
end
section
open Go.RowKit Go.Maps
attribute [local irreducible] wpList
def posT (i:Nat):Nat->Nat
 | 0=>i
 | n+1=>posT i n / 4
def dgT (ls':LL) (i:Nat) (x:List UInt8):Nat->List UInt8
 | 0=>Q1z x
 | n+1=>upD (grp (lv ls' n) (posT i (n+1)))
theorem QdL (ls':LL) (i:Nat) (x:List UInt8):∀ n,(dgT ls' i x n).length=32
 | 0=>Q2o x
 | n+1=>Q58 _
theorem Qbo (ls:LL) (i:Nat) (x:List UInt8) (h:i<ls.length):∀ n,posT i n<(lv ls n).length/\lv (ls.set i x) n=(lv ls n).set (posT i n) (dgT (ls.set i x) i x n)
 | 0=>⟨by rw [Q70]; exact h,QdW ls i x⟩
 | n+1=>by
  obtain⟨h1,h2⟩:=Qbo ls i x h n;refine⟨?_,?_⟩
  ·show posT i n / 4<(Q2w (lv ls n)).length;rw [Q37]; unfold grps; omega
  show Q2w (lv (ls.set i x) n)=(Q2w (lv ls n)).set (posT i n / 4) (upD (grp (lv (ls.set i x) n) (posT i n / 4)));rw [h2];exact Qdp _ _ _ h1
structure Qaz (w w':zB) (k:Book) (L:LL) (a:Nat):Prop where
 book:Q0y w' k L a
 only:Only k.has w w'
theorem Qaz.below {w w' w'':zB} {k:Book} {L:LL} {a:Nat} (h:Qaz w w' k L a) (hb:zE w'.heap.size w' w''):Qaz w w'' k L a:=⟨h.book.below hb,h.only.trans (Only.of_below hb)⟩
structure QcM (w w':zB) (k:Book) (L:LL) (a g:Nat) (D:Array zC):Prop where
 book:Q0y w' k L a
 only:Only (fun b=>k.has b\/b=g) w w'
 blk:Blk w' g 60 D
theorem QcM.below {w w' w'':zB} {k:Book} {L:LL} {a g:Nat} {D:Array zC} (h:QcM w w' k L a g D) (hb:zE w'.heap.size w' w''):QcM w w'' k L a g D:=⟨h.book.below hb,h.only.trans (Only.of_below hb),h.blk.below' hb⟩
structure SetSt (w wr:zB) (T:Q1G) (k:Book) (L:LL) (asked:Nat) (ls:LL) (i:Nat) (xs:List UInt8) (g7 n:Nat):Prop where
 dig:∀ j,j<=2->Q29 wr (T.gs j) (T.cs j) (if j<n then lv (ls.set i xs) j else lv ls j)
 book:∃ L' a',Q0y wr k L' a'/\a'<=asked+1+min n 2/\(∀ x,x∈L->x∈L')/\Q2v xs∈L'/\(1<=n->upIn (grp (lv (ls.set i xs) 0) (i / 4))∈L')/\(2<=n->upIn (lv (ls.set i xs) 1)∈L')
 only:Only (fun b=>T.mut b\/k.has b) w wr
 blk:Blk wr g7 60 (bRow (dgT (ls.set i xs) i xs (min n 2)))
theorem Qb0 (T:Q1G) (k:Book) (ls L:LL) (asked i:Nat) (A:Option zA) (m c:Nat) (xs:List UInt8) (w:zB) (B:Nat) (hT:Q2e w T k ls) (hbk:Q0y w k L asked) (h:Q08 w B 1 A m (xs.map vb)) (hB:B<=w.heap.size) (hi:i<ls.length) (hm:m<65536) (has:asked<=900000) :
 zI zK 126 #[.pointer (some ⟨T.t,0,none⟩),.int .i64 (i:Int),.slice A m c] w fun e w'=>e=.returned (.int .i64 0)/\Q2e w' T k (ls.set i xs) /\
  (∃ L' a',Q0y w' k L' a'/\a'<=asked+3/\(∀ x,x∈L->x∈L')/\(∀ L0,(∀ x,x∈L0->x∈L)->Q20 L0 ls->Q20 L' (ls.set i xs)))/\Only (fun b=>T.mut b\/k.has b) w w':=by
 have hlen:=hT.len;have HT:=sH hT;have hlt:=hbk.lt;have hbook:=hT.book;have hfar:=hT.far;have htlt:=hT.tlt;have hrlt:=hT.rlt;have hglt:=fun j hj=>(hT.dig j hj).lt
 have HGL:=sH hglt;have HNE:=sH hT.ne;have c0:=hT.c0;have c1:=hT.c1;have HN:=sH (Q6u w T.t k.g hT.c0);have HLF:=sH (Qc2 k L asked A m c xs w B hbk h hB hm (by omega));have hiI:(i:Int)<(ls.length:Int):=by omega
 have hi0:¬ (i:Int)<0:=by omega
 have hiL:¬ (ls.length:Int)<=(i:Int):=by omega
 have HZS:=sH (show inkZ.size=32 by simp [inkZ,bRow]);have HZ:=sH Q1Y;have hC0:∀ W,Only (fun b=>T.mut b\/k.has b) w W->W.cell? ⟨T.t,0,none⟩=some (.pointer (some ⟨k.g,0,none⟩)):=fun W ho=>(ho.cell htlt (by rintro (e | e); exact hfar.1 e; exact hbook.1 e)).trans hT.c0
 have hC6:∀ W,Only (fun b=>T.mut b\/k.has b) w W->W.cell? ⟨T.t,6,none⟩=some (.slice (some ⟨T.r,0,none⟩) 3 T.rc):=fun W ho=>(ho.cell htlt (by rintro (e | e); exact hfar.1 e; exact hbook.1 e)).trans hT.c6
 have hCR:∀ W,Only (fun b=>T.mut b\/k.has b) w W->∀ j,j<=2->W.cell? ⟨T.r,j,none⟩=some (.slice (some ⟨T.gs j,0,none⟩) (lv ls j).length (T.cs j)):=fun W ho j hj=>(ho.cell hrlt (by rintro (e | e); exact hfar.2 e; exact hbook.2.1 e)).trans (hT.rj j hj)
 have HC0:=sH hC0;have HC6:=sH hC6;have HCR:=sH hCR;have HBK:=sH hbook;have hds:(bRow (Q1z xs)).size=32:=Q0E (Q2o xs);have hdo:=Q0K (Q1z xs);obtain⟨D,hD⟩:∃ D,D=bRow (Q1z xs):=⟨_,rfl⟩;rw [<- hD] at HLF hds hdo;have HD:=sH hD;have HDS:=sH hds;have HDO:=sH hdo;have HDIG:=sH hT.dig;obtain⟨t,ht⟩:∃ t,t=T.t:=⟨_,rfl⟩;obtain⟨r,hr⟩:∃ t,t=T.r:=⟨_,rfl⟩;obtain⟨rc,hrc⟩:∃ t,t=T.rc:=⟨_,rfl⟩;rw [<- ht] at HN HC0 HC6 c0 c1 htlt hfar hbook ⊢;rw [<- hr] at HC6 HCR hrlt hfar hbook;rw [<- hrc] at HC6;have HFAR:=sH hfar;have HTE:=sH ht;have HRE:=sH hr;have HCE:=sH hrc;clear hT hbk h hD hds hdo hC0 hC6 hCR hbook hglt hfar ht hr hrc;go_enter Tryz.func126,Tryz.ntmps126
 go_wp2_with fail
 refine HN.out.mono ?_;rintro _ _ ⟨rfl,rfl⟩;go_wp2_with fail
 refine HLF.out.mono ?_;rintro _ w3 ⟨rfl,hbk3,ho3⟩;have HBK3:=sH hbk3;have HO3:=sH (Only.of_book ho3);have hs3:=ho3.size;clear hbk3 ho3 HN HLF c0 c1;go_upto_region 6 with(refine Q00 (o:=⟨none,_,_,_,_,_⟩) rfl 60 (.tmp 7) (.tmp 31) rfl w3.heap.size 0 D rfl rfl 60 inkZ (by rw [HZ.out]; exact Blk.newAt rfl) (by rw [HDS.out]; rfl) (by rw [HDS.out,HZS.out]; omega) HDO.out ?_; intro w4 hT4 hD4; rw [Q0c _ _ (by rw [HDS.out,HZS.out])] at hD4)
 have hb4:zE w3.heap.size w3 w4:=hT4.below ((zN _ _).alloc (zL _) _) (zL _);have hs4:=hb4.size;obtain⟨g7,hg7⟩:∃ g,g=w3.heap.size:=⟨_,rfl⟩;rw [<- hg7] at hD4 ⊢;have hg7w:w.heap.size<=g7:=by omega
 have ho4:Only (fun b=>T.mut b\/k.has b) w w4:=(HO3.out.mono (fun b _ h=>.inr h)).trans (Only.of_below hb4);have hst:SetSt w w4 T k L asked ls i xs g7 0:=by refine⟨fun j hj=>?_,⟨_,_,HBK3.out.below hb4,by omega,fun x hx=>Q2A hx,Q3G _ _,fun h=>by omega,fun h=>by omega⟩,ho4,by rw [HD.out] at hD4; exact hD4⟩;rw [if_neg (by omega)];have hd:=HDIG.out j hj;refine hd.keep ((hb4.block _ (by have:=hd.lt; omega)).trans (HO3.out.block _ hd.lt (HBK.out.2.2 j hj)))
 have HST:=sH hst;have c6:=HC6.out w4 ho4;clear hT4 hD4 hb4 hg7 ho4 hst HBK3 HO3 HD HDS HDO;go_wp2_with fail
 go_loopw [1,41] (fun pv nv wr=>∃ n:Nat,n<=3/\nv=.int .i64 (n:Int)/\pv=.int .i64 (posT i (min n 2):Int)/\SetSt w wr T k L asked ls i xs g7 n) (fun _ nv _=>3 - (intOf nv).toNat)
 case atStart=>exact⟨0,by omega,rfl,rfl,HST.out⟩
 obtain⟨n,hn,rfl,rfl,hst⟩:=hrel;have HS:=sH hst;have hsz:=hst.only.size;clear hst c6;by_cases hn3:n<3
 ·have hni:(n:Int)<3:=by omega
  have hmin:min n 2=n:=by omega
  rw [hmin];obtain⟨hp1,hp2⟩:=Qbo ls i xs hi n;have HP2:=sH hp2;obtain⟨pn,hpn⟩:∃ p,p=posT i n:=⟨_,rfl⟩;have hpn1:posT i (n+1)=pn / 4:=by rw [hpn]; rfl
  rw [<- hpn] at hp1 HP2 ⊢;have HPN:=sH hpn;have HPN1:=sH hpn1;obtain⟨ln,hln⟩:∃ l,l=(lv ls n).length:=⟨_,rfl⟩;obtain⟨gn,hgn⟩:∃ g,g=T.gs n:=⟨_,rfl⟩;obtain⟨cn,hcn⟩:∃ c,c=T.cs n:=⟨_,rfl⟩;have hlc:=Q9L hlen.1 hlen.2 n (by omega);rw [<- hln] at hp1 hlc;have HLN:=sH hln;have HGN:=sH hgn;have HCN:=sH hcn;have HLC:=sH hlc;have hln16:=hlc.2.1;have hgnl:gn<w.heap.size:=by rw [hgn]; exact HGL.out n (by omega)
  have hpnI:(pn:Int)<(ln:Int):=by omega
  have hcr0:=HCR.out wr HS.out.only n (by omega);rw [<- hln,<- hgn,<- hcn] at hcr0;have lr:=zO _ _ hcr0;have lt0:=zO _ _ (HC6.out wr HS.out.only);have c6:=fun(W:zB) (hb:zE wr.heap.size wr W)=>(hb.cell lt0).trans (HC6.out wr HS.out.only)
  have cr:=fun(W:zB) (hb:zE wr.heap.size wr W)=>(hb.cell lr).trans hcr0
  have hbk7:=HS.out.blk;rw [hmin] at hbk7;have hds:(bRow (dgT (ls.set i xs) i xs n)).size=32:=Q0E (QdL _ _ _ _);have hdo:=Q0K (dgT (ls.set i xs) i xs n);obtain⟨D,hD⟩:∃ D,D=bRow (dgT (ls.set i xs) i xs n):=⟨_,rfl⟩;rw [<- hD] at hbk7 hds hdo;have HD:=sH hD;have HDS:=sH hds;have HDO:=sH hdo;have HK7:=sH hbk7;have hg7l:=hbk7.lt;clear hD hds hdo hbk7 hcr0 hln hgn hcn hlc hpn hpn1;go_upto_region 11 with fail
  refine Q0r 10 82 (by kernel_rfl) (by kernel_rfl) (by kernel_rfl) (by simp) ?_;simp only [tT,tU];refine tC (.pointer (some ⟨t,0,none⟩)) ?_;try simp only [zQ,sA]
  refine tC (.pointer (some ⟨t,0,none⟩)) ?_;try simp only [zQ,sA]
  refine tC (.pointer (some ⟨t,6,none⟩)) ?_;try simp only [zQ,sA]
  refine Q0k rfl rfl (.slice (some ⟨r,0,none⟩) 3 rc) (fun W hb=>by have:=c6 W hb; go_simp) ?_;try simp only [zQ,sA]
  refine tC (.int .i64 (n:Int)) ?_;try simp only [zQ,sA]
  refine tC (.pointer (some ⟨r,n,none⟩)) ?_;try simp only [zQ,sA]
  refine Q0k rfl rfl (.slice (some ⟨gn,0,none⟩) ln cn) (fun W hb=>by have:=cr W hb; go_simp) ?_;try simp only [zQ,sA]
  refine tC (.int .i64 (pn:Int)) ?_;try simp only [zQ,sA]
  refine Q0Q rfl 60 (.tmp 7) rfl g7 0 32 rfl 60 _ D _ HK7.out zS rfl rfl HDS.out (fun _ _=>by rw [Nat.zero_add]) ?_;try simp only [zQ,sA]
  refine tC (.pointer (some ⟨gn,pn*32,none⟩)) ?_;try simp only [zQ,sA]
  refine Q0M ?_;intro w5 hb5;have HS5:=sH (show Only (fun b=>T.mut b\/k.has b) w w5 from HS.out.only.trans (Only.of_below hb5));have hdn:=(HS.out.dig n (by omega)).keep (hb5.block _ (HS.out.dig n (by omega)).lt);rw [if_neg (by omega),<- HGN.out,<- HCN.out] at hdn;obtain⟨cur,hcb,hcs,hct⟩:=hdn.row;have hcap:=hdn.cap.1;rw [<- HLN.out] at hcap;have hm32:(pn+1)*32<=cn*32:=Nat.mul_le_mul_right _ (by omega);have HCB:=sH hcb;have HCS:=sH hcs;have HDN:=sH hdn;have HK75:=sH (HK7.out.below' hb5);have HB5:=sH hb5;have hs5:=hb5.size;clear hb5 hdn hcb hcs hct c6 cr;go_upto_region 12 with(refine Q00 (o:=⟨none,_,_,_,_,_⟩) rfl 60 (.tmp 53) (.tmp 52) rfl gn (pn*32) D rfl rfl 60 cur HCB.out (by rw [HDS.out]; rfl) (by rw [HDS.out,HCS.out]; omega) HDO.out ?_; intro w6 hT6 hD6)
  have hmut:T.mut gn:=⟨n,by omega,HGN.out⟩;have ho6:Only (fun b=>T.mut b\/k.has b) w w6:=HS5.out.trans (Only.of_turned hT6 (.inl hmut));have hgk:¬ k.has gn:=by rw [HGN.out]; exact HBK.out.2.2 n (by omega)
  have hgt:g7≠gn:=by omega
  have hk76:=hT6.blk HK75.out hgt;have hd6:∀ j,j<=2->Q29 w6 (T.gs j) (T.cs j) (if j<n+1 then lv (ls.set i xs) j else lv ls j):=fun j hj=>by
   by_cases hjn:j=n
   ·subst hjn;rw [if_pos (by omega),HP2.out];have hset:=(HS.out.dig j hj).keep (w':=w5) (HB5.out.block _ (HS.out.dig j hj).lt);rw [if_neg (by omega)] at hset;refine hset.set (Q2N _ _) (QdL _ _ _ _) (by rw [<- HLN.out]; omega) fun cur' hc1 hc2=>?_
    have hcc:cur'=cur:=by
     have h1:=HCB.out;rw [HGN.out] at h1;unfold Blk at hc1 h1;rw [hc1] at h1;injection h1 with h1
     injection h1
    subst hcc;have h2:=hD6;rw [HGN.out,HD.out] at h2;simpa [bRow] using h2
   have hd:=(HS.out.dig j hj).keep (w':=w5) (HB5.out.block _ (HS.out.dig j hj).lt);have hne:T.gs j≠gn:=by
    rw [HGN.out];rcases Nat.lt_or_ge j n with h1 | h1
    ·exact HNE.out j n h1 (by omega)
    exact(HNE.out n j (by omega) hj).symm
   have hd2:=hd.keep (w':=w6) (hT6.block _ hne);by_cases hjl:j<n
   ·rw [if_pos (by omega)]; rw [if_pos hjl] at hd2; exact hd2
   rw [if_neg (by omega)]; rw [if_neg hjl] at hd2; exact hd2
  obtain⟨L1,a1,q1,q2,q3,q4,q5,q6⟩:=HS.out.book;have hbk6:Q0y w6 k L1 a1:=(q1.below HB5.out).only (Only.of_turned (N:=fun b=>b=gn) hT6 rfl) (fun(e:k.g=gn)=>hgk (.inl e.symm)) (fun(e:k.b1=gn)=>hgk (.inr (.inl e.symm))) (fun(e:k.b2=gn)=>hgk (.inr (.inr e.symm)));have HO6:=sH ho6;have HD6:=sH hd6;have HBK6:=sH hbk6;have HK76:=sH hk76;have HQ:=sH (And.intro q3 (And.intro q4 (And.intro q5 q6)));have hs6:=hT6.size;have c6:=HC6.out w6 ho6;clear q1 q3 q4 q5 q6 ho6 hd6 hbk6 hk76 hT6 hD6 HCB HCS HDN HK75 HB5 HS5 hmut;by_cases hn2:n<2
  ·have hn2I:(n:Int)+1<3:=by omega
   obtain⟨pn4,hpn4⟩:∃ p,p=pn / 4:=⟨_,rfl⟩;have hdv:(pn:Int).tdiv 4=(pn4:Int):=by rw [hpn4]; exact(Int.ofNat_tdiv pn 4).symm
   have hrd:=(HD6.out n (by omega)).reads (by rw [if_pos (by omega)]; exact Q2N _ _);rw [if_pos (by omega)] at hrd;have hll:(lv (ls.set i xs) n).length=ln:=by rw [HP2.out,zT,HLN.out]
   rw [hll,<- HGN.out] at hrd;have hcap2:=(HD6.out n (by omega)).cap.1;rw [if_pos (by omega),hll,<- HCN.out] at hcap2;have hpn5:pn4<grps ln:=by unfold grps; omega
   have h4l:4*pn4<ln:=Q5l.1 hpn5;have hrs:=hrd.sub (l:=4*pn4) (k:=min (4*pn4+4) ln) (cap:=cn) (by omega) (by omega) hcap2;rw [<- hll,Q7d (Q2N _ _) pn4 (by rw [hll]; omega),hll] at hrs;have hgr:=fun W=>Qae (some ⟨gn,0,none⟩) ln cn pn4 W (by omega) (by omega) hcap2
   have hup:=fun W (hb:zE w6.heap.size w6 W)=>up_any k L1 a1 _ _ (cn - 4*pn4) (grp (lv (ls.set i xs) n) pn4) W W.heap.size (HBK6.out.below hb) ((hrs.below hb).more hb.size) (zL _) (Q97 (Q2N _ _) pn4) (by omega) (by omega) (by omega)
   obtain⟨vg,hvg⟩:∃ v,v=Value.slice (if cn=4*pn4 then some ⟨gn,0,none⟩ else(some (⟨gn,0,none⟩:zA)).map (·.add (4*pn4*32))) (min (4*pn4+4) ln - 4*pn4) (cn - 4*pn4):=⟨_,rfl⟩;have HGR:=sH (fun W=>(show zI zK 158 #[.slice (some ⟨gn,0,none⟩) ln cn,.int .i64 (pn4:Int)] W fun e w'=>e=.returned vg/\zE W.heap.size W w' from(hgr W).mono fun e w' ⟨h1,h2⟩=>⟨by rw [hvg]; exact h1,by rw [<- h2]; exact zN _ _⟩));have HUP:=sH (show ∀ W,zE w6.heap.size w6 W->zI zK 157 #[.pointer (some ⟨k.g,0,none⟩),vg] W fun e w'=>e=.returned (.tuple #[.agg (bRow (upD (grp (lv (ls.set i xs) n) pn4))),.int .i64 0])/\Q0y w' k (Q13 L1 (upIn (grp (lv (ls.set i xs) n) pn4))) (a1+1)/\Q0s k W w' from fun W hb=>by rw [hvg]; exact hup W hb);have hds2:(bRow (upD (grp (lv (ls.set i xs) n) pn4))).size=32:=Q0E (Q58 _);have hdo2:=Q0K (upD (grp (lv (ls.set i xs) n) pn4));have hdg:dgT (ls.set i xs) i xs (n+1)=upD (grp (lv (ls.set i xs) n) pn4):=by show upD (grp (lv (ls.set i xs) n) (posT i (n+1)))=_;rw [HPN1.out,<- hpn4]
   obtain⟨D2,hD2⟩:∃ D,D=bRow (upD (grp (lv (ls.set i xs) n) pn4)):=⟨_,rfl⟩;rw [<- hD2] at HUP hds2 hdo2;have HDG:=sH hdg;have HD2:=sH hD2;have HDS2:=sH hds2;have HDO2:=sH hdo2;have HPN4:=sH hpn4;have hcr0:=HCR.out w6 HO6.out n (by omega);rw [<- HLN.out,<- HGN.out,<- HCN.out] at hcr0;have lr6:=zO _ _ hcr0;have lt6:=zO _ _ c6;have c06:=HC0.out w6 HO6.out;have lt60:=zO _ _ c06;clear hrd hll hcap2 hrs hgr hup hvg hds2 hdo2 hdg hD2 hpn4;go_upto_region 14 with fail
   have c0:=fun(W:zB) (hb:zE w6.heap.size w6 W)=>(hb.cell lt60).trans c06
   have c6':=fun(W:zB) (hb:zE w6.heap.size w6 W)=>(hb.cell lt6).trans c6
   have cr:=fun(W:zB) (hb:zE w6.heap.size w6 W)=>(hb.cell lr6).trans hcr0
   clear c6 c06 hcr0;have c6:=c6';clear c6';have hJ:∀ (s:Nat) (W:zB),(if s=0 then zE w6.heap.size w6 W else if s=1 then Qaz w6 W k (Q13 L1 (upIn (grp (lv (ls.set i xs) n) pn4))) (a1+1) else QcM w6 W k (Q13 L1 (upIn (grp (lv (ls.set i xs) n) pn4))) (a1+1) g7 D2)->Only (fun b=>k.has b\/b=g7) w6 W:=fun s W hj=>by
    split at hj
    ·exact Only.of_below hj
    split at hj
    ·exact hj.only.mono fun b _ h=>.inl h
    exact hj.only
   have hJ2:∀ W,Only (fun b=>k.has b\/b=g7) w6 W->Only (fun b=>T.mut b\/k.has b) w W:=fun W ho=>⟨ho.os.trans HO6.out.os,ho.tape.trans HO6.out.tape,ho.output.trans HO6.out.output,by have:=ho.size; have:=HO6.out.size; omega,fun b hb hn=>(ho.block b (by have:=HO6.out.size; omega) (by rintro (e | e); exact hn (.inr e); omega)).trans (HO6.out.block b hb hn)⟩
   have HJ:=sH hJ;have HJ2:=sH hJ2;clear c0 c6 cr hJ hJ2;have C0:=sH (fun W (h:Only (fun b=>k.has b\/b=g7) w6 W)=>HC0.out W (HJ2.out W h));have C6:=sH (fun W (h:Only (fun b=>k.has b\/b=g7) w6 W)=>HC6.out W (HJ2.out W h));have CR:=sH (fun W (h:Only (fun b=>k.has b\/b=g7) w6 W)=>HCR.out W (HJ2.out W h) n (by omega));rw [<- HLN.out,<- HGN.out,<- HCN.out] at CR;refine Q1I 18 82 (fun j W v=>match j with
    | 0=>v=.pointer (some ⟨t,0,none⟩)
    | 1=>v=.pointer (some ⟨t,0,none⟩)
    | 2=>v=.pointer (some ⟨t,0,none⟩)
    | 3=>v=.pointer (some ⟨k.g,0,none⟩)
    | 4=>v=.pointer (some ⟨t,0,none⟩)
    | 5=>v=.pointer (some ⟨t,0,none⟩)
    | 6=>v=.pointer (some ⟨t,6,none⟩)
    | 7=>v=.slice (some ⟨r,0,none⟩) 3 rc
    | 8=>v=.int .i64 (n:Int)
    | 9=>v=.pointer (some ⟨r,n,none⟩)
    | 10=>v=.slice (some ⟨gn,0,none⟩) ln cn
    | 11=>v=.int .i64 (pn4:Int)
    | 12=>v=vg
    | 13=>v=.tuple #[.agg D2,.int .i64 0]
    | 14=>v=.tuple #[.agg D2,.int .i64 0]
    | 15=>v=.agg D2
    | 16=>v=.int .i64 0
    | _=>True) (fun s W=>if s=0 then zE w6.heap.size w6 W else if s=1 then Qaz w6 W k (Q13 L1 (upIn (grp (lv (ls.set i xs) n) pn4))) (a1+1) else QcM w6 W k (Q13 L1 (upIn (grp (lv (ls.set i xs) n) pn4))) (a1+1) g7 D2) (fun _ _=>True) [13,17] [65,66,67,68,69,70,71,72,73,74,75,76,77,78,64,79,80] (by kernel_rfl) (by kernel_rfl) (by kernel_rfl) (by kernel_rfl) (by simp) (by kernel_rfl) (fun j=>?last) ?lastR ?jay (zN _ _) ?heads ?_
   case last =>
    match j with
    | 0 | 1 | 2 | 3 | 4 | 5 | 6 | 7 | 8 | 9 | 10 | 11 | 12 | 13 | 14 | 15 | 16=>exact Q15.pure _
    | j+17=>exact fun _ _ _ h _=>h
   case lastR =>
    intro s j W W' v hsl hs hj hp hr;match j with
    | 0 | 1 | 2 | 3 | 4 | 5 | 6 | 7 | 8 | 9 | 10 | 11 | 12 | 13 | 14 | 15 | 16=>exact hp
    | j+17=>exact hp
   case jay =>
    intro s W W' hj hb;by_cases h0:s=0
    ·rw [if_pos h0] at hj ⊢;exact hj.trans (hb.mono hj.size)
    rw [if_neg h0] at hj ⊢;by_cases h1:s=1
    ·rw [if_pos h1] at hj ⊢;exact hj.below hb
    rw [if_neg h1] at hj ⊢;exact hj.below hb
   case heads =>
    simp only [tT];and_intros;rotate_right;trivial
    all_goals try(rw [if_neg (by decide)];intro s a W hj hkp hd)
    ·have e0:(_:zC)=.pointer (some ⟨t,0,none⟩):=sK hkp 0;exact sV
    ·have e0:=sJ (hd 0) 65;exact sV
    ·have e0:=sJ (hd 1) 66;exact sV
    ·have e0:=sJ (hd 2) 67;have cc:=C0.out W (HJ.out s W hj);exact sV
    ·have e0:(_:zC)=.pointer (some ⟨t,0,none⟩):=sK hkp 0;exact sV
    ·have e0:=sJ (hd 4) 69;exact sV
    ·have e0:=sJ (hd 5) 70;exact sV
    ·have e0:=sJ (hd 6) 71;have cc:=C6.out W (HJ.out s W hj);exact sV
    ·have e0:(_:zC)=.int .i64 (n:Int):=sK hkp 9;exact sV
    ·have e0:=sJ (hd 7) 72;have e1:=sJ (hd 8) 73;exact sV
    ·have e0:=sJ (hd 9) 74;have cc:=CR.out W (HJ.out s W hj);exact sV
    ·have e0:(_:zC)=.int .i64 (pn4:Int):=sK hkp 1;exact sV
    ·have e0:=sJ (hd 10) 75;have e1:=sJ (hd 11) 76;exact Q0u rfl 158 #[.slice (some ⟨gn,0,none⟩) ln cn,.int .i64 (pn4:Int)] (by go_simp) ((HGR.out W).mono fun e w h=>⟨vg,h.1,h.2,rfl⟩)
    ·rw [if_pos (by decide)];intro s a W hs hj hkp hd;have e0:=sJ (hd 3) 68;have e1:=sJ (hd 12) 77;obtain rfl:s=0:=by
      have h1:=(List.getElem?_eq_some_iff.1 hs).1;simp at h1;obtain rfl | rfl:s=0\/s=1:=by omega
      ·rfl
      simp at hs
     rw [if_pos rfl] at hj;exact Q4q rfl 157 #[.pointer (some ⟨k.g,0,none⟩),vg] (by go_simp) ((HUP.out W hj).mono fun e w h=>⟨_,h.1,trivial,⟨h.2.1,(Only.of_below hj).trans (Only.of_book h.2.2)⟩,rfl⟩)
    ·have e0:=sJ (hd 13) 78;exact sV
    iterate 2 ·have e0:=sJ (hd 14) 64;exact sV
    rw [if_pos (by decide)];intro s a W hs hj hkp hd;have e0:a.eval (.tmp 7)=.pointer (some ⟨g7,0,none⟩):=hkp.at_ (by kernel_rfl);have e1:a.eval (.tmp 79)=.agg D2:=(hd 15 (by kernel_rfl)) _ 79 rfl rfl;obtain rfl:s=1:=by
     have h1:=(List.getElem?_eq_some_iff.1 hs).1;simp at h1;obtain rfl | rfl:s=0\/s=1:=by omega
     ·simp at hs
     rfl
    rw [if_neg (by omega),if_pos rfl] at hj;have hk7:Blk W g7 60 D:=hj.only.blk HK76.out (by rintro (e | e | e) <;> omega);refine Q2x (o:=⟨none,_,_,_,_,_⟩) rfl 60 (.tmp 7) (.tmp 79) rfl g7 0 D2 e0 e1 60 D hk7 (by rw [HDS2.out]; rfl) (by rw [HDS2.out,HDS.out]; omega) HDO2.out fun W2 hT2 hB2=>⟨trivial,?_,trivial⟩
    rw [Q0c _ _ (by rw [HDS2.out,HDS.out])] at hB2;exact⟨hj.book.only (Only.of_turned (N:=fun b=>b=g7) hT2 rfl) (by omega) (by omega) (by omega),(hj.only.mono fun b _ h=>.inl h).trans (Only.of_turned hT2 (.inr rfl)),hB2⟩
   intro f w10 hj hd;have hu:QcM w6 w10 k (Q13 L1 (upIn (grp (lv (ls.set i xs) n) pn4))) (a1+1) g7 D2:=hj;have HBK9:=sH hu.book;have HO9:=sH (HJ2.out w10 hu.only);have hD10:=hu.blk;have HD9:=sH (fun j (hj:j<=2)=>(HD6.out j hj).keep (hu.only.block _ (HD6.out j hj).lt (by have:=HGL.out j hj; rintro (e | e); exact HBK.out.2.2 j hj e; omega)));simp only [Q0F,tU];clear hd hj hu HUP;try simp only [zQ,sA]
   have ho10:=HO9.out;have hst10:SetSt w w10 T k L asked ls i xs g7 (n+1):=by
    refine⟨HD9.out,⟨_,_,HBK9.out,by omega,fun x hx=>Q2A (HQ.out.1 x hx),Q2A HQ.out.2.1,fun _=>?_,fun h2=>?_⟩,ho10,?_⟩
    ·rcases zG n with e | e
     ·subst e;have h1:posT i 1=i / 4:=rfl;rw [<- h1,HPN1.out,<- HPN4.out];exact Q3G _ _
     exact Q2A (HQ.out.2.2.1 e)
    ·obtain rfl:n=1:=by omega
     have h0:pn4=0:=by have h1:=HLN.out; rw [Q7P] at h1; unfold grps at h1; have:=HPN4.out; omega
     have h1:grp (lv (ls.set i xs) 1) pn4=lv (ls.set i xs) 1:=by rw [h0];unfold grp;rw [Nat.mul_zero,List.drop_zero,zP];rw [Q7P,zT]; unfold grps; omega
     have:=Q3G L1 (upIn (grp (lv (ls.set i xs) 1) pn4));rw [h1] at this ⊢;exact this
    rw [show min (n+1) 2=n+1 by omega,HDG.out,<- HD2.out];exact hD10
   have HST10:=sH hst10;have hpp:pn4=posT i (n+1):=by rw [HPN1.out,HPN4.out]
   have HPP:=sH hpp;clear ho10 hst10 hD10 HO9 HD9 HBK9 hpp;go_wp2_with fail
   go_roundw
   case rel=>exact⟨n+1,by omega,by go_num,by rw [show min (n+1) 2=n+1 by omega,<- HPP.out],HST10.out⟩
   case measure=>simp [intOf]; omega
  obtain rfl:n=2:=by omega
  have hn2I:¬ (2:Int)+1<3:=by omega
  have hst6:SetSt w w6 T k L asked ls i xs g7 3:=by refine⟨HD6.out,⟨L1,a1,HBK6.out,by omega,HQ.out.1,HQ.out.2.1,fun _=>HQ.out.2.2.1 (by omega),fun _=>HQ.out.2.2.2 (by omega)⟩,HO6.out,?_⟩;show Blk w6 g7 _ (bRow (dgT (ls.set i xs) i xs 2));rw [<- HD.out];exact HK76.out
  have HST6:=sH hst6;clear hst6;go_wp2_with fail
  go_roundw
  case rel=>exact⟨3,by omega,rfl,by rw [show min 3 2=2 by omega,<- HPN.out],HST6.out⟩
  case measure=>simp [intOf]
 obtain rfl:n=3:=by omega
 have hni:¬ (3:Int)<3:=by omega
 go_wp2_with fail
 go_ret
 obtain⟨L1,a1,q1,q2,q3,q4,q5,q6⟩:=HS.out.book;have ho:=HS.out.only;have e1:=HTE.out;have e2:=HRE.out;have e3:=HCE.out;subst e1 e2 e3;refine⟨rfl,⟨by have:=ho.size; omega,by have:=ho.size; omega,HC0.out wr ho,?_,HC6.out wr ho,fun j hj=>?_,fun j hj=>?_,HNE.out,HFAR.out,HBK.out,by rw [zT]; exact hlen⟩,⟨L1,a1,q1,by omega,q3,fun L0 hL0 hin=>?_⟩,ho⟩
 ·rw [zT];exact(ho.cell htlt (by rintro (e | e); exact HFAR.out.1 e; exact HBK.out.1 e)).trans HT.out.c1
 ·rw [HCR.out wr ho j hj,(Qbo ls i xs hi j).2,zT]
 ·have:=HS.out.dig j hj;rw [if_pos (by omega)] at this;exact this
 exact(hin.more fun x hx=>q3 x (hL0 x hx)).set hi (fun _ h=>h) q4 (q5 (by omega)) (q6 (by omega))
end
section
open Go.RowKit
theorem Q2b (A B:Option zA) (n m c d:Nat) (xs ys:List UInt8) (w:zB) (Bx By:Nat) (ha:Q08 w Bx 1 A n (xs.map vb)) (hb:Q08 w By 1 B m (ys.map vb)) (hn:n<=maxLen) (hm:m<=maxLen) :
 zI zK 14 #[.slice A n c,.slice B m d] w fun e w'=>e=.returned (.bool (decide (xs=ys)))/\∃ k,w'=w.drewN k:=by
 have hlx:xs.length=n:=by have:=ha.1; simpa using this
 have hly:ys.length=m:=by have:=hb.1; simpa using this
 unfold maxLen at hn hm;by_cases hnm:n=m
 ·subst hnm;go_enter Tryz.func14,Tryz.ntmps14
  go_wp2
  go_loopw [5] (fun i wr=>∃ k q:Nat,k<=n/\i=.int .i64 k/\xs.take k=ys.take k/\wr=w.drewN q) (fun i _=>n - (intOf i).toNat)
  case atStart=>exact⟨0,0,Nat.zero_le _,rfl,by simp,rfl⟩
  obtain⟨k,q,hk,rfl,heq,rfl⟩:=hrel;have HE:=sH heq;clear heq;by_cases hlt:k<n
  ·obtain⟨ad,u,rfl,_,hx,hcx⟩:=ha.at_ hlt;obtain⟨bd,v,rfl,_,hy,hcy⟩:=hb.at_ hlt;obtain⟨hk1,rfl⟩:=Q3W hx;obtain⟨hk2,rfl⟩:=Q3W hy;clear hx hy ha hb;by_cases hne:xs[k]=ys[k]
   ·have hz:(bi xs[k] != bi ys[k])=false:=by simp [hne]
    have HN:=sH hne;clear hne
    go_wp2
    go_quiet (fail)
    go_wp2
    go_roundw
    case rel=>exact⟨k+1,_,by omega,by go_num,by rw [zU hk1,zU hk2,HE.out,HN.out],rfl⟩
    case measure=>simp [intOf]; omega
   have hz:(bi xs[k] != bi ys[k])=true:=by rw [bne_iff_ne]; intro e; exact hne (Qcd e)
   have HN:=sH hne;clear hne
   go_wp2
   go_quiet (fail)
   go_wp2
   go_ret
   exact⟨Q0C (by have:=HN.out; symm; rw [decide_eq_false_iff_not]; rintro rfl; exact this rfl),_,World.drewN_drewN _ _ _⟩
  have hkn:k=n:=by omega
  have HK:=sH hkn;clear hkn
  go_wp2
  go_ret
  exact⟨Q0C (by symm; rw [decide_eq_true_iff]; have h1:=HE.out; rw [HK.out] at h1; rwa [zP (by omega),zP (by omega)] at h1),q,rfl⟩
 have h0:((n:Int) != (m:Int))=true:=by rw [bne_iff_ne]; omega
 have HN:=sH hnm;clear hnm;go_enter Tryz.func14,Tryz.ntmps14
 go_wp2
 go_ret
 exact⟨Q0C (by symm; rw [decide_eq_false_iff_not]; rintro rfl; exact HN.out (by omega)),0,rfl⟩
theorem Q3e:(Tryz.prog.info? 3).map (fun i=>(i.zero,i.size,i.bytes))=some (some (.int .i64 0),1,8):=by kernel_rfl
theorem Q4E (A:Option zA) (n c:Nat) (xs:List Int) (w:zB) (B:Nat) (h:Q08 w B 1 A n (xs.map vn)) (hB:B<=w.heap.size) (hn:n<=17592186044416) :
 zI zK 87 #[.slice A n c] w fun e w'=>∃ v,e=.returned v/\OwnN w' w.heap.size v xs/\zE w.heap.size w w':=by
 have hxn:xs.length=n:=by have:=h.1; simpa using this
 have HXN:=sH hxn;clear hxn;go_enter Tryz.func87,Tryz.ntmps87
 obtain⟨i0,hi0,hz0,hz1,hz2⟩:=info_parts Q3e;go_wp2_with (at_builtin; go_must (refine Q03 _ rfl (.tmp 4) (.tmp 5) 42 rfl w.heap.size 3 i0 _ 1 8 zV hi0 hz0 hz1 hz2 rfl (by omega) (.slice none 0 0) 0 [] rfl ⟨by simp,.inl ⟨rfl,rfl⟩⟩ B A n c (xs.map vn) rfl h ?c1 ?c2 ?c3 ?c4 ?_))
 case c1=>intro u hu; obtain⟨x,_,rfl⟩:=List.mem_map.1 hu; rfl
 case c2=>unfold maxLen; omega
 case c3=>omega
 case c4=>omega
 intro v1 w1 hown1 hg1 hor
 go_wp2
 go_ret
 refine⟨v1,rfl,?_,(zN _ _).grown hg1 (zL _) (fun b hb=>by simp [zF] at hb)⟩;unfold OwnN;rw [HXN.out];simpa using hown1
theorem Q0i {w:zB} {B:Nat} {v:zC} {xs:List Int} (h:OwnN w B v xs):∃ A c,v=.slice A xs.length c/\xs.length<=c/\c<=maxLen/\Q08 w w.heap.size 1 A xs.length (xs.map vn)/\(∀ ad,A=some ad->B<=ad.block):=by
 have hr:=fun A c (hv:v=.slice A xs.length c)=>Q08.of_own (A:=A) (c:=c) (by rw [<- hv]; exact h)
 rcases h.2 with⟨rfl,h0⟩ | ⟨g,cap,cur,rfl,hg,_,h1,h2,_⟩
 ·exact⟨none,0,by rw [h0],by omega,by unfold maxLen; omega,hr none 0 (by rw [h0]),fun _ h=>by cases h⟩
 exact⟨_,cap,rfl,h1,h2,hr _ _ rfl,fun ad h=>by injection h with h; subst h; exact hg⟩
theorem OwnN.more {w:zB} {B B':Nat} {v:zC} {xs:List Int} (h:OwnN w B v xs) (hB:B'<=B):OwnN w B' v xs:=by
 refine⟨h.1,?_⟩;rcases h.2 with h0 | ⟨g,cap,cur,rfl,hg,hh,h1⟩
 ·exact .inl h0
 exact .inr ⟨g,cap,cur,rfl,by omega,hh,h1⟩
end
section
open Go.RowKit Go.Maps
structure FarN (w:zB) (N:Nat->Prop) (A:Option zA) (c:Nat) (xs:List Int):Prop where
 rd:Q08 w w.heap.size 1 A xs.length (xs.map vn)
 cap:xs.length<=c/\c<=maxLen
 far:∀ a,0<xs.length->A=some a->¬ N a.block
theorem FarN.only {w w':zB} {N:Nat->Prop} {A:Option zA} {c:Nat} {xs:List Int} (h:FarN w N A c xs) {M:Nat->Prop} (ho:Only M w w') (hM:∀ b,M b->N b):FarN w' N A c xs :=⟨ho.reads h.rd (fun a h0 ha hm=>h.far a h0 ha (hM _ hm)),h.cap,h.far⟩
theorem FarN.mono {w:zB} {N N':Nat->Prop} {A:Option zA} {c:Nat} {xs:List Int} (h:FarN w N A c xs) (hN:∀ b,b<w.heap.size->N' b->N b):FarN w N' A c xs :=⟨h.rd,h.cap,fun a h0 ha hm=>h.far a h0 ha (hN _ (by obtain⟨ad,e,hb,_⟩:=h.rd.2 h0; rw [ha] at e; injection e with e; rw [e]; exact hb) hm)⟩
theorem FarN.nil (w:zB) (N:Nat->Prop):FarN w N none 0 []:=⟨Q08.none_,by simp,fun a h=>by simp at h⟩
theorem FarN.of_own {w0 w:zB} {N:Nat->Prop} {v:zC} {xs:List Int} {B:Nat} (h:OwnN w B v xs) (hN:∀ b,N b->b<B):∃ A c,v=.slice A xs.length c/\FarN w N A c xs:=by obtain⟨A,c,hv,h1,h2,h3,h4⟩:=Q0i h;exact⟨A,c,hv,h3,⟨h1,h2⟩,fun a h0 ha hn=>by have:=h4 a ha; have:=hN _ hn; omega⟩
theorem Q1n {P:Program} (t e:TypeId) (a:Option zA) (n c:Nat) (h:P.underlying t=some (.slice e)) (W:zB) :
 (binOp .eql t (.slice a n c) (.slice none 0 0)).run P W=.ok (.bool a.isNone) W:=by
 simp only [binOp];simp [Op.equal,Op.maxDepth,Lib.run_equalIn_slice_nil W 9999 t e a n c 0 0 h]
theorem cloneB_any (A:Option zA) (n c:Nat) (xs:List UInt8) (w:zB) (B:Nat) (h:Q08 w B 1 A n (xs.map vb)) (hB:B<=w.heap.size) (hn:n<=1000000) :
 zI zK 63 #[.slice A n c] w fun e w'=>∃ v,e=.returned v/\OwnB w' w.heap.size v xs/\zE w.heap.size w w':=by
 have hxn:xs.length=n:=by have:=h.1; simpa using this
 obtain⟨i0,hi0,hz0,hz1,hz2⟩:=info_parts Q1E;cases A with
 | none =>
  have hn0:n=0:=by
   rcases zG n with e | e
   ·exact e
   obtain⟨ad,he,_⟩:=h.2 e; cases he
  subst hn0;have hx:xs=[]:=zH hxn;subst hx;have hnl:=Q1n (P:=zK) 22 5 none 0 c zR;go_enter Tryz.func63,Tryz.ntmps63
  go_wp2
  go_ret
  exact⟨_,rfl,OwnB.nil _ _,zN _ _⟩
 | some ad =>
  have hw0:=World.ownsRow_lit (base:=w.heap.size) (e:=5) (size:=1) w #[] 0 (zL _) (by omega) rfl;have HW0:=sH hw0;have HR:=sH (h.alloc hB (.cells #[] 5));have HXN:=sH hxn;clear h hw0 hxn;have hnl:=Q1n (P:=zK) 22 5 (some ad) n c zR;go_enter Tryz.func63,Tryz.ntmps63
  go_wp2_with (at_builtin; go_must (refine Q03 _ rfl (.tmp 5) (.tmp 6) 22 rfl w.heap.size 5 i0 _ 1 1 zR hi0 hz0 hz1 hz2 rfl (by omega) _ 0 _ rfl HW0.out B (some ad) n c (xs.map vb) rfl HR.out (by intro u hu; first | rfl | (obtain⟨y,_,rfl⟩:=List.mem_map.1 hu; rfl)) (by unfold maxLen; omega) (by omega) (by simp) ?_))
  intro v2 w2 hown2 hg2 hor2;have hb2:zE w.heap.size w w2:=Q0e ((zN _ _).alloc (zL _) _) (by simp) hg2 (fun b hb=>by
   have:b=w.heap.size:=by simpa [zF] using hb.symm
   omega)
  have hob:OwnB w2 w.heap.size v2 xs:=by unfold OwnB;rw [HXN.out];simpa using hown2
  have HOB:=sH hob;have HB2:=sH hb2;clear hown2 hg2 hor2 hb2 hob;go_wp2_with fail
  go_ret
  exact⟨_,rfl,HOB.out,HB2.out⟩
theorem Q36 (A:Option zA) (n c:Nat) (xs:List Int) (w:zB) (B:Nat) (h:Q08 w B 1 A n (xs.map vn)) (hB:B<=w.heap.size) (hn:n<=1000000) :
 zI zK 86 #[.slice A n c] w fun e w'=>∃ v,e=.returned v/\OwnN w' w.heap.size v xs/\zE w.heap.size w w':=by
 have hxn:xs.length=n:=by have:=h.1; simpa using this
 obtain⟨i0,hi0,hz0,hz1,hz2⟩:=info_parts Q3e;cases A with
 | none =>
  have hn0:n=0:=by
   rcases zG n with e | e
   ·exact e
   obtain⟨ad,he,_⟩:=h.2 e; cases he
  subst hn0;have hx:xs=[]:=zH hxn;subst hx;have hnl:=Q1n (P:=zK) 42 3 none 0 c zV;go_enter Tryz.func86,Tryz.ntmps86
  go_wp2
  go_ret
  exact⟨_,rfl,⟨by simp,.inl ⟨rfl,by simp⟩⟩,zN _ _⟩
 | some ad =>
  have hw0:=World.ownsRow_lit (base:=w.heap.size) (e:=3) (size:=1) w #[] 0 (zL _) (by omega) rfl;have HW0:=sH hw0;have HR:=sH (h.alloc hB (.cells #[] 3));have HXN:=sH hxn;clear h hw0 hxn;have hnl:=Q1n (P:=zK) 42 3 (some ad) n c zV;go_enter Tryz.func86,Tryz.ntmps86
  go_wp2_with (at_builtin; go_must (refine Q03 _ rfl (.tmp 5) (.tmp 6) 42 rfl w.heap.size 3 i0 _ 1 8 zV hi0 hz0 hz1 hz2 rfl (by omega) _ 0 _ rfl HW0.out B (some ad) n c (xs.map vn) rfl HR.out (by intro u hu; first | rfl | (obtain⟨y,_,rfl⟩:=List.mem_map.1 hu; rfl)) (by unfold maxLen; omega) (by omega) (by simp) ?_))
  intro v2 w2 hown2 hg2 hor2;have hb2:zE w.heap.size w w2:=Q0e ((zN _ _).alloc (zL _) _) (by simp) hg2 (fun b hb=>by
   have:b=w.heap.size:=by simpa [zF] using hb.symm
   omega)
  have hob:OwnN w2 w.heap.size v2 xs:=by unfold OwnN;rw [HXN.out];simpa using hown2
  have HOB:=sH hob;have HB2:=sH hb2;clear hown2 hg2 hor2 hb2 hob;go_wp2_with fail
  go_ret
  exact⟨_,rfl,HOB.out,HB2.out⟩
theorem Q45.more {w:zB} {B B' n:Nat} {A:Option zA} {xss:LL} (h:Q45 w B A n xss) (hB:B<=B'):Q45 w B' A n xss :=⟨h.1,fun h0=>by obtain⟨ad,h1,h2,h3⟩:=h.2 h0;exact⟨ad,h1,by omega,fun k x hx=>by obtain⟨Ak,mk,ck,q1,q2⟩:=h3 k x hx;exact⟨Ak,mk,ck,q1,q2.more hB⟩⟩⟩
end
section
open Go.RowKit Go.Maps
attribute [local irreducible] wpList
structure SetBy (w w':zB) (T:Q1G) (k:Book) (ls ls':LL) (L:LL) (asked q:Nat):Prop where
 tree:Q2e w' T k ls'
 book:∃ L' a',Q0y w' k L' a'/\a'<=asked+q/\(∀ x,x∈L->x∈L')/\(∀ L0,(∀ x,x∈L0->x∈L)->Q20 L0 ls->Q20 L' ls')
 only:Only (fun b=>T.mut b\/k.has b) w w'
end
section
open Go.RowKit
theorem Q49 {xs:List Int} {k:Nat} {u:zC} (h:(xs.map vn)[k]?=some u):∃ (hk:k<xs.length),u=.int .i64 xs[k]:=by
 rw [List.getElem?_map] at h;rcases Nat.lt_or_ge k xs.length with hk | hk
 ·rw [zD hk] at h;injection h with h
  exact⟨hk,h.symm⟩
 rw [List.getElem?_eq_none hk] at h; cases h
theorem Q4H (A B:Option zA) (n m c d:Nat) (xs ys:List Int) (w:zB) (Bx By:Nat) (ha:Q08 w Bx 1 A n (xs.map vn)) (hb:Q08 w By 1 B m (ys.map vn)) (hn:n<=maxLen) (hm:m<=maxLen) :
 zI zK 75 #[.slice A n c,.slice B m d] w fun e w'=>e=.returned (.bool (decide (xs=ys)))/\∃ k,w'=w.drewN k:=by
 have hlx:xs.length=n:=by have:=ha.1; simpa using this
 have hly:ys.length=m:=by have:=hb.1; simpa using this
 unfold maxLen at hn hm;by_cases hnm:n=m
 ·subst hnm;go_enter Tryz.func75,Tryz.ntmps75
  go_wp2
  go_loopw [5] (fun i wr=>∃ k q:Nat,k<=n/\i=.int .i64 k/\xs.take k=ys.take k/\wr=w.drewN q) (fun i _=>n - (intOf i).toNat)
  case atStart=>exact⟨0,0,Nat.zero_le _,rfl,by simp,rfl⟩
  obtain⟨k,q,hk,rfl,heq,rfl⟩:=hrel;have HE:=sH heq;clear heq;by_cases hlt:k<n
  ·obtain⟨ad,u,rfl,_,hx,hcx⟩:=ha.at_ hlt;obtain⟨bd,v,rfl,_,hy,hcy⟩:=hb.at_ hlt;obtain⟨hk1,rfl⟩:=Q49 hx;obtain⟨hk2,rfl⟩:=Q49 hy;clear hx hy ha hb;by_cases hne:xs[k]=ys[k]
   ·have hz:(xs[k] != ys[k])=false:=by simp [hne]
    have HN:=sH hne;clear hne
    go_wp2
    go_quiet (fail)
    go_wp2
    go_roundw
    case rel=>exact⟨k+1,_,by omega,by go_num,by rw [zU hk1,zU hk2,HE.out,HN.out],rfl⟩
    case measure=>simp [intOf]; omega
   have hz:(xs[k] != ys[k])=true:=by rw [bne_iff_ne]; intro e; exact hne e
   have HN:=sH hne;clear hne
   go_wp2
   go_quiet (fail)
   go_wp2
   go_ret
   exact⟨Q0C (by have:=HN.out; symm; rw [decide_eq_false_iff_not]; rintro rfl; exact this rfl),_,World.drewN_drewN _ _ _⟩
  have hkn:k=n:=by omega
  have HK:=sH hkn;clear hkn
  go_wp2
  go_ret
  exact⟨Q0C (by symm; rw [decide_eq_true_iff]; have h1:=HE.out; rw [HK.out] at h1; rwa [zP (by omega),zP (by omega)] at h1),q,rfl⟩
 have h0:((n:Int) != (m:Int))=true:=by rw [bne_iff_ne]; omega
 have HN:=sH hnm;clear hnm;go_enter Tryz.func75,Tryz.ntmps75
 go_wp2
 go_ret
 exact⟨Q0C (by symm; rw [decide_eq_false_iff_not]; rintro rfl; exact HN.out (by omega)),0,rfl⟩
def Q6Y (x y:Wish):Bool:=decide (x.client=y.client/\x.stamp=y.stamp/\x.group=y.group/\x.epoch=y.epoch/\x.kind=y.kind/\x.block=y.block/\x.data=y.data/\x.old=y.old/\x.new=y.new/\x.next=y.next)
theorem Qbp (A B:Option zA) (n m c d:Nat) (xs ys:List Int) (w:zB) (Bx By:Nat) (ha:Q08 w Bx 1 A n (xs.map vn)) (hb:Q08 w By 1 B m (ys.map vn)) (hn:n<=maxLen) (hm:m<=maxLen) :
 zI zK 102 #[.slice A n c,.slice B m d] w fun e w'=>e=.returned (.bool (decide (xs=ys)))/\∃ k,w'=w.drewN k:=by
 have hlx:xs.length=n:=by have:=ha.1; simpa using this
 have hly:ys.length=m:=by have:=hb.1; simpa using this
 unfold maxLen at hn hm;by_cases hnm:n=m
 ·subst hnm;go_enter Tryz.func102,Tryz.ntmps102
  go_wp2
  go_loopw [13] (fun i wr=>∃ k q:Nat,k<=n/\i=.int .i64 k/\xs.take k=ys.take k/\wr=w.drewN q) (fun i _=>n - (intOf i).toNat)
  case atStart=>exact⟨0,0,Nat.zero_le _,rfl,by simp,rfl⟩
  obtain⟨k,q,hk,rfl,heq,rfl⟩:=hrel;have HE:=sH heq;clear heq;by_cases hlt:k<n
  ·obtain⟨ad,u,rfl,_,hx,hcx⟩:=ha.at_ hlt;obtain⟨bd,v,rfl,_,hy,hcy⟩:=hb.at_ hlt;obtain⟨hk1,rfl⟩:=Q49 hx;obtain⟨hk2,rfl⟩:=Q49 hy;clear hx hy ha hb;by_cases hne:xs[k]=ys[k]
   ·have hz:(xs[k] != ys[k])=false:=by simp [hne]
    have HN:=sH hne;clear hne
    go_wp2
    go_quiet (fail)
    go_wp2
    go_roundw
    case rel=>exact⟨k+1,_,by omega,by go_num,by rw [zU hk1,zU hk2,HE.out,HN.out],rfl⟩
    case measure=>simp [intOf]; omega
   have hz:(xs[k] != ys[k])=true:=by rw [bne_iff_ne]; intro e; exact hne e
   have HN:=sH hne;clear hne
   go_wp2
   go_quiet (fail)
   go_wp2
   go_ret
   exact⟨Q0C (by have:=HN.out; symm; rw [decide_eq_false_iff_not]; rintro rfl; exact this rfl),_,World.drewN_drewN _ _ _⟩
  have hkn:k=n:=by omega
  have HK:=sH hkn;clear hkn
  go_wp2
  go_ret
  exact⟨Q0C (by symm; rw [decide_eq_true_iff]; have h1:=HE.out; rw [HK.out] at h1; rwa [zP (by omega),zP (by omega)] at h1),q,rfl⟩
 have h0:((n:Int) != (m:Int))=true:=by rw [bne_iff_ne]; omega
 have HN:=sH hnm;clear hnm;go_enter Tryz.func102,Tryz.ntmps102
 go_wp2
 go_ret
 exact⟨Q0C (by symm; rw [decide_eq_false_iff_not]; rintro rfl; exact HN.out (by omega)),0,rfl⟩
end
section
open Go.RowKit Go.Maps
attribute [local irreducible] wpList Q0h
theorem Q5r:(Tryz.prog.info? 22).map (fun i=>(i.zero,i.size,i.bytes))=some (some (.slice none 0 0),1,24):=by kernel_rfl
structure OwnL (w:zB) (B0:Nat) (v:zC) (xss:LL) (vs:List zC):Prop where
 row:w.ownsRow B0 22 1 v xss.length vs
 at_:∀ (k:Nat) (x:List UInt8),xss[k]?=some x->∃ u,vs[k]?=some u/\OwnB w B0 u x
theorem Q5M {w:zB} {B:Nat} {u:zC} {x:List UInt8} (h:OwnB w B u x) {b:Nat} (hb:u.ownBlock=some b):∃ cur,Blk w b 5 cur:=by
 rcases h.2 with⟨rfl,_⟩ | ⟨g,cap,cur,rfl,hg,hh,_⟩
 ·simp [zF] at hb
 simp [zF] at hb; subst hb; exact⟨cur,hh⟩
theorem OwnL.nil (w:zB) (B0:Nat):OwnL w B0 (.slice none 0 0) [] []:=⟨World.ownsRow_nil _ _ _ _,fun k x h=>by simp at h⟩
theorem OwnL.keep {w w':zB} {B0:Nat} {v:zC} {xss:LL} {vs:List zC} (h:OwnL w B0 v xss vs) (hk:∀ b,B0<=b->b<w.heap.size->w'.heap[b]?=w.heap[b]?):OwnL w' B0 v xss vs :=⟨Q0d h.row fun b hb=>hk b (Q07 h.row hb).1 (Q07 h.row hb).2,fun k x hx=>by obtain⟨u,h1,h2⟩:=h.at_ k x hx;exact⟨u,h1,h2.keep fun b hb=>hk b (h2.ge hb) (h2.lt hb)⟩⟩
theorem OwnL.slice {w:zB} {B0:Nat} {v:zC} {xss:LL} {vs:List zC} (h:OwnL w B0 v xss vs):∃ A c,v=.slice A xss.length c/\xss.length<=c/\c<=maxLen/\Q45 w w.heap.size A xss.length xss/\(∀ a,A=some a->B0<=a.block):=by
 have hr:=fun A c (hv:v=.slice A xss.length c)=>Q08.of_own (A:=A) (c:=c) (by rw [<- hv]; exact h.row)
 have hrow:∀ A,Q08 w w.heap.size 1 A xss.length vs->Q45 w w.heap.size A xss.length xss:=fun A hrd=>⟨rfl,fun h0=>by obtain⟨ad,rfl,hlt,hc⟩:=hrd.2 h0;refine⟨ad,rfl,hlt,fun k x hx=>?_⟩;obtain⟨u,h1,h2⟩:=h.at_ k x hx;obtain⟨Ak,ck,rfl,_,_,h3,_⟩:=Q0f h2;exact⟨Ak,x.length,ck,hc k _ h1,h3⟩⟩
 rcases h.row.2 with⟨rfl,h0⟩ | ⟨g,cap,cur,rfl,hg,_,h1,h2,_⟩
 ·exact⟨none,0,by rw [h0],by omega,by unfold maxLen; omega,hrow _ (hr none 0 (by rw [h0])),fun _ h=>by cases h⟩
 exact⟨_,cap,rfl,h1,h2,hrow _ (hr _ _ rfl),fun ad h=>by injection h with h; subst h; exact hg⟩
theorem OwnL.push {w w3 w6:zB} {B0:Nat} {v v6 u:zC} {xss:LL} {vs:List zC} {x:List UInt8} (h:OwnL w B0 v xss vs) (hb:zE w.heap.size w w3) (hu:OwnB w3 B0 u x) (hown:w6.ownsRow B0 22 1 v6 (xss.length+1) (vs++[u])) (hg:(w3.alloc (.cells #[u] 22)).grownBy w6 v.ownBlock):OwnL w6 B0 v6 (xss++[x]) (vs++[u]):=by
 have hl:vs.length=xss.length:=by have:=h.row.1; omega
 have hal:zE w3.heap.size w3 (w3.alloc (.cells #[u] 22)):=Q04 _ _;have hkeep:∀ y z,OwnB w3 B0 y z->OwnB w6 B0 y z:=fun y z hy=>(hy.below hal).keep fun b hb'=>by
  obtain⟨cur,hcur⟩:=Q5M hy hb';refine hg.block b (by have:=hy.lt hb'; have:=hal.size; omega) fun e=>?_
  have hr3:w3.ownsRow B0 22 1 v xss.length vs:=Q0d h.row fun b hb''=>hb.block b (Q07 h.row hb'').2
  exact Q05 hr3 hcur (by decide) e.symm
 refine⟨by rw [zM]; exact hown,fun k z hz=>?_⟩;rcases Nat.lt_or_ge k xss.length with hk | hk
 ·rw [List.getElem?_append_left hk] at hz;obtain⟨y,h1,h2⟩:=h.at_ k z hz;exact⟨y,by rw [List.getElem?_append_left (by omega)]; exact h1,hkeep _ _ (h2.below hb)⟩
 have hk2:k=xss.length:=by
  rcases Nat.lt_or_ge xss.length k with h1 | h1
  ·rw [List.getElem?_eq_none (by simp; omega)] at hz; cases hz
  omega
 subst hk2;rw [List.getElem?_append_right (by omega),Nat.sub_self] at hz;have hzx:x=z:=Option.some.inj hz;subst hzx;exact⟨u,by rw [List.getElem?_append_right (by omega),hl,Nat.sub_self]; rfl,hkeep _ _ hu⟩
theorem Q84 (A A':Option zA) (n c n' c':Nat) (xss yss:LL) (w:zB) (B:Nat) (hx:Q45 w B A n xss) (hy:Q45 w B A' n' yss) (hB:B<=w.heap.size) (hn:n<=1000000) (hn':n'<=1000000) (hlx:∀ x,x∈xss->x.length<=maxLen) (hly:∀ x,x∈yss->x.length<=maxLen) :
 zI zK 15 #[.slice A n c,.slice A' n' c'] w fun e w'=>e=.returned (.bool (decide (xss=yss)))/\zE w.heap.size w w':=by
 have hxl:=hx.1;have hyl:=hy.1;by_cases hnn:n=n'
 ·subst hnn;have hne:((n:Int) != (n:Int))=false:=by simp
  have HX:=sH hx;have HY:=sH hy;have HLX:=sH hlx;have HLY:=sH hly;have HXL:=sH hxl;have HYL:=sH hyl;clear hx hy hlx hly hxl hyl;go_enter Tryz.func15,Tryz.ntmps15
  go_wp2_with fail
  go_loopw [5] (fun iv wr=>∃ i:Nat,i<=n/\iv=.int .i64 i/\xss.take i=yss.take i/\zE w.heap.size w wr) (fun iv _=>n - (intOf iv).toNat)
  case atStart=>exact⟨0,by omega,rfl,by simp,zN _ _⟩
  obtain⟨i,hi,rfl,heq,hbel⟩:=hrel;have HE:=sH heq;have HB:=sH hbel;have hsz:=hbel.size;clear heq;by_cases hin:i<n
  ·have hinI:(i:Int)<(n:Int):=by omega
   have h0I:(0:Int)<=(i:Int):=by omega
   have hix:i<xss.length:=by have:=HXL.out; omega
   have hiy:i<yss.length:=by have:=HYL.out; omega
   obtain⟨ad,rfl,hb1,hc1⟩:=HX.out.2 (by omega);obtain⟨bd,rfl,hb2,hc2⟩:=HY.out.2 (by omega);obtain⟨Ak,mk,ck,q1,q2⟩:=hc1 i _ (zD hix);obtain⟨Bk,lk,dk,r1,r2⟩:=hc2 i _ (zD hiy);have hmk:mk<=maxLen:=by have:=HLX.out _ (List.getElem_mem hix); have:=q2.1; simp at this; omega
   have hlk:lk<=maxLen:=by have:=HLY.out _ (List.getElem_mem hiy); have:=r2.1; simp at this; omega
   have C1:=sH (fun(W:zB) (hb:zE wr.heap.size wr W)=>((hbel.trans (hb.mono hsz)).cell (show (ad.add i).block<w.heap.size by rw [Q0a]; omega)).trans q1);have C2:=sH (fun(W:zB) (hb:zE wr.heap.size wr W)=>((hbel.trans (hb.mono hsz)).cell (show (bd.add i).block<w.heap.size by rw [Q0a]; omega)).trans r1);have hEq:=fun(W:zB) (hb:zE wr.heap.size wr W)=>Q2b Ak Bk mk lk ck dk xss[i] yss[i] W B B (q2.below ((hbel.trans (hb.mono hsz)).mono hB)) (r2.below ((hbel.trans (hb.mono hsz)).mono hB)) hmk hlk
   have hnx:∀ (b:Bool),decide (xss[i]=yss[i])=b->∀ (W:zB) (hb:zE wr.heap.size wr W),zI zK 14 #[.slice Ak mk ck,.slice Bk lk dk] W fun e w'=>e=.returned (.bool b)/\zE W.heap.size W w':=fun b he W hb=>(hEq W hb).mono fun e w' ⟨h1,k,h2⟩=>⟨by rw [h1,he],by rw [h2]; exact Q0v (zN _ _) k⟩
   have HNX:=sH hnx;clear hbel hc1 hc2 q1 q2 r1 r2 hEq hnx;go_upto_region 6 with fail
   by_cases hq:xss[i]=yss[i]
   ·have HQ:=sH hq;have HCE:=sH (HNX.out true (by rw [decide_eq_true hq]));clear hq;refine Q0r 9 27 (by kernel_rfl) (by kernel_rfl) (by kernel_rfl) (by simp) ?_;simp only [tT,tU];refine tD (.slice (some ad) n c) ?_;try simp only [zQ,sA]
    refine tD (.int .i64 (i:Int)) ?_;try simp only [zQ,sA]
    refine tC (.pointer (some (ad.add i))) ?_;try simp only [zQ,sA]
    refine Q0k rfl rfl (.slice Ak mk ck) (fun W hb=>by have:=C1.out W hb; go_simp) ?_;try simp only [zQ,sA]
    refine tD (.slice (some bd) n c') ?_;try simp only [zQ,sA]
    refine tD (.int .i64 (i:Int)) ?_;try simp only [zQ,sA]
    refine tC (.pointer (some (bd.add i))) ?_;try simp only [zQ,sA]
    refine Q0k rfl rfl (.slice Bk lk dk) (fun W hb=>by have:=C2.out W hb; go_simp) ?_;try simp only [zQ,sA]
    refine Q0J rfl rfl 14 #[.slice Ak mk ck,.slice Bk lk dk] (fun W=>by go_simp) (.bool true) (fun W hb=>HCE.out W hb) ?_;try simp only [zQ,sA]
    refine Q0M ?_;intro w2 hb2;have HB2:=sH (HB.out.trans (hb2.mono hsz));clear hb2;go_wp2_with fail
    go_roundw
    case rel=>exact⟨i+1,by omega,by go_num,by rw [zU hix,zU hiy,HE.out,HQ.out],HB2.out⟩
    case measure=>simp [intOf]; omega
   have HQ:=sH hq;have HCE:=sH (HNX.out false (by rw [decide_eq_false hq]));clear hq;refine Q0r 9 27 (by kernel_rfl) (by kernel_rfl) (by kernel_rfl) (by simp) ?_;simp only [tT,tU];refine tD (.slice (some ad) n c) ?_;try simp only [zQ,sA]
   refine tD (.int .i64 (i:Int)) ?_;try simp only [zQ,sA]
   refine tC (.pointer (some (ad.add i))) ?_;try simp only [zQ,sA]
   refine Q0k rfl rfl (.slice Ak mk ck) (fun W hb=>by have:=C1.out W hb; go_simp) ?_;try simp only [zQ,sA]
   refine tD (.slice (some bd) n c') ?_;try simp only [zQ,sA]
   refine tD (.int .i64 (i:Int)) ?_;try simp only [zQ,sA]
   refine tC (.pointer (some (bd.add i))) ?_;try simp only [zQ,sA]
   refine Q0k rfl rfl (.slice Bk lk dk) (fun W hb=>by have:=C2.out W hb; go_simp) ?_;try simp only [zQ,sA]
   refine Q0J rfl rfl 14 #[.slice Ak mk ck,.slice Bk lk dk] (fun W=>by go_simp) (.bool false) (fun W hb=>HCE.out W hb) ?_;try simp only [zQ,sA]
   refine Q0M ?_;intro w2 hb2;have HB2:=sH (HB.out.trans (hb2.mono hsz));clear hb2;go_wp2_with fail
   go_ret
   refine⟨Q0C ?_,HB2.out⟩
   symm
   rw [decide_eq_false_iff_not];rintro rfl;exact HQ.out rfl
  obtain rfl:i=n:=by omega
  have hinI:¬ (i:Int)<(i:Int):=by omega
  clear hbel;go_wp2_with fail
  go_ret
  refine⟨Q0C ?_,HB.out⟩
  symm
  rw [decide_eq_true_iff];have h1:=HE.out
  rwa [zP (by have:=HXL.out; omega),zP (by have:=HYL.out; omega)] at h1
 have hne:((n:Int) != (n':Int))=true:=by rw [bne_iff_ne]; omega
 have HN:=sH (show xss≠yss by rintro rfl; omega);clear hnn hx hy hxl hyl hlx hly;go_enter Tryz.func15,Tryz.ntmps15
 go_wp2_with fail
 go_ret
 exact⟨Q0C (by symm; rw [decide_eq_false_iff_not]; exact HN.out),zN _ _⟩
end
section
open Go.RowKit
theorem Q3d {P:Program} {ops:Array Oper} {rest:List Oper} {o:Oper} {a:Act} {w:zB} {Q:Exit->Act->zB->Prop} (hw:Region.wanted o (yielded ops a.tmps)=true) (ty:TypeId) (x:Operand) (ho:o.op=.load ty x)
 (g off n:Nat) (hx:a.eval x=.pointer (some ⟨g,off,none⟩)) (t:TypeId) (cs vs:Array zC) (d:TypeDesc) (hB:Blk w g t cs)
 (hu:P.underlying ty=some d) (hd:(match d with | .struct _ | .array _ _=>true | _=>false)=true) (hi:(P.info? ty).map (·.size)=some n)
 (hn:vs.size=n) (hv:∀ j,j<n->cs[off+j]?=vs[j]?)
 (h:wpList P ops Q rest (a.put o.dst (.agg vs)) w):wpList P ops Q (o :: rest) a w:=by
 unfold wpList;rw [if_pos hw];exact .inl (Q3t ty x ho g off n hx t cs vs d hB hu hd hi hn hv h)
theorem Q27 {P:Program} {ops:Array Oper} {rest:List Oper} {o:Oper} {a:Act} {w:zB} {Q:Exit->Act->zB->Prop} (hw:Region.wanted o (yielded ops a.tmps)=true) (v:zC)
 (he:(execOp a.eval o).run P w=.ok (.value v) w) (h:wpList P ops Q rest (a.put o.dst v) w):wpList P ops Q (o :: rest) a w:=by
 unfold wpList;rw [if_pos hw];refine .inl ?_;unfold Oper.wp;rw [he];exact h
end
section
open Go.RowKit Go.Maps
attribute [local irreducible] wpList Q0h
def nI (l:List Nat):List Int:=l.map (fun n:Nat=>(n:Int))
theorem Q1U (l:List Nat):(nI l).length=l.length:=by simp [nI]
theorem OwnN.nil_ (w:zB) (B:Nat):OwnN w B (.slice none 0 0) []:=⟨by simp,.inl ⟨rfl,by simp⟩⟩
theorem OwnN.keep_ {w w':zB} {B:Nat} {v:zC} {xs:List Int} (h:OwnN w B v xs) (hk:∀ b,v.ownBlock=some b->w'.heap[b]?=w.heap[b]?):OwnN w' B v xs:=Q0d h hk
theorem OwnN.below_ {w w':zB} {B:Nat} {v:zC} {xs:List Int} (h:OwnN w B v xs) (hb:zE w.heap.size w w'):OwnN w' B v xs:=h.keep_ fun b hb'=>hb.block b (Q07 h hb').2
structure PsSt (w:zB) (xs:List UInt8) (n0:Nat) (A:Option zA) (n c:Nat) (lv:zC) (rest:List UInt8) (done:List Nat) (wr:zB):Prop where
 rd:Q08 wr wr.heap.size 1 A n (rest.map vb)
 cap:n<=c
 own:OwnN wr w.heap.size lv (nI done)
 len:done.length+n<=n0
 num:Q2u xs=(Q2u rest).map (fun l=>done++l)
 max:∀ x,x∈done->x<=maxN
 low:zE w.heap.size w wr
def Q39 (g:Nat) (l:List Int):Wish:=⟨0,0,(g:Int),0,5,0,[],0,0,l⟩
theorem Q2U {g:Nat} (h1:1<=g) (h2:g<=2) (l:List Int):mayB (Q39 g l)=Q1C l:=by
 rw [Bool.eq_iff_iff];unfold mayB;rw [decide_eq_true_eq];unfold MayP;constructor
 ·rintro ⟨_,_,h | h⟩
  ·exact h.2.2.2.2.2.2.2.2.2
  exact absurd rfl h.1
 intro h;exact⟨show (0:Int)<=0 by decide,show (0:Int)<=1048576 by decide,.inl ⟨rfl,rfl,rfl,rfl,rfl,rfl,rfl,by show (1:Int)<=(g:Int); omega,by show (g:Int)<=2; omega,h⟩⟩
end
section
open Go.RowKit Go.Maps
def Q99 (w:zB) (o:Option (List Nat)) (e:Ending) (w':zB):Prop:=∃ v,e=.returned (.tuple #[v,.bool o.isSome])/\OwnN w' w.heap.size v (nI (o.getD []))/\(∀ x,x∈o.getD []->x<=maxN)/\zE w.heap.size w w'
end
section
open Go.RowKit
theorem Qcs (w:zB) (b:UInt8):OwnB (w.alloc (.cells #[vb b] 5)) w.heap.size (.slice (some ⟨w.heap.size,0,none⟩) 1 1) [b] :=⟨rfl,.inr ⟨w.heap.size,1,_,rfl,zL _,heap_alloc_new w _,zL _,by unfold maxLen; omega,rfl,rfl⟩⟩
theorem Q9H (n:Nat) (hn:n<=maxN) (w:zB) :
 zI zK 175 #[.int .i64 (n:Int)] w fun e w'=>∃ v,e=.returned v/\OwnB w' w.heap.size v (digs n (nd n))/\zE w.heap.size w w':=by
 have h7:=Qas hn;have hdl:=Q6U n (nd n);obtain⟨ds,hds⟩:∃ ds,ds=digs n (nd n):=⟨_,rfl⟩;rw [<- hds] at hdl ⊢;have HDS:=sH hds;unfold maxN at hn;clear hds;obtain⟨i0,hi0,hz0,hz1,hz2⟩:=info_parts Q1E;go_enter Tryz.func175,Tryz.ntmps175
 go_wp2_with fail
 go_loopw [0,3] (fun nv ov wr=>∃ (m:Nat) (out:List UInt8),nv=.int .i64 m/\m<=n/\OwnB wr w.heap.size ov out/\ds=digs m (nd m)++out/\zE w.heap.size w wr) (fun nv _ _=>(intOf nv).toNat)
 case atStart=>exact⟨n,[],rfl,zL _,OwnB.nil _ _,by rw [List.append_nil]; exact HDS.out,zN _ _⟩
 obtain⟨m,out,rfl,hm,hov,hd,hbel⟩:=hrel;have HB:=sH hbel;have hsz:=hbel.size;have hol:out.length<=7:=by have:=congrArg List.length hd; rw [zM] at this; omega
 by_cases h0:m=0
 ·subst h0;have hd':ds=out:=by rw [hd,Qes]; rfl
  have HO:=sH (hd'▸hov);clear hd hd' hov hbel;go_wp2_with fail
  go_ret
  exact⟨_,rfl,HO.out,HB.out⟩
 have hd':ds=digs (m / 256) (nd (m / 256))++(zJ (m % 256) :: out):=by rw [hd,nd_pos h0,Qat,List.append_assoc]; rfl
 have HD':=sH hd';obtain⟨Ao,co,rfl,hoc,hom,hor,hoB⟩:=Q0f hov;have hb0:vb (zJ (m % 256))=.int .u8 ((m:Int) % 256):=by unfold vb bi; rw [UInt8.toNat_ofNat']; congr 1; omega
 have hX:zE wr.heap.size wr (wr.alloc (.cells #[vb (zJ (m % 256))] 5)):=(zN _ _).alloc (zL _) _;have hown:=Qcs wr (zJ (m % 256));have hrr:=hor.below hX;rw [hb0] at hX hown hrr;have HX:=sH hX;have HOW:=sH hown.row;have HRR:=sH hrr;have HB0:=sH hb0;have hpm:0<(m:Int):=by omega
 clear hd hd' hov hbel hor hX hown hrr hb0;go_wp2_with (at_builtin; go_must (refine Q03 _ rfl (.tmp 9) (.tmp 10) 22 rfl wr.heap.size 5 i0 _ 1 1 zR hi0 hz0 hz1 hz2 rfl (by omega) _ _ _ rfl HOW.out wr.heap.size Ao out.length co (out.map vb) rfl HRR.out ?c1 ?c2 ?c3 ?c4 ?_))
 case c1=>intro u hu; obtain⟨y,_,rfl⟩:=List.mem_map.1 hu; rfl
 case c2=>unfold maxLen; simp; omega
 case c3=>simp; omega
 case c4=>simp
 intro v3 w3 hown3 hg3 hor3;have HB3:=sH (Q0e (HB.out.trans (HX.out.mono hsz)) (by simp; omega) hg3 (fun b hb=>by simp [zF] at hb; omega));have ho3:OwnB w3 wr.heap.size v3 (zJ (m % 256) :: out):=by unfold OwnB;rw [List.length_cons,List.map_cons,HB0.out,show out.length+1=1+out.length by omega];have:=hown3;rw [HB0.out] at this;exact this
 have HO3:=sH (ho3.more hsz);clear hown3 hg3 hor3 ho3;go_wp2_with fail
 go_roundw
 case rel=>exact⟨m / 256,_,by go_num,by omega,HO3.out,HD'.out,HB3.out⟩
 case measure=>simp [intOf]; omega
theorem Q8p (n:Nat) (hn:n<=maxN) (w:zB) :
 zI zK 153 #[.int .i64 (n:Int)] w fun e w'=>∃ v,e=.returned (.tuple #[v,.int .i64 0])/\OwnB w' w.heap.size v (numB n)/\zE w.heap.size w w':=by
 have h7:=Qas hn;have HD:=sH (fun W=>Q9H n hn W);have HNB:=sH (show numB n=zJ (nd n) :: digs n (nd n) from rfl);have hb0:vb (zJ (nd n))=.int .u8 (nd n:Int):=by unfold vb bi; rw [QdJ hn]
 have HB0:=sH hb0;have HDL:=sH (Q6U n (nd n));unfold maxN at hn;clear hb0;obtain⟨i0,hi0,hz0,hz1,hz2⟩:=info_parts Q1E;generalize digs n (nd n)=ds at HD HNB HDL;generalize numB n=nb at HNB ⊢;obtain⟨k,hk⟩:∃ k,k=nd n:=⟨_,rfl⟩;rw [<- hk] at h7 HB0 HDL HNB;clear hk;go_enter Tryz.func153,Tryz.ntmps153
 go_wp2_with fail
 refine(HD.out w).mono ?_;rintro _ w2 ⟨v,rfl,ho,hb⟩;obtain⟨Ao,co,rfl,hoc,hom,hor,hoB⟩:=Q0f ho;rw [HDL.out] at hoc hor ⊢;have HB2:=sH hb;have hsz:=hb.size;have hX:zE w2.heap.size w2 (w2.alloc (.cells #[vb (zJ k)] 5)):=(zN _ _).alloc (zL _) _;have hown:=Qcs w2 (zJ k);have hrr:=hor.below hX;rw [HB0.out] at hX hown hrr;have HX:=sH hX;have HOW:=sH hown.row;have HRR:=sH hrr;clear ho hb hor hX hown hrr;go_wp2_with (at_builtin; go_must (refine Q03 _ rfl (.tmp 16) (.tmp 17) 22 rfl w2.heap.size 5 i0 _ 1 1 zR hi0 hz0 hz1 hz2 rfl (by omega) _ _ _ rfl HOW.out w2.heap.size Ao k co (ds.map vb) rfl HRR.out ?c1 ?c2 ?c3 ?c4 ?_))
 case c1=>intro u hu; obtain⟨y,_,rfl⟩:=List.mem_map.1 hu; rfl
 case c2=>unfold maxLen; simp; omega
 case c3=>simp; omega
 case c4=>simp
 intro v3 w3 hown3 hg3 hor3;have HB3:=sH (Q0e (HB2.out.trans (HX.out.mono hsz)) (by simp; omega) hg3 (fun b hb=>by simp [zF] at hb; omega));have ho3:OwnB w3 w2.heap.size v3 nb:=by rw [HNB.out];unfold OwnB;rw [List.length_cons,HDL.out,List.map_cons,HB0.out,show k+1=1+k by omega];have:=hown3;rw [HB0.out] at this;exact this
 have HO3:=sH (ho3.more hsz);clear hown3 hg3 hor3 ho3;go_wp2_with fail
 go_ret2
 exact⟨_,rfl,HO3.out,HB3.out⟩
theorem Qcw (A:Option zA) (n c:Nat) (xs:List UInt8) (w:zB) (B:Nat) (h:Q08 w B 1 A n (xs.map vb)) (hB:B<=w.heap.size) (hn:n<=65536) :
 zI zK 121 #[.slice A n c] w fun e w'=>∃ v,e=.returned (.tuple #[v,.int .i64 0])/\OwnB w' w.heap.size v (strB xs)/\zE w.heap.size w w':=by
 have hxn:xs.length=n:=by have:=h.1; simpa using this
 have HXN:=sH hxn;have H:=sH h;have HSB:=sH (show strB xs=numB n++xs by unfold strB; rw [hxn]);have HNL:=sH (Q2D (n:=n) (by unfold maxN; omega));have HNM:=sH (fun W=>Q8p n (by unfold maxN; omega) W);clear hxn h;obtain⟨i0,hi0,hz0,hz1,hz2⟩:=info_parts Q1E;generalize numB n=nb at HSB HNL HNM;generalize strB xs=sb at HSB ⊢;go_enter Tryz.func121,Tryz.ntmps121
 go_wp2_with fail
 refine(HNM.out w).mono ?_;rintro _ w2 ⟨v,rfl,ho,hb⟩;have HB2:=sH hb;have hsz:=hb.size;have HOW:=sH ho.row;have hge:=fun b (hb:v.ownBlock=some b)=>ho.ge hb
 have HGE:=sH hge;have HRR:=sH (H.out.below (hb.mono hB));have hnl:=HNL.out.2;clear ho hb hge;go_wp2_with (at_builtin; go_must (refine Q03 _ rfl (.tmp 15) (.tmp 16) 22 rfl w.heap.size 5 i0 _ 1 1 zR hi0 hz0 hz1 hz2 rfl (by omega) _ _ _ rfl HOW.out B A n c (xs.map vb) rfl HRR.out ?c1 ?c2 ?c3 ?c4 ?_))
 case c1=>intro u hu; obtain⟨y,_,rfl⟩:=List.mem_map.1 hu; rfl
 case c2=>unfold maxLen; omega
 case c3=>omega
 case c4=>omega
 intro v3 w3 hown3 hg3 hor3;have HB3:=sH (Q0e HB2.out (by omega) hg3 (fun b hb=>HGE.out b hb));have HO3:=sH (show OwnB w3 w.heap.size v3 sb by rw [HSB.out];unfold OwnB;rw [zM,List.map_append,HXN.out];exact hown3)
 clear hown3 hg3 hor3;go_wp2_with fail
 go_ret2
 exact⟨_,rfl,HO3.out,HB3.out⟩
theorem Q53 (A:Option zA) (n c:Nat) (xs:List UInt8) (w:zB) (B:Nat) (h:Q08 w B 1 A n (xs.map vb)) (hB:B<=w.heap.size) (hc:n<=c) (hcm:n<=140737488355328) :
 zI zK 115 #[.slice A n c] w fun e w'=>∃ v,e=.returned (.tuple #[.int .i64 ((tn xs).1:Int),v,.int .i64 ((tn xs).2.2:Int)])/\OwnB w' w.heap.size v (tn xs).2.1/\zE w.heap.size w w':=by
 have hxn:xs.length=n:=by have:=h.1; simpa using this
 cases xs with
 | nil =>
  simp at hxn;subst hxn;go_enter Tryz.func115,Tryz.ntmps115
  go_wp2_with fail
  go_ret3
  exact⟨_,rfl,OwnB.nil _ _,zN _ _⟩
 | cons m r =>
  obtain⟨ad,hA,hadb,hcell⟩:=h.2 (by simp at hxn; omega);subst hA;obtain⟨k,hk⟩:∃ k,k=m.toNat:=⟨_,rfl⟩;have hk8:k<256:=by rw [hk]; exact m.toNat_lt
  have hwk:wrap64 (k:Int)=(k:Int):=by unfold wrap64; omega
  have c0:w.cell? ad=some (.int .u8 (k:Int)):=by
   have h0:w.cell? ad=some (vb m):=by have:=hcell 0 (vb m) rfl; simpa [Addr.add] using this
   rw [hk];exact h0
  have hcr:∀ j (hj:j<r.length),w.cell? (ad.add (j+1))=some (vb r[j]):=fun j hj=>hcell (j+1) _ (by rw [List.map_cons,List.getElem?_cons_succ,List.getElem?_map,zD hj]; rfl)
  have hrn:r.length=n - 1:=by simp at hxn; omega
  have hn1:1<=n:=by simp at hxn; omega
  have HK:=sH hk;have H:=sH h;have HCR:=sH hcr;have HRN:=sH hrn;have hn0:¬ (n:Int)=0:=by omega
  have hn1':(1:Int)<=n:=by omega
  clear hcell hxn h hk hrn hcr;go_enter Tryz.func115,Tryz.ntmps115
  go_upto_region 4 with fail
  clear c0;by_cases h1:7<k
  ·have htn:tn (m :: r)=(0,[],4):=by unfold tn Q4j; simp only [<- HK.out]; rw [if_pos h1]
   have HT:=sH htn;clear htn;go_wp2_with fail
   go_ret3
   exact⟨_,by rw [HT.out]; rfl,by rw [HT.out]; exact OwnB.nil _ _,zN _ _⟩
  by_cases h2:n - 1<k
  ·have htn:tn (m :: r)=(0,[],3):=by unfold tn Q4j; simp only [<- HK.out]; rw [if_neg h1,if_pos (by have:=HRN.out; omega)]
   have HT:=sH htn;have h2':(n:Int) - 1<k:=by omega
   clear htn;go_wp2_with fail
   go_ret3
   exact⟨_,by rw [HT.out]; rfl,by rw [HT.out]; exact OwnB.nil _ _,zN _ _⟩
  have h2':¬ (n:Int) - 1<k:=by omega
  by_cases h3:0<k/\r.head?=some 0
  ·have htn:tn (m :: r)=(0,[],4):=by unfold tn Q4j; simp only [<- HK.out]; rw [if_neg h1,if_neg (by have:=HRN.out; omega),if_pos h3]
   have HT:=sH htn;clear htn;obtain⟨h3a,h3b⟩:=h3;have c1:w.cell? ⟨ad.block,ad.off+1,none⟩=some (.int .u8 0):=by
    show w.cell? (ad.add 1)=_;cases r with
    | nil=>simp at h3b
    | cons a t=>simp at h3b; subst h3b; exact HCR.out 0 (by simp)
   have hn2:(1:Int)<n:=by omega
   have hn2':1<n:=by omega
   go_wp2_with fail
   go_ret3
   exact⟨_,by rw [HT.out]; rfl,by rw [HT.out]; exact OwnB.nil _ _,zN _ _⟩
  go_upto_region 8 with fail
  go_cut [29] (fun s25 wx=>s25=.bool false/\wx=w)
  case first =>
   by_cases h0:0<k
   ·have hnx:∃ z,w.cell? ⟨ad.block,ad.off+1,none⟩=some (.int .u8 z)/\z≠0:=by
     show ∃ z,w.cell? (ad.add 1)=some (.int .u8 z)/\z≠0;cases r with
     | nil=>have:=HRN.out; simp at this; omega
     | cons a t =>
      refine⟨bi a,HCR.out 0 (by simp),fun e=>h3 ⟨h0,?_⟩⟩
      simp
      exact Qcd e
    obtain⟨z,hc1',hz⟩:=hnx;have hzz:(z == 0)=false:=by simp [hz]
    have hn2:(1:Int)<n:=by omega
    have hn2':1<n:=by omega
    go_wp2_with fail
    go_meet
    exact⟨rfl,rfl⟩
   have h0':k=0:=by omega
   subst h0';go_wp2_with fail
   go_meet
   exact⟨rfl,rfl⟩
  obtain⟨rfl,rfl⟩:=hcut;go_wp2_with fail
  go_loopw [6,7] (fun av iv wr=>∃ j:Nat,j<=k/\iv=.int .i64 ((j+1:Nat):Int)/\av=.int .i64 ((valB (r.take j):Nat):Int)/\wc=wr) (fun _ iv _=>k+1 - (intOf iv).toNat)
  case atStart=>exact⟨0,by omega,rfl,rfl,rfl⟩
  obtain⟨i,hi,rfl,rfl,rfl⟩:=hrel;have hil:i<k->i<r.length:=fun h=>by have:=HRN.out; omega
  by_cases hik:i<k
  ·have hcu:=HCR.out i (hil hik);have hv:valB (r.take (i+1))=valB (r.take i)*256+(r[i]'(hil hik)).toNat:=by rw [zU (hil hik),Q4z]
   have hvl:=Q7o i (r.take i) (by rw [List.length_take]; have:=HRN.out; omega);have hvl6:valB (r.take i)<256 ^ 6:=Nat.lt_of_lt_of_le hvl (Nat.pow_le_pow_right (by omega) (by omega));have h256:=(r[i]'(hil hik)).toNat_lt;have hc2':wc.cell? (ad.add (i+1))=some (.int .u8 (((r[i]'(hil hik)).toNat:Nat):Int)):=hcu;have hc3':wc.cell? ⟨ad.block,ad.off+(i+1),none⟩=some (.int .u8 (((r[i]'(hil hik)).toNat:Nat):Int)):=hc2';generalize (r[i]'(hil hik)).toNat=y at hv h256 hc2' hc3';obtain⟨x,hx⟩:∃ x,x=valB (r.take i):=⟨_,rfl⟩;rw [<- hx] at hv hvl6 ⊢;have HV:=sH hv;have HX:=sH hx;have hx6:x<281474976710656:=hvl6;have hin1:i+1<n:=by omega
   have hie:((i+1:Nat):Int)<=k:=by omega
   clear hvl hvl6 hv hx hcu;go_wp2_with fail
   go_roundw
   case rel=>exact⟨i+1,by omega,by go_num,by rw [HV.out]; go_num,trivial⟩
   case measure=>simp [intOf]; omega
  obtain rfl:i=k:=by omega
  have hie:¬ ((i+1:Nat):Int)<=i:=by omega
  have htk:tn (m :: r)=if maxN<valB (r.take i) then(0,[],9) else(valB (r.take i),r.drop i,0):=by
   unfold tn Q4j;simp only [<- HK.out];rw [if_neg h1,if_neg (by have:=HRN.out; omega),if_neg h3];by_cases hq:maxN<valB (r.take i)
   ·rw [if_pos hq,if_pos hq]
   rw [if_neg hq,if_neg hq]
  have hvl:=Q7o i (r.take i) (by rw [List.length_take]; have:=HRN.out; omega);have hx6:valB (r.take i)<72057594037927936:=Nat.lt_of_lt_of_le hvl (Nat.pow_le_pow_right (show 256 > 0 by omega) (show i<=7 by omega));clear hvl;generalize valB (r.take i)=x at htk hx6;by_cases hx9:maxN<x
  ·rw [if_pos hx9] at htk;have HT:=sH htk;clear htk;unfold maxN at hx9;go_wp2_with fail
   go_ret3
   exact⟨_,by rw [HT.out]; rfl,by rw [HT.out]; exact OwnB.nil _ _,zN _ _⟩
  rw [if_neg hx9] at htk;have HT:=sH htk;clear htk;unfold maxN at hx9;have hsl3:=fun W=>Q0U (P:=zK) (t:=22) (e:=5) rfl rfl (some ad) n c (i+1) ((i:Int)+1) rfl (by omega) W
  have hr3:=H.out.cut (cap:=c) (show i+1<=n by omega) hc;obtain⟨A3,hA3⟩:∃ A3,A3=(if c=i+1 then some ad else(some ad).map (·.add (i+1))):=⟨_,rfl⟩;rw [Nat.mul_one,<- hA3,<- List.map_drop,List.drop_succ_cons] at hr3;rw [<- hA3] at hsl3;have hwr:IntKind.i64.wrap (1+(i:Int))=(i:Int)+1:=by rw [Int.add_comm]; exact IntWalk.i64_in _ (by omega)
  have hac:(1+(i:Int))=(i:Int)+1:=Int.add_comm _ _;have HR3:=sH hr3;clear hA3 hr3;go_wp2_with fail
  refine(Q1F A3 (n - (i+1)) (c - (i+1)) (r.drop i) wc B HR3.out (by omega) (by omega)).mono ?_;rintro _ w5 ⟨v,rfl,hov,hb5⟩;have HO5:=sH hov;have HB5:=sH hb5;clear hov hb5;go_wp2_with fail
  go_ret3
  refine⟨v,by rw [HT.out]; rfl,?_,HB5.out⟩;rw [HT.out];exact HO5.out
theorem Q8f (A:Option zA) (n c k:Nat) (xs:List UInt8) (w:zB) (B:Nat) (h:Q08 w B 1 A n (xs.map vb)) (hB:B<=w.heap.size) (hc:n<=c) (hcm:n<=140737488355328) (hk:k<=140737488355328) :
 zI zK 116 #[.slice A n c,.int .i64 (k:Int)] w fun e w'=>∃ v v',e=.returned (.tuple #[v,v',.int .i64 (if n<k then 3 else 0)])/\OwnB w' w.heap.size v (if n<k then [] else xs.take k)/\OwnB w' w.heap.size v' (if n<k then [] else xs.drop k)/\zE w.heap.size w w':=by
 have hxn:xs.length=n:=by have:=h.1; simpa using this
 have HXN:=sH hxn;have H:=sH h;clear hxn h;by_cases hkn:n<k
 ·rw [if_pos hkn,if_pos hkn,if_pos hkn];go_enter Tryz.func116,Tryz.ntmps116
  go_wp2_with fail
  go_ret3
  exact⟨_,_,rfl,OwnB.nil _ _,OwnB.nil _ _,zN _ _⟩
 rw [if_neg hkn,if_neg hkn,if_neg hkn];have hsl2:=fun W=>Q4o (P:=zK) (t:=22) (e:=5) rfl rfl A n c k (k:Int) rfl (by omega) W
 have hsl3:=fun W=>Q0U (P:=zK) (t:=22) (e:=5) rfl rfl A n c k (k:Int) rfl (by omega) W
 have hr2:=H.out.to (cap:=c) (show k<=n by omega) hc;have hr3:=H.out.cut (cap:=c) (show k<=n by omega) hc;obtain⟨A2,hA2⟩:∃ A2,A2=(if c=0 then A else A.map (·.add 0)):=⟨_,rfl⟩;obtain⟨A3,hA3⟩:∃ A3,A3=(if c=k then A else A.map (·.add k)):=⟨_,rfl⟩;rw [Nat.mul_one,<- hA3] at hr3;rw [<- hA2] at hsl2 hr2;rw [<- hA3] at hsl3;rw [<- List.map_take] at hr2;rw [<- List.map_drop] at hr3;have HC2:=sH (fun W (hb:zE w.heap.size w W)=>Q1F A2 k c (xs.take k) W B (hr2.below (hb.mono hB)) (by have:=hb.size; omega) (by omega));have HC3:=sH (fun W (hb:zE w.heap.size w W)=>Q1F A3 (n - k) (c - k) (xs.drop k) W B (hr3.below (hb.mono hB)) (by have:=hb.size; omega) (by omega));clear hA2 hA3 hr2 hr3;go_enter Tryz.func116,Tryz.ntmps116
 go_upto_region 5 with fail
 refine Q0m 8 21 (fun j W v=>match j with
  | 0 | 4=>v=.slice A n c
  | 1 | 5=>v=.int .i64 (k:Int)
  | 2=>v=.slice A2 k c
  | 3=>OwnB W w.heap.size v (xs.take k)
  | 6=>v=.slice A3 (n - k) (c - k)
  | _=>OwnB W w.heap.size v (xs.drop k)) [13,14,15,16,17,18,19,20] (by kernel_rfl) (by kernel_rfl) (by kernel_rfl) (by simp) (by kernel_rfl) (fun j=>?last) ?heads ?_
 case last =>
  match j with
  | 0 | 1 | 2 | 4 | 5 | 6=>exact Q15.pure _
  | 3=>exact Q4A _ _
  | j+7=>exact Q4A _ _
 case heads =>
  simp only [tT];refine⟨?_,?_,?_,?_,?_,?_,?_,?_,trivial⟩;all_goals intro a W hb hkp hd
  ·have e0:(_:zC)=.slice A n c:=sK hkp 0;exact sV
  ·have e0:(_:zC)=.int .i64 (k:Int):=sK hkp 1;exact sV
  ·have e0:=sJ (hd 0) 13;have e1:=sJ (hd 1) 14;exact sV
  ·have e0:=sJ (hd 2) 15;refine Q0u rfl 8 #[.slice A2 k c] (by go_simp) ((HC2.out W hb).mono ?_);rintro e w' ⟨v,rfl,ho,hb'⟩;exact⟨v,rfl,hb',ho.more hb.size⟩
  ·have e0:(_:zC)=.slice A n c:=sK hkp 0;exact sV
  ·have e0:(_:zC)=.int .i64 (k:Int):=sK hkp 1;exact sV
  ·have e0:=sJ (hd 4) 17;have e1:=sJ (hd 5) 18;exact sV
  have e0:=sJ (hd 6) 19;refine Q0u rfl 8 #[.slice A3 (n - k) (c - k)] (by go_simp) ((HC3.out W hb).mono ?_);rintro e w' ⟨v,rfl,ho,hb'⟩;exact⟨v,rfl,hb',ho.more hb.size⟩
 intro f W hb hd;have h3:OwnB W w.heap.size (f 16) (xs.take k):=hd 3 (by omega) _ 16 rfl rfl;have h7:OwnB W w.heap.size (f 20) (xs.drop k):=hd 7 (by omega) _ 20 rfl rfl;have H3:=sH h3;have H7:=sH h7;have HB:=sH hb;clear h3 h7 hd hb;simp only [Q0F,tU];try simp only [zQ,sA]
 go_wp2_with fail
 go_ret3
 exact⟨_,_,rfl,H3.out,H7.out,HB.out⟩
theorem Q86 (A:Option zA) (n c most:Nat) (xs:List UInt8) (w:zB) (B:Nat) (h:Q08 w B 1 A n (xs.map vb)) (hB:B<=w.heap.size) (hc:n<=c) (hcm:n<=140737488355328) (hm:most<=65536) :
 zI zK 62 #[.slice A n c,.int .i64 (most:Int)] w fun e w'=>∃ v v',e=.returned (.tuple #[v,v',.int .i64 ((ts xs most).2.2:Int)])/\OwnB w' w.heap.size v (ts xs most).1/\OwnB w' w.heap.size v' (ts xs most).2.1/\zE w.heap.size w w':=by
 have hxn:xs.length=n:=by have:=h.1; simpa using this
 have HTN:=sH (Q53 A n c xs w B h hB hc hcm);have hts:=ts_eq xs most;have htl:=Qch xs;have htm:=Qcm xs;have hte:=tn_err xs;obtain⟨p,hp⟩:∃ p,p=tn xs:=⟨_,rfl⟩;rw [<- hp] at HTN hts htl htm hte;obtain⟨k,r,e⟩:=p;simp only at HTN hts htl htm hte;have HTS:=sH hts;have HTL:=sH htl;unfold maxN at htm;rw [hxn] at htl;have HXN:=sH hxn;clear h hts hp hxn;go_enter Tryz.func62,Tryz.ntmps62
 go_wp2_with fail
 refine HTN.out.mono ?_;rintro _ w2 ⟨v,rfl,hov,hb2⟩;have HO2:=sH hov;have HB2:=sH hb2;have hs2:=hb2.size;clear hov hb2;by_cases he:e=0
 ·subst he;obtain⟨Av,cv,rfl,hvc,hvm,hvr,hvB⟩:=Q0f HO2.out;by_cases h5:min most 65536<k
  ·have hq:ts xs most=([],[],5):=by rw [HTS.out,if_neg (by omega),if_pos h5]
   have HQ:=sH hq;clear hq hvr;have hmk:most<k:=by omega
   have hmin:min (most:Int) 65536=(most:Int):=by omega
   go_wp2_with fail
   go_ret3
   exact⟨_,_,by rw [HQ.out]; rfl,by rw [HQ.out]; exact OwnB.nil _ _,by rw [HQ.out]; exact OwnB.nil _ _,HB2.out⟩
  have hmk:¬ most<k:=by omega
  have hmin:min (most:Int) 65536=(most:Int):=by omega
  have hq:ts xs most=if r.length<k then([],[],3) else(r.take k,r.drop k,0):=by rw [HTS.out,if_neg (by omega),if_neg h5]
  have HQ:=sH hq;have HVR:=sH hvr;clear hq hvr;obtain⟨rl,hrl⟩:∃ rl,rl=r.length:=⟨_,rfl⟩;rw [<- hrl] at HVR hvc htl HQ ⊢;have HRL:=sH hrl;clear hrl;go_wp2_with fail
  refine(Q8f Av rl cv k r w2 _ HVR.out (zL _) hvc (by omega) (by omega)).mono ?_;rintro _ w3 ⟨v,v',rfl,ho,ho',hb3⟩;have HO3:=sH (ho.more (B':=w.heap.size) hs2);have HO4:=sH (ho'.more (B':=w.heap.size) hs2);have HB3:=sH (HB2.out.trans (hb3.mono hs2));clear ho ho' hb3;by_cases h6:rl<k
  ·rw [if_pos h6] at HQ;rw [if_pos h6] at HO3 HO4 ⊢;go_wp2_with fail
   go_ret3
   exact⟨_,_,by rw [HQ.out]; rfl,by rw [HQ.out]; exact HO3.out,by rw [HQ.out]; exact HO4.out,HB3.out⟩
  rw [if_neg h6] at HQ;rw [if_neg h6] at HO3 HO4 ⊢;go_wp2_with fail
  go_ret3
  exact⟨_,_,by rw [HQ.out]; rfl,by rw [HQ.out]; exact HO3.out,by rw [HQ.out]; exact HO4.out,HB3.out⟩
 have hq:ts xs most=([],[],e):=by rw [HTS.out,if_pos he]
 have HQ:=sH hq;clear hq;have he':¬ (e:Int)=0:=by omega
 go_wp2_with fail
 go_ret3
 exact⟨_,_,by rw [HQ.out]; rfl,by rw [HQ.out]; exact OwnB.nil _ _,by rw [HQ.out]; exact OwnB.nil _ _,HB2.out⟩
end
section
open Go.RowKit Go.Maps
attribute [local irreducible] wpList Q0h
theorem Q9e (A:Option zA) (n c:Nat) (xs:List UInt8) (w:zB) (B:Nat) (h:Q08 w B 1 A n (xs.map vb)) (hB:B<=w.heap.size) (hc:n<=c) (hn:n<=1000000000000) :
 zI zK 106 #[.slice A n c] w (Q99 w (Q2u xs)):=by
 obtain⟨o,ho⟩:∃ o,o=Q2u xs:=⟨_,rfl⟩;rw [<- ho];have HO:=sH ho;have HST:=sH (show PsSt w xs n A n c (.slice none 0 0) xs [] w from⟨h.more hB,hc,OwnN.nil_ _ _,by simp,by cases Q2u xs <;> rfl,fun x hx=>by simp at hx,zN _ _⟩);obtain⟨i0,hi0,hz0,hz1,hz2⟩:=info_parts Q3e;obtain⟨n0,hn0⟩:∃ k,k=n:=⟨_,rfl⟩;rw [<- hn0] at hn;have HST2:=sH (show PsSt w xs n0 A n c (.slice none 0 0) xs [] w from hn0▸HST.out);clear h ho HST hc hn0;go_enter Tryz.func106,Tryz.ntmps106
 go_wp2_with fail
 go_loopw [0,4] (fun bv lv wr=>∃ (A:Option zA) (n c:Nat) (rest:List UInt8) (done:List Nat),bv=.slice A n c/\PsSt w xs n0 A n c lv rest done wr) (fun bv _ _=>(match bv with | .slice _ n _=>n | _=>0))
 case atStart=>exact⟨_,_,_,_,_,rfl,HST2.out⟩
 obtain⟨A,n,c,rest,done,rfl,hps⟩:=hrel;have HPS:=sH hps;have hrl:rest.length=n:=by have:=hps.rd.1; simpa using this
 have HRL:=sH hrl;have hsz:=hps.low.size;have hlen:=hps.len;clear hps hrl;by_cases h0:n=0
 ·subst h0;have hre:rest=[]:=zH (by have:=HRL.out; omega);have hnum:o=some done:=by
   have:=HPS.out.num;rw [hre] at this;rw [HO.out,this];simp [Q9W]
  have HOWN:=sH HPS.out.own;have HMAX:=sH HPS.out.max;have HLOW:=sH HPS.out.low;clear hre HPS HRL HO hlen;subst hnum;go_wp2_with fail
  go_ret2
  exact⟨_,rfl,HOWN.out,HMAX.out,HLOW.out⟩
 have h0b:(0:Int)<(n:Int):=by omega
 have hne:rest≠[]:=by intro e; have:=HRL.out; rw [e] at this; simp at this; omega
 have HTN:=sH (Q53 A n c rest wr wr.heap.size HPS.out.rd (zL _) HPS.out.cap (by omega));have htm:=Qcm rest;have HBADN:=sH (fun(he:(tn rest).2.2≠0)=>Qan hne he);have HNEXT:=sH (fun(he:(tn rest).2.2=0)=>Q8t hne he);have HSHR:=sH (fun(he:(tn rest).2.2=0)=>Q5s he);obtain⟨p,hp⟩:∃ p,p=tn rest:=⟨_,rfl⟩;rw [<- hp] at HTN htm HBADN HNEXT HSHR;obtain⟨k,r,e⟩:=p;simp only at HTN htm HBADN HNEXT HSHR;have HTM:=sH htm;clear hne hp htm;obtain⟨Al,cl,hlv,hlc,_,_,_⟩:=Q0i HPS.out.own;rw [Q1U] at hlv hlc;subst hlv;go_wp2_with fail
 refine HTN.out.mono ?_;rintro _ w2 ⟨v,rfl,ho2,hb2⟩;obtain⟨A1,c1,hv,q1,q2,hr1,_⟩:=Q0f ho2;subst hv;have HR1:=sH hr1;have HOB:=sH ho2;have HL2:=sH (HPS.out.low.trans (hb2.mono hsz));have HOW2:=sH (HPS.out.own.below_ hb2);have hs2:=hb2.size;clear ho2 hb2 hr1 HTN;by_cases he:e=0
 ·have heb:((e:Int) != 0)=false:=by simp [he]
  have hshr:=HSHR.out he;have hnx:=HNEXT.out he;rw [HRL.out] at hshr;have HNX:=sH hnx;have HW:=sH (show (w2.alloc (.cells #[.int .i64 (k:Int)] 3)).ownsRow w.heap.size 3 1 (.slice Al done.length cl) done.length ((nI done).map vn) from by have:=World.ownsRow.alloc HOW2.out (.cells #[.int .i64 (k:Int)] 3);rw [Q1U] at this;exact this)
  have HR3:=sH (Q0N w2 #[.int .i64 (k:Int)] 3);have HR1b:=sH (HR1.out.below (Q04 w2 (.cells #[.int .i64 (k:Int)] 3)));obtain⟨dn,hdn⟩:∃ d,d=done.length:=⟨_,rfl⟩;rw [<- hdn] at HW hlen ⊢;have HDN:=sH hdn;obtain⟨rl,hrl⟩:∃ d,d=r.length:=⟨_,rfl⟩;rw [<- hrl] at hshr HR1b q1 ⊢;have HRLE:=sH hrl;clear hnx hdn hrl;go_wp2_with (at_builtin; go_must (refine Q03 _ rfl (.tmp 19) (.tmp 21) 42 rfl w.heap.size 3 i0 _ 1 8 zV hi0 hz0 hz1 hz2 rfl (by omega) _ dn ((nI done).map vn) rfl HW.out (w2.heap.size+1) (some ⟨w2.heap.size,0,none⟩) 1 1 [.int .i64 (k:Int)] rfl HR3.out ?c1 ?c2 ?c3 ?c4 ?_))
  case c1=>intro z hz; rw [List.mem_singleton] at hz; subst hz; rfl
  case c2=>unfold maxLen; omega
  case c3=>omega
  case c4=>simp; omega
  intro v6 w6 hown6 hg6 hor6;have hps6:PsSt w xs n0 A1 rl c1 v6 r (done++[k]) w6:=by
   have hge:∀ b,(Value.slice Al dn cl).ownBlock=some b->w.heap.size<=b:=fun b hb=>(Q07 HW.out hb).1
   have hal:=Q04 w2 (.cells #[.int .i64 (k:Int)] 3);have hsz2:=HL2.out.size;refine⟨?_,q1,?_,?_,?_,?_,?_⟩
   ·have hob:=HOB.out.below hal;have hk:=hob.keep (w':=w6) fun b hb=>by
     obtain⟨cur,hcur⟩:=Q5M hob hb;exact hg6.block b (hob.lt hb) (fun e=>Q05 HW.out hcur (by decide) e.symm)
    rw [HRLE.out];exact hk.reads.2.2.2.1
   ·unfold OwnN;rw [Q1U,zM,<- HDN.out];have e2:nI (done++[k])=nI done++[(k:Int)]:=by simp [nI]
    rw [e2,List.map_append];exact hown6
   ·rw [zM,<- HDN.out];simp only [List.length_cons,List.length_nil];omega
   ·rw [HPS.out.num,HNX.out];cases Q2u r with
    | none=>rfl
    | some l=>simp
   ·intro x hx;rcases List.mem_append.1 hx with hx | hx
    ·exact HPS.out.max x hx
    rw [List.mem_singleton] at hx; subst hx; exact HTM.out
   exact Q0e (HL2.out.trans (hal.mono hsz2)) (by simp; omega) hg6 (fun b hb=>hge b hb)
  have HPS6:=sH hps6;clear hown6 hg6 hor6 hps6;go_wp2_with fail
  go_roundw
  case rel=>exact⟨_,_,_,_,_,rfl,HPS6.out⟩
  case measure=>simp; omega
 have heb:((e:Int) != 0)=true:=by simpa using he
 have ho:o=none:=by rw [HO.out,HPS.out.num,HBADN.out he]; rfl
 subst ho;go_wp2_with fail
 go_ret2
 exact⟨_,rfl,OwnN.nil_ _ _,(fun l hl=>by cases hl),HL2.out⟩
end
end Go.Proofs.YtcpngeiahgoacaaGreat
