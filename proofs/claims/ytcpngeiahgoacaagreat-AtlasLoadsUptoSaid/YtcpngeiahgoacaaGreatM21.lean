/- Parts of the proof, in one text. -/
import Derived.Test.YtcpngeiahgoacaaGreatM20
import Derived.Test.YtcpngeiahgoacaaGreatM15
import Derived.Test.YtcpngeiahgoacaaGreatM6
import Derived.Test.YtcpngeiahgoacaaGreatM19
import Derived.Test.YtcpngeiahgoacaaGreatM16
import Derived.Test.YtcpngeiahgoacaaGreatM8
import Derived.BigRegion
import Derived.Test.YtcpngeiahgoacaaGreatM3
import Derived.Test.YtcpngeiahgoacaaGreatRows
namespace Go.Proofs.YtcpngeiahgoacaaGreat
set_option linter.unusedVariables false
set_option linter.unusedSimpArgs false
set_option maxRecDepth 100000
set_option maxHeartbeats 16000000
open _root_.Go renaming World->zA
open _root_.Go.Act renaming put->zJ
open _root_.Go.Proofs.Tryz renaming prog->zE
open _root_.Go.RowKit renaming Below->zC
open _root_.Go.RowKit.Below renaming refl->zG
open _root_.List renaming getElem?_eq_getElem->zB,range->zD,getElem_mem->zH,take_of_length_le->zI,take_succ_eq_append_getElem->zK,mem_singleton->zM
open _root_.Nat renaming le_refl->zF
open _root_.Option.some renaming inj->zL
section
open Go.RowKit Go.Maps
attribute [local irreducible] wpList Q0h
theorem ANew.before {w W w':zA} {k:Book} {V:ALoc} {L:LL} {asked:Nat} {m:AM} (hb:zC w.heap.size w W) (h:ANew W w' k V L asked m):ANew w w' k V L asked m:=by have hs:=hb.size;refine⟨h.kk,h.vat.mono (fun b _ hn=>hn.imp id (fun e=>by omega)) (fun b hv=>.inl hv),⟨by have:=h.new.1; omega,by have:=h.new.2.1; omega,fun b hb'=>by have:=h.new.2.2 b hb'; omega⟩,h.book,(Only.of_below hb).trans h.only⟩
def Q5P (w:zA) (k:Book) (L:LL) (asked:Nat) (o:Option AM) (n:Nat) (e:Ending) (w':zA):Prop :=(o=none->e=.returned (.tuple #[.pointer none,.int .i64 (n:Int)])/\zC w.heap.size w w')/\(∀ m,o=some m->∃ V:ALoc,e=.returned (.tuple #[.pointer (some ⟨V.g,0,none⟩),.int .i64 0])/\ANew w w' k V L asked m)
structure ALdSt (w:zA) (xs:List UInt8) (A:Option Addr) (n c:Nat) (lv:Value) (rest:List UInt8) (acc:LL) (vs:List Value) (i:Nat) (wr:zA):Prop where
 rd:Q08 wr wr.heap.size 1 A n (rest.map vb)
 cap:n<=c
 own:OwnL wr w.heap.size lv acc vs
 al:acc.length=i
 ax:∀ x,x∈acc->x.length<=1000000000000
 go:Q3p 6 xs []=Q3p (6 - i) rest acc
 low:zC w.heap.size w wr
theorem Qed (k:Book) (L:LL) (asked:Nat) (A:Option Addr) (n c:Nat) (xs:List UInt8) (w:zA) (hbk:Q0y w k L asked) (has:asked<=600000) (hr:Q08 w w.heap.size 1 A n (xs.map vb)) (hc:n<=c) (hn:n<=1000000000000) :
 Calls zE 47 #[.pointer (some ⟨k.g,0,none⟩),.slice A n c] w (Q5P w k L asked (Q2O xs).1 (Q2O xs).2):=by
 obtain⟨o,ho⟩:∃ o,o=(Q2O xs).1:=⟨_,rfl⟩;obtain⟨en,hen⟩:∃ o,o=(Q2O xs).2:=⟨_,rfl⟩;rw [<- ho,<- hen];have HO:=sH ho;have HEN:=sH hen;have HBK:=sH hbk;have HST:=sH (show ALdSt w xs A n c (.slice none 0 0) xs [] [] 0 w from⟨hr,hc,OwnL.nil _ _,rfl,(fun x hx=>by simp at hx),rfl,zG _ _⟩);obtain⟨i0,hi0,hz0,hz1,hz2⟩:=info_parts Q5r;clear hr hbk ho hen hc;go_enter Tryz.func47,Tryz.ntmps47
 go_wp2_with fail
 go_loopw [1,6,10] (fun bv lv iv wr=>∃ (A:Option Addr) (n c:Nat) (rest:List UInt8) (acc:LL) (vs:List Value) (i:Nat),i<=6/\n<=1000000000000/\bv=.slice A n c/\iv=.int .i64 i/\ALdSt w xs A n c lv rest acc vs i wr) (fun _ _ iv _=>6 - (intOf iv).toNat)
 case atStart=>exact⟨_,_,_,_,_,_,0,by omega,hn,rfl,rfl,HST.out⟩
 obtain⟨A,n,c,rest,acc,vs,i,hi,hn,rfl,rfl,hst⟩:=hrel;have HS:=sH hst;have hsz:=hst.low.size;have hrl:rest.length=n:=by have:=hst.rd.1; simpa using this
 have HRL:=sH hrl;clear hrl;by_cases hin:i<6
 ·have hinI:(i:Int)<6:=by omega
  have HT:=sH (Qb6 A n c 128 rest wr wr.heap.size hst.rd (zF _) hst.cap (by omega) (by omega));have hgo:=HS.out.go.trans ((congrArg (fun q=>Q3p q rest acc) (show 6 - i=(6 - (i+1))+1 by omega)).trans (Q7j _ rest acc));have hl1:=ts_len rest 128;have hl2:=Qca rest 128;obtain⟨q,hq⟩:∃ q,q=ts rest 128:=⟨_,rfl⟩;rw [<- hq] at HT hgo hl1 hl2;obtain⟨d,r2,e2⟩:=q;simp only at hgo hl1 hl2;have HT2:=sH (show Calls zE 61 #[.slice A n c,.int .i64 128] wr _ from HT.out);have HGO:=sH hgo;have HL1:=sH hl1;have HL2:=sH hl2;clear hst HT hq hgo hl1 hl2;go_wp2_with fail
  refine HT2.out.mono ?_;rintro _ w3 ⟨v,v',rfl,hod,hor,hb3⟩;obtain⟨Au,cu,hv,q1,q2,q3,q4⟩:=Q0f hod;obtain⟨A4,c4,hv',p1,p2,p3,p4⟩:=Q0f hor;subst hv hv';have HP3:=sH p3;have hs3:=hb3.size;have hrn:r2.length<=1000000000000:=by have:=HL1.out; have:=HRL.out; omega
  have hdn:d.length<=1000000000000:=by have:=HL2.out; have:=HRL.out; omega
  obtain⟨u,hu⟩:∃ u,u=Value.slice Au d.length cu:=⟨_,rfl⟩;have HOR:=sH (show OwnB w3 w.heap.size (.slice A4 r2.length c4) r2 from hor.more hsz);have HOD:=sH (show OwnB w3 w.heap.size u d from by rw [hu]; exact hod.more hsz);have HB3:=sH hb3;clear hod hor q1 q2 q3 q4 p2 p3 p4 HT2;obtain⟨nd,hnd⟩:∃ k,k=d.length:=⟨_,rfl⟩;obtain⟨nr,hnr⟩:∃ k,k=r2.length:=⟨_,rfl⟩;rw [<- hnd] at hu hdn ⊢;rw [<- hnr] at hrn p1 HP3 HOR ⊢;have HND:=sH hnd;clear hnd hnr;by_cases he:e2=0
  ·subst he;have HW:=sH (show (w3.alloc (.cells #[u] 22)).ownsRow w.heap.size 22 1 _ i vs from by
    have:=(Q0d HS.out.own.row (w':=w3) fun b hb''=>hb3.block b (Q07 HS.out.own.row hb'').2).alloc (.cells #[u] 22);rw [HS.out.al] at this;exact this)
   have HR3:=sH (Q0N w3 #[u] 22);rw [hu] at HW HR3;have HU:=sH hu;clear hb3 hu;go_wp2_with (at_builtin; go_must (refine Q03 _ rfl (.tmp 21) (.tmp 23) 23 rfl w.heap.size 22 i0 _ 1 24 Tryz.underlying23 hi0 hz0 hz1 hz2 rfl (by omega) _ i vs rfl HW.out (w3.heap.size+1) (some ⟨w3.heap.size,0,none⟩) 1 1 [.slice Au nd cu] rfl HR3.out ?c1 ?c2 ?c3 ?c4 ?_))
   case c1=>intro z hz; rw [zM] at hz; subst hz; rfl
   case c2=>unfold maxLen; omega
   case c3=>omega
   case c4=>simp; omega
   intro v6 w6 hown6 hg6 hor6;rw [<- HU.out] at hown6 hg6;have ho6:OwnL w6 w.heap.size v6 (acc++[d]) (vs++[u]):=HS.out.own.push HB3.out HOD.out (by rw [HS.out.al]; exact hown6) hg6;have hb6:zC w.heap.size w w6:=Q0e ((HS.out.low.trans (HB3.out.mono hsz)).trans ((Q04 w3 (.cells #[u] 22)).mono (by omega))) (by simp; omega) hg6 (fun b hb=>(Q07 HS.out.own.row hb).1);have hrd6:Q08 w6 w6.heap.size 1 A4 nr (r2.map vb):=(HS.out.own.push_keep HB3.out hg6 HOR.out).reads.2.2.2.1;have hst6:ALdSt w xs A4 nr c4 v6 r2 (acc++[d]) (vs++[u]) (i+1) w6:=⟨hrd6,p1,ho6,by rw [List.length_append,HS.out.al]; rfl,(by
    intro x hx;rcases List.mem_append.1 hx with hx | hx
    ·exact HS.out.ax x hx
    rw [zM] at hx; rw [hx,<- HND.out]; exact hdn),by rw [HGO.out,if_neg (by simp)],hb6⟩
   have HST6:=sH hst6;clear hown6 hg6 hor6 ho6 hb6 hrd6 hst6;go_wp2_with fail
   go_roundw
   case rel=>exact⟨_,_,_,_,_,_,i+1,by omega,hrn,rfl,by go_num,HST6.out⟩
   case measure=>simp [intOf]; omega
  have heb:((e2:Int) != 0)=true:=by simp; omega
  have hlo:Q2O xs=(none,e2):=by unfold Q2O;rw [HGO.out,if_pos he];simp only;rw [if_pos he]
  have ho:o=none:=by rw [HO.out,hlo]
  have he2:en=e2:=by rw [HEN.out,hlo]
  have HLOW:=sH (HS.out.low.trans (hb3.mono hsz));subst ho he2;clear hb3 hu hlo HO HEN HS;go_wp2_with fail
  go_ret2
  exact⟨fun _=>⟨rfl,HLOW.out⟩,fun m hm=>by cases hm⟩
 obtain rfl:i=6:=by omega
 have hinI:¬ (6:Int)<6:=by omega
 have hlg:Q3p 6 xs []=(acc,rest,0):=by rw [HS.out.go]; rfl
 have HLG:=sH hlg;obtain⟨Al,cl,hlv,hcl,hrows⟩:=HS.out.own.rowsC;rw [HS.out.al] at hlv hrows;subst hlv;have HROWS:=sH hrows;clear hst hlg hrows hcl;by_cases h0:n=0
 ·have h0I:¬ (0:Int)<(n:Int):=by omega
  subst h0;have hlo:Q2O xs=match Q3h acc with | none=>(none,2) | some m=>(some m,0):=by unfold Q2O;rw [HLG.out];simp only;rw [if_neg (by simp),if_neg (by rw [HRL.out]; omega)];cases Q3h acc <;> rfl
  have HBW:=sH (HBK.out.below HS.out.low);have HOP:=sH (QaO k L asked Al 6 cl acc wr HBW.out has HROWS.out (by omega) (fun x hx=>by have:=HS.out.ax x hx; omega));have hoo:o=Q3h acc:=by rw [HO.out,hlo]; cases Q3h acc <;> rfl
  have hee:o=none->en=2:=fun h=>by rw [HEN.out,hlo,<- hoo,h]
  rw [<- hoo] at HOP;have HEE:=sH hee;have HLOW:=sH HS.out.low;clear hlo hoo hee HO HEN HS HLG;go_wp2_with fail
  refine HOP.out.mono ?_;rintro _ w9 ⟨hno,hso⟩;rcases Option.eq_none_or_eq_some o with hoc | ⟨m,hoc⟩
  ·obtain⟨rfl,hb9⟩:=hno hoc;have HB9:=sH (HLOW.out.trans (hb9.mono hsz));have he2:en=2:=HEE.out hoc;subst he2;subst hoc;clear hno hso hb9 HOP;go_wp2_with fail
   go_ret2
   exact⟨fun _=>⟨rfl,HB9.out⟩,fun m hm=>by cases hm⟩
  obtain⟨V,rfl,hnew⟩:=hso m hoc;have HNEW:=sH (ANew.before HLOW.out hnew);subst hoc;clear hno hso hnew HOP;go_wp2_with fail
  go_ret2
  refine⟨(fun hm=>by cases hm),fun m' hm=>⟨V,rfl,?_⟩⟩;rw [<- zL hm];exact HNEW.out
 have h0I:(0:Int)<(n:Int):=by omega
 have hlo:Q2O xs=(none,4):=by unfold Q2O;rw [HLG.out];simp only;rw [if_neg (by simp),if_pos (by rw [HRL.out]; omega)]
 have ho:o=none:=by rw [HO.out,hlo]
 have he2:en=4:=by rw [HEN.out,hlo]
 have HLOW:=sH HS.out.low;subst ho he2;clear hlo HO HEN HS;go_wp2_with fail
 go_ret2
 exact⟨fun _=>⟨rfl,HLOW.out⟩,fun m hm=>by cases hm⟩
theorem Q78 (A A':Option Addr) (n c n' c':Nat) (xss yss:LL) (w:zA) (B:Nat) (hx:Q45 w B A n xss) (hy:Q45 w B A' n' yss) (hB:B<=w.heap.size) (hn:n<=1000000000000) (hn':n'<=1000000000000) (hlx:∀ x,x∈xss->x.length<=maxLen) (hly:∀ x,x∈yss->x.length<=maxLen) :
 Calls zE 15 #[.slice A n c,.slice A' n' c'] w fun e w'=>e=.returned (.bool (decide (xss=yss)))/\zC w.heap.size w w':=by
 have hxl:=hx.1;have hyl:=hy.1;by_cases hnn:n=n'
 ·subst hnn;have hne:((n:Int) != (n:Int))=false:=by simp
  have HX:=sH hx;have HY:=sH hy;have HLX:=sH hlx;have HLY:=sH hly;have HXL:=sH hxl;have HYL:=sH hyl;clear hx hy hlx hly hxl hyl;go_enter Tryz.func15,Tryz.ntmps15
  go_wp2_with fail
  go_loopw [5] (fun iv wr=>∃ i:Nat,i<=n/\iv=.int .i64 i/\xss.take i=yss.take i/\zC w.heap.size w wr) (fun iv _=>n - (intOf iv).toNat)
  case atStart=>exact⟨0,by omega,rfl,by simp,zG _ _⟩
  obtain⟨i,hi,rfl,heq,hbel⟩:=hrel;have HE:=sH heq;have HB:=sH hbel;have hsz:=hbel.size;clear heq;by_cases hin:i<n
  ·have hinI:(i:Int)<(n:Int):=by omega
   have h0I:(0:Int)<=(i:Int):=by omega
   have hix:i<xss.length:=by have:=HXL.out; omega
   have hiy:i<yss.length:=by have:=HYL.out; omega
   obtain⟨ad,rfl,hb1,hc1⟩:=HX.out.2 (by omega);obtain⟨bd,rfl,hb2,hc2⟩:=HY.out.2 (by omega);obtain⟨Ak,mk,ck,q1,q2⟩:=hc1 i _ (zB hix);obtain⟨Bk,lk,dk,r1,r2⟩:=hc2 i _ (zB hiy);have hmk:mk<=maxLen:=by have:=HLX.out _ (zH hix); have:=q2.1; simp at this; omega
   have hlk:lk<=maxLen:=by have:=HLY.out _ (zH hiy); have:=r2.1; simp at this; omega
   have C1:=sH (fun(W:zA) (hb:zC wr.heap.size wr W)=>((hbel.trans (hb.mono hsz)).cell (show (ad.add i).block<w.heap.size by rw [Q0a]; omega)).trans q1);have C2:=sH (fun(W:zA) (hb:zC wr.heap.size wr W)=>((hbel.trans (hb.mono hsz)).cell (show (bd.add i).block<w.heap.size by rw [Q0a]; omega)).trans r1);have hEq:=fun(W:zA) (hb:zC wr.heap.size wr W)=>Q2b Ak Bk mk lk ck dk xss[i] yss[i] W B B (q2.below ((hbel.trans (hb.mono hsz)).mono hB)) (r2.below ((hbel.trans (hb.mono hsz)).mono hB)) hmk hlk
   have hnx:∀ (b:Bool),decide (xss[i]=yss[i])=b->∀ (W:zA) (hb:zC wr.heap.size wr W),Calls zE 14 #[.slice Ak mk ck,.slice Bk lk dk] W fun e w'=>e=.returned (.bool b)/\zC W.heap.size W w':=fun b he W hb=>(hEq W hb).mono fun e w' ⟨h1,k,h2⟩=>⟨by rw [h1,he],by rw [h2]; exact Q0v (zG _ _) k⟩
   have HNX:=sH hnx;clear hbel hc1 hc2 q1 q2 r1 r2 hEq hnx;go_upto_region 6 with fail
   by_cases hq:xss[i]=yss[i]
   ·have HQ:=sH hq;have HCE:=sH (HNX.out true (by rw [decide_eq_true hq]));clear hq;refine Q0r 9 27 (by kernel_rfl) (by kernel_rfl) (by kernel_rfl) (by simp) ?_;simp only [tT,tU];refine tD (.slice (some ad) n c) ?_;try simp only [zJ,sA]
    refine tD (.int .i64 (i:Int)) ?_;try simp only [zJ,sA]
    refine tC (.pointer (some (ad.add i))) ?_;try simp only [zJ,sA]
    refine Q0k rfl rfl (.slice Ak mk ck) (fun W hb=>by have:=C1.out W hb; go_simp) ?_;try simp only [zJ,sA]
    refine tD (.slice (some bd) n c') ?_;try simp only [zJ,sA]
    refine tD (.int .i64 (i:Int)) ?_;try simp only [zJ,sA]
    refine tC (.pointer (some (bd.add i))) ?_;try simp only [zJ,sA]
    refine Q0k rfl rfl (.slice Bk lk dk) (fun W hb=>by have:=C2.out W hb; go_simp) ?_;try simp only [zJ,sA]
    refine Q0J rfl rfl 14 #[.slice Ak mk ck,.slice Bk lk dk] (fun W=>by go_simp) (.bool true) (fun W hb=>HCE.out W hb) ?_;try simp only [zJ,sA]
    refine Q0M ?_;intro w2 hb2;have HB2:=sH (HB.out.trans (hb2.mono hsz));clear hb2;go_wp2_with fail
    go_roundw
    case rel=>exact⟨i+1,by omega,by go_num,by rw [zK hix,zK hiy,HE.out,HQ.out],HB2.out⟩
    case measure=>simp [intOf]; omega
   have HQ:=sH hq;have HCE:=sH (HNX.out false (by rw [decide_eq_false hq]));clear hq;refine Q0r 9 27 (by kernel_rfl) (by kernel_rfl) (by kernel_rfl) (by simp) ?_;simp only [tT,tU];refine tD (.slice (some ad) n c) ?_;try simp only [zJ,sA]
   refine tD (.int .i64 (i:Int)) ?_;try simp only [zJ,sA]
   refine tC (.pointer (some (ad.add i))) ?_;try simp only [zJ,sA]
   refine Q0k rfl rfl (.slice Ak mk ck) (fun W hb=>by have:=C1.out W hb; go_simp) ?_;try simp only [zJ,sA]
   refine tD (.slice (some bd) n c') ?_;try simp only [zJ,sA]
   refine tD (.int .i64 (i:Int)) ?_;try simp only [zJ,sA]
   refine tC (.pointer (some (bd.add i))) ?_;try simp only [zJ,sA]
   refine Q0k rfl rfl (.slice Bk lk dk) (fun W hb=>by have:=C2.out W hb; go_simp) ?_;try simp only [zJ,sA]
   refine Q0J rfl rfl 14 #[.slice Ak mk ck,.slice Bk lk dk] (fun W=>by go_simp) (.bool false) (fun W hb=>HCE.out W hb) ?_;try simp only [zJ,sA]
   refine Q0M ?_;intro w2 hb2;have HB2:=sH (HB.out.trans (hb2.mono hsz));clear hb2;go_wp2_with fail
   go_ret
   refine⟨Q0C ?_,HB2.out⟩
   symm
   rw [decide_eq_false_iff_not];rintro rfl;exact HQ.out rfl
  obtain rfl:i=n:=by omega
  have hinI:¬ (i:Int)<(i:Int):=by omega
  clear hbel;go_wp2_with fail
  go_ret
  refine⟨Q0C ?_,HB.out⟩
  symm
  rw [decide_eq_true_iff];have h1:=HE.out
  rwa [zI (by have:=HXL.out; omega),zI (by have:=HYL.out; omega)] at h1
 have hne:((n:Int) != (n':Int))=true:=by rw [bne_iff_ne]; omega
 have HN:=sH (show xss≠yss by rintro rfl; omega);clear hnn hx hy hxl hyl hlx hly;go_enter Tryz.func15,Tryz.ntmps15
 go_wp2_with fail
 go_ret
 exact⟨Q0C (by symm; rw [decide_eq_false_iff_not]; exact HN.out),zG _ _⟩
end
section
open Go.RowKit Go.Maps
theorem Qd5 (xs:List UInt8):(((Q2O xs).2:Int) != 0)=(Q2O xs).1.isNone:=by
 unfold Q2O;simp only;by_cases h1:(Q3p 6 xs []).2.2≠0
 ·rw [if_pos h1]
  simp
  omega
 rw [if_neg h1];by_cases h2:0<(Q3p 6 xs []).2.1.length
 ·rw [if_pos h2]; rfl
 rw [if_neg h2];cases Q3h (Q3p 6 xs []).1 <;> rfl
theorem AAt.only_ {w w':zA} {V:ALoc} {N M:Nat->Prop} {m:AM} (h:AAt w V N m) (ho:Only M w w') (hM:∀ b,M b->N b) (hg:¬ M V.g) (hgc:¬ M V.gc) (hT:∀ b,V.T.has b->¬ M b):AAt w' V N m:=by obtain⟨S,hd⟩:=h.dat;exact⟨⟨S,hd.only ho hM hg hgc⟩,h.tree.only ho hT,h.far,h.all⟩
structure Q9k (E:Nat) (W:zA) (P:Option Addr) (o:Option AM):Prop where
 none_:P.isNone=o.isNone
 live:∀ m,o=some m->∃ V:ALoc,P=some ⟨V.g,0,none⟩/\AAt W V (fun b=>V.all b\/b<E) m/\E<=V.g/\E<=V.gc/\∀ b,V.T.has b->E<=b
theorem Q9k.below {E:Nat} {W W':zA} {P:Option Addr} {o:Option AM} (h:Q9k E W P o) (hb:zC W.heap.size W W'):Q9k E W' P o :=⟨h.none_,fun m hm=>by obtain⟨V,h1,h2,h3⟩:=h.live m hm;exact⟨V,h1,h2.below hb,h3⟩⟩
theorem Q9k.mut {B E E':Nat} {W W':zA} {P:Option Addr} {o:Option AM} (h:Q9k E W P o) (ho:Only (Mid B E') W W') (hE:E'<=E):Q9k E W' P o :=⟨h.none_,fun m hm=>by obtain⟨V,h1,h2,h3,h4,h5⟩:=h.live m hm;refine⟨V,h1,h2.only_ ho (fun b hb=>.inr (by have:=hb.2; omega)) (fun hb=>by have:=hb.2; omega) (fun hb=>by have:=hb.2; omega) (fun b hb hm=>by have:=h5 b hb; have:=hm.2; omega),h3,h4,h5⟩⟩
structure Q6A (E:Nat) (W:zA) (P:Option Addr) (o:Option AM):Prop where
 none_:P.isNone=o.isNone
 live:∀ m,o=some m->∃ g S,P=some ⟨g,0,none⟩/\Q1r W g (fun b=>b<E) m S
theorem Q6A.below {E:Nat} {W W':zA} {P:Option Addr} {o:Option AM} (h:Q6A E W P o) (hb:zC W.heap.size W W'):Q6A E W' P o :=⟨h.none_,fun m hm=>by obtain⟨g,S,h1,h2⟩:=h.live m hm;exact⟨g,S,h1,h2.below hb⟩⟩
theorem Q6A.mut {B E E':Nat} {W W':zA} {P:Option Addr} {o:Option AM} (h:Q6A E W P o) (ho:Only (Mid B E') W W') (hE:E'<=E):Q6A E W' P o :=⟨h.none_,fun m hm=>by obtain⟨g,S,h1,h2⟩:=h.live m hm;exact⟨g,S,h1,h2.only ho fun b hb=>by have:=hb.2; show b<E; omega⟩⟩
theorem ANew.live {w w':zA} {k:Book} {V:ALoc} {L:LL} {asked:Nat} {m:AM} (h:ANew w w' k V L asked m) {E:Nat} (hE:E<=w.heap.size):Q9k E w' (some ⟨V.g,0,none⟩) (some m) :=⟨rfl,fun m' hm=>by rw [<- zL hm];exact⟨V,rfl,h.vat.mono (fun b _ hb=>hb.imp id fun hb=>by omega) (fun b hb=>.inl hb),by have:=h.new.1; omega,by have:=h.new.2.1; omega,fun b hb=>by have:=h.new.2.2 b hb; omega⟩⟩
theorem Q5P.gist {w w':zA} {k:Book} {L:LL} {asked n E B:Nat} {o:Option AM} {e:Ending} (h:Q5P w k L asked o n e w') (hn:((n:Int) != 0)=o.isNone) (hE:E<=w.heap.size) (hk:∀ b,k.has b->B<=b) (hB:B<=w.heap.size):∃ P,e=.returned (.tuple #[.pointer P,.int .i64 (n:Int)])/\Q9k E w' P o/\zC B w w':=by
 cases o with
 | none =>obtain⟨h1,h2⟩:=h.1 rfl;exact⟨none,h1,⟨rfl,fun m hm=>by cases hm⟩,h2.mono hB⟩
 | some m =>
  obtain⟨V,h1,h2⟩:=h.2 m rfl;have h0:(n:Int)=0:=by simpa using hn
  refine⟨_,by rw [h0]; exact h1,h2.live hE,h2.only.below hB fun b hb hm=>by have:=hk b hm; omega⟩
def codeQ (o:Option AM):Nat:=match o with | none=>2 | some _=>0
theorem codeQ_ne (o:Option AM):((codeQ o:Int) != 0)=o.isNone:=by cases o <;> rfl
theorem Q4c.gist {w w':zA} {k:Book} {L:LL} {asked E B:Nat} {o:Option AM} {e:Ending} (h:Q4c w k L asked o e w') (hE:E<=w.heap.size) (hk:∀ b,k.has b->B<=b) (hB:B<=w.heap.size):∃ P,e=.returned (.tuple #[.pointer P,.int .i64 (codeQ o:Int)])/\Q9k E w' P o/\zC B w w':=by
 cases o with
 | none =>obtain⟨h1,h2⟩:=h.1 rfl;exact⟨none,h1,⟨rfl,fun m hm=>by cases hm⟩,h2.mono hB⟩
 | some m =>obtain⟨V,h1,h2⟩:=h.2 m rfl;exact⟨_,h1,h2.live hE,h2.only.below hB fun b hb hm=>by have:=hk b hm; omega⟩
theorem Qc1.gist {w w':zA} {n E:Nat} {o:Option AM} {e:Ending} (h:Qc1 w o n e w') (hn:((n:Int) != 0)=o.isNone) (hE:E<=w.heap.size):∃ P,e=.returned (.tuple #[.pointer P,.int .i64 (n:Int)])/\Q6A E w' P o/\zC w.heap.size w w':=by
 obtain⟨h0,h1,h2⟩:=h;cases o with
 | none=>exact⟨none,h1 rfl,⟨rfl,fun m hm=>by cases hm⟩,h0⟩
 | some m =>
  obtain⟨g,q1,q2,q3⟩:=h2 m rfl;have hz:(n:Int)=0:=by simpa using hn
  obtain⟨S,hd,_⟩:=q3;exact⟨_,by rw [hz]; exact q1,⟨rfl,fun m' hm=>by rw [<- zL hm]; exact⟨g,S,rfl,hd.mono fun b _ hb=>by have:b<E:=hb; show b<w.heap.size; omega⟩⟩,h0⟩
theorem Qao.gist {w w':zA} {E:Nat} {o:Option AM} {e:Ending} (h:Qao w o e w') (hE:E<=w.heap.size):∃ P,e=.returned (.tuple #[.pointer P,.int .i64 (codeQ o:Int)])/\Q6A E w' P o/\zC w.heap.size w w':=by
 obtain⟨h0,h1,h2⟩:=h;cases o with
 | none=>exact⟨none,h1 rfl,⟨rfl,fun m hm=>by cases hm⟩,h0⟩
 | some m =>obtain⟨g,q1,q2,q3⟩:=h2 m rfl;obtain⟨S,hd,_⟩:=q3;exact⟨_,q1,⟨rfl,fun m' hm=>by rw [<- zL hm]; exact⟨g,S,rfl,hd.mono fun b _ hb=>by have:b<E:=hb; show b<w.heap.size; omega⟩⟩,h0⟩
end
section
open Go.RowKit Go.Maps
attribute [local irreducible] wpList Q0h
theorem Q5u {o:Oper} {a:Act} {W:zA} (x:Operand) (u:TypeId) (ho:o.op=.binOp .eql 79 x (.const (.pointer none)) u) (P1:Option Addr) (hx:a.eval x=.pointer P1) (b:Bool) (hb:P1.isNone=b):(execOp a.eval o).run zE W=.ok (.value (.bool b)) W:=by subst hb;have hc:a.eval (.const (.pointer none))=.pointer none:=rfl;cases P1 <;> (unfold execOp; simp only [ho,hx,hc]; go_simp)
theorem atlasLoads_law (A:Option Addr) (n c:Nat) (xs:List UInt8) (A2:Option Addr) (n2 c2:Nat) (xss:LL) (w:zA) (h:Q08 w w.heap.size 1 A n (xs.map vb)) (hc:n<=c) (hn:n<=1048576) (h2:Q61 w w.heap.size A2 n2 xss) (hn2:n2<=1048576) (hl:∀ x,x∈xss->x.length<=1048576) :
 Calls zE 6 #[.slice A n c,.slice A2 n2 c2] w fun e w'=>e=.returned (.bool true)/\zC w.heap.size w w':=by
 have HCB:=sH (Q1F A n c xs w w.heap.size h (zF _) (by omega));have H:=sH h;have H2:=sH h2;have HL:=sH hl;have hxn:xs.length=n:=by have:=h.1; simpa using this
 have HXN:=sH hxn;have HXL:=sH h2.1;obtain⟨i0,hi0,hz0,hz1,hz2⟩:=info_parts Q5r;clear h h2 hl hxn;go_enter Tryz.func6,Tryz.ntmps6
 go_wp2_with fail
 refine HCB.out.mono ?_;rintro _ w1 ⟨v,rfl,ho1,hb1⟩;obtain⟨A5,c5,rfl,hc5,_,_,_⟩:=Q0f ho1;rw [HXN.out] at ho1 hc5 ⊢;have HO1:=sH ho1;have HB1:=sH hb1;have hs1:=hb1.size;clear ho1 hb1 HCB;go_wp2_with fail
 go_loopw [6,7] (fun pv iv wr=>∃ (i:Nat) (vs:List Value),i<=n2/\iv=.int .i64 i/\OwnL wr w1.heap.size pv (xss.take i) vs/\zC w1.heap.size w1 wr) (fun _ iv _=>n2 - (intOf iv).toNat)
 case atStart=>exact⟨0,[],by omega,rfl,by rw [List.take_zero]; exact OwnL.nil _ _,zG _ _⟩
 obtain⟨i,vs,hi,rfl,hown,hbel⟩:=hrel;have HB:=sH hbel;have HOW:=sH hown;have hsz:=hbel.size;by_cases hin:i<n2
 ·skip;have hinI:(i:Int)<(n2:Int):=by omega
  have hil:i<xss.length:=by have:=HXL.out; omega
  have hx:=zB hil;have hlm:=HL.out _ (zH hil);obtain⟨ad,hA,hadb,hcell⟩:=H2.out.2 (by omega);subst hA;obtain⟨Ak,mk,ck,hq,hrd,hmc⟩:=hcell i _ hx;have htk:xss.take (i+1)=xss.take i++[xss[i]]:=zK hil;have htl:(xss.take i).length=i:=by rw [List.length_take]; omega
  have HTK:=sH htk;have HTL:=sH htl;generalize xss[i]=x at hx hrd hlm HTK;have hxm:x.length=mk:=by have:=hrd.1; simpa using this
  have hcx:=(HB1.out.trans (hbel.mono hs1)).cell (show (ad.add i).block<w.heap.size by rw [Q0a]; exact hadb) |>.trans hq
  have HCP:=sH (Q1F Ak mk ck x wr w.heap.size (hrd.below (HB1.out.trans (hbel.mono hs1))) (by omega) (by omega));have hvl:vs.length=i:=by have:=hown.row.1; omega
  obtain⟨Ap,cp,hpv,hcp,hcpm,_,_⟩:=hown.slice;rw [htl] at hpv hcp;subst hpv;have HVL:=sH hvl;have HXM:=sH hxm;clear hx hrd hlm hcell hq hown hbel htk htl hvl hxm;go_wp2_with fail
  refine HCP.out.mono ?_;rintro _ w3 ⟨u,rfl,hou,hb3⟩;obtain⟨Au,cu,hu,_⟩:=Q0f hou;rw [HXM.out] at hu;have hs3:=hb3.size;have HOU:=sH (hou.more (B':=w1.heap.size) hsz);have HB3:=sH hb3;have HW:=sH (show (w3.alloc (.cells #[u] 22)).ownsRow w1.heap.size 22 1 _ i vs from by have:=(Q0d HOW.out.row (w':=w3) fun b hb''=>hb3.block b (Q07 HOW.out.row hb'').2).alloc (.cells #[u] 22);rw [HTL.out] at this;exact this)
  have HR3:=sH (Q0N w3 #[u] 22);rw [hu] at HW HR3 ⊢;have HU:=sH hu;clear hb3 hu hou HCP;go_wp2_with (at_builtin; go_must (refine Q03 _ rfl (.tmp 27) (.tmp 33) 23 rfl w1.heap.size 22 i0 _ 1 24 Tryz.underlying23 hi0 hz0 hz1 hz2 rfl (by omega) _ i vs rfl HW.out (w3.heap.size+1) (some ⟨w3.heap.size,0,none⟩) 1 1 [.slice Au mk cu] rfl HR3.out ?c1 ?c2 ?c3 ?c4 ?_))
  case c1=>intro z hz; rw [zM] at hz; subst hz; rfl
  case c2=>unfold maxLen; omega
  case c3=>omega
  case c4=>simp; omega
  intro v6 w6 hown6 hg6 hor6;rw [<- HU.out] at hown6 hg6;have ho6:OwnL w6 w1.heap.size v6 (xss.take (i+1)) (vs++[u]):=by rw [HTK.out];exact HOW.out.push HB3.out HOU.out (by rw [HTL.out]; exact hown6) hg6
  have hb6:zC w1.heap.size w1 w6:=Q0e ((HB.out.trans (HB3.out.mono hsz)).trans ((Q04 w3 (.cells #[u] 22)).mono (by omega))) (by simp; omega) hg6 (fun b hb=>(Q07 HOW.out.row hb).1);have HO6:=sH ho6;have HB6:=sH hb6;clear hown6 hg6 hor6 ho6 hb6;go_wp2_with fail
  go_roundw
  case rel=>exact⟨i+1,_,by omega,by go_num,HO6.out,HB6.out⟩
  case measure=>simp [intOf]; omega
 obtain rfl:i=n2:=by omega
 rw [zI (by have:=HXL.out; omega)] at hown;obtain⟨Ap,cp,hpv,hcp,hrows⟩:=hown.rowsC;rw [HXL.out] at hpv hrows;subst hpv;have hvl:vs.length=i:=by have:=hown.row.1; have:=HXL.out; omega
 obtain⟨E,hE⟩:∃ x,x=wr.heap.size:=⟨_,rfl⟩;have HE:=sH hE;have HOP:=sH (hown.more (B':=w.heap.size) hs1);have HOI:=sH (show OwnB wr w.heap.size (.slice A5 n c5) xs from HO1.out.below hbel);have HRP:=sH hrows;have HVL:=sH hvl;have HBR:=sH (HB1.out.trans (hbel.mono hs1));have hrs:=hbel.size;clear hown hrows hbel hvl HO1 HB1 hE;go_wp2_with fail
 refine(Q68 wr).mono ?_;rintro _ w5 ⟨k,rfl,hbk,hkn,hb5⟩;have hs5:=hb5.size;have hri:Q08 w5 w5.heap.size 1 A5 n (xs.map vb):=by have:=(HOI.out.below hb5).reads.2.2.2.1;exact this
 have HLD:=sH (Qed k [] 0 A5 n c5 xs w5 hbk (by omega) hri hc5 (by omega));obtain⟨o1,ho1⟩:∃ o,o=(Q2O xs).1:=⟨_,rfl⟩;obtain⟨e1,he1⟩:∃ o,o=(Q2O xs).2:=⟨_,rfl⟩;have hec:=Qd5 xs;rw [<- ho1,<- he1] at hec;have HEC:=sH hec;have HRL:=fun(W:zA) (hb:zC w.heap.size w W)=>QcG A n c xs W ((H.out.below hb).more hb.size) hc (by omega)
 rw [<- ho1,<- he1] at HLD;simp only [<- ho1,<- he1] at HRL;have HRL:=sH HRL;have HB5:=sH hb5;have HKN:=sH (show ∀ b,k.has b->wr.heap.size<=b by rintro b (e | e | e) <;> omega);clear hbk hkn hb5 hri ho1 he1 hec;go_wp2_with fail
 refine HLD.out.mono ?_;rintro e6 w6 h6;obtain⟨P1,rfl,hl1,hb6⟩:=Q5P.gist (E:=wr.heap.size) (B:=wr.heap.size) h6 HEC.out hs5 HKN.out hs5;have hs6:=hb6.size;have HLA:=sH hl1;have HB6:=sH (HB5.out.trans hb6);have HRL1:=sH (HRL.out w6 (HBR.out.trans (HB6.out.mono (by omega))));clear h6 hl1 hb6 HLD HRL;go_wp2_with fail
 refine HRL1.out.mono ?_;rintro e7 w7 h7;obtain⟨P2,rfl,hl2,hb7⟩:=Qc1.gist (E:=wr.heap.size) h7 HEC.out (by have:=HB6.out.size; omega);have HLB:=sH hl2;have HLA7:=sH (HLA.out.below hb7);have hs67:=hb7.size;have HB7:=sH (HB6.out.trans (hb7.mono (by have:=HB6.out.size; omega)));clear h7 hl2 hb7 HRL1 HLA;go_wp2_with fail
 refine(Q68 w7).mono ?_;rintro _ w8 ⟨k2,rfl,hbk,hkn,hb8⟩;have hs8:=hb8.size;have hs7:=HB7.out.size;have HB8:=sH (HB7.out.trans (hb8.mono hs7));have hrp:Q61 w8 w8.heap.size Ap i xss:=(HRP.out.below (HB8.out)).more (by omega);have HOPN:=sH (QaO k2 [] 0 Ap i cp xss w8 hbk (by omega) hrp (by omega) (fun x hx=>by have:=HL.out x hx; omega));obtain⟨o2,ho2⟩:∃ o,o=Q3h xss:=⟨_,rfl⟩;have HRO:=fun(W:zA) (hb:zC w.heap.size w W)=>Q8r A2 i c2 xss W ((H2.out.below hb).more hb.size) (fun x hx=>by have:=HL.out x hx; omega)
 rw [<- ho2] at HOPN;simp only [<- ho2] at HRO;have HRO:=sH HRO;have HKN2:=sH (show ∀ b,k2.has b->w7.heap.size<=b by rintro b (e | e | e) <;> omega);have HB78:=sH hb8;clear hbk hkn hb8 hrp ho2;go_wp2_with fail
 refine HOPN.out.mono ?_;rintro e9 w9 h9;obtain⟨P3,rfl,hl3,hb9⟩:=Q4c.gist (E:=wr.heap.size) (B:=w7.heap.size) h9 (by omega) HKN2.out hs8;have hb79:=HB78.out.trans hb9;have hs9:=hb79.size;have HLA9:=sH (HLA7.out.below hb79);have HLB9:=sH (HLB.out.below hb79);have HLC9:=sH hl3;have HB9:=sH (HB7.out.trans (hb79.mono hs7));have HRO9:=sH (HRO.out w9 (HBR.out.trans (HB9.out.mono (by omega))));clear h9 hl3 hb9 hb79 HOPN HRO HLA7 HLB;go_wp2_with fail
 refine HRO9.out.mono ?_;rintro e10 w10 h10;obtain⟨P4,rfl,hl4,hb10⟩:=Qao.gist (E:=wr.heap.size) h10 (by omega);have hs10:=hb10.size;have HLA:=sH (HLA9.out.below hb10);have HLB:=sH (HLB9.out.below hb10);have HLC:=sH (HLC9.out.below hb10);have HLD:=sH hl4;have HB10:=sH (HB9.out.trans (hb10.mono (by omega)));clear h10 hl4 hb10 HRO9 HLA9 HLB9 HLC9;have hwr:w.heap.size<=wr.heap.size:=HBR.out.size;have hw10:wr.heap.size<=w10.heap.size:=HB10.out.size;have hri:Q08 w10 w10.heap.size 1 A5 n (xs.map vb):=by have:=(HOI.out.below HB10.out).reads.2.2.2.1;exact this
 have heb:=Q2b A5 A n n c5 c xs xs w10 _ _ hri ((H.out.below (HBR.out.trans (HB10.out.mono hwr))).more (B':=w10.heap.size) (by omega)) (by unfold maxLen; omega) (by unfold maxLen; omega);rw [decide_eq_true rfl] at heb;have HEB:=sH heb;have HSL:=sH (fun(W:zA) (hb:zC w10.heap.size w10 W)=>Q78 Ap A2 i cp i c2 xss xss W w10.heap.size ((HRP.out.below (HB10.out.trans (hb.mono hw10))).more (B':=w10.heap.size) hw10).rows ((H2.out.below (HBR.out.trans ((HB10.out.mono hwr).trans (hb.mono (by omega))))).more (B':=w10.heap.size) (by omega)).rows hb.size (by omega) (by omega) (fun x hx=>by have:=HL.out x hx; unfold maxLen; omega) (fun x hx=>by have:=HL.out x hx; unfold maxLen; omega));simp only [decide_true] at HSL;have hn1:=HLA.out.none_;have hn2':=HLC.out.none_;have hec:=HEC.out;have hcd:=codeQ_ne o2;obtain⟨b1,hb1⟩:∃ b,b=o1.isNone:=⟨_,rfl⟩;obtain⟨b2,hb2⟩:∃ b,b=o2.isNone:=⟨_,rfl⟩;rw [<- hb1] at hn1 hec;rw [<- hb2] at hn2' hcd;have HB1:=sH hb1;have HB2:=sH hb2;have HN1:=sH hn1;have HN2:=sH hn2';obtain⟨cd,hcde⟩:∃ x,x=codeQ o2:=⟨_,rfl⟩;rw [<- hcde] at hcd ⊢;clear hri heb hn1 hn2' hb1 hb2 hcde;go_upto_region 13 with(first
  | (refine Q27 (o:=⟨some 62,_,_,_,_,_⟩) (Q02 (j:=3) (d:=60) (b:=false) rfl rfl (by first | rfl | simp)) (.bool b1) (Q5u (.tmp 61) _ rfl P1 rfl b1 HN1.out) ?_)
  | (refine Q27 (o:=⟨some 74,_,_,_,_,_⟩) (Q02 (j:=15) (d:=72) (b:=false) rfl rfl (by first | rfl | simp)) (.bool b2) (Q5u (.tmp 73) _ rfl P3 rfl b2 HN2.out) ?_))
 refine HEB.out.mono ?_;rintro _ w11 ⟨rfl,q,hq⟩;have hb11:zC w10.heap.size w10 w11:=hq▸Q0v (zG _ _) q;have HSL1:=sH (HSL.out w11 hb11);have HB11:=sH hb11;have hs11:=hb11.size;clear hb11 hq HEB HSL;go_wp2_with fail
 refine HSL1.out.mono ?_;rintro _ w12 ⟨rfl,hb12⟩;have HB12:=sH (HB11.out.trans (hb12.mono hs11));have hs12:=HB12.out.size;have HBL:=sH (HB10.out.trans (HB12.out.mono hw10));have hmut:Q42 w.heap.size E w12 w12 (.slice A5 n c5) n (.slice (Ap) i cp) vs:=by have:=Q42.start HOI.out HOP.out HBL.out;rw [HXN.out,<- HE.out] at this;exact this
 have HMUT:=sH hmut;clear hb12 hmut HSL1;go_wp2_with fail
 go_loopw [16] (fun jv W=>∃ j:Nat,j<=n/\jv=.int .i64 j/\Q42 w.heap.size E w12 W (.slice A5 n c5) n (.slice Ap i cp) vs) (fun jv _=>n - (intOf jv).toNat)
 case atStart=>exact⟨0,by omega,rfl,HMUT.out⟩
 obtain⟨j,hj,rfl,hm⟩:=hrel;have HM:=sH hm;by_cases hj1:j<n
 ·rcases hm.inb with h0 | ⟨gi,cap,cur,hv,hBk,hcur⟩
  ·omega
  injection hv with hv1 _ hv3
  have hmid:=hm.ib gi (by rw [hv1]; rfl);have HMID:=sH hmid;obtain⟨u,hu⟩:=hcur j hj1;have hcell:=(hBk.cell j).trans hu;have hfz:=hBk.frozen j;unfold vb at hcell;have hv:(bi u+1) % 256=bi (u+1):=QaR u;have HBk:=sH hBk;have hA5:A5=some ⟨gi,0,none⟩:=hv1;clear hBk hcur hu hm hmid hv1 hv3;subst hA5;go_wp2_with fail
  go_roundw
  case rel=>exact⟨j+1,by omega,by go_num,HM.out.put HMID.out HBk.out j (u+1)⟩
  case measure=>simp [intOf]; omega
 obtain rfl:j=n:=by omega
 clear hm;go_wp2_with fail
 have HM0:=sH HM.out;go_loopw [17] (fun qv W=>∃ q:Nat,q<=i/\qv=.int .i64 q/\Q42 w.heap.size E w12 W (.slice A5 j c5) j (.slice Ap i cp) vs) (fun qv _=>i - (intOf qv).toNat)
 case atStart=>exact⟨0,by omega,rfl,HM0.out⟩
 clear HM0 HM
 obtain⟨q,hq,rfl,hm⟩:=hrel;have HM:=sH hm;by_cases hq1:q<i
 ·have hqI:(q:Int)<(i:Int):=by omega
  obtain⟨gp,hAp⟩:=hm.first HVL.out (by omega);subst hAp;have hql:q<vs.length:=by have:=HVL.out; omega
  have hvq:=zB hql;generalize vs[q]=uq at hvq;obtain⟨hc,A',m',c',hu,_,_,hmx⟩:=hm.at_ hvq HVL.out;have hmx':m'<=9223372036854775807:=by unfold maxLen at hmx; omega
  subst hu;have HVQ:=sH hvq;clear hm hvq hmx;go_wp2_with fail
  go_loopw [18] (fun kv W=>∃ k:Nat,k<=m'/\kv=.int .i64 k/\Q42 w.heap.size E w12 W (.slice A5 j c5) j (.slice (some ⟨gp,0,none⟩) i cp) vs) (fun kv _=>m' - (intOf kv).toNat)
  case atStart=>exact⟨0,by omega,rfl,HM.out⟩
  clear HM hc
  obtain⟨k,hk,rfl,hm⟩:=hrel;have HM:=sH hm;obtain⟨hc,A'',m'',c'',hu,hI,hB,_⟩:=hm.at_ HVQ.out HVL.out;injection hu with e1 e2 e3
  subst e1 e2 e3;by_cases hk1:k<m'
  ·have hkI:(k:Int)<(m':Int):=by omega
   rcases hI with h0 | ⟨gi,cap,cur,hv,hBk,hcur⟩
   ·omega
   injection hv with hv1 _ hv3
   have hmid:=hB gi (by rw [hv1]; rfl);have HMID:=sH hmid;obtain⟨u,hu⟩:=hcur k hk1;have hcell:=(hBk.cell k).trans hu;have hfz:=hBk.frozen k;unfold vb at hcell;have hv:(bi u+1) % 256=bi (u+1):=QaR u;have HBk:=sH hBk;clear hBk hcur hu hm hmid hv3 hB;subst hv1;go_wp2_with fail
   go_region
   go_wp2_with fail
   go_roundw
   case rel=>exact⟨k+1,by omega,by go_num,by first | exact HM.out.put HMID.out HBk.out k (u+1) | exact(HM.out.put HMID.out HBk.out k (u+1)).drewN _⟩
   case measure=>simp [intOf]; omega
  obtain rfl:k=m':=by omega
  have hkI:¬ (k:Int)<(k:Int):=by omega
  clear hm hI hB;go_wp2_with fail
  go_roundw
  case rel=>exact⟨q+1,by omega,by go_num,HM.out⟩
  case measure=>simp [intOf]; omega
 obtain rfl:q=i:=by omega
 have hqI:¬ (q:Int)<(q:Int):=by omega
 clear hm;obtain⟨WW,hWW⟩:∃ WW,WW=wr:=⟨_,rfl⟩;rw [<- hWW] at HM ⊢;clear hWW;have HLW:=sH (HM.out.low ((HBR.out.trans (HBL.out.mono hwr))) (by omega));have HLA2:=sH ((HLA.out.below HB12.out).mut HM.out.only (by rw [HE.out]; exact zF _));have HLB2:=sH ((HLB.out.below HB12.out).mut HM.out.only (by rw [HE.out]; exact zF _));have HLC2:=sH ((HLC.out.below HB12.out).mut HM.out.only (by rw [HE.out]; exact zF _));have HLD2:=sH ((HLD.out.below HB12.out).mut HM.out.only (by rw [HE.out]; exact zF _));have hsw:=HLW.out.size;have hsame1:b1=false->∀ W,zC WW.heap.size WW W->Calls zE 42 #[.pointer P1,.pointer P2] W fun e w'=>e=.returned (.bool true)/\zC W.heap.size W w':=fun hb W hbw=>by
  cases hoo:o1 with
  | none=>rw [hoo] at HB1; have:=HB1.out; rw [hb] at this; cases this
  | some m =>obtain⟨V,q1,q2,_⟩:=HLA2.out.live m hoo;obtain⟨g,S,q3,q4⟩:=HLB2.out.live m hoo;rw [q1,q3];exact Qab W V _ _ m g S (q2.below hbw) (q4.below hbw)
 have hsame2:b2=false->∀ W,zC WW.heap.size WW W->Calls zE 42 #[.pointer P3,.pointer P4] W fun e w'=>e=.returned (.bool true)/\zC W.heap.size W w':=fun hb W hbw=>by
  cases hoo:o2 with
  | none=>rw [hoo] at HB2; have:=HB2.out; rw [hb] at this; cases this
  | some m =>obtain⟨V,q1,q2,_⟩:=HLC2.out.live m hoo;obtain⟨g,S,q3,q4⟩:=HLD2.out.live m hoo;rw [q1,q3];exact Qab W V _ _ m g S (q2.below hbw) (q4.below hbw)
 have HS1:=sH hsame1;have HS2:=sH hsame2;have HEC2:=sH hec;clear HM HLA HLB HLC HLD HLA2 HLB2 HLC2 HLD2 hsame1 hsame2 hec;have hec:=HEC2.out;cases b1 with
 | true =>
  cases b2 with
  | true =>
   go_wp2_with fail
   refine(Q4T WW).mono ?_;rintro _ w20 ⟨rfl,hb20⟩;have HL20:=sH (HLW.out.trans (hb20.mono hsw));clear hb20;go_wp2_with fail
   go_ret
   exact⟨rfl,HL20.out⟩
  | false =>
   go_wp2_with fail
   refine(HS2.out (by first | trivial | rfl) WW (zG _ _)).mono ?_;rintro _ w19 ⟨rfl,hb19⟩;have HL19:=sH (HLW.out.trans (hb19.mono hsw));have hs19:=hb19.size;clear hb19;go_wp2_with fail
   refine(Q4T w19).mono ?_;rintro _ w20 ⟨rfl,hb20⟩;have HL20:=sH (HL19.out.trans (hb20.mono (by omega)));clear hb20;go_wp2_with fail
   go_ret
   exact⟨rfl,HL20.out⟩
 | false =>
  go_wp2_with fail
  refine(HS1.out (by first | trivial | rfl) WW (zG _ _)).mono ?_;rintro _ w18 ⟨rfl,hb18⟩;have HL18:=sH (HLW.out.trans (hb18.mono hsw));have HB18:=sH hb18;have hs18:=hb18.size;clear hb18;cases b2 with
  | true =>
   go_wp2_with fail
   refine(Q4T w18).mono ?_;rintro _ w20 ⟨rfl,hb20⟩;have HL20:=sH (HL18.out.trans (hb20.mono (by omega)));clear hb20;go_wp2_with fail
   go_ret
   exact⟨rfl,HL20.out⟩
  | false =>
   go_wp2_with fail
   refine(HS2.out (by first | trivial | rfl) w18 HB18.out).mono ?_;rintro _ w19 ⟨rfl,hb19⟩;have HL19:=sH (HL18.out.trans (hb19.mono (by omega)));have hs19:=hb19.size;clear hb19;go_wp2_with fail
   refine(Q4T w19).mono ?_;rintro _ w20 ⟨rfl,hb20⟩;have HL20:=sH (HL19.out.trans (hb20.mono (by omega)));clear hb20;go_wp2_with fail
   go_ret
   exact⟨rfl,HL20.out⟩
end
section
open Go.RowKit Go.WideShapes Go.ChangeShapes
theorem bulk_pos {H:Type} (d:DataW H):1<=Rows.uptoBulk d:=by
 cases d with
 | lit l=>cases l <;> simp [Rows.uptoBulk]
 | _=>simp [Rows.uptoBulk]
theorem Qcu {H:Type}:∀ l:List (DataW H),l.length<=Rows.uptoBulkAll l
 | []=>by simp [Rows.uptoBulkAll]
 | d :: t=>by have h1:=Qcu t;have h2:=bulk_pos d;simp only [Rows.uptoBulkAll,List.length_cons];omega
theorem Qc4 {H:Type} {d:DataW H}:∀ {l:List (DataW H)},d∈l->Rows.uptoBulk d<=Rows.uptoBulkAll l
 | [],h=>by cases h
 | x :: t,h=>by
  simp only [Rows.uptoBulkAll];rcases List.mem_cons.1 h with rfl | h
  ·omega
  have:=Qc4 h; omega
theorem Q8F {H:Type} (l s:List (DataW H)):l.length<=Rows.uptoBulk (.slice l s):=by have:=Qcu l;simp only [Rows.uptoBulk];omega
theorem Qec {H:Type} (l s:List (DataW H)) {d:DataW H} (h:d∈l):Rows.uptoBulk d<=Rows.uptoBulk (.slice l s):=by have:=Qc4 h;simp only [Rows.uptoBulk];omega
section
variable {H:Type} {enc:TypeId×Value->H} {P:Program} {w:zA} {held:Bool}
theorem open_bytes_b {t e:TypeId} (ht:P.underlying t=some (.slice e)) (he:P.underlying e=some (.int .u8)) (hc:P.cellsOf e=1) (hby:P.bytesOf e=1) {fuel:Nat} {cs:List Value} {x:DataW H×List MemPlace}
 (h:DataW.trod enc P w 0 (fun _=>true) held fuel t cs=some x) (hw:Light P t x.1) :
 ∃ (A:Option Addr) (n c:Nat) (xs:List UInt8),cs=[.slice A n c]/\Q08 w w.heap.size 1 A n (xs.map vb)/\n<=c/\c<=reachBytes/\n<=Rows.uptoBulk x.1:=by
 rcases open_ints ht he hc h with⟨rfl,rfl⟩ | ⟨a,len,cap,zs,rfl,_,hl,hm,hz,rfl,hcell,hwf⟩
 ·exact⟨none,0,0,[],rfl,Q08.none_,zF _,Nat.zero_le _,Nat.zero_le _⟩
 have hz':zs.length=cap:=by simpa using hz
 have hlight:=(Q7e ht hw).1;rw [hby] at hlight;simp only [lits,List.length_map,List.length_take,List.length_drop] at hlight;refine⟨some a,len,cap,(zs.take len).map (fun z=>UInt8.ofNat z.toNat),rfl,⟨by simp; omega,fun hn=>⟨a,rfl,?_,?_⟩⟩,hl,by omega,Nat.le_trans (by simp [lits]; omega) (Q8F (H:=H) (lits .u8 (zs.take len)) (lits .u8 (zs.drop len)))⟩
 ·have:=hcell 0 (by omega);have hb:=World.block_lt_of_cell? _ _ this
  rwa [Q0a] at hb
 intro j u hu;obtain⟨hj,rfl⟩:=Q3W hu;have hjl:j<zs.length:=by simp at hj; omega
 rw [hcell j hjl];have hz:zs.getD j 0=zs[j]:=by rw [List.getD_eq_getElem?_getD,zB hjl]; rfl
 rw [hz,u8_of_wf (hwf zs[j] (zH hjl)),List.getElem_map,List.getElem_take];rfl
theorem open_rows_b {t e q:TypeId} (ht:P.underlying t=some (.slice e)) (he:P.underlying e=some (.slice q)) (hq:P.underlying q=some (.int .u8)) (hce:P.cellsOf e=1) (hcq:P.cellsOf q=1) (hbe:P.bytesOf e=24) (hbq:P.bytesOf q=1) {fuel:Nat} {cs:List Value} {x:DataW H×List MemPlace}
 (h:DataW.trod enc P w 0 (fun _=>true) held fuel t cs=some x) (hw:Light P t x.1) :
 ∃ (A:Option Addr) (n c:Nat) (xss:LL),cs=[.slice A n c]/\Rows2 w A n xss/\n<=c/\24*c<=reachBytes/\n<=Rows.uptoBulk x.1/\∀ y,y∈xss->y.length<=Rows.uptoBulk x.1:=by
 rcases Deep.open_slice1 ht hce h with⟨rfl,rfl⟩ | ⟨a,len,cap,m,n,V,D,Pl,rfl,_,hl,hm,hmm,rfl,hx⟩
 ·exact⟨none,0,0,[],rfl,⟨rfl,fun h=>absurd h (by omega)⟩,zF _,Nat.zero_le _,Nat.zero_le _,fun y hy=>by cases hy⟩
 simp only [if_true] at hmm;subst hmm;have hlight:=Q7e ht hw;have hlt:=hlight.1;rw [hbe] at hlt;simp only [List.length_map,List.length_range] at hlt;have each:∀ i,i<len->∃ y:Option Addr×Nat×Nat×List UInt8,V i=.slice y.1 y.2.1 y.2.2.1/\Q08 w w.heap.size 1 y.1 y.2.1 (y.2.2.2.map vb)/\y.2.1<=y.2.2.1/\y.2.2.1<=reachBytes/\y.2.1<=Rows.uptoBulk (D i):=by intro i hi;obtain⟨A,k,c,xs,hcs,hr,h1,h2,h3⟩:=open_bytes_b he hq hcq hbq (hx i (by omega)).2 (hlight.2 _ (.inl (List.mem_map.2 ⟨i,List.mem_range.2 hi,rfl⟩)));exact⟨(A,k,c,xs),by simpa using hcs,hr,h1,h2,h3⟩
 obtain⟨y,hy⟩:=Go.Deep.choose_lt (α:=Option Addr×Nat×Nat×List UInt8) (p:=fun i y=>V i=.slice y.1 y.2.1 y.2.2.1/\Q08 w w.heap.size 1 y.1 y.2.1 (y.2.2.2.map vb)/\y.2.1<=y.2.2.1/\y.2.2.1<=reachBytes/\y.2.1<=Rows.uptoBulk (D i)) each;refine⟨some a,len,m,(zD len).map fun i=>(y i).2.2.2,rfl,⟨by simp,fun hn=>⟨a,rfl,?_,fun j xs hj=>?_⟩⟩,hl,by omega,?_,?_⟩
 ·have:=(hx 0 (by omega)).1;have hb:=World.block_lt_of_cell? _ _ this
  rwa [Q0a] at hb
 ·rw [List.getElem?_map] at hj;rcases Nat.lt_or_ge j len with hjl | hjl
  ·rw [List.getElem?_range hjl] at hj;simp only [Option.map_some,Option.some.injEq] at hj;subst hj;obtain⟨h1,h2,h3,h4,_⟩:=hy j hjl;exact⟨_,_,_,by rw [(hx j (by omega)).1,h1],h2,h3,h4⟩
  rw [List.getElem?_eq_none (by simpa using hjl)] at hj;simp at hj
 ·have hb:=Q8F ((zD len).map D) ((zD (m - len)).map fun i=>D (len+i));simp only [List.length_map,List.length_range] at hb;exact hb
 intro y' hy';obtain⟨i,hi,rfl⟩:=List.mem_map.1 hy';have hil:i<len:=List.mem_range.1 hi;obtain⟨h1,h2,h3,h4,h5⟩:=hy i hil;have hxl:(y i).2.2.2.length=(y i).2.1:=by have:=h2.1; simpa using this
 have hp:=Qec ((zD len).map D) ((zD (m - len)).map fun i=>D (len+i)) (List.mem_map.2 ⟨i,hi,rfl⟩);rw [hxl];exact Nat.le_trans h5 hp
end
end
end Go.Proofs.YtcpngeiahgoacaaGreat
