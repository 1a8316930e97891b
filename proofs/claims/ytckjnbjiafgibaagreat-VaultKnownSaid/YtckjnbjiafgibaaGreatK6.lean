/- Parts of the proof, in one text. -/
import Derived.Test.YtckjnbjiafgibaaGreatK5
import Derived.Test.YtckjnbjiafgibaaGreatRows
import Derived.Test.YtckjnbjiafgibaaGreatK1
import Derived.Test.YtckjnbjiafgibaaGreatK4
import Derived.BigRegion
namespace Go.Proofs.YtckjnbjiafgibaaGreat
set_option linter.unusedVariables false
set_option linter.unusedSimpArgs false
set_option maxRecDepth 100000
set_option maxHeartbeats 16000000
open _root_.Array renaming getElem?_eq_none->zE,replicate->zM
open _root_.Go renaming Addr->zA,World->zB,Value->zC,Calls->zG
open _root_.Go.Act renaming put->zP
open _root_.Go.Proofs.Tryz renaming prog->zH
open _root_.Go.RowKit renaming Below->zD
open _root_.Go.RowKit.Below renaming refl->zK
open _root_.Go.World renaming block_lt_of_cell?->zN
open _root_.List renaming length_append->zJ,replicate->zL,take_of_length_le->zO,length_set->zQ,take_succ_eq_append_getElem->zR
open _root_.Nat renaming eq_zero_or_pos->zF,le_refl->zI
section
open Go.RowKit Go.Maps
attribute [local irreducible] wpList
def posT (i:Nat):Nat->Nat
 | 0=>i
 | n+1=>posT i n / 4
def dgT (ls':LL) (i:Nat) (x:List UInt8):Nat->List UInt8
 | 0=>Q2e x
 | n+1=>upD (grp (lv ls' n) (posT i (n+1)))
theorem Q9I (ls':LL) (i:Nat) (x:List UInt8):∀ n,(dgT ls' i x n).length=32
 | 0=>Q1Y x
 | n+1=>Q4l _
theorem Q77 (ls:LL) (i:Nat) (x:List UInt8) (h:i<ls.length):∀ n,posT i n<(lv ls n).length/\lv (ls.set i x) n=(lv ls n).set (posT i n) (dgT (ls.set i x) i x n)
 | 0=>⟨by rw [Q4X]; exact h,Q9G ls i x⟩
 | n+1=>by
  obtain⟨h1,h2⟩:=Q77 ls i x h n;refine⟨?_,?_⟩
  ·show posT i n / 4<(Q1p (lv ls n)).length;rw [Q1R]; unfold grps; omega
  show Q1p (lv (ls.set i x) n)=(Q1p (lv ls n)).set (posT i n / 4) (upD (grp (lv (ls.set i x) n) (posT i n / 4)));rw [h2];exact Q86 _ _ _ h1
structure Q6p (w w':zB) (k:Book) (L:LL) (a:Nat):Prop where
 book:Q0d w' k L a
 only:Only k.has w w'
theorem Q6p.below {w w' w'':zB} {k:Book} {L:LL} {a:Nat} (h:Q6p w w' k L a) (hb:zD w'.heap.size w' w''):Q6p w w'' k L a:=⟨h.book.below hb,h.only.trans (Only.of_below hb)⟩
structure Q82 (w w':zB) (k:Book) (L:LL) (a g:Nat) (D:Array zC):Prop where
 book:Q0d w' k L a
 only:Only (fun b=>k.has b\/b=g) w w'
 blk:Blk w' g 51 D
theorem Q82.below {w w' w'':zB} {k:Book} {L:LL} {a g:Nat} {D:Array zC} (h:Q82 w w' k L a g D) (hb:zD w'.heap.size w' w''):Q82 w w'' k L a g D:=⟨h.book.below hb,h.only.trans (Only.of_below hb),h.blk.below' hb⟩
structure SetSt (w wr:zB) (T:Q0O) (k:Book) (L:LL) (asked:Nat) (ls:LL) (i:Nat) (xs:List UInt8) (g7 n:Nat):Prop where
 dig:∀ j,j<=2->Q1H wr (T.gs j) (T.cs j) (if j<n then lv (ls.set i xs) j else lv ls j)
 book:∃ L' a',Q0d wr k L' a'/\a'<=asked+1+min n 2/\(∀ x,x∈L->x∈L')/\Q1K xs∈L'/\(1<=n->upIn (grp (lv (ls.set i xs) 0) (i / 4))∈L')/\(2<=n->upIn (lv (ls.set i xs) 1)∈L')
 only:Only (fun b=>T.mut b\/k.has b) w wr
 blk:Blk wr g7 51 (bRow (dgT (ls.set i xs) i xs (min n 2)))
theorem Q7b (T:Q0O) (k:Book) (ls L:LL) (asked i:Nat) (A:Option zA) (m c:Nat) (xs:List UInt8) (w:zB) (B:Nat) (hT:Q1a w T k ls) (hbk:Q0d w k L asked) (h:Q04 w B 1 A m (xs.map vb)) (hB:B<=w.heap.size) (hi:i<ls.length) (hm:m<65536) (has:asked<=900000) :
 zG zH 75 #[.pointer (some ⟨T.t,0,none⟩),.int .i64 (i:Int),.slice A m c] w fun e w'=>e=.returned (.int .i64 0)/\Q1a w' T k (ls.set i xs) /\
  (∃ L' a',Q0d w' k L' a'/\a'<=asked+3/\(∀ x,x∈L->x∈L')/\(∀ L0,(∀ x,x∈L0->x∈L)->Q0J L0 ls->Q0J L' (ls.set i xs)))/\Only (fun b=>T.mut b\/k.has b) w w':=by
 have hlen:=hT.len;have HT:=sH hT;have hlt:=hbk.lt;have hbook:=hT.book;have hfar:=hT.far;have htlt:=hT.tlt;have hrlt:=hT.rlt;have hglt:=fun j hj=>(hT.dig j hj).lt
 have HGL:=sH hglt;have HNE:=sH hT.ne;have c0:=hT.c0;have c1:=hT.c1;have HN:=sH (Q6d w T.t k.g hT.c0);have HLF:=sH (Q7Q k L asked A m c xs w B hbk h hB hm (by omega));have hiI:(i:Int)<(ls.length:Int):=by omega
 have hi0:¬ (i:Int)<0:=by omega
 have hiL:¬ (ls.length:Int)<=(i:Int):=by omega
 have HZS:=sH (show inkZ.size=32 by simp [inkZ,bRow]);have HZ:=sH Q1O;have hC0:∀ W,Only (fun b=>T.mut b\/k.has b) w W->W.cell? ⟨T.t,0,none⟩=some (.pointer (some ⟨k.g,0,none⟩)):=fun W ho=>(ho.cell htlt (by rintro (e | e); exact hfar.1 e; exact hbook.1 e)).trans hT.c0
 have hC6:∀ W,Only (fun b=>T.mut b\/k.has b) w W->W.cell? ⟨T.t,6,none⟩=some (.slice (some ⟨T.r,0,none⟩) 3 T.rc):=fun W ho=>(ho.cell htlt (by rintro (e | e); exact hfar.1 e; exact hbook.1 e)).trans hT.c6
 have hCR:∀ W,Only (fun b=>T.mut b\/k.has b) w W->∀ j,j<=2->W.cell? ⟨T.r,j,none⟩=some (.slice (some ⟨T.gs j,0,none⟩) (lv ls j).length (T.cs j)):=fun W ho j hj=>(ho.cell hrlt (by rintro (e | e); exact hfar.2 e; exact hbook.2.1 e)).trans (hT.rj j hj)
 have HC0:=sH hC0;have HC6:=sH hC6;have HCR:=sH hCR;have HBK:=sH hbook;have hds:(bRow (Q2e xs)).size=32:=Q0P (Q1Y xs);have hdo:=Q0I (Q2e xs);obtain⟨D,hD⟩:∃ D,D=bRow (Q2e xs):=⟨_,rfl⟩;rw [<- hD] at HLF hds hdo;have HD:=sH hD;have HDS:=sH hds;have HDO:=sH hdo;have HDIG:=sH hT.dig;obtain⟨t,ht⟩:∃ t,t=T.t:=⟨_,rfl⟩;obtain⟨r,hr⟩:∃ t,t=T.r:=⟨_,rfl⟩;obtain⟨rc,hrc⟩:∃ t,t=T.rc:=⟨_,rfl⟩;rw [<- ht] at HN HC0 HC6 c0 c1 htlt hfar hbook ⊢;rw [<- hr] at HC6 HCR hrlt hfar hbook;rw [<- hrc] at HC6;have HFAR:=sH hfar;have HTE:=sH ht;have HRE:=sH hr;have HCE:=sH hrc;clear hT hbk h hD hds hdo hC0 hC6 hCR hbook hglt hfar ht hr hrc;go_enter Tryz.func75,Tryz.ntmps75
 go_wp2_with fail
 refine HN.out.mono ?_;rintro _ _ ⟨rfl,rfl⟩;go_wp2_with fail
 refine HLF.out.mono ?_;rintro _ w3 ⟨rfl,hbk3,ho3⟩;have HBK3:=sH hbk3;have HO3:=sH (Only.of_book ho3);have hs3:=ho3.size;clear hbk3 ho3 HN HLF c0 c1;go_upto_region 6 with(refine Q00 (o:=⟨none,_,_,_,_,_⟩) rfl 51 (.tmp 7) (.tmp 31) rfl w3.heap.size 0 D rfl rfl 51 inkZ (by rw [HZ.out]; exact Blk.newAt rfl) (by rw [HDS.out]; rfl) (by rw [HDS.out,HZS.out]; omega) HDO.out ?_; intro w4 hT4 hD4; rw [Q0h _ _ (by rw [HDS.out,HZS.out])] at hD4)
 have hb4:zD w3.heap.size w3 w4:=hT4.below ((zK _ _).alloc (zI _) _) (zI _);have hs4:=hb4.size;obtain⟨g7,hg7⟩:∃ g,g=w3.heap.size:=⟨_,rfl⟩;rw [<- hg7] at hD4 ⊢;have hg7w:w.heap.size<=g7:=by omega
 have ho4:Only (fun b=>T.mut b\/k.has b) w w4:=(HO3.out.mono (fun b _ h=>.inr h)).trans (Only.of_below hb4);have hst:SetSt w w4 T k L asked ls i xs g7 0:=by refine⟨fun j hj=>?_,⟨_,_,HBK3.out.below hb4,by omega,fun x hx=>Q1q hx,Q2f _ _,fun h=>by omega,fun h=>by omega⟩,ho4,by rw [HD.out] at hD4; exact hD4⟩;rw [if_neg (by omega)];have hd:=HDIG.out j hj;refine hd.keep ((hb4.block _ (by have:=hd.lt; omega)).trans (HO3.out.block _ hd.lt (HBK.out.2.2 j hj)))
 have HST:=sH hst;have c6:=HC6.out w4 ho4;clear hT4 hD4 hb4 hg7 ho4 hst HBK3 HO3 HD HDS HDO;go_wp2_with fail
 go_loopw [1,41] (fun pv nv wr=>∃ n:Nat,n<=3/\nv=.int .i64 (n:Int)/\pv=.int .i64 (posT i (min n 2):Int)/\SetSt w wr T k L asked ls i xs g7 n) (fun _ nv _=>3 - (intOf nv).toNat)
 case atStart=>exact⟨0,by omega,rfl,rfl,HST.out⟩
 obtain⟨n,hn,rfl,rfl,hst⟩:=hrel;have HS:=sH hst;have hsz:=hst.only.size;clear hst c6;by_cases hn3:n<3
 ·have hni:(n:Int)<3:=by omega
  have hmin:min n 2=n:=by omega
  rw [hmin];obtain⟨hp1,hp2⟩:=Q77 ls i xs hi n;have HP2:=sH hp2;obtain⟨pn,hpn⟩:∃ p,p=posT i n:=⟨_,rfl⟩;have hpn1:posT i (n+1)=pn / 4:=by rw [hpn]; rfl
  rw [<- hpn] at hp1 HP2 ⊢;have HPN:=sH hpn;have HPN1:=sH hpn1;obtain⟨ln,hln⟩:∃ l,l=(lv ls n).length:=⟨_,rfl⟩;obtain⟨gn,hgn⟩:∃ g,g=T.gs n:=⟨_,rfl⟩;obtain⟨cn,hcn⟩:∃ c,c=T.cs n:=⟨_,rfl⟩;have hlc:=Q7F hlen.1 hlen.2 n (by omega);rw [<- hln] at hp1 hlc;have HLN:=sH hln;have HGN:=sH hgn;have HCN:=sH hcn;have HLC:=sH hlc;have hln16:=hlc.2.1;have hgnl:gn<w.heap.size:=by rw [hgn]; exact HGL.out n (by omega)
  have hpnI:(pn:Int)<(ln:Int):=by omega
  have hcr0:=HCR.out wr HS.out.only n (by omega);rw [<- hln,<- hgn,<- hcn] at hcr0;have lr:=zN _ _ hcr0;have lt0:=zN _ _ (HC6.out wr HS.out.only);have c6:=fun(W:zB) (hb:zD wr.heap.size wr W)=>(hb.cell lt0).trans (HC6.out wr HS.out.only)
  have cr:=fun(W:zB) (hb:zD wr.heap.size wr W)=>(hb.cell lr).trans hcr0
  have hbk7:=HS.out.blk;rw [hmin] at hbk7;have hds:(bRow (dgT (ls.set i xs) i xs n)).size=32:=Q0P (Q9I _ _ _ _);have hdo:=Q0I (dgT (ls.set i xs) i xs n);obtain⟨D,hD⟩:∃ D,D=bRow (dgT (ls.set i xs) i xs n):=⟨_,rfl⟩;rw [<- hD] at hbk7 hds hdo;have HD:=sH hD;have HDS:=sH hds;have HDO:=sH hdo;have HK7:=sH hbk7;have hg7l:=hbk7.lt;clear hD hds hdo hbk7 hcr0 hln hgn hcn hlc hpn hpn1;go_upto_region 11 with fail
  refine Q0f 10 82 (by kernel_rfl) (by kernel_rfl) (by kernel_rfl) (by simp) ?_;simp only [tT,tU];refine tC (.pointer (some ⟨t,0,none⟩)) ?_;try simp only [zP,sA]
  refine tC (.pointer (some ⟨t,0,none⟩)) ?_;try simp only [zP,sA]
  refine tC (.pointer (some ⟨t,6,none⟩)) ?_;try simp only [zP,sA]
  refine Q0g rfl rfl (.slice (some ⟨r,0,none⟩) 3 rc) (fun W hb=>by have:=c6 W hb; go_simp) ?_;try simp only [zP,sA]
  refine tC (.int .i64 (n:Int)) ?_;try simp only [zP,sA]
  refine tC (.pointer (some ⟨r,n,none⟩)) ?_;try simp only [zP,sA]
  refine Q0g rfl rfl (.slice (some ⟨gn,0,none⟩) ln cn) (fun W hb=>by have:=cr W hb; go_simp) ?_;try simp only [zP,sA]
  refine tC (.int .i64 (pn:Int)) ?_;try simp only [zP,sA]
  refine Q0w rfl 51 (.tmp 7) rfl g7 0 32 rfl 51 _ D _ HK7.out Tryz.underlying51 rfl rfl HDS.out (fun _ _=>by rw [Nat.zero_add]) ?_;try simp only [zP,sA]
  refine tC (.pointer (some ⟨gn,pn*32,none⟩)) ?_;try simp only [zP,sA]
  refine Q0A ?_;intro w5 hb5;have HS5:=sH (show Only (fun b=>T.mut b\/k.has b) w w5 from HS.out.only.trans (Only.of_below hb5));have hdn:=(HS.out.dig n (by omega)).keep (hb5.block _ (HS.out.dig n (by omega)).lt);rw [if_neg (by omega),<- HGN.out,<- HCN.out] at hdn;obtain⟨cur,hcb,hcs,hct⟩:=hdn.row;have hcap:=hdn.cap.1;rw [<- HLN.out] at hcap;have hm32:(pn+1)*32<=cn*32:=Nat.mul_le_mul_right _ (by omega);have HCB:=sH hcb;have HCS:=sH hcs;have HDN:=sH hdn;have HK75:=sH (HK7.out.below' hb5);have HB5:=sH hb5;have hs5:=hb5.size;clear hb5 hdn hcb hcs hct c6 cr;go_upto_region 12 with(refine Q00 (o:=⟨none,_,_,_,_,_⟩) rfl 51 (.tmp 53) (.tmp 52) rfl gn (pn*32) D rfl rfl 51 cur HCB.out (by rw [HDS.out]; rfl) (by rw [HDS.out,HCS.out]; omega) HDO.out ?_; intro w6 hT6 hD6)
  have hmut:T.mut gn:=⟨n,by omega,HGN.out⟩;have ho6:Only (fun b=>T.mut b\/k.has b) w w6:=HS5.out.trans (Only.of_turned hT6 (.inl hmut));have hgk:¬ k.has gn:=by rw [HGN.out]; exact HBK.out.2.2 n (by omega)
  have hgt:g7≠gn:=by omega
  have hk76:=hT6.blk HK75.out hgt;have hd6:∀ j,j<=2->Q1H w6 (T.gs j) (T.cs j) (if j<n+1 then lv (ls.set i xs) j else lv ls j):=fun j hj=>by
   by_cases hjn:j=n
   ·subst hjn;rw [if_pos (by omega),HP2.out];have hset:=(HS.out.dig j hj).keep (w':=w5) (HB5.out.block _ (HS.out.dig j hj).lt);rw [if_neg (by omega)] at hset;refine hset.set (Q3H _ _) (Q9I _ _ _ _) (by rw [<- HLN.out]; omega) fun cur' hc1 hc2=>?_
    have hcc:cur'=cur:=by
     have h1:=HCB.out;rw [HGN.out] at h1;unfold Blk at hc1 h1;rw [hc1] at h1;injection h1 with h1
     injection h1
    subst hcc;have h2:=hD6;rw [HGN.out,HD.out] at h2;simpa [bRow] using h2
   have hd:=(HS.out.dig j hj).keep (w':=w5) (HB5.out.block _ (HS.out.dig j hj).lt);have hne:T.gs j≠gn:=by
    rw [HGN.out];rcases Nat.lt_or_ge j n with h1 | h1
    ·exact HNE.out j n h1 (by omega)
    exact(HNE.out n j (by omega) hj).symm
   have hd2:=hd.keep (w':=w6) (hT6.block _ hne);by_cases hjl:j<n
   ·rw [if_pos (by omega)]; rw [if_pos hjl] at hd2; exact hd2
   rw [if_neg (by omega)]; rw [if_neg hjl] at hd2; exact hd2
  obtain⟨L1,a1,q1,q2,q3,q4,q5,q6⟩:=HS.out.book;have hbk6:Q0d w6 k L1 a1:=(q1.below HB5.out).only (Only.of_turned (N:=fun b=>b=gn) hT6 rfl) (fun(e:k.g=gn)=>hgk (.inl e.symm)) (fun(e:k.b1=gn)=>hgk (.inr (.inl e.symm))) (fun(e:k.b2=gn)=>hgk (.inr (.inr e.symm)));have HO6:=sH ho6;have HD6:=sH hd6;have HBK6:=sH hbk6;have HK76:=sH hk76;have HQ:=sH (And.intro q3 (And.intro q4 (And.intro q5 q6)));have hs6:=hT6.size;have c6:=HC6.out w6 ho6;clear q1 q3 q4 q5 q6 ho6 hd6 hbk6 hk76 hT6 hD6 HCB HCS HDN HK75 HB5 HS5 hmut;by_cases hn2:n<2
  ·have hn2I:(n:Int)+1<3:=by omega
   obtain⟨pn4,hpn4⟩:∃ p,p=pn / 4:=⟨_,rfl⟩;have hdv:(pn:Int).tdiv 4=(pn4:Int):=by rw [hpn4]; exact(Int.ofNat_tdiv pn 4).symm
   have hrd:=(HD6.out n (by omega)).reads (by rw [if_pos (by omega)]; exact Q3H _ _);rw [if_pos (by omega)] at hrd;have hll:(lv (ls.set i xs) n).length=ln:=by rw [HP2.out,zQ,HLN.out]
   rw [hll,<- HGN.out] at hrd;have hcap2:=(HD6.out n (by omega)).cap.1;rw [if_pos (by omega),hll,<- HCN.out] at hcap2;have hpn5:pn4<grps ln:=by unfold grps; omega
   have h4l:4*pn4<ln:=Q5W.1 hpn5;have hrs:=hrd.sub (l:=4*pn4) (k:=min (4*pn4+4) ln) (cap:=cn) (by omega) (by omega) hcap2;rw [<- hll,Q6R (Q3H _ _) pn4 (by rw [hll]; omega),hll] at hrs;have hgr:=fun W=>Q6K (some ⟨gn,0,none⟩) ln cn pn4 W (by omega) (by omega) hcap2
   have hup:=fun W (hb:zD w6.heap.size w6 W)=>up_any k L1 a1 _ _ (cn - 4*pn4) (grp (lv (ls.set i xs) n) pn4) W W.heap.size (HBK6.out.below hb) ((hrs.below hb).more hb.size) (zI _) (Q7X (Q3H _ _) pn4) (by omega) (by omega) (by omega)
   obtain⟨vg,hvg⟩:∃ v,v=Value.slice (if cn=4*pn4 then some ⟨gn,0,none⟩ else(some (⟨gn,0,none⟩:zA)).map (·.add (4*pn4*32))) (min (4*pn4+4) ln - 4*pn4) (cn - 4*pn4):=⟨_,rfl⟩;have HGR:=sH (fun W=>(show zG zH 101 #[.slice (some ⟨gn,0,none⟩) ln cn,.int .i64 (pn4:Int)] W fun e w'=>e=.returned vg/\zD W.heap.size W w' from(hgr W).mono fun e w' ⟨h1,h2⟩=>⟨by rw [hvg]; exact h1,by rw [<- h2]; exact zK _ _⟩));have HUP:=sH (show ∀ W,zD w6.heap.size w6 W->zG zH 100 #[.pointer (some ⟨k.g,0,none⟩),vg] W fun e w'=>e=.returned (.tuple #[.agg (bRow (upD (grp (lv (ls.set i xs) n) pn4))),.int .i64 0])/\Q0d w' k (Q0Q L1 (upIn (grp (lv (ls.set i xs) n) pn4))) (a1+1)/\Q0b k W w' from fun W hb=>by rw [hvg]; exact hup W hb);have hds2:(bRow (upD (grp (lv (ls.set i xs) n) pn4))).size=32:=Q0P (Q4l _);have hdo2:=Q0I (upD (grp (lv (ls.set i xs) n) pn4));have hdg:dgT (ls.set i xs) i xs (n+1)=upD (grp (lv (ls.set i xs) n) pn4):=by show upD (grp (lv (ls.set i xs) n) (posT i (n+1)))=_;rw [HPN1.out,<- hpn4]
   obtain⟨D2,hD2⟩:∃ D,D=bRow (upD (grp (lv (ls.set i xs) n) pn4)):=⟨_,rfl⟩;rw [<- hD2] at HUP hds2 hdo2;have HDG:=sH hdg;have HD2:=sH hD2;have HDS2:=sH hds2;have HDO2:=sH hdo2;have HPN4:=sH hpn4;have hcr0:=HCR.out w6 HO6.out n (by omega);rw [<- HLN.out,<- HGN.out,<- HCN.out] at hcr0;have lr6:=zN _ _ hcr0;have lt6:=zN _ _ c6;have c06:=HC0.out w6 HO6.out;have lt60:=zN _ _ c06;clear hrd hll hcap2 hrs hgr hup hvg hds2 hdo2 hdg hD2 hpn4;go_upto_region 14 with fail
   have c0:=fun(W:zB) (hb:zD w6.heap.size w6 W)=>(hb.cell lt60).trans c06
   have c6':=fun(W:zB) (hb:zD w6.heap.size w6 W)=>(hb.cell lt6).trans c6
   have cr:=fun(W:zB) (hb:zD w6.heap.size w6 W)=>(hb.cell lr6).trans hcr0
   clear c6 c06 hcr0;have c6:=c6';clear c6';have hJ:∀ (s:Nat) (W:zB),(if s=0 then zD w6.heap.size w6 W else if s=1 then Q6p w6 W k (Q0Q L1 (upIn (grp (lv (ls.set i xs) n) pn4))) (a1+1) else Q82 w6 W k (Q0Q L1 (upIn (grp (lv (ls.set i xs) n) pn4))) (a1+1) g7 D2)->Only (fun b=>k.has b\/b=g7) w6 W:=fun s W hj=>by
    split at hj
    ·exact Only.of_below hj
    split at hj
    ·exact hj.only.mono fun b _ h=>.inl h
    exact hj.only
   have hJ2:∀ W,Only (fun b=>k.has b\/b=g7) w6 W->Only (fun b=>T.mut b\/k.has b) w W:=fun W ho=>⟨ho.os.trans HO6.out.os,ho.tape.trans HO6.out.tape,ho.output.trans HO6.out.output,by have:=ho.size; have:=HO6.out.size; omega,fun b hb hn=>(ho.block b (by have:=HO6.out.size; omega) (by rintro (e | e); exact hn (.inr e); omega)).trans (HO6.out.block b hb hn)⟩
   have HJ:=sH hJ;have HJ2:=sH hJ2;clear c0 c6 cr hJ hJ2;have C0:=sH (fun W (h:Only (fun b=>k.has b\/b=g7) w6 W)=>HC0.out W (HJ2.out W h));have C6:=sH (fun W (h:Only (fun b=>k.has b\/b=g7) w6 W)=>HC6.out W (HJ2.out W h));have CR:=sH (fun W (h:Only (fun b=>k.has b\/b=g7) w6 W)=>HCR.out W (HJ2.out W h) n (by omega));rw [<- HLN.out,<- HGN.out,<- HCN.out] at CR;refine Q0Y 18 82 (fun j W v=>match j with
    | 0=>v=.pointer (some ⟨t,0,none⟩)
    | 1=>v=.pointer (some ⟨t,0,none⟩)
    | 2=>v=.pointer (some ⟨t,0,none⟩)
    | 3=>v=.pointer (some ⟨k.g,0,none⟩)
    | 4=>v=.pointer (some ⟨t,0,none⟩)
    | 5=>v=.pointer (some ⟨t,0,none⟩)
    | 6=>v=.pointer (some ⟨t,6,none⟩)
    | 7=>v=.slice (some ⟨r,0,none⟩) 3 rc
    | 8=>v=.int .i64 (n:Int)
    | 9=>v=.pointer (some ⟨r,n,none⟩)
    | 10=>v=.slice (some ⟨gn,0,none⟩) ln cn
    | 11=>v=.int .i64 (pn4:Int)
    | 12=>v=vg
    | 13=>v=.tuple #[.agg D2,.int .i64 0]
    | 14=>v=.tuple #[.agg D2,.int .i64 0]
    | 15=>v=.agg D2
    | 16=>v=.int .i64 0
    | _=>True) (fun s W=>if s=0 then zD w6.heap.size w6 W else if s=1 then Q6p w6 W k (Q0Q L1 (upIn (grp (lv (ls.set i xs) n) pn4))) (a1+1) else Q82 w6 W k (Q0Q L1 (upIn (grp (lv (ls.set i xs) n) pn4))) (a1+1) g7 D2) (fun _ _=>True) [13,17] [65,66,67,68,69,70,71,72,73,74,75,76,77,78,64,79,80] (by kernel_rfl) (by kernel_rfl) (by kernel_rfl) (by kernel_rfl) (by simp) (by kernel_rfl) (fun j=>?last) ?lastR ?jay (zK _ _) ?heads ?_
   case last =>
    match j with
    | 0 | 1 | 2 | 3 | 4 | 5 | 6 | 7 | 8 | 9 | 10 | 11 | 12 | 13 | 14 | 15 | 16=>exact Q1B.pure _
    | j+17=>exact fun _ _ _ h _=>h
   case lastR =>
    intro s j W W' v hsl hs hj hp hr;match j with
    | 0 | 1 | 2 | 3 | 4 | 5 | 6 | 7 | 8 | 9 | 10 | 11 | 12 | 13 | 14 | 15 | 16=>exact hp
    | j+17=>exact hp
   case jay =>
    intro s W W' hj hb;by_cases h0:s=0
    ·rw [if_pos h0] at hj ⊢;exact hj.trans (hb.mono hj.size)
    rw [if_neg h0] at hj ⊢;by_cases h1:s=1
    ·rw [if_pos h1] at hj ⊢;exact hj.below hb
    rw [if_neg h1] at hj ⊢;exact hj.below hb
   case heads =>
    simp only [tT];and_intros;rotate_right;trivial
    all_goals try(rw [if_neg (by decide)];intro s a W hj hkp hd)
    ·have e0:(_:zC)=.pointer (some ⟨t,0,none⟩):=sK hkp 0;exact sV
    ·have e0:=sJ (hd 0) 65;exact sV
    ·have e0:=sJ (hd 1) 66;exact sV
    ·have e0:=sJ (hd 2) 67;have cc:=C0.out W (HJ.out s W hj);exact sV
    ·have e0:(_:zC)=.pointer (some ⟨t,0,none⟩):=sK hkp 0;exact sV
    ·have e0:=sJ (hd 4) 69;exact sV
    ·have e0:=sJ (hd 5) 70;exact sV
    ·have e0:=sJ (hd 6) 71;have cc:=C6.out W (HJ.out s W hj);exact sV
    ·have e0:(_:zC)=.int .i64 (n:Int):=sK hkp 9;exact sV
    ·have e0:=sJ (hd 7) 72;have e1:=sJ (hd 8) 73;exact sV
    ·have e0:=sJ (hd 9) 74;have cc:=CR.out W (HJ.out s W hj);exact sV
    ·have e0:(_:zC)=.int .i64 (pn4:Int):=sK hkp 1;exact sV
    ·have e0:=sJ (hd 10) 75;have e1:=sJ (hd 11) 76;exact Q0z rfl 101 #[.slice (some ⟨gn,0,none⟩) ln cn,.int .i64 (pn4:Int)] (by go_simp) ((HGR.out W).mono fun e w h=>⟨vg,h.1,h.2,rfl⟩)
    ·rw [if_pos (by decide)];intro s a W hs hj hkp hd;have e0:=sJ (hd 3) 68;have e1:=sJ (hd 12) 77;obtain rfl:s=0:=by
      have h1:=(List.getElem?_eq_some_iff.1 hs).1;simp at h1;obtain rfl | rfl:s=0\/s=1:=by omega
      ·rfl
      simp at hs
     rw [if_pos rfl] at hj;exact Q13 rfl 100 #[.pointer (some ⟨k.g,0,none⟩),vg] (by go_simp) ((HUP.out W hj).mono fun e w h=>⟨_,h.1,trivial,⟨h.2.1,(Only.of_below hj).trans (Only.of_book h.2.2)⟩,rfl⟩)
    ·have e0:=sJ (hd 13) 78;exact sV
    iterate 2 ·have e0:=sJ (hd 14) 64;exact sV
    rw [if_pos (by decide)];intro s a W hs hj hkp hd;have e0:a.eval (.tmp 7)=.pointer (some ⟨g7,0,none⟩):=hkp.at_ (by kernel_rfl);have e1:a.eval (.tmp 79)=.agg D2:=(hd 15 (by kernel_rfl)) _ 79 rfl rfl;obtain rfl:s=1:=by
     have h1:=(List.getElem?_eq_some_iff.1 hs).1;simp at h1;obtain rfl | rfl:s=0\/s=1:=by omega
     ·simp at hs
     rfl
    rw [if_neg (by omega),if_pos rfl] at hj;have hk7:Blk W g7 51 D:=hj.only.blk HK76.out (by rintro (e | e | e) <;> omega);refine Q85 (o:=⟨none,_,_,_,_,_⟩) rfl 51 (.tmp 7) (.tmp 79) rfl g7 0 D2 e0 e1 51 D hk7 (by rw [HDS2.out]; rfl) (by rw [HDS2.out,HDS.out]; omega) HDO2.out fun W2 hT2 hB2=>⟨trivial,?_,trivial⟩
    rw [Q0h _ _ (by rw [HDS2.out,HDS.out])] at hB2;exact⟨hj.book.only (Only.of_turned (N:=fun b=>b=g7) hT2 rfl) (by omega) (by omega) (by omega),(hj.only.mono fun b _ h=>.inl h).trans (Only.of_turned hT2 (.inr rfl)),hB2⟩
   intro f w10 hj hd;have hu:Q82 w6 w10 k (Q0Q L1 (upIn (grp (lv (ls.set i xs) n) pn4))) (a1+1) g7 D2:=hj;have HBK9:=sH hu.book;have HO9:=sH (HJ2.out w10 hu.only);have hD10:=hu.blk;have HD9:=sH (fun j (hj:j<=2)=>(HD6.out j hj).keep (hu.only.block _ (HD6.out j hj).lt (by have:=HGL.out j hj; rintro (e | e); exact HBK.out.2.2 j hj e; omega)));simp only [Q0R,tU];clear hd hj hu HUP;try simp only [zP,sA]
   have ho10:=HO9.out;have hst10:SetSt w w10 T k L asked ls i xs g7 (n+1):=by
    refine⟨HD9.out,⟨_,_,HBK9.out,by omega,fun x hx=>Q1q (HQ.out.1 x hx),Q1q HQ.out.2.1,fun _=>?_,fun h2=>?_⟩,ho10,?_⟩
    ·rcases zF n with e | e
     ·subst e;have h1:posT i 1=i / 4:=rfl;rw [<- h1,HPN1.out,<- HPN4.out];exact Q2f _ _
     exact Q1q (HQ.out.2.2.1 e)
    ·obtain rfl:n=1:=by omega
     have h0:pn4=0:=by have h1:=HLN.out; rw [Q4n] at h1; unfold grps at h1; have:=HPN4.out; omega
     have h1:grp (lv (ls.set i xs) 1) pn4=lv (ls.set i xs) 1:=by rw [h0];unfold grp;rw [Nat.mul_zero,List.drop_zero,zO];rw [Q4n,zQ]; unfold grps; omega
     have:=Q2f L1 (upIn (grp (lv (ls.set i xs) 1) pn4));rw [h1] at this ⊢;exact this
    rw [show min (n+1) 2=n+1 by omega,HDG.out,<- HD2.out];exact hD10
   have HST10:=sH hst10;have hpp:pn4=posT i (n+1):=by rw [HPN1.out,HPN4.out]
   have HPP:=sH hpp;clear ho10 hst10 hD10 HO9 HD9 HBK9 hpp;go_wp2_with fail
   go_roundw
   case rel=>exact⟨n+1,by omega,by go_num,by rw [show min (n+1) 2=n+1 by omega,<- HPP.out],HST10.out⟩
   case measure=>simp [intOf]; omega
  obtain rfl:n=2:=by omega
  have hn2I:¬ (2:Int)+1<3:=by omega
  have hst6:SetSt w w6 T k L asked ls i xs g7 3:=by refine⟨HD6.out,⟨L1,a1,HBK6.out,by omega,HQ.out.1,HQ.out.2.1,fun _=>HQ.out.2.2.1 (by omega),fun _=>HQ.out.2.2.2 (by omega)⟩,HO6.out,?_⟩;show Blk w6 g7 _ (bRow (dgT (ls.set i xs) i xs 2));rw [<- HD.out];exact HK76.out
  have HST6:=sH hst6;clear hst6;go_wp2_with fail
  go_roundw
  case rel=>exact⟨3,by omega,rfl,by rw [show min 3 2=2 by omega,<- HPN.out],HST6.out⟩
  case measure=>simp [intOf]
 obtain rfl:n=3:=by omega
 have hni:¬ (3:Int)<3:=by omega
 go_wp2_with fail
 go_ret
 obtain⟨L1,a1,q1,q2,q3,q4,q5,q6⟩:=HS.out.book;have ho:=HS.out.only;have e1:=HTE.out;have e2:=HRE.out;have e3:=HCE.out;subst e1 e2 e3;refine⟨rfl,⟨by have:=ho.size; omega,by have:=ho.size; omega,HC0.out wr ho,?_,HC6.out wr ho,fun j hj=>?_,fun j hj=>?_,HNE.out,HFAR.out,HBK.out,by rw [zQ]; exact hlen⟩,⟨L1,a1,q1,by omega,q3,fun L0 hL0 hin=>?_⟩,ho⟩
 ·rw [zQ];exact(ho.cell htlt (by rintro (e | e); exact HFAR.out.1 e; exact HBK.out.1 e)).trans HT.out.c1
 ·rw [HCR.out wr ho j hj,(Q77 ls i xs hi j).2,zQ]
 ·have:=HS.out.dig j hj;rw [if_pos (by omega)] at this;exact this
 exact(hin.more fun x hx=>q3 x (hL0 x hx)).set hi (fun _ h=>h) q4 (q5 (by omega)) (q6 (by omega))
end
section
open Go.RowKit
theorem Q7a (A B:Option zA) (n m c d:Nat) (xs ys:List UInt8) (w:zB) (Bx By:Nat) (ha:Q04 w Bx 1 A n (xs.map vb)) (hb:Q04 w By 1 B m (ys.map vb)) (hn:n<=maxLen) (hm:m<=maxLen) :
 zG zH 76 #[.slice A n c,.slice B m d] w fun e w'=>e=.returned (.bool (decide (xs=ys)))/\∃ k,w'=w.drewN k:=by
 have hlx:xs.length=n:=by have:=ha.1; simpa using this
 have hly:ys.length=m:=by have:=hb.1; simpa using this
 unfold maxLen at hn hm;by_cases hnm:n=m
 ·subst hnm;go_enter Tryz.func76,Tryz.ntmps76
  go_wp2
  go_loopw [5] (fun i wr=>∃ k q:Nat,k<=n/\i=.int .i64 k/\xs.take k=ys.take k/\wr=w.drewN q) (fun i _=>n - (intOf i).toNat)
  case atStart=>exact⟨0,0,Nat.zero_le _,rfl,by simp,rfl⟩
  obtain⟨k,q,hk,rfl,heq,rfl⟩:=hrel;have HE:=sH heq;clear heq;by_cases hlt:k<n
  ·obtain⟨ad,u,rfl,_,hx,hcx⟩:=ha.at_ hlt;obtain⟨bd,v,rfl,_,hy,hcy⟩:=hb.at_ hlt;obtain⟨hk1,rfl⟩:=Q33 hx;obtain⟨hk2,rfl⟩:=Q33 hy;clear hx hy ha hb;by_cases hne:xs[k]=ys[k]
   ·have hz:(bi xs[k] != bi ys[k])=false:=by simp [hne]
    have HN:=sH hne;clear hne
    go_wp2
    go_quiet (fail)
    go_wp2
    go_roundw
    case rel=>exact⟨k+1,_,by omega,by go_num,by rw [zR hk1,zR hk2,HE.out,HN.out],rfl⟩
    case measure=>simp [intOf]; omega
   have hz:(bi xs[k] != bi ys[k])=true:=by rw [bne_iff_ne]; intro e; exact hne (Q8H e)
   have HN:=sH hne;clear hne
   go_wp2
   go_quiet (fail)
   go_wp2
   go_ret
   exact⟨Q11 (by have:=HN.out; symm; rw [decide_eq_false_iff_not]; rintro rfl; exact this rfl),_,World.drewN_drewN _ _ _⟩
  have hkn:k=n:=by omega
  have HK:=sH hkn;clear hkn
  go_wp2
  go_ret
  exact⟨Q11 (by symm; rw [decide_eq_true_iff]; have h1:=HE.out; rw [HK.out] at h1; rwa [zO (by omega),zO (by omega)] at h1),q,rfl⟩
 have h0:((n:Int) != (m:Int))=true:=by rw [bne_iff_ne]; omega
 have HN:=sH hnm;clear hnm;go_enter Tryz.func76,Tryz.ntmps76
 go_wp2
 go_ret
 exact⟨Q11 (by symm; rw [decide_eq_false_iff_not]; rintro rfl; exact HN.out (by omega)),0,rfl⟩
theorem Q9e:(Tryz.prog.info? 3).map (fun i=>(i.zero,i.size,i.bytes))=some (some (.int .i64 0),1,8):=by kernel_rfl
theorem Q1r {w:zB} {B:Nat} {v:zC} {xs:List Int} (h:OwnN w B v xs):∃ A c,v=.slice A xs.length c/\xs.length<=c/\c<=maxLen/\Q04 w w.heap.size 1 A xs.length (xs.map vn)/\(∀ ad,A=some ad->B<=ad.block):=by
 have hr:=fun A c (hv:v=.slice A xs.length c)=>Q04.of_own (A:=A) (c:=c) (by rw [<- hv]; exact h)
 rcases h.2 with⟨rfl,h0⟩ | ⟨g,cap,cur,rfl,hg,_,h1,h2,_⟩
 ·exact⟨none,0,by rw [h0],by omega,by unfold maxLen; omega,hr none 0 (by rw [h0]),fun _ h=>by cases h⟩
 exact⟨_,cap,rfl,h1,h2,hr _ _ rfl,fun ad h=>by injection h with h; subst h; exact hg⟩
end
section
open Go.RowKit Go.Maps
structure Far (w:zB) (N:Nat->Prop) (A:Option zA) (c:Nat) (xs:List UInt8):Prop where
 rd:Q04 w w.heap.size 1 A xs.length (xs.map vb)
 cap:xs.length<=c/\c<=maxLen
 far:∀ a,0<xs.length->A=some a->¬ N a.block
structure FarN (w:zB) (N:Nat->Prop) (A:Option zA) (c:Nat) (xs:List Int):Prop where
 rd:Q04 w w.heap.size 1 A xs.length (xs.map vn)
 cap:xs.length<=c/\c<=maxLen
 far:∀ a,0<xs.length->A=some a->¬ N a.block
theorem Far.only {w w':zB} {N:Nat->Prop} {A:Option zA} {c:Nat} {xs:List UInt8} (h:Far w N A c xs) {M:Nat->Prop} (ho:Only M w w') (hM:∀ b,M b->N b):Far w' N A c xs :=⟨ho.reads h.rd (fun a h0 ha hm=>h.far a h0 ha (hM _ hm)),h.cap,h.far⟩
theorem FarN.only {w w':zB} {N:Nat->Prop} {A:Option zA} {c:Nat} {xs:List Int} (h:FarN w N A c xs) {M:Nat->Prop} (ho:Only M w w') (hM:∀ b,M b->N b):FarN w' N A c xs :=⟨ho.reads h.rd (fun a h0 ha hm=>h.far a h0 ha (hM _ hm)),h.cap,h.far⟩
theorem Far.mono {w:zB} {N N':Nat->Prop} {A:Option zA} {c:Nat} {xs:List UInt8} (h:Far w N A c xs) (hN:∀ b,b<w.heap.size->N' b->N b):Far w N' A c xs :=⟨h.rd,h.cap,fun a h0 ha hm=>h.far a h0 ha (hN _ (by obtain⟨ad,e,hb,_⟩:=h.rd.2 h0; rw [ha] at e; injection e with e; rw [e]; exact hb) hm)⟩
theorem FarN.mono {w:zB} {N N':Nat->Prop} {A:Option zA} {c:Nat} {xs:List Int} (h:FarN w N A c xs) (hN:∀ b,b<w.heap.size->N' b->N b):FarN w N' A c xs :=⟨h.rd,h.cap,fun a h0 ha hm=>h.far a h0 ha (hN _ (by obtain⟨ad,e,hb,_⟩:=h.rd.2 h0; rw [ha] at e; injection e with e; rw [e]; exact hb) hm)⟩
theorem Far.nil (w:zB) (N:Nat->Prop):Far w N none 0 []:=⟨Q04.none_,by simp,fun a h=>by simp at h⟩
theorem FarN.nil (w:zB) (N:Nat->Prop):FarN w N none 0 []:=⟨Q04.none_,by simp,fun a h=>by simp at h⟩
theorem Far.below {w w':zB} {N:Nat->Prop} {A:Option zA} {c:Nat} {xs:List UInt8} (h:Far w N A c xs) (hb:zD w.heap.size w w'):Far w' N A c xs:=⟨(h.rd.below hb).more hb.size,h.cap,h.far⟩
theorem Far.of_own {w0 w:zB} {N:Nat->Prop} {v:zC} {xs:List UInt8} {B:Nat} (h:OwnB w B v xs) (hN:∀ b,N b->b<B):∃ A c,v=.slice A xs.length c/\Far w N A c xs:=by obtain⟨A,c,hv,h1,h2,h3,h4⟩:=Q03 h;exact⟨A,c,hv,h3,⟨h1,h2⟩,fun a h0 ha hn=>by have:=h4 a ha; have:=hN _ hn; omega⟩
theorem FarN.of_own {w0 w:zB} {N:Nat->Prop} {v:zC} {xs:List Int} {B:Nat} (h:OwnN w B v xs) (hN:∀ b,N b->b<B):∃ A c,v=.slice A xs.length c/\FarN w N A c xs:=by obtain⟨A,c,hv,h1,h2,h3,h4⟩:=Q1r h;exact⟨A,c,hv,h3,⟨h1,h2⟩,fun a h0 ha hn=>by have:=h4 a ha; have:=hN _ hn; omega⟩
theorem Q0K {P:Program} (t e:TypeId) (a:Option zA) (n c:Nat) (h:P.underlying t=some (.slice e)) (W:zB) :
 (binOp .eql t (.slice a n c) (.slice none 0 0)).run P W=.ok (.bool a.isNone) W:=by
 simp only [binOp];simp [Op.equal,Op.maxDepth,Lib.run_equalIn_slice_nil W 9999 t e a n c 0 0 h]
theorem Q1t (A:Option zA) (n c:Nat) (xs:List UInt8) (w:zB) (B:Nat) (h:Q04 w B 1 A n (xs.map vb)) (hB:B<=w.heap.size) (hn:n<=1000000) :
 zG zH 48 #[.slice A n c] w fun e w'=>∃ v,e=.returned v/\OwnB w' w.heap.size v xs/\zD w.heap.size w w':=by
 have hxn:xs.length=n:=by have:=h.1; simpa using this
 obtain⟨i0,hi0,hz0,hz1,hz2⟩:=info_parts Q1f;cases A with
 | none =>
  have hn0:n=0:=by
   rcases zF n with e | e
   ·exact e
   obtain⟨ad,he,_⟩:=h.2 e; cases he
  subst hn0;have hx:xs=[]:=List.eq_nil_of_length_eq_zero hxn;subst hx;have hnl:=Q0K (P:=zH) 28 5 none 0 c Tryz.underlying28;go_enter Tryz.func48,Tryz.ntmps48
  go_wp2
  go_ret
  exact⟨_,rfl,OwnB.nil _ _,zK _ _⟩
 | some ad =>
  have hw0:=World.ownsRow_lit (base:=w.heap.size) (e:=5) (size:=1) w #[] 0 (zI _) (by omega) rfl;have HW0:=sH hw0;have HR:=sH (h.alloc hB (.cells #[] 5));have HXN:=sH hxn;clear h hw0 hxn;have hnl:=Q0K (P:=zH) 28 5 (some ad) n c Tryz.underlying28;go_enter Tryz.func48,Tryz.ntmps48
  go_wp2_with (at_builtin; go_must (refine Q06 _ rfl (.tmp 5) (.tmp 6) 28 rfl w.heap.size 5 i0 _ 1 1 Tryz.underlying28 hi0 hz0 hz1 hz2 rfl (by omega) _ 0 _ rfl HW0.out B (some ad) n c (xs.map vb) rfl HR.out (by intro u hu; first | rfl | (obtain⟨y,_,rfl⟩:=List.mem_map.1 hu; rfl)) (by unfold maxLen; omega) (by omega) (by simp) ?_))
  intro v2 w2 hown2 hg2 hor2;have hb2:zD w.heap.size w w2:=Q0p ((zK _ _).alloc (zI _) _) (by simp) hg2 (fun b hb=>by
   have:b=w.heap.size:=by simpa [Value.ownBlock] using hb.symm
   omega)
  have hob:OwnB w2 w.heap.size v2 xs:=by unfold OwnB;rw [HXN.out];simpa using hown2
  have HOB:=sH hob;have HB2:=sH hb2;clear hown2 hg2 hor2 hb2 hob;go_wp2_with fail
  go_ret
  exact⟨_,rfl,HOB.out,HB2.out⟩
theorem Q8v (A:Option zA) (n c:Nat) (xs:List Int) (w:zB) (B:Nat) (h:Q04 w B 1 A n (xs.map vn)) (hB:B<=w.heap.size) (hn:n<=1000000) :
 zG zH 58 #[.slice A n c] w fun e w'=>∃ v,e=.returned v/\OwnN w' w.heap.size v xs/\zD w.heap.size w w':=by
 have hxn:xs.length=n:=by have:=h.1; simpa using this
 obtain⟨i0,hi0,hz0,hz1,hz2⟩:=info_parts Q9e;cases A with
 | none =>
  have hn0:n=0:=by
   rcases zF n with e | e
   ·exact e
   obtain⟨ad,he,_⟩:=h.2 e; cases he
  subst hn0;have hx:xs=[]:=List.eq_nil_of_length_eq_zero hxn;subst hx;have hnl:=Q0K (P:=zH) 29 3 none 0 c Tryz.underlying29;go_enter Tryz.func58,Tryz.ntmps58
  go_wp2
  go_ret
  exact⟨_,rfl,⟨by simp,.inl ⟨rfl,by simp⟩⟩,zK _ _⟩
 | some ad =>
  have hw0:=World.ownsRow_lit (base:=w.heap.size) (e:=3) (size:=1) w #[] 0 (zI _) (by omega) rfl;have HW0:=sH hw0;have HR:=sH (h.alloc hB (.cells #[] 3));have HXN:=sH hxn;clear h hw0 hxn;have hnl:=Q0K (P:=zH) 29 3 (some ad) n c Tryz.underlying29;go_enter Tryz.func58,Tryz.ntmps58
  go_wp2_with (at_builtin; go_must (refine Q06 _ rfl (.tmp 5) (.tmp 6) 29 rfl w.heap.size 3 i0 _ 1 8 Tryz.underlying29 hi0 hz0 hz1 hz2 rfl (by omega) _ 0 _ rfl HW0.out B (some ad) n c (xs.map vn) rfl HR.out (by intro u hu; first | rfl | (obtain⟨y,_,rfl⟩:=List.mem_map.1 hu; rfl)) (by unfold maxLen; omega) (by omega) (by simp) ?_))
  intro v2 w2 hown2 hg2 hor2;have hb2:zD w.heap.size w w2:=Q0p ((zK _ _).alloc (zI _) _) (by simp) hg2 (fun b hb=>by
   have:b=w.heap.size:=by simpa [Value.ownBlock] using hb.symm
   omega)
  have hob:OwnN w2 w.heap.size v2 xs:=by unfold OwnN;rw [HXN.out];simpa using hown2
  have HOB:=sH hob;have HB2:=sH hb2;clear hown2 hg2 hor2 hb2 hob;go_wp2_with fail
  go_ret
  exact⟨_,rfl,HOB.out,HB2.out⟩
theorem Q3l (n:Nat) (w:zB) (hn:n<=maxN) :
 zG zH 79 #[.int .i64 (n:Int)] w fun e w'=>∃ v,e=.returned v/\OwnB w' w.heap.size v (numB n)/\zD w.heap.size w w':=by
 have HN:=sH (Q5z n hn w);go_enter Tryz.func79,Tryz.ntmps79
 go_wp2_with fail
 refine HN.out.mono ?_;rintro _ w2 ⟨v,rfl,ho,hb⟩;have HO:=sH ho;have HB:=sH hb;clear ho hb;go_wp2_with fail
 go_ret
 exact⟨_,rfl,HO.out,HB.out⟩
structure VLoc where
 g:Nat
 T:Q0O
 k:Book
def VLoc.has (V:VLoc) (b:Nat):Prop:=b=V.g\/V.T.mut b\/V.k.has b
structure VSl where
 bA:Nat->Option zA
 bC:Nat->Nat
 lA:Nat->Option zA
 lC:Nat->Nat
 sA:Option zA
 sC:Nat
def vF (t:Option zA) (m:VM) (S:VSl) (j:Nat):zC :=
 if j=0 then .pointer t else if j=1 then .int .i64 (m.group:Int) else if j=2 then .int .i64 (m.epoch:Int)
 else if j<11 then .slice (S.bA (j - 3)) (Q0l m (j - 3)).length (S.bC (j - 3))
 else if j<19 then(if j % 2=1 then .int .i64 ((Q0C m ((j - 11) / 2)).1:Int) else .slice (S.lA ((j - 11) / 2)) (Q0C m ((j - 11) / 2)).2.length (S.lC ((j - 11) / 2)))
 else .slice S.sA m.shut.length S.sC
def vC (t:Option zA) (m:VM) (S:VSl):Array zC:=rng 20 (vF t m S)
theorem Q0H (t:Option zA) (m:VM) (S:VSl):(vC t m S).size=20:=Q0n _ _
theorem Q4D (t:Option zA) (m:VM) (S:VSl) (j:Nat) (h:j<20):(vC t m S)[j]?=some (vF t m S j):=Q0N _ _ _ h
theorem Q1l (t:Option zA) (m:VM) (S:VSl) (i:Nat) (h:i<8):(vC t m S)[3+i]?=some (.slice (S.bA i) (Q0l m i).length (S.bC i)):=by rw [Q4D _ _ _ _ (by omega)];unfold vF;rw [if_neg (by omega),if_neg (by omega),if_neg (by omega),if_pos (by omega),show 3+i - 3=i by omega]
theorem Q29 (t:Option zA) (m:VM) (S:VSl) (i:Nat) (h:i<4):(vC t m S)[11+i*2]?=some (.int .i64 ((Q0C m i).1:Int)):=by rw [Q4D _ _ _ _ (by omega)];unfold vF;rw [if_neg (by omega),if_neg (by omega),if_neg (by omega),if_neg (by omega),if_pos (by omega),if_pos (by omega),show (11+i*2 - 11) / 2=i by omega]
theorem Q2y (t:Option zA) (m:VM) (S:VSl) (i:Nat) (h:i<4):(vC t m S)[11+i*2+1]?=some (.slice (S.lA i) (Q0C m i).2.length (S.lC i)):=by rw [Q4D _ _ _ _ (by omega)];unfold vF;rw [if_neg (by omega),if_neg (by omega),if_neg (by omega),if_neg (by omega),if_pos (by omega),if_neg (by omega),show (11+i*2+1 - 11) / 2=i by omega]
theorem Q4o (t:Option zA) (m:VM) (S:VSl):(vC t m S)[19]?=some (.slice S.sA m.shut.length S.sC):=by rw [Q4D _ _ _ _ (by omega)]; rfl
theorem Q2H (t:Option zA) (m:VM) (S:VSl):(vC t m S)[0]?=some (.pointer t):=by rw [Q4D _ _ _ _ (by omega)]; rfl
theorem Q2O (t:Option zA) (m:VM) (S:VSl):(vC t m S)[1]?=some (.int .i64 (m.group:Int)):=by rw [Q4D _ _ _ _ (by omega)]; rfl
theorem Q3p (t:Option zA) (m:VM) (S:VSl):(vC t m S)[2]?=some (.int .i64 (m.epoch:Int)):=by rw [Q4D _ _ _ _ (by omega)]; rfl
structure VDat (w:zB) (g:Nat) (t:Option zA) (N:Nat->Prop) (m:VM) (S:VSl):Prop where
 blk:Blk w g 64 (vC t m S)
 block:∀ i,i<8->Far w N (S.bA i) (S.bC i) (Q0l m i)
 last:∀ i,i<4->Far w N (S.lA i) (S.lC i) (Q0C m i).2
 shut:FarN w N S.sA S.sC m.shut
 ok:VOk m
theorem VDat.only {w w':zB} {g:Nat} {t:Option zA} {N M:Nat->Prop} {m:VM} {S:VSl} (h:VDat w g t N m S) (ho:Only M w w') (hM:∀ b,M b->N b) (hg:¬ M g):VDat w' g t N m S :=⟨ho.blk h.blk hg,fun i hi=>(h.block i hi).only ho hM,fun i hi=>(h.last i hi).only ho hM,h.shut.only ho hM,h.ok⟩
theorem VDat.below {w w':zB} {g:Nat} {t:Option zA} {N:Nat->Prop} {m:VM} {S:VSl} (h:VDat w g t N m S) (hb:zD w.heap.size w w'):VDat w' g t N m S :=h.only (M:=fun _=>False) (Only.of_below hb) (fun _ h=>h.elim) (fun h=>h)
theorem VDat.mono {w:zB} {g:Nat} {t:Option zA} {N N':Nat->Prop} {m:VM} {S:VSl} (h:VDat w g t N m S) (hN:∀ b,b<w.heap.size->N' b->N b):VDat w g t N' m S :=⟨h.blk,fun i hi=>(h.block i hi).mono hN,fun i hi=>(h.last i hi).mono hN,h.shut.mono hN,h.ok⟩
structure VAt (w:zB) (V:VLoc) (N:Nat->Prop) (m:VM):Prop where
 dat:∃ S,VDat w V.g (some ⟨V.T.t,0,none⟩) N m S
 tree:Q1a w V.T V.k (Q01 m)
 far:¬ V.T.has V.g/\¬ V.k.has V.g
 all:∀ b,V.has b->N b
theorem Q1C (w:zB) (g t:Nat) (h:w.cell? ⟨g,0,none⟩=some (.pointer (some ⟨t,0,none⟩))) :
 zG zH 43 #[.pointer (some ⟨g,0,none⟩)] w fun e w'=>e=.returned (.bool false)/\w=w':=by
 go_enter Tryz.func43,Tryz.ntmps43
 go_wp2
 go_ret
 exact⟨rfl,rfl⟩
def Q4U (S:VSl) (m:VM) (j:Nat):Array zC:=#[.int .i64 ((Q0C m j).1:Int),.slice (S.lA j) (Q0C m j).2.length (S.lC j)]
theorem VDat.cBlock {w:zB} {g:Nat} {t:Option zA} {N:Nat->Prop} {m:VM} {S:VSl} (h:VDat w g t N m S) (i:Nat) (hi:i<8):w.cell? ⟨g,3+i,none⟩=some (.slice (S.bA i) (Q0l m i).length (S.bC i)):=(h.blk.cell _).trans (Q1l _ _ _ i hi)
theorem VDat.cShut {w:zB} {g:Nat} {t:Option zA} {N:Nat->Prop} {m:VM} {S:VSl} (h:VDat w g t N m S):w.cell? ⟨g,19,none⟩=some (.slice S.sA m.shut.length S.sC):=(h.blk.cell _).trans (Q4o _ _ _)
theorem VDat.cGroup {w:zB} {g:Nat} {t:Option zA} {N:Nat->Prop} {m:VM} {S:VSl} (h:VDat w g t N m S):w.cell? ⟨g,1,none⟩=some (.int .i64 (m.group:Int)):=(h.blk.cell _).trans (Q2O _ _ _)
theorem VDat.cEpoch {w:zB} {g:Nat} {t:Option zA} {N:Nat->Prop} {m:VM} {S:VSl} (h:VDat w g t N m S):w.cell? ⟨g,2,none⟩=some (.int .i64 (m.epoch:Int)):=(h.blk.cell _).trans (Q3p _ _ _)
theorem VDat.cTree {w:zB} {g:Nat} {t:Option zA} {N:Nat->Prop} {m:VM} {S:VSl} (h:VDat w g t N m S):w.cell? ⟨g,0,none⟩=some (.pointer t):=(h.blk.cell _).trans (Q2H _ _ _)
theorem VDat.cLast {w:zB} {g:Nat} {t:Option zA} {N:Nat->Prop} {m:VM} {S:VSl} (h:VDat w g t N m S) (j:Nat) (hj:j<4):∀ i,i<2->(vC t m S)[11+j*2+i]?=(Q4U S m j)[i]?:=fun i hi=>by
 obtain rfl | rfl:i=0\/i=1:=by omega
 ·exact Q29 _ _ _ j hj
 exact Q2y _ _ _ j hj
theorem Q83 (w:zB) (g b2 b3 i:Nat) (t:Option zA) (N:Nat->Prop) (m:VM) (S:VSl) (h:VDat w g t N m S) (hi:i<8) (h2:w.cell? ⟨b2,0,none⟩=some (.pointer (some ⟨g,0,none⟩))) (h3:w.cell? ⟨b3,0,none⟩=some (.int .i64 (i:Int))) :
 zG zH 80 #[.pointer (some ⟨b2,0,none⟩),.pointer (some ⟨b3,0,none⟩)] w fun e w'=>∃ v,e=.returned v/\OwnB w' w.heap.size v (Q0l m i)/\zD w.heap.size w w':=by
 have l2:=zN _ _ h2;have l3:=zN _ _ h3;have hbl:=h.ok.blk hi;have hiI:(i:Int)<8:=by omega
 have lg:=h.blk.lt;have cb:=h.cBlock i hi;have hf:=h.block i hi;have H2:=sH (fun(W:zB) (hb:zD w.heap.size w W)=>(hb.cell l2).trans h2);have H3:=sH (fun(W:zB) (hb:zD w.heap.size w W)=>(hb.cell l3).trans h3);have HB:=sH (fun(W:zB) (hb:zD w.heap.size w W)=>(hb.cell (p:=⟨g,3+i,none⟩) lg).trans cb);have HC:=sH (fun(W:zB) (hb:zD w.heap.size w W)=>Q1t (S.bA i) (Q0l m i).length (S.bC i) (Q0l m i) W W.heap.size (hf.below hb).rd (zI _) (by omega));clear h h2 h3 cb hf;go_enter Tryz.func80,Tryz.ntmps80
 go_upto_region 1 with fail
 refine Q0r 8 11 (fun jx W v=>match jx with | 0=>v=.pointer (some ⟨g,0,none⟩) | 1=>v=.int .i64 (i:Int) | 2=>v=.int .i64 (i:Int) | 3=>v=.pointer (some ⟨g,0,none⟩) | 4=>v=.pointer (some ⟨g,3,none⟩) | 5=>v=.pointer (some ⟨g,3+i,none⟩) | 6=>v=.slice (S.bA i) (Q0l m i).length (S.bC i) | _=>OwnB W w.heap.size v (Q0l m i)) [3,4,5,6,7,8,9,10] (by kernel_rfl) (by kernel_rfl) (by kernel_rfl) (by simp) (by kernel_rfl) (fun jx=>?last) ?heads ?_
 case last =>
  match jx with
  | 0 | 1 | 2 | 3 | 4 | 5 | 6=>exact Q1B.pure _
  | jx+7=>exact Q1F _ _
 case heads =>
  simp only [tT];refine⟨?_,?_,?_,?_,?_,?_,?_,?_,trivial⟩;all_goals intro a W hb hkp hd
  ·have e0:(_:zC)=.pointer (some ⟨b2,0,none⟩):=sK hkp 0;have cc:=H2.out W hb;exact sV
  ·have e0:(_:zC)=.pointer (some ⟨b3,0,none⟩):=sK hkp 1;have cc:=H3.out W hb;exact sV
  ·have e0:=sJ (hd 1) 4;exact Q1b rfl (.int .i64 (i:Int)) (by go_simp; rw [IntKind.wrap_i64]; omega) rfl
  ·have e0:=sJ (hd 0) 3;exact sV
  ·have e0:=sJ (hd 3) 6;exact sV
  ·have e0:=sJ (hd 4) 7;have e1:=sJ (hd 2) 5;exact sV
  ·have e0:=sJ (hd 5) 8;have cc:=HB.out W hb;exact sV
  have e0:=sJ (hd 6) 9;refine Q0z rfl 48 #[.slice (S.bA i) (Q0l m i).length (S.bC i)] (by go_simp) ((HC.out W hb).mono ?_);rintro e w' ⟨v,rfl,ho,hb'⟩;exact⟨v,rfl,hb',ho.more hb.size⟩
 intro f W hb hd;have h10:OwnB W w.heap.size (f 10) (Q0l m i):=hd 7 (by omega) _ 10 rfl rfl;have HO:=sH h10;have HBW:=sH hb;simp only [Q0R,tU];clear hd h10 hb;try simp only [zP,sA]
 go_wp2_with fail
 go_ret
 exact⟨_,rfl,HO.out,HBW.out⟩
theorem Q88 (w:zB) (g b2 b3 j:Nat) (t:Option zA) (N:Nat->Prop) (m:VM) (S:VSl) (h:VDat w g t N m S) (hj:j<4) (h2:w.cell? ⟨b2,0,none⟩=some (.pointer (some ⟨g,0,none⟩))) (h3:w.cell? ⟨b3,0,none⟩=some (.int .i64 ((8+j:Nat):Int))) :
 zG zH 81 #[.pointer (some ⟨b2,0,none⟩),.pointer (some ⟨b3,0,none⟩)] w fun e w'=>∃ v,e=.returned v/\OwnB w' w.heap.size v (Q87 (Q0C m j))/\zD w.heap.size w w':=by
 have l2:=zN _ _ h2;have l3:=zN _ _ h3;have hls:=h.ok.lst hj;have hjI:(j:Int)<4:=by omega
 have hjI8:(8:Int)+(j:Int) - 8=(j:Int):=by omega
 have hll:(Q0C m j).2.length<=16:=by
  rcases hls.2 with e | e
  ·rw [e]; simp
  rw [e.1]; omega
 have hst:=hls.1;have lg:=h.blk.lt;have hf:=h.last j hj;have hlc:=h.cLast j hj;have hsz:(Q4U S m j).size=2:=rfl;have hon:(Q4U S m j).all (·.oneCell')=true:=by simp [Q4U,Value.oneCell']
 have e0:Q4U S m j=#[.int .i64 ((Q0C m j).1:Int),.slice (S.lA j) (Q0C m j).2.length (S.lC j)]:=rfl;generalize Q0C m j=x at hst hll hf e0 ⊢;obtain⟨st,dt⟩:=x;simp only at hst hll hf e0;generalize Q4U S m j=D at hlc hsz hon e0;have H2:=sH (fun(W:zB) (hb:zD w.heap.size w W)=>(hb.cell l2).trans h2);have H3:=sH (fun(W:zB) (hb:zD w.heap.size w W)=>(hb.cell l3).trans h3);have HB:=sH (fun(W:zB) (hb:zD w.heap.size w W)=>h.blk.below' hb);have HF:=sH (fun(W:zB) (hb:zD w.heap.size w W)=>hf.below hb);have HLC:=sH hlc;have HSZ:=sH hsz;have HON:=sH hon;have HE:=sH e0;clear h h2 h3 hf hlc hls hsz hon e0;go_enter Tryz.func81,Tryz.ntmps81
 go_upto_region 1 with fail
 refine Q0r 8 25 (fun jx W v=>match jx with | 0=>v=.pointer (some ⟨g,0,none⟩) | 1=>v=.int .i64 ((8+j:Nat):Int) | 2=>v=.int .i64 (j:Int) | 3=>v=.pointer (some ⟨g,0,none⟩) | 4=>v=.pointer (some ⟨g,11,none⟩) | 5=>v=.pointer (some ⟨g,11+j*2,none⟩) | 6=>v=.agg D | _=>∃ g3,v=.pointer (some ⟨g3,0,none⟩)/\w.heap.size<=g3/\Blk W g3 61 #[.int .i64 0,.slice none 0 0]) [6,7,8,9,10,11,12,3] (by kernel_rfl) (by kernel_rfl) (by kernel_rfl) (by simp) (by kernel_rfl) (fun jx=>?last) ?heads ?_
 case last =>
  match jx with
  | 0 | 1 | 2 | 3 | 4 | 5 | 6=>exact Q1B.pure _
  | jx+7=>exact fun W W' v ⟨g3,h1,h2,h3⟩ hb=>⟨g3,h1,h2,h3.below' hb⟩
 case heads =>
  simp only [tT];refine⟨?_,?_,?_,?_,?_,?_,?_,?_,trivial⟩;all_goals intro a W hb hkp hd
  ·have e0:(_:zC)=.pointer (some ⟨b2,0,none⟩):=sK hkp 0;have cc:=H2.out W hb;exact sV
  ·have e0:(_:zC)=.pointer (some ⟨b3,0,none⟩):=sK hkp 1;have cc:=H3.out W hb;exact sV
  ·have e0:=sJ (hd 1) 7;exact Q1b rfl (.int .i64 (j:Int)) (by go_simp; rw [IntKind.wrap_i64]; omega) rfl
  ·have e0:=sJ (hd 0) 6;exact sV
  ·have e0:=sJ (hd 3) 9;exact sV
  ·have e0:=sJ (hd 4) 10;have e1:=sJ (hd 2) 8;exact sV
  ·have e0:a.eval (.tmp 11)=.pointer (some ⟨g,11+j*2,none⟩):=(hd 5 (by kernel_rfl)) _ 11 rfl rfl;exact Q1b rfl (.agg D) (Q0s 61 (.tmp 11) rfl g (11+j*2) 2 e0 64 _ D _ (HB.out W hb) Tryz.underlying61 rfl rfl HSZ.out HLC.out) rfl
  refine Q2z rfl (.pointer (some ⟨W.heap.size,0,none⟩)) (W.alloc (.cells #[.int .i64 0,.slice none 0 0] 61)) (by go_simp) ((zK _ _).alloc (zI _) _) ⟨W.heap.size,rfl,hb.size,Blk.new W _ _⟩
 intro f W hb hd;have h12:f 12=.agg D:=hd 6 (by omega) _ 12 rfl rfl;obtain⟨g3,h3,hg3,hB3⟩:∃ g3,f 3=.pointer (some ⟨g3,0,none⟩)/\w.heap.size<=g3/\Blk W g3 61 #[.int .i64 0,.slice none 0 0]:=hd 7 (by omega) _ 3 rfl rfl;have HB3:=sH hB3;have HBW:=sH hb;have hgl:=hB3.lt;simp only [Q0R,tU,h12,h3];clear hd hB3 hb;try simp only [zP,sA]
 go_upto_region 2 with(refine Q00 (o:=⟨none,_,_,_,_,_⟩) rfl 61 (.tmp 3) (.tmp 12) rfl g3 0 D rfl rfl 61 _ HB3.out (by rw [HSZ.out]; rfl) (by rw [HSZ.out]; simp) HON.out ?_; intro w5 hT5 hD5; rw [Q0h _ _ (by rw [HSZ.out]; rfl)] at hD5)
 have hb5:zD w.heap.size w w5:=hT5.below HBW.out hg3;rw [HE.out] at hD5;have c0:w5.cell? ⟨g3,0,none⟩=some (.int .i64 (st:Int)):=(hD5.cell 0).trans rfl;have c1:w5.cell? ⟨g3,1,none⟩=some (.slice (S.lA j) dt.length (S.lC j)):=(hD5.cell 1).trans rfl;have hF5:=HF.out w5 hb5;have HB5:=sH hb5;have HD5:=sH hD5;have hs5:=hb5.size;have HS:=sH (Q9z (S.lA j) dt.length (S.lC j) dt w5 w5.heap.size hF5.rd (zI _) (by omega));clear hT5 hD5 hF5 hb5 HB3 HBW HF HB;go_wp2_with fail
 refine HS.out.mono ?_;rintro _ w6 ⟨v,rfl,ho6,hb6⟩;obtain⟨A6,k6,rfl,q1,q2,r6,q3⟩:=Q03 ho6;have HB6:=sH (HB5.out.trans (hb6.mono hs5));have HR6:=sH r6;have hs6:=hb6.size;have c06:w6.cell? ⟨g3,0,none⟩=some (.int .i64 (st:Int)):=((HD5.out.below' hb6).cell 0).trans rfl;have HN:=sH (Q3l st w6 hst);clear ho6 hb6 r6 c0 c1 HS HD5;go_wp2_with fail
 refine HN.out.mono ?_;rintro _ w7 ⟨v,rfl,ho7,hb7⟩;obtain⟨A7,k7,rfl,p1,p2,r7,p3⟩:=Q03 ho7;have r6':=(HR6.out.below hb7).more hb7.size;have hrow:=Q6k w7 28 [(A7,(numB st).length,k7,numB st),(A6,(strB dt).length,k6,strB dt)] (by
  intro p hp;simp only [List.mem_cons,List.not_mem_nil,or_false] at hp;rcases hp with rfl | rfl
  ·exact r7
  exact r6')
 simp only [List.map_cons,List.map_nil,List.length_cons,List.length_nil] at hrow;have HROW:=sH hrow;have HB7:=sH (HB6.out.trans (hb7.mono (by omega)));have hs7:=hb7.size;clear ho7 hb7 r7 r6' hrow c06 HN;go_wp2_with fail
 refine(Q68 _ 2 2 _ _ _ HROW.out (by simp) (by omega) ?_).mono ?_
 ·have h1:=(Q0W hst).2;have h2:=(Q0W (n:=dt.length) (by unfold maxN; omega)).2;unfold strB;simp only [List.flatten_cons,List.flatten_nil,zJ,List.length_nil];omega
 rintro _ w8 ⟨v,rfl,ho8,hb8⟩;have HB8:=sH ((HB7.out.trans ((Q0a w7 (.cells #[.slice A7 (numB st).length k7,.slice A6 (strB dt).length k6] 28)).mono (by omega))).trans (hb8.mono (by simp; omega)));have HO8:=sH (show OwnB w8 w.heap.size v (Q87 (st,dt)) by have:=ho8.more (B':=w.heap.size) (by simp; omega);unfold Q87;simpa only [List.flatten_cons,List.flatten_nil,List.append_nil] using this)
 clear ho8 hb8;go_wp2_with fail
 go_ret
 exact⟨_,rfl,HO8.out,HB8.out⟩
theorem Q3v.more {w:zB} {B B' n:Nat} {A:Option zA} {xss:LL} (h:Q3v w B A n xss) (hB:B<=B'):Q3v w B' A n xss :=⟨h.1,fun h0=>by obtain⟨ad,h1,h2,h3⟩:=h.2 h0;exact⟨ad,h1,by omega,fun k x hx=>by obtain⟨Ak,mk,ck,q1,q2⟩:=h3 k x hx;exact⟨Ak,mk,ck,q1,q2.more hB⟩⟩⟩
theorem Q8k (n:Nat) (xss:LL):Q1B fun W v=>∃ g',v=.slice (some ⟨g',0,none⟩) n n/\Q3v W W.heap.size (some ⟨g',0,none⟩) n xss:=fun W W' v ⟨g',h1,h2⟩ hb=>⟨g',h1,(h2.below hb).more hb.size⟩
theorem Q81 (w:zB) (g b2:Nat) (t:Option zA) (N:Nat->Prop) (m:VM) (S:VSl) (h:VDat w g t N m S) (h2:w.cell? ⟨b2,0,none⟩=some (.pointer (some ⟨g,0,none⟩))) :
 zG zH 77 #[.pointer (some ⟨b2,0,none⟩)] w fun e w'=>∃ v,e=.returned v/\OwnB w' w.heap.size v (Q9l m)/\zD w.heap.size w w':=by
 have l2:=zN _ _ h2;have lg:=h.blk.lt;have hgn:m.group<=maxN:=by have:=h.ok.group; unfold maxN; omega
 have hen:m.epoch<=maxN:=by have:=h.ok.epoch; unfold maxN; omega
 have hsn:=h.ok.sealNum;have hln:m.shut.length<=maxN:=by unfold maxN; omega
 have H2:=sH (fun(W:zB) (hb:zD w.heap.size w W)=>(hb.cell l2).trans h2);have HD:=sH (fun(W:zB) (hb:zD w.heap.size w W)=>h.below hb);have HS:=sH hsn;obtain⟨i0,hi0,hz0,hz1,hz2⟩:=info_parts Q1f;have hl7:=hsn.2;have hg8:=(Q0W hgn).2;have he8:=(Q0W hen).2;have hl8:=(Q0W hln).2;clear h h2 hsn;go_enter Tryz.func77,Tryz.ntmps77
 go_upto_region 1 with fail
 refine Q0r 18 38 (fun jx W v=>match jx with | 0=>v=.pointer (some ⟨g,0,none⟩) | 1=>v=.pointer (some ⟨g,0,none⟩) | 2=>v=.pointer (some ⟨g,1,none⟩) | 3=>v=.int .i64 (m.group:Int) | 4=>OwnB W w.heap.size v (numB m.group) | 5=>v=.pointer (some ⟨g,0,none⟩) | 6=>v=.pointer (some ⟨g,0,none⟩) | 7=>v=.pointer (some ⟨g,2,none⟩) | 8=>v=.int .i64 (m.epoch:Int) | 9=>OwnB W w.heap.size v (numB m.epoch) | 10=>v=.pointer (some ⟨g,0,none⟩) | 11=>v=.pointer (some ⟨g,0,none⟩) | 12=>v=.pointer (some ⟨g,19,none⟩) | 13=>v=.slice S.sA m.shut.length S.sC | 14=>v=.int .i64 (m.shut.length:Int) | 15=>OwnB W w.heap.size v (numB m.shut.length) | 16=>∃ g',v=.slice (some ⟨g',0,none⟩) 3 3/\Q3v W W.heap.size (some ⟨g',0,none⟩) 3 [numB m.group,numB m.epoch,numB m.shut.length] | _=>OwnB W w.heap.size v ([numB m.group,numB m.epoch,numB m.shut.length].flatten)) [5,6,7,8,9,10,11,12,13,14,15,16,17,18,19,20,21,22] (by kernel_rfl) (by kernel_rfl) (by kernel_rfl) (by simp) (by kernel_rfl) (fun jx=>?last) ?heads ?_
 case last =>
  match jx with
  | 0 | 1 | 2 | 3 | 5 | 6 | 7 | 8 | 10 | 11 | 12 | 13 | 14=>exact Q1B.pure _
  | 4=>exact Q1F _ _
  | 9=>exact Q1F _ _
  | 15=>exact Q1F _ _
  | 16=>exact Q8k _ _
  | jx+17=>exact Q1F _ _
 case heads =>
  simp only [tT];and_intros;rotate_right;trivial;all_goals intro a W hb hkp hd
  ·have e0:(_:zC)=.pointer (some ⟨b2,0,none⟩):=sK hkp 0;have cc:=H2.out W hb;exact sV
  ·have e0:=sJ (hd 0) 5;exact sV
  ·have e0:=sJ (hd 1) 6;exact sV
  ·have e0:=sJ (hd 2) 7;have cc:=(HD.out W hb).cGroup;exact sV
  ·have e0:=sJ (hd 3) 8;refine Q0z rfl 79 #[.int .i64 (m.group:Int)] (by go_simp) ((Q3l (m.group) W (by assumption)).mono ?_);rintro e w' ⟨v,rfl,ho,hb'⟩;exact⟨v,rfl,hb',ho.more hb.size⟩
  ·have e0:(_:zC)=.pointer (some ⟨b2,0,none⟩):=sK hkp 0;have cc:=H2.out W hb;exact sV
  ·have e0:=sJ (hd 5) 10;exact sV
  ·have e0:=sJ (hd 6) 11;exact sV
  ·have e0:=sJ (hd 7) 12;have cc:=(HD.out W hb).cEpoch;exact sV
  ·have e0:=sJ (hd 8) 13;refine Q0z rfl 79 #[.int .i64 (m.epoch:Int)] (by go_simp) ((Q3l (m.epoch) W (by assumption)).mono ?_);rintro e w' ⟨v,rfl,ho,hb'⟩;exact⟨v,rfl,hb',ho.more hb.size⟩
  ·have e0:(_:zC)=.pointer (some ⟨b2,0,none⟩):=sK hkp 0;have cc:=H2.out W hb;exact sV
  ·have e0:=sJ (hd 10) 15;exact sV
  ·have e0:=sJ (hd 11) 16;exact sV
  ·have e0:=sJ (hd 12) 17;have cc:=(HD.out W hb).cShut;exact sV
  ·have e0:=sJ (hd 13) 18;exact sV
  ·have e0:=sJ (hd 14) 19;refine Q0z rfl 79 #[.int .i64 (m.shut.length:Int)] (by go_simp) ((Q3l (m.shut.length) W (by assumption)).mono ?_);rintro e w' ⟨v,rfl,ho,hb'⟩;exact⟨v,rfl,hb',ho.more hb.size⟩
  ·have o1:OwnB W w.heap.size (a.tmps[9]?.getD undef) (numB m.group):=(sG (hd 4) 9:);have o2:OwnB W w.heap.size (a.tmps[14]?.getD undef) (numB m.epoch):=(sG (hd 9) 14:);have o3:OwnB W w.heap.size (a.tmps[20]?.getD undef) (numB m.shut.length):=(sG (hd 15) 20:);obtain⟨A1,k1,e1,_,_,r1,_⟩:=Q03 o1;obtain⟨A2,k2,e2,_,_,r2,_⟩:=Q03 o2;obtain⟨A3,k3,e3,_,_,r3,_⟩:=Q03 o3;have hrow:=Q6k W 28 [(A1,(numB m.group).length,k1,numB m.group),(A2,(numB m.epoch).length,k2,numB m.epoch),(A3,(numB m.shut.length).length,k3,numB m.shut.length)] (by
    intro p hp;simp only [List.mem_cons,List.not_mem_nil,or_false] at hp;rcases hp with rfl | rfl | rfl
    ·exact r1
    ·exact r2
    exact r3)
   simp only [List.map_cons,List.map_nil,List.length_cons,List.length_nil] at hrow;clear o1 o2 o3 r1 r2 r3;refine Q2z rfl (.slice (some ⟨W.heap.size,0,none⟩) 3 3) (W.alloc (.cells #[.slice A1 (numB m.group).length k1,.slice A2 (numB m.epoch).length k2,.slice A3 (numB m.shut.length).length k3] 28)) (by go_simp) ((zK _ _).alloc (zI _) _) ⟨W.heap.size,rfl,?_⟩;have hz:(W.alloc (.cells #[.slice A1 (numB m.group).length k1,.slice A2 (numB m.epoch).length k2,.slice A3 (numB m.shut.length).length k3] 28)).heap.size=W.heap.size+1:=by simp
   rw [hz];exact hrow
  obtain⟨g',e0,hr⟩:∃ g',a.tmps[21]?.getD undef=.slice (some ⟨g',0,none⟩) 3 3/\Q3v W W.heap.size (some ⟨g',0,none⟩) 3 [numB m.group,numB m.epoch,numB m.shut.length]:=(sG (hd 16) 21:);refine Q0z rfl 78 #[.slice (some ⟨g',0,none⟩) 3 3] (by go_simp) ((Q68 _ 3 3 _ W _ hr (zI _) (by omega) (by simp only [List.flatten_cons,List.flatten_nil,zJ,List.length_nil]; omega)).mono ?_);rintro e w' ⟨v,rfl,ho,hb'⟩;exact⟨v,rfl,hb',ho.more hb.size⟩
 intro f W hb hd;have h22:OwnB W w.heap.size (f 22) ([numB m.group,numB m.epoch,numB m.shut.length].flatten):=hd 17 (by omega) _ 22 rfl rfl;have HO:=sH (show OwnB W w.heap.size (f 22) (numB m.group++numB m.epoch++numB m.shut.length++Q48 (m.shut.take 0)) by simpa [Q48] using h22);have HBW:=sH hb;have hz:=hb.size;have c2:=H2.out W hb;have c19:=(HD.out W hb).cShut;have HF:=sH (fun(W':zB) (hb':zD w.heap.size w W')=>(HD.out W' hb').shut);simp only [Q0R,tU];clear hd h22 hb HD;try simp only [zP,sA]
 go_wp2_with fail
 obtain⟨sA,hsA⟩:∃ x,x=S.sA:=⟨_,rfl⟩;rw [<- hsA] at HF ⊢;obtain⟨sl,hsl⟩:∃ sl,sl=m.shut:=⟨_,rfl⟩;obtain⟨pre,hpre⟩:∃ p,p=numB m.group++numB m.epoch++numB m.shut.length:=⟨_,rfl⟩;have hpl:pre.length<=24:=by rw [hpre]; simp only [zJ]; omega
 rw [<- hpre,<- hsl] at HO;rw [<- hsl] at HF HS hl7 ⊢;have HSL:=sH hsl;have HPRE:=sH hpre;clear hsl hpre c2 c19 hsA;go_loopw [2,28] (fun ov iv wr=>∃ i:Nat,i<=sl.length/\iv=.int .i64 i/\OwnB wr w.heap.size ov (pre++Q48 (sl.take i))/\zD w.heap.size w wr) (fun _ iv _=>sl.length - (intOf iv).toNat)
 case atStart=>exact⟨0,by omega,rfl,HO.out,HBW.out⟩
 obtain⟨i,hi,rfl,hov,hbel⟩:=hrel;have HOV:=sH hov;have HB:=sH hbel;have hsz:=hbel.size;clear hov hbel;by_cases hin:i<sl.length
 ·have hinI:(i:Int)<(sl.length:Int):=by omega
  have hfr:=HF.out wr HB.out;obtain⟨ad,u,hA,hadb,hu,hcell⟩:=hfr.rd.at_ hin;rw [List.getElem?_map,List.getElem?_eq_getElem hin] at hu;have hz0':=HS.out.1 sl[i] (List.getElem_mem hin);have htk:Q48 (sl.take (i+1))=Q48 (sl.take i)++numB sl[i].toNat:=by unfold Q48;rw [zR hin,List.flatMap_append];simp only [List.flatMap_cons,List.flatMap_nil,List.append_nil]
  have hln:=Q4I (l:=sl.take i) (fun z hz=>HS.out.1 z (List.mem_of_mem_take hz));rw [List.length_take] at hln;obtain⟨z,hzz⟩:∃ z,z=sl[i].toNat:=⟨_,rfl⟩;have hzi:sl[i]=(z:Int):=by unfold NumI at hz0'; omega
  have hzm:z<=maxN:=by unfold NumI at hz0'; unfold maxN; omega
  rw [<- hzz] at htk;rw [hzi] at hu;have hcz:wr.cell? (ad.add i)=some (.int .i64 (z:Int)):=by rw [hcell,<- hu]; rfl
  have HN:=sH (Q3l z wr hzm);have HTK:=sH htk;have hzl:=(Q0W hzm).2;have hnI:=Q4I (l:=sl.take i) (fun z hz=>HS.out.1 z (List.mem_of_mem_take hz));subst hA;clear hfr hu hz0' htk hzz hzi hcell;go_wp2_with fail
  refine HN.out.mono ?_;rintro _ w5 ⟨v,rfl,ho5,hb5⟩;obtain⟨A5,k5,rfl,q1,q2,r5,q3⟩:=Q03 ho5;have HB5:=sH (HB.out.trans (hb5.mono hsz));have HO5:=sH (HOV.out.below hb5);have HWN:=sH HO5.out.row;have HR5:=sH r5;have hs5:=hb5.size;have hge:=fun b (hb:(_:zC).ownBlock=some b)=>HO5.out.ge hb
  have HGE:=sH hge;obtain⟨ob,hobe⟩:∃ ob,ob=pre++Q48 (sl.take i):=⟨_,rfl⟩;obtain⟨sb,hsbe⟩:∃ sb,sb=numB z:=⟨_,rfl⟩;have hol:ob.length<=100:=by rw [hobe,zJ]; omega
  rw [<- hobe] at HWN;rw [<- hsbe] at HR5 hzl q1 ⊢;have hnext:pre++Q48 (sl.take (i+1))=ob++sb:=by rw [HTK.out,hobe,hsbe,List.append_assoc]
  have HNX:=sH hnext;clear ho5 hb5 r5 hge hobe hsbe hnext hcz HN HTK;go_wp2_with (at_builtin; go_must (refine Q06 _ rfl (.tmp 32) (.tmp 34) 28 rfl w.heap.size 5 i0 _ 1 1 Tryz.underlying28 hi0 hz0 hz1 hz2 rfl (by omega) _ _ _ rfl HWN.out w5.heap.size A5 sb.length k5 (sb.map vb) rfl HR5.out (by intro u hu; first | rfl | (obtain⟨y,_,rfl⟩:=List.mem_map.1 hu; rfl)) (by unfold maxLen; omega) (by omega) (by omega) ?_))
  intro v6 w6 hown6 hg6 hor6;have HB6:=sH (Q0p HB5.out (by omega) hg6 (fun b hb=>HGE.out b hb));have HO6:=sH (show OwnB w6 w.heap.size v6 (pre++Q48 (sl.take (i+1))) by unfold OwnB;rw [HNX.out,zJ,List.map_append];exact hown6)
  clear hown6 hg6 hor6;go_wp2_with fail
  go_roundw
  case rel=>exact⟨i+1,by omega,by go_num,HO6.out,HB6.out⟩
  case measure=>simp [intOf]; omega
 obtain rfl:i=sl.length:=by omega
 have hinI:¬ (sl.length:Int)<(sl.length:Int):=by omega
 go_wp2_with fail
 go_ret
 refine⟨_,rfl,?_,HB.out⟩;have:=HOV.out;rw [zO (zI _)] at this;unfold Q9l;rw [<- HPRE.out,<- HSL.out];exact this
end
section
open Go.RowKit Go.Maps
attribute [local irreducible] wpList
theorem Q6a (w:zB) (g i:Nat) (t:Option zA) (N:Nat->Prop) (m:VM) (S:VSl) (h:VDat w g t N m S) (hi:i<13) :
 zG zH 52 #[.pointer (some ⟨g,0,none⟩),.int .i64 (i:Int)] w fun e w'=>∃ v,e=.returned v/\OwnB w' w.heap.size v (Q0G m i)/\zD w.heap.size w w':=by
 have hmf:∀ (fn:Fn) (first cap:Array zC) (w:zB),(Instr.makeFunc fn first cap).run zH w=.ok (.func fn first cap) w:=fun _ _ _ _=>rfl
 have hX:zD w.heap.size w ((w.alloc (.cells #[.pointer (some ⟨g,0,none⟩)] 24)).alloc (.cells #[.int .i64 (i:Int)] 3)):=((zK _ _).alloc (zI _) _).alloc (by simp) _;have k2:Blk ((w.alloc (.cells #[.pointer (some ⟨g,0,none⟩)] 24)).alloc (.cells #[.int .i64 (i:Int)] 3)) w.heap.size 24 #[.pointer (some ⟨g,0,none⟩)]:=(Blk.newAt rfl).alloc _;have k3:Blk ((w.alloc (.cells #[.pointer (some ⟨g,0,none⟩)] 24)).alloc (.cells #[.int .i64 (i:Int)] 3)) (w.heap.size+1) 3 #[.int .i64 (i:Int)]:=Blk.newAt (by simp);have hd:=h.below hX;have HX:=sH hX;have K2:=sH k2;have K3:=sH k3;have HD:=sH hd;have hsz:w.heap.size<=((w.alloc (.cells #[.pointer (some ⟨g,0,none⟩)] 24)).alloc (.cells #[.int .i64 (i:Int)] 3)).heap.size:=hX.size;clear hX k2 k3 hd h;obtain⟨b2,hb2⟩:∃ b,b=w.heap.size:=⟨_,rfl⟩;obtain⟨b3,hb3⟩:∃ b,b=w.heap.size+1:=⟨_,rfl⟩;go_enter Tryz.func52,Tryz.ntmps52
 go_upto_region 1 with fail
 generalize World.alloc (World.alloc w _) _=w1 at HX K2 K3 HD hsz ⊢;rw [<- hb3] at K3 ⊢;rw [<- hb2] at K2 ⊢;have c2:w1.cell? ⟨b2,0,none⟩=some (.pointer (some ⟨g,0,none⟩)):=(K2.out.cell 0).trans rfl;have c3:w1.cell? ⟨b3,0,none⟩=some (.int .i64 (i:Int)):=(K3.out.cell 0).trans rfl;clear hb2 hb3;by_cases h8:i<8
 ·have h8I:(i:Int)<8:=by omega
  have HL:=sH (Q83 w1 g b2 b3 i t N m S HD.out h8 c2 c3);have e:Q0G m i=Q0l m i:=by unfold Q0G; rw [if_pos h8]
  have HE:=sH e;clear e;go_wp2_with fail
  refine HL.out.mono ?_;rintro _ w2 ⟨v,rfl,ho,hb⟩;have HO:=sH (ho.more hsz);have HB:=sH (HX.out.trans (hb.mono hsz));clear ho hb;go_wp2_with fail
  go_ret
  exact⟨_,rfl,by rw [HE.out]; exact HO.out,HB.out⟩
 have h8I:¬ (i:Int)<8:=by omega
 by_cases h12:i<12
 ·have h12I:(i:Int)<12:=by omega
  have HL:=sH (Q88 w1 g b2 b3 (i - 8) t N m S HD.out (by omega) c2 (by rw [show 8+(i - 8)=i by omega]; exact c3));have e:Q0G m i=Q87 (Q0C m (i - 8)):=by unfold Q0G; rw [if_neg h8,if_pos h12]
  have HE:=sH e;clear e;go_wp2_with fail
  refine HL.out.mono ?_;rintro _ w2 ⟨v,rfl,ho,hb⟩;have HO:=sH (ho.more hsz);have HB:=sH (HX.out.trans (hb.mono hsz));clear ho hb;go_wp2_with fail
  go_ret
  exact⟨_,rfl,by rw [HE.out]; exact HO.out,HB.out⟩
 have h12I:¬ (i:Int)<12:=by omega
 have HL:=sH (Q81 w1 g b2 t N m S HD.out c2);have e:Q0G m i=Q9l m:=by unfold Q0G; rw [if_neg h8,if_neg h12]
 have HE:=sH e;clear e;go_wp2_with fail
 refine HL.out.mono ?_;rintro _ w2 ⟨v,rfl,ho,hb⟩;have HO:=sH (ho.more hsz);have HB:=sH (HX.out.trans (hb.mono hsz));clear ho hb;go_wp2_with fail
 go_ret
 exact⟨_,rfl,by rw [HE.out]; exact HO.out,HB.out⟩
structure SetBy (w w':zB) (T:Q0O) (k:Book) (ls ls':LL) (L:LL) (asked q:Nat):Prop where
 tree:Q1a w' T k ls'
 book:∃ L' a',Q0d w' k L' a'/\a'<=asked+q/\(∀ x,x∈L->x∈L')/\(∀ L0,(∀ x,x∈L0->x∈L)->Q0J L0 ls->Q0J L' ls')
 only:Only (fun b=>T.mut b\/k.has b) w w'
theorem Q3t (w:zB) (g i:Nat) (T:Q0O) (k:Book) (N:Nat->Prop) (m:VM) (S:VSl) (ls L:LL) (asked:Nat) (h:VDat w g (some ⟨T.t,0,none⟩) N m S) (hi:i<13) (hT:Q1a w T k ls) (hl:ls.length=13) (hbk:Q0d w k L asked) (has:asked<=900000) :
 zG zH 50 #[.pointer (some ⟨g,0,none⟩),.int .i64 (i:Int)] w fun e w'=>e=.returned (.int .i64 0)/\SetBy w w' T k ls (ls.set i (Q0G m i)) L asked 3:=by
 have hll:=Q6h h.ok i;have lg:=h.blk.lt;have HD:=sH (fun(W:zB) (hb:zD w.heap.size w W)=>h.below hb);have HL:=sH (fun(W:zB) (hb:zD w.heap.size w W)=>Q6a W g i _ N m S (h.below hb) hi);have HS:=sH (fun(W:zB) (hb:zD w.heap.size w W) (A:Option zA) (c:Nat) (hr:Q04 W W.heap.size 1 A (Q0G m i).length ((Q0G m i).map vb))=>Q7b T k ls L asked i A (Q0G m i).length c (Q0G m i) W W.heap.size (hT.below hb) (hbk.below hb) hr (zI _) (by omega) (by omega) has);have hc:=h.cTree;have HC:=sH (fun(W:zB) (hb:zD w.heap.size w W)=>(hb.cell (p:=⟨g,0,none⟩) lg).trans hc);clear h hT hbk hc;generalize Q0G m i=xs at HL HS hll ⊢;go_enter Tryz.func50,Tryz.ntmps50
 go_upto_region 1 with fail
 refine Q0r 8 14 (fun jx W v=>match jx with | 0=>v=.pointer (some ⟨g,0,none⟩) | 1=>v=.pointer (some ⟨g,0,none⟩) | 2=>v=.pointer (some ⟨g,0,none⟩) | 3=>v=.pointer (some ⟨T.t,0,none⟩) | 4=>v=.int .i64 (i:Int) | 5=>v=.pointer (some ⟨g,0,none⟩) | 6=>v=.int .i64 (i:Int) | _=>OwnB W w.heap.size v xs) [5,6,7,8,9,10,11,12] (by kernel_rfl) (by kernel_rfl) (by kernel_rfl) (by simp) (by kernel_rfl) (fun jx=>?last) ?heads ?_
 case last =>
  match jx with
  | 0 | 1 | 2 | 3 | 4 | 5 | 6=>exact Q1B.pure _
  | jx+7=>exact Q1F _ _
 case heads =>
  simp only [tT];refine⟨?_,?_,?_,?_,?_,?_,?_,?_,trivial⟩;all_goals intro a W hb hkp hd
  ·have e0:(_:zC)=.pointer (some ⟨g,0,none⟩):=sK hkp 0;exact sV
  ·have e0:=sJ (hd 0) 5;exact sV
  ·have e0:=sJ (hd 1) 6;exact sV
  ·have e0:=sJ (hd 2) 7;have cc:=HC.out W hb;exact sV
  ·have e0:(_:zC)=.int .i64 (i:Int):=sK hkp 1;exact sV
  ·have e0:(_:zC)=.pointer (some ⟨g,0,none⟩):=sK hkp 0;exact sV
  ·have e0:(_:zC)=.int .i64 (i:Int):=sK hkp 1;exact sV
  have e0:=sJ (hd 5) 10;have e1:=sJ (hd 6) 11;refine Q0z rfl 52 #[.pointer (some ⟨g,0,none⟩),.int .i64 (i:Int)] (by go_simp) ((HL.out W hb).mono ?_);rintro e w' ⟨v,rfl,ho,hb'⟩;exact⟨v,rfl,hb',ho.more hb.size⟩
 intro f W hb hd;have h8:f 8=.pointer (some ⟨T.t,0,none⟩):=hd 3 (by omega) _ 8 rfl rfl;have h9:f 9=.int .i64 (i:Int):=hd 4 (by omega) _ 9 rfl rfl;have h12:OwnB W w.heap.size (f 12) xs:=hd 7 (by omega) _ 12 rfl rfl;obtain⟨A,c,e12,q1,q2,r12,q3⟩:=Q03 h12;have HST:=sH (HS.out W hb A c r12);have HBW:=sH hb;simp only [Q0R,tU,h8,h9,e12];clear hd h12 hb r12;try simp only [zP,sA]
 go_wp2_with fail
 refine HST.out.mono ?_;rintro _ w2 ⟨rfl,h1,h2,h3⟩;have H1:=sH h1;have H2:=sH h2;have H3:=sH h3;clear h1 h2 h3;go_wp2_with fail
 go_ret
 exact⟨rfl,H1.out,H2.out,(Only.of_below HBW.out).trans H3.out⟩
end
section
open Go.RowKit Go.Maps
theorem Q8b (m:VM) (i:Nat) (h:i<13):((Q01 m).take i++zL (13 - i) []).set i (Q0G m i)=(Q01 m).take (i+1)++zL (13 - (i+1)) []:=by
 have hl:((Q01 m).take i).length=i:=by rw [List.length_take,Q0k]; omega
 have hg:=Q1X m i h;have hi:i<(Q01 m).length:=by rw [Q0k]; exact h
 rw [List.getElem?_eq_getElem hi] at hg;rw [List.set_append_right _ _ (by omega),hl,Nat.sub_self,show 13 - i=(13 - (i+1))+1 by omega,List.replicate_succ,List.set_cons_zero,zR hi,Option.some.inj hg,List.append_assoc];rfl
theorem vC_plant (t t':Option zA) (m:VM) (S:VSl):(vC t m S).setIfInBounds 0 (.pointer t')=vC t' m S:=by
 apply Array.ext_getElem?
 intro j;rw [Array.getElem?_setIfInBounds];by_cases h:0=j
 ·subst h;rw [if_pos rfl,Q0H,if_pos (by omega),Q2H]
 rw [if_neg h];rcases Nat.lt_or_ge j 20 with h2 | h2
 ·rw [Q4D _ _ _ _ h2,Q4D _ _ _ _ h2];simp only [vF,if_neg (show ¬ j=0 from fun e=>h e.symm)]
 rw [zE (by rw [Q0H]; exact h2),zE (by rw [Q0H]; exact h2)]
structure Q4F (M:Nat->Prop) (w wr:zB) (g:Nat) (T:Q0O) (k:Book) (L:LL) (asked:Nat) (m:VM) (i:Nat):Prop where
 tree:Q1a wr T k ((Q01 m).take i++zL (13 - i) [])
 book:∃ L' a',Q0d wr k L' a'/\a'<=asked+9+3*i/\(∀ x,x∈L->x∈L')/\Q0J L' ((Q01 m).take i++zL (13 - i) [])
 only:Only (fun b=>b=g\/k.has b) w wr
 blk:∃ S,VDat wr g (some ⟨T.t,0,none⟩) (fun b=>b=g\/k.has b\/T.has b\/M b) m S
 new:∀ b,T.has b->w.heap.size<=b
theorem Q7u (M:Nat->Prop) (k:Book) (L:LL) (asked g:Nat) (m:VM) (S:VSl) (w:zB) (hbk:Q0d w k L asked) (has:asked<=600000) (h:VDat w g none (fun b=>b=g\/k.has b\/M b) m S) (hgk:¬ k.has g) :
 zG zH 42 #[.pointer (some ⟨k.g,0,none⟩),.pointer (some ⟨g,0,none⟩)] w fun e w'=>∃ T:Q0O,e=.returned (.tuple #[.pointer (some ⟨g,0,none⟩),.int .i64 0])/\Q4F M w w' g T k L asked m 13:=by
 have lg:=h.blk.lt;have HBK:=sH hbk;have HD:=sH h;have hlt:=hbk.lt;have hln:=Q0k m;have HN:=sH (Q7f k L asked 13 w hbk (.inl rfl) (by omega));clear h hbk;go_enter Tryz.func42,Tryz.ntmps42
 go_wp2_with fail
 refine HN.out.mono ?_;rintro _ w2 ⟨T,rfl,hT,hnew,⟨L2,a2,hbk2,ha2,hL2,hin2⟩,ho2⟩;have hd2:=HD.out.only (Only.of_book ho2) (fun b h=>.inr (.inl h)) hgk;have hgl:=hd2.blk.lt;have c0:=hd2.cTree;have f0:=hd2.blk.frozen 0;have HT:=sH hT;have HNEW:=sH hnew;have HB2:=sH hbk2;have HL2:=sH hL2;have HI2:=sH hin2;have HO2:=sH ho2;have HD2:=sH hd2;have hs2:=ho2.size;clear hT hnew hbk2 hL2 hin2 ho2 hd2 HN;go_upto_region 5 with fail
 have hT3:=Q05.setCell w2 ⟨g,0,none⟩ (.pointer (some ⟨T.t,0,none⟩));have hB3:=HD2.out.blk.set_ 0 (.pointer (some ⟨T.t,0,none⟩));rw [vC_plant] at hB3;have hgT:∀ b,T.has b->b≠g:=fun b hb e=>by have:=HNEW.out b hb; omega
 have hst:Q4F M w (w2.setCell ⟨g,0,none⟩ (.pointer (some ⟨T.t,0,none⟩))) g T k L asked m 0:=by
  have ho3:Only (fun b=>b=g) w2 (w2.setCell ⟨g,0,none⟩ (.pointer (some ⟨T.t,0,none⟩))):=Only.of_turned hT3 rfl;have hfar:∀ b,b<w2.heap.size->(b=g\/k.has b\/T.has b\/M b)->(b=g\/k.has b\/M b)\/w.heap.size<=b:=fun b _ hb=>by
   rcases hb with e | e | e | e
   ·exact .inl (.inl e)
   ·exact .inl (.inr (.inl e))
   ·exact .inr (HNEW.out b e)
   exact .inl (.inr (.inr e))
  refine⟨HT.out.only ho3 (fun b hb e=>hgT b hb e),⟨L2,a2,HB2.out.only ho3 (fun e=>hgk (.inl e.symm)) (fun e=>hgk (.inr (.inl e.symm))) (fun e=>hgk (.inr (.inr e.symm))),by omega,HL2.out,HI2.out⟩,?_,⟨S,hB3,fun i hi=>?_,fun i hi=>?_,?_,HD.out.ok⟩,HNEW.out⟩
  ·exact((Only.of_book HO2.out).mono fun b _ h=>.inr h).trans (ho3.mono fun b _ h=>.inl h)
  ·have hf:=HD.out.block i hi;have hf2:=hf.only (Only.of_book HO2.out) (fun b h=>.inr (.inl h));have hf3:=hf2.only ho3 (fun b h=>.inl h);exact⟨hf3.rd,hf3.cap,fun a h0 ha hn=>by
    obtain⟨ad,e,hb,_⟩:=hf.rd.2 h0;rw [ha] at e;injection e with e
    subst e;rcases hfar a.block (by omega) hn with h1 | h1
    ·exact hf.far a h0 ha h1
    omega⟩
  ·have hf:=HD.out.last i hi;have hf2:=hf.only (Only.of_book HO2.out) (fun b h=>.inr (.inl h));have hf3:=hf2.only ho3 (fun b h=>.inl h);exact⟨hf3.rd,hf3.cap,fun a h0 ha hn=>by
    obtain⟨ad,e,hb,_⟩:=hf.rd.2 h0;rw [ha] at e;injection e with e
    subst e;rcases hfar a.block (by omega) hn with h1 | h1
    ·exact hf.far a h0 ha h1
    omega⟩
  have hf:=HD.out.shut;have hf2:=hf.only (Only.of_book HO2.out) (fun b h=>.inr (.inl h));have hf3:=hf2.only ho3 (fun b h=>.inl h);exact⟨hf3.rd,hf3.cap,fun a h0 ha hn=>by
   obtain⟨ad,e,hb,_⟩:=hf.rd.2 h0;rw [ha] at e;injection e with e
   subst e;rcases hfar a.block (by omega) hn with h1 | h1
   ·exact hf.far a h0 ha h1
   omega⟩
 have HST:=sH hst;generalize w2.setCell ⟨g,0,none⟩ (.pointer (some ⟨T.t,0,none⟩))=w3 at HST ⊢;clear hst hT3 hB3 c0 f0 HD2 HT HB2 HL2 HI2 HO2;go_wp2_with fail
 go_loopw [22] (fun iv wr=>∃ i:Nat,i<=13/\iv=.int .i64 i/\Q4F M w wr g T k L asked m i) (fun iv _=>13 - (intOf iv).toNat)
 case atStart=>exact⟨0,by omega,rfl,HST.out⟩
 obtain⟨i,hi,rfl,hst⟩:=hrel;have HS:=sH hst;clear hst;by_cases hin:i<13
 ·have hinI:(i:Int)<13:=by omega
  obtain⟨S1,hd1⟩:=HS.out.blk;obtain⟨L1,a1,q1,q2,q3,q4⟩:=HS.out.book;have hll:((Q01 m).take i++zL (13 - i) ([]:List UInt8)).length=13:=by rw [zJ,List.length_take,hln,List.length_replicate]; omega
  have HV:=sH (Q3t wr g i T k _ m S1 _ L1 a1 hd1 hin HS.out.tree hll q1 (by omega));rw [Q8b m i hin] at HV;have HD1:=sH hd1;have HQ3:=sH q3;have HQ4:=sH q4;clear hd1 q1 q3 q4 hll;go_wp2_with fail
  refine HV.out.mono ?_;rintro _ w4 ⟨rfl,hsb⟩;have hst4:Q4F M w w4 g T k L asked m (i+1):=by
   obtain⟨L',a',p1,p2,p3,p4⟩:=hsb.book;refine⟨hsb.tree,⟨L',a',p1,by omega,fun x hx=>p3 x (HQ3.out x hx),p4 L1 (fun _ h=>h) HQ4.out⟩,?_,⟨S1,HD1.out.only hsb.only (fun b hb=>?_) ?_⟩,HS.out.new⟩
   ·have h1:=HS.out.only;have h2:=hsb.only;refine⟨h2.os.trans h1.os,h2.tape.trans h1.tape,h2.output.trans h1.output,Nat.le_trans h1.size h2.size,fun b hb hn=>(h2.block b (by have:=h1.size; omega) ?_).trans (h1.block b hb hn)⟩;rintro (e | e)
    ·have:=HS.out.new b (.inr (.inr e)); omega
    exact hn (.inr e)
   ·rcases hb with e | e
    ·exact .inr (.inr (.inl (.inr (.inr e))))
    exact .inr (.inl e)
   rintro (e | e)
   ·exact hgT g (.inr (.inr e)) rfl
   exact hgk e
  have HST4:=sH hst4;clear hst4 hsb HV;go_wp2_with fail
  go_roundw
  case rel=>exact⟨i+1,by omega,by go_num,HST4.out⟩
  case measure=>simp [intOf]; omega
 obtain rfl:i=13:=by omega
 have hinI:¬ (13:Int)<13:=by omega
 go_wp2_with fail
 go_ret2
 exact⟨rfl,T,HS.out⟩
theorem VAt.of_made {M:Nat->Prop} {w w':zB} {g:Nat} {T:Q0O} {k:Book} {L:LL} {asked:Nat} {m:VM} (h:Q4F M w w' g T k L asked m 13) (hgk:¬ k.has g) (hg:g<w.heap.size):VAt w' ⟨g,T,k⟩ (fun b=>b=g\/k.has b\/T.has b\/M b) m:=by
 have e:(Q01 m).take 13++zL (13 - 13) ([]:List UInt8)=Q01 m:=by rw [zO (by rw [Q0k]; exact zI _)]; simp
 refine⟨h.blk,by have:=h.tree; rw [e] at this; exact this,⟨fun hb=>?_,hgk⟩,fun b hb=>?_⟩
 ·have:=h.new g hb; omega
 rcases hb with e | e | e
 ·exact .inl e
 ·exact .inr (.inr (.inl (.inr (.inr e))))
 exact .inr (.inl e)
def Q7d:List UInt8:=zL 16 0
def midV (q i:Nat):VM:=⟨q,0,zL i Q7d++zL (8 - i) [],zL 4 (0,[]),[]⟩
theorem Q5F (q:Nat):midV q 8=newV q:=by
 unfold midV newV Q7d
 simp
theorem Q2W (q i j:Nat) (hi:i<=8):Q0l (midV q i) j=if j<i then Q7d else []:=by
 unfold Q0l midV;simp only [List.getD_eq_getElem?_getD];by_cases h:j<i
 ·rw [if_pos h,List.getElem?_append_left (by simpa using h),List.getElem?_replicate,if_pos h]; rfl
 rw [if_neg h,List.getElem?_append_right (by simpa using h),List.getElem?_replicate];split <;> rfl
theorem Q6I (q i j:Nat):Q0C (midV q i) j=(0,[]):=by unfold Q0C midV;simp only [List.getD_eq_getElem?_getD,List.getElem?_replicate];split <;> rfl
def midS (S:VSl) (i g:Nat):VSl:=⟨fun j=>if j=i then some ⟨g,0,none⟩ else S.bA j,fun j=>if j=i then 16 else S.bC j,S.lA,S.lC,S.sA,S.sC⟩
theorem vC_mid (q i g:Nat) (S:VSl) (hi:i<8):(vC none (midV q i) S).setIfInBounds (3+i) (.slice (some ⟨g,0,none⟩) 16 16)=vC none (midV q (i+1)) (midS S i g):=by
 apply Array.ext_getElem?
 intro j;rw [Array.getElem?_setIfInBounds,Q0H];rcases Nat.lt_or_ge j 20 with hj | hj
 ·rw [Q4D _ _ _ _ hj,Q4D _ _ _ _ hj];by_cases h:3+i=j
  ·subst h;rw [if_pos rfl,if_pos hj];unfold vF;rw [if_neg (by omega),if_neg (by omega),if_neg (by omega),if_pos (by omega),show 3+i - 3=i by omega,Q2W _ _ _ (by omega),if_pos (by omega)];simp [midS,Q7d]
  rw [if_neg h];unfold vF;by_cases h0:j=0
  ·rw [if_pos h0,if_pos h0]
  rw [if_neg h0,if_neg h0];by_cases h1:j=1
  ·rw [if_pos h1,if_pos h1]; rfl
  rw [if_neg h1,if_neg h1];by_cases h2:j=2
  ·rw [if_pos h2,if_pos h2]; rfl
  rw [if_neg h2,if_neg h2];by_cases h11:j<11
  ·rw [if_pos h11,if_pos h11,Q2W _ _ _ (by omega),Q2W _ _ _ (by omega)];have:(j - 3<i)=(j - 3<i+1):=by
    apply propext
    omega
   simp only [midS,this,if_neg (show ¬ j - 3=i by omega)]
  rw [if_neg h11,if_neg h11];simp only [Q6I];rfl
 rw [if_neg (by omega),zE (by rw [Q0H]; exact hj),zE (by rw [Q0H]; exact hj)]
def noS:VSl:=⟨fun _=>none,fun _=>0,fun _=>none,fun _=>0,none,0⟩
theorem vC_new (q:Nat):vC none (midV q 0) noS=#[.pointer none,.int .i64 (q:Int),.int .i64 0,.slice none 0 0,.slice none 0 0,.slice none 0 0,.slice none 0 0,.slice none 0 0,.slice none 0 0,.slice none 0 0,.slice none 0 0,.int .i64 0,.slice none 0 0,.int .i64 0,.slice none 0 0,.int .i64 0,.slice none 0 0,.int .i64 0,.slice none 0 0,.slice none 0 0]:=by kernel_rfl
structure Q6l (w wr:zB) (g q i:Nat) (S:VSl):Prop where
 blk:Blk wr g 64 (vC none (midV q i) S)
 block:∀ j,j<i->∃ g',S.bA j=some ⟨g',0,none⟩/\g<g'/\S.bC j=16/\Blk wr g' 5 (zM 16 (.int .u8 0))
 rest:S.lA=noS.lA/\S.lC=noS.lC/\S.sA=none/\S.sC=0
 low:zD w.heap.size w wr
theorem Q9m:(Q7d.map vb)=(zM 16 (Value.int .u8 0)).toList:=by kernel_rfl
theorem Q6l.done {w wr:zB} {g q:Nat} {S:VSl} {k:Book} (h:Q6l w wr g q 8 S) (hg:w.heap.size<=g) (hk:k.g<w.heap.size/\k.b1<w.heap.size/\k.b2<w.heap.size) (hq:1<=q/\q<=2):VDat wr g none (fun b=>b=g\/k.has b\/b<g) (newV q) S:=by
 refine⟨by rw [<- Q5F]; exact h.blk,fun i hi=>?_,fun i hi=>?_,?_,newV_ok q hq.1 hq.2⟩
 ·obtain⟨g',e1,e2,e3,e4⟩:=h.block i hi;have hb:Q0l (newV q) i=Q7d:=by rw [<- Q5F,Q2W _ _ _ (by omega),if_pos hi]
  rw [hb,e1,e3];refine⟨?_,by simp [Q7d,maxLen],fun a _ ha hn=>?_⟩
  ·have:=Q4z e4 (n:=16) (by simp);rw [Q9m];exact this
  injection ha with ha
  subst ha;rcases hn with e | (e | e | e) | e <;> simp only at e <;> omega
 ·rw [<- Q5F,Q6I,h.rest.1,h.rest.2.1];exact Far.nil _ _
 rw [h.rest.2.2.1,h.rest.2.2.2];exact FarN.nil _ _
theorem vNew_any (k:Book) (L:LL) (asked q:Nat) (w:zB) (hbk:Q0d w k L asked) (has:asked<=600000) (hq:1<=q/\q<=2) :
 zG zH 6 #[.pointer (some ⟨k.g,0,none⟩),.int .i64 (q:Int)] w fun e w'=>∃ (g:Nat) (T:Q0O) (w1:zB),e=.returned (.tuple #[.pointer (some ⟨g,0,none⟩),.int .i64 0])/\w.heap.size<=g/\g<w1.heap.size/\zD w.heap.size w w1/\Q4F (fun b=>b<g) w1 w' g T k L asked (newV q) 13:=by
 have hq1:¬ (q:Int)<1:=by omega
 have hq2:¬ (2:Int)<(q:Int):=by omega
 have hlt:=hbk.lt;have HBK:=sH hbk;obtain⟨i0,hi0,hz0,hz1,hz2⟩:=info_parts Q1f;have hVN:=vC_new q;have hX:=Q0a w (.cells (vC none (midV q 0) noS) 64);have hk0:Blk (w.alloc (.cells (vC none (midV q 0) noS) 64)) w.heap.size 64 (vC none (midV q 0) noS):=Blk.newAt rfl;have hst:Q6l w (w.alloc (.cells (vC none (midV q 0) noS) 64)) w.heap.size q 0 noS:=⟨hk0,fun j hj=>by omega,⟨rfl,rfl,rfl,rfl⟩,hX⟩;have HST:=sH hst;have HVN:=sH hVN;obtain⟨g,hg⟩:∃ g,g=w.heap.size:=⟨_,rfl⟩;have hgw:w.heap.size<=g:=by omega
 clear hbk hst hX hk0 hVN;go_enter Tryz.func6,Tryz.ntmps6
 go_upto_region 4 with fail
 rw [<- HVN.out];generalize World.alloc w _=w1 at HST ⊢;rw [<- hg] at HST ⊢;clear hg HVN;go_wp2_with fail
 go_loopw [17] (fun iv wr=>∃ (i:Nat) (S:VSl),i<=8/\iv=.int .i64 i/\Q6l w wr g q i S) (fun iv _=>8 - (intOf iv).toNat)
 case atStart=>exact⟨0,noS,by omega,rfl,HST.out⟩
 obtain⟨i,S,hi,rfl,hst⟩:=hrel;have HS:=sH hst;have hgl:=hst.blk.lt;have hsz:=hst.low.size;clear hst;by_cases hin:i<8
 ·have hinI:(i:Int)<8:=by omega
  go_upto_region 7 with fail
  refine Q0r 6 32 (fun jx W v=>match jx with | 0=>v=.pointer (some ⟨g,0,none⟩) | 1=>v=.int .i64 (i:Int) | 2=>∃ g',v=.slice (some ⟨g',0,none⟩) 16 16/\wr.heap.size<=g'/\Blk W g' 5 (zM 16 (.int .u8 0)) | 3=>v=.pointer (some ⟨g,0,none⟩) | 4=>v=.pointer (some ⟨g,3,none⟩) | _=>v=.pointer (some ⟨g,3+i,none⟩)) [20,21,22,23,24,25] (by kernel_rfl) (by kernel_rfl) (by kernel_rfl) (by simp) (by kernel_rfl) (fun jx=>?last) ?heads ?_
  case last =>
   match jx with
   | 0 | 1 | 3 | 4 | jx+5=>exact Q1B.pure _
   | 2=>exact fun W W' v ⟨g',h1,h2,h3⟩ hb=>⟨g',h1,h2,h3.below' hb⟩
  case heads =>
   simp only [tT];refine⟨?_,?_,?_,?_,?_,?_,trivial⟩;all_goals intro a W hb hkp hd
   ·have e0:(_:zC)=.pointer (some ⟨g,0,none⟩):=sK hkp 6;exact sV
   ·have e0:(_:zC)=.int .i64 (i:Int):=sK hkp 7;exact sV
   ·refine Q2z rfl (.slice (some ⟨W.heap.size,0,none⟩) 16 16) (W.alloc (.cells (zM 16 (.int .u8 0)) 5)) (by
     go_simp
     have h:=Q1Q (P:=zH) 28 5 i0 _ Tryz.underlying28 hi0 hz0 .i64 .i64 16 16 (by omega) (by rw [hz2]; omega) (by omega) W;rw [hz1] at h;rw [show ((16:Nat):Int)=16 from rfl] at h;rw [h,show madeCells (Value.int .u8 0).cells (16*1)=zM 16 (.int .u8 0) from by kernel_rfl];rfl) ((zK _ _).alloc (zI _) _) ⟨W.heap.size,rfl,hb.size,Blk.new W _ _⟩
   ·have e0:=sJ (hd 0) 20;exact sV
   ·have e0:=sJ (hd 3) 23;exact sV
   have e0:=sJ (hd 4) 24;have e1:=sJ (hd 1) 21;exact sV
  intro f W hb hd;obtain⟨g',h22,hg',hB'⟩:∃ g',f 22=.slice (some ⟨g',0,none⟩) 16 16/\wr.heap.size<=g'/\Blk W g' 5 (zM 16 (.int .u8 0)):=hd 2 (by omega) _ 22 rfl rfl;have h25:f 25=.pointer (some ⟨g,3+i,none⟩):=hd 5 (by omega) _ 25 rfl rfl;have hkW:=HS.out.blk.below' hb;have cc:W.cell? ⟨g,3+i,none⟩=some (.slice (S.bA i) (Q0l (midV q i) i).length (S.bC i)):=(hkW.cell _).trans (Q1l _ _ _ i hin);have ff:=hkW.frozen (3+i);have hB2:=hkW.set_ (3+i) (.slice (some ⟨g',0,none⟩) 16 16);rw [vC_mid q i g' S hin] at hB2;have hT2:=Q05.setCell W ⟨g,3+i,none⟩ (.slice (some ⟨g',0,none⟩) 16 16);have hst2:Q6l w (W.setCell ⟨g,3+i,none⟩ (.slice (some ⟨g',0,none⟩) 16 16)) g q (i+1) (midS S i g'):=by
   refine⟨hB2,fun j hj=>?_,HS.out.rest,hT2.below (HS.out.low.trans (hb.mono hsz)) hgw⟩;by_cases hji:j=i
   ·subst hji;exact⟨g',by simp [midS],by omega,by simp [midS],hT2.blk hB' (by simp only; omega)⟩
   obtain⟨g'',e1,e2,e3,e4⟩:=HS.out.block j (by omega);exact⟨g'',by simp only [midS,if_neg hji]; exact e1,e2,by simp only [midS,if_neg hji]; exact e3,hT2.blk (e4.below' hb) (by simp only; omega)⟩
  have HST2:=sH hst2;simp only [Q0R,tU,h22,h25];clear hd hB' hkW hB2 hT2 hst2;try simp only [zP,sA]
  go_wp2_with fail
  go_roundw
  case rel=>exact⟨i+1,midS S i g',by omega,by go_num,HST2.out⟩
  case measure=>simp [intOf]; omega
 obtain rfl:i=8:=by omega
 have hinI:¬ (8:Int)<8:=by omega
 have hd:=HS.out.done (k:=k) hgw hlt hq;have HM:=sH (Q7u (fun b=>b<g) k L asked g (newV q) S wr (HBK.out.below HS.out.low) has hd (by rintro (e | e | e) <;> omega));clear hd;go_wp2_with fail
 refine HM.out.mono ?_;rintro _ w3 ⟨T,rfl,hms⟩;have HMS:=sH hms;clear hms HM;go_wp2_with fail
 go_ret2
 exact⟨g,T,wr,rfl,hgw,hgl,HS.out.low,HMS.out⟩
end
end Go.Proofs.YtckjnbjiafgibaaGreat
