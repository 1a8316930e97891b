/- Parts of the proof, in one text: TreeI, Eq, RefCopy, VaultA, VaultB, VaultC, VaultD, VaultE, VaultG, VaultH, VaultJ, VaultK, EqInts, Same, VaultL, VoA, VaultS, Guard, VoB, NumsP. -/
import Derived.Test.YtcpngeiahgoacaaGreatD7
import Derived.Test.YtcpngeiahgoacaaGreatRows
import Derived.Test.YtcpngeiahgoacaaGreatD1
import Derived.Test.YtcpngeiahgoacaaGreatD5
import Derived.BigRegion
import Derived.Laws.StructEq
import Derived.Laws.IdiomStrings
import Derived.Laws.BytesArg
import Derived.Deep.DeepCutAuto
namespace Go.Proofs.YtcpngeiahgoacaaGreat
set_option linter.unusedVariables false
set_option linter.unusedSimpArgs false
set_option maxRecDepth 100000
set_option maxHeartbeats 16000000
section
open Go.RowKit Go.Maps
attribute [local irreducible] wpList
def posT (i:Nat):Nat->Nat
 | 0=>i
 | n+1=>posT i n / 4
def dgT (ls':List (List UInt8)) (i:Nat) (x:List UInt8):Nat->List UInt8
 | 0=>Q1A x
 | n+1=>upD (grp (lv ls' n) (posT i (n+1)))
theorem Qd2 (ls':List (List UInt8)) (i:Nat) (x:List UInt8):∀ n,(dgT ls' i x n).length=32
 | 0=>Q2j x
 | n+1=>Q4P _
theorem QaA (ls:List (List UInt8)) (i:Nat) (x:List UInt8) (h:i<ls.length):∀ n,posT i n<(lv ls n).length/\lv (ls.set i x) n=(lv ls n).set (posT i n) (dgT (ls.set i x) i x n)
 | 0=>⟨by rw [Q6l]; exact h,Qdi ls i x⟩
 | n+1=>by
  obtain⟨h1,h2⟩:=QaA ls i x h n;refine⟨?_,?_⟩
  ·show posT i n / 4<(Q2m (lv ls n)).length;rw [Q2S]; unfold grps; omega
  ·show Q2m (lv (ls.set i x) n)=(Q2m (lv ls n)).set (posT i n / 4) (upD (grp (lv (ls.set i x) n) (posT i n / 4)));rw [h2];exact QbO _ _ _ h1
structure Q9j (w w':World) (k:Book) (L:List (List UInt8)) (a:Nat):Prop where
 book:Q0A w' k L a
 only:Only k.has w w'
theorem Q9j.below {w w' w'':World} {k:Book} {L:List (List UInt8)} {a:Nat} (h:Q9j w w' k L a) (hb:Below w'.heap.size w' w''):Q9j w w'' k L a:=⟨h.book.below hb,h.only.trans (Only.of_below hb)⟩
structure QbV (w w':World) (k:Book) (L:List (List UInt8)) (a g:Nat) (D:Array Value):Prop where
 book:Q0A w' k L a
 only:Only (fun b=>k.has b\/b=g) w w'
 blk:Blk w' g 60 D
theorem QbV.below {w w' w'':World} {k:Book} {L:List (List UInt8)} {a g:Nat} {D:Array Value} (h:QbV w w' k L a g D) (hb:Below w'.heap.size w' w''):QbV w w'' k L a g D:=⟨h.book.below hb,h.only.trans (Only.of_below hb),h.blk.below' hb⟩
structure SetSt (w wr:World) (T:Q1E) (k:Book) (L:List (List UInt8)) (asked:Nat) (ls:List (List UInt8)) (i:Nat) (xs:List UInt8) (g7 n:Nat):Prop where
 dig:∀ j,j<=2->Q25 wr (T.gs j) (T.cs j) (if j<n then lv (ls.set i xs) j else lv ls j)
 book:∃ L' a',Q0A wr k L' a'/\a'<=asked+1+min n 2/\(∀ x,x∈L->x∈L')/\Q2l xs∈L'/\(1<=n->upIn (grp (lv (ls.set i xs) 0) (i / 4))∈L')/\(2<=n->upIn (lv (ls.set i xs) 1)∈L')
 only:Only (fun b=>T.mut b\/k.has b) w wr
 blk:Blk wr g7 60 (bRow (dgT (ls.set i xs) i xs (min n 2)))
theorem Q9U (T:Q1E) (k:Book) (ls L:List (List UInt8)) (asked i:Nat) (A:Option Addr) (m c:Nat) (xs:List UInt8) (w:World) (B:Nat) (hT:Q2b w T k ls) (hbk:Q0A w k L asked) (h:Q0d w B 1 A m (xs.map vb)) (hB:B<=w.heap.size) (hi:i<ls.length) (hm:m<65536) (has:asked<=900000) :
 Calls Tryz.prog 126 #[.pointer (some ⟨T.t,0,none⟩),.int .i64 (i:Int),.slice A m c] w fun e w'=>e=.returned (.int .i64 0)/\Q2b w' T k (ls.set i xs) /\
  (∃ L' a',Q0A w' k L' a'/\a'<=asked+3/\(∀ x,x∈L->x∈L')/\(∀ L0,(∀ x,x∈L0->x∈L)->Q1X L0 ls->Q1X L' (ls.set i xs)))/\Only (fun b=>T.mut b\/k.has b) w w':=by
 have hlen:=hT.len;have HT:=Lib.hid hT;have hlt:=hbk.lt;have hbook:=hT.book;have hfar:=hT.far;have htlt:=hT.tlt;have hrlt:=hT.rlt;have hglt:=fun j hj=>(hT.dig j hj).lt
 have HGL:=Lib.hid hglt;have HNE:=Lib.hid hT.ne;have c0:=hT.c0;have c1:=hT.c1;have HN:=Lib.hid (Q62 w T.t k.g hT.c0);have HLF:=Lib.hid (QaO k L asked A m c xs w B hbk h hB hm (by omega));have hiI:(i:Int)<(ls.length:Int):=by omega
 have hi0:¬ (i:Int)<0:=by omega
 have hiL:¬ (ls.length:Int)<=(i:Int):=by omega
 have HZS:=Lib.hid (show inkZ.size=32 by simp [inkZ,bRow]);have HZ:=Lib.hid Q1T;have hC0:∀ W,Only (fun b=>T.mut b\/k.has b) w W->W.cell? ⟨T.t,0,none⟩=some (.pointer (some ⟨k.g,0,none⟩)):=fun W ho=>(ho.cell htlt (by rintro (e | e); exact hfar.1 e; exact hbook.1 e)).trans hT.c0
 have hC6:∀ W,Only (fun b=>T.mut b\/k.has b) w W->W.cell? ⟨T.t,6,none⟩=some (.slice (some ⟨T.r,0,none⟩) 3 T.rc):=fun W ho=>(ho.cell htlt (by rintro (e | e); exact hfar.1 e; exact hbook.1 e)).trans hT.c6
 have hCR:∀ W,Only (fun b=>T.mut b\/k.has b) w W->∀ j,j<=2->W.cell? ⟨T.r,j,none⟩=some (.slice (some ⟨T.gs j,0,none⟩) (lv ls j).length (T.cs j)):=fun W ho j hj=>(ho.cell hrlt (by rintro (e | e); exact hfar.2 e; exact hbook.2.1 e)).trans (hT.rj j hj)
 have HC0:=Lib.hid hC0;have HC6:=Lib.hid hC6;have HCR:=Lib.hid hCR;have HBK:=Lib.hid hbook;have hds:(bRow (Q1A xs)).size=32:=Q0E (Q2j xs);have hdo:=Q0K (Q1A xs);obtain⟨D,hD⟩:∃ D,D=bRow (Q1A xs):=⟨_,rfl⟩;rw [<- hD] at HLF hds hdo;have HD:=Lib.hid hD;have HDS:=Lib.hid hds;have HDO:=Lib.hid hdo;have HDIG:=Lib.hid hT.dig;obtain⟨t,ht⟩:∃ t,t=T.t:=⟨_,rfl⟩;obtain⟨r,hr⟩:∃ t,t=T.r:=⟨_,rfl⟩;obtain⟨rc,hrc⟩:∃ t,t=T.rc:=⟨_,rfl⟩;rw [<- ht] at HN HC0 HC6 c0 c1 htlt hfar hbook ⊢;rw [<- hr] at HC6 HCR hrlt hfar hbook;rw [<- hrc] at HC6;have HFAR:=Lib.hid hfar;have HTE:=Lib.hid ht;have HRE:=Lib.hid hr;have HCE:=Lib.hid hrc;clear hT hbk h hD hds hdo hC0 hC6 hCR hbook hglt hfar ht hr hrc;go_enter Tryz.func126,Tryz.ntmps126
 go_wp2_with fail
 refine HN.out.mono ?_;rintro _ _ ⟨rfl,rfl⟩;go_wp2_with fail
 refine HLF.out.mono ?_;rintro _ w3 ⟨rfl,hbk3,ho3⟩;have HBK3:=Lib.hid hbk3;have HO3:=Lib.hid (Only.of_book ho3);have hs3:=ho3.size;clear hbk3 ho3 HN HLF c0 c1;go_upto_region 6 with(refine Q01 (o:=⟨none,_,_,_,_,_⟩) rfl 60 (.tmp 7) (.tmp 31) rfl w3.heap.size 0 D rfl rfl 60 inkZ (by rw [HZ.out]; exact Blk.newAt rfl) (by rw [HDS.out]; rfl) (by rw [HDS.out,HZS.out]; omega) HDO.out ?_; intro w4 hT4 hD4; rw [Q08 _ _ (by rw [HDS.out,HZS.out])] at hD4)
 have hb4:Below w3.heap.size w3 w4:=hT4.below ((Below.refl _ _).alloc (Nat.le_refl _) _) (Nat.le_refl _);have hs4:=hb4.size;obtain⟨g7,hg7⟩:∃ g,g=w3.heap.size:=⟨_,rfl⟩;rw [<- hg7] at hD4 ⊢;have hg7w:w.heap.size<=g7:=by omega
 have ho4:Only (fun b=>T.mut b\/k.has b) w w4:=(HO3.out.mono (fun b _ h=>.inr h)).trans (Only.of_below hb4);have hst:SetSt w w4 T k L asked ls i xs g7 0:=by
  refine⟨fun j hj=>?_,⟨_,_,HBK3.out.below hb4,by omega,fun x hx=>Q2n hx,Q3j _ _,fun h=>by omega,fun h=>by omega⟩,ho4,by rw [HD.out] at hD4; exact hD4⟩;rw [if_neg (by omega)];have hd:=HDIG.out j hj;refine hd.keep ((hb4.block _ (by have:=hd.lt; omega)).trans (HO3.out.block _ hd.lt (HBK.out.2.2 j hj)))
 have HST:=Lib.hid hst;have c6:=HC6.out w4 ho4;clear hT4 hD4 hb4 hg7 ho4 hst HBK3 HO3 HD HDS HDO;go_wp2_with fail
 go_loopw [1,41] (fun pv nv wr=>∃ n:Nat,n<=3/\nv=.int .i64 (n:Int)/\pv=.int .i64 (posT i (min n 2):Int)/\SetSt w wr T k L asked ls i xs g7 n) (fun _ nv _=>3 - (intOf nv).toNat)
 case atStart=>exact⟨0,by omega,rfl,rfl,HST.out⟩
 case round =>
  obtain⟨n,hn,rfl,rfl,hst⟩:=hrel;have HS:=Lib.hid hst;have hsz:=hst.only.size;clear hst c6;by_cases hn3:n<3
  ·have hni:(n:Int)<3:=by omega
   have hmin:min n 2=n:=by omega
   rw [hmin];obtain⟨hp1,hp2⟩:=QaA ls i xs hi n;have HP2:=Lib.hid hp2;obtain⟨pn,hpn⟩:∃ p,p=posT i n:=⟨_,rfl⟩;have hpn1:posT i (n+1)=pn / 4:=by rw [hpn]; rfl
   rw [<- hpn] at hp1 HP2 ⊢;have HPN:=Lib.hid hpn;have HPN1:=Lib.hid hpn1;obtain⟨ln,hln⟩:∃ l,l=(lv ls n).length:=⟨_,rfl⟩;obtain⟨gn,hgn⟩:∃ g,g=T.gs n:=⟨_,rfl⟩;obtain⟨cn,hcn⟩:∃ c,c=T.cs n:=⟨_,rfl⟩;have hlc:=Q8y hlen.1 hlen.2 n (by omega);rw [<- hln] at hp1 hlc;have HLN:=Lib.hid hln;have HGN:=Lib.hid hgn;have HCN:=Lib.hid hcn;have HLC:=Lib.hid hlc;have hln16:=hlc.2.1;have hgnl:gn<w.heap.size:=by rw [hgn]; exact HGL.out n (by omega)
   have hpnI:(pn:Int)<(ln:Int):=by omega
   have hcr0:=HCR.out wr HS.out.only n (by omega);rw [<- hln,<- hgn,<- hcn] at hcr0;have lr:=World.block_lt_of_cell? _ _ hcr0;have lt0:=World.block_lt_of_cell? _ _ (HC6.out wr HS.out.only);have c6:=fun(W:World) (hb:Below wr.heap.size wr W)=>(hb.cell lt0).trans (HC6.out wr HS.out.only)
   have cr:=fun(W:World) (hb:Below wr.heap.size wr W)=>(hb.cell lr).trans hcr0
   have hbk7:=HS.out.blk;rw [hmin] at hbk7;have hds:(bRow (dgT (ls.set i xs) i xs n)).size=32:=Q0E (Qd2 _ _ _ _);have hdo:=Q0K (dgT (ls.set i xs) i xs n);obtain⟨D,hD⟩:∃ D,D=bRow (dgT (ls.set i xs) i xs n):=⟨_,rfl⟩;rw [<- hD] at hbk7 hds hdo;have HD:=Lib.hid hD;have HDS:=Lib.hid hds;have HDO:=Lib.hid hdo;have HK7:=Lib.hid hbk7;have hg7l:=hbk7.lt;clear hD hds hdo hbk7 hcr0 hln hgn hcn hlc hpn hpn1;go_upto_region 11 with fail
   refine Q0y 10 82 (by kernel_rfl) (by kernel_rfl) (by kernel_rfl) (by simp) ?_;simp only [List.take_succ_cons,List.take_zero,List.drop_succ_cons,List.drop_zero];refine Q02 rfl rfl (.pointer (some ⟨t,0,none⟩)) (fun W _=>by go_simp) ?_;try simp only [Act.put,sA1,sA2,sA3]
   refine Q02 rfl rfl (.pointer (some ⟨t,0,none⟩)) (fun W _=>by go_simp) ?_;try simp only [Act.put,sA1,sA2,sA3]
   refine Q02 rfl rfl (.pointer (some ⟨t,6,none⟩)) (fun W _=>by go_simp) ?_;try simp only [Act.put,sA1,sA2,sA3]
   refine Q0o rfl rfl (.slice (some ⟨r,0,none⟩) 3 rc) (fun W hb=>by have:=c6 W hb; go_simp) ?_;try simp only [Act.put,sA1,sA2,sA3]
   refine Q02 rfl rfl (.int .i64 (n:Int)) (fun W _=>by go_simp) ?_;try simp only [Act.put,sA1,sA2,sA3]
   refine Q02 rfl rfl (.pointer (some ⟨r,n,none⟩)) (fun W _=>by go_simp) ?_;try simp only [Act.put,sA1,sA2,sA3]
   refine Q0o rfl rfl (.slice (some ⟨gn,0,none⟩) ln cn) (fun W hb=>by have:=cr W hb; go_simp) ?_;try simp only [Act.put,sA1,sA2,sA3]
   refine Q02 rfl rfl (.int .i64 (pn:Int)) (fun W _=>by go_simp) ?_;try simp only [Act.put,sA1,sA2,sA3]
   refine Q0V rfl 60 (.tmp 7) rfl g7 0 32 rfl 60 _ D _ HK7.out Tryz.underlying60 rfl rfl HDS.out (fun _ _=>by rw [Nat.zero_add]) ?_;try simp only [Act.put,sA1,sA2,sA3]
   refine Q02 rfl rfl (.pointer (some ⟨gn,pn*32,none⟩)) (fun W _=>by go_simp) ?_;try simp only [Act.put,sA1,sA2,sA3]
   refine Q0S ?_;intro w5 hb5;have HS5:=Lib.hid (show Only (fun b=>T.mut b\/k.has b) w w5 from HS.out.only.trans (Only.of_below hb5));have hdn:=(HS.out.dig n (by omega)).keep (hb5.block _ (HS.out.dig n (by omega)).lt);rw [if_neg (by omega),<- HGN.out,<- HCN.out] at hdn;obtain⟨cur,hcb,hcs,hct⟩:=hdn.row;have hcap:=hdn.cap.1;rw [<- HLN.out] at hcap;have hm32:(pn+1)*32<=cn*32:=Nat.mul_le_mul_right _ (by omega);have HCB:=Lib.hid hcb;have HCS:=Lib.hid hcs;have HDN:=Lib.hid hdn;have HK75:=Lib.hid (HK7.out.below' hb5);have HB5:=Lib.hid hb5;have hs5:=hb5.size;clear hb5 hdn hcb hcs hct c6 cr;go_upto_region 12 with(refine Q01 (o:=⟨none,_,_,_,_,_⟩) rfl 60 (.tmp 53) (.tmp 52) rfl gn (pn*32) D rfl rfl 60 cur HCB.out (by rw [HDS.out]; rfl) (by rw [HDS.out,HCS.out]; omega) HDO.out ?_; intro w6 hT6 hD6)
   have hmut:T.mut gn:=⟨n,by omega,HGN.out⟩;have ho6:Only (fun b=>T.mut b\/k.has b) w w6:=HS5.out.trans (Only.of_turned hT6 (.inl hmut));have hgk:¬ k.has gn:=by rw [HGN.out]; exact HBK.out.2.2 n (by omega)
   have hgt:g7≠gn:=by omega
   have hk76:=hT6.blk HK75.out hgt;have hd6:∀ j,j<=2->Q25 w6 (T.gs j) (T.cs j) (if j<n+1 then lv (ls.set i xs) j else lv ls j):=fun j hj=>by
    by_cases hjn:j=n
    ·subst hjn;rw [if_pos (by omega),HP2.out];have hset:=(HS.out.dig j hj).keep (w':=w5) (HB5.out.block _ (HS.out.dig j hj).lt);rw [if_neg (by omega)] at hset;refine hset.set (Q2C _ _) (Qd2 _ _ _ _) (by rw [<- HLN.out]; omega) fun cur' hc1 hc2=>?_
     have hcc:cur'=cur:=by
      have h1:=HCB.out;rw [HGN.out] at h1;unfold Blk at hc1 h1;rw [hc1] at h1;injection h1 with h1
      injection h1
     subst hcc;have h2:=hD6;rw [HGN.out,HD.out] at h2;simpa [bRow] using h2
    ·have hd:=(HS.out.dig j hj).keep (w':=w5) (HB5.out.block _ (HS.out.dig j hj).lt);have hne:T.gs j≠gn:=by
      rw [HGN.out];rcases Nat.lt_or_ge j n with h1 | h1
      ·exact HNE.out j n h1 (by omega)
      ·exact(HNE.out n j (by omega) hj).symm
     have hd2:=hd.keep (w':=w6) (hT6.block _ hne);by_cases hjl:j<n
     ·rw [if_pos (by omega)]; rw [if_pos hjl] at hd2; exact hd2
     ·rw [if_neg (by omega)]; rw [if_neg hjl] at hd2; exact hd2
   obtain⟨L1,a1,q1,q2,q3,q4,q5,q6⟩:=HS.out.book;have hbk6:Q0A w6 k L1 a1:=(q1.below HB5.out).only (Only.of_turned (N:=fun b=>b=gn) hT6 rfl) (fun(e:k.g=gn)=>hgk (.inl e.symm)) (fun(e:k.b1=gn)=>hgk (.inr (.inl e.symm))) (fun(e:k.b2=gn)=>hgk (.inr (.inr e.symm)));have HO6:=Lib.hid ho6;have HD6:=Lib.hid hd6;have HBK6:=Lib.hid hbk6;have HK76:=Lib.hid hk76;have HQ:=Lib.hid (And.intro q3 (And.intro q4 (And.intro q5 q6)));have hs6:=hT6.size;have c6:=HC6.out w6 ho6;clear q1 q3 q4 q5 q6 ho6 hd6 hbk6 hk76 hT6 hD6 HCB HCS HDN HK75 HB5 HS5 hmut;by_cases hn2:n<2
   ·have hn2I:(n:Int)+1<3:=by omega
    obtain⟨pn4,hpn4⟩:∃ p,p=pn / 4:=⟨_,rfl⟩;have hdv:(pn:Int).tdiv 4=(pn4:Int):=by rw [hpn4]; exact(Int.ofNat_tdiv pn 4).symm
    have hrd:=(HD6.out n (by omega)).reads (by rw [if_pos (by omega)]; exact Q2C _ _);rw [if_pos (by omega)] at hrd;have hll:(lv (ls.set i xs) n).length=ln:=by rw [HP2.out,List.length_set,HLN.out]
    rw [hll,<- HGN.out] at hrd;have hcap2:=(HD6.out n (by omega)).cap.1;rw [if_pos (by omega),hll,<- HCN.out] at hcap2;have hpn5:pn4<grps ln:=by unfold grps; omega
    have h4l:4*pn4<ln:=Q58.1 hpn5;have hrs:=hrd.sub (l:=4*pn4) (k:=min (4*pn4+4) ln) (cap:=cn) (by omega) (by omega) hcap2;rw [<- hll,Q6j (Q2C _ _) pn4 (by rw [hll]; omega),hll] at hrs;have hgr:=fun W=>Q9b (some ⟨gn,0,none⟩) ln cn pn4 W (by omega) (by omega) hcap2
    have hup:=fun W (hb:Below w6.heap.size w6 W)=>up_any k L1 a1 _ _ (cn - 4*pn4) (grp (lv (ls.set i xs) n) pn4) W W.heap.size (HBK6.out.below hb) ((hrs.below hb).more hb.size) (Nat.le_refl _) (Q89 (Q2C _ _) pn4) (by omega) (by omega) (by omega)
    obtain⟨vg,hvg⟩:∃ v,v=Value.slice (if cn=4*pn4 then some ⟨gn,0,none⟩ else(some (⟨gn,0,none⟩:Addr)).map (·.add (4*pn4*32))) (min (4*pn4+4) ln - 4*pn4) (cn - 4*pn4):=⟨_,rfl⟩;have HGR:=Lib.hid (fun W=>(show Calls Tryz.prog 158 #[.slice (some ⟨gn,0,none⟩) ln cn,.int .i64 (pn4:Int)] W fun e w'=>e=.returned vg/\Below W.heap.size W w' from(hgr W).mono fun e w' ⟨h1,h2⟩=>⟨by rw [hvg]; exact h1,by rw [<- h2]; exact Below.refl _ _⟩));have HUP:=Lib.hid (show ∀ W,Below w6.heap.size w6 W->Calls Tryz.prog 157 #[.pointer (some ⟨k.g,0,none⟩),vg] W fun e w'=>e=.returned (.tuple #[.agg (bRow (upD (grp (lv (ls.set i xs) n) pn4))),.int .i64 0])/\Q0A w' k (Q10 L1 (upIn (grp (lv (ls.set i xs) n) pn4))) (a1+1)/\Q0t k W w' from fun W hb=>by rw [hvg]; exact hup W hb);have hds2:(bRow (upD (grp (lv (ls.set i xs) n) pn4))).size=32:=Q0E (Q4P _);have hdo2:=Q0K (upD (grp (lv (ls.set i xs) n) pn4));have hdg:dgT (ls.set i xs) i xs (n+1)=upD (grp (lv (ls.set i xs) n) pn4):=by
     show upD (grp (lv (ls.set i xs) n) (posT i (n+1)))=_;rw [HPN1.out,<- hpn4]
    obtain⟨D2,hD2⟩:∃ D,D=bRow (upD (grp (lv (ls.set i xs) n) pn4)):=⟨_,rfl⟩;rw [<- hD2] at HUP hds2 hdo2;have HDG:=Lib.hid hdg;have HD2:=Lib.hid hD2;have HDS2:=Lib.hid hds2;have HDO2:=Lib.hid hdo2;have HPN4:=Lib.hid hpn4;have hcr0:=HCR.out w6 HO6.out n (by omega);rw [<- HLN.out,<- HGN.out,<- HCN.out] at hcr0;have lr6:=World.block_lt_of_cell? _ _ hcr0;have lt6:=World.block_lt_of_cell? _ _ c6;have c06:=HC0.out w6 HO6.out;have lt60:=World.block_lt_of_cell? _ _ c06;clear hrd hll hcap2 hrs hgr hup hvg hds2 hdo2 hdg hD2 hpn4;go_upto_region 14 with fail
    have c0:=fun(W:World) (hb:Below w6.heap.size w6 W)=>(hb.cell lt60).trans c06
    have c6':=fun(W:World) (hb:Below w6.heap.size w6 W)=>(hb.cell lt6).trans c6
    have cr:=fun(W:World) (hb:Below w6.heap.size w6 W)=>(hb.cell lr6).trans hcr0
    clear c6 c06 hcr0;have c6:=c6';clear c6';have hJ:∀ (s:Nat) (W:World),(if s=0 then Below w6.heap.size w6 W else if s=1 then Q9j w6 W k (Q10 L1 (upIn (grp (lv (ls.set i xs) n) pn4))) (a1+1) else QbV w6 W k (Q10 L1 (upIn (grp (lv (ls.set i xs) n) pn4))) (a1+1) g7 D2)->Only (fun b=>k.has b\/b=g7) w6 W:=fun s W hj=>by
     split at hj
     ·exact Only.of_below hj
     ·split at hj
      ·exact hj.only.mono fun b _ h=>.inl h
      ·exact hj.only
    have hJ2:∀ W,Only (fun b=>k.has b\/b=g7) w6 W->Only (fun b=>T.mut b\/k.has b) w W:=fun W ho=>⟨ho.os.trans HO6.out.os,ho.tape.trans HO6.out.tape,ho.output.trans HO6.out.output,by have:=ho.size; have:=HO6.out.size; omega,fun b hb hn=>(ho.block b (by have:=HO6.out.size; omega) (by rintro (e | e); exact hn (.inr e); omega)).trans (HO6.out.block b hb hn)⟩
    have HJ:=Lib.hid hJ;have HJ2:=Lib.hid hJ2;clear c0 c6 cr hJ hJ2;have C0:=Lib.hid (fun W (h:Only (fun b=>k.has b\/b=g7) w6 W)=>HC0.out W (HJ2.out W h));have C6:=Lib.hid (fun W (h:Only (fun b=>k.has b\/b=g7) w6 W)=>HC6.out W (HJ2.out W h));have CR:=Lib.hid (fun W (h:Only (fun b=>k.has b\/b=g7) w6 W)=>HCR.out W (HJ2.out W h) n (by omega));rw [<- HLN.out,<- HGN.out,<- HCN.out] at CR;refine Q1Z 18 82 (fun j W v=>match j with
     | 0=>v=.pointer (some ⟨t,0,none⟩)
     | 1=>v=.pointer (some ⟨t,0,none⟩)
     | 2=>v=.pointer (some ⟨t,0,none⟩)
     | 3=>v=.pointer (some ⟨k.g,0,none⟩)
     | 4=>v=.pointer (some ⟨t,0,none⟩)
     | 5=>v=.pointer (some ⟨t,0,none⟩)
     | 6=>v=.pointer (some ⟨t,6,none⟩)
     | 7=>v=.slice (some ⟨r,0,none⟩) 3 rc
     | 8=>v=.int .i64 (n:Int)
     | 9=>v=.pointer (some ⟨r,n,none⟩)
     | 10=>v=.slice (some ⟨gn,0,none⟩) ln cn
     | 11=>v=.int .i64 (pn4:Int)
     | 12=>v=vg
     | 13=>v=.tuple #[.agg D2,.int .i64 0]
     | 14=>v=.tuple #[.agg D2,.int .i64 0]
     | 15=>v=.agg D2
     | 16=>v=.int .i64 0
     | _=>True) (fun s W=>if s=0 then Below w6.heap.size w6 W else if s=1 then Q9j w6 W k (Q10 L1 (upIn (grp (lv (ls.set i xs) n) pn4))) (a1+1) else QbV w6 W k (Q10 L1 (upIn (grp (lv (ls.set i xs) n) pn4))) (a1+1) g7 D2) (fun _ _=>True) [13,17] [65,66,67,68,69,70,71,72,73,74,75,76,77,78,64,79,80] (by kernel_rfl) (by kernel_rfl) (by kernel_rfl) (by kernel_rfl) (by simp) (by kernel_rfl) (fun j=>?last) ?lastR ?jay (Below.refl _ _) ?heads ?_
    case last =>
     match j with
     | 0 | 1 | 2 | 3 | 4 | 5 | 6 | 7 | 8 | 9 | 10 | 11 | 12 | 13 | 14 | 15 | 16=>exact Q16.pure _
     | j+17=>exact fun _ _ _ h _=>h
    case lastR =>
     intro s j W W' v hsl hs hj hp hr;match j with
     | 0 | 1 | 2 | 3 | 4 | 5 | 6 | 7 | 8 | 9 | 10 | 11 | 12 | 13 | 14 | 15 | 16=>exact hp
     | j+17=>exact hp
    case jay =>
     intro s W W' hj hb;by_cases h0:s=0
     ·rw [if_pos h0] at hj ⊢;exact hj.trans (hb.mono hj.size)
     ·rw [if_neg h0] at hj ⊢;by_cases h1:s=1
      ·rw [if_pos h1] at hj ⊢;exact hj.below hb
      ·rw [if_neg h1] at hj ⊢;exact hj.below hb
    case heads =>
     simp only [List.take_succ_cons,List.take_zero];refine⟨?_,?_,?_,?_,?_,?_,?_,?_,?_,?_,?_,?_,?_,?_,?_,?_,?_,?_,trivial⟩
     ·rw [if_neg (by decide)];intro s a W hj hkp hd;have e0:a.tmps[0]?.getD undef=.pointer (some ⟨t,0,none⟩):=hkp.get (by kernel_rfl) rfl;exact Q00 rfl _ (by go_simp) rfl
     ·rw [if_neg (by decide)];intro s a W hj hkp hd;have e0:(_:Value)=.pointer (some ⟨t,0,none⟩):=(hd 0 (by kernel_rfl)).get 65 rfl rfl;exact Q00 rfl _ (by go_simp) rfl
     ·rw [if_neg (by decide)];intro s a W hj hkp hd;have e0:(_:Value)=.pointer (some ⟨t,0,none⟩):=(hd 1 (by kernel_rfl)).get 66 rfl rfl;exact Q00 rfl _ (by go_simp) rfl
     ·rw [if_neg (by decide)];intro s a W hj hkp hd;have e0:(_:Value)=.pointer (some ⟨t,0,none⟩):=(hd 2 (by kernel_rfl)).get 67 rfl rfl;have cc:=C0.out W (HJ.out s W hj);exact Q00 rfl _ (by go_simp) rfl
     ·rw [if_neg (by decide)];intro s a W hj hkp hd;have e0:a.tmps[0]?.getD undef=.pointer (some ⟨t,0,none⟩):=hkp.get (by kernel_rfl) rfl;exact Q00 rfl _ (by go_simp) rfl
     ·rw [if_neg (by decide)];intro s a W hj hkp hd;have e0:(_:Value)=.pointer (some ⟨t,0,none⟩):=(hd 4 (by kernel_rfl)).get 69 rfl rfl;exact Q00 rfl _ (by go_simp) rfl
     ·rw [if_neg (by decide)];intro s a W hj hkp hd;have e0:(_:Value)=.pointer (some ⟨t,0,none⟩):=(hd 5 (by kernel_rfl)).get 70 rfl rfl;exact Q00 rfl _ (by go_simp) rfl
     ·rw [if_neg (by decide)];intro s a W hj hkp hd;have e0:(_:Value)=.pointer (some ⟨t,6,none⟩):=(hd 6 (by kernel_rfl)).get 71 rfl rfl;have cc:=C6.out W (HJ.out s W hj);exact Q00 rfl _ (by go_simp) rfl
     ·rw [if_neg (by decide)];intro s a W hj hkp hd;have e0:a.tmps[9]?.getD undef=.int .i64 (n:Int):=hkp.get (by kernel_rfl) rfl;exact Q00 rfl _ (by go_simp) rfl
     ·rw [if_neg (by decide)];intro s a W hj hkp hd;have e0:(_:Value)=.slice (some ⟨r,0,none⟩) 3 rc:=(hd 7 (by kernel_rfl)).get 72 rfl rfl;have e1:(_:Value)=.int .i64 (n:Int):=(hd 8 (by kernel_rfl)).get 73 rfl rfl;exact Q00 rfl _ (by go_simp) rfl
     ·rw [if_neg (by decide)];intro s a W hj hkp hd;have e0:(_:Value)=.pointer (some ⟨r,n,none⟩):=(hd 9 (by kernel_rfl)).get 74 rfl rfl;have cc:=CR.out W (HJ.out s W hj);exact Q00 rfl _ (by go_simp) rfl
     ·rw [if_neg (by decide)];intro s a W hj hkp hd;have e0:a.tmps[1]?.getD undef=.int .i64 (pn4:Int):=hkp.get (by kernel_rfl) rfl;exact Q00 rfl _ (by go_simp) rfl
     ·rw [if_neg (by decide)];intro s a W hj hkp hd;have e0:(_:Value)=.slice (some ⟨gn,0,none⟩) ln cn:=(hd 10 (by kernel_rfl)).get 75 rfl rfl;have e1:(_:Value)=.int .i64 (pn4:Int):=(hd 11 (by kernel_rfl)).get 76 rfl rfl;exact Q0w rfl 158 #[.slice (some ⟨gn,0,none⟩) ln cn,.int .i64 (pn4:Int)] (by go_simp) ((HGR.out W).mono fun e w h=>⟨vg,h.1,h.2,rfl⟩)
     ·rw [if_pos (by decide)];intro s a W hs hj hkp hd;have e0:(_:Value)=.pointer (some ⟨k.g,0,none⟩):=(hd 3 (by kernel_rfl)).get 68 rfl rfl;have e1:(_:Value)=vg:=(hd 12 (by kernel_rfl)).get 77 rfl rfl;obtain rfl:s=0:=by
       have h1:=(List.getElem?_eq_some_iff.1 hs).1;simp at h1;obtain rfl | rfl:s=0\/s=1:=by omega
       ·rfl
       ·simp at hs
      rw [if_pos rfl] at hj;exact Q47 rfl 157 #[.pointer (some ⟨k.g,0,none⟩),vg] (by go_simp) ((HUP.out W hj).mono fun e w h=>⟨_,h.1,trivial,⟨h.2.1,(Only.of_below hj).trans (Only.of_book h.2.2)⟩,rfl⟩)
     ·rw [if_neg (by decide)];intro s a W hj hkp hd;have e0:(_:Value)=.tuple #[.agg D2,.int .i64 0]:=(hd 13 (by kernel_rfl)).get 78 rfl rfl;exact Q00 rfl _ (by go_simp) rfl
     iterate 2 ·rw [if_neg (by decide)];intro s a W hj hkp hd;have e0:(_:Value)=.tuple #[.agg D2,.int .i64 0]:=(hd 14 (by kernel_rfl)).get 64 rfl rfl;exact Q00 rfl _ (by go_simp) rfl
     ·rw [if_pos (by decide)];intro s a W hs hj hkp hd;have e0:a.eval (.tmp 7)=.pointer (some ⟨g7,0,none⟩):=hkp.at_ (by kernel_rfl);have e1:a.eval (.tmp 79)=.agg D2:=(hd 15 (by kernel_rfl)) _ 79 rfl rfl;obtain rfl:s=1:=by
       have h1:=(List.getElem?_eq_some_iff.1 hs).1;simp at h1;obtain rfl | rfl:s=0\/s=1:=by omega
       ·simp at hs
       ·rfl
      rw [if_neg (by omega),if_pos rfl] at hj;have hk7:Blk W g7 60 D:=hj.only.blk HK76.out (by rintro (e | e | e) <;> omega);refine Q5G (o:=⟨none,_,_,_,_,_⟩) rfl 60 (.tmp 7) (.tmp 79) rfl g7 0 D2 e0 e1 60 D hk7 (by rw [HDS2.out]; rfl) (by rw [HDS2.out,HDS.out]; omega) HDO2.out fun W2 hT2 hB2=>⟨trivial,?_,trivial⟩
      rw [Q08 _ _ (by rw [HDS2.out,HDS.out])] at hB2;exact⟨hj.book.only (Only.of_turned (N:=fun b=>b=g7) hT2 rfl) (by omega) (by omega) (by omega),(hj.only.mono fun b _ h=>.inl h).trans (Only.of_turned hT2 (.inr rfl)),hB2⟩
    intro f w10 hj hd;have hu:QbV w6 w10 k (Q10 L1 (upIn (grp (lv (ls.set i xs) n) pn4))) (a1+1) g7 D2:=hj;have HBK9:=Lib.hid hu.book;have HO9:=Lib.hid (HJ2.out w10 hu.only);have hD10:=hu.blk;have HD9:=Lib.hid (fun j (hj:j<=2)=>(HD6.out j hj).keep (hu.only.block _ (HD6.out j hj).lt (by have:=HGL.out j hj; rintro (e | e); exact HBK.out.2.2 j hj e; omega)));simp only [Q0H,List.drop_succ_cons,List.drop_zero];clear hd hj hu HUP;try simp only [Act.put,sA1,sA2,sA3]
    have ho10:=HO9.out;have hst10:SetSt w w10 T k L asked ls i xs g7 (n+1):=by
     refine⟨HD9.out,⟨_,_,HBK9.out,by omega,fun x hx=>Q2n (HQ.out.1 x hx),Q2n HQ.out.2.1,fun _=>?_,fun h2=>?_⟩,ho10,?_⟩
     ·rcases Nat.eq_zero_or_pos n with e | e
      ·subst e;have h1:posT i 1=i / 4:=rfl;rw [<- h1,HPN1.out,<- HPN4.out];exact Q3j _ _
      ·exact Q2n (HQ.out.2.2.1 e)
     ·obtain rfl:n=1:=by omega
      have h0:pn4=0:=by have h1:=HLN.out; rw [Q71] at h1; unfold grps at h1; have:=HPN4.out; omega
      have h1:grp (lv (ls.set i xs) 1) pn4=lv (ls.set i xs) 1:=by
       rw [h0];unfold grp;rw [Nat.mul_zero,List.drop_zero,List.take_of_length_le];rw [Q71,List.length_set]; unfold grps; omega
      have:=Q3j L1 (upIn (grp (lv (ls.set i xs) 1) pn4));rw [h1] at this ⊢;exact this
     ·rw [show min (n+1) 2=n+1 by omega,HDG.out,<- HD2.out];exact hD10
    have HST10:=Lib.hid hst10;have hpp:pn4=posT i (n+1):=by rw [HPN1.out,HPN4.out]
    have HPP:=Lib.hid hpp;clear ho10 hst10 hD10 HO9 HD9 HBK9 hpp;go_wp2_with fail
    go_roundw
    case rel=>exact⟨n+1,by omega,by go_num,by rw [show min (n+1) 2=n+1 by omega,<- HPP.out],HST10.out⟩
    case measure=>simp [intOf]; omega
   ·obtain rfl:n=2:=by omega
    have hn2I:¬ (2:Int)+1<3:=by omega
    have hst6:SetSt w w6 T k L asked ls i xs g7 3:=by
     refine⟨HD6.out,⟨L1,a1,HBK6.out,by omega,HQ.out.1,HQ.out.2.1,fun _=>HQ.out.2.2.1 (by omega),fun _=>HQ.out.2.2.2 (by omega)⟩,HO6.out,?_⟩;show Blk w6 g7 _ (bRow (dgT (ls.set i xs) i xs 2));rw [<- HD.out];exact HK76.out
    have HST6:=Lib.hid hst6;clear hst6;go_wp2_with fail
    go_roundw
    case rel=>exact⟨3,by omega,rfl,by rw [show min 3 2=2 by omega,<- HPN.out],HST6.out⟩
    case measure=>simp [intOf]
  ·obtain rfl:n=3:=by omega
   have hni:¬ (3:Int)<3:=by omega
   go_wp2_with fail
   go_ret
   obtain⟨L1,a1,q1,q2,q3,q4,q5,q6⟩:=HS.out.book;have ho:=HS.out.only;have e1:=HTE.out;have e2:=HRE.out;have e3:=HCE.out;subst e1 e2 e3;refine⟨rfl,⟨by have:=ho.size; omega,by have:=ho.size; omega,HC0.out wr ho,?_,HC6.out wr ho,fun j hj=>?_,fun j hj=>?_,HNE.out,HFAR.out,HBK.out,by rw [List.length_set]; exact hlen⟩,⟨L1,a1,q1,by omega,q3,fun L0 hL0 hin=>?_⟩,ho⟩
   ·rw [List.length_set];exact(ho.cell htlt (by rintro (e | e); exact HFAR.out.1 e; exact HBK.out.1 e)).trans HT.out.c1
   ·rw [HCR.out wr ho j hj,(QaA ls i xs hi j).2,List.length_set]
   ·have:=HS.out.dig j hj;rw [if_pos (by omega)] at this;exact this
   ·exact(hin.more fun x hx=>q3 x (hL0 x hx)).set hi (fun _ h=>h) q4 (q5 (by omega)) (q6 (by omega))
end
section
open Go.RowKit
theorem Q34 (A B:Option Addr) (n m c d:Nat) (xs ys:List UInt8) (w:World) (Bx By:Nat) (ha:Q0d w Bx 1 A n (xs.map vb)) (hb:Q0d w By 1 B m (ys.map vb)) (hn:n<=maxLen) (hm:m<=maxLen) :
 Calls Tryz.prog 14 #[.slice A n c,.slice B m d] w fun e w'=>e=.returned (.bool (decide (xs=ys)))/\∃ k,w'=w.drewN k:=by
 have hlx:xs.length=n:=by have:=ha.1; simpa using this
 have hly:ys.length=m:=by have:=hb.1; simpa using this
 unfold maxLen at hn hm;by_cases hnm:n=m
 ·subst hnm;go_enter Tryz.func14,Tryz.ntmps14
  go_wp2
  go_loopw [5] (fun i wr=>∃ k q:Nat,k<=n/\i=.int .i64 k/\xs.take k=ys.take k/\wr=w.drewN q) (fun i _=>n - (intOf i).toNat)
  case atStart=>exact⟨0,0,Nat.zero_le _,rfl,by simp,rfl⟩
  case round =>
   obtain⟨k,q,hk,rfl,heq,rfl⟩:=hrel;have HE:=Lib.hid heq;clear heq;by_cases hlt:k<n
   ·obtain⟨ad,u,rfl,_,hx,hcx⟩:=ha.at_ hlt;obtain⟨bd,v,rfl,_,hy,hcy⟩:=hb.at_ hlt;obtain⟨hk1,rfl⟩:=Q3B hx;obtain⟨hk2,rfl⟩:=Q3B hy;clear hx hy ha hb;by_cases hne:xs[k]=ys[k]
    ·have hz:(bi xs[k] != bi ys[k])=false:=by simp [hne]
     have HN:=Lib.hid hne;clear hne
     go_wp2
     go_quiet (fail)
     go_wp2
     go_roundw
     case rel=>exact⟨k+1,_,by omega,by go_num,by rw [List.take_succ_eq_append_getElem hk1,List.take_succ_eq_append_getElem hk2,HE.out,HN.out],rfl⟩
     case measure=>simp [intOf]; omega
    ·have hz:(bi xs[k] != bi ys[k])=true:=by
      rw [bne_iff_ne]; intro e; exact hne (bi_inj e)
     have HN:=Lib.hid hne;clear hne
     go_wp2
     go_quiet (fail)
     go_wp2
     go_ret
     exact⟨Q0N (by have:=HN.out; symm; rw [decide_eq_false_iff_not]; rintro rfl; exact this rfl),_,World.drewN_drewN _ _ _⟩
   ·have hkn:k=n:=by omega
    have HK:=Lib.hid hkn;clear hkn
    go_wp2
    go_ret
    exact⟨Q0N (by symm; rw [decide_eq_true_iff]; have h1:=HE.out; rw [HK.out] at h1; rwa [List.take_of_length_le (by omega),List.take_of_length_le (by omega)] at h1),q,rfl⟩
 ·have h0:((n:Int) != (m:Int))=true:=by rw [bne_iff_ne]; omega
  have HN:=Lib.hid hnm;clear hnm;go_enter Tryz.func14,Tryz.ntmps14
  go_wp2
  go_ret
  exact⟨Q0N (by symm; rw [decide_eq_false_iff_not]; rintro rfl; exact HN.out (by omega)),0,rfl⟩
end
section
open Go.RowKit
theorem Q3I:(Tryz.prog.info? 3).map (fun i=>(i.zero,i.size,i.bytes))=some (some (.int .i64 0),1,8):=by kernel_rfl
theorem Q4d (A:Option Addr) (n c:Nat) (xs:List Int) (w:World) (B:Nat) (h:Q0d w B 1 A n (xs.map vn)) (hB:B<=w.heap.size) (hn:n<=17592186044416) :
 Calls Tryz.prog 87 #[.slice A n c] w fun e w'=>∃ v,e=.returned v/\OwnN w' w.heap.size v xs/\Below w.heap.size w w':=by
 have hxn:xs.length=n:=by have:=h.1; simpa using this
 have HXN:=Lib.hid hxn;clear hxn;go_enter Tryz.func87,Tryz.ntmps87
 obtain⟨i0,hi0,hz0,hz1,hz2⟩:=info_parts Q3I;go_wp2_with (at_builtin; go_must (refine Q06 _ rfl (.tmp 4) (.tmp 5) 42 rfl w.heap.size 3 i0 _ 1 8 Tryz.underlying42 hi0 hz0 hz1 hz2 rfl (by omega) (.slice none 0 0) 0 [] rfl ⟨by simp,.inl ⟨rfl,rfl⟩⟩ B A n c (xs.map vn) rfl h ?c1 ?c2 ?c3 ?c4 ?_))
 case c1=>intro u hu; obtain⟨x,_,rfl⟩:=List.mem_map.1 hu; rfl
 case c2=>unfold maxLen; omega
 case c3=>omega
 case c4=>omega
 intro v1 w1 hown1 hg1 hor
 go_wp2
 go_ret
 refine⟨v1,rfl,?_,(Below.refl _ _).grown hg1 (Nat.le_refl _) (fun b hb=>by simp [Value.ownBlock] at hb)⟩;unfold OwnN;rw [HXN.out];simpa using hown1
theorem Q0v {w:World} {B:Nat} {v:Value} {xs:List Int} (h:OwnN w B v xs):∃ A c,v=.slice A xs.length c/\xs.length<=c/\c<=maxLen/\Q0d w w.heap.size 1 A xs.length (xs.map vn)/\(∀ ad,A=some ad->B<=ad.block):=by
 have hr:=fun A c (hv:v=.slice A xs.length c)=>Q0d.of_own (A:=A) (c:=c) (by rw [<- hv]; exact h)
 rcases h.2 with⟨rfl,h0⟩ | ⟨g,cap,cur,rfl,hg,_,h1,h2,_⟩
 ·exact⟨none,0,by rw [h0],by omega,by unfold maxLen; omega,hr none 0 (by rw [h0]),fun _ h=>by cases h⟩
 ·exact⟨_,cap,rfl,h1,h2,hr _ _ rfl,fun ad h=>by injection h with h; subst h; exact hg⟩
theorem OwnN.more {w:World} {B B':Nat} {v:Value} {xs:List Int} (h:OwnN w B v xs) (hB:B'<=B):OwnN w B' v xs:=by
 refine⟨h.1,?_⟩;rcases h.2 with h0 | ⟨g,cap,cur,rfl,hg,hh,h1⟩
 ·exact .inl h0
 ·exact .inr ⟨g,cap,cur,rfl,by omega,hh,h1⟩
structure Q23 (w:World) (B:Nat) (x:Wish) (A:Option Addr) (n c:Nat) (A':Option Addr) (n' c':Nat):Prop where
 data:OwnB w B (.slice A n c) x.data
 next:OwnN w B (.slice A' n' c') x.next
 dm:n<=140737488355328
 nm:n'<=17592186044416
 rng:I64 x.client/\I64 x.stamp/\I64 x.group/\I64 x.epoch/\I64 x.kind/\I64 x.block/\I64 x.old/\I64 x.new/\∀ z,z∈x.next->I64 z
theorem Q23.is {w:World} {B:Nat} {x:Wish} {A:Option Addr} {n c:Nat} {A':Option Addr} {n' c':Nat} (h:Q23 w B x A n c A' n' c'):Q0Y w w.heap.size x A n c A' n' c':=by
 obtain⟨_,h3,h4,h5,_⟩:=h.data.reads;obtain⟨A1,c1,e,h6,h7,h8,_⟩:=Q0v h.next;injection e with e1 e2 e3
 subst e1 e2 e3;exact⟨h5,h3,h.dm,h8,h6,h.nm,h.rng⟩
theorem Q23.more {w:World} {B B':Nat} {x:Wish} {A:Option Addr} {n c:Nat} {A':Option Addr} {n' c':Nat} (h:Q23 w B x A n c A' n' c') (hB:B'<=B):Q23 w B' x A n c A' n' c' :=
 ⟨h.data.more hB,h.next.more hB,h.dm,h.nm,h.rng⟩
theorem Q23.keep {w w':World} {B:Nat} {x:Wish} {A:Option Addr} {n c:Nat} {A':Option Addr} {n' c':Nat} (h:Q23 w B x A n c A' n' c') (hk:∀ b,B<=b->b<w.heap.size->w'.heap[b]?=w.heap[b]?):Q23 w' B x A n c A' n' c' :=
 ⟨h.data.keep fun b hb=>hk b (h.data.ge hb) (h.data.lt hb),Qb8 h.next fun b hb=>hk b (own_ge h.next hb) (own_lt h.next hb),h.dm,h.nm,h.rng⟩
theorem QaE (x:Wish) (A:Option Addr) (n c:Nat) (A':Option Addr) (n' c':Nat) (w:World) (B:Nat) (hx:Q0Y w B x A n c A' n' c') (hB:B<=w.heap.size) :
 Calls Tryz.prog 38 #[.agg (Q05 x A n c A' n' c')] w fun e w'=>∃ A1 n1 c1 A2 n2 c2,e=.returned (.agg (Q05 x A1 n1 c1 A2 n2 c2))/\Q23 w' w.heap.size x A1 n1 c1 A2 n2 c2/\Below w.heap.size w w':=by
 have HWX:=Lib.hid (fun W (hb:Below w.heap.size w W)=>hx.below (hb.mono hB));clear hx;have hd0:Below w.heap.size w ((w.alloc (.cells (Q05 x A n c A' n' c') 44)).alloc (.cells (Q05 Q22 none 0 0 none 0 0) 44)):=((Below.refl _ _).alloc (Nat.le_refl _) _).alloc (by simp) _;have k1:Blk ((w.alloc (.cells (Q05 x A n c A' n' c') 44)).alloc (.cells (Q05 Q22 none 0 0 none 0 0) 44)) w.heap.size 44 (Q05 x A n c A' n' c'):=(Blk.new w _ _).alloc _;have k2:Blk ((w.alloc (.cells (Q05 x A n c A' n' c') 44)).alloc (.cells (Q05 Q22 none 0 0 none 0 0) 44)) (w.heap.size+1) 44 (Q05 Q22 none 0 0 none 0 0):=Blk.newAt (by simp);have hs0:((w.alloc (.cells (Q05 x A n c A' n' c') 44)).alloc (.cells (Q05 Q22 none 0 0 none 0 0) 44)).heap.size=w.heap.size+2:=by simp
 go_enter Tryz.func38,Tryz.ntmps38
 go_upto_region 1 with fail
 generalize hW:World.alloc (World.alloc _ _) _=w1;have hW':((w.alloc (.cells (Q05 x A n c A' n' c') 44)).alloc (.cells (Q05 Q22 none 0 0 none 0 0) 44))=w1:=hW;rw [hW'] at hd0 k1 k2 hs0;clear hW hW';obtain⟨g1,hg1⟩:∃ g,g=w.heap.size:=⟨_,rfl⟩;obtain⟨g2,hg2⟩:∃ g,g=w.heap.size+1:=⟨_,rfl⟩;rw [<- hg1] at k1;rw [<- hg2] at k2 ⊢;rw [<- hg1];have ho1:w.heap.size<=g1:=by omega
 have ho2:g1<g2:=by omega
 have ho3:g2<w1.heap.size:=by omega
 have hs1:=hd0.size;have K1:=Lib.hid k1;have K2:=Lib.hid k2;have HB1:=Lib.hid hd0;clear hg1 hg2 k1 k2 hd0 hs0;go_upto_region 2 with(first
  | (refine Q03 (o:=⟨some 4,_,_,_,_,_⟩) rfl 44 (.tmp 1) rfl g1 0 10 rfl 44 _ (Q05 x A n c A' n' c') _ K1.out Tryz.underlying44 rfl rfl rfl (fun _ _=>by rw [Nat.zero_add]) ?_)
  | (refine Q01 (o:=⟨none,_,_,_,_,_⟩) rfl 44 (.tmp 3) (.tmp 4) rfl w1.heap.size 0 (Q05 x A n c A' n' c') rfl rfl 44 (Q05 Q22 none 0 0 none 0 0) (Blk.newAt rfl) (Q1R _ _ _ _ _ _ _) (by simp [Q05]) (Q1U _ _ _ _ _ _ _) ?_; intro w2 hT2 hD2; rw [Q08 _ _ (by simp [Q05])] at hD2))
 have hb2:Below w1.heap.size w1 w2:=hT2.below ((Below.refl _ _).alloc (Nat.le_refl _) _) (Nat.le_refl _);obtain⟨g3,hg3⟩:∃ g,g=w1.heap.size:=⟨_,rfl⟩;rw [<- hg3] at hD2 ⊢;have ho4:g2<g3:=by omega
 have ho5:g3<w2.heap.size:=hD2.lt;have hs2:=hb2.size;have c6:w2.cell? ⟨g1,6,none⟩=some (.slice A n c):=((K1.out.under hb2).cell 6).trans rfl;have K12:=Lib.hid (K1.out.under hb2);have K22:=Lib.hid (K2.out.under hb2);have K32:=Lib.hid hD2;have HB2:=Lib.hid (HB1.out.trans (hb2.mono hs1));clear hT2 hD2 hb2 hg3 K1 K2 HB1;go_wp2_with fail
 refine(Q3W A n c x.data w2 B (HWX.out w2 HB2.out).data (by omega) (HWX.out w2 HB2.out).dm).mono ?_;rintro _ w3 ⟨dv,rfl,hdv,hb3⟩;obtain⟨A1,c1,hdve,_,_,_,_⟩:=Q0p hdv;subst hdve;obtain⟨dv,hdve⟩:∃ dv,dv=Value.slice A1 x.data.length c1:=⟨_,rfl⟩;rw [<- hdve] at hdv;have hs3:=hb3.size;have k3:=K32.out.under hb3;have cw:w3.cell? ⟨g3,6,none⟩=some (.slice A n c):=(k3.cell 6).trans rfl;have fw:=k3.frozen 6;have c9:(w3.setCell ⟨g3,6,none⟩ dv).cell? ⟨g1,9,none⟩=some (.slice A' n' c'):=(((K12.out.under hb3).far (p:=⟨g3,6,none⟩) (by show g1≠g3; omega) dv).cell 9).trans rfl;have K14:=Lib.hid ((K12.out.under hb3).far (p:=⟨g3,6,none⟩) (by show g1≠g3; omega) dv);have K24:=Lib.hid ((K22.out.under hb3).far (p:=⟨g3,6,none⟩) (by show g2≠g3; omega) dv);have K34:=Lib.hid (k3.set_ 6 dv);have HB4:=Lib.hid ((HB2.out.trans (hb3.mono (by omega))).setCell (p:=⟨g3,6,none⟩) (by show w.heap.size<=g3; omega) dv);have HO4:=Lib.hid ((hdv.keep (w':=w3.setCell ⟨g3,6,none⟩ dv) fun b hb=>Below.heap_setCell w3 ⟨g3,6,none⟩ dv b (by have:=hdv.ge hb; show b≠g3; omega)));have HG4:=Lib.hid (fun b (hb:dv.ownBlock=some b)=>(⟨hdv.ge hb,hdv.lt hb⟩:w2.heap.size<=b/\b<w3.heap.size));have hs4:(w3.setCell ⟨g3,6,none⟩ dv).heap.size=w3.heap.size:=by simp [World.setCell]
 have HS4:=Lib.hid hs4;clear hdv hb3 k3 hs4 c6;rw [hdve] at c9 K14 K24 K34 HB4 HO4 HG4 HS4;clear hdve dv;go_upto_region 3 with fail
 have hs4:=HS4.out;generalize w3.setCell _ _=w4 at K14 K24 K34 HB4 HO4 c9 hs4 ⊢;have hs4':w4.heap.size<=w3.heap.size:=by omega
 have hs4'':w3.heap.size<=w4.heap.size:=by omega
 clear hs4 HS4 cw fw;go_wp2_with fail
 refine(Q4d A' n' c' x.next w4 B (HWX.out w4 HB4.out).next (by omega) (HWX.out w4 HB4.out).nm).mono ?_;rintro _ w5 ⟨ev,rfl,hev,hb5⟩;obtain⟨A2,c2,heve,_,_,_,_⟩:=Q0v hev;subst heve;obtain⟨ev,heve⟩:∃ ev,ev=Value.slice A2 x.next.length c2:=⟨_,rfl⟩;rw [<- heve] at hev;have hs5:=hb5.size;have k3:=K34.out.under hb5;have cw:w5.cell? ⟨g3,9,none⟩=some (.slice A' n' c'):=(k3.cell 9).trans rfl;have fw:=k3.frozen 9;have K26:=Lib.hid ((K24.out.under hb5).far (p:=⟨g3,9,none⟩) (by show g2≠g3; omega) ev);have K36:=Lib.hid (k3.set_ 9 ev);have HB6:=Lib.hid ((HB4.out.trans (hb5.mono (by omega))).setCell (p:=⟨g3,9,none⟩) (by show w.heap.size<=g3; omega) ev);have HO6:=Lib.hid ((HO4.out.below hb5).keep (w':=w5.setCell ⟨g3,9,none⟩ ev) fun b hb=>Below.heap_setCell w5 ⟨g3,9,none⟩ ev b (by have:=(HG4.out b hb).1; show b≠g3; omega));have hn6:OwnN (w5.setCell ⟨g3,9,none⟩ ev) w4.heap.size ev x.next:=Qb8 (w':=w5.setCell ⟨g3,9,none⟩ ev) hev fun b hb=>Below.heap_setCell w5 ⟨g3,9,none⟩ ev b (by have:=own_ge hev hb; show b≠g3; omega)
 have HN6:=Lib.hid (hn6.more (B':=w2.heap.size) (by omega));clear hev hb5 k3 hn6 c9;rw [heve] at K26 K36 HB6 HO6 HN6;clear heve ev;go_upto_region 4 with fail
 generalize w5.setCell _ _=w6 at K26 K36 HB6 HO6 HN6 ⊢;clear cw fw;have hfin:((Q05 x A n c A' n' c').setIfInBounds 6 (.slice A1 x.data.length c1)).setIfInBounds 9 (.slice A2 x.next.length c2)=Q05 x A1 x.data.length c1 A2 x.next.length c2:=rfl;rw [hfin] at K36;have hxl:=(HWX.out w6 HB6.out);have hx1:=hxl.dlen;have hx2:=hxl.nlen;have hx3:=hxl.dm;have hx4:=hxl.nm;have HWO:=Lib.hid (show Q23 w6 w2.heap.size x A1 x.data.length c1 A2 x.next.length c2 from⟨HO6.out,HN6.out,by omega,by omega,hxl.rng⟩);clear hxl hx1 hx2 hx3 hx4 hfin;go_wp2_with (first
  | (refine Q03 (o:=⟨some 13,_,_,_,_,_⟩) rfl 44 (.tmp 3) rfl g3 0 10 rfl 44 _ (Q05 x A1 x.data.length c1 A2 x.next.length c2) _ K36.out Tryz.underlying44 rfl rfl rfl (fun _ _=>by rw [Nat.zero_add]) ?_)
  | (refine Q01 (o:=⟨none,_,_,_,_,_⟩) rfl 44 (.tmp 2) (.tmp 13) rfl g2 0 (Q05 x A1 x.data.length c1 A2 x.next.length c2) rfl rfl 44 (Q05 Q22 none 0 0 none 0 0) K26.out (Q1R _ _ _ _ _ _ _) (by simp [Q05]) (Q1U _ _ _ _ _ _ _) ?_; intro w7 hT7 hD7; rw [Q08 _ _ (by simp [Q05])] at hD7))
 refine bodyPost_ret (Q0h rfl _ _ g2 10 44 _ _ rfl hD7 Tryz.underlying44 rfl rfl rfl) rfl ⟨A1,_,c1,A2,_,c2,rfl,?_,hT7.below HB6.out (by omega)⟩;exact(HWO.out.keep fun b hb hlt=>hT7.block b (by omega)).more (by omega)
end
section
open Go.RowKit Go.Maps
structure FarN (w:World) (N:Nat->Prop) (A:Option Addr) (c:Nat) (xs:List Int):Prop where
 rd:Q0d w w.heap.size 1 A xs.length (xs.map vn)
 cap:xs.length<=c/\c<=maxLen
 far:∀ a,0<xs.length->A=some a->¬ N a.block
theorem FarN.only {w w':World} {N:Nat->Prop} {A:Option Addr} {c:Nat} {xs:List Int} (h:FarN w N A c xs) {M:Nat->Prop} (ho:Only M w w') (hM:∀ b,M b->N b):FarN w' N A c xs :=
 ⟨ho.reads h.rd (fun a h0 ha hm=>h.far a h0 ha (hM _ hm)),h.cap,h.far⟩
theorem FarN.mono {w:World} {N N':Nat->Prop} {A:Option Addr} {c:Nat} {xs:List Int} (h:FarN w N A c xs) (hN:∀ b,b<w.heap.size->N' b->N b):FarN w N' A c xs :=
 ⟨h.rd,h.cap,fun a h0 ha hm=>h.far a h0 ha (hN _ (by obtain⟨ad,e,hb,_⟩:=h.rd.2 h0; rw [ha] at e; injection e with e; rw [e]; exact hb) hm)⟩
theorem FarN.nil (w:World) (N:Nat->Prop):FarN w N none 0 []:=⟨Q0d.none_,by simp,fun a h=>by simp at h⟩
theorem FarN.of_own {w0 w:World} {N:Nat->Prop} {v:Value} {xs:List Int} {B:Nat} (h:OwnN w B v xs) (hN:∀ b,N b->b<B):∃ A c,v=.slice A xs.length c/\FarN w N A c xs:=by
 obtain⟨A,c,hv,h1,h2,h3,h4⟩:=Q0v h;exact⟨A,c,hv,h3,⟨h1,h2⟩,fun a h0 ha hn=>by have:=h4 a ha; have:=hN _ hn; omega⟩
theorem Q1l {P:Program} (t e:TypeId) (a:Option Addr) (n c:Nat) (h:P.underlying t=some (.slice e)) (W:World) :
 (binOp .eql t (.slice a n c) (.slice none 0 0)).run P W=.ok (.bool a.isNone) W:=by
 simp only [binOp];simp [Op.equal,Op.maxDepth,Lib.run_equalIn_slice_nil W 9999 t e a n c 0 0 h]
theorem cloneB_any (A:Option Addr) (n c:Nat) (xs:List UInt8) (w:World) (B:Nat) (h:Q0d w B 1 A n (xs.map vb)) (hB:B<=w.heap.size) (hn:n<=1000000) :
 Calls Tryz.prog 63 #[.slice A n c] w fun e w'=>∃ v,e=.returned v/\OwnB w' w.heap.size v xs/\Below w.heap.size w w':=by
 have hxn:xs.length=n:=by have:=h.1; simpa using this
 obtain⟨i0,hi0,hz0,hz1,hz2⟩:=info_parts Q1O;cases A with
 | none =>
  have hn0:n=0:=by
   rcases Nat.eq_zero_or_pos n with e | e
   ·exact e
   ·obtain⟨ad,he,_⟩:=h.2 e; cases he
  subst hn0;have hx:xs=[]:=List.eq_nil_of_length_eq_zero hxn;subst hx;have hnl:=Q1l (P:=Tryz.prog) 22 5 none 0 c Tryz.underlying22;go_enter Tryz.func63,Tryz.ntmps63
  go_wp2
  go_ret
  exact⟨_,rfl,OwnB.nil _ _,Below.refl _ _⟩
 | some ad =>
  have hw0:=World.ownsRow_lit (base:=w.heap.size) (e:=5) (size:=1) w #[] 0 (Nat.le_refl _) (by omega) rfl;have HW0:=Lib.hid hw0;have HR:=Lib.hid (h.alloc hB (.cells #[] 5));have HXN:=Lib.hid hxn;clear h hw0 hxn;have hnl:=Q1l (P:=Tryz.prog) 22 5 (some ad) n c Tryz.underlying22;go_enter Tryz.func63,Tryz.ntmps63
  go_wp2_with (at_builtin; go_must (refine Q06 _ rfl (.tmp 5) (.tmp 6) 22 rfl w.heap.size 5 i0 _ 1 1 Tryz.underlying22 hi0 hz0 hz1 hz2 rfl (by omega) _ 0 _ rfl HW0.out B (some ad) n c (xs.map vb) rfl HR.out (by intro u hu; first | rfl | (obtain⟨y,_,rfl⟩:=List.mem_map.1 hu; rfl)) (by unfold maxLen; omega) (by omega) (by simp) ?_))
  intro v2 w2 hown2 hg2 hor2;have hb2:Below w.heap.size w w2:=Q0k ((Below.refl _ _).alloc (Nat.le_refl _) _) (by simp) hg2 (fun b hb=>by
   have:b=w.heap.size:=by simpa [Value.ownBlock] using hb.symm
   omega)
  have hob:OwnB w2 w.heap.size v2 xs:=by
   unfold OwnB;rw [HXN.out];simpa using hown2
  have HOB:=Lib.hid hob;have HB2:=Lib.hid hb2;clear hown2 hg2 hor2 hb2 hob;go_wp2_with fail
  go_ret
  exact⟨_,rfl,HOB.out,HB2.out⟩
theorem Q2Q (A:Option Addr) (n c:Nat) (xs:List Int) (w:World) (B:Nat) (h:Q0d w B 1 A n (xs.map vn)) (hB:B<=w.heap.size) (hn:n<=1000000) :
 Calls Tryz.prog 86 #[.slice A n c] w fun e w'=>∃ v,e=.returned v/\OwnN w' w.heap.size v xs/\Below w.heap.size w w':=by
 have hxn:xs.length=n:=by have:=h.1; simpa using this
 obtain⟨i0,hi0,hz0,hz1,hz2⟩:=info_parts Q3I;cases A with
 | none =>
  have hn0:n=0:=by
   rcases Nat.eq_zero_or_pos n with e | e
   ·exact e
   ·obtain⟨ad,he,_⟩:=h.2 e; cases he
  subst hn0;have hx:xs=[]:=List.eq_nil_of_length_eq_zero hxn;subst hx;have hnl:=Q1l (P:=Tryz.prog) 42 3 none 0 c Tryz.underlying42;go_enter Tryz.func86,Tryz.ntmps86
  go_wp2
  go_ret
  exact⟨_,rfl,⟨by simp,.inl ⟨rfl,by simp⟩⟩,Below.refl _ _⟩
 | some ad =>
  have hw0:=World.ownsRow_lit (base:=w.heap.size) (e:=3) (size:=1) w #[] 0 (Nat.le_refl _) (by omega) rfl;have HW0:=Lib.hid hw0;have HR:=Lib.hid (h.alloc hB (.cells #[] 3));have HXN:=Lib.hid hxn;clear h hw0 hxn;have hnl:=Q1l (P:=Tryz.prog) 42 3 (some ad) n c Tryz.underlying42;go_enter Tryz.func86,Tryz.ntmps86
  go_wp2_with (at_builtin; go_must (refine Q06 _ rfl (.tmp 5) (.tmp 6) 42 rfl w.heap.size 3 i0 _ 1 8 Tryz.underlying42 hi0 hz0 hz1 hz2 rfl (by omega) _ 0 _ rfl HW0.out B (some ad) n c (xs.map vn) rfl HR.out (by intro u hu; first | rfl | (obtain⟨y,_,rfl⟩:=List.mem_map.1 hu; rfl)) (by unfold maxLen; omega) (by omega) (by simp) ?_))
  intro v2 w2 hown2 hg2 hor2;have hb2:Below w.heap.size w w2:=Q0k ((Below.refl _ _).alloc (Nat.le_refl _) _) (by simp) hg2 (fun b hb=>by
   have:b=w.heap.size:=by simpa [Value.ownBlock] using hb.symm
   omega)
  have hob:OwnN w2 w.heap.size v2 xs:=by
   unfold OwnN;rw [HXN.out];simpa using hown2
  have HOB:=Lib.hid hob;have HB2:=Lib.hid hb2;clear hown2 hg2 hor2 hb2 hob;go_wp2_with fail
  go_ret
  exact⟨_,rfl,HOB.out,HB2.out⟩
end
section
open Go.RowKit Go.Maps
theorem Q4w.more {w:World} {B B' n:Nat} {A:Option Addr} {xss:List (List UInt8)} (h:Q4w w B A n xss) (hB:B<=B'):Q4w w B' A n xss :=
 ⟨h.1,fun h0=>by
  obtain⟨ad,h1,h2,h3⟩:=h.2 h0;exact⟨ad,h1,by omega,fun k x hx=>by
   obtain⟨Ak,mk,ck,q1,q2⟩:=h3 k x hx;exact⟨Ak,mk,ck,q1,q2.more hB⟩⟩⟩
end
section
open Go.RowKit Go.Maps
attribute [local irreducible] wpList
structure SetBy (w w':World) (T:Q1E) (k:Book) (ls ls':List (List UInt8)) (L:List (List UInt8)) (asked q:Nat):Prop where
 tree:Q2b w' T k ls'
 book:∃ L' a',Q0A w' k L' a'/\a'<=asked+q/\(∀ x,x∈L->x∈L')/\(∀ L0,(∀ x,x∈L0->x∈L)->Q1X L0 ls->Q1X L' ls')
 only:Only (fun b=>T.mut b\/k.has b) w w'
end
section
open Go.RowKit
theorem Q77 {xs:List Int} {k:Nat} {u:Value} (h:(xs.map vn)[k]?=some u):∃ (hk:k<xs.length),u=.int .i64 xs[k]:=by
 rw [List.getElem?_map] at h;rcases Nat.lt_or_ge k xs.length with hk | hk
 ·rw [List.getElem?_eq_getElem hk] at h;injection h with h
  exact⟨hk,h.symm⟩
 ·rw [List.getElem?_eq_none hk] at h; cases h
theorem Q4l (A B:Option Addr) (n m c d:Nat) (xs ys:List Int) (w:World) (Bx By:Nat) (ha:Q0d w Bx 1 A n (xs.map vn)) (hb:Q0d w By 1 B m (ys.map vn)) (hn:n<=maxLen) (hm:m<=maxLen) :
 Calls Tryz.prog 75 #[.slice A n c,.slice B m d] w fun e w'=>e=.returned (.bool (decide (xs=ys)))/\∃ k,w'=w.drewN k:=by
 have hlx:xs.length=n:=by have:=ha.1; simpa using this
 have hly:ys.length=m:=by have:=hb.1; simpa using this
 unfold maxLen at hn hm;by_cases hnm:n=m
 ·subst hnm;go_enter Tryz.func75,Tryz.ntmps75
  go_wp2
  go_loopw [5] (fun i wr=>∃ k q:Nat,k<=n/\i=.int .i64 k/\xs.take k=ys.take k/\wr=w.drewN q) (fun i _=>n - (intOf i).toNat)
  case atStart=>exact⟨0,0,Nat.zero_le _,rfl,by simp,rfl⟩
  case round =>
   obtain⟨k,q,hk,rfl,heq,rfl⟩:=hrel;have HE:=Lib.hid heq;clear heq;by_cases hlt:k<n
   ·obtain⟨ad,u,rfl,_,hx,hcx⟩:=ha.at_ hlt;obtain⟨bd,v,rfl,_,hy,hcy⟩:=hb.at_ hlt;obtain⟨hk1,rfl⟩:=Q77 hx;obtain⟨hk2,rfl⟩:=Q77 hy;clear hx hy ha hb;by_cases hne:xs[k]=ys[k]
    ·have hz:(xs[k] != ys[k])=false:=by simp [hne]
     have HN:=Lib.hid hne;clear hne
     go_wp2
     go_quiet (fail)
     go_wp2
     go_roundw
     case rel=>exact⟨k+1,_,by omega,by go_num,by rw [List.take_succ_eq_append_getElem hk1,List.take_succ_eq_append_getElem hk2,HE.out,HN.out],rfl⟩
     case measure=>simp [intOf]; omega
    ·have hz:(xs[k] != ys[k])=true:=by
      rw [bne_iff_ne]; intro e; exact hne e
     have HN:=Lib.hid hne;clear hne
     go_wp2
     go_quiet (fail)
     go_wp2
     go_ret
     exact⟨Q0N (by have:=HN.out; symm; rw [decide_eq_false_iff_not]; rintro rfl; exact this rfl),_,World.drewN_drewN _ _ _⟩
   ·have hkn:k=n:=by omega
    have HK:=Lib.hid hkn;clear hkn
    go_wp2
    go_ret
    exact⟨Q0N (by symm; rw [decide_eq_true_iff]; have h1:=HE.out; rw [HK.out] at h1; rwa [List.take_of_length_le (by omega),List.take_of_length_le (by omega)] at h1),q,rfl⟩
 ·have h0:((n:Int) != (m:Int))=true:=by rw [bne_iff_ne]; omega
  have HN:=Lib.hid hnm;clear hnm;go_enter Tryz.func75,Tryz.ntmps75
  go_wp2
  go_ret
  exact⟨Q0N (by symm; rw [decide_eq_false_iff_not]; rintro rfl; exact HN.out (by omega)),0,rfl⟩
def Q5C (x y:Wish):Bool:=decide (x.client=y.client/\x.stamp=y.stamp/\x.group=y.group/\x.epoch=y.epoch/\x.kind=y.kind/\x.block=y.block/\x.data=y.data/\x.old=y.old/\x.new=y.new/\x.next=y.next)
theorem Qdh (x y:Wish):Q5C x y=true <-> x=y:=by
 unfold Q5C;rw [decide_eq_true_iff];cases x
 cases y
 simp
end
section
open Go.RowKit Go.Maps
attribute [local irreducible] wpList Q0i
theorem QaS:(Tryz.prog.info? 22).map (fun i=>(i.zero,i.size,i.bytes))=some (some (.slice none 0 0),1,24):=by kernel_rfl
structure OwnL (w:World) (B0:Nat) (v:Value) (xss:List (List UInt8)) (vs:List Value):Prop where
 row:w.ownsRow B0 22 1 v xss.length vs
 at_:∀ (k:Nat) (x:List UInt8),xss[k]?=some x->∃ u,vs[k]?=some u/\OwnB w B0 u x
theorem QaM {w:World} {B:Nat} {u:Value} {x:List UInt8} (h:OwnB w B u x) {b:Nat} (hb:u.ownBlock=some b):∃ cur,Blk w b 5 cur:=by
 rcases h.2 with⟨rfl,_⟩ | ⟨g,cap,cur,rfl,hg,hh,_⟩
 ·simp [Value.ownBlock] at hb
 ·simp [Value.ownBlock] at hb; subst hb; exact⟨cur,hh⟩
theorem OwnL.nil (w:World) (B0:Nat):OwnL w B0 (.slice none 0 0) [] []:=⟨World.ownsRow_nil _ _ _ _,fun k x h=>by simp at h⟩
theorem OwnL.keep {w w':World} {B0:Nat} {v:Value} {xss:List (List UInt8)} {vs:List Value} (h:OwnL w B0 v xss vs) (hk:∀ b,B0<=b->b<w.heap.size->w'.heap[b]?=w.heap[b]?):OwnL w' B0 v xss vs :=
 ⟨Q0f h.row fun b hb=>hk b (Q0a h.row hb).1 (Q0a h.row hb).2,fun k x hx=>by
  obtain⟨u,h1,h2⟩:=h.at_ k x hx;exact⟨u,h1,h2.keep fun b hb=>hk b (h2.ge hb) (h2.lt hb)⟩⟩
theorem OwnL.slice {w:World} {B0:Nat} {v:Value} {xss:List (List UInt8)} {vs:List Value} (h:OwnL w B0 v xss vs):∃ A c,v=.slice A xss.length c/\xss.length<=c/\c<=maxLen/\Q4w w w.heap.size A xss.length xss/\(∀ a,A=some a->B0<=a.block):=by
 have hr:=fun A c (hv:v=.slice A xss.length c)=>Q0d.of_own (A:=A) (c:=c) (by rw [<- hv]; exact h.row)
 have hrow:∀ A,Q0d w w.heap.size 1 A xss.length vs->Q4w w w.heap.size A xss.length xss:=fun A hrd=>⟨rfl,fun h0=>by
  obtain⟨ad,rfl,hlt,hc⟩:=hrd.2 h0;refine⟨ad,rfl,hlt,fun k x hx=>?_⟩;obtain⟨u,h1,h2⟩:=h.at_ k x hx;obtain⟨Ak,ck,rfl,_,_,h3,_⟩:=Q0p h2;exact⟨Ak,x.length,ck,hc k _ h1,h3⟩⟩
 rcases h.row.2 with⟨rfl,h0⟩ | ⟨g,cap,cur,rfl,hg,_,h1,h2,_⟩
 ·exact⟨none,0,by rw [h0],by omega,by unfold maxLen; omega,hrow _ (hr none 0 (by rw [h0])),fun _ h=>by cases h⟩
 ·exact⟨_,cap,rfl,h1,h2,hrow _ (hr _ _ rfl),fun ad h=>by injection h with h; subst h; exact hg⟩
theorem OwnL.push {w w3 w6:World} {B0:Nat} {v v6 u:Value} {xss:List (List UInt8)} {vs:List Value} {x:List UInt8} (h:OwnL w B0 v xss vs) (hb:Below w.heap.size w w3) (hu:OwnB w3 B0 u x) (hown:w6.ownsRow B0 22 1 v6 (xss.length+1) (vs++[u])) (hg:(w3.alloc (.cells #[u] 22)).grownBy w6 v.ownBlock):OwnL w6 B0 v6 (xss++[x]) (vs++[u]):=by
 have hl:vs.length=xss.length:=by have:=h.row.1; omega
 have hal:Below w3.heap.size w3 (w3.alloc (.cells #[u] 22)):=Q07 _ _;have hkeep:∀ y z,OwnB w3 B0 y z->OwnB w6 B0 y z:=fun y z hy=>(hy.below hal).keep fun b hb'=>by
  obtain⟨cur,hcur⟩:=QaM hy hb';refine hg.block b (by have:=hy.lt hb'; have:=hal.size; omega) fun e=>?_
  have hr3:w3.ownsRow B0 22 1 v xss.length vs:=Q0f h.row fun b hb''=>hb.block b (Q0a h.row hb'').2
  exact Q09 hr3 hcur (by decide) e.symm
 refine⟨by rw [List.length_append]; exact hown,fun k z hz=>?_⟩;rcases Nat.lt_or_ge k xss.length with hk | hk
 ·rw [List.getElem?_append_left hk] at hz;obtain⟨y,h1,h2⟩:=h.at_ k z hz;exact⟨y,by rw [List.getElem?_append_left (by omega)]; exact h1,hkeep _ _ (h2.below hb)⟩
 ·have hk2:k=xss.length:=by
   rcases Nat.lt_or_ge xss.length k with h1 | h1
   ·rw [List.getElem?_eq_none (by simp; omega)] at hz; cases hz
   ·omega
  subst hk2;rw [List.getElem?_append_right (by omega),Nat.sub_self] at hz;have hzx:x=z:=Option.some.inj hz;subst hzx;exact⟨u,by rw [List.getElem?_append_right (by omega),hl,Nat.sub_self]; rfl,hkeep _ _ hu⟩
theorem Q7g (A A':Option Addr) (n c n' c':Nat) (xss yss:List (List UInt8)) (w:World) (B:Nat) (hx:Q4w w B A n xss) (hy:Q4w w B A' n' yss) (hB:B<=w.heap.size) (hn:n<=1000000) (hn':n'<=1000000) (hlx:∀ x,x∈xss->x.length<=maxLen) (hly:∀ x,x∈yss->x.length<=maxLen) :
 Calls Tryz.prog 15 #[.slice A n c,.slice A' n' c'] w fun e w'=>e=.returned (.bool (decide (xss=yss)))/\Below w.heap.size w w':=by
 have hxl:=hx.1;have hyl:=hy.1;by_cases hnn:n=n'
 ·subst hnn;have hne:((n:Int) != (n:Int))=false:=by simp
  have HX:=Lib.hid hx;have HY:=Lib.hid hy;have HLX:=Lib.hid hlx;have HLY:=Lib.hid hly;have HXL:=Lib.hid hxl;have HYL:=Lib.hid hyl;clear hx hy hlx hly hxl hyl;go_enter Tryz.func15,Tryz.ntmps15
  go_wp2_with fail
  go_loopw [5] (fun iv wr=>∃ i:Nat,i<=n/\iv=.int .i64 i/\xss.take i=yss.take i/\Below w.heap.size w wr) (fun iv _=>n - (intOf iv).toNat)
  case atStart=>exact⟨0,by omega,rfl,by simp,Below.refl _ _⟩
  case round =>
   obtain⟨i,hi,rfl,heq,hbel⟩:=hrel;have HE:=Lib.hid heq;have HB:=Lib.hid hbel;have hsz:=hbel.size;clear heq;by_cases hin:i<n
   ·have hinI:(i:Int)<(n:Int):=by omega
    have h0I:(0:Int)<=(i:Int):=by omega
    have hix:i<xss.length:=by have:=HXL.out; omega
    have hiy:i<yss.length:=by have:=HYL.out; omega
    obtain⟨ad,rfl,hb1,hc1⟩:=HX.out.2 (by omega);obtain⟨bd,rfl,hb2,hc2⟩:=HY.out.2 (by omega);obtain⟨Ak,mk,ck,q1,q2⟩:=hc1 i _ (List.getElem?_eq_getElem hix);obtain⟨Bk,lk,dk,r1,r2⟩:=hc2 i _ (List.getElem?_eq_getElem hiy);have hmk:mk<=maxLen:=by have:=HLX.out _ (List.getElem_mem hix); have:=q2.1; simp at this; omega
    have hlk:lk<=maxLen:=by have:=HLY.out _ (List.getElem_mem hiy); have:=r2.1; simp at this; omega
    have C1:=Lib.hid (fun(W:World) (hb:Below wr.heap.size wr W)=>((hbel.trans (hb.mono hsz)).cell (show (ad.add i).block<w.heap.size by rw [Q0e]; omega)).trans q1);have C2:=Lib.hid (fun(W:World) (hb:Below wr.heap.size wr W)=>((hbel.trans (hb.mono hsz)).cell (show (bd.add i).block<w.heap.size by rw [Q0e]; omega)).trans r1);have hEq:=fun(W:World) (hb:Below wr.heap.size wr W)=>Q34 Ak Bk mk lk ck dk xss[i] yss[i] W B B (q2.below ((hbel.trans (hb.mono hsz)).mono hB)) (r2.below ((hbel.trans (hb.mono hsz)).mono hB)) hmk hlk
    have hnx:∀ (b:Bool),decide (xss[i]=yss[i])=b->∀ (W:World) (hb:Below wr.heap.size wr W),Calls Tryz.prog 14 #[.slice Ak mk ck,.slice Bk lk dk] W fun e w'=>e=.returned (.bool b)/\Below W.heap.size W w':=fun b he W hb=>(hEq W hb).mono fun e w' ⟨h1,k,h2⟩=>⟨by rw [h1,he],by rw [h2]; exact Q0z (Below.refl _ _) k⟩
    have HNX:=Lib.hid hnx;clear hbel hc1 hc2 q1 q2 r1 r2 hEq hnx;go_upto_region 6 with fail
    by_cases hq:xss[i]=yss[i]
    ·have HQ:=Lib.hid hq;have HCE:=Lib.hid (HNX.out true (by rw [decide_eq_true hq]));clear hq;refine Q0y 9 27 (by kernel_rfl) (by kernel_rfl) (by kernel_rfl) (by simp) ?_;simp only [List.take_succ_cons,List.take_zero,List.drop_succ_cons,List.drop_zero];refine Q02 rfl rfl (.slice (some ad) n c) (fun W _=>rfl) ?_;try simp only [Act.put,sA1,sA2,sA3]
     refine Q02 rfl rfl (.int .i64 (i:Int)) (fun W _=>rfl) ?_;try simp only [Act.put,sA1,sA2,sA3]
     refine Q02 rfl rfl (.pointer (some (ad.add i))) (fun W _=>by go_simp) ?_;try simp only [Act.put,sA1,sA2,sA3]
     refine Q0o rfl rfl (.slice Ak mk ck) (fun W hb=>by have:=C1.out W hb; go_simp) ?_;try simp only [Act.put,sA1,sA2,sA3]
     refine Q02 rfl rfl (.slice (some bd) n c') (fun W _=>rfl) ?_;try simp only [Act.put,sA1,sA2,sA3]
     refine Q02 rfl rfl (.int .i64 (i:Int)) (fun W _=>rfl) ?_;try simp only [Act.put,sA1,sA2,sA3]
     refine Q02 rfl rfl (.pointer (some (bd.add i))) (fun W _=>by go_simp) ?_;try simp only [Act.put,sA1,sA2,sA3]
     refine Q0o rfl rfl (.slice Bk lk dk) (fun W hb=>by have:=C2.out W hb; go_simp) ?_;try simp only [Act.put,sA1,sA2,sA3]
     refine Q0Q rfl rfl 14 #[.slice Ak mk ck,.slice Bk lk dk] (fun W=>by go_simp) (.bool true) (fun W hb=>HCE.out W hb) ?_;try simp only [Act.put,sA1,sA2,sA3]
     refine Q0S ?_;intro w2 hb2;have HB2:=Lib.hid (HB.out.trans (hb2.mono hsz));clear hb2;go_wp2_with fail
     go_roundw
     case rel=>exact⟨i+1,by omega,by go_num,by rw [List.take_succ_eq_append_getElem hix,List.take_succ_eq_append_getElem hiy,HE.out,HQ.out],HB2.out⟩
     case measure=>simp [intOf]; omega
    ·have HQ:=Lib.hid hq;have HCE:=Lib.hid (HNX.out false (by rw [decide_eq_false hq]));clear hq;refine Q0y 9 27 (by kernel_rfl) (by kernel_rfl) (by kernel_rfl) (by simp) ?_;simp only [List.take_succ_cons,List.take_zero,List.drop_succ_cons,List.drop_zero];refine Q02 rfl rfl (.slice (some ad) n c) (fun W _=>rfl) ?_;try simp only [Act.put,sA1,sA2,sA3]
     refine Q02 rfl rfl (.int .i64 (i:Int)) (fun W _=>rfl) ?_;try simp only [Act.put,sA1,sA2,sA3]
     refine Q02 rfl rfl (.pointer (some (ad.add i))) (fun W _=>by go_simp) ?_;try simp only [Act.put,sA1,sA2,sA3]
     refine Q0o rfl rfl (.slice Ak mk ck) (fun W hb=>by have:=C1.out W hb; go_simp) ?_;try simp only [Act.put,sA1,sA2,sA3]
     refine Q02 rfl rfl (.slice (some bd) n c') (fun W _=>rfl) ?_;try simp only [Act.put,sA1,sA2,sA3]
     refine Q02 rfl rfl (.int .i64 (i:Int)) (fun W _=>rfl) ?_;try simp only [Act.put,sA1,sA2,sA3]
     refine Q02 rfl rfl (.pointer (some (bd.add i))) (fun W _=>by go_simp) ?_;try simp only [Act.put,sA1,sA2,sA3]
     refine Q0o rfl rfl (.slice Bk lk dk) (fun W hb=>by have:=C2.out W hb; go_simp) ?_;try simp only [Act.put,sA1,sA2,sA3]
     refine Q0Q rfl rfl 14 #[.slice Ak mk ck,.slice Bk lk dk] (fun W=>by go_simp) (.bool false) (fun W hb=>HCE.out W hb) ?_;try simp only [Act.put,sA1,sA2,sA3]
     refine Q0S ?_;intro w2 hb2;have HB2:=Lib.hid (HB.out.trans (hb2.mono hsz));clear hb2;go_wp2_with fail
     go_ret
     refine⟨Q0N ?_,HB2.out⟩
     symm
     rw [decide_eq_false_iff_not];rintro rfl;exact HQ.out rfl
   ·obtain rfl:i=n:=by omega
    have hinI:¬ (i:Int)<(i:Int):=by omega
    clear hbel;go_wp2_with fail
    go_ret
    refine⟨Q0N ?_,HB.out⟩
    symm
    rw [decide_eq_true_iff];have h1:=HE.out
    rwa [List.take_of_length_le (by have:=HXL.out; omega),List.take_of_length_le (by have:=HYL.out; omega)] at h1
 ·have hne:((n:Int) != (n':Int))=true:=by rw [bne_iff_ne]; omega
  have HN:=Lib.hid (show xss≠yss by rintro rfl; omega);clear hnn hx hy hxl hyl hlx hly;go_enter Tryz.func15,Tryz.ntmps15
  go_wp2_with fail
  go_ret
  exact⟨Q0N (by symm; rw [decide_eq_false_iff_not]; exact HN.out),Below.refl _ _⟩
end
section
open Go.RowKit
theorem Q1I {P:Program} {ops:Array Oper} {rest:List Oper} {o:Oper} {a:Act} {w:World} {Q:Exit->Act->World->Prop} (hw:Region.wanted o (yielded ops a.tmps)=true) (ty:TypeId) (x:Operand) (ho:o.op=.load ty x)
 (g off n:Nat) (hx:a.eval x=.pointer (some ⟨g,off,none⟩)) (t:TypeId) (cs vs:Array Value) (d:TypeDesc) (hB:Blk w g t cs)
 (hu:P.underlying ty=some d) (hd:(match d with | .struct _ | .array _ _=>true | _=>false)=true) (hi:(P.info? ty).map (·.size)=some n)
 (hn:vs.size=n) (hv:∀ j,j<n->cs[off+j]?=vs[j]?)
 (h:wpList P ops Q rest (a.put o.dst (.agg vs)) w):wpList P ops Q (o :: rest) a w:=by
 unfold wpList;rw [if_pos hw];exact .inl (Q4f ty x ho g off n hx t cs vs d hB hu hd hi hn hv h)
theorem Q6a {P:Program} {ops:Array Oper} {rest:List Oper} {o:Oper} {a:Act} {w:World} {Q:Exit->Act->World->Prop} (hw:Region.wanted o (yielded ops a.tmps)=true) (v:Value)
 (he:(execOp a.eval o).run P w=.ok (.value v) w) (h:wpList P ops Q rest (a.put o.dst v) w):wpList P ops Q (o :: rest) a w:=by
 unfold wpList;rw [if_pos hw];refine .inl ?_;unfold Oper.wp;rw [he];exact h
end
section
open Go.RowKit Go.Maps
attribute [local irreducible] wpList Q0i
theorem OwnN.nil_ (w:World) (B:Nat):OwnN w B (.slice none 0 0) []:=⟨by simp,.inl ⟨rfl,by simp⟩⟩
theorem OwnN.keep_ {w w':World} {B:Nat} {v:Value} {xs:List Int} (h:OwnN w B v xs) (hk:∀ b,v.ownBlock=some b->w'.heap[b]?=w.heap[b]?):OwnN w' B v xs:=Q0f h hk
theorem OwnN.below_ {w w':World} {B:Nat} {v:Value} {xs:List Int} (h:OwnN w B v xs) (hb:Below w.heap.size w w'):OwnN w' B v xs:=h.keep_ fun b hb'=>hb.block b (Q0a h hb').2
end
end Go.Proofs.YtcpngeiahgoacaaGreat
