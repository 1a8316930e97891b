/- Parts of the proof, in one text: AtP, VaultP, VaultO, VaultN, VaultQ, AtQ, AtR, AtS. -/
import Derived.Test.YtcpngeiahgoacaaGreatD15
import Derived.Test.YtcpngeiahgoacaaGreatD8
import Derived.BigRegion
import Derived.Deep.DeepCutAuto
namespace Go.Proofs.YtcpngeiahgoacaaGreat
set_option linter.unusedVariables false
set_option linter.unusedSimpArgs false
set_option maxRecDepth 100000
set_option maxHeartbeats 16000000
section
open Go.RowKit Go.Maps
attribute [local irreducible] wpList Q0i
def MvPost (w:World) (g gc c:Nat) (t:Option Addr) (N:Nat->Prop) (m:AM) (S:ASl) (s:Srv) (o z:Int) (e:Ending) (w':World):Prop :=
 (Q18 m.chunks s.f z=false/\Q3v s.now o z->e=.returned (.bool true)/\∃ S',ADat w' g gc t N (mvQ m c s o z) S'/\Only (fun b=>b=gc\/MvC S c b) w w') /\
 (¬ (Q18 m.chunks s.f z=false/\Q3v s.now o z)->e=.returned (.bool false)/\Below w.heap.size w w')
theorem mv_info:(Tryz.prog.info? 175).map (fun i=>(i.zero,i.size,i.bytes))=some (some (.agg #[.int .i64 0,.int .i64 0]),2,16):=by kernel_rfl
theorem reads2 (w:World) (o z:Int):Q0d (w.alloc (.cells #[.int .i64 o,.int .i64 z] 175)) (w.alloc (.cells #[.int .i64 o,.int .i64 z] 175)).heap.size 2 (some ⟨w.heap.size,0,none⟩) 1 [.int .i64 o,.int .i64 z]:=by
 have hk:Blk (w.alloc (.cells #[.int .i64 o,.int .i64 z] 175)) w.heap.size 175 #[.int .i64 o,.int .i64 z]:=Blk.newAt rfl;exact⟨rfl,fun _=>⟨⟨w.heap.size,0,none⟩,rfl,hk.lt,fun j u hu=>by rw [Q13,Nat.zero_add,hk.cell,<- Array.getElem?_toList]; exact hu⟩⟩
theorem Qct (w:World) (g gc c:Nat) (t:Option Addr) (N:Nat->Prop) (m:AM) (S:ASl) (s:Srv) (o z:Int) (h:ADat w g gc t N m S) (hs:m.chunks[c]?=some s) (hN:∀ b,N b->b<w.heap.size) (hg:g≠gc) (hl:s.moves.length<=20) :
 Calls Tryz.prog 104 #[.pointer (some ⟨g,0,none⟩),.int .i64 (c:Int),.int .i64 o,.int .i64 z] w (MvPost w g gc c t N m S s o z):=by
 have hcl:c<m.chunks.length:=(List.getElem?_eq_some_iff.1 hs).1;have h2:=h.ok.one;have hsk:=h.ok.srv s (List.mem_of_getElem? hs);have hnow:=hsk.now_ok;have hlt:=h.lt;have hcap:=h.cap;have hc1:w.cell? ⟨g,1,none⟩=some (.slice (some ⟨gc,0,none⟩) m.chunks.length S.cap):=(h.blk.cell 1).trans (Q1D _ _ _ _ 1 (by omega));have hsrv:=h.srv c s hs;have hcf:w.cell? ⟨gc,c*5+2,none⟩=some (.int .i64 (s.f:Int)):=(h.row.cell _).trans ((hsrv 2 (by omega)).trans rfl);have HU:=Lib.hid (Q8M w g gc s.f t N m S z h hnow.faults);have HMK:=Lib.hid (fun(ho:o∈s.now) (hu:Q18 m.chunks s.f z=false) (h1:1<=z) (h2:z<=28)=>h.ok.cok.moved hs ho hu h1 h2 hl);obtain⟨n,hn⟩:∃ n,n=m.chunks.length:=⟨_,rfl⟩;have hcn:c<n:=by omega
 rw [<- hn] at hc1;have hcI:(c:Int)<(n:Int):=by omega
 have HD:=Lib.hid h;have HS:=Lib.hid hs;have HNN:=Lib.hid hN;have HNOW:=Lib.hid hnow;have HSRV:=Lib.hid hsrv;have HRW:=Lib.hid (h.now c s hs).rd;have HMV:=Lib.hid (h.mv c s hs);obtain⟨u,hu⟩:∃ u,u=Q18 m.chunks s.f z:=⟨_,rfl⟩;rw [<- hu] at HU;have HUE:=Lib.hid hu;obtain⟨f,hf⟩:∃ f,f=s.f:=⟨_,rfl⟩;rw [<- hf] at hcf HU;have HF:=Lib.hid hf;have hl1:=hlt.1;have hl2:=hlt.2;have hcap1:=hcap.1;have hcap2:=hcap.2.1;obtain⟨P,hP⟩:∃ P,P=MvPost w g gc c t N m S s o z:=⟨_,rfl⟩;rw [<- hP];have HPF:=Lib.hid (show ∀ w',¬ (Q18 m.chunks s.f z=false/\Q3v s.now o z)->Below w.heap.size w w'->P (.returned (.bool false)) w' from fun w' hb hbl=>by rw [hP]; exact⟨fun h=>absurd h hb,fun _=>⟨rfl,hbl⟩⟩);have HPT:=Lib.hid (show ∀ w' S',(Q18 m.chunks s.f z=false/\Q3v s.now o z)->ADat w' g gc t N (mvQ m c s o z) S'->Only (fun b=>b=gc\/MvC S c b) w w'->P (.returned (.bool true)) w' from fun w' S' hb hd ho=>by rw [hP]; exact⟨fun _=>⟨rfl,S',hd,ho⟩,fun h=>absurd hb h⟩);clear h hs hN hsk hnow hlt hcap hsrv hu hf hn hP h2;go_enter Tryz.func104,Tryz.ntmps104
 go_wp2_with fail
 refine HU.out.mono ?_;rintro _ w2 ⟨rfl,hb2⟩;have hs2:=hb2.size;have HB2:=Lib.hid hb2;clear hb2 HU;cases u with
 | true =>
  have hbad:¬ (Q18 m.chunks s.f z=false/\Q3v s.now o z):=fun h=>by rw [<- HUE.out] at h; cases h.1
  have HBAD:=Lib.hid hbad;clear hbad;go_wp2_with fail
  exact HPF.out _ HBAD.out HB2.out
 | false =>
  obtain⟨A,hA⟩:∃ A,A=S.nA c:=⟨_,rfl⟩;obtain⟨nn,hnn⟩:∃ k,k=s.now.length:=⟨_,rfl⟩;obtain⟨cn,hcn2⟩:∃ k,k=S.nC c:=⟨_,rfl⟩;have HRW2:=Lib.hid (HRW.out.below HB2.out);rw [<- hA,<- hnn] at HRW2;have HRP:=Lib.hid (Q5n f A nn cn s.now o z w2 (HRW2.out.more hs2) (by rw [HF.out]; exact HNOW.out));obtain⟨C,hC⟩:∃ C,C=crC f A nn cn:=⟨_,rfl⟩;rw [<- hC] at HRP;have hcs:C.size=2:=by rw [hC]; rfl
  have hcd:∀ j,j<2->S.arr[c*5+2+j]?=C[j]?:=fun j hj=>by
   rw [hC,hA,hnn,hcn2];obtain rfl | rfl:j=0\/j=1:=by omega
   ·rw [HF.out]; exact HSRV.out 2 (by omega)
   ·exact HSRV.out 3 (by omega)
  have HCD:=Lib.hid hcd;have HROW2:=Lib.hid (HD.out.row.below' HB2.out);clear hA hnn hcn2 hC hcd;go_wp2_with (refine Q03 (o:=⟨some 30,_,_,_,_,_⟩) rfl 77 (.tmp 29) rfl gc (c*5+2) 2 rfl 173 _ C _ HROW2.out Tryz.underlying77 rfl rfl hcs HCD.out ?_)
  refine HRP.out.mono ?_;rintro _ w3 ⟨hb3,hgd,hbd⟩;have hs3:=hb3.size;by_cases hgood:Q3v s.now o z
  ·obtain⟨A3,k3,c3,rfl,ho3⟩:=hgd hgood;have hk3:k3=(Q1N s.now o z).length:=by
    obtain⟨A',c',e,_⟩:=Q0v ho3;injection e
   have hbt:=Lib.hid (show Q18 m.chunks s.f z=false/\Q3v s.now o z from⟨HUE.out.symm,hgood⟩);have hmk:=HMK.out hgood.1 HUE.out.symm hgood.2.2.1 hgood.2.2.2;have HCOK:=Lib.hid hmk;have HB3:=Lib.hid (HB2.out.trans (hb3.mono hs2));have HO3:=Lib.hid (OwnN.more ho3 hs2);obtain⟨E,hE⟩:∃ E,E=crC f A3 k3 c3:=⟨_,rfl⟩;rw [<- hE];have hes:E.size=2:=by rw [hE]; rfl
   have heo:E.all (·.oneCell')=true:=by rw [hE]; exact Q1p _ _ _ _
   have HE:=Lib.hid hE;have HK3:=Lib.hid hk3;clear hb3 hgd hbd hgood HRP ho3 hmk hE hk3;go_upto_region 7 with(refine Q01 (o:=⟨none,_,_,_,_,_⟩) rfl 77 (.tmp 10) (.tmp 34) rfl w3.heap.size 0 E rfl rfl 77 (crC 0 none 0 0) (by rw [crZ]; exact Blk.newAt rfl) (by rw [hes]; exact Q1V 0 none 0 0) (by rw [hes]; simp [crC]) heo ?_; intro w4 hT4 hD4; rw [Q08 _ _ (by rw [hes]; rfl)] at hD4)
   have hb4:Below w3.heap.size w3 w4:=hT4.below (Q07 w3 _) (Nat.le_refl _);obtain⟨g10,hg10⟩:∃ g,g=w3.heap.size:=⟨_,rfl⟩;rw [<- hg10] at hD4 ⊢;have HD4:=Lib.hid hD4;have HB4:=Lib.hid (HB3.out.trans (hb4.mono HB3.out.size));have HO4:=Lib.hid (HO3.out.below_ hb4);have HROW4:=Lib.hid (HD.out.row.below' HB4.out);have HMV4:=Lib.hid (Q0f HMV.out (fun b hb=>HB4.out.block b (Q0a HMV.out hb).2):w4.ownsRow 0 175 2 (.slice (S.mA c) s.moves.length (S.mC c)) s.moves.length (Q0F s.moves));clear hT4 hD4 hb4 HO3 HROW2;have hidx:c*5+2+2<=S.arr.size:=by omega
   go_upto_region 8 with(first
    | (refine Q03 (o:=⟨some 39,_,_,_,_,_⟩) rfl 77 (.tmp 10) rfl g10 0 2 rfl 77 _ E _ HD4.out Tryz.underlying77 rfl rfl hes (fun _ _=>by rw [Nat.zero_add]; try rfl) ?_)
    | (refine Q01 (o:=⟨none,_,_,_,_,_⟩) rfl 77 (.tmp 41) (.tmp 39) rfl gc (c*5+2) E rfl rfl 173 S.arr HROW4.out (by rw [hes]; exact Q1V 0 none 0 0) (by rw [hes]; exact hidx) heo ?_; intro w5 hT5 hD5))
   have hmvg:(Value.slice (S.mA c) s.moves.length (S.mC c)).ownBlock≠some gc:=Q09 HMV4.out HROW4.out (by decide);have HMV5:=Lib.hid (Q0f HMV4.out (fun b hb=>hT5.block b (fun e=>hmvg (by rw [hb,e]))):w5.ownsRow 0 175 2 (.slice (S.mA c) s.moves.length (S.mC c)) s.moves.length (Q0F s.moves));have HO5:=Lib.hid (HO4.out.keep_ fun b hb=>hT5.block b (fun e=>Q09 HO4.out HROW4.out (by decide) (by rw [hb,e])):OwnN w5 w.heap.size (.slice A3 k3 c3) (Q1N s.now o z));have hsp:=hes;have hg4:∀ j,(spl S.arr (c*5+2) E.toList)[j]?=if c*5+2<=j/\j<c*5+2+2 then E[j - (c*5+2)]? else S.arr[j]?:=fun j=>by
    rw [Q4I (by rw [Array.length_toList,hes]; exact hidx),Array.length_toList,hes];split
    ·rw [Array.getElem?_toList]
    ·rfl
   have hmc:w5.cell? ⟨gc,c*5+4,none⟩=some (.slice (S.mA c) s.moves.length (S.mC c)):=by
    rw [hD5.cell,hg4,if_neg (by omega)];exact HSRV.out 4 (by omega)
   have hfzc:=hD5.frozen (c*5+4);have HG4:=Lib.hid hg4;have HD5:=Lib.hid hD5;have HT5:=Lib.hid hT5;obtain⟨mn,hmn⟩:∃ k,k=s.moves.length:=⟨_,rfl⟩;rw [<- hmn] at hmc HMV5 hl;have HMN:=Lib.hid hmn;obtain⟨i0,hi0,hz0,hz1,hz2⟩:=info_parts mv_info;have hb6:=Q07 w5 (.cells #[.int .i64 o,.int .i64 z] 175);have HMV6:=Lib.hid (Q0f HMV5.out (fun b hb=>hb6.block b (Q0a HMV5.out hb).2):(w5.alloc (.cells #[.int .i64 o,.int .i64 z] 175)).ownsRow 0 175 2 (.slice (S.mA c) mn (S.mC c)) mn (Q0F s.moves));have HRD6:=Lib.hid (reads2 w5 o z);clear hT5 hD5 hg4 hmn hsp hmvg HROW4 HMV4 HO4 HD4 hb6;go_wp2_with (at_builtin; go_must (refine Q06 _ rfl (.tmp 46) (.tmp 50) 171 rfl 0 175 i0 _ 2 16 Tryz.underlying171 hi0 hz0 hz1 hz2 rfl (by omega) _ _ _ rfl HMV6.out _ (some ⟨w5.heap.size,0,none⟩) 1 1 [.int .i64 o,.int .i64 z] rfl HRD6.out ?d1 ?d2 ?d3 ?d4 ?_))
   case d1=>first | (intro u hu; simp only [List.mem_cons,List.not_mem_nil,or_false] at hu; rcases hu with rfl | rfl <;> rfl) | simp [Value.oneCell']
   case d2=>unfold maxLen; omega
   case d3=>omega
   case d4=>omega
   intro v6 w6 hown6 hg6 hor6;obtain⟨A8,c8,hv6,_⟩:=Q3A hown6;subst hv6;obtain⟨arr,harr⟩:∃ arr,arr=spl S.arr (c*5+2) E.toList:=⟨_,rfl⟩;rw [<- harr] at HD5 HG4;have hD6a:=HD5.out.alloc (.cells #[.int .i64 o,.int .i64 z] 175);have hmg:(Value.slice (S.mA c) mn (S.mC c)).ownBlock≠some gc:=Q09 HMV6.out hD6a (by decide);have hD6:=hD6a.grown hg6 (fun e=>hmg e.symm);have hO6a:OwnN (w5.alloc (.cells #[.int .i64 o,.int .i64 z] 175)) w.heap.size (.slice A3 k3 c3) (Q1N s.now o z):=HO5.out.below_ (Q07 w5 _);have hO6:OwnN w6 w.heap.size (.slice A3 k3 c3) (Q1N s.now o z):=hO6a.keep_ fun b hb=>hg6.block b (Q0a hO6a hb).2 (fun e=>by
    rcases HMV6.out.2 with⟨e1,_⟩ | ⟨g',cap',cur',e1,_,e3,_⟩
    ·rw [e1] at e; cases e
    ·have hB:Blk (w5.alloc (.cells #[.int .i64 o,.int .i64 z] 175)) g' 175 cur':=e3;rw [e1] at e;have e':b=g':=by simpa [Value.ownBlock] using e
     exact Q09 hO6a hB (by decide) (by rw [hb,e']))
   have hcm6:w6.cell? ⟨gc,c*5+4,none⟩=some (.slice (S.mA c) mn (S.mC c)):=by
    rw [hD6.cell,HG4.out,if_neg (by omega),HMN.out];exact HSRV.out 4 (by omega)
   have hfz6:=hD6.frozen (c*5+4);have hT7:=Q0c.setCell w6 ⟨gc,c*5+4,none⟩ (.slice A8 (mn+1) c8);have hD7:=hD6.set_ (c*5+4) (.slice A8 (mn+1) c8);have hO7:OwnN (w6.setCell ⟨gc,c*5+4,none⟩ (.slice A8 (mn+1) c8)) w.heap.size (.slice A3 k3 c3) (Q1N s.now o z):=hO6.keep_ fun b hb=>hT7.block b (fun e=>Q09 hO6 hD6 (by decide) (by have e':b=gc:=e; rw [hb,e']))
   have hM7:(w6.setCell ⟨gc,c*5+4,none⟩ (.slice A8 (mn+1) c8)).ownsRow 0 175 2 (.slice A8 (mn+1) c8) (mn+1) (Q0F (s.moves++[(o,z)])):=by
    have:Q0F (s.moves++[(o,z)])=Q0F s.moves++[.int .i64 o,.int .i64 z]:=by rw [Q4K]; rfl
    rw [this];exact Q0f hown6 (fun b hb=>hT7.block b (fun e=>Q09 hown6 hD6 (by decide) (by have e':b=gc:=e; rw [hb,e'])))
   have hasz:arr.size=S.cap*5:=by rw [harr,Q3P (by rw [Array.length_toList,hes]; exact hidx)]; exact hcap1
   have hobk:∀ b,(Value.slice (S.mA c) mn (S.mC c)).ownBlock=some b->MvC S c b:=fun b hb=>by
    cases hma:S.mA c with
    | none=>rw [hma] at hb; cases hb
    | some a=>rw [hma] at hb; exact⟨a,hma,by simpa [Value.ownBlock] using hb⟩
   have hz5:(w5.alloc (.cells #[.int .i64 o,.int .i64 z] 175)).heap.size=w5.heap.size+1:=by simp
   have hs4:=HB4.out.size;have ho7:Only (fun b=>b=gc\/MvC S c b) w (w6.setCell ⟨gc,c*5+4,none⟩ (.slice A8 (mn+1) c8)):=by
    have h4:Only (fun b=>b=gc\/MvC S c b) w w4:=Only.of_below HB4.out;have h5:Only (fun b=>b=gc\/MvC S c b) w4 w5:=Only.of_turned HT5.out (.inl rfl);have h6:Only (fun b=>b=gc\/MvC S c b) w5 (w5.alloc (.cells #[.int .i64 o,.int .i64 z] 175)):=Only.of_below (Q07 w5 _);have h7:Only (fun b=>b=gc\/MvC S c b) (w5.alloc (.cells #[.int .i64 o,.int .i64 z] 175)) w6:=⟨hg6.os,hg6.tape,hg6.output,hg6.size,fun b hb hn=>hg6.block b hb (fun e=>hn (.inr (hobk b e.symm)))⟩;have h8:Only (fun b=>b=gc\/MvC S c b) w6 (w6.setCell ⟨gc,c*5+4,none⟩ (.slice A8 (mn+1) c8)):=Only.of_turned hT7 (.inl rfl);exact(((h4.trans h5).trans h6).trans h7).trans h8
   have hdat:=ADat.moved HD.out HS.out HNN.out hg ho7 (arr:=arr.setIfInBounds (c*5+4) (.slice A8 (mn+1) c8)) hD7 (by simp [hasz]) (nA:=A3) (nC:=c3) (mA:=A8) (mC:=c8)
    (fun i j hi hne hj=>by
     rw [Array.getElem?_setIfInBounds,if_neg (by omega),HG4.out,if_neg (by omega)])
    (fun j hj=>by rw [Array.getElem?_setIfInBounds,if_neg (by omega),HG4.out,if_neg (by omega)])
    (by rw [Array.getElem?_setIfInBounds,if_neg (by omega),HG4.out,if_pos (by omega),HE.out,show c*5+2 - (c*5+2)=0 by omega,HF.out]; rfl)
    (by rw [Array.getElem?_setIfInBounds,if_neg (by omega),HG4.out,if_pos (by omega),HE.out,show c*5+3 - (c*5+2)=1 by omega,<- HK3.out]; rfl)
    (by rw [Array.getElem?_setIfInBounds,if_pos rfl,if_pos (by omega),HMN.out])
    (by rw [<- HK3.out]; exact hO7) (by rw [<- HMN.out]; exact hM7)
    (fun a ha=>by
     rcases hor6 with e | e
     ·left
      have e2:(Value.slice (S.mA c) mn (S.mC c)).ownBlock=some a.block:=by rw [<- e,ha]; rfl
      rcases HMV6.out.2 with⟨e1,_⟩ | ⟨g',cap',cur',e1,_,e3,_⟩
      ·rw [e1] at e2; cases e2
      ·rw [e1] at e2;have e':a.block=g':=by simpa [Value.ownBlock] using e2.symm
       injection e1 with e1
       rw [e',e1]
     ·right
      rw [ha] at e;have e':a.block=w5.heap.size+1:=by simpa [Value.ownBlock] using e
      have:=HT5.out.size;omega) HCOK.out
   have HDD:=Lib.hid hdat;have HOO:=Lib.hid ho7;clear hdat ho7 hM7 hO7 hD7 hT7 hO6 hO6a hD6 hD6a hown6 hg6 hor6 hobk hasz harr HMV5 HMV6 HRD6 HO5 HD5 hmc;go_wp2_with fail
   exact HPT.out _ _ hbt.out HDD.out HOO.out
  ·obtain⟨er,her,rfl⟩:=hbd hgood;have HB3:=Lib.hid (HB2.out.trans (hb3.mono hs2));have hb:¬ (Q18 m.chunks s.f z=false/\Q3v s.now o z):=fun h=>hgood h.2
   have HBAD:=Lib.hid hb;have heb:((er:Int) != 0)=true:=by simp; omega
   have HOO:=Lib.hid (Blk.newAt rfl:Blk (w3.alloc (.cells (crC 0 none 0 0) 77)) w3.heap.size 77 (crC 0 none 0 0));clear hb3 hgd hbd hgood hb HRP;go_wp2_with (refine Q01 (o:=⟨none,_,_,_,_,_⟩) rfl 77 (.tmp 10) (.tmp 34) rfl w3.heap.size 0 (crC 0 none 0 0) rfl rfl 77 (crC 0 none 0 0) (Blk.newAt rfl) (Q1V _ _ _ _) (by simp [crC]) (Q1p _ _ _ _) ?_; intro w4 hT4 hD4; rw [Q3d] at hD4)
   have hb4:Below w3.heap.size w3 w4:=hT4.below (Q07 w3 _) (Nat.le_refl _);exact HPF.out _ HBAD.out (HB3.out.trans (hb4.mono HB3.out.size))
end
section
open Go.RowKit Go.Maps
attribute [local irreducible] wpList
def anC (err:Int) (A:Option Addr) (n c:Nat) (ep:Int) (A':Option Addr) (n' c':Nat):Array Value:=#[.int .i64 err,.slice A n c,.int .i64 ep,.slice A' n' c']
theorem Q3e (e1 e2 p1 p2:Int) (A:Option Addr) (n c:Nat) (A':Option Addr) (n' c':Nat) (D:Option Addr) (m d:Nat) (D':Option Addr) (m' d':Nat) (xs ys:List UInt8) (xt yt:List Int) (w:World) (B:Nat)
 (hx:Q0d w B 1 A n (xs.map vb)) (hx':Q0d w B 1 A' n' (xt.map vn)) (hy:Q0d w B 1 D m (ys.map vb)) (hy':Q0d w B 1 D' m' (yt.map vn)) (hB:B<=w.heap.size) (hn:n<=maxLen) (hn':n'<=maxLen) (hm:m<=maxLen) (hm':m'<=maxLen) :
 Calls Tryz.prog 41 #[.agg (anC e1 A n c p1 A' n' c'),.agg (anC e2 D m d p2 D' m' d')] w fun e w'=>e=.returned (.bool (decide (e1=e2/\xs=ys/\p1=p2/\xt=yt)))/\Below w.heap.size w w':=by
 have HEB:=Lib.hid (fun W (hb:Below w.heap.size w W)=>Q34 A D n m c d xs ys W B B (hx.below (hb.mono hB)) (hy.below (hb.mono hB)) hn hm);have HEI:=Lib.hid (fun W (hb:Below w.heap.size w W)=>Q4l A' D' n' m' c' d' xt yt W B B (hx'.below (hb.mono hB)) (hy'.below (hb.mono hB)) hn' hm');clear hx hy hx' hy';unfold anC;go_enter Tryz.func41,Tryz.ntmps41
 go_upto_region 1 with fail
 have hX:Below w.heap.size w ((w.alloc (.cells #[.int .i64 e1,.slice A n c,.int .i64 p1,.slice A' n' c'] 47)).alloc (.cells #[.int .i64 e2,.slice D m d,.int .i64 p2,.slice D' m' d'] 47)):=((Below.refl _ _).alloc (Nat.le_refl _) _).alloc (by simp) _;have k1:Blk ((w.alloc (.cells #[.int .i64 e1,.slice A n c,.int .i64 p1,.slice A' n' c'] 47)).alloc (.cells #[.int .i64 e2,.slice D m d,.int .i64 p2,.slice D' m' d'] 47)) w.heap.size 47 #[.int .i64 e1,.slice A n c,.int .i64 p1,.slice A' n' c']:=(Blk.newAt rfl).alloc _;have k2:Blk ((w.alloc (.cells #[.int .i64 e1,.slice A n c,.int .i64 p1,.slice A' n' c'] 47)).alloc (.cells #[.int .i64 e2,.slice D m d,.int .i64 p2,.slice D' m' d'] 47)) (w.heap.size+1) 47 #[.int .i64 e2,.slice D m d,.int .i64 p2,.slice D' m' d']:=Blk.newAt (by simp);generalize World.alloc _ _=w1 at hX k1 k2 ⊢;have c0:=k1.cell 0;have c1:=k1.cell 1;have c2:=k1.cell 2;have c3:=k1.cell 3;have d0:=k2.cell 0;have d1:=k2.cell 1;have d2:=k2.cell 2;have d3:=k2.cell 3;simp only [List.getElem?_toArray,List.getElem?_cons_zero,List.getElem?_cons_succ] at c0 c1 c2 c3 d0 d1 d2 d3;have HB:=Lib.hid hX;have HE1:=Lib.hid (HEB.out w1 hX);have HE2:=Lib.hid (fun q=>HEI.out (w1.drewN q) (Q0z HB.out q));clear k1 k2 hX HEB HEI;obtain⟨g1,hg1⟩:∃ g,g=w.heap.size:=⟨_,rfl⟩;obtain⟨g3,hg3⟩:∃ g,g=w.heap.size+1:=⟨_,rfl⟩;rw [<- hg1] at c0 c1 c2 c3;rw [<- hg3] at d0 d1 d2 d3 ⊢;rw [<- hg1];clear hg1 hg3;go_wp2_with (first
  | (go_at_call 14; refine HE1.out.mono ?_; rintro _ _ ⟨rfl,q,rfl⟩)
  | (go_at_call 75; refine(HE2.out _).mono ?_; rintro _ _ ⟨rfl,q2,rfl⟩))
 all_goals go_ret
 all_goals refine⟨Q0N ?_,by first | exact HB.out | exact Q0z HB.out _ | exact Q0z (Q0z HB.out _) _⟩
 all_goals clear HB HE1 HE2 c0 c1 c2 c3 d0 d1 d2 d3
 all_goals rw [Bool.eq_iff_iff]
 all_goals simp_all
end
section
open Go.RowKit Go.Maps
attribute [local irreducible] wpList Q0i
theorem Q0P (err:Int) (A:Option Addr) (n c:Nat) (ep:Int) (A':Option Addr) (n' c':Nat):(Tryz.prog.info? 47).map (·.size)=some (anC err A n c ep A' n' c').size:=by kernel_rfl
theorem Q0G (err:Int) (A:Option Addr) (n c:Nat) (ep:Int) (A':Option Addr) (n' c':Nat):(anC err A n c ep A' n' c').all (·.oneCell')=true:=by simp [anC,Value.oneCell']
theorem Q19 (D:Array Value) (h:D.size=4) (err:Int) (A:Option Addr) (n c:Nat) (ep:Int) (A':Option Addr) (n' c':Nat):spl D 0 (anC err A n c ep A' n' c').toList=anC err A n c ep A' n' c':=Q08 _ _ (by rw [h]; rfl)
def AnsN (w:World) (B:Nat) (D:Array Value) (x:Ans):Prop:=∃ A c,D=anC x.err none 0 0 x.epoch A x.nodes.length c/\OwnN w B (.slice A x.nodes.length c) x.nodes
theorem AnsN.more {w:World} {B B':Nat} {D:Array Value} {x:Ans} (h:AnsN w B D x) (hB:B'<=B):AnsN w B' D x:=by
 obtain⟨A,c,h1,h2⟩:=h;exact⟨A,c,h1,OwnN.more h2 hB⟩
theorem AnsN.below {w w':World} {B:Nat} {D:Array Value} {x:Ans} (h:AnsN w B D x) (hb:Below w.heap.size w w'):AnsN w' B D x:=by
 obtain⟨A,c,h1,h2⟩:=h;exact⟨A,c,h1,h2.below_ hb⟩
theorem AnsN.bare (w:World) (B:Nat) (e p:Nat):AnsN w B (anC (e:Int) none 0 0 (p:Int) none 0 0) (errA e p):=⟨none,0,rfl,OwnN.nil_ _ _⟩
theorem QaK (w:World) (g gc:Nat) (t:Option Addr) (N:Nat->Prop) (m:AM) (S:ASl) (h:ADat w g gc t N m S) (x:Wish) (A:Option Addr) (n c:Nat) (A':Option Addr) (n' c':Nat) (hc:31<=x.client/\x.client<=34) :
 Calls Tryz.prog 92 #[.pointer (some ⟨g,0,none⟩),.agg (Q05 x A n c A' n' c')] w fun r w'=>∃ D,r=.returned (.tuple #[.agg D,.bool (oldQ m x).2])/\AnsN w' w.heap.size D (oldQ m x).1/\Below w.heap.size w w':=by
 obtain⟨j,hj⟩:∃ j,j=(x.client - 31).toNat:=⟨_,rfl⟩;have hj4:j<4:=by omega
 have hjc:x.client - 31=(j:Int):=by omega
 have hjI:(j:Int)<4:=by omega
 have lg:=h.lt.1;have hlc:=fun q hq=>Q8o t gc m S j q hj4 hq
 have hlo:=h.ok.lst j;have hf:=(h.nodes j hj4).rd;have hnb:=hlo.2.1.bound;have hX:Below w.heap.size w ((w.alloc (.cells (Q05 x A n c A' n' c') 44)).alloc (.cells (anC 0 none 0 0 0 none 0 0) 47)):=((Below.refl _ _).alloc (Nat.le_refl _) _).alloc (by simp) _;have k3:Blk ((w.alloc (.cells (Q05 x A n c A' n' c') 44)).alloc (.cells (anC 0 none 0 0 0 none 0 0) 47)) w.heap.size 44 (Q05 x A n c A' n' c'):=(Blk.newAt rfl).alloc _;have k4:Blk ((w.alloc (.cells (Q05 x A n c A' n' c') 44)).alloc (.cells (anC 0 none 0 0 0 none 0 0) 47)) (w.heap.size+1) 47 (anC 0 none 0 0 0 none 0 0):=Blk.newAt (by simp);have hz1:((w.alloc (.cells (Q05 x A n c A' n' c') 44)).alloc (.cells (anC 0 none 0 0 0 none 0 0) 47)).heap.size=w.heap.size+2:=by simp
 have hO:oldQ m x=if x.stamp<((Q0u m j).1:Int) then(errA 172 0,true) else if ((Q0u m j).1:Int)<x.stamp then(okA,false) else((Q0u m j).2,true):=by
  unfold oldQ; rw [<- hj]
 have hsz:(Q2v S m j).size=5:=rfl;have hon:=Q7F S m j;have e0:Q2v S m j=#[.int .i64 ((Q0u m j).1:Int),.int .i64 ((Q0u m j).2.err:Int),.slice none 0 0,.int .i64 ((Q0u m j).2.epoch:Int),.slice (S.lA j) (Q0u m j).2.nodes.length (S.lC j)]:=rfl;generalize Q0u m j=y at hO hlo hf e0 hnb;obtain⟨st,an⟩:=y;simp only at hO hlo hf e0 hnb;generalize Q2v S m j=D at hlc hsz hon e0;have HB:=Lib.hid (fun(W:World) (hb:Below w.heap.size w W)=>h.blk.below' hb);have HF:=Lib.hid (fun(W:World) (hb:Below w.heap.size w W)=>hf.below hb);have HLC:=Lib.hid hlc;have HSZ:=Lib.hid hsz;have HON:=Lib.hid hon;have HAN:=Lib.hid hlo.2.1;have HE:=Lib.hid e0;have HO:=Lib.hid hO;have HX:=Lib.hid hX;have K3:=Lib.hid k3;have K4:=Lib.hid k4;have HZ1:=Lib.hid hz1;have hZ:anC 0 none 0 0 0 none 0 0=#[.int .i64 0,.slice none 0 0,.int .i64 0,.slice none 0 0]:=rfl;obtain⟨g3,hg3⟩:∃ b,b=w.heap.size:=⟨_,rfl⟩;obtain⟨g4,hg4⟩:∃ b,b=w.heap.size+1:=⟨_,rfl⟩;generalize oldQ m x=ov at HO ⊢;obtain⟨nn,hnn⟩:∃ k,k=an.nodes.length:=⟨_,rfl⟩;rw [<- hnn] at HE HF hnb;have HNN:=Lib.hid hnn;clear h hlc hlo hf hX k3 k4 hz1 hO hsz hon e0 hj hnn;go_enter Tryz.func92,Tryz.ntmps92
 go_upto_region 1 with fail
 rw [<- hZ];generalize World.alloc (World.alloc w _) _=w1 at HX K3 K4 HZ1 ⊢;rw [<- hg4] at K4 ⊢;rw [<- hg3] at K3 ⊢;have hz1:=HZ1.out;have hgw3:w.heap.size<=g3:=by omega
 have hgw4:w.heap.size<=g4:=by omega
 have hg34:g3≠g4:=by omega
 have hw1:w.heap.size<=w1.heap.size:=by omega
 have hl3:=K3.out.lt;have hl4:=K4.out.lt;clear hg3 hg4 HZ1 hz1 hZ;refine Q0l 9 37 (fun jx W v=>match jx with | 0=>v=.pointer (some ⟨g,0,none⟩) | 1=>v=.pointer (some ⟨g3,0,none⟩) | 2=>v=.int .i64 x.client | 3=>v=.int .i64 (j:Int) | 4=>v=.pointer (some ⟨g,0,none⟩) | 5=>v=.pointer (some ⟨g,2,none⟩) | 6=>v=.pointer (some ⟨g,2+j*5,none⟩) | 7=>v=.agg D | _=>∃ g6,v=.pointer (some ⟨g6,0,none⟩)/\w1.heap.size<=g6/\Blk W g6 102 Q5M) [7,8,9,10,11,12,13,14,6] (by kernel_rfl) (by kernel_rfl) (by kernel_rfl) (by simp) (by kernel_rfl) (fun jx=>?last) ?heads ?_
 case last =>
  match jx with
  | 0 | 1 | 2 | 3 | 4 | 5 | 6 | 7=>exact Q16.pure _
  | jx+8=>exact fun W W' v ⟨g3,h1,h2,h3⟩ hb=>⟨g3,h1,h2,h3.below' hb⟩
 case heads =>
  simp only [List.take_succ_cons,List.take_zero];refine⟨?_,?_,?_,?_,?_,?_,?_,?_,?_,trivial⟩;all_goals intro a W hb hkp hd
  ·have e0:a.tmps[0]?.getD undef=.pointer (some ⟨g,0,none⟩):=hkp.get (by kernel_rfl) rfl;exact Q00 rfl _ (by go_simp) rfl
  ·have e0:a.tmps[3]?.getD undef=.pointer (some ⟨g3,0,none⟩):=hkp.get (by kernel_rfl) rfl;exact Q00 rfl _ (by go_simp) rfl
  ·have e0:(_:Value)=.pointer (some ⟨g3,0,none⟩):=(hd 1 (by kernel_rfl)).get 8 rfl rfl;have cc:W.cell? ⟨g3,0,none⟩=some (.int .i64 x.client):=((K3.out.below' hb).cell 0).trans rfl;exact Q00 rfl _ (by go_simp) rfl
  ·have e0:(_:Value)=.int .i64 x.client:=(hd 2 (by kernel_rfl)).get 9 rfl rfl;exact Q00 rfl (.int .i64 (j:Int)) (by go_simp; rw [IntKind.wrap_i64]; omega) rfl
  ·have e0:(_:Value)=.pointer (some ⟨g,0,none⟩):=(hd 0 (by kernel_rfl)).get 7 rfl rfl;exact Q00 rfl _ (by go_simp) rfl
  ·have e0:(_:Value)=.pointer (some ⟨g,0,none⟩):=(hd 4 (by kernel_rfl)).get 11 rfl rfl;exact Q00 rfl _ (by go_simp) rfl
  ·have e0:(_:Value)=.pointer (some ⟨g,2,none⟩):=(hd 5 (by kernel_rfl)).get 12 rfl rfl;have e1:(_:Value)=.int .i64 (j:Int):=(hd 3 (by kernel_rfl)).get 10 rfl rfl;exact Q00 rfl _ (by go_simp) rfl
  ·have e0:a.eval (.tmp 13)=.pointer (some ⟨g,2+j*5,none⟩):=(hd 6 (by kernel_rfl)) _ 13 rfl rfl;exact Q00 rfl (.agg D) (Q0m 102 (.tmp 13) rfl g (2+j*5) 5 e0 105 _ D _ (HB.out W (HX.out.trans (hb.mono hw1))) Tryz.underlying102 rfl rfl HSZ.out HLC.out) rfl
  ·refine Q21 rfl (.pointer (some ⟨W.heap.size,0,none⟩)) (W.alloc (.cells Q5M 102)) (by unfold Q5M; go_simp) ((Below.refl _ _).alloc (Nat.le_refl _) _) ⟨W.heap.size,rfl,hb.size,Blk.new W _ _⟩
 intro f W hb hd;have h14:f 14=.agg D:=hd 7 (by omega) _ 14 rfl rfl;obtain⟨g6,h6,hg6,hB6⟩:∃ g6,f 6=.pointer (some ⟨g6,0,none⟩)/\w1.heap.size<=g6/\Blk W g6 102 Q5M:=hd 8 (by omega) _ 6 rfl rfl;have HB6:=Lib.hid hB6;have HBW:=Lib.hid hb;simp only [Q0H,List.drop_succ_cons,List.drop_zero,h14,h6];clear hd hB6 hb;try simp only [Act.put,sA1,sA2,sA3]
 go_upto_region 2 with(refine Q01 (o:=⟨none,_,_,_,_,_⟩) rfl 102 (.tmp 6) (.tmp 14) rfl g6 0 D rfl rfl 102 _ HB6.out (by rw [HSZ.out]; exact Q4H) (by rw [HSZ.out]; simp [Q5M]) HON.out ?_; intro w5 hT5 hD5; rw [Q08 _ _ (by rw [HSZ.out]; rfl)] at hD5)
 have hb5:Below w1.heap.size w1 w5:=hT5.below HBW.out hg6;rw [HE.out] at hD5;have c60:w5.cell? ⟨g6,0,none⟩=some (.int .i64 (st:Int)):=(hD5.cell 0).trans rfl;have c64:w5.cell? ⟨g6,4,none⟩=some (.slice (S.lA j) nn (S.lC j)):=(hD5.cell 4).trans rfl;have HD5:=Lib.hid hD5;have K35:=Lib.hid (K3.out.below' hb5);have K45:=Lib.hid (K4.out.below' hb5);have c31:w5.cell? ⟨g3,1,none⟩=some (.int .i64 x.stamp):=(K35.out.cell 1).trans rfl;have HB5:=Lib.hid (HX.out.trans (hb5.mono hw1));have hs5:=HB5.out.size;have hs15:=hb5.size;have hgw6:w.heap.size<=g6:=by omega
 have hg46:g4≠g6:=by omega
 have hg6l:=hD5.lt;have hg4l:=K45.out.lt;have hF5:=(HF.out w5 HB5.out).more hs5;have HCL:=Lib.hid (Q2Q (S.lA j) nn (S.lC j) an.nodes w5 w5.heap.size hF5 (Nat.le_refl _) (by omega));clear hT5 hD5 hb5 hF5 HB6 HBW HF HB K3 K4 HX;by_cases h1:x.stamp<(st:Int)
 ·have hov:ov=(errA 172 0,true):=by rw [HO.out,if_pos h1]
  subst hov;go_wp2_with (refine Q01 (o:=⟨none,_,_,_,_,_⟩) rfl 47 (.tmp 4) (.tmp 21) rfl g4 0 (anC 172 none 0 0 0 none 0 0) rfl rfl 47 _ K45.out (Q0P _ _ _ _ _ _ _ _) (by simp [anC]) (Q0G _ _ _ _ _ _ _ _) ?_; intro w7 hT7 hD7; rw [Q19 _ rfl] at hD7)
  exact bodyPost_ret (Q0b rfl _ _ g4 4 47 _ _ rfl hD7 Tryz.underlying47 rfl rfl rfl) rfl ⟨anC 172 none 0 0 0 none 0 0,rfl,AnsN.bare _ _ 172 0,hT7.below HB5.out hgw4⟩
 ·by_cases h2:(st:Int)<x.stamp
  ·have hov:ov=(okA,false):=by rw [HO.out,if_neg h1,if_pos h2]
   subst hov;go_wp2_with (refine Q01 (o:=⟨none,_,_,_,_,_⟩) rfl 47 (.tmp 4) (.tmp 28) rfl g4 0 (anC 0 none 0 0 0 none 0 0) rfl rfl 47 _ K45.out (Q0P _ _ _ _ _ _ _ _) (by simp [anC]) (Q0G _ _ _ _ _ _ _ _) ?_; intro w7 hT7 hD7; rw [Q19 _ rfl] at hD7)
   exact bodyPost_ret (Q0b rfl _ _ g4 4 47 _ _ rfl hD7 Tryz.underlying47 rfl rfl rfl) rfl ⟨anC 0 none 0 0 0 none 0 0,rfl,AnsN.bare _ _ 0 0,hT7.below HB5.out hgw4⟩
  ·have hov:ov=(an,true):=by rw [HO.out,if_neg h1,if_neg h2]
   subst hov;go_wp2_with fail
   refine HCL.out.mono ?_;rintro _ w6 ⟨v,rfl,ho6,hb6⟩;obtain⟨A6,k6,hv6,q1,q2,r6,q3⟩:=Q0v ho6;rw [<- HNN.out] at hv6;subst hv6;have hs6:=hb6.size;have HB6:=Lib.hid (HB5.out.trans (hb6.mono hs5));have hD6:=HD5.out.below' hb6;have K46:=Lib.hid (K45.out.below' hb6);have f64:=hD6.frozen 4;have c66:w6.cell? ⟨g6,4,none⟩=some (.slice (S.lA j) nn (S.lC j)):=(hD6.cell 4).trans rfl;have hD7:=hD6.set_ 4 (.slice A6 nn k6);have hT7:=Q0c.setCell w6 ⟨g6,4,none⟩ (.slice A6 nn k6);have HD7:=Lib.hid (show Blk (w6.setCell ⟨g6,4,none⟩ (.slice A6 nn k6)) g6 102 #[.int .i64 (st:Int),.int .i64 (an.err:Int),.slice none 0 0,.int .i64 (an.epoch:Int),.slice A6 nn k6] from hD7);have HO7:=Lib.hid (ho6.keep_ (w':=w6.setCell ⟨g6,4,none⟩ (.slice A6 nn k6)) fun b hb=>hT7.block b (fun e=>by have:=ho6.ge_ hb; have e':b=g6:=e; omega));have K47:=Lib.hid ((hT7.block g4 hg46).trans K46.out:Blk (w6.setCell ⟨g6,4,none⟩ (.slice A6 nn k6)) g4 47 (anC 0 none 0 0 0 none 0 0));have HB7:=Lib.hid (HB6.out.setCell (p:=⟨g6,4,none⟩) hgw6 (.slice A6 nn k6));clear hD6 hD7 hT7 ho6 hb6 r6 q3 HCL K45 K46 c60 c64;go_upto_region 7 with fail
   generalize w6.setCell ⟨g6,4,none⟩ (.slice A6 nn k6)=w7 at HD7 HO7 K47 HB7 ⊢;clear f64 c66;obtain⟨C,hC⟩:∃ C,C=anC (an.err:Int) none 0 0 (an.epoch:Int) A6 nn k6:=⟨_,rfl⟩;have hcs:C.size=4:=by rw [hC]; rfl
   have hco:C.all (·.oneCell')=true:=by rw [hC]; exact Q0G _ _ _ _ _ _ _ _
   obtain⟨E,hE⟩:∃ E:Array Value,E=#[.int .i64 (st:Int),.int .i64 (an.err:Int),.slice none 0 0,.int .i64 (an.epoch:Int),.slice A6 nn k6]:=⟨_,rfl⟩;rw [<- hE] at HD7;have hec:∀ q,q<4->E[1+q]?=C[q]?:=fun q hq=>by
    rw [hE,hC];obtain rfl | rfl | rfl | rfl:q=0\/q=1\/q=2\/q=3:=by omega
    iterate 4 ·rfl
   have HEC:=Lib.hid hec;have HC:=Lib.hid hC;clear hC hE hec;go_wp2_with (first
    | (refine Q03 (o:=⟨some 36,_,_,_,_,_⟩) rfl 47 (.tmp 35) rfl g6 1 4 rfl 102 _ C _ HD7.out Tryz.underlying47 rfl rfl hcs HEC.out ?_)
    | (refine Q01 (o:=⟨none,_,_,_,_,_⟩) rfl 47 (.tmp 4) (.tmp 36) rfl g4 0 C rfl rfl 47 _ K47.out (by rw [hcs]; exact Q0P 0 none 0 0 0 none 0 0) (by rw [hcs]; simp [anC]) hco ?_; intro w8 hT8 hD8; rw [Q08 _ _ (by rw [hcs]; rfl)] at hD8))
   refine bodyPost_ret (Q0b rfl _ _ g4 4 47 _ _ rfl hD8 Tryz.underlying47 rfl rfl hcs) rfl ⟨C,rfl,⟨A6,k6,by rw [HC.out,HNN.out],?_⟩,hT8.below HB7.out hgw4⟩;rw [<- HNN.out];exact OwnN.more (HO7.out.keep_ fun b hb=>hT8.block b (fun e=>by have:=HO7.out.ge_ hb; omega)) hs5
end
section
open Go.RowKit Go.Maps
attribute [local irreducible] wpList Q0i
structure Q1B (w w':World) (V:ALoc) (N:Nat->Prop) (m':AM) (L:List (List UInt8)) (asked q:Nat):Prop where
 vat:AAt w' V N m'
 book:∃ L' a',Q0A w' V.k L' a'/\a'<=asked+q/\(∀ x,x∈L->x∈L')/\Q1X L' (Q0g m')
 only:Only (V.hasN N) w w'
theorem Q1B.idle {w w':World} {V:ALoc} {N:Nat->Prop} {m:AM} {L:List (List UInt8)} {asked q:Nat} (hb:Below w.heap.size w w') (h:AAt w V N m) (hbk:Q0A w V.k L asked) (hin:Q1X L (Q0g m)):Q1B w w' V N m L asked q :=
 ⟨h.below hb,⟨L,asked,hbk.below hb,by omega,fun _ h=>h,hin⟩,Only.of_below hb⟩
theorem Q1B.under {w w1 w2:World} {V:ALoc} {N:Nat->Prop} {m:AM} {L:List (List UInt8)} {asked q:Nat} (hb:Below w.heap.size w w1) (h:Q1B w1 w2 V N m L asked q):Q1B w w2 V N m L asked q :=
 ⟨h.vat,h.book,(Only.of_below hb).trans h.only⟩
theorem Q1B.after {w w1 w2:World} {V:ALoc} {N:Nat->Prop} {m:AM} {L:List (List UInt8)} {asked q:Nat} (h:Q1B w w1 V N m L asked q) (hb:Below w1.heap.size w1 w2):Q1B w w2 V N m L asked q:=by
 obtain⟨L',a',h1,h2,h3,h4⟩:=h.book;exact⟨h.vat.below hb,⟨L',a',h1.below hb,h2,h3,h4⟩,h.only.trans (Only.of_below hb)⟩
theorem AAt.hasN_lt {w:World} {V:ALoc} {N:Nat->Prop} {m:AM} {S:ASl} (hd:ADat w V.g V.gc (some ⟨V.T.t,0,none⟩) N m S) (hN:∀ b,N b->b<w.heap.size) (hall:∀ b,V.all b->N b) {b:Nat} (h:b=V.gc\/IsMv S m.chunks.length b):b<w.heap.size:=by
 rcases h with e | e
 ·exact hN b (hall b (.inr (.inl e)))
 ·exact hd.mlt e
theorem leafQ_mv {m:AM} {c i:Nat} {s:Srv} {o z:Int} (h:i≠c):Q1w (mvQ m c s o z) i=Q1w m i:=by
 unfold Q1w Q5l;split
 ·have:(mvQ m c s o z).chunks[i]?=m.chunks[i]?:=by
   unfold mvQ;simp only [List.getElem?_set];rw [if_neg (fun e=>h e.symm)]
  rw [this]
 ·rfl
theorem Qbt {m:AM} {c:Nat} {s:Srv} {o z:Int} (hc:c<6):(Q0g m).set c (Q1w (mvQ m c s o z) c)=Q0g (mvQ m c s o z):=by
 apply List.ext_getElem?
 intro i;rw [List.getElem?_set,Q0B];rcases Nat.lt_or_ge i 6 with hi | hi
 ·rw [Q1P _ i hi];by_cases e:c=i
  ·subst e; rw [if_pos rfl,if_pos hi,Q1P _ c hi]
  ·rw [if_neg e,Q1P _ i hi,leafQ_mv (fun q=>e q.symm)]
 ·rw [if_neg (by omega),List.getElem?_eq_none (by rw [Q0B]; exact hi),List.getElem?_eq_none (by rw [Q0B]; exact hi)]
def AnPost (w:World) (V:ALoc) (N:Nat->Prop) (L:List (List UInt8)) (asked:Nat) (p:AM×Ans) (r:Ending) (w':World):Prop :=
 ∃ D,r=.returned (.agg D)/\AnsN w' w.heap.size D p.2/\D.size=4/\Q1B w w' V N p.1 L asked 3
theorem zSrv_eq:Q7k=#[.int .i64 0,.slice none 0 0,.int .i64 0,.slice none 0 0,.slice none 0 0]:=rfl
theorem anZ:anC 0 none 0 0 0 none 0 0=#[.int .i64 0,.slice none 0 0,.int .i64 0,.slice none 0 0]:=rfl
theorem Qa2 (w:World) (V:ALoc) (N:Nat->Prop) (m:AM) (L:List (List UInt8)) (asked:Nat) (h:AAt w V N m) (hN:∀ b,N b->b<w.heap.size) (hbk:Q0A w V.k L asked) (hin:Q1X L (Q0g m)) (has:asked<=800000)
 (x:Wish) (A:Option Addr) (n c:Nat) (A':Option Addr) (n' c':Nat) (hx:inQ x=true) :
 Calls Tryz.prog 98 #[.pointer (some ⟨V.g,0,none⟩),.agg (Q05 x A n c A' n' c')] w (AnPost w V N L asked (Q0s m x)):=by
 obtain⟨S,hd⟩:=h.dat;obtain⟨_,_,_,_,b1,b2,hkind⟩:=Q2L hx;obtain⟨q,hq⟩:∃ q,q=(x.block - 1).toNat:=⟨_,rfl⟩;have hqb:x.block - 1=(q:Int):=by omega
 have hq2:q<2:=by omega
 have hlt:=hd.lt;have hX:Below w.heap.size w ((w.alloc (.cells (Q05 x A n c A' n' c') 44)).alloc (.cells (anC 0 none 0 0 0 none 0 0) 47)):=((Below.refl _ _).alloc (Nat.le_refl _) _).alloc (by simp) _;have k3:Blk ((w.alloc (.cells (Q05 x A n c A' n' c') 44)).alloc (.cells (anC 0 none 0 0 0 none 0 0) 47)) w.heap.size 44 (Q05 x A n c A' n' c'):=(Blk.newAt rfl).alloc _;have k4:Blk ((w.alloc (.cells (Q05 x A n c A' n' c') 44)).alloc (.cells (anC 0 none 0 0 0 none 0 0) 47)) (w.heap.size+1) 47 (anC 0 none 0 0 0 none 0 0):=Blk.newAt (by simp);have hz1:((w.alloc (.cells (Q05 x A n c A' n' c') 44)).alloc (.cells (anC 0 none 0 0 0 none 0 0) 47)).heap.size=w.heap.size+2:=by simp
 have HV:=Lib.hid h;have HNL:=Lib.hid hN;have HBK:=Lib.hid hbk;have HIN:=Lib.hid hin;have HD:=Lib.hid (fun(W:World) (hb:Below w.heap.size w W)=>hd.below hb);have HD0:=Lib.hid hd;have HX:=Lib.hid hX;have K3:=Lib.hid k3;have K4:=Lib.hid k4;have HZ1:=Lib.hid hz1;have HK:=Lib.hid hkind;have HQ:=Lib.hid hq;obtain⟨P,hP⟩:∃ P,P=AnPost w V N L asked (Q0s m x):=⟨_,rfl⟩;rw [<- hP];have HA:Hid (Q0s m x=match m.chunks[q]? with | none=>(m,errA 180 0) | some s=>if x.kind=3 then(m,⟨0,[],s.moves.length,s.now⟩) else if x.client≠34 then(m,errA 180 0) else if ¬ x.old∈s.now\/Q18 m.chunks s.f x.new=true then(m,errA 180 s.moves.length) else if s.moves.length+1=22 then(m,errA 5 0) else(mvQ m q s x.old x.new,errA 0 (s.moves.length+1))):=Lib.hid (by unfold Q0s; rw [<- hq]; rfl);have HPI:=Lib.hid (show ∀ w' a D,Q0s m x=(m,a)->AnsN w' w.heap.size D a->D.size=4->Below w.heap.size w w'->P (.returned (.agg D)) w' from fun w' a D ha hD hs hb=>by
  rw [hP,ha]; exact⟨D,rfl,hD,hs,Q1B.idle hb h hbk hin⟩)
 have HPM:=Lib.hid (show ∀ w' m' a D,Q0s m x=(m',a)->AnsN w' w.heap.size D a->D.size=4->Q1B w w' V N m' L asked 3->P (.returned (.agg D)) w' from fun w' m' a D ha hD hs hb=>by
  rw [hP,ha]; exact⟨D,rfl,hD,hs,hb⟩)
 obtain⟨g3,hg3⟩:∃ b,b=w.heap.size:=⟨_,rfl⟩;obtain⟨g4,hg4⟩:∃ b,b=w.heap.size+1:=⟨_,rfl⟩;obtain⟨nc,hnc⟩:∃ k,k=m.chunks.length:=⟨_,rfl⟩;have hnc2:nc<=2:=by rw [hnc]; exact hd.ok.one.2
 have C1:=Lib.hid (fun(W:World) (hb:Below w.heap.size w W)=>(show W.cell? ⟨V.g,1,none⟩=some (.slice (some ⟨V.gc,0,none⟩) nc S.cap) from by rw [hnc]; exact((hd.below hb).blk.cell 1).trans (Q1D _ _ _ _ 1 (by omega))));have HNC:=Lib.hid hnc;have hl1:=hlt.1;have hl2:=hlt.2;clear h hN hbk hin hd hX k3 k4 hz1 hP hq hkind hx hlt hnc;go_enter Tryz.func98,Tryz.ntmps98
 go_upto_region 1 with fail
 rw [<- anZ];generalize World.alloc (World.alloc w _) _=w1 at HX K3 K4 HZ1 ⊢;rw [<- hg4] at K4 ⊢;rw [<- hg3] at K3 ⊢;have hz1:=HZ1.out;have hgw3:w.heap.size<=g3:=by omega
 have hgw4:w.heap.size<=g4:=by omega
 have hg34:g3≠g4:=by omega
 have hw1:w.heap.size<=w1.heap.size:=by omega
 have hl3:=K3.out.lt;have hl4:=K4.out.lt;clear hg3 hg4 HZ1 hz1;have c35:w1.cell? ⟨g3,5,none⟩=some (.int .i64 x.block):=(K3.out.cell 5).trans rfl;have c1:=C1.out w1 HX.out;by_cases hqn:nc<=q
 ·have hqI:(nc:Int)<=(q:Int):=by omega
  have ha:Q0s m x=(m,errA 180 0):=by rw [HA.out,List.getElem?_eq_none (by rw [<- HNC.out]; exact hqn)]
  have HAA:=Lib.hid ha;clear ha;go_wp2_with (refine Q01 (o:=⟨none,_,_,_,_,_⟩) rfl 47 (.tmp 4) (.tmp 18) rfl g4 0 (anC 180 none 0 0 0 none 0 0) rfl rfl 47 _ K4.out (Q0P _ _ _ _ _ _ _ _) (by simp [anC]) (Q0G _ _ _ _ _ _ _ _) ?_; intro w7 hT7 hD7; rw [Q19 _ rfl] at hD7)
  refine bodyPost_ret (Q0h rfl _ _ g4 4 47 _ _ rfl hD7 Tryz.underlying47 rfl rfl rfl) rfl ?_;exact HPI.out _ _ _ HAA.out (AnsN.bare _ _ 180 0) rfl (hT7.below HX.out hgw4)
 ·have hqI:(q:Int)<(nc:Int):=by omega
  have hqN:¬ (nc:Int)<=(q:Int):=by omega
  have hql:q<m.chunks.length:=by have:=HNC.out; omega
  obtain⟨s,hs⟩:∃ s,m.chunks[q]?=some s:=⟨_,List.getElem?_eq_getElem hql⟩;have ha1:Q0s m x=if x.kind=3 then(m,⟨0,[],s.moves.length,s.now⟩) else if x.client≠34 then(m,errA 180 0) else if ¬ x.old∈s.now\/Q18 m.chunks s.f x.new=true then(m,errA 180 s.moves.length) else if s.moves.length+1=22 then(m,errA 5 0) else(mvQ m q s x.old x.new,errA 0 (s.moves.length+1)):=by rw [HA.out,hs]
  have HA1:=Lib.hid ha1;have HS:=Lib.hid hs;have hsk:=HD0.out.ok.srv s (List.mem_of_getElem? hs);have hnow:=hsk.now_ok;have hml:=hsk.len;have HNOW:=Lib.hid hnow;have hns:=hnow.short;have hnf:=hnow.faults;have HLC:=Lib.hid (HD0.out.srv q s hs);have HROW1:=Lib.hid (HD.out w1 HX.out).row;have HNRD:=Lib.hid (HD0.out.now q s hs).rd;obtain⟨at_,hat⟩:∃ k,k=s.moves.length:=⟨_,rfl⟩;obtain⟨nn,hnn⟩:∃ k,k=s.now.length:=⟨_,rfl⟩;have hDe:srvC s S q=#[.int .i64 (s.f:Int),.slice (S.fA q) s.first.length (S.fC q),.int .i64 (s.f:Int),.slice (S.nA q) nn (S.nC q),.slice (S.mA q) at_ (S.mC q)]:=by rw [hat,hnn]; rfl
  obtain⟨D,hD⟩:∃ D,D=srvC s S q:=⟨_,rfl⟩;have hDs:D.size=5:=by rw [hD]; rfl
  have hDo:D.all (·.oneCell')=true:=by rw [hD]; exact Qbf s S q
  rw [<- hD] at HLC hDe;rw [<- hat] at hml;rw [<- hnn] at HNRD hns;have HDE:=Lib.hid hDe;have HAT:=Lib.hid hat;have HNN:=Lib.hid hnn;clear hs ha1 hsk hnow hat hnn hD hDe hqn;go_upto_region 5 with(first
   | (refine Q03 (o:=⟨some 25,_,_,_,_,_⟩) rfl 173 (.tmp 24) rfl V.gc (q*5) 5 rfl 173 _ D _ HROW1.out Tryz.underlying173 rfl rfl hDs HLC.out ?_)
   | (refine Q01 (o:=⟨none,_,_,_,_,_⟩) rfl 173 (.tmp 6) (.tmp 25) rfl w1.heap.size 0 D rfl rfl 173 Q7k (by rw [zSrv_eq]; exact Blk.newAt rfl) (by rw [hDs]; exact Q6v) (by rw [hDs]; simp [Q7k]) hDo ?_; intro w2 hT2 hD2; rw [Q08 _ _ (by rw [hDs]; rfl)] at hD2))
  have hb2:Below w1.heap.size w1 w2:=hT2.below (Q07 w1 _) (Nat.le_refl _);obtain⟨g6,hg6⟩:∃ g,g=w1.heap.size:=⟨_,rfl⟩;rw [<- hg6] at hD2 ⊢;have HB2:=Lib.hid (HX.out.trans (hb2.mono hw1));have HD2:=Lib.hid hD2;have K32:=Lib.hid (K3.out.below' hb2);have K42:=Lib.hid (K4.out.below' hb2);have hs2:=HB2.out.size;have hs12:=hb2.size;have hg6l:=hD2.lt;have hg36:g3≠g6:=by omega
  have hg46:g4≠g6:=by omega
  have hgw6:w.heap.size<=g6:=by omega
  have d4:w2.cell? ⟨g6,4,none⟩=some (.slice (S.mA q) at_ (S.mC q)):=(hD2.cell 4).trans (by rw [HDE.out]; rfl);have d3:w2.cell? ⟨g6,3,none⟩=some (.slice (S.nA q) nn (S.nC q)):=(hD2.cell 3).trans (by rw [HDE.out]; rfl);have e4:w2.cell? ⟨g3,4,none⟩=some (.int .i64 x.kind):=(K32.out.cell 4).trans rfl;have e0:w2.cell? ⟨g3,0,none⟩=some (.int .i64 x.client):=(K32.out.cell 0).trans rfl;clear hT2 hD2 hb2 hg6 HROW1 K3 K4 c35 c1;by_cases hk3:x.kind=3
  ·have hk3b:(x.kind == 3)=true:=by simpa using hk3
   have HAA:=Lib.hid (show Q0s m x=(m,⟨0,[],s.moves.length,s.now⟩) by rw [HA1.out,if_pos hk3]);have HCN:=Lib.hid (Q2Q (S.nA q) nn (S.nC q) s.now w2 w.heap.size (HNRD.out.below HB2.out) hs2 (by omega));clear hk3;go_wp2_with fail
   refine HCN.out.mono ?_;rintro _ w5 ⟨v,rfl,ho5,hb5⟩;obtain⟨A5,k5,hv5,_⟩:=Q0v ho5;rw [<- HNN.out] at hv5;subst hv5;have HO5:=Lib.hid ho5;have HB5:=Lib.hid (HB2.out.trans (hb5.mono hs2));have K45:=Lib.hid (K42.out.below' hb5);clear ho5 hb5 HCN;go_wp2_with (refine Q01 (o:=⟨none,_,_,_,_,_⟩) rfl 47 (.tmp 4) (.tmp 38) rfl g4 0 (anC 0 none 0 0 (at_:Int) A5 nn k5) rfl rfl 47 _ K45.out (Q0P _ _ _ _ _ _ _ _) (by simp [anC]) (Q0G _ _ _ _ _ _ _ _) ?_; intro w7 hT7 hD7; rw [Q19 _ rfl] at hD7)
   refine bodyPost_ret (Q0h rfl _ _ g4 4 47 _ _ rfl hD7 Tryz.underlying47 rfl rfl rfl) rfl ?_;refine HPI.out _ _ _ HAA.out ⟨A5,k5,by rw [HAT.out,HNN.out]; rfl,?_⟩ rfl (hT7.below HB5.out hgw4);have:=HO5.out.keep_ (w':=w7) fun b hb=>hT7.block b (fun e=>by have:=HO5.out.ge_ hb; omega)
   rw [<- HNN.out];exact OwnN.more this hs2
  ·have hk3b:(x.kind == 3)=false:=by simpa using hk3
   by_cases hcl:x.client=34
   ·have hclb:(x.client != 34)=false:=by simp [hcl]
    have HH:=Lib.hid (Q4Z s.f (S.nA q) nn (S.nC q) s.now x.old w2 ((HNRD.out.below HB2.out).more hs2) HNOW.out);obtain⟨C,hC⟩:∃ C,C=crC s.f (S.nA q) nn (S.nC q):=⟨_,rfl⟩;rw [<- hC] at HH;have hcs:C.size=2:=by rw [hC]; rfl
    have hcd:∀ j,j<2->D[2+j]?=C[j]?:=fun j hj=>by
     rw [HDE.out,hC];obtain rfl | rfl:j=0\/j=1:=by omega
     iterate 2 ·rfl
    have HCD:=Lib.hid hcd;have e7:w2.cell? ⟨g3,7,none⟩=some (.int .i64 x.old):=(K32.out.cell 7).trans rfl;have HK3:=Lib.hid hk3;have HCLI:=Lib.hid hcl;clear hC hcd hk3 hcl;go_wp2_with (refine Q03 (o:=⟨some 46,_,_,_,_,_⟩) rfl 77 (.tmp 45) rfl g6 2 2 rfl 173 _ C _ HD2.out Tryz.underlying77 rfl rfl hcs HCD.out ?_)
    refine HH.out.mono ?_;rintro _ w3 ⟨rfl,hb3⟩;have hs3:=hb3.size;have HB3:=Lib.hid (HB2.out.trans (hb3.mono hs2));have K33:=Lib.hid (K32.out.below' hb3);have K43:=Lib.hid (K42.out.below' hb3);have HD3:=Lib.hid (HD2.out.below' hb3);have hs13:=HB3.out.size;clear hb3 HH K32 K42 HD2 d3 d4 e4 e0 e7;have HAA1:=Lib.hid (show Q0s m x=if ¬ x.old∈s.now\/Q18 m.chunks s.f x.new=true then(m,errA 180 s.moves.length) else if s.moves.length+1=22 then(m,errA 5 0) else(mvQ m q s x.old x.new,errA 0 (s.moves.length+1)) by rw [HA1.out,if_neg HK3.out,if_neg (by rw [HCLI.out]; simp)]);by_cases hold:x.old∈s.now
    ·rw [decide_eq_true hold];have HU:=Lib.hid (Q8M w3 V.g V.gc s.f _ N m S x.new (HD.out w3 HB3.out) hnf);have d2:w3.cell? ⟨g6,2,none⟩=some (.int .i64 (s.f:Int)):=(HD3.out.cell 2).trans (by rw [HDE.out]; rfl);have e8:w3.cell? ⟨g3,8,none⟩=some (.int .i64 x.new):=(K33.out.cell 8).trans rfl;have HOLD:=Lib.hid hold;obtain⟨u,hu⟩:∃ u,u=Q18 m.chunks s.f x.new:=⟨_,rfl⟩;rw [<- hu] at HU;have HUE:=Lib.hid hu;clear hold hu;go_wp2_with fail
     refine HU.out.mono ?_;rintro _ w4 ⟨rfl,hb4⟩;have hs4:=hb4.size;have HB4:=Lib.hid (HB3.out.trans (hb4.mono hs13));have K34:=Lib.hid (K33.out.below' hb4);have K44:=Lib.hid (K43.out.below' hb4);have hs14:=HB4.out.size;clear hb4 HU K33 K43 HD3 d2 e8;cases u with
     | true =>
      have HAA:=Lib.hid (show Q0s m x=(m,errA 180 s.moves.length) by rw [HAA1.out,if_pos (.inr HUE.out.symm)]);go_wp2_with (refine Q01 (o:=⟨none,_,_,_,_,_⟩) rfl 47 (.tmp 4) (.tmp 61) rfl g4 0 (anC 180 none 0 0 (at_:Int) none 0 0) rfl rfl 47 _ K44.out (Q0P _ _ _ _ _ _ _ _) (by simp [anC]) (Q0G _ _ _ _ _ _ _ _) ?_; intro w7 hT7 hD7; rw [Q19 _ rfl] at hD7)
      refine bodyPost_ret (Q0h rfl _ _ g4 4 47 _ _ rfl hD7 Tryz.underlying47 rfl rfl rfl) rfl ?_;exact HPI.out _ _ _ HAA.out (by rw [<- HAT.out]; exact AnsN.bare _ _ 180 at_) rfl (hT7.below HB4.out hgw4)
     | false =>
      have HAA2:=Lib.hid (show Q0s m x=if s.moves.length+1=22 then(m,errA 5 0) else(mvQ m q s x.old x.new,errA 0 (s.moves.length+1)) by rw [HAA1.out,if_neg (fun h=>by
       rcases h with h | h
       ·exact h HOLD.out
       ·rw [<- HUE.out] at h; cases h)])
      by_cases h22:at_=21
      ·have h22b:((at_:Int)+1 == 22)=true:=by simp [h22]
       have HAA:=Lib.hid (show Q0s m x=(m,errA 5 0) by rw [HAA2.out,if_pos (by rw [<- HAT.out]; omega)]);clear h22;go_wp2_with (refine Q01 (o:=⟨none,_,_,_,_,_⟩) rfl 47 (.tmp 4) (.tmp 66) rfl g4 0 (anC 5 none 0 0 0 none 0 0) rfl rfl 47 _ K44.out (Q0P _ _ _ _ _ _ _ _) (by simp [anC]) (Q0G _ _ _ _ _ _ _ _) ?_; intro w7 hT7 hD7; rw [Q19 _ rfl] at hD7)
       refine bodyPost_ret (Q0h rfl _ _ g4 4 47 _ _ rfl hD7 Tryz.underlying47 rfl rfl rfl) rfl ?_;exact HPI.out _ _ _ HAA.out (AnsN.bare _ _ 5 0) rfl (hT7.below HB4.out hgw4)
      ·have h22b:((at_:Int)+1 == 22)=false:=by simp; omega
       have HAA:=Lib.hid (show Q0s m x=(mvQ m q s x.old x.new,errA 0 (s.moves.length+1)) by rw [HAA2.out,if_neg (by rw [<- HAT.out]; omega)]);have hk4:1<=x.new/\x.new<=28:=by
        rcases HK.out with e | e
        ·exact absurd e HK3.out
        ·exact⟨e.2.2.2.1,e.2.2.2.2.1⟩
       have HGD:=Lib.hid (show Q18 m.chunks s.f x.new=false/\Q3v s.now x.old x.new from⟨HUE.out.symm,HOLD.out,fun e=>(Q4N HUE.out.symm).2 (Q8Y (List.mem_of_getElem? HS.out) (Q7y e)),hk4.1,hk4.2⟩);have hd4:ADat w4 V.g V.gc (some ⟨V.T.t,0,none⟩) (fun b=>N b\/b=g4) m S:=(HD0.out.mono (fun b hb hn=>hn.elim id (fun e=>by omega)) ⟨.inl HD0.out.gN.1,.inl HD0.out.gN.2⟩).below HB4.out;have HMV:=Lib.hid (Qct w4 V.g V.gc q _ (fun b=>N b\/b=g4) m S s x.old x.new hd4 HS.out (fun b hb=>by
        rcases hb with hb | hb
        ·have:=HNL.out b hb; omega
        ·have:=K44.out.lt; omega) HV.out.far.1 (by rw [<- HAT.out]; omega))
       have HD4:=Lib.hid hd4;have e7:w4.cell? ⟨g3,7,none⟩=some (.int .i64 x.old):=(K34.out.cell 7).trans rfl;have e8:w4.cell? ⟨g3,8,none⟩=some (.int .i64 x.new):=(K34.out.cell 8).trans rfl;clear hd4 h22;go_wp2_with fail
       refine HMV.out.mono ?_;rintro _ w5 ⟨hgo,_⟩;obtain⟨rfl,S',hd5,ho5⟩:=hgo HGD.out;have hmv5:∀ b,(b=V.gc\/MvC S q b)->b=V.gc\/IsMv S m.chunks.length b:=fun b hb=>by
        rcases hb with e | ⟨a,e1,e2⟩
        ·exact .inl e
        ·exact .inr ⟨q,a,hql,e1,e2⟩
       have hlt5:∀ b,(b=V.gc\/MvC S q b)->b<w.heap.size:=fun b hb=>AAt.hasN_lt HD0.out HNL.out HV.out.all (hmv5 b hb)
       have hnT:∀ b,V.T.has b->¬ (b=V.gc\/MvC S q b):=fun b hb e=>by
        rcases hmv5 b e with e | e
        ·exact HV.out.far.2.2.1 (e▸hb)
        ·exact HD0.out.mvN b e (HV.out.all b (.inr (.inr (.inr hb))))
       have hnk:∀ b,V.k.has b->¬ (b=V.gc\/MvC S q b):=fun b hb e=>by
        rcases hmv5 b e with e | e
        ·exact HV.out.far.2.2.2.2 (e▸hb)
        ·exact HD0.out.mvN b e (HV.out.all b (.inr (.inr (.inl hb))))
       have ht5:=(HV.out.tree.below HB4.out).only ho5 hnT;have hbk5:=(HBK.out.below HB4.out).only ho5 (hnk _ (.inl rfl)) (hnk _ (.inr (.inl rfl))) (hnk _ (.inr (.inr rfl)));have HST:=Lib.hid (Q8d w5 V.g V.gc q V.T V.k (fun b=>N b\/b=g4) _ S' _ L asked hd5 (by omega) ht5 (Q0B m) hbk5 (by omega));rw [Qbt (by omega)] at HST;have HD5:=Lib.hid hd5;have HO5:=Lib.hid ho5;have HMV5:=Lib.hid hmv5;have K45:=Lib.hid (ho5.blk K44.out (fun e=>by have:=hlt5 g4 e; omega));have hs5:=ho5.size;clear hgo hd5 ho5 hmv5 hlt5 hnT hnk ht5 hbk5 HMV e7 e8;go_wp2_with fail
       refine HST.out.mono ?_;rintro _ w6 ⟨rfl,hsb⟩;obtain⟨L',a',p1,p2,p3,p4⟩:=hsb.book;have hkT:∀ b,(V.T.mut b\/V.k.has b)->b<w.heap.size:=fun b hb=>HNL.out b (HV.out.all b (by
        rcases hb with e | e
        ·exact .inr (.inr (.inr (.inr (.inr e))))
        ·exact .inr (.inr (.inl e))))
       have hd6:ADat w6 V.g V.gc (some ⟨V.T.t,0,none⟩) (fun b=>N b\/b=g4) (mvQ m q s x.old x.new) S':=HD5.out.only hsb.only (fun b hb=>.inl (HV.out.all b (by
        rcases hb with e | e
        ·exact .inr (.inr (.inr (.inr (.inr e))))
        ·exact .inr (.inr (.inl e))))) (fun e=>by
        rcases e with e | e
        ·exact HV.out.far.2.1 (.inr (.inr e))
        ·exact HV.out.far.2.2.2.1 e) (fun e=>by
        rcases e with e | e
        ·exact HV.out.far.2.2.1 (.inr (.inr e))
        ·exact HV.out.far.2.2.2.2 e)
       have hT6:=hsb.tree;have hin6:=p4 L (fun _ h=>h) HIN.out;have ho6:Only (V.hasN N) w w6:=by
        refine((Only.of_below HB4.out).trans (HO5.out.mono fun b _ e=>?_)).trans (hsb.only.mono fun b _ e=>?_)
        ·rcases HMV5.out b e with e | e
         ·exact .inl (.inr (.inl e))
         ·exact .inr (HD0.out.mvN b e)
        ·rcases e with e | e
         ·exact .inl (.inr (.inr (.inl e)))
         ·exact .inl (.inr (.inr (.inr e)))
       have hdone:∀ w7,Q0c g4 w6 w7->Q1B w w7 V N (mvQ m q s x.old x.new) L asked 3:=fun w7 hT=>by
        have ht4:Only (fun b=>b=g4) w6 w7:=Only.of_turned hT rfl;have hold:∀ b,V.all b->b≠g4:=fun b hb e=>by have:=HNL.out b (HV.out.all b hb); omega
        refine⟨⟨⟨S',(hd6.only ht4 (fun b e=>.inr e) (fun e=>hold _ (.inl rfl) e) (fun e=>hold _ (.inr (.inl rfl)) e)).mono (fun b _ hn=>.inl hn) ⟨HD0.out.gN.1,HD0.out.gN.2⟩⟩,hT6.only ht4 (fun b hb e=>hold b (.inr (.inr (.inr hb))) e),HV.out.far,HV.out.all⟩,⟨L',a',p1.only ht4 (fun e=>hold _ (.inr (.inr (.inl (.inl rfl)))) e) (fun e=>hold _ (.inr (.inr (.inl (.inr (.inl rfl))))) e) (fun e=>hold _ (.inr (.inr (.inl (.inr (.inr rfl))))) e),p2,p3,hin6⟩,⟨ht4.os.trans ho6.os,ht4.tape.trans ho6.tape,ht4.output.trans ho6.output,Nat.le_trans ho6.size ht4.size,fun b hb hn=>(ht4.block b (by have:=ho6.size; omega) (fun e=>by omega)).trans (ho6.block b hb hn)⟩⟩
       have K46:=Lib.hid (hsb.only.blk K45.out (fun e=>by have:=hkT g4 e; omega));have HDN:=Lib.hid hdone;have hs6:=hsb.only.size;clear hsb hdone hkT p1 p2 p3 p4 HST hd6 hT6 hin6 ho6;go_wp2_with (refine Q01 (o:=⟨none,_,_,_,_,_⟩) rfl 47 (.tmp 4) (.tmp 80) rfl g4 0 (anC 0 none 0 0 ((at_:Int)+1) none 0 0) rfl rfl 47 _ K46.out (Q0P _ _ _ _ _ _ _ _) (by simp [anC]) (Q0G _ _ _ _ _ _ _ _) ?_; intro w7 hT7 hD7; rw [Q19 _ rfl] at hD7)
       refine bodyPost_ret (Q0h rfl _ _ g4 4 47 _ _ rfl hD7 Tryz.underlying47 rfl rfl rfl) rfl ?_;exact HPM.out _ _ _ _ HAA.out (by rw [<- HAT.out]; exact AnsN.bare w7 w.heap.size 0 (at_+1)) rfl (HDN.out w7 hT7)
    ·rw [decide_eq_false hold];have HAA:=Lib.hid (show Q0s m x=(m,errA 180 s.moves.length) by rw [HAA1.out,if_pos (.inl hold)]);clear hold;go_wp2_with (refine Q01 (o:=⟨none,_,_,_,_,_⟩) rfl 47 (.tmp 4) (.tmp 61) rfl g4 0 (anC 180 none 0 0 (at_:Int) none 0 0) rfl rfl 47 _ K43.out (Q0P _ _ _ _ _ _ _ _) (by simp [anC]) (Q0G _ _ _ _ _ _ _ _) ?_; intro w7 hT7 hD7; rw [Q19 _ rfl] at hD7)
     refine bodyPost_ret (Q0h rfl _ _ g4 4 47 _ _ rfl hD7 Tryz.underlying47 rfl rfl rfl) rfl ?_;exact HPI.out _ _ _ HAA.out (by rw [<- HAT.out]; exact AnsN.bare _ _ 180 at_) rfl (hT7.below HB3.out hgw4)
   ·have hclb:(x.client != 34)=true:=by simpa using hcl
    have HAA:=Lib.hid (show Q0s m x=(m,errA 180 0) by rw [HA1.out,if_neg hk3,if_pos hcl]);clear hk3 hcl;go_wp2_with (refine Q01 (o:=⟨none,_,_,_,_,_⟩) rfl 47 (.tmp 4) (.tmp 43) rfl g4 0 (anC 180 none 0 0 0 none 0 0) rfl rfl 47 _ K42.out (Q0P _ _ _ _ _ _ _ _) (by simp [anC]) (Q0G _ _ _ _ _ _ _ _) ?_; intro w7 hT7 hD7; rw [Q19 _ rfl] at hD7)
    refine bodyPost_ret (Q0h rfl _ _ g4 4 47 _ _ rfl hD7 Tryz.underlying47 rfl rfl rfl) rfl ?_;exact HPI.out _ _ _ HAA.out (AnsN.bare _ _ 180 0) rfl (hT7.below HB2.out hgw4)
end
section
open Go.RowKit Go.Maps
attribute [local irreducible] wpList Q0i
def lsQ (m:AM) (j st:Nat) (a:Ans):AM:=⟨m.chunks,m.last.set j (st,a)⟩
theorem Q3T {m:AM} {j st:Nat} {a:Ans} (hl:m.last.length=4) (hj:j<4):Q0u (lsQ m j st a) j=(st,a):=by
 unfold Q0u lsQ;rw [List.getD_eq_getElem?_getD];simp only [List.getElem?_set];rw [if_pos trivial,if_pos (by omega)];rfl
theorem Q2Z {m:AM} {j st i:Nat} {a:Ans} (hi:i≠j):Q0u (lsQ m j st a) i=Q0u m i:=by
 unfold Q0u lsQ;rw [List.getD_eq_getElem?_getD,List.getD_eq_getElem?_getD];simp only [List.getElem?_set];rw [if_neg (fun e=>hi e.symm)]
def lsS (S:ASl) (j:Nat) (A:Option Addr) (k:Nat):ASl:={ S with lA:=upd S.lA j A,lC:=upd S.lC j k }
def lsC (st:Nat) (a:Ans) (A:Option Addr) (k:Nat):Array Value:=#[.int .i64 (st:Int),.int .i64 (a.err:Int),.slice none 0 0,.int .i64 (a.epoch:Int),.slice A a.nodes.length k]
theorem aCs_ls (t:Option Addr) (gc:Nat) (m:AM) (S:ASl) (j st:Nat) (a:Ans) (A:Option Addr) (k:Nat) (hl:m.last.length=4) (hj:j<4):spl (aCs t gc m S) (2+j*5) (lsC st a A k).toList=aCs t gc (lsQ m j st a) (lsS S j A k):=by
 have hle:2+j*5+(lsC st a A k).toList.length<=(aCs t gc m S).size:=by rw [Q36]; show 2+j*5+5<=22; omega
 apply Array.ext_getElem?
 intro q;rw [Q4I hle];have hls:(lsC st a A k).toList.length=5:=rfl;rw [hls];rcases Nat.lt_or_ge q 22 with hq | hq
 ·rw [Q1D t gc (lsQ m j st a) (lsS S j A k) q hq];by_cases hin:2+j*5<=q/\q<2+j*5+5
  ·rw [if_pos hin];unfold aF;rw [if_neg (by omega),if_neg (by omega),show (q - 2) / 5=j by omega];have e:Q2v (lsS S j A k) (lsQ m j st a) j=lsC st a A k:=by
    unfold Q2v;rw [Q3T hl hj];show #[_,_,_,_,Value.slice (upd S.lA j A j) _ (upd S.lC j k j)]=_;rw [Q1i,Q1i];rfl
   rw [e,show (q - 2) % 5=q - (2+j*5) by omega,Array.getElem?_toList];have hz:q - (2+j*5)<(lsC st a A k).size:=by show _<5; omega
   rw [Array.getElem?_eq_getElem hz];simp [Array.getD,hz]
  ·rw [if_neg hin,Q1D _ _ _ _ _ hq];unfold aF;split
   ·rfl
   ·split
    ·rfl
    ·have hne:(q - 2) / 5≠j:=by omega
     have e:Q2v (lsS S j A k) (lsQ m j st a) ((q - 2) / 5)=Q2v S m ((q - 2) / 5):=by
      unfold Q2v;rw [Q2Z hne];show #[_,_,_,_,Value.slice (upd S.lA j A _) _ (upd S.lC j k _)]=_;rw [Q1f _ _ _ hne,Q1f _ _ _ hne]
     rw [e]
 ·rw [if_neg (by omega),Array.getElem?_eq_none (by rw [Q36]; exact hq),Array.getElem?_eq_none (by rw [Q36]; exact hq)]
theorem ADat.lasted {w w':World} {g gc j st B0:Nat} {t:Option Addr} {N:Nat->Prop} {m:AM} {S:ASl} {a:Ans} {A:Option Addr} {k:Nat} (h:ADat w g gc t N m S) (hj:j<4) (hg:g≠gc) (hT:Q0c g w w')
 (hb:Blk w' g 105 (spl (aCs t gc m S) (2+j*5) (lsC st a A k).toList)) (hn:OwnN w B0 (.slice A a.nodes.length k) a.nodes) (hB0:∀ b,N b->b<B0) (hok:AOk (lsQ m j st a)):ADat w' g gc t N (lsQ m j st a) (lsS S j A k):=by
 have ho:Only (fun b=>b=g) w w':=Only.of_turned hT rfl;rw [aCs_ls _ _ _ _ _ _ _ _ _ h.ok.last hj] at hb;refine h.head ho hg hb rfl hok rfl fun i hi=>?_
 by_cases e:i=j
 ·subst e;rw [Q3T h.ok.last hi];show FarN w' _ (upd S.lA i A i) (upd S.lC i k i) _;rw [Q1i,Q1i];have hn':OwnN w' B0 (.slice A a.nodes.length k) a.nodes:=hn.keep_ fun b hb'=>hT.block b (fun e=>Q09 hn h.blk (by decide) (by rw [hb',e]))
  obtain⟨A',c',e,q1,q2,q3,q4⟩:=Q0v hn';injection e with e1 _ e2
  subst e1 e2;refine⟨q3,⟨q1,q2⟩,fun ad h0 ha hbad=>?_⟩;rcases hbad with hbad | hbad
  ·have:=hB0 _ hbad; have:=q4 ad ha; omega
  ·obtain⟨i',a',hi',ha',hbb⟩:=hbad;rcases(h.mv i' _ (List.getElem?_eq_getElem hi')).2 with⟨e1,_⟩ | ⟨g',cap',cur',e1,_,e3,_⟩
   ·injection e1 with e1; rw [ha'] at e1; cases e1
   ·injection e1 with e1
    rw [ha'] at e1;injection e1 with e1
    subst e1;have hB:Blk w g' 175 cur':=e3;exact Q8I hn hB (by decide) ad ha hbb.symm
 ·rw [Q2Z e];show FarN w' _ (upd S.lA j A i) (upd S.lC j k i) _;rw [Q1f _ _ _ e,Q1f _ _ _ e];exact(h.nodes i hi).only ho (fun b e=>.inl (e▸h.gN.1))
theorem leafQ_ls {m:AM} {j st i:Nat} {a:Ans} (h:i≠2+j):Q1w (lsQ m j st a) i=Q1w m i:=by
 unfold Q1w Q5l;split
 ·rfl
 ·rw [Q2Z (by omega)]
theorem Qbx {m:AM} {j st:Nat} {a:Ans} (hj:j<4):(Q0g m).set (2+j) (Q1w (lsQ m j st a) (2+j))=Q0g (lsQ m j st a):=by
 apply List.ext_getElem?
 intro i;rw [List.getElem?_set,Q0B];rcases Nat.lt_or_ge i 6 with hi | hi
 ·rw [Q1P _ i hi];by_cases e:2+j=i
  ·subst e; rw [if_pos rfl,if_pos hi,Q1P _ _ hi]
  ·rw [if_neg e,Q1P _ i hi,leafQ_ls (fun q=>e q.symm)]
 ·rw [if_neg (by omega),List.getElem?_eq_none (by rw [Q0B]; exact hi),List.getElem?_eq_none (by rw [Q0B]; exact hi)]
theorem Q8G {m:AM} {x:Wish} {j:Nat} (hj:j=(x.client - 31).toNat) (h:((Q0u m j).1:Int)<x.stamp) (hx:inQ x=true) (hm:AOk m):didQ m x=lsQ (Q0s m x).1 j x.stamp.toNat (Q0s m x).2:=by
 unfold didQ;rw [<- hj,if_pos h];rfl
end
end Go.Proofs.YtcpngeiahgoacaaGreat
