/- Parts of the proof, in one text. -/
import Derived.Test.YtckjnbjiafgibaaGreatL8
import Derived.Test.YtckjnbjiafgibaaGreatL7
import Derived.BigRegion
import Derived.Deep.DeepCutAuto
namespace Go.Proofs.YtckjnbjiafgibaaGreat
set_option linter.unusedVariables false
set_option linter.unusedSimpArgs false
set_option maxRecDepth 100000
set_option maxHeartbeats 16000000
open _root_.Array renaming getElem?_setIfInBounds->zF,getElem?_toList->zI
open _root_.Go renaming Addr->zA,World->zB
open _root_.Go.RowKit renaming Below->zC
open _root_.Go.Value renaming ownBlock->zD,slice->zL
open _root_.Go.World renaming alloc->zK
open _root_.List renaming getElem?_eq_none->zE,getD_eq_getElem?_getD->zH,getElem?_set->zJ,mem_of_getElem?->zM
open _root_.Nat renaming le_refl->zG
section
open Go.RowKit Go.Maps
attribute [local irreducible] wpList Q0c
def upd {α:Type} (f:Nat->α) (c:Nat) (a:α):Nat->α:=fun i=>if i=c then a else f i
theorem Q13 {α:Type} (f:Nat->α) (c:Nat) (a:α):upd f c a c=a:=if_pos rfl
theorem Q0W {α:Type} (f:Nat->α) (c:Nat) (a:α) {i:Nat} (h:i≠c):upd f c a i=f i:=if_neg h
def mvS (S:ASl) (c:Nat) (arr:Array Value) (nA:Option zA) (nC:Nat) (mA:Option zA) (mC:Nat):ASl :={ S with arr:=arr,nA:=upd S.nA c nA,nC:=upd S.nC c nC,mA:=upd S.mA c mA,mC:=upd S.mC c mC }
def mvQ (m:AM) (c:Nat) (s:Srv) (o z:Int):AM:=⟨m.chunks.set c (Q1b s o z),m.last⟩
theorem Q6V {m:AM} {c:Nat} {s:Srv} {o z:Int} {i:Nat} {q:Srv} (h:(mvQ m c s o z).chunks[i]?=some q) (hc:c<m.chunks.length):(i=c/\q=Q1b s o z)\/(i≠c/\m.chunks[i]?=some q):=by
 unfold mvQ at h;simp only [zJ] at h;by_cases e:c=i
 ·subst e;rw [if_pos rfl,if_pos hc] at h;exact .inl ⟨rfl,(Option.some.inj h).symm⟩
 rw [if_neg e] at h;exact .inr ⟨fun q=>e q.symm,h⟩
theorem Q6G (s:Srv) (o z:Int):(Q1b s o z).now=Q1D s.now o z:=Q3F s.first s.moves o z
theorem aCs_mv (t:Option zA) (gc:Nat) (m:AM) (S:ASl) (c:Nat) (s:Srv) (o z:Int) (arr:Array Value) (nA:Option zA) (nC:Nat) (mA:Option zA) (mC:Nat):aCs t gc (mvQ m c s o z) (mvS S c arr nA nC mA mC)=aCs t gc m S:=by
 unfold aCs;congr 1
 funext j
 unfold aF;split
 ·rfl
 split
 ·show zL (some ⟨gc,0,none⟩) (m.chunks.set c _).length S.cap=_;rw [List.length_set]
 rfl
def MvC (S:ASl) (c b:Nat):Prop:=∃ a,S.mA c=some a/\a.block=b
theorem ADat.moved {w w':zB} {g gc c:Nat} {t:Option zA} {N:Nat->Prop} {m:AM} {S:ASl} {s:Srv} {o z:Int} (h:ADat w g gc t N m S) (hs:m.chunks[c]?=some s) (hN:∀ b,N b->b<w.heap.size) (hg:g≠gc)
 (ho0:Only (fun b=>b=gc\/MvC S c b) w w') {arr:Array Value} (hb:Blk w' gc 117 arr) (hsz:arr.size=S.cap*5)
 {nA:Option zA} {nC:Nat} {mA:Option zA} {mC:Nat}
 (h0:∀ i j,i<m.chunks.length->i≠c->j<5->arr[i*5+j]?=S.arr[i*5+j]?)
 (h1:∀ j,j<2->arr[c*5+j]?=S.arr[c*5+j]?) (h2:arr[c*5+2]?=some (.int .i64 (s.f:Int))) (h3:arr[c*5+3]?=some (.slice nA (Q1D s.now o z).length nC)) (h4:arr[c*5+4]?=some (.slice mA (s.moves.length+1) mC))
 (hn:OwnN w' w.heap.size (.slice nA (Q1D s.now o z).length nC) (Q1D s.now o z))
 (hm:w'.ownsRow 0 119 2 (.slice mA (s.moves.length+1) mC) (s.moves.length+1) (Q0s (s.moves++[(o,z)])))
 (hmb:∀ a,mA=some a->S.mA c=some ⟨a.block,0,none⟩\/w.heap.size<=a.block) (hok:COk (m.chunks.set c (Q1b s o z))) :
 ADat w' g gc t N (mvQ m c s o z) (mvS S c arr nA nC mA mC):=by
 have hcl:c<m.chunks.length:=(List.getElem?_eq_some_iff.1 hs).1;have hlen:(mvQ m c s o z).chunks.length=m.chunks.length:=by unfold mvQ; simp
 have hlt:=h.lt;have ho:Only (fun b=>b=gc\/IsMv S m.chunks.length b) w w':=ho0.mono fun b _ e=>by
  rcases e with e | ⟨a,e1,e2⟩
  ·exact .inl e
  exact .inr ⟨c,a,hcl,e1,e2⟩
 have hgN:¬ (g=gc\/IsMv S m.chunks.length g):=fun e=>by
  rcases e with e | e
  ·exact hg e
  exact h.mvN g e h.gN.1
 have hmv:∀ b,IsMv (mvS S c arr nA nC mA mC) (mvQ m c s o z).chunks.length b->IsMv S m.chunks.length b\/w.heap.size<=b:=fun b hb=>by
  obtain⟨i,a,hi,ha,rfl⟩:=hb;rw [hlen] at hi;have ha':upd S.mA c mA i=some a:=ha;by_cases e:i=c
  ·subst e;rw [Q13] at ha';rcases hmb a ha' with e2 | e2
   ·exact .inl ⟨i,_,hi,e2,rfl⟩
   exact .inr e2
  rw [Q0W _ _ _ e] at ha';exact .inl ⟨i,a,hi,ha',rfl⟩
 have hfar:∀ {A:Option zA} {C:Nat} {xs:List Int},FarN w (fun b=>N b\/IsMv S m.chunks.length b) A C xs->FarN w' (fun b=>N b\/IsMv (mvS S c arr nA nC mA mC) (mvQ m c s o z).chunks.length b) A C xs:=fun {A C xs} hf=>by
  have h1:=hf.only ho (fun b hb=>by
   rcases hb with e | e
   ·exact .inl (e▸h.gN.2)
   exact .inr e)
  refine⟨h1.rd,h1.cap,fun a h0 ha hb=>?_⟩;obtain⟨ad,e,hbl,_⟩:=hf.rd.2 h0;rw [ha] at e;injection e with e
  subst e;rcases hb with hb | hb
  ·exact hf.far a h0 ha (.inl hb)
  rcases hmv _ hb with e | e
  ·exact hf.far a h0 ha (.inr e)
  omega
 refine⟨?_,hb,⟨hsz,by rw [hlen]; exact h.cap.2.1,h.cap.2.2⟩,?_,?_,?_,?_,?_,?_,?_,h.gN,?_⟩
 ·rw [aCs_mv];exact(ho.block g hlt.1 hgN).trans h.blk
 ·intro i q hq j hj;rcases Q6V hq hcl with⟨rfl,rfl⟩ | ⟨hne,hq⟩
  ·have e:srvC (Q1b s o z) (mvS S i arr nA nC mA mC) i=#[.int .i64 (s.f:Int),.slice (S.fA i) s.first.length (S.fC i),.int .i64 (s.f:Int),.slice nA (Q1D s.now o z).length nC,.slice mA (s.moves.length+1) mC]:=by
    unfold srvC;rw [Q6G];show #[_,_,_,zL (upd S.nA i nA i) _ (upd S.nC i nC i),zL (upd S.mA i mA i) (s.moves++[(o,z)]).length (upd S.mC i mC i)]=_;rw [Q13,Q13,Q13,Q13,List.length_append];rfl
   rw [e];have hq0:=h.srv i s hs;obtain rfl | rfl | rfl | rfl | rfl:j=0\/j=1\/j=2\/j=3\/j=4:=by omega
   ·exact(h1 0 (by omega)).trans (hq0 0 (by omega))
   ·exact(h1 1 (by omega)).trans (hq0 1 (by omega))
   ·exact h2
   ·exact h3
   exact h4
  have hil:i<m.chunks.length:=(List.getElem?_eq_some_iff.1 hq).1;have e:srvC q (mvS S c arr nA nC mA mC) i=srvC q S i:=by unfold srvC;show #[_,_,_,zL (upd S.nA c nA i) _ (upd S.nC c nC i),zL (upd S.mA c mA i) _ (upd S.mC c mC i)]=_;rw [Q0W _ _ _ hne,Q0W _ _ _ hne,Q0W _ _ _ hne,Q0W _ _ _ hne];rfl
  rw [e];exact(h0 i j hil hne hj).trans (h.srv i q hq j hj)
 ·intro i q hq;rcases Q6V hq hcl with⟨rfl,rfl⟩ | ⟨hne,hq⟩
  ·exact hfar (h.first i s hs)
  exact hfar (h.first i q hq)
 ·intro i q hq;rcases Q6V hq hcl with⟨rfl,rfl⟩ | ⟨hne,hq⟩
  ·rw [Q6G];show FarN w' _ (upd S.nA i nA i) (upd S.nC i nC i) _;rw [Q13,Q13];obtain⟨A',c',e,q1,q2,q3,q4⟩:=Q0e hn;injection e with e1 _ e2
   subst e1 e2;refine⟨q3,⟨q1,q2⟩,fun a h0 ha hb=>?_⟩;have hge:=q4 a ha;rcases hb with hb | hb
   ·have:=hN _ hb; omega
   obtain⟨i',a',hi',ha',hbb⟩:=hb;have ha2:upd S.mA i mA i'=some a':=ha';have hmi:∃ cs,Blk w' a'.block 119 cs:=by
    by_cases e:i'=i
    ·subst e;rw [Q13] at ha2;rcases hm.2 with⟨e1,_⟩ | ⟨g',cap',cur',e1,_,e3,_⟩
     ·injection e1 with e1; rw [ha2] at e1; cases e1
     injection e1 with e1
     rw [ha2] at e1;injection e1 with e1
     rw [e1];exact⟨_,e3⟩
    rw [Q0W _ _ _ e] at ha2;have hi2:i'<m.chunks.length:=by rw [hlen] at hi'; exact hi'
    have:=h.mlt (b:=a'.block) ⟨i',a',hi2,ha2,rfl⟩;omega
   obtain⟨cs,hcs⟩:=hmi;exact Q6Y hn hcs (by decide) a ha hbb.symm
  show FarN w' _ (upd S.nA c nA i) (upd S.nC c nC i) _;rw [Q0W _ _ _ hne,Q0W _ _ _ hne];exact hfar (h.now i q hq)
 ·intro i hi;exact hfar (h.nodes i hi)
 ·intro i q hq;rcases Q6V hq hcl with⟨rfl,rfl⟩ | ⟨hne,hq⟩
  ·show w'.ownsRow 0 _ 2 (.slice (upd S.mA i mA i) (s.moves++[(o,z)]).length (upd S.mC i mC i)) (s.moves++[(o,z)]).length (Q0s (s.moves++[(o,z)]));rw [Q13,Q13,List.length_append];exact hm
  show w'.ownsRow 0 _ 2 (.slice (upd S.mA c mA i) q.moves.length (upd S.mC c mC i)) q.moves.length (Q0s q.moves);rw [Q0W _ _ _ hne,Q0W _ _ _ hne];have hil:i<m.chunks.length:=(List.getElem?_eq_some_iff.1 hq).1;refine Q0k (h.mv i q hq) fun b hb=>ho0.block b (Q0f (h.mv i q hq) hb).2 fun e=>?_
  rcases(h.mv i q hq).2 with⟨e1,_⟩ | ⟨g',cap',cur',e1,_,e3,_⟩
  ·rw [e1] at hb; cases hb
  have hmi:S.mA i=some ⟨g',0,none⟩:=by injection e1
  rw [e1] at hb;have hbb:b=g':=by simpa [zD] using hb.symm
  subst hbb;rcases e with e | ⟨a,e4,e5⟩
  ·have hB:Blk w b 119 cur':=e3;exact Blk.ne_ hB h.row (by decide) e
  exact h.mvap i c ⟨b,0,none⟩ a hil hcl hne hmi e4 e5.symm
 ·intro b hb hn';rcases hmv b hb with e | e
  ·exact h.mvN b e hn'
  have:=hN b hn'; omega
 ·intro i j a b hi hj hne ha hb';rw [hlen] at hi hj;have ha2:upd S.mA c mA i=some a:=ha;have hb2:upd S.mA c mA j=some b:=hb';by_cases e1:i=c
  ·subst e1;rw [Q13] at ha2;rw [Q0W _ _ _ (fun e=>hne e.symm)] at hb2;rcases hmb a ha2 with q | q
   ·exact h.mvap i j ⟨a.block,0,none⟩ b hi hj hne q hb2
   have:=h.mlt (b:=b.block) ⟨j,b,hj,hb2,rfl⟩;omega
  rw [Q0W _ _ _ e1] at ha2;by_cases e2:j=c
  ·subst e2;rw [Q13] at hb2;rcases hmb b hb2 with q | q
   ·exact h.mvap i j a ⟨b.block,0,none⟩ hi hj hne ha2 q
   have:=h.mlt (b:=a.block) ⟨i,a,hi,ha2,rfl⟩;omega
  rw [Q0W _ _ _ e2] at hb2;exact h.mvap i j a b hi hj hne ha2 hb2
 have hk:=h.ok;exact⟨hok.one,hok.srv,hok.same,hok.apart,hok.high,hk.last,hk.ans⟩
def MvPost (w:zB) (g gc c:Nat) (t:Option zA) (N:Nat->Prop) (m:AM) (S:ASl) (s:Srv) (o z:Int) (e:Ending) (w':zB):Prop :=
 (Q0H m.chunks s.f z=false/\Q1I s.now o z->e=.returned (.bool true)/\∃ S',ADat w' g gc t N (mvQ m c s o z) S'/\Only (fun b=>b=gc\/MvC S c b) w w') /\
 (¬ (Q0H m.chunks s.f z=false/\Q1I s.now o z)->e=.returned (.bool false)/\zC w.heap.size w w')
theorem mv_info:(Tryz.prog.info? 119).map (fun i=>(i.zero,i.size,i.bytes))=some (some (.agg #[.int .i64 0,.int .i64 0]),2,16):=by kernel_rfl
theorem reads2 (w:zB) (o z:Int):Q04 (w.alloc (.cells #[.int .i64 o,.int .i64 z] 119)) (w.alloc (.cells #[.int .i64 o,.int .i64 z] 119)).heap.size 2 (some ⟨w.heap.size,0,none⟩) 1 [.int .i64 o,.int .i64 z]:=by have hk:Blk (w.alloc (.cells #[.int .i64 o,.int .i64 z] 119)) w.heap.size 119 #[.int .i64 o,.int .i64 z]:=Blk.newAt rfl;exact⟨rfl,fun _=>⟨⟨w.heap.size,0,none⟩,rfl,hk.lt,fun j u hu=>by rw [Q0R,Nat.zero_add,hk.cell,<- zI]; exact hu⟩⟩
theorem Q7A (w:zB) (g gc c:Nat) (t:Option zA) (N:Nat->Prop) (m:AM) (S:ASl) (s:Srv) (o z:Int) (h:ADat w g gc t N m S) (hs:m.chunks[c]?=some s) (hN:∀ b,N b->b<w.heap.size) (hg:g≠gc) (hl:s.moves.length<=20) :
 Calls Tryz.prog 70 #[.pointer (some ⟨g,0,none⟩),.int .i64 (c:Int),.int .i64 o,.int .i64 z] w (MvPost w g gc c t N m S s o z):=by
 have hcl:c<m.chunks.length:=(List.getElem?_eq_some_iff.1 hs).1;have h2:=h.ok.one;have hsk:=h.ok.srv s (zM hs);have hnow:=hsk.now_ok;have hlt:=h.lt;have hcap:=h.cap;have hc1:w.cell? ⟨g,1,none⟩=some (.slice (some ⟨gc,0,none⟩) m.chunks.length S.cap):=(h.blk.cell 1).trans (Q1a _ _ _ _ 1 (by omega));have hsrv:=h.srv c s hs;have hcf:w.cell? ⟨gc,c*5+2,none⟩=some (.int .i64 (s.f:Int)):=(h.row.cell _).trans ((hsrv 2 (by omega)).trans rfl);have HU:=sH (Q6U w g gc s.f t N m S z h hnow.faults);have HMK:=sH (fun(ho:o∈s.now) (hu:Q0H m.chunks s.f z=false) (h1:1<=z) (h2:z<=28)=>h.ok.cok.moved hs ho hu h1 h2 hl);obtain⟨n,hn⟩:∃ n,n=m.chunks.length:=⟨_,rfl⟩;have hcn:c<n:=by omega
 rw [<- hn] at hc1;have hcI:(c:Int)<(n:Int):=by omega
 have HD:=sH h;have HS:=sH hs;have HNN:=sH hN;have HNOW:=sH hnow;have HSRV:=sH hsrv;have HRW:=sH (h.now c s hs).rd;have HMV:=sH (h.mv c s hs);obtain⟨u,hu⟩:∃ u,u=Q0H m.chunks s.f z:=⟨_,rfl⟩;rw [<- hu] at HU;have HUE:=sH hu;obtain⟨f,hf⟩:∃ f,f=s.f:=⟨_,rfl⟩;rw [<- hf] at hcf HU;have HF:=sH hf;have hl1:=hlt.1;have hl2:=hlt.2;have hcap1:=hcap.1;have hcap2:=hcap.2.1;obtain⟨P,hP⟩:∃ P,P=MvPost w g gc c t N m S s o z:=⟨_,rfl⟩;rw [<- hP];have HPF:=sH (show ∀ w',¬ (Q0H m.chunks s.f z=false/\Q1I s.now o z)->zC w.heap.size w w'->P (.returned (.bool false)) w' from fun w' hb hbl=>by rw [hP]; exact⟨fun h=>absurd h hb,fun _=>⟨rfl,hbl⟩⟩);have HPT:=sH (show ∀ w' S',(Q0H m.chunks s.f z=false/\Q1I s.now o z)->ADat w' g gc t N (mvQ m c s o z) S'->Only (fun b=>b=gc\/MvC S c b) w w'->P (.returned (.bool true)) w' from fun w' S' hb hd ho=>by rw [hP]; exact⟨fun _=>⟨rfl,S',hd,ho⟩,fun h=>absurd hb h⟩);clear h hs hN hsk hnow hlt hcap hsrv hu hf hn hP h2;go_enter Tryz.func70,Tryz.ntmps70
 go_wp2_with fail
 refine HU.out.mono ?_;rintro _ w2 ⟨rfl,hb2⟩;have hs2:=hb2.size;have HB2:=sH hb2;clear hb2 HU;cases u with
 | true =>
  have hbad:¬ (Q0H m.chunks s.f z=false/\Q1I s.now o z):=fun h=>by rw [<- HUE.out] at h; cases h.1
  have HBAD:=sH hbad;clear hbad;go_wp2_with fail
  exact HPF.out _ HBAD.out HB2.out
 | false =>
  obtain⟨A,hA⟩:∃ A,A=S.nA c:=⟨_,rfl⟩;obtain⟨nn,hnn⟩:∃ k,k=s.now.length:=⟨_,rfl⟩;obtain⟨cn,hcn2⟩:∃ k,k=S.nC c:=⟨_,rfl⟩;have HRW2:=sH (HRW.out.below HB2.out);rw [<- hA,<- hnn] at HRW2;have HRP:=sH (Q3X f A nn cn s.now o z w2 (HRW2.out.more hs2) (by rw [HF.out]; exact HNOW.out));obtain⟨C,hC⟩:∃ C,C=crC f A nn cn:=⟨_,rfl⟩;rw [<- hC] at HRP;have hcs:C.size=2:=by rw [hC]; rfl
  have hcd:∀ j,j<2->S.arr[c*5+2+j]?=C[j]?:=fun j hj=>by
   rw [hC,hA,hnn,hcn2];obtain rfl | rfl:j=0\/j=1:=by omega
   ·rw [HF.out]; exact HSRV.out 2 (by omega)
   exact HSRV.out 3 (by omega)
  have HCD:=sH hcd;have HROW2:=sH (HD.out.row.below' HB2.out);clear hA hnn hcn2 hC hcd;go_wp2_with (refine Q01 (o:=⟨some 30,_,_,_,_,_⟩) rfl 69 (.tmp 29) rfl gc (c*5+2) 2 rfl 117 _ C _ HROW2.out Tryz.underlying69 rfl rfl hcs HCD.out ?_)
  refine HRP.out.mono ?_;rintro _ w3 ⟨hb3,hgd,hbd⟩;have hs3:=hb3.size;by_cases hgood:Q1I s.now o z
  ·obtain⟨A3,k3,c3,rfl,ho3⟩:=hgd hgood;have hk3:k3=(Q1D s.now o z).length:=by
    obtain⟨A',c',e,_⟩:=Q0e ho3;injection e
   have hbt:=sH (show Q0H m.chunks s.f z=false/\Q1I s.now o z from⟨HUE.out.symm,hgood⟩);have hmk:=HMK.out hgood.1 HUE.out.symm hgood.2.2.1 hgood.2.2.2;have HCOK:=sH hmk;have HB3:=sH (HB2.out.trans (hb3.mono hs2));have HO3:=sH (OwnN.more ho3 hs2);obtain⟨E,hE⟩:∃ E,E=crC f A3 k3 c3:=⟨_,rfl⟩;rw [<- hE];have hes:E.size=2:=by rw [hE]; rfl
   have heo:E.all (·.oneCell')=true:=by rw [hE]; exact Q1L _ _ _ _
   have HE:=sH hE;have HK3:=sH hk3;clear hb3 hgd hbd hgood HRP ho3 hmk hE hk3;go_upto_region 7 with(refine Q00 (o:=⟨none,_,_,_,_,_⟩) rfl 69 (.tmp 10) (.tmp 34) rfl w3.heap.size 0 E rfl rfl 69 (crC 0 none 0 0) (by rw [crZ]; exact Blk.newAt rfl) (by rw [hes]; exact Q27 0 none 0 0) (by rw [hes]; simp [crC]) heo ?_; intro w4 hT4 hD4; rw [Q0a _ _ (by rw [hes]; rfl)] at hD4)
   have hb4:zC w3.heap.size w3 w4:=hT4.below (Q02 w3 _) (zG _);obtain⟨g10,hg10⟩:∃ g,g=w3.heap.size:=⟨_,rfl⟩;rw [<- hg10] at hD4 ⊢;have HD4:=sH hD4;have HB4:=sH (HB3.out.trans (hb4.mono HB3.out.size));have HO4:=sH (HO3.out.below_ hb4);have HROW4:=sH (HD.out.row.below' HB4.out);have HMV4:=sH (Q0k HMV.out (fun b hb=>HB4.out.block b (Q0f HMV.out hb).2):w4.ownsRow 0 119 2 (.slice (S.mA c) s.moves.length (S.mC c)) s.moves.length (Q0s s.moves));clear hT4 hD4 hb4 HO3 HROW2;have hidx:c*5+2+2<=S.arr.size:=by omega
   go_upto_region 8 with(first
    | (refine Q01 (o:=⟨some 39,_,_,_,_,_⟩) rfl 69 (.tmp 10) rfl g10 0 2 rfl 69 _ E _ HD4.out Tryz.underlying69 rfl rfl hes (fun _ _=>by rw [Nat.zero_add]; try rfl) ?_)
    | (refine Q00 (o:=⟨none,_,_,_,_,_⟩) rfl 69 (.tmp 41) (.tmp 39) rfl gc (c*5+2) E rfl rfl 117 S.arr HROW4.out (by rw [hes]; exact Q27 0 none 0 0) (by rw [hes]; exact hidx) heo ?_; intro w5 hT5 hD5))
   have hmvg:(zL (S.mA c) s.moves.length (S.mC c)).ownBlock≠some gc:=Q09 HMV4.out HROW4.out (by decide);have HMV5:=sH (Q0k HMV4.out (fun b hb=>hT5.block b (fun e=>hmvg (by rw [hb,e]))):w5.ownsRow 0 119 2 (.slice (S.mA c) s.moves.length (S.mC c)) s.moves.length (Q0s s.moves));have HO5:=sH (HO4.out.keep_ fun b hb=>hT5.block b (fun e=>Q09 HO4.out HROW4.out (by decide) (by rw [hb,e])):OwnN w5 w.heap.size (.slice A3 k3 c3) (Q1D s.now o z));have hsp:=hes;have hg4:∀ j,(spl S.arr (c*5+2) E.toList)[j]?=if c*5+2<=j/\j<c*5+2+2 then E[j - (c*5+2)]? else S.arr[j]?:=fun j=>by
    rw [Q4y (by rw [Array.length_toList,hes]; exact hidx),Array.length_toList,hes];split
    ·rw [zI]
    rfl
   have hmc:w5.cell? ⟨gc,c*5+4,none⟩=some (.slice (S.mA c) s.moves.length (S.mC c)):=by rw [hD5.cell,hg4,if_neg (by omega)];exact HSRV.out 4 (by omega)
   have hfzc:=hD5.frozen (c*5+4);have HG4:=sH hg4;have HD5:=sH hD5;have HT5:=sH hT5;obtain⟨mn,hmn⟩:∃ k,k=s.moves.length:=⟨_,rfl⟩;rw [<- hmn] at hmc HMV5 hl;have HMN:=sH hmn;obtain⟨i0,hi0,hz0,hz1,hz2⟩:=info_parts mv_info;have hb6:=Q02 w5 (.cells #[.int .i64 o,.int .i64 z] 119);have HMV6:=sH (Q0k HMV5.out (fun b hb=>hb6.block b (Q0f HMV5.out hb).2):(w5.alloc (.cells #[.int .i64 o,.int .i64 z] 119)).ownsRow 0 119 2 (.slice (S.mA c) mn (S.mC c)) mn (Q0s s.moves));have HRD6:=sH (reads2 w5 o z);clear hT5 hD5 hg4 hmn hsp hmvg HROW4 HMV4 HO4 HD4 hb6;go_wp2_with (at_builtin; go_must (refine Q05 _ rfl (.tmp 46) (.tmp 50) 115 rfl 0 119 i0 _ 2 16 Tryz.underlying115 hi0 hz0 hz1 hz2 rfl (by omega) _ _ _ rfl HMV6.out _ (some ⟨w5.heap.size,0,none⟩) 1 1 [.int .i64 o,.int .i64 z] rfl HRD6.out ?d1 ?d2 ?d3 ?d4 ?_))
   case d1=>first | (intro u hu; simp only [List.mem_cons,List.not_mem_nil,or_false] at hu; rcases hu with rfl | rfl <;> rfl) | simp [Value.oneCell']
   case d2=>unfold maxLen; omega
   case d3=>omega
   case d4=>omega
   intro v6 w6 hown6 hg6 hor6;obtain⟨A8,c8,hv6,_⟩:=Q5x hown6;subst hv6;obtain⟨arr,harr⟩:∃ arr,arr=spl S.arr (c*5+2) E.toList:=⟨_,rfl⟩;rw [<- harr] at HD5 HG4;have hD6a:=HD5.out.alloc (.cells #[.int .i64 o,.int .i64 z] 119);have hmg:(zL (S.mA c) mn (S.mC c)).ownBlock≠some gc:=Q09 HMV6.out hD6a (by decide);have hD6:=hD6a.grown hg6 (fun e=>hmg e.symm);have hO6a:OwnN (w5.alloc (.cells #[.int .i64 o,.int .i64 z] 119)) w.heap.size (.slice A3 k3 c3) (Q1D s.now o z):=HO5.out.below_ (Q02 w5 _);have hO6:OwnN w6 w.heap.size (.slice A3 k3 c3) (Q1D s.now o z):=hO6a.keep_ fun b hb=>hg6.block b (Q0f hO6a hb).2 (fun e=>by
    rcases HMV6.out.2 with⟨e1,_⟩ | ⟨g',cap',cur',e1,_,e3,_⟩
    ·rw [e1] at e; cases e
    have hB:Blk (w5.alloc (.cells #[.int .i64 o,.int .i64 z] 119)) g' 119 cur':=e3;rw [e1] at e;have e':b=g':=by simpa [zD] using e
    exact Q09 hO6a hB (by decide) (by rw [hb,e']))
   have hcm6:w6.cell? ⟨gc,c*5+4,none⟩=some (.slice (S.mA c) mn (S.mC c)):=by rw [hD6.cell,HG4.out,if_neg (by omega),HMN.out];exact HSRV.out 4 (by omega)
   have hfz6:=hD6.frozen (c*5+4);have hT7:=Q06.setCell w6 ⟨gc,c*5+4,none⟩ (.slice A8 (mn+1) c8);have hD7:=hD6.set_ (c*5+4) (.slice A8 (mn+1) c8);have hO7:OwnN (w6.setCell ⟨gc,c*5+4,none⟩ (.slice A8 (mn+1) c8)) w.heap.size (.slice A3 k3 c3) (Q1D s.now o z):=hO6.keep_ fun b hb=>hT7.block b (fun e=>Q09 hO6 hD6 (by decide) (by have e':b=gc:=e; rw [hb,e']))
   have hM7:(w6.setCell ⟨gc,c*5+4,none⟩ (.slice A8 (mn+1) c8)).ownsRow 0 119 2 (.slice A8 (mn+1) c8) (mn+1) (Q0s (s.moves++[(o,z)])):=by
    have:Q0s (s.moves++[(o,z)])=Q0s s.moves++[.int .i64 o,.int .i64 z]:=by rw [Q5M]; rfl
    rw [this];exact Q0k hown6 (fun b hb=>hT7.block b (fun e=>Q09 hown6 hD6 (by decide) (by have e':b=gc:=e; rw [hb,e'])))
   have hasz:arr.size=S.cap*5:=by rw [harr,Q4c (by rw [Array.length_toList,hes]; exact hidx)]; exact hcap1
   have hobk:∀ b,(zL (S.mA c) mn (S.mC c)).ownBlock=some b->MvC S c b:=fun b hb=>by
    cases hma:S.mA c with
    | none=>rw [hma] at hb; cases hb
    | some a=>rw [hma] at hb; exact⟨a,hma,by simpa [zD] using hb⟩
   have hz5:(w5.alloc (.cells #[.int .i64 o,.int .i64 z] 119)).heap.size=w5.heap.size+1:=by simp
   have hs4:=HB4.out.size;have ho7:Only (fun b=>b=gc\/MvC S c b) w (w6.setCell ⟨gc,c*5+4,none⟩ (.slice A8 (mn+1) c8)):=by have h4:Only (fun b=>b=gc\/MvC S c b) w w4:=Only.of_below HB4.out;have h5:Only (fun b=>b=gc\/MvC S c b) w4 w5:=Only.of_turned HT5.out (.inl rfl);have h6:Only (fun b=>b=gc\/MvC S c b) w5 (w5.alloc (.cells #[.int .i64 o,.int .i64 z] 119)):=Only.of_below (Q02 w5 _);have h7:Only (fun b=>b=gc\/MvC S c b) (w5.alloc (.cells #[.int .i64 o,.int .i64 z] 119)) w6:=⟨hg6.os,hg6.tape,hg6.output,hg6.size,fun b hb hn=>hg6.block b hb (fun e=>hn (.inr (hobk b e.symm)))⟩;have h8:Only (fun b=>b=gc\/MvC S c b) w6 (w6.setCell ⟨gc,c*5+4,none⟩ (.slice A8 (mn+1) c8)):=Only.of_turned hT7 (.inl rfl);exact(((h4.trans h5).trans h6).trans h7).trans h8
   have hdat:=ADat.moved HD.out HS.out HNN.out hg ho7 (arr:=arr.setIfInBounds (c*5+4) (.slice A8 (mn+1) c8)) hD7 (by simp [hasz]) (nA:=A3) (nC:=c3) (mA:=A8) (mC:=c8)
    (fun i j hi hne hj=>by rw [zF,if_neg (by omega),HG4.out,if_neg (by omega)])
    (fun j hj=>by rw [zF,if_neg (by omega),HG4.out,if_neg (by omega)])
    (by rw [zF,if_neg (by omega),HG4.out,if_pos (by omega),HE.out,show c*5+2 - (c*5+2)=0 by omega,HF.out]; rfl)
    (by rw [zF,if_neg (by omega),HG4.out,if_pos (by omega),HE.out,show c*5+3 - (c*5+2)=1 by omega,<- HK3.out]; rfl)
    (by rw [zF,if_pos rfl,if_pos (by omega),HMN.out])
    (by rw [<- HK3.out]; exact hO7) (by rw [<- HMN.out]; exact hM7)
    (fun a ha=>by
     rcases hor6 with e | e
     ·left
      have e2:(zL (S.mA c) mn (S.mC c)).ownBlock=some a.block:=by rw [<- e,ha]; rfl
      rcases HMV6.out.2 with⟨e1,_⟩ | ⟨g',cap',cur',e1,_,e3,_⟩
      ·rw [e1] at e2; cases e2
      rw [e1] at e2;have e':a.block=g':=by simpa [zD] using e2.symm
      injection e1 with e1
      rw [e',e1]
     right
     rw [ha] at e;have e':a.block=w5.heap.size+1:=by simpa [zD] using e
     have:=HT5.out.size;omega) HCOK.out
   have HDD:=sH hdat;have HOO:=sH ho7;clear hdat ho7 hM7 hO7 hD7 hT7 hO6 hO6a hD6 hD6a hown6 hg6 hor6 hobk hasz harr HMV5 HMV6 HRD6 HO5 HD5 hmc;go_wp2_with fail
   exact HPT.out _ _ hbt.out HDD.out HOO.out
  obtain⟨er,her,rfl⟩:=hbd hgood;have HB3:=sH (HB2.out.trans (hb3.mono hs2));have hb:¬ (Q0H m.chunks s.f z=false/\Q1I s.now o z):=fun h=>hgood h.2
  have HBAD:=sH hb;have heb:((er:Int) != 0)=true:=by simp; omega
  have HOO:=sH (Blk.newAt rfl:Blk (w3.alloc (.cells (crC 0 none 0 0) 69)) w3.heap.size 69 (crC 0 none 0 0));clear hb3 hgd hbd hgood hb HRP;go_wp2_with (refine Q00 (o:=⟨none,_,_,_,_,_⟩) rfl 69 (.tmp 10) (.tmp 34) rfl w3.heap.size 0 (crC 0 none 0 0) rfl rfl 69 (crC 0 none 0 0) (Blk.newAt rfl) (Q27 _ _ _ _) (by simp [crC]) (Q1L _ _ _ _) ?_; intro w4 hT4 hD4; rw [Q4r] at hD4)
  have hb4:zC w3.heap.size w3 w4:=hT4.below (Q02 w3 _) (zG _);exact HPF.out _ HBAD.out (HB3.out.trans (hb4.mono HB3.out.size))
end
section
open Go.RowKit Go.Maps
attribute [local irreducible] wpList
def anC (err:Int) (A:Option zA) (n c:Nat) (ep:Int) (A':Option zA) (n' c':Nat):Array Value:=#[.int .i64 err,.slice A n c,.int .i64 ep,.slice A' n' c']
theorem Q5Z (e1 e2 p1 p2:Int) (A:Option zA) (n c:Nat) (A':Option zA) (n' c':Nat) (D:Option zA) (m d:Nat) (D':Option zA) (m' d':Nat) (xs ys:List UInt8) (xt yt:List Int) (w:zB) (B:Nat)
 (hx:Q04 w B 1 A n (xs.map vb)) (hx':Q04 w B 1 A' n' (xt.map vn)) (hy:Q04 w B 1 D m (ys.map vb)) (hy':Q04 w B 1 D' m' (yt.map vn)) (hB:B<=w.heap.size) (hn:n<=maxLen) (hn':n'<=maxLen) (hm:m<=maxLen) (hm':m'<=maxLen) :
 Calls Tryz.prog 51 #[.agg (anC e1 A n c p1 A' n' c'),.agg (anC e2 D m d p2 D' m' d')] w fun e w'=>e=.returned (.bool (decide (e1=e2/\xs=ys/\p1=p2/\xt=yt)))/\zC w.heap.size w w':=by
 have HEB:=sH (fun W (hb:zC w.heap.size w W)=>Q8R A D n m c d xs ys W B B (hx.below (hb.mono hB)) (hy.below (hb.mono hB)) hn hm);have HEI:=sH (fun W (hb:zC w.heap.size w W)=>Q4w A' D' n' m' c' d' xt yt W B B (hx'.below (hb.mono hB)) (hy'.below (hb.mono hB)) hn' hm');clear hx hy hx' hy';unfold anC;go_enter Tryz.func51,Tryz.ntmps51
 go_upto_region 1 with fail
 have hX:zC w.heap.size w ((w.alloc (.cells #[.int .i64 e1,.slice A n c,.int .i64 p1,.slice A' n' c'] 34)).alloc (.cells #[.int .i64 e2,.slice D m d,.int .i64 p2,.slice D' m' d'] 34)):=((Below.refl _ _).alloc (zG _) _).alloc (by simp) _;have k1:Blk ((w.alloc (.cells #[.int .i64 e1,.slice A n c,.int .i64 p1,.slice A' n' c'] 34)).alloc (.cells #[.int .i64 e2,.slice D m d,.int .i64 p2,.slice D' m' d'] 34)) w.heap.size 34 #[.int .i64 e1,.slice A n c,.int .i64 p1,.slice A' n' c']:=(Blk.newAt rfl).alloc _;have k2:Blk ((w.alloc (.cells #[.int .i64 e1,.slice A n c,.int .i64 p1,.slice A' n' c'] 34)).alloc (.cells #[.int .i64 e2,.slice D m d,.int .i64 p2,.slice D' m' d'] 34)) (w.heap.size+1) 34 #[.int .i64 e2,.slice D m d,.int .i64 p2,.slice D' m' d']:=Blk.newAt (by simp);generalize zK _ _=w1 at hX k1 k2 ⊢;have c0:=k1.cell 0;have c1:=k1.cell 1;have c2:=k1.cell 2;have c3:=k1.cell 3;have d0:=k2.cell 0;have d1:=k2.cell 1;have d2:=k2.cell 2;have d3:=k2.cell 3;simp only [List.getElem?_toArray,List.getElem?_cons_zero,List.getElem?_cons_succ] at c0 c1 c2 c3 d0 d1 d2 d3;have HB:=sH hX;have HE1:=sH (HEB.out w1 hX);have HE2:=sH (fun q=>HEI.out (w1.drewN q) (Q0B HB.out q));clear k1 k2 hX HEB HEI;obtain⟨g1,hg1⟩:∃ g,g=w.heap.size:=⟨_,rfl⟩;obtain⟨g3,hg3⟩:∃ g,g=w.heap.size+1:=⟨_,rfl⟩;rw [<- hg1] at c0 c1 c2 c3;rw [<- hg3] at d0 d1 d2 d3 ⊢;rw [<- hg1];clear hg1 hg3;go_wp2_with (first
  | (go_at_call 76; refine HE1.out.mono ?_; rintro _ _ ⟨rfl,q,rfl⟩)
  | (go_at_call 72; refine(HE2.out _).mono ?_; rintro _ _ ⟨rfl,q2,rfl⟩))
 all_goals go_ret
 all_goals refine⟨Q0C ?_,by first | exact HB.out | exact Q0B HB.out _ | exact Q0B (Q0B HB.out _) _⟩
 all_goals clear HB HE1 HE2 c0 c1 c2 c3 d0 d1 d2 d3
 all_goals rw [Bool.eq_iff_iff]
 all_goals simp_all
end
section
open Go.RowKit Go.Maps
attribute [local irreducible] wpList Q0c
theorem Q1z (err:Int) (A:Option zA) (n c:Nat) (ep:Int) (A':Option zA) (n' c':Nat):(Tryz.prog.info? 34).map (·.size)=some (anC err A n c ep A' n' c').size:=by kernel_rfl
theorem Q1N (err:Int) (A:Option zA) (n c:Nat) (ep:Int) (A':Option zA) (n' c':Nat):(anC err A n c ep A' n' c').all (·.oneCell')=true:=by simp [anC,Value.oneCell']
theorem Q2x (D:Array Value) (h:D.size=4) (err:Int) (A:Option zA) (n c:Nat) (ep:Int) (A':Option zA) (n' c':Nat):spl D 0 (anC err A n c ep A' n' c').toList=anC err A n c ep A' n' c':=Q0a _ _ (by rw [h]; rfl)
def AnsN (w:zB) (B:Nat) (D:Array Value) (x:Ans):Prop:=∃ A c,D=anC x.err none 0 0 x.epoch A x.nodes.length c/\OwnN w B (.slice A x.nodes.length c) x.nodes
theorem AnsN.more {w:zB} {B B':Nat} {D:Array Value} {x:Ans} (h:AnsN w B D x) (hB:B'<=B):AnsN w B' D x:=by obtain⟨A,c,h1,h2⟩:=h;exact⟨A,c,h1,OwnN.more h2 hB⟩
theorem AnsN.below {w w':zB} {B:Nat} {D:Array Value} {x:Ans} (h:AnsN w B D x) (hb:zC w.heap.size w w'):AnsN w' B D x:=by obtain⟨A,c,h1,h2⟩:=h;exact⟨A,c,h1,h2.below_ hb⟩
theorem AnsN.bare (w:zB) (B:Nat) (e p:Nat):AnsN w B (anC (e:Int) none 0 0 (p:Int) none 0 0) (errA e p):=⟨none,0,rfl,OwnN.nil_ _ _⟩
theorem aOld_any (w:zB) (g gc:Nat) (t:Option zA) (N:Nat->Prop) (m:AM) (S:ASl) (h:ADat w g gc t N m S) (x:Wish) (A:Option zA) (n c:Nat) (A':Option zA) (n' c':Nat) (hc:31<=x.client/\x.client<=34) :
 Calls Tryz.prog 64 #[.pointer (some ⟨g,0,none⟩),.agg (Q0g x A n c A' n' c')] w fun r w'=>∃ D,r=.returned (.tuple #[.agg D,.bool (oldQ m x).2])/\AnsN w' w.heap.size D (oldQ m x).1/\zC w.heap.size w w':=by
 obtain⟨j,hj⟩:∃ j,j=(x.client - 31).toNat:=⟨_,rfl⟩;have hj4:j<4:=by omega
 have hjc:x.client - 31=(j:Int):=by omega
 have hjI:(j:Int)<4:=by omega
 have lg:=h.lt.1;have hlc:=fun q hq=>Q7p t gc m S j q hj4 hq
 have hlo:=h.ok.lst j;have hf:=(h.nodes j hj4).rd;have hnb:=hlo.2.1.bound;have hX:zC w.heap.size w ((w.alloc (.cells (Q0g x A n c A' n' c') 31)).alloc (.cells (anC 0 none 0 0 0 none 0 0) 34)):=((Below.refl _ _).alloc (zG _) _).alloc (by simp) _;have k3:Blk ((w.alloc (.cells (Q0g x A n c A' n' c') 31)).alloc (.cells (anC 0 none 0 0 0 none 0 0) 34)) w.heap.size 31 (Q0g x A n c A' n' c'):=(Blk.newAt rfl).alloc _;have k4:Blk ((w.alloc (.cells (Q0g x A n c A' n' c') 31)).alloc (.cells (anC 0 none 0 0 0 none 0 0) 34)) (w.heap.size+1) 34 (anC 0 none 0 0 0 none 0 0):=Blk.newAt (by simp);have hz1:((w.alloc (.cells (Q0g x A n c A' n' c') 31)).alloc (.cells (anC 0 none 0 0 0 none 0 0) 34)).heap.size=w.heap.size+2:=by simp
 have hO:oldQ m x=if x.stamp<((Q0u m j).1:Int) then(errA 172 0,true) else if ((Q0u m j).1:Int)<x.stamp then(okA,false) else((Q0u m j).2,true):=by unfold oldQ; rw [<- hj]
 have hsz:(Q1R S m j).size=5:=rfl;have hon:=Q6m S m j;have e0:Q1R S m j=#[.int .i64 ((Q0u m j).1:Int),.int .i64 ((Q0u m j).2.err:Int),.slice none 0 0,.int .i64 ((Q0u m j).2.epoch:Int),.slice (S.lA j) (Q0u m j).2.nodes.length (S.lC j)]:=rfl;generalize Q0u m j=y at hO hlo hf e0 hnb;obtain⟨st,an⟩:=y;simp only at hO hlo hf e0 hnb;generalize Q1R S m j=D at hlc hsz hon e0;have HB:=sH (fun(W:zB) (hb:zC w.heap.size w W)=>h.blk.below' hb);have HF:=sH (fun(W:zB) (hb:zC w.heap.size w W)=>hf.below hb);have HLC:=sH hlc;have HSZ:=sH hsz;have HON:=sH hon;have HAN:=sH hlo.2.1;have HE:=sH e0;have HO:=sH hO;have HX:=sH hX;have K3:=sH k3;have K4:=sH k4;have HZ1:=sH hz1;have hZ:anC 0 none 0 0 0 none 0 0=#[.int .i64 0,.slice none 0 0,.int .i64 0,.slice none 0 0]:=rfl;obtain⟨g3,hg3⟩:∃ b,b=w.heap.size:=⟨_,rfl⟩;obtain⟨g4,hg4⟩:∃ b,b=w.heap.size+1:=⟨_,rfl⟩;generalize oldQ m x=ov at HO ⊢;obtain⟨nn,hnn⟩:∃ k,k=an.nodes.length:=⟨_,rfl⟩;rw [<- hnn] at HE HF hnb;have HNN:=sH hnn;clear h hlc hlo hf hX k3 k4 hz1 hO hsz hon e0 hj hnn;go_enter Tryz.func64,Tryz.ntmps64
 go_upto_region 1 with fail
 rw [<- hZ];generalize zK (zK w _) _=w1 at HX K3 K4 HZ1 ⊢;rw [<- hg4] at K4 ⊢;rw [<- hg3] at K3 ⊢;have hz1:=HZ1.out;have hgw3:w.heap.size<=g3:=by omega
 have hgw4:w.heap.size<=g4:=by omega
 have hg34:g3≠g4:=by omega
 have hw1:w.heap.size<=w1.heap.size:=by omega
 have hl3:=K3.out.lt;have hl4:=K4.out.lt;clear hg3 hg4 HZ1 hz1 hZ;refine Q17 9 37 (fun jx W v=>match jx with | 0=>v=.pointer (some ⟨g,0,none⟩) | 1=>v=.pointer (some ⟨g3,0,none⟩) | 2=>v=.int .i64 x.client | 3=>v=.int .i64 (j:Int) | 4=>v=.pointer (some ⟨g,0,none⟩) | 5=>v=.pointer (some ⟨g,2,none⟩) | 6=>v=.pointer (some ⟨g,2+j*5,none⟩) | 7=>v=.agg D | _=>∃ g6,v=.pointer (some ⟨g6,0,none⟩)/\w1.heap.size<=g6/\Blk W g6 81 Q0A) [7,8,9,10,11,12,13,14,6] (by kernel_rfl) (by kernel_rfl) (by kernel_rfl) (by simp) (by kernel_rfl) (fun jx=>?last) ?heads ?_
 case last =>
  match jx with
  | 0 | 1 | 2 | 3 | 4 | 5 | 6 | 7=>exact Q2w.pure _
  | jx+8=>exact fun W W' v ⟨g3,h1,h2,h3⟩ hb=>⟨g3,h1,h2,h3.below' hb⟩
 case heads =>
  simp only [tT];and_intros;rotate_right;trivial;all_goals intro a W hb hkp hd
  ·have e0:(_:Value)=.pointer (some ⟨g,0,none⟩):=sK hkp 0;exact sV
  ·have e0:(_:Value)=.pointer (some ⟨g3,0,none⟩):=sK hkp 3;exact sV
  ·have e0:=sJ (hd 1) 8;have cc:W.cell? ⟨g3,0,none⟩=some (.int .i64 x.client):=((K3.out.below' hb).cell 0).trans rfl;exact sV
  ·have e0:=sJ (hd 2) 9;exact Q0E rfl (.int .i64 (j:Int)) (by go_simp; rw [IntKind.wrap_i64]; omega) rfl
  ·have e0:=sJ (hd 0) 7;exact sV
  ·have e0:=sJ (hd 4) 11;exact sV
  ·have e0:=sJ (hd 5) 12;have e1:=sJ (hd 3) 10;exact sV
  ·have e0:a.eval (.tmp 13)=.pointer (some ⟨g,2+j*5,none⟩):=(hd 6 (by kernel_rfl)) _ 13 rfl rfl;exact Q0E rfl (.agg D) (Q0n 81 (.tmp 13) rfl g (2+j*5) 5 e0 84 _ D _ (HB.out W (HX.out.trans (hb.mono hw1))) Tryz.underlying81 rfl rfl HSZ.out HLC.out) rfl
  refine Q3m rfl (.pointer (some ⟨W.heap.size,0,none⟩)) (W.alloc (.cells Q0A 81)) (by unfold Q0A; go_simp) ((Below.refl _ _).alloc (zG _) _) ⟨W.heap.size,rfl,hb.size,Blk.new W _ _⟩
 intro f W hb hd;have h14:f 14=.agg D:=hd 7 (by omega) _ 14 rfl rfl;obtain⟨g6,h6,hg6,hB6⟩:∃ g6,f 6=.pointer (some ⟨g6,0,none⟩)/\w1.heap.size<=g6/\Blk W g6 81 Q0A:=hd 8 (by omega) _ 6 rfl rfl;have HB6:=sH hB6;have HBW:=sH hb;simp only [Q19,tU,h14,h6];clear hd hB6 hb;try simp only [Act.put,sA]
 go_upto_region 2 with(refine Q00 (o:=⟨none,_,_,_,_,_⟩) rfl 81 (.tmp 6) (.tmp 14) rfl g6 0 D rfl rfl 81 _ HB6.out (by rw [HSZ.out]; exact Q3z) (by rw [HSZ.out]; simp [Q0A]) HON.out ?_; intro w5 hT5 hD5; rw [Q0a _ _ (by rw [HSZ.out]; rfl)] at hD5)
 have hb5:zC w1.heap.size w1 w5:=hT5.below HBW.out hg6;rw [HE.out] at hD5;have c60:w5.cell? ⟨g6,0,none⟩=some (.int .i64 (st:Int)):=(hD5.cell 0).trans rfl;have c64:w5.cell? ⟨g6,4,none⟩=some (.slice (S.lA j) nn (S.lC j)):=(hD5.cell 4).trans rfl;have HD5:=sH hD5;have K35:=sH (K3.out.below' hb5);have K45:=sH (K4.out.below' hb5);have c31:w5.cell? ⟨g3,1,none⟩=some (.int .i64 x.stamp):=(K35.out.cell 1).trans rfl;have HB5:=sH (HX.out.trans (hb5.mono hw1));have hs5:=HB5.out.size;have hs15:=hb5.size;have hgw6:w.heap.size<=g6:=by omega
 have hg46:g4≠g6:=by omega
 have hg6l:=hD5.lt;have hg4l:=K45.out.lt;have hF5:=(HF.out w5 HB5.out).more hs5;have HCL:=sH (Q2c (S.lA j) nn (S.lC j) an.nodes w5 w5.heap.size hF5 (zG _) (by omega));clear hT5 hD5 hb5 hF5 HB6 HBW HF HB K3 K4 HX;by_cases h1:x.stamp<(st:Int)
 ·have hov:ov=(errA 172 0,true):=by rw [HO.out,if_pos h1]
  subst hov;go_wp2_with (refine Q00 (o:=⟨none,_,_,_,_,_⟩) rfl 34 (.tmp 4) (.tmp 21) rfl g4 0 (anC 172 none 0 0 0 none 0 0) rfl rfl 34 _ K45.out (Q1z _ _ _ _ _ _ _ _) (by simp [anC]) (Q1N _ _ _ _ _ _ _ _) ?_; intro w7 hT7 hD7; rw [Q2x _ rfl] at hD7)
  exact bodyPost_ret (Q03 rfl _ _ g4 4 34 _ _ rfl hD7 Tryz.underlying34 rfl rfl rfl) rfl ⟨anC 172 none 0 0 0 none 0 0,rfl,AnsN.bare _ _ 172 0,hT7.below HB5.out hgw4⟩
 by_cases h2:(st:Int)<x.stamp
 ·have hov:ov=(okA,false):=by rw [HO.out,if_neg h1,if_pos h2]
  subst hov;go_wp2_with (refine Q00 (o:=⟨none,_,_,_,_,_⟩) rfl 34 (.tmp 4) (.tmp 28) rfl g4 0 (anC 0 none 0 0 0 none 0 0) rfl rfl 34 _ K45.out (Q1z _ _ _ _ _ _ _ _) (by simp [anC]) (Q1N _ _ _ _ _ _ _ _) ?_; intro w7 hT7 hD7; rw [Q2x _ rfl] at hD7)
  exact bodyPost_ret (Q03 rfl _ _ g4 4 34 _ _ rfl hD7 Tryz.underlying34 rfl rfl rfl) rfl ⟨anC 0 none 0 0 0 none 0 0,rfl,AnsN.bare _ _ 0 0,hT7.below HB5.out hgw4⟩
 have hov:ov=(an,true):=by rw [HO.out,if_neg h1,if_neg h2]
 subst hov;go_wp2_with fail
 refine HCL.out.mono ?_;rintro _ w6 ⟨v,rfl,ho6,hb6⟩;obtain⟨A6,k6,hv6,q1,q2,r6,q3⟩:=Q0e ho6;rw [<- HNN.out] at hv6;subst hv6;have hs6:=hb6.size;have HB6:=sH (HB5.out.trans (hb6.mono hs5));have hD6:=HD5.out.below' hb6;have K46:=sH (K45.out.below' hb6);have f64:=hD6.frozen 4;have c66:w6.cell? ⟨g6,4,none⟩=some (.slice (S.lA j) nn (S.lC j)):=(hD6.cell 4).trans rfl;have hD7:=hD6.set_ 4 (.slice A6 nn k6);have hT7:=Q06.setCell w6 ⟨g6,4,none⟩ (.slice A6 nn k6);have HD7:=sH (show Blk (w6.setCell ⟨g6,4,none⟩ (.slice A6 nn k6)) g6 81 #[.int .i64 (st:Int),.int .i64 (an.err:Int),.slice none 0 0,.int .i64 (an.epoch:Int),.slice A6 nn k6] from hD7);have HO7:=sH (ho6.keep_ (w':=w6.setCell ⟨g6,4,none⟩ (.slice A6 nn k6)) fun b hb=>hT7.block b (fun e=>by have:=ho6.ge_ hb; have e':b=g6:=e; omega));have K47:=sH ((hT7.block g4 hg46).trans K46.out:Blk (w6.setCell ⟨g6,4,none⟩ (.slice A6 nn k6)) g4 34 (anC 0 none 0 0 0 none 0 0));have HB7:=sH (HB6.out.setCell (p:=⟨g6,4,none⟩) hgw6 (.slice A6 nn k6));clear hD6 hD7 hT7 ho6 hb6 r6 q3 HCL K45 K46 c60 c64;go_upto_region 7 with fail
 generalize w6.setCell ⟨g6,4,none⟩ (.slice A6 nn k6)=w7 at HD7 HO7 K47 HB7 ⊢;clear f64 c66;obtain⟨C,hC⟩:∃ C,C=anC (an.err:Int) none 0 0 (an.epoch:Int) A6 nn k6:=⟨_,rfl⟩;have hcs:C.size=4:=by rw [hC]; rfl
 have hco:C.all (·.oneCell')=true:=by rw [hC]; exact Q1N _ _ _ _ _ _ _ _
 obtain⟨E,hE⟩:∃ E:Array Value,E=#[.int .i64 (st:Int),.int .i64 (an.err:Int),.slice none 0 0,.int .i64 (an.epoch:Int),.slice A6 nn k6]:=⟨_,rfl⟩;rw [<- hE] at HD7;have hec:∀ q,q<4->E[1+q]?=C[q]?:=fun q hq=>by
  rw [hE,hC];obtain rfl | rfl | rfl | rfl:q=0\/q=1\/q=2\/q=3:=by omega
  iterate 4 ·rfl
 have HEC:=sH hec;have HC:=sH hC;clear hC hE hec;go_wp2_with (first
  | (refine Q01 (o:=⟨some 36,_,_,_,_,_⟩) rfl 34 (.tmp 35) rfl g6 1 4 rfl 81 _ C _ HD7.out Tryz.underlying34 rfl rfl hcs HEC.out ?_)
  | (refine Q00 (o:=⟨none,_,_,_,_,_⟩) rfl 34 (.tmp 4) (.tmp 36) rfl g4 0 C rfl rfl 34 _ K47.out (by rw [hcs]; exact Q1z 0 none 0 0 0 none 0 0) (by rw [hcs]; simp [anC]) hco ?_; intro w8 hT8 hD8; rw [Q0a _ _ (by rw [hcs]; rfl)] at hD8))
 refine bodyPost_ret (Q03 rfl _ _ g4 4 34 _ _ rfl hD8 Tryz.underlying34 rfl rfl hcs) rfl ⟨C,rfl,⟨A6,k6,by rw [HC.out,HNN.out],?_⟩,hT8.below HB7.out hgw4⟩;rw [<- HNN.out];exact OwnN.more (HO7.out.keep_ fun b hb=>hT8.block b (fun e=>by have:=HO7.out.ge_ hb; omega)) hs5
structure Q11 (w w':zB) (V:ALoc) (N:Nat->Prop) (m':AM) (L:LL) (asked q:Nat):Prop where
 vat:AAt w' V N m'
 book:∃ L' a',Q0h w' V.k L' a'/\a'<=asked+q/\(∀ x,x∈L->x∈L')/\Q1f L' (Q07 m')
 only:Only (V.hasN N) w w'
theorem Q11.idle {w w':zB} {V:ALoc} {N:Nat->Prop} {m:AM} {L:LL} {asked q:Nat} (hb:zC w.heap.size w w') (h:AAt w V N m) (hbk:Q0h w V.k L asked) (hin:Q1f L (Q07 m)):Q11 w w' V N m L asked q :=⟨h.below hb,⟨L,asked,hbk.below hb,by omega,fun _ h=>h,hin⟩,Only.of_below hb⟩
theorem Q11.under {w w1 w2:zB} {V:ALoc} {N:Nat->Prop} {m:AM} {L:LL} {asked q:Nat} (hb:zC w.heap.size w w1) (h:Q11 w1 w2 V N m L asked q):Q11 w w2 V N m L asked q :=⟨h.vat,h.book,(Only.of_below hb).trans h.only⟩
theorem Q11.after {w w1 w2:zB} {V:ALoc} {N:Nat->Prop} {m:AM} {L:LL} {asked q:Nat} (h:Q11 w w1 V N m L asked q) (hb:zC w1.heap.size w1 w2):Q11 w w2 V N m L asked q:=by obtain⟨L',a',h1,h2,h3,h4⟩:=h.book;exact⟨h.vat.below hb,⟨L',a',h1.below hb,h2,h3,h4⟩,h.only.trans (Only.of_below hb)⟩
theorem AAt.hasN_lt {w:zB} {V:ALoc} {N:Nat->Prop} {m:AM} {S:ASl} (hd:ADat w V.g V.gc (some ⟨V.T.t,0,none⟩) N m S) (hN:∀ b,N b->b<w.heap.size) (hall:∀ b,V.all b->N b) {b:Nat} (h:b=V.gc\/IsMv S m.chunks.length b):b<w.heap.size:=by
 rcases h with e | e
 ·exact hN b (hall b (.inr (.inl e)))
 exact hd.mlt e
theorem leafQ_mv {m:AM} {c i:Nat} {s:Srv} {o z:Int} (h:i≠c):Q1C (mvQ m c s o z) i=Q1C m i:=by
 unfold Q1C Q5t;split
 ·have:(mvQ m c s o z).chunks[i]?=m.chunks[i]?:=by
   unfold mvQ;simp only [zJ];rw [if_neg (fun e=>h e.symm)]
  rw [this]
 rfl
theorem Q9P {m:AM} {c:Nat} {s:Srv} {o z:Int} (hc:c<6):(Q07 m).set c (Q1C (mvQ m c s o z) c)=Q07 (mvQ m c s o z):=by
 apply List.ext_getElem?
 intro i;rw [zJ,Q0r];rcases Nat.lt_or_ge i 6 with hi | hi
 ·rw [Q1c _ i hi];by_cases e:c=i
  ·subst e; rw [if_pos rfl,if_pos hi,Q1c _ c hi]
  rw [if_neg e,Q1c _ i hi,leafQ_mv (fun q=>e q.symm)]
 rw [if_neg (by omega),zE (by rw [Q0r]; exact hi),zE (by rw [Q0r]; exact hi)]
def AnPost (w:zB) (V:ALoc) (N:Nat->Prop) (L:LL) (asked:Nat) (p:AM×Ans) (r:Ending) (w':zB):Prop :=∃ D,r=.returned (.agg D)/\AnsN w' w.heap.size D p.2/\D.size=4/\Q11 w w' V N p.1 L asked 3
theorem zSrv_eq:Q61=#[.int .i64 0,.slice none 0 0,.int .i64 0,.slice none 0 0,.slice none 0 0]:=rfl
theorem anZ:anC 0 none 0 0 0 none 0 0=#[.int .i64 0,.slice none 0 0,.int .i64 0,.slice none 0 0]:=rfl
theorem Q8M (w:zB) (V:ALoc) (N:Nat->Prop) (m:AM) (L:LL) (asked:Nat) (h:AAt w V N m) (hN:∀ b,N b->b<w.heap.size) (hbk:Q0h w V.k L asked) (hin:Q1f L (Q07 m)) (has:asked<=800000)
 (x:Wish) (A:Option zA) (n c:Nat) (A':Option zA) (n' c':Nat) (hx:inQ x=true) :
 Calls Tryz.prog 62 #[.pointer (some ⟨V.g,0,none⟩),.agg (Q0g x A n c A' n' c')] w (AnPost w V N L asked (Q0t m x)):=by
 obtain⟨S,hd⟩:=h.dat;obtain⟨_,_,_,_,b1,b2,hkind⟩:=Q4T hx;obtain⟨q,hq⟩:∃ q,q=(x.block - 1).toNat:=⟨_,rfl⟩;have hqb:x.block - 1=(q:Int):=by omega
 have hq2:q<2:=by omega
 have hlt:=hd.lt;have hX:zC w.heap.size w ((w.alloc (.cells (Q0g x A n c A' n' c') 31)).alloc (.cells (anC 0 none 0 0 0 none 0 0) 34)):=((Below.refl _ _).alloc (zG _) _).alloc (by simp) _;have k3:Blk ((w.alloc (.cells (Q0g x A n c A' n' c') 31)).alloc (.cells (anC 0 none 0 0 0 none 0 0) 34)) w.heap.size 31 (Q0g x A n c A' n' c'):=(Blk.newAt rfl).alloc _;have k4:Blk ((w.alloc (.cells (Q0g x A n c A' n' c') 31)).alloc (.cells (anC 0 none 0 0 0 none 0 0) 34)) (w.heap.size+1) 34 (anC 0 none 0 0 0 none 0 0):=Blk.newAt (by simp);have hz1:((w.alloc (.cells (Q0g x A n c A' n' c') 31)).alloc (.cells (anC 0 none 0 0 0 none 0 0) 34)).heap.size=w.heap.size+2:=by simp
 have HV:=sH h;have HNL:=sH hN;have HBK:=sH hbk;have HIN:=sH hin;have HD:=sH (fun(W:zB) (hb:zC w.heap.size w W)=>hd.below hb);have HD0:=sH hd;have HX:=sH hX;have K3:=sH k3;have K4:=sH k4;have HZ1:=sH hz1;have HK:=sH hkind;have HQ:=sH hq;obtain⟨P,hP⟩:∃ P,P=AnPost w V N L asked (Q0t m x):=⟨_,rfl⟩;rw [<- hP];have HA:Hid (Q0t m x=match m.chunks[q]? with | none=>(m,errA 180 0) | some s=>if x.kind=3 then(m,⟨0,[],s.moves.length,s.now⟩) else if x.client≠34 then(m,errA 180 0) else if ¬ x.old∈s.now\/Q0H m.chunks s.f x.new=true then(m,errA 180 s.moves.length) else if s.moves.length+1=22 then(m,errA 5 0) else(mvQ m q s x.old x.new,errA 0 (s.moves.length+1))):=sH (by unfold Q0t; rw [<- hq]; rfl);have HPI:=sH (show ∀ w' a D,Q0t m x=(m,a)->AnsN w' w.heap.size D a->D.size=4->zC w.heap.size w w'->P (.returned (.agg D)) w' from fun w' a D ha hD hs hb=>by rw [hP,ha]; exact⟨D,rfl,hD,hs,Q11.idle hb h hbk hin⟩)
 have HPM:=sH (show ∀ w' m' a D,Q0t m x=(m',a)->AnsN w' w.heap.size D a->D.size=4->Q11 w w' V N m' L asked 3->P (.returned (.agg D)) w' from fun w' m' a D ha hD hs hb=>by rw [hP,ha]; exact⟨D,rfl,hD,hs,hb⟩)
 obtain⟨g3,hg3⟩:∃ b,b=w.heap.size:=⟨_,rfl⟩;obtain⟨g4,hg4⟩:∃ b,b=w.heap.size+1:=⟨_,rfl⟩;obtain⟨nc,hnc⟩:∃ k,k=m.chunks.length:=⟨_,rfl⟩;have hnc2:nc<=2:=by rw [hnc]; exact hd.ok.one.2
 have C1:=sH (fun(W:zB) (hb:zC w.heap.size w W)=>(show W.cell? ⟨V.g,1,none⟩=some (.slice (some ⟨V.gc,0,none⟩) nc S.cap) from by rw [hnc]; exact((hd.below hb).blk.cell 1).trans (Q1a _ _ _ _ 1 (by omega))));have HNC:=sH hnc;have hl1:=hlt.1;have hl2:=hlt.2;clear h hN hbk hin hd hX k3 k4 hz1 hP hq hkind hx hlt hnc;go_enter Tryz.func62,Tryz.ntmps62
 go_upto_region 1 with fail
 rw [<- anZ];generalize zK (zK w _) _=w1 at HX K3 K4 HZ1 ⊢;rw [<- hg4] at K4 ⊢;rw [<- hg3] at K3 ⊢;have hz1:=HZ1.out;have hgw3:w.heap.size<=g3:=by omega
 have hgw4:w.heap.size<=g4:=by omega
 have hg34:g3≠g4:=by omega
 have hw1:w.heap.size<=w1.heap.size:=by omega
 have hl3:=K3.out.lt;have hl4:=K4.out.lt;clear hg3 hg4 HZ1 hz1;have c35:w1.cell? ⟨g3,5,none⟩=some (.int .i64 x.block):=(K3.out.cell 5).trans rfl;have c1:=C1.out w1 HX.out;by_cases hqn:nc<=q
 ·have hqI:(nc:Int)<=(q:Int):=by omega
  have ha:Q0t m x=(m,errA 180 0):=by rw [HA.out,zE (by rw [<- HNC.out]; exact hqn)]
  have HAA:=sH ha;clear ha;go_wp2_with (refine Q00 (o:=⟨none,_,_,_,_,_⟩) rfl 34 (.tmp 4) (.tmp 18) rfl g4 0 (anC 180 none 0 0 0 none 0 0) rfl rfl 34 _ K4.out (Q1z _ _ _ _ _ _ _ _) (by simp [anC]) (Q1N _ _ _ _ _ _ _ _) ?_; intro w7 hT7 hD7; rw [Q2x _ rfl] at hD7)
  refine bodyPost_ret (Q0y rfl _ _ g4 4 34 _ _ rfl hD7 Tryz.underlying34 rfl rfl rfl) rfl ?_;exact HPI.out _ _ _ HAA.out (AnsN.bare _ _ 180 0) rfl (hT7.below HX.out hgw4)
 have hqI:(q:Int)<(nc:Int):=by omega
 have hqN:¬ (nc:Int)<=(q:Int):=by omega
 have hql:q<m.chunks.length:=by have:=HNC.out; omega
 obtain⟨s,hs⟩:∃ s,m.chunks[q]?=some s:=⟨_,List.getElem?_eq_getElem hql⟩;have ha1:Q0t m x=if x.kind=3 then(m,⟨0,[],s.moves.length,s.now⟩) else if x.client≠34 then(m,errA 180 0) else if ¬ x.old∈s.now\/Q0H m.chunks s.f x.new=true then(m,errA 180 s.moves.length) else if s.moves.length+1=22 then(m,errA 5 0) else(mvQ m q s x.old x.new,errA 0 (s.moves.length+1)):=by rw [HA.out,hs]
 have HA1:=sH ha1;have HS:=sH hs;have hsk:=HD0.out.ok.srv s (zM hs);have hnow:=hsk.now_ok;have hml:=hsk.len;have HNOW:=sH hnow;have hns:=hnow.short;have hnf:=hnow.faults;have HLC:=sH (HD0.out.srv q s hs);have HROW1:=sH (HD.out w1 HX.out).row;have HNRD:=sH (HD0.out.now q s hs).rd;obtain⟨at_,hat⟩:∃ k,k=s.moves.length:=⟨_,rfl⟩;obtain⟨nn,hnn⟩:∃ k,k=s.now.length:=⟨_,rfl⟩;have hDe:srvC s S q=#[.int .i64 (s.f:Int),.slice (S.fA q) s.first.length (S.fC q),.int .i64 (s.f:Int),.slice (S.nA q) nn (S.nC q),.slice (S.mA q) at_ (S.mC q)]:=by rw [hat,hnn]; rfl
 obtain⟨D,hD⟩:∃ D,D=srvC s S q:=⟨_,rfl⟩;have hDs:D.size=5:=by rw [hD]; rfl
 have hDo:D.all (·.oneCell')=true:=by rw [hD]; exact Q9l s S q
 rw [<- hD] at HLC hDe;rw [<- hat] at hml;rw [<- hnn] at HNRD hns;have HDE:=sH hDe;have HAT:=sH hat;have HNN:=sH hnn;clear hs ha1 hsk hnow hat hnn hD hDe hqn;go_upto_region 5 with(first
  | (refine Q01 (o:=⟨some 25,_,_,_,_,_⟩) rfl 117 (.tmp 24) rfl V.gc (q*5) 5 rfl 117 _ D _ HROW1.out Tryz.underlying117 rfl rfl hDs HLC.out ?_)
  | (refine Q00 (o:=⟨none,_,_,_,_,_⟩) rfl 117 (.tmp 6) (.tmp 25) rfl w1.heap.size 0 D rfl rfl 117 Q61 (by rw [zSrv_eq]; exact Blk.newAt rfl) (by rw [hDs]; exact Q5L) (by rw [hDs]; simp [Q61]) hDo ?_; intro w2 hT2 hD2; rw [Q0a _ _ (by rw [hDs]; rfl)] at hD2))
 have hb2:zC w1.heap.size w1 w2:=hT2.below (Q02 w1 _) (zG _);obtain⟨g6,hg6⟩:∃ g,g=w1.heap.size:=⟨_,rfl⟩;rw [<- hg6] at hD2 ⊢;have HB2:=sH (HX.out.trans (hb2.mono hw1));have HD2:=sH hD2;have K32:=sH (K3.out.below' hb2);have K42:=sH (K4.out.below' hb2);have hs2:=HB2.out.size;have hs12:=hb2.size;have hg6l:=hD2.lt;have hg36:g3≠g6:=by omega
 have hg46:g4≠g6:=by omega
 have hgw6:w.heap.size<=g6:=by omega
 have d4:w2.cell? ⟨g6,4,none⟩=some (.slice (S.mA q) at_ (S.mC q)):=(hD2.cell 4).trans (by rw [HDE.out]; rfl);have d3:w2.cell? ⟨g6,3,none⟩=some (.slice (S.nA q) nn (S.nC q)):=(hD2.cell 3).trans (by rw [HDE.out]; rfl);have e4:w2.cell? ⟨g3,4,none⟩=some (.int .i64 x.kind):=(K32.out.cell 4).trans rfl;have e0:w2.cell? ⟨g3,0,none⟩=some (.int .i64 x.client):=(K32.out.cell 0).trans rfl;clear hT2 hD2 hb2 hg6 HROW1 K3 K4 c35 c1;by_cases hk3:x.kind=3
 ·have hk3b:(x.kind == 3)=true:=by simpa using hk3
  have HAA:=sH (show Q0t m x=(m,⟨0,[],s.moves.length,s.now⟩) by rw [HA1.out,if_pos hk3]);have HCN:=sH (Q2c (S.nA q) nn (S.nC q) s.now w2 w.heap.size (HNRD.out.below HB2.out) hs2 (by omega));clear hk3;go_wp2_with fail
  refine HCN.out.mono ?_;rintro _ w5 ⟨v,rfl,ho5,hb5⟩;obtain⟨A5,k5,hv5,_⟩:=Q0e ho5;rw [<- HNN.out] at hv5;subst hv5;have HO5:=sH ho5;have HB5:=sH (HB2.out.trans (hb5.mono hs2));have K45:=sH (K42.out.below' hb5);clear ho5 hb5 HCN;go_wp2_with (refine Q00 (o:=⟨none,_,_,_,_,_⟩) rfl 34 (.tmp 4) (.tmp 38) rfl g4 0 (anC 0 none 0 0 (at_:Int) A5 nn k5) rfl rfl 34 _ K45.out (Q1z _ _ _ _ _ _ _ _) (by simp [anC]) (Q1N _ _ _ _ _ _ _ _) ?_; intro w7 hT7 hD7; rw [Q2x _ rfl] at hD7)
  refine bodyPost_ret (Q0y rfl _ _ g4 4 34 _ _ rfl hD7 Tryz.underlying34 rfl rfl rfl) rfl ?_;refine HPI.out _ _ _ HAA.out ⟨A5,k5,by rw [HAT.out,HNN.out]; rfl,?_⟩ rfl (hT7.below HB5.out hgw4);have:=HO5.out.keep_ (w':=w7) fun b hb=>hT7.block b (fun e=>by have:=HO5.out.ge_ hb; omega)
  rw [<- HNN.out];exact OwnN.more this hs2
 have hk3b:(x.kind == 3)=false:=by simpa using hk3
 by_cases hcl:x.client=34
 ·have hclb:(x.client != 34)=false:=by simp [hcl]
  have HH:=sH (Q48 s.f (S.nA q) nn (S.nC q) s.now x.old w2 ((HNRD.out.below HB2.out).more hs2) HNOW.out);obtain⟨C,hC⟩:∃ C,C=crC s.f (S.nA q) nn (S.nC q):=⟨_,rfl⟩;rw [<- hC] at HH;have hcs:C.size=2:=by rw [hC]; rfl
  have hcd:∀ j,j<2->D[2+j]?=C[j]?:=fun j hj=>by
   rw [HDE.out,hC];obtain rfl | rfl:j=0\/j=1:=by omega
   iterate 2 ·rfl
  have HCD:=sH hcd;have e7:w2.cell? ⟨g3,7,none⟩=some (.int .i64 x.old):=(K32.out.cell 7).trans rfl;have HK3:=sH hk3;have HCLI:=sH hcl;clear hC hcd hk3 hcl;go_wp2_with (refine Q01 (o:=⟨some 46,_,_,_,_,_⟩) rfl 69 (.tmp 45) rfl g6 2 2 rfl 117 _ C _ HD2.out Tryz.underlying69 rfl rfl hcs HCD.out ?_)
  refine HH.out.mono ?_;rintro _ w3 ⟨rfl,hb3⟩;have hs3:=hb3.size;have HB3:=sH (HB2.out.trans (hb3.mono hs2));have K33:=sH (K32.out.below' hb3);have K43:=sH (K42.out.below' hb3);have HD3:=sH (HD2.out.below' hb3);have hs13:=HB3.out.size;clear hb3 HH K32 K42 HD2 d3 d4 e4 e0 e7;have HAA1:=sH (show Q0t m x=if ¬ x.old∈s.now\/Q0H m.chunks s.f x.new=true then(m,errA 180 s.moves.length) else if s.moves.length+1=22 then(m,errA 5 0) else(mvQ m q s x.old x.new,errA 0 (s.moves.length+1)) by rw [HA1.out,if_neg HK3.out,if_neg (by rw [HCLI.out]; simp)]);by_cases hold:x.old∈s.now
  ·rw [decide_eq_true hold];have HU:=sH (Q6U w3 V.g V.gc s.f _ N m S x.new (HD.out w3 HB3.out) hnf);have d2:w3.cell? ⟨g6,2,none⟩=some (.int .i64 (s.f:Int)):=(HD3.out.cell 2).trans (by rw [HDE.out]; rfl);have e8:w3.cell? ⟨g3,8,none⟩=some (.int .i64 x.new):=(K33.out.cell 8).trans rfl;have HOLD:=sH hold;obtain⟨u,hu⟩:∃ u,u=Q0H m.chunks s.f x.new:=⟨_,rfl⟩;rw [<- hu] at HU;have HUE:=sH hu;clear hold hu;go_wp2_with fail
   refine HU.out.mono ?_;rintro _ w4 ⟨rfl,hb4⟩;have hs4:=hb4.size;have HB4:=sH (HB3.out.trans (hb4.mono hs13));have K34:=sH (K33.out.below' hb4);have K44:=sH (K43.out.below' hb4);have hs14:=HB4.out.size;clear hb4 HU K33 K43 HD3 d2 e8;cases u with
   | true =>
    have HAA:=sH (show Q0t m x=(m,errA 180 s.moves.length) by rw [HAA1.out,if_pos (.inr HUE.out.symm)]);go_wp2_with (refine Q00 (o:=⟨none,_,_,_,_,_⟩) rfl 34 (.tmp 4) (.tmp 61) rfl g4 0 (anC 180 none 0 0 (at_:Int) none 0 0) rfl rfl 34 _ K44.out (Q1z _ _ _ _ _ _ _ _) (by simp [anC]) (Q1N _ _ _ _ _ _ _ _) ?_; intro w7 hT7 hD7; rw [Q2x _ rfl] at hD7)
    refine bodyPost_ret (Q0y rfl _ _ g4 4 34 _ _ rfl hD7 Tryz.underlying34 rfl rfl rfl) rfl ?_;exact HPI.out _ _ _ HAA.out (by rw [<- HAT.out]; exact AnsN.bare _ _ 180 at_) rfl (hT7.below HB4.out hgw4)
   | false =>
    have HAA2:=sH (show Q0t m x=if s.moves.length+1=22 then(m,errA 5 0) else(mvQ m q s x.old x.new,errA 0 (s.moves.length+1)) by rw [HAA1.out,if_neg (fun h=>by
     rcases h with h | h
     ·exact h HOLD.out
     rw [<- HUE.out] at h; cases h)])
    by_cases h22:at_=21
    ·have h22b:((at_:Int)+1 == 22)=true:=by simp [h22]
     have HAA:=sH (show Q0t m x=(m,errA 5 0) by rw [HAA2.out,if_pos (by rw [<- HAT.out]; omega)]);clear h22;go_wp2_with (refine Q00 (o:=⟨none,_,_,_,_,_⟩) rfl 34 (.tmp 4) (.tmp 66) rfl g4 0 (anC 5 none 0 0 0 none 0 0) rfl rfl 34 _ K44.out (Q1z _ _ _ _ _ _ _ _) (by simp [anC]) (Q1N _ _ _ _ _ _ _ _) ?_; intro w7 hT7 hD7; rw [Q2x _ rfl] at hD7)
     refine bodyPost_ret (Q0y rfl _ _ g4 4 34 _ _ rfl hD7 Tryz.underlying34 rfl rfl rfl) rfl ?_;exact HPI.out _ _ _ HAA.out (AnsN.bare _ _ 5 0) rfl (hT7.below HB4.out hgw4)
    have h22b:((at_:Int)+1 == 22)=false:=by simp; omega
    have HAA:=sH (show Q0t m x=(mvQ m q s x.old x.new,errA 0 (s.moves.length+1)) by rw [HAA2.out,if_neg (by rw [<- HAT.out]; omega)]);have hk4:1<=x.new/\x.new<=28:=by
     rcases HK.out with e | e
     ·exact absurd e HK3.out
     exact⟨e.2.2.2.1,e.2.2.2.2.1⟩
    have HGD:=sH (show Q0H m.chunks s.f x.new=false/\Q1I s.now x.old x.new from⟨HUE.out.symm,HOLD.out,fun e=>(Q3G HUE.out.symm).2 (Q7y (zM HS.out) (Q6z e)),hk4.1,hk4.2⟩);have hd4:ADat w4 V.g V.gc (some ⟨V.T.t,0,none⟩) (fun b=>N b\/b=g4) m S:=(HD0.out.mono (fun b hb hn=>hn.elim id (fun e=>by omega)) ⟨.inl HD0.out.gN.1,.inl HD0.out.gN.2⟩).below HB4.out;have HMV:=sH (Q7A w4 V.g V.gc q _ (fun b=>N b\/b=g4) m S s x.old x.new hd4 HS.out (fun b hb=>by
     rcases hb with hb | hb
     ·have:=HNL.out b hb; omega
     have:=K44.out.lt; omega) HV.out.far.1 (by rw [<- HAT.out]; omega))
    have HD4:=sH hd4;have e7:w4.cell? ⟨g3,7,none⟩=some (.int .i64 x.old):=(K34.out.cell 7).trans rfl;have e8:w4.cell? ⟨g3,8,none⟩=some (.int .i64 x.new):=(K34.out.cell 8).trans rfl;clear hd4 h22;go_wp2_with fail
    refine HMV.out.mono ?_;rintro _ w5 ⟨hgo,_⟩;obtain⟨rfl,S',hd5,ho5⟩:=hgo HGD.out;have hmv5:∀ b,(b=V.gc\/MvC S q b)->b=V.gc\/IsMv S m.chunks.length b:=fun b hb=>by
     rcases hb with e | ⟨a,e1,e2⟩
     ·exact .inl e
     exact .inr ⟨q,a,hql,e1,e2⟩
    have hlt5:∀ b,(b=V.gc\/MvC S q b)->b<w.heap.size:=fun b hb=>AAt.hasN_lt HD0.out HNL.out HV.out.all (hmv5 b hb)
    have hnT:∀ b,V.T.has b->¬ (b=V.gc\/MvC S q b):=fun b hb e=>by
     rcases hmv5 b e with e | e
     ·exact HV.out.far.2.2.1 (e▸hb)
     exact HD0.out.mvN b e (HV.out.all b (.inr (.inr (.inr hb))))
    have hnk:∀ b,V.k.has b->¬ (b=V.gc\/MvC S q b):=fun b hb e=>by
     rcases hmv5 b e with e | e
     ·exact HV.out.far.2.2.2.2 (e▸hb)
     exact HD0.out.mvN b e (HV.out.all b (.inr (.inr (.inl hb))))
    have ht5:=(HV.out.tree.below HB4.out).only ho5 hnT;have hbk5:=(HBK.out.below HB4.out).only ho5 (hnk _ (.inl rfl)) (hnk _ (.inr (.inl rfl))) (hnk _ (.inr (.inr rfl)));have HST:=sH (Q7l w5 V.g V.gc q V.T V.k (fun b=>N b\/b=g4) _ S' _ L asked hd5 (by omega) ht5 (Q0r m) hbk5 (by omega));rw [Q9P (by omega)] at HST;have HD5:=sH hd5;have HO5:=sH ho5;have HMV5:=sH hmv5;have K45:=sH (ho5.blk K44.out (fun e=>by have:=hlt5 g4 e; omega));have hs5:=ho5.size;clear hgo hd5 ho5 hmv5 hlt5 hnT hnk ht5 hbk5 HMV e7 e8;go_wp2_with fail
    refine HST.out.mono ?_;rintro _ w6 ⟨rfl,hsb⟩;obtain⟨L',a',p1,p2,p3,p4⟩:=hsb.book;have hkT:∀ b,(V.T.mut b\/V.k.has b)->b<w.heap.size:=fun b hb=>HNL.out b (HV.out.all b (by
     rcases hb with e | e
     ·exact .inr (.inr (.inr (.inr (.inr e))))
     exact .inr (.inr (.inl e))))
    have hd6:ADat w6 V.g V.gc (some ⟨V.T.t,0,none⟩) (fun b=>N b\/b=g4) (mvQ m q s x.old x.new) S':=HD5.out.only hsb.only (fun b hb=>.inl (HV.out.all b (by
     rcases hb with e | e
     ·exact .inr (.inr (.inr (.inr (.inr e))))
     ·exact .inr (.inr (.inl e))))) (fun e=>by
     rcases e with e | e
     ·exact HV.out.far.2.1 (.inr (.inr e))
     ·exact HV.out.far.2.2.2.1 e) (fun e=>by
     rcases e with e | e
     ·exact HV.out.far.2.2.1 (.inr (.inr e))
     exact HV.out.far.2.2.2.2 e)
    have hT6:=hsb.tree;have hin6:=p4 L (fun _ h=>h) HIN.out;have ho6:Only (V.hasN N) w w6:=by
     refine((Only.of_below HB4.out).trans (HO5.out.mono fun b _ e=>?_)).trans (hsb.only.mono fun b _ e=>?_)
     ·rcases HMV5.out b e with e | e
      ·exact .inl (.inr (.inl e))
      exact .inr (HD0.out.mvN b e)
     rcases e with e | e
     ·exact .inl (.inr (.inr (.inl e)))
     exact .inl (.inr (.inr (.inr e)))
    have hdone:∀ w7,Q06 g4 w6 w7->Q11 w w7 V N (mvQ m q s x.old x.new) L asked 3:=fun w7 hT=>by
     have ht4:Only (fun b=>b=g4) w6 w7:=Only.of_turned hT rfl;have hold:∀ b,V.all b->b≠g4:=fun b hb e=>by have:=HNL.out b (HV.out.all b hb); omega
     refine⟨⟨⟨S',(hd6.only ht4 (fun b e=>.inr e) (fun e=>hold _ (.inl rfl) e) (fun e=>hold _ (.inr (.inl rfl)) e)).mono (fun b _ hn=>.inl hn) ⟨HD0.out.gN.1,HD0.out.gN.2⟩⟩,hT6.only ht4 (fun b hb e=>hold b (.inr (.inr (.inr hb))) e),HV.out.far,HV.out.all⟩,⟨L',a',p1.only ht4 (fun e=>hold _ (.inr (.inr (.inl (.inl rfl)))) e) (fun e=>hold _ (.inr (.inr (.inl (.inr (.inl rfl))))) e) (fun e=>hold _ (.inr (.inr (.inl (.inr (.inr rfl))))) e),p2,p3,hin6⟩,⟨ht4.os.trans ho6.os,ht4.tape.trans ho6.tape,ht4.output.trans ho6.output,Nat.le_trans ho6.size ht4.size,fun b hb hn=>(ht4.block b (by have:=ho6.size; omega) (fun e=>by omega)).trans (ho6.block b hb hn)⟩⟩
    have K46:=sH (hsb.only.blk K45.out (fun e=>by have:=hkT g4 e; omega));have HDN:=sH hdone;have hs6:=hsb.only.size;clear hsb hdone hkT p1 p2 p3 p4 HST hd6 hT6 hin6 ho6;go_wp2_with (refine Q00 (o:=⟨none,_,_,_,_,_⟩) rfl 34 (.tmp 4) (.tmp 80) rfl g4 0 (anC 0 none 0 0 ((at_:Int)+1) none 0 0) rfl rfl 34 _ K46.out (Q1z _ _ _ _ _ _ _ _) (by simp [anC]) (Q1N _ _ _ _ _ _ _ _) ?_; intro w7 hT7 hD7; rw [Q2x _ rfl] at hD7)
    refine bodyPost_ret (Q0y rfl _ _ g4 4 34 _ _ rfl hD7 Tryz.underlying34 rfl rfl rfl) rfl ?_;exact HPM.out _ _ _ _ HAA.out (by rw [<- HAT.out]; exact AnsN.bare w7 w.heap.size 0 (at_+1)) rfl (HDN.out w7 hT7)
  rw [decide_eq_false hold];have HAA:=sH (show Q0t m x=(m,errA 180 s.moves.length) by rw [HAA1.out,if_pos (.inl hold)]);clear hold;go_wp2_with (refine Q00 (o:=⟨none,_,_,_,_,_⟩) rfl 34 (.tmp 4) (.tmp 61) rfl g4 0 (anC 180 none 0 0 (at_:Int) none 0 0) rfl rfl 34 _ K43.out (Q1z _ _ _ _ _ _ _ _) (by simp [anC]) (Q1N _ _ _ _ _ _ _ _) ?_; intro w7 hT7 hD7; rw [Q2x _ rfl] at hD7)
  refine bodyPost_ret (Q0y rfl _ _ g4 4 34 _ _ rfl hD7 Tryz.underlying34 rfl rfl rfl) rfl ?_;exact HPI.out _ _ _ HAA.out (by rw [<- HAT.out]; exact AnsN.bare _ _ 180 at_) rfl (hT7.below HB3.out hgw4)
 have hclb:(x.client != 34)=true:=by simpa using hcl
 have HAA:=sH (show Q0t m x=(m,errA 180 0) by rw [HA1.out,if_neg hk3,if_pos hcl]);clear hk3 hcl;go_wp2_with (refine Q00 (o:=⟨none,_,_,_,_,_⟩) rfl 34 (.tmp 4) (.tmp 43) rfl g4 0 (anC 180 none 0 0 0 none 0 0) rfl rfl 34 _ K42.out (Q1z _ _ _ _ _ _ _ _) (by simp [anC]) (Q1N _ _ _ _ _ _ _ _) ?_; intro w7 hT7 hD7; rw [Q2x _ rfl] at hD7)
 refine bodyPost_ret (Q0y rfl _ _ g4 4 34 _ _ rfl hD7 Tryz.underlying34 rfl rfl rfl) rfl ?_;exact HPI.out _ _ _ HAA.out (AnsN.bare _ _ 180 0) rfl (hT7.below HB2.out hgw4)
def lsQ (m:AM) (j st:Nat) (a:Ans):AM:=⟨m.chunks,m.last.set j (st,a)⟩
theorem Q79 {m:AM} {j st:Nat} {a:Ans} (hl:m.last.length=4) (hj:j<4):Q0u (lsQ m j st a) j=(st,a):=by unfold Q0u lsQ;rw [zH];simp only [zJ];rw [if_pos trivial,if_pos (by omega)];rfl
theorem Q47 {m:AM} {j st i:Nat} {a:Ans} (hi:i≠j):Q0u (lsQ m j st a) i=Q0u m i:=by unfold Q0u lsQ;rw [zH,zH];simp only [zJ];rw [if_neg (fun e=>hi e.symm)]
def lsS (S:ASl) (j:Nat) (A:Option zA) (k:Nat):ASl:={ S with lA:=upd S.lA j A,lC:=upd S.lC j k }
def lsC (st:Nat) (a:Ans) (A:Option zA) (k:Nat):Array Value:=#[.int .i64 (st:Int),.int .i64 (a.err:Int),.slice none 0 0,.int .i64 (a.epoch:Int),.slice A a.nodes.length k]
theorem aCs_ls (t:Option zA) (gc:Nat) (m:AM) (S:ASl) (j st:Nat) (a:Ans) (A:Option zA) (k:Nat) (hl:m.last.length=4) (hj:j<4):spl (aCs t gc m S) (2+j*5) (lsC st a A k).toList=aCs t gc (lsQ m j st a) (lsS S j A k):=by
 have hle:2+j*5+(lsC st a A k).toList.length<=(aCs t gc m S).size:=by rw [Q29]; show 2+j*5+5<=22; omega
 apply Array.ext_getElem?
 intro q;rw [Q4y hle];have hls:(lsC st a A k).toList.length=5:=rfl;rw [hls];rcases Nat.lt_or_ge q 22 with hq | hq
 ·rw [Q1a t gc (lsQ m j st a) (lsS S j A k) q hq];by_cases hin:2+j*5<=q/\q<2+j*5+5
  ·rw [if_pos hin];unfold aF;rw [if_neg (by omega),if_neg (by omega),show (q - 2) / 5=j by omega];have e:Q1R (lsS S j A k) (lsQ m j st a) j=lsC st a A k:=by
    unfold Q1R;rw [Q79 hl hj];show #[_,_,_,_,zL (upd S.lA j A j) _ (upd S.lC j k j)]=_;rw [Q13,Q13];rfl
   rw [e,show (q - 2) % 5=q - (2+j*5) by omega,zI];have hz:q - (2+j*5)<(lsC st a A k).size:=by show _<5; omega
   rw [Array.getElem?_eq_getElem hz];simp [Array.getD,hz]
  rw [if_neg hin,Q1a _ _ _ _ _ hq];unfold aF;split
  ·rfl
  split
  ·rfl
  have hne:(q - 2) / 5≠j:=by omega
  have e:Q1R (lsS S j A k) (lsQ m j st a) ((q - 2) / 5)=Q1R S m ((q - 2) / 5):=by unfold Q1R;rw [Q47 hne];show #[_,_,_,_,zL (upd S.lA j A _) _ (upd S.lC j k _)]=_;rw [Q0W _ _ _ hne,Q0W _ _ _ hne]
  rw [e]
 rw [if_neg (by omega),Array.getElem?_eq_none (by rw [Q29]; exact hq),Array.getElem?_eq_none (by rw [Q29]; exact hq)]
theorem ADat.lasted {w w':zB} {g gc j st B0:Nat} {t:Option zA} {N:Nat->Prop} {m:AM} {S:ASl} {a:Ans} {A:Option zA} {k:Nat} (h:ADat w g gc t N m S) (hj:j<4) (hg:g≠gc) (hT:Q06 g w w')
 (hb:Blk w' g 84 (spl (aCs t gc m S) (2+j*5) (lsC st a A k).toList)) (hn:OwnN w B0 (.slice A a.nodes.length k) a.nodes) (hB0:∀ b,N b->b<B0) (hok:AOk (lsQ m j st a)):ADat w' g gc t N (lsQ m j st a) (lsS S j A k):=by
 have ho:Only (fun b=>b=g) w w':=Only.of_turned hT rfl;rw [aCs_ls _ _ _ _ _ _ _ _ _ h.ok.last hj] at hb;refine h.head ho hg hb rfl hok rfl fun i hi=>?_
 by_cases e:i=j
 ·subst e;rw [Q79 h.ok.last hi];show FarN w' _ (upd S.lA i A i) (upd S.lC i k i) _;rw [Q13,Q13];have hn':OwnN w' B0 (.slice A a.nodes.length k) a.nodes:=hn.keep_ fun b hb'=>hT.block b (fun e=>Q09 hn h.blk (by decide) (by rw [hb',e]))
  obtain⟨A',c',e,q1,q2,q3,q4⟩:=Q0e hn';injection e with e1 _ e2
  subst e1 e2;refine⟨q3,⟨q1,q2⟩,fun ad h0 ha hbad=>?_⟩;rcases hbad with hbad | hbad
  ·have:=hB0 _ hbad; have:=q4 ad ha; omega
  obtain⟨i',a',hi',ha',hbb⟩:=hbad;rcases(h.mv i' _ (List.getElem?_eq_getElem hi')).2 with⟨e1,_⟩ | ⟨g',cap',cur',e1,_,e3,_⟩
  ·injection e1 with e1; rw [ha'] at e1; cases e1
  injection e1 with e1
  rw [ha'] at e1;injection e1 with e1
  subst e1;have hB:Blk w g' 119 cur':=e3;exact Q6Y hn hB (by decide) ad ha hbb.symm
 rw [Q47 e];show FarN w' _ (upd S.lA j A i) (upd S.lC j k i) _;rw [Q0W _ _ _ e,Q0W _ _ _ e];exact(h.nodes i hi).only ho (fun b e=>.inl (e▸h.gN.1))
theorem leafQ_ls {m:AM} {j st i:Nat} {a:Ans} (h:i≠2+j):Q1C (lsQ m j st a) i=Q1C m i:=by
 unfold Q1C Q5t;split
 ·rfl
 rw [Q47 (by omega)]
theorem Q9T {m:AM} {j st:Nat} {a:Ans} (hj:j<4):(Q07 m).set (2+j) (Q1C (lsQ m j st a) (2+j))=Q07 (lsQ m j st a):=by
 apply List.ext_getElem?
 intro i;rw [zJ,Q0r];rcases Nat.lt_or_ge i 6 with hi | hi
 ·rw [Q1c _ i hi];by_cases e:2+j=i
  ·subst e; rw [if_pos rfl,if_pos hi,Q1c _ _ hi]
  rw [if_neg e,Q1c _ i hi,leafQ_ls (fun q=>e q.symm)]
 rw [if_neg (by omega),zE (by rw [Q0r]; exact hi),zE (by rw [Q0r]; exact hi)]
theorem didQ_new {m:AM} {x:Wish} {j:Nat} (hj:j=(x.client - 31).toNat) (h:((Q0u m j).1:Int)<x.stamp) (hx:inQ x=true) (hm:AOk m):didQ m x=lsQ (Q0t m x).1 j x.stamp.toNat (Q0t m x).2:=by unfold didQ;rw [<- hj,if_pos h];rfl
end
end Go.Proofs.YtckjnbjiafgibaaGreat
