/- Parts of the proof, in one text: AlDA, Bump, RvL, AlDB, AlDoes. -/
import Derived.Test.YtcpngeiahgoacaaGreatD26
import Derived.Test.YtcpngeiahgoacaaGreatD27
import Derived.Test.YtcpngeiahgoacaaGreatD22
import Derived.Test.YtcpngeiahgoacaaGreatD16
import Derived.Test.YtcpngeiahgoacaaGreatD8
import Derived.Test.YtcpngeiahgoacaaGreatD21
import Derived.Test.YtcpngeiahgoacaaGreatD3
import Derived.Test.YtcpngeiahgoacaaGreatD1
import Derived.Test.YtcpngeiahgoacaaGreatD6
import Derived.Test.YtcpngeiahgoacaaGreatD10
import Derived.BigRegion
namespace Go.Proofs.YtcpngeiahgoacaaGreat
set_option linter.unusedVariables false
set_option linter.unusedSimpArgs false
set_option maxRecDepth 100000
set_option maxHeartbeats 16000000
section
open Go.RowKit Go.Maps
theorem AAt.onlyD {w w':World} {V:ALoc} {N M:Nat->Prop} {m:AM} (h:AAt w V N m) (ho:Only M w w') (hM:∀ b,M b->N b/\¬ V.all b):AAt w' V N m:=by
 obtain⟨S,hd⟩:=h.dat;exact⟨⟨S,hd.only ho (fun b hb=>(hM b hb).1) (fun hb=>(hM _ hb).2 (.inl rfl)) (fun hb=>(hM _ hb).2 (.inr (.inl rfl)))⟩,h.tree.only ho (fun b hb hm=>(hM b hm).2 (.inr (.inr (.inr hb)))),h.far,h.all⟩
theorem ALSt.onlyD {w0 W W':World} {V:ALoc} {N M:Nat->Prop} {m:AM} {a:Nat} (h:ALSt w0 V N m a W) (ho:Only M W W') (hM:∀ b,M b->N b/\¬ V.all b/\w0.heap.size<=b):ALSt w0 V N m a W':=by
 obtain⟨L,a',h1,h2,h3⟩:=h.book;exact⟨h.vat.onlyD ho fun b hb=>⟨(hM b hb).1,(hM b hb).2.1⟩,⟨L,a',h1.only ho (fun hm=>(hM _ hm).2.1 (.inr (.inr (.inl (.inl rfl))))) (fun hm=>(hM _ hm).2.1 (.inr (.inr (.inl (.inr (.inl rfl)))))) (fun hm=>(hM _ hm).2.1 (.inr (.inr (.inl (.inr (.inr rfl)))))),h2,h3⟩,h.low.trans (ho.below h.low.size fun b hb hm=>by have:=(hM b hm).2.2; omega),fun b hn=>by have:=h.nlt b hn; have:=ho.size; omega,h.old,h.new⟩
theorem ALSt.room {w0 W:World} {V:ALoc} {N:Nat->Prop} {m:AM} {a C:Nat} (h:ALSt w0 V N m a W):AAt W V (fun b=>N b\/(W.heap.size<=b/\b<C)) m :=
 h.vat.mono (fun b hb hn=>hn.elim id fun e=>by omega) fun b hb=>.inl (h.vat.all b hb)
structure DSt (w0:World) (V:ALoc) (g:Nat) (ma mb:AM) (a:Nat) (Lw N N2:Nat->Prop) (W:World):Prop where
 one:ALSt w0 V N ma a W
 doc:RAWr W g N2 mb
 lt2:∀ b,N2 b->b<W.heap.size
 sep:∀ b,b<W.heap.size->(¬ N b\/V.all b)->N2 b
 old2:∀ b,b<w0.heap.size->N2 b
 own:∀ b,Lw b->b<W.heap.size/\w0.heap.size<=b/\N b/\N2 b/\¬ V.all b
def DF (w0:World) (V:ALoc) (g:Nat) (ma mb:AM) (a:Nat) (Lw:Nat->Prop) (W:World):Prop:=∃ N N2,DSt w0 V g ma mb a Lw N N2 W
section
variable {w0 W W':World} {V:ALoc} {g a:Nat} {ma mb:AM} {Lw:Nat->Prop}
theorem ALSt.allLt {N:Nat->Prop} (h:ALSt w0 V N ma a W):∀ b,V.all b->b<W.heap.size:=fun b hb=>h.nlt b (h.vat.all b hb)
theorem DF.below (h:DF w0 V g ma mb a Lw W) (hb:Below W.heap.size W W'):DF w0 V g ma mb a (fun b=>Lw b\/(W.heap.size<=b/\b<W'.heap.size)) W':=by
 obtain⟨N,N2,hs⟩:=h;have hsz:=hb.size;have hlo:=hs.one.low.size;refine⟨fun b=>N b\/(W.heap.size<=b/\b<W'.heap.size),fun b=>N2 b\/(W.heap.size<=b/\b<W'.heap.size),hs.one.later hb,?_,fun b hn=>?_,fun b hl hn=>?_,fun b hb'=>.inl (hs.old2 b hb'),fun b hl=>?_⟩
 ·exact(hs.doc.mono (N':=fun b=>N2 b\/(W.heap.size<=b/\b<W'.heap.size)) fun b hl hn=>hn.elim id fun e=>by omega).below hb
 ·rcases hn with e | e
  ·have:=hs.lt2 b e; omega
  ·exact e.2
 ·rcases Nat.lt_or_ge b W.heap.size with e | e
  ·refine .inl (hs.sep b e ?_);rcases hn with q | q
   ·exact .inl fun e'=>q (.inl e')
   ·exact .inr q
  ·exact .inr ⟨e,hl⟩
 ·rcases hl with e | e
  ·obtain⟨q1,q2,q3,q4,q5⟩:=hs.own b e;exact⟨by omega,q2,.inl q3,.inl q4,q5⟩
  ·exact⟨e.2,by omega,.inr e,.inr e,fun hv=>by have:=hs.one.allLt b hv; omega⟩
theorem DF.less {Lw':Nat->Prop} (h:DF w0 V g ma mb a Lw W) (hl:∀ b,Lw' b->Lw b):DF w0 V g ma mb a Lw' W:=by
 obtain⟨N,N2,hs⟩:=h;exact⟨N,N2,hs.one,hs.doc,hs.lt2,hs.sep,hs.old2,fun b hb=>hs.own b (hl b hb)⟩
theorem DF.turn (h:DF w0 V g ma mb a Lw W) (ho:Only Lw W W') (hsz:W'.heap.size=W.heap.size):DF w0 V g ma mb a Lw W':=by
 obtain⟨N,N2,hs⟩:=h;refine⟨N,N2,hs.one.onlyD ho fun b hb=>?_,hs.doc.only ho fun b hb=>(hs.own b hb).2.2.2.1,fun b hn=>by have:=hs.lt2 b hn; omega,fun b hl=>hs.sep b (by omega),hs.old2,fun b hb=>?_⟩
 ·have:=hs.own b hb;exact⟨this.2.2.1,this.2.2.2.2,this.2.1⟩
 ·have:=hs.own b hb;exact⟨by omega,this.2⟩
theorem DF.low (h:DF w0 V g ma mb a Lw W):Below w0.heap.size w0 W:=by
 obtain⟨N,N2,hs⟩:=h;exact hs.one.low
theorem DF.lt (h:DF w0 V g ma mb a Lw W) {b:Nat} (hb:Lw b):b<W.heap.size/\w0.heap.size<=b:=by
 obtain⟨N,N2,hs⟩:=h;exact⟨(hs.own b hb).1,(hs.own b hb).2.1⟩
theorem DF.heardA (h:DF w0 V g ma mb a Lw W) (x:Wish) (A:Option Addr) (n c:Nat) (A':Option Addr) (n' c':Nat) (B:Nat) (hx:Q0Y W B x A n c A' n' c') (hB:B<=W.heap.size) :
 Calls Tryz.prog 39 #[.pointer (some ⟨V.g,0,none⟩),.agg (Q05 x A n c A' n' c')] W (Q2q W (Q1y ma x)):=by
 obtain⟨N,N2,hs⟩:=h;exact Q8v W V N ma hs.one.vat x A n c A' n' c' B hx hB
theorem DSt.didB {N N2:Nat->Prop} {mb':AM} (hs:DSt w0 V g ma mb a Lw N N2 W) (hr:RAWr W' g N2 mb') (ho:Only (fun b=>¬ N2 b) W W'):DF w0 V g ma mb' a Lw W'/\∀ b,Lw b->W'.heap[b]?=W.heap[b]?:=by
 have hsz:=ho.size;have ho2:Only (fun b=>b<W.heap.size/\¬ N2 b) W W':=ho.mono fun b hb hn=>⟨hb,hn⟩
 have hM:∀ b,b<W.heap.size/\¬ N2 b->N b/\¬ V.all b/\w0.heap.size<=b:=fun b hb=>by
  refine⟨Classical.byContradiction fun e=>hb.2 (hs.sep b hb.1 (.inl e)),fun e=>hb.2 (hs.sep b hb.1 (.inr e)),?_⟩;rcases Nat.lt_or_ge b w0.heap.size with e | e
  ·exact absurd (hs.old2 b e) hb.2
  ·exact e
 have h1:=hs.one.onlyD ho2 hM;refine⟨⟨fun b=>N b\/(W.heap.size<=b/\b<W'.heap.size),N2,⟨?_,h1.book,h1.low,fun b hn=>?_,fun b hb=>.inl (h1.old b hb),h1.new⟩,hr,fun b hn=>by have:=hs.lt2 b hn; omega,fun b hl hn=>?_,hs.old2,fun b hb=>?_⟩,fun b hb=>ho.block b (hs.own b hb).1 fun e=>e (hs.own b hb).2.2.2.1⟩
 ·exact(hs.one.room (C:=W'.heap.size)).onlyD ho2 fun b hb=>⟨.inl (hM b hb).1,(hM b hb).2.1⟩
 ·rcases hn with e | e
  ·have:=hs.one.nlt b e; omega
  ·exact e.2
 ·rcases Nat.lt_or_ge b W.heap.size with e | e
  ·refine hs.sep b e ?_;rcases hn with q | q
   ·exact .inl fun e'=>q (.inl e')
   ·exact .inr q
  ·rcases hn with q | q
   ·exact absurd (.inr ⟨e,hl⟩) q
   ·have:=hs.one.allLt b q; omega
 ·have:=hs.own b hb;exact⟨by omega,this.2.1,.inl this.2.2.1,this.2.2.2⟩
theorem DF.heardB (h:DF w0 V g ma mb a Lw W) (x:Wish) (A:Option Addr) (n c:Nat) (A':Option Addr) (n' c':Nat) (B:Nat) (hx:Q0Y W B x A n c A' n' c') (hB:B<=W.heap.size) :
 Calls Tryz.prog 40 #[.pointer (some ⟨g,0,none⟩),.agg (Q05 x A n c A' n' c')] W fun e W'=>∃ A c,e=.returned (.tuple #[.agg (anC ((Q1y mb x).1.err:Int) none 0 0 ((Q1y mb x).1.epoch:Int) A (Q1y mb x).1.nodes.length c),.bool (Q1y mb x).2])/\OwnN W' W.heap.size (.slice A (Q1y mb x).1.nodes.length c) (Q1y mb x).1.nodes/\DF w0 V g ma mb a Lw W'/\(∀ b,Lw b->W'.heap[b]?=W.heap[b]?)/\W.heap.size<=W'.heap.size:=by
 obtain⟨N,N2,hs⟩:=h;refine(Qa3 W g N2 mb x A n c A' n' c' B hs.doc hs.lt2 hx hB).mono ?_;rintro e W' ⟨A1,c1,rfl,ho,hr,hon⟩;obtain⟨q1,q2⟩:=hs.didB hr hon;exact⟨A1,c1,rfl,ho,q1,q2,hon.size⟩
theorem DF.doB (h:DF w0 V g ma mb a Lw W) (x:Wish) (A:Option Addr) (n c:Nat) (A':Option Addr) (n' c':Nat) (B:Nat) (hx:Q0Y W B x A n c A' n' c') (hB:B<=W.heap.size) :
 Calls Tryz.prog 44 #[.pointer (some ⟨g,0,none⟩),.agg (Q05 x A n c A' n' c')] W fun e W'=>∃ A c,e=.returned (.tuple #[.agg (anC ((doQ mb x).2.1.err:Int) none 0 0 ((doQ mb x).2.1.epoch:Int) A (doQ mb x).2.1.nodes.length c),.int .i64 ((doQ mb x).2.2:Int)])/\OwnN W' W.heap.size (.slice A (doQ mb x).2.1.nodes.length c) (doQ mb x).2.1.nodes/\DF w0 V g ma (doQ mb x).1 a Lw W'/\(∀ b,Lw b->W'.heap[b]?=W.heap[b]?)/\W.heap.size<=W'.heap.size:=by
 obtain⟨N,N2,hs⟩:=h;refine(Qba W g N2 mb x A n c A' n' c' B hs.doc hs.lt2 hx hB).mono ?_;rintro e W' ⟨A1,c1,rfl,ho,hr,hon⟩;obtain⟨q1,q2⟩:=hs.didB hr hon;exact⟨A1,c1,rfl,ho,q1,q2,hon.size⟩
theorem DF.doA (h:DF w0 V g ma mb a Lw W) (ha:a<=700000) (x:Wish) (A:Option Addr) (n c:Nat) (A':Option Addr) (n' c':Nat) (B:Nat) (hx:Q0Y W B x A n c A' n' c') (hB:B<=W.heap.size) :
 Calls Tryz.prog 43 #[.pointer (some ⟨V.g,0,none⟩),.agg (Q05 x A n c A' n' c')] W fun e W'=>∃ D q,e=.returned (.tuple #[.agg D,.int .i64 ((doQ ma x).2.2:Int)])/\D.size=4/\W.heap.size<=q/\AnsN W' q D (doQ ma x).2.1/\DF w0 V g (doQ ma x).1 mb (a+6) (fun b=>Lw b\/(q<=b/\b<W'.heap.size)) W'/\(∀ b,Lw b->W'.heap[b]?=W.heap[b]?)/\W.heap.size<=W'.heap.size:=by
 obtain⟨N,N2,hs⟩:=h;obtain⟨L,a',h1,h2,h3⟩:=hs.one.book;refine(QaZ W V N ma L a' hs.one.vat hs.one.nlt h1 h3 (by omega) x A n c A' n' c' B hx hB).mono ?_;rintro r W' ⟨D,q,rfl,hD,hq,han,hdn⟩;obtain⟨L',b',p1,p2,p3,p4⟩:=hdn.book;have hon:Only (V.hasN N) W W':=hdn.only.mono fun b hb hv=>hv.imp id fun hn e=>hn (.inl e)
 have hsz:=hon.size;have hlo:=hs.one.low.size;refine⟨D,q,rfl,hD,hq,han,⟨fun b=>N b\/(q<=b/\b<W'.heap.size),fun b=>N2 b\/(W.heap.size<=b/\b<W'.heap.size),⟨hdn.vat,⟨L',b',p1,by omega,p4⟩,hs.one.only hon,fun b hn=>?_,fun b hb=>.inl (hs.one.old b hb),hs.one.new⟩,?_,fun b hn=>?_,fun b hl hn=>?_,fun b hb=>.inl (hs.old2 b hb),fun b hl=>?_⟩,fun b hb=>?_,hsz⟩
 ·rcases hn with e | e
  ·have:=hs.one.nlt b e; omega
  ·exact e.2
 ·have hr:RAWr W g (fun b=>N2 b\/(W.heap.size<=b/\b<W'.heap.size)) mb:=hs.doc.mono fun b hl hn=>hn.elim id fun e=>by omega
  refine hr.only (hon.mono (N':=fun b=>b<W.heap.size/\V.hasN N b) fun b hb hv=>⟨hb,hv⟩) fun b hb=>.inl (hs.sep b hb.1 ?_)
  rcases hb.2 with e | e
  ·exact .inr (AAt.has_all (w:=w0) (m:=ma) (N:=N) e)
  ·exact .inl e
 ·rcases hn with e | e
  ·have:=hs.lt2 b e; omega
  ·exact e.2
 ·rcases Nat.lt_or_ge b W.heap.size with e | e
  ·refine .inl (hs.sep b e ?_);rcases hn with q' | q'
   ·exact .inl fun e'=>q' (.inl e')
   ·exact .inr q'
  ·exact .inr ⟨e,hl⟩
 ·rcases hl with e | e
  ·have:=hs.own b e;exact⟨by omega,this.2.1,.inl this.2.2.1,.inl this.2.2.2.1,this.2.2.2.2⟩
  ·exact⟨e.2,by omega,.inr e,.inr ⟨by omega,e.2⟩,fun hv=>by have:=hs.one.allLt b hv; omega⟩
 ·have:=hs.own b hb;refine hon.block b this.1 fun hv=>?_
  rcases hv with e | e
  ·exact this.2.2.2.2 (AAt.has_all (w:=w0) (m:=ma) (N:=N) e)
  ·exact e this.2.2.1
theorem DF.same (h:DF w0 V g ma ma a Lw W):Calls Tryz.prog 42 #[.pointer (some ⟨V.g,0,none⟩),.pointer (some ⟨g,0,none⟩)] W fun e w'=>e=.returned (.bool true)/\Below W.heap.size W w':=by
 obtain⟨N,N2,hs⟩:=h;obtain⟨S,hd,_⟩:=hs.doc;exact Qco W V N N2 ma g S hs.one.vat hd
end
end
section
open Go.RowKit Go.Maps
def Q42 (p:Nat->Int×List Int) (fA:Nat->Option Addr) (fC:Nat->Nat):Nat->List Value
 | 0=>[]
 | i+1=>Q42 p fA fC i++[.int .i64 (p i).1,.slice (fA i) (p i).2.length (fC i)]
theorem Q9D (p:Nat->Int×List Int) (fA:Nat->Option Addr) (fC:Nat->Nat):∀ i,(Q42 p fA fC i).length=i*2
 | 0=>rfl
 | i+1=>by
  show (Q42 p fA fC i++_).length=_;rw [List.length_append,Q9D p fA fC i];show i*2+2=_;omega
theorem Q9P (p:Nat->Int×List Int) (fA:Nat->Option Addr) (fC:Nat->Nat) (k:Nat) (A:Option Addr) (c:Nat):∀ i,i<=k->Q42 p (upd fA k A) (upd fC k c) i=Q42 p fA fC i
 | 0,_=>rfl
 | i+1,h=>by
  show Q42 p (upd fA k A) (upd fC k c) i++_=Q42 p fA fC i++_;rw [Q9P p fA fC k A c i (by omega),Q1f _ _ _ (by omega),Q1f _ _ _ (by omega)]
theorem Q6E (p:Nat->Int×List Int) (fA:Nat->Option Addr) (fC:Nat->Nat):∀ (i j:Nat),j<i->(Q42 p fA fC i)[j*2]?=some (.int .i64 (p j).1)/\(Q42 p fA fC i)[j*2+1]?=some (.slice (fA j) (p j).2.length (fC j))
 | i+1,j,h=>by
  show (Q42 p fA fC i++_)[j*2]?=_/\(Q42 p fA fC i++_)[j*2+1]?=_;have hl:=Q9D p fA fC i;by_cases e:j=i
  ·subst e;rw [List.getElem?_append_right (by omega),List.getElem?_append_right (by omega),hl,Nat.sub_self,show j*2+1 - j*2=1 by omega];exact⟨rfl,rfl⟩
  ·rw [List.getElem?_append_left (by omega),List.getElem?_append_left (by omega)];exact Q6E p fA fC i j (by omega)
structure Q7p (w:World) (B:Nat) (v:Value) (p:Nat->Int×List Int) (i:Nat) (fA:Nat->Option Addr) (fC:Nat->Nat):Prop where
 row:w.ownsRow B 77 2 v i (Q42 p fA fC i)
 nodes:∀ j,j<i->OwnN w B (.slice (fA j) (p j).2.length (fC j)) (p j).2
theorem Q7p.below {w w':World} {B i:Nat} {v:Value} {p:Nat->Int×List Int} {fA:Nat->Option Addr} {fC:Nat->Nat} (h:Q7p w B v p i fA fC) (hb:Below w.heap.size w w'):Q7p w' B v p i fA fC :=
 ⟨Q0f h.row fun b hb'=>hb.block b (Q0a h.row hb').2,fun j hj=>(h.nodes j hj).below_ hb⟩
theorem Q7p.push {w W:World} {B i:Nat} {v v':Value} {p:Nat->Int×List Int} {fA:Nat->Option Addr} {fC:Nat->Nat} {A:Option Addr} {c:Nat} (h:Q7p w B v p i fA fC) (hn:OwnN w B (.slice A (p i).2.length c) (p i).2) (hg:w.grownBy W v.ownBlock)
 (hown:W.ownsRow B 77 2 v' (i+1) (Q42 p fA fC i++[.int .i64 (p i).1,.slice A (p i).2.length c])):Q7p W B v' p (i+1) (upd fA i A) (upd fC i c):=by
 have hkp:∀ {u:Value} {xs:List Int},OwnN w B u xs->OwnN W B u xs:=fun {u xs} ho=>ho.keep_ fun b hb'=>hg.block b (Q0a ho hb').2 fun e=>by
  rcases h.row.2 with⟨e1,_⟩ | ⟨gc,cap,cur,e1,_,e3,_⟩
  ·rw [e1] at e; cases e
  ·have hB:Blk w gc 77 cur:=e3;rw [e1] at e;have e':b=gc:=by simpa [Value.ownBlock] using e
   exact Q09 ho hB (by decide) (e'▸hb')
 refine⟨?_,fun j hj=>?_⟩
 ·show W.ownsRow _ _ _ _ _ (Q42 p (upd fA i A) (upd fC i c) i++[.int .i64 (p i).1,.slice (upd fA i A i) _ (upd fC i c i)]);rw [Q9P _ _ _ _ _ _ i (Nat.le_refl _),Q1i,Q1i];exact hown
 ·by_cases e:j=i
  ·subst e; rw [Q1i,Q1i]; exact hkp hn
  ·rw [Q1f _ _ _ e,Q1f _ _ _ e]; exact hkp (h.nodes j (by omega))
def pOf (cs:List (Int×List Int)) (j:Nat):Int×List Int:=cs.getD j (0,[])
theorem Q7p.crewsAt {w:World} {B:Nat} {v:Value} {cs:List (Int×List Int)} {fA:Nat->Option Addr} {fC:Nat->Nat} (h:Q7p w B v (pOf cs) cs.length fA fC) (hl:∀ q,q∈cs->q.2.length<=17592186044416):∃ A c,v=.slice A cs.length c/\Q2p w A cs.length cs:=by
 rcases h.row.2 with⟨e,h0⟩ | ⟨gl,cap,cur,e,h2,h3,h4,h5,h6,h7⟩
 ·exact⟨none,0,by rw [h0]; exact e,⟨rfl,fun h1=>by omega⟩⟩
 ·refine⟨some ⟨gl,0,none⟩,cap,e,⟨rfl,fun h1=>⟨gl,cur,rfl,h3,fun j f l hj=>?_⟩⟩⟩;have hji:=(List.getElem?_eq_some_iff.1 hj).1;have ep:pOf cs j=(f,l):=by unfold pOf; rw [List.getD_eq_getElem?_getD,hj]; rfl
  have hg:=Q6E (pOf cs) fA fC cs.length j hji;have ht:∀ q,q<cs.length*2->cur[q]?=(Q42 (pOf cs) fA fC cs.length)[q]?:=fun q hq'=>by
   rw [<- h7,List.getElem?_take,if_pos hq',Array.getElem?_toList]
  have hr:=(Q1K (h.nodes j hji)).2;rw [ep] at hg hr;exact⟨fA j,fC j,by rw [ht _ (by omega)]; exact hg.1,by rw [ht _ (by omega)]; exact hg.2,hr,hl (f,l) (List.mem_of_getElem? hj)⟩
structure LvD (w0:World) (E:Nat) (P1 P2:Option Addr) (o:Option AM) (W:World):Prop where
 none_:P1.isNone=o.isNone
 live:∀ m,o=some m->∃ V g,P1=some ⟨ALoc.g V,0,none⟩/\P2=some ⟨g,0,none⟩/\DF w0 V g m m 30 (fun b=>w0.heap.size<=b/\b<E) W
structure MutD (w0:World) (E S8:Nat) (P1 P2:Option Addr) (o:Option AM) (v:Value) (p:Nat->Int×List Int) (n:Nat) (fA:Nat->Option Addr) (fC:Nat->Nat) (W:World):Prop where
 row:W.ownsRow w0.heap.size 77 2 v n (Q42 p fA fC n)
 nin:∀ j,j<n->InI W (.slice (fA j) (p j).2.length (fC j)) (p j).2.length/\∀ b,(Value.slice (fA j) (p j).2.length (fC j)).ownBlock=some b->w0.heap.size<=b/\b<E
 live:LvD w0 E P1 P2 o W
 low:Below w0.heap.size w0 W
 size:W.heap.size=S8
theorem MutD.put {w0 W:World} {E S8:Nat} {P1 P2:Option Addr} {o:Option AM} {v:Value} {p:Nat->Int×List Int} {n:Nat} {fA:Nat->Option Addr} {fC:Nat->Nat} (h:MutD w0 E S8 P1 P2 o v p n fA fC W) {g:Nat} {cur:Array Value} (hg:w0.heap.size<=g/\g<E) (hk:Blk W g 3 cur) (i:Nat) (x:Int):MutD w0 E S8 P1 P2 o v p n fA fC (W.setCell ⟨g,i,none⟩ (.int .i64 x)):=by
 have hT:=Q0c.setCell W ⟨g,i,none⟩ (.int .i64 x);have hsz:(W.setCell ⟨g,i,none⟩ (.int .i64 x)).heap.size=W.heap.size:=by simp
 refine⟨Q0f h.row fun b hb=>hT.block b fun e=>?_,fun j hj=>⟨(h.nin j hj).1.put g i x,(h.nin j hj).2⟩,⟨h.live.none_,fun m hm=>?_⟩,hT.below h.low hg.1,hsz.trans h.size⟩
 ·have e':b=g:=e;subst e';exact Q09 h.row hk (by decide) hb
 ·obtain⟨V,g',h1,h2,h3⟩:=h.live.live m hm;exact⟨V,g',h1,h2,h3.turn (Only.of_turned hT hg) hsz⟩
theorem MutD.cell {w0 W:World} {E S8:Nat} {P1 P2:Option Addr} {o:Option AM} {A:Option Addr} {c:Nat} {p:Nat->Int×List Int} {n:Nat} {fA:Nat->Option Addr} {fC:Nat->Nat} (h:MutD w0 E S8 P1 P2 o (.slice A n c) p n fA fC W) {i:Nat} (hi:i<n):∃ gl,A=some ⟨gl,0,none⟩/\W.cell? ⟨gl,i*2+1,none⟩=some (.slice (fA i) (p i).2.length (fC i)):=by
 rcases h.row.2 with⟨e,h1⟩ | ⟨gl,cap,cur,e,h2,h3,h4,h5,h6,h7⟩
 ·omega
 ·injection e with e1 _ _
  have hB:Blk W gl 77 cur:=h3;have hg:=Q6E p fA fC n i hi;have ht:∀ q,q<n*2->cur[q]?=(Q42 p fA fC n)[q]?:=fun q hq'=>by
   rw [<- h7,List.getElem?_take,if_pos hq',Array.getElem?_toList]
  exact⟨gl,e1,by rw [hB.cell,ht _ (by omega)]; exact hg.2⟩
theorem DF.start {w0 W5 W6 W7:World} {V:ALoc} {g E:Nat} {m:AM} (hE:w0.heap.size<=E) (hb:Below w0.heap.size w0 W5) (h5:E<=W5.heap.size) (hk:∀ b,V.k.has b->E<=b) (h:ANew W5 W6 V.k V [] 0 m) (hb7:Below W6.heap.size W6 W7) (hr:RAWr W7 g (fun b=>b<W6.heap.size) m):DF w0 V g m m 30 (fun b=>w0.heap.size<=b/\b<E) W7:=by
 have h1:=ALSt.start hb ⟨by have:=hk _ (.inl rfl); omega,by have:=hk _ (.inr (.inl rfl)); omega,by have:=hk _ (.inr (.inr rfl)); omega⟩ h;have hsz6:=h.only.size;have hsz7:=hb7.size;have hlt:=h1.allLt;refine⟨fun b=>(V.all b\/b<W5.heap.size)\/(W6.heap.size<=b/\b<W7.heap.size),fun b=>b<W6.heap.size,h1.later hb7,hr,fun b hn=>?_,fun b hl hn=>?_,fun b hb'=>?_,fun b hl=>?_⟩
 ·have:b<W6.heap.size:=hn;omega
 ·show b<W6.heap.size;rcases hn with e | e
  ·rcases Nat.lt_or_ge b W6.heap.size with q | q
   ·exact q
   ·exact absurd (.inr ⟨q,hl⟩) e
  ·exact hlt b e
 ·show b<W6.heap.size;have:=hb.size;omega
 ·have hl1:w0.heap.size<=b:=hl.1;have hl2:b<E:=hl.2;refine⟨by omega,hl1,.inl (.inr (by omega)),(show b<W6.heap.size by omega),fun hv=>?_⟩;rcases hv with e | e | e | e
  ·have:=h.new.1; omega
  ·have:=h.new.2.1; omega
  ·have:=hk b e; omega
  ·have:=h.new.2.2 b e; omega
theorem LvD.start {w0 W5 W6 W7:World} {E:Nat} {k:Book} {o:Option AM} {e1 e2:Ending} (hE:w0.heap.size<=E) (hb:Below w0.heap.size w0 W5) (h5:E<=W5.heap.size) (hk:∀ b,k.has b->E<=b) (h:Q6f W5 k [] 0 o e1 W6) (hr:Q6N W6 o e2 W7):∃ P1 P2,e1=.returned (.tuple #[.pointer P1,.int .i64 (if o.isSome then 0 else 2)])/\e2=.returned (.tuple #[.pointer P2,.int .i64 (if o.isSome then 0 else 2)])/\LvD w0 E P1 P2 o W7/\Below w0.heap.size w0 W7/\Below E W5 W7:=by
 have hsz:=hb.size;cases o with
 | none =>
  obtain⟨q1,q2⟩:=h.1 rfl;have hs2:=q2.size;exact⟨none,none,q1,hr.2.1 rfl,⟨rfl,fun m hm=>by cases hm⟩,(hb.trans (q2.mono hsz)).trans (hr.1.mono (by omega)),(q2.mono h5).trans (hr.1.mono (by omega))⟩
 | some m =>
  obtain⟨V,q1,q2⟩:=h.2 m rfl;obtain⟨g,p1,p2,p3⟩:=hr.2.2 m rfl;have hkk:=q2.kk;have hs2:=q2.only.size;have hdf:=DF.start (V:=V) hE hb h5 (by rw [hkk]; exact hk) (by rw [hkk]; exact q2) hr.1 p3;exact⟨_,_,q1,p1,⟨rfl,fun m' hm=>⟨V,g,rfl,rfl,Option.some.inj hm▸hdf⟩⟩,hdf.low,(q2.only.below h5 fun b hb' hm=>by have:=hk b hm; omega).trans (hr.1.mono (by omega))⟩
structure LpD (w0:World) (P1 P2:Option Addr) (o:Option AM) (k:Nat) (W:World):Prop where
 low:Below w0.heap.size w0 W
 live:o.isSome=true->∃ V g m,P1=some ⟨ALoc.g V,0,none⟩/\P2=some ⟨g,0,none⟩/\DF w0 V g m m (30+6*k) (fun _=>False) W
theorem MutD.lp {w0 W:World} {E S8:Nat} {P1 P2:Option Addr} {o:Option AM} {v:Value} {p:Nat->Int×List Int} {n:Nat} {fA:Nat->Option Addr} {fC:Nat->Nat} (h:MutD w0 E S8 P1 P2 o v p n fA fC W):LpD w0 P1 P2 o 0 W :=
 ⟨h.low,fun ho=>by
  obtain⟨m,hm⟩:=Option.isSome_iff_exists.1 ho;obtain⟨V,g,h1,h2,h3⟩:=h.live.live m hm;exact⟨V,g,m,h1,h2,h3.less fun b hb=>hb.elim⟩⟩
structure ZrD (w0:World) (V:ALoc) (g:Nat) (m:AM) (a:Nat) (Lw:Nat->Prop) (g14:Nat) (W14:Array Value) (g15:Nat) (D15:Array Value) (vN:Value) (ln:Nat) (x:Wish) (C1:Option Addr) (e1 f1:Nat) (C2:Option Addr) (e2 f2 B b3:Nat) (W:World):Prop where
 df:DF w0 V g m m a Lw W
 nin:InI W vN ln
 nb:∀ b,vN.ownBlock=some b->b3<=b/\Lw b
 k14:Blk W g14 44 W14
 k15:Blk W g15 47 D15
 wo:Q23 W B x C1 e1 f1 C2 e2 f2
 wl:(∀ b,(Value.slice C1 e1 f1).ownBlock=some b->b<b3)/\∀ b,(Value.slice C2 e2 f2).ownBlock=some b->b<b3
theorem ZrD.put {w0:World} {V:ALoc} {g:Nat} {m:AM} {a:Nat} {Lw:Nat->Prop} {g14:Nat} {W14:Array Value} {g15:Nat} {D15:Array Value} {A4:Option Addr} {c4 ln:Nat} {x:Wish} {C1:Option Addr} {e1 f1:Nat} {C2:Option Addr} {e2 f2 B b3:Nat} {W:World} (h:ZrD w0 V g m a Lw g14 W14 g15 D15 (.slice A4 ln c4) ln x C1 e1 f1 C2 e2 f2 B b3 W) {gi:Nat} {cur:Array Value} (hA:A4=some ⟨gi,0,none⟩) (hk:Blk W gi 3 cur) (q:Nat) (z:Int):ZrD w0 V g m a Lw g14 W14 g15 D15 (.slice A4 ln c4) ln x C1 e1 f1 C2 e2 f2 B b3 (W.setCell ⟨gi,q,none⟩ (.int .i64 z)):=by
 have hT:=Q0c.setCell W ⟨gi,q,none⟩ (.int .i64 z);have hsz:(W.setCell ⟨gi,q,none⟩ (.int .i64 z)).heap.size=W.heap.size:=by simp
 have hgi:=h.nb gi (by rw [hA]; rfl);refine⟨h.df.turn (Only.of_turned hT hgi.2) hsz,h.nin.put gi q z,h.nb,hT.blk h.k14 (fun e=>Blk.ne_ h.k14 hk (by decide) e),hT.blk h.k15 (fun e=>Blk.ne_ h.k15 hk (by decide) e),⟨h.wo.data.keep fun b hb=>hT.block b fun e=>?_,h.wo.next.keep_ fun b hb=>hT.block b fun e=>?_,h.wo.dm,h.wo.nm,h.wo.rng⟩,h.wl⟩
 ·have:=h.wl.1 b hb;have e':b=gi:=e;omega
 ·have:=h.wl.2 b hb;have e':b=gi:=e;omega
end
section
open Go.RowKit Go.Maps
attribute [local irreducible] wpList Q0i
theorem Q8U {o:Oper} {a:Act} {W:World} (x:Operand) (u:TypeId) (ho:o.op=.binOp .eql 79 x (.const (.pointer none)) u) (P1:Option Addr) (hx:a.eval x=.pointer P1) (b:Bool) (hb:P1.isNone=b):(execOp a.eval o).run Tryz.prog W=.ok (.value (.bool b)) W:=by
 subst hb;have hc:a.eval (.const (.pointer none))=.pointer none:=rfl;cases P1 <;> (unfold execOp; simp only [ho,hx,hc]; go_simp)
theorem atlasDoes_law (A:Option Addr) (n c:Nat) (cs:List (Int×List Int)) (A1:Option Addr) (n1 c1:Nat) (l:List Wish) (w:World) (h:Q2V w A n cs) (hn:n<=4398046511104) (h1:Q8u w w.heap.size A1 n1 l) (hn1:n1<=2000000000000) :
 Calls Tryz.prog 5 #[.slice A n c,.slice A1 n1 c1] w fun e w'=>e=.returned (.bool true)/\Below w.heap.size w w':=by
 have H:=Lib.hid h;have H1:=Lib.hid h1;have HL:=Lib.hid h.len;have HL1:=Lib.hid h1.1;obtain⟨i0,hi0,hz0,hz1,hz2⟩:=info_parts Q8m;clear h h1;go_enter Tryz.func5,Tryz.ntmps5
 go_wp2_with fail
 go_loopw [5,6] (fun cv iv wr=>∃ i:Nat,i<=n/\iv=.int .i64 i/\Below w.heap.size w wr/\∃ fA fC,Q7p wr w.heap.size cv (pOf cs) i fA fC) (fun _ iv _=>n - (intOf iv).toNat)
 case atStart=>exact⟨0,by omega,rfl,Below.refl _ _,fun _=>none,fun _=>0,⟨by simp [Q42],.inl ⟨rfl,rfl⟩⟩,fun j h=>by omega⟩
 case round =>
  obtain⟨i,hi,rfl,hlow,fA,fC,hown⟩:=hrel;have HB:=Lib.hid hlow;have HO:=Lib.hid hown;have hsz:=hlow.size;by_cases hin:i<n
  ·skip;have hinI:(i:Int)<(n:Int):=by omega
   have hil:i<cs.length:=by have:=HL.out; omega
   obtain⟨q,o,Ai,ci,C,hA,hC,hql,hcv,hrd,hnl⟩:=Q1s (H.out.below hlow) hil;subst hA;have hpe:pOf cs i=cs[i]:=by unfold pOf; rw [List.getD_eq_getElem?_getD,List.getElem?_eq_getElem hil]; rfl
   rw [<- hpe] at hC hrd hnl;have HCP:=Lib.hid (Q5I (pOf cs i).1 Ai (pOf cs i).2.length ci (pOf cs i).2 wr wr.heap.size hrd (Nat.le_refl _) hnl);rw [<- hC] at HCP;have hcs:C.size=2:=by rw [hC]; rfl
   have HCV:=Lib.hid ((hcv wr (Below.refl _ _)).2.2);obtain⟨f,hf⟩:∃ f,f=(pOf cs i).1:=⟨_,rfl⟩;obtain⟨zs,hzs⟩:∃ z,z=(pOf cs i).2:=⟨_,rfl⟩;rw [<- hf,<- hzs] at HCP;have HF:=Lib.hid hf;have HZ:=Lib.hid hzs;clear hown hlow hrd hnl hcv hC hpe hf hzs hql;go_wp2_with (refine Q1v (o:=⟨some 35,_,_,_,_,_⟩) rfl 77 (.tmp 34) rfl ⟨q,o+i*2,none⟩ 2 rfl C _ Tryz.underlying77 rfl rfl hcs HCV.out ?_)
   refine HCP.out.mono ?_;rintro _ w3 ⟨A3,c3,rfl,ho3,hb3⟩;obtain⟨E,hE⟩:∃ E,E=crC f A3 zs.length c3:=⟨_,rfl⟩;have hes:E.size=2:=by rw [hE]; rfl
   have he1:E.all (·.oneCell')=true:=by rw [hE]; exact Q1p _ _ _ _
   rw [<- hE];have HER:=Lib.hid (show E.toList=[.int .i64 f,.slice A3 zs.length c3] from by rw [hE]; rfl);have hfold:Array.foldl (fun(cs:Array Value) (x:Value×Nat)=>cs.setIfInBounds x.snd x.fst) #[Value.int .i64 0,Value.slice none 0 0] E.zipIdx 0 2=E:=by rw [hE]; rfl
   have hb4:=Q07 w3 (.cells E 77);have HO4:=Lib.hid (OwnN.more (B':=w.heap.size) (ho3.below_ hb4) hsz);have HB34:=Lib.hid (hb3.trans (hb4.mono hb3.size));have HOC:=Lib.hid (HO.out.below HB34.out);have HROW:=Lib.hid HOC.out.row;have HRD:=Lib.hid (Q5u w3 E hes);have hs3:=hb3.size;clear ho3 hb3 hb4 hE HCP;go_wp2_with (at_builtin; go_must (refine Q06 _ rfl (.tmp 31) (.tmp 37) 74 rfl w.heap.size 77 i0 _ 2 32 Tryz.underlying74 hi0 hz0 hz1 hz2 rfl (by omega) _ _ _ rfl HROW.out _ (some ⟨w3.heap.size,0,none⟩) 1 1 E.toList rfl HRD.out ?d1 ?d2 ?d3 ?d4 ?_))
   case d1=>exact fun u hu=>(Array.all_eq_true'.1 he1) u (by simpa using hu)
   case d2=>unfold maxLen; omega
   case d3=>first | omega | (simp; omega)
   case d4=>first | omega | (simp; omega)
   intro v6 w6 hown6 hg6 hor6;have hp:=HOC.out.push (A:=A3) (c:=c3) (by rw [<- HZ.out]; exact HO4.out) hg6 (by rw [<- HF.out,<- HZ.out,<- HER.out]; exact hown6);have hb6:Below w.heap.size w w6:=Q0k (HB.out.trans (HB34.out.mono hsz)) (by have:=HB34.out.size; omega) hg6 (fun b hb=>(Q0a HROW.out hb).1);have HP:=Lib.hid hp;have HB6:=Lib.hid hb6;clear hown6 hg6 hor6 hp hb6 hfold;go_wp2_with fail
   go_roundw
   case rel=>first | exact⟨i+1,by omega,by go_num,HB6.out,_,_,HP.out⟩ | ((repeat apply Exists.intro); exact⟨⟨i+1,by omega,by go_num,HB6.out,_,_,HP.out⟩,rfl⟩)
   case measure=>simp [intOf]; omega
  ·obtain rfl:i=n:=by omega
   have hnl:∀ q,q∈cs->q.2.length<=17592186044416:=fun q hq=>by
    obtain⟨j,hj,rfl⟩:=List.getElem_of_mem hq;obtain⟨_,_,_,_,_,_,_,_,_,_,h6⟩:=Q1s H.out hj;exact h6
   have HNL:=Lib.hid hnl;have hlen:=HL.out;obtain⟨Ac,cc,hcv,hcr⟩:=Q7p.crewsAt (cs:=cs) (by rw [hlen]; exact hown) hnl;rw [hlen] at hcv hcr;subst hcv;obtain⟨E,hE⟩:∃ x,x=wr.heap.size:=⟨_,rfl⟩;have hwE:w.heap.size<=E:=by omega
   have HCR:=Lib.hid hcr;clear hcr hnl hlen hlow hown;go_wp2_with fail
   refine(Q7N wr).mono ?_;rintro _ w5 ⟨k,rfl,hbk,hkn,hb5⟩;have hs5:=hb5.size;have HB5:=Lib.hid (HB.out.trans (hb5.mono hsz));have HB15:=Lib.hid hb5;have HKN:=Lib.hid (show ∀ b,k.has b->E<=b by rintro b (e | e | e) <;> omega);have HAN:=Lib.hid (QaQ k [] 0 Ac i cc cs w5 hbk (by omega) (HCR.out.below hb5) (by omega));obtain⟨on,hon⟩:∃ o,o=newQ cs:=⟨_,rfl⟩;have HRN:=Lib.hid (fun(W:World) (hb:Below w.heap.size w W)=>QcU A i c cs W (H.out.below hb) (by omega));rw [<- hon] at HAN HRN;clear hbk hkn hb5 hon;go_wp2_with fail
   refine HAN.out.mono ?_;rintro e6 w6 h6;have hb56:Below w.heap.size w w6/\w5.heap.size<=w6.heap.size:=by
    cases on with
    | none=>exact⟨HB5.out.trans ((h6.1 rfl).2.mono HB5.out.size),(h6.1 rfl).2.size⟩
    | some m =>
     obtain⟨V,q1,q2⟩:=h6.2 m rfl;exact⟨HB5.out.trans (q2.only.below HB5.out.size fun b hb hm=>by have:=HKN.out b hm; omega),q2.only.size⟩
   have HB56:=Lib.hid hb56.1;have hs56:=hb56.2;have HRN6:=Lib.hid (HRN.out w6 hb56.1);have he6:∃ P1,e6=.returned (.tuple #[.pointer P1,.int .i64 (if on.isSome then 0 else 2)]):=by
    cases on with
    | none=>exact⟨none,(h6.1 rfl).1⟩
    | some m=>obtain⟨V,q1,_⟩:=h6.2 m rfl; exact⟨_,q1⟩
   obtain⟨P1,rfl⟩:=he6;have H6:=Lib.hid h6;obtain⟨cd,hcd⟩:∃ z:Int,z=if on.isSome then 0 else 2:=⟨_,rfl⟩
   rw [<- hcd];have HCD:=Lib.hid hcd;clear h6 hb56 HAN HRN hcd;go_wp2_with fail
   refine HRN6.out.mono ?_;rintro e7 w7 h7;obtain⟨P1',P2,q1,rfl,hlv,hlow7,hbE⟩:=LvD.start hwE HB5.out (by omega) HKN.out H6.out h7;have hPP:P1=P1':=by injection q1 with q1; simpa using q1
   subst hPP;rw [<- HCD.out];have HLV:=Lib.hid hlv;have HB7:=Lib.hid hlow7;have hs7:=hlow7.size;have hbr7:Below E wr w7:=(HB15.out.mono (by omega)).trans hbE;have HBR7:=Lib.hid hbr7;have hbw7:Below wr.heap.size wr w7:=by rw [<- hE]; exact hbr7
   have HO7:=Lib.hid (HO.out.below hbw7);have HC7:=Lib.hid (HCR.out.below hbw7);have HSC:=Lib.hid (fun(W:World) (hb:Below w7.heap.size w7 W)=>Q4i Ac A i cc i c cs cs W (HC7.out.below hb).in_ (H.out.below (HB7.out.trans (hb.mono hs7))) (by omega) (by omega));simp only [decide_true] at HSC;obtain⟨b1,hb1⟩:∃ b,b=on.isNone:=⟨_,rfl⟩;have HN1:=Lib.hid (show P1.isNone=b1 from hb1▸hlv.none_);have hcb:(cd != 0)=b1:=by rw [HCD.out,hb1]; cases on <;> rfl
   have HNB:=Lib.hid hb1;clear h7 q1 hlv hlow7 hbE hbr7 hbw7 HRN6 H6 hb1 HCR;go_wp2_with (refine Q6a (o:=⟨some 55,_,_,_,_,_⟩) (Q04 (j:=3) (d:=53) (b:=false) rfl rfl (by first | rfl | simp)) (.bool b1) (Q8U (.tmp 54) _ rfl P1 rfl b1 HN1.out) ?_)
   refine(HSC.out w7 (Below.refl _ _)).mono ?_;rintro _ w8 ⟨rfl,hb8⟩;have hs8:=hb8.size;have HM8:=Lib.hid (show MutD w E w8.heap.size P1 P2 on (.slice Ac i cc) (pOf cs) i fA fC w8 from by
    have ho8:=HO7.out.below hb8;refine⟨ho8.row,fun j hj=>⟨InI.of_own (ho8.nodes j hj),fun b hb'=>⟨(ho8.nodes j hj).ge_ hb',?_⟩⟩,⟨HLV.out.none_,fun m hm=>?_⟩,HB7.out.trans (hb8.mono hs7),rfl⟩
    ·rw [hE]; exact(Q0a (HO.out.nodes j hj) hb').2
    ·obtain⟨V,g,p1,p2,p3⟩:=HLV.out.live m hm;exact⟨V,g,p1,p2,(p3.below hb8).less fun b hb'=>.inl hb'⟩)
   clear hb8 HSC;go_wp2_with fail
   go_loopw [11] (fun jv W=>∃ j:Nat,j<=i/\jv=.int .i64 j/\MutD w E w8.heap.size P1 P2 on (.slice Ac i cc) (pOf cs) i fA fC W) (fun jv _=>i - (intOf jv).toNat)
   case atStart=>exact⟨0,by omega,rfl,HM8.out⟩
   clear HM8;case round =>
    obtain⟨j,hj,rfl,hm⟩:=hrel;have HM:=Lib.hid hm;by_cases hj1:j<i
    ·skip;have hjI:(j:Int)<(i:Int):=by omega
     obtain⟨gl,hAc,hcl⟩:=hm.cell hj1;subst hAc;obtain⟨ln,hln⟩:∃ x,x=(pOf cs j).2.length:=⟨_,rfl⟩;obtain⟨An,hAn⟩:∃ x,x=fA j:=⟨_,rfl⟩;obtain⟨cn',hcn'⟩:∃ x,x=fC j:=⟨_,rfl⟩;rw [<- hln,<- hAn,<- hcn'] at hcl;have hlm:ln<=17592186044416:=by
      rw [hln];have hjl:j<cs.length:=by have:=HL.out; omega
      unfold pOf;rw [List.getD_eq_getElem?_getD,List.getElem?_eq_getElem hjl];exact HNL.out _ (List.getElem_mem hjl)
     have HLN:=Lib.hid hln;have HAN:=Lib.hid hAn;have HCN:=Lib.hid hcn';clear hm hln hAn hcn';go_wp2_with fail
     go_loopw [12] (fun qv W=>∃ q:Nat,q<=ln/\qv=.int .i64 q/\MutD w E w8.heap.size P1 P2 on (.slice (some ⟨gl,0,none⟩) i cc) (pOf cs) i fA fC W) (fun qv _=>ln - (intOf qv).toNat)
     case atStart=>exact⟨0,by omega,rfl,HM.out⟩
     clear HM hcl;case round =>
      obtain⟨q,hq,rfl,hm⟩:=hrel;have HM:=Lib.hid hm;obtain⟨gl',hAc,hcl⟩:=hm.cell hj1;injection hAc with hAc
      injection hAc with hAc
      subst hAc;obtain⟨hI,hB⟩:=hm.nin j hj1;rw [<- HLN.out,<- HAN.out,<- HCN.out] at hcl hI hB;by_cases hqn:q<ln
      ·have hqI:(q:Int)<(ln:Int):=by omega
       rcases hI with h0 | ⟨gi,cap,cur,hv,hBk,hcur⟩
       ·omega
       injection hv with hv1 _ hv3
       have hgi:=hB gi (by rw [hv1]; rfl);obtain⟨u,hu⟩:=hcur q hqn;have hcell:=(hBk.cell q).trans hu;have hfz:=hBk.frozen q;have HBk:=Lib.hid hBk;have HGI:=Lib.hid hgi;have hAn:An=some ⟨gi,0,none⟩:=hv1;clear hBk hcur hu hm hv3 hB hgi hv1;rw [hAn] at hcl;clear hAn;go_wp2_with fail
       go_roundw
       case rel=>exact⟨q+1,by omega,by go_num,HM.out.put HGI.out HBk.out q 0⟩
       case measure=>simp [intOf]; omega
      ·obtain rfl:q=ln:=by omega
       have hqI:¬ (q:Int)<(q:Int):=by omega
       clear hm hI hB;go_wp2_with fail
       go_roundw
       case rel=>exact⟨j+1,by omega,by go_num,HM.out⟩
       case measure=>simp [intOf]; omega
    ·obtain rfl:j=i:=by omega
     have hjI:¬ (j:Int)<(j:Int):=by omega
     have HLP:=Lib.hid hm.lp;clear hm;go_wp2_with fail
     go_loopw [13] (fun kv W=>∃ k:Nat,k<=40/\kv=.int .i64 k/\LpD w P1 P2 on k W) (fun kv _=>40 - (intOf kv).toNat)
     case atStart=>exact⟨0,by omega,rfl,HLP.out⟩
     clear HLP HM;case round =>
      obtain⟨k,hk,rfl,hlp⟩:=hrel;have HLP:=Lib.hid hlp;have hlowk:=hlp.low.size;obtain⟨w9,rfl⟩:∃ x,x=wr:=⟨_,rfl⟩;obtain⟨tb,htb⟩:∃ b,b=decide (k<n1/\k<40/\on.isSome=true):=⟨_,rfl⟩;have HTB:=Lib.hid htb;clear hlp htb;go_upto_region 18 with fail
      go_cut [100] (fun s100 wx=>s100=.bool tb/\wx=w9)
      case first =>
       by_cases hk1:k<n1
       ·have hkI:(k:Int)<(n1:Int):=by omega
        by_cases hk2:k<40
        ·have hk2I:(k:Int)<40:=by omega
         cases ho:on with
         | none =>
          have hcq:(cd == 0)=false:=by rw [HCD.out,ho]; rfl
          have htb:tb=false:=by rw [HTB.out,ho,decide_eq_false (by simp)]
          subst htb;clear ho;go_wp2_with fail
          go_meet
          exact⟨rfl,rfl⟩
         | some m =>
          have hcq:(cd == 0)=true:=by rw [HCD.out,ho]; rfl
          have htb:tb=true:=by rw [HTB.out,ho,decide_eq_true ⟨hk1,hk2,rfl⟩]
          subst htb;clear ho;go_wp2_with fail
          go_meet
          exact⟨rfl,rfl⟩
        ·have hk2I:¬ (k:Int)<40:=by omega
         have htb:tb=false:=by rw [HTB.out,decide_eq_false (by omega)]
         subst htb;go_wp2_with fail
         go_meet
         exact⟨rfl,rfl⟩
       ·have hkI:¬ (k:Int)<(n1:Int):=by omega
        have htb:tb=false:=by rw [HTB.out,decide_eq_false (by omega)]
        subst htb;go_wp2_with fail
        go_meet
        exact⟨rfl,rfl⟩
      case rest =>
       obtain⟨rfl,rfl⟩:=hcut;obtain⟨wk,hwk⟩:∃ x,x=wc:=⟨_,rfl⟩;rw [<- hwk];rw [<- hwk] at HLP hlowk;clear hwk;cases tb with
       | true =>
        obtain⟨hk1,hk2,hos⟩:=of_decide_eq_true HTB.out.symm;obtain⟨V,g,m,rfl,rfl,hdf⟩:=HLP.out.live hos;have hlow:=HLP.out.low;have hkl:k<l.length:=by have:=HL1.out; omega
        obtain⟨ad,hA1,hadb,hcell⟩:=H1.out.2 (by omega);subst hA1;obtain⟨x,hx⟩:∃ x,l[k]?=some x:=⟨_,List.getElem?_eq_getElem hkl⟩;obtain⟨B1,m1,d1,B2,m2,d2,hxc,hxi⟩:=hcell k x hx;have HKN1:=Lib.hid (show (k:Int)<(n1:Int) by omega);have hkI:=HKN1.out;have HXI:=Lib.hid (fun(W:World) (hb:Below w.heap.size w W)=>hxi.below hb);obtain⟨WX,hWX⟩:∃ WX,WX=Q05 x B1 m1 d1 B2 m2 d2:=⟨_,rfl⟩;have hwxs:WX.size=10:=by rw [hWX]; rfl
        have HWXS:=Lib.hid hwxs;rw [<- hWX] at hxc;have HXC0:=Lib.hid (show ∀ (W:World),Below w.heap.size w W->∀ (j:Nat) (v:Value),WX[j]?=some v->W.cell? (ad.add (10*k+j))=some v from fun W hb j v hv=>(hb.cell (by rw [Q0e]; exact hadb)).trans (hxc j v hv));have HCP:=Lib.hid (QaE x B1 m1 d1 B2 m2 d2 wk w.heap.size (hxi.below hlow) hlowk);rw [<- hWX] at HCP;have HWX:=Lib.hid hWX;have HDF:=Lib.hid hdf;have HLOW:=Lib.hid hlow;have HA:=Lib.hid (show 30+6*k<=700000 by omega);clear hcell hx hxc hxi hdf hlow hWX hkl HLP hos;go_wp2_with (refine Q1v (o:=⟨some 106,_,_,_,_,_⟩) rfl 44 (.tmp 105) rfl (ad.add (k*10)) 10 rfl WX _ Tryz.underlying44 rfl rfl hwxs (fun j v hv=>by rw [Q1L,Nat.mul_comm]; exact HXC0.out wk HLOW.out j v hv) ?_)
        refine HCP.out.mono ?_;rintro _ w2 ⟨C1,e1,f1,C2,e2,f2,rfl,hwo,hb2⟩;have hs2:=hb2.size;obtain⟨W14,hW14⟩:∃ W,W=Q05 x C1 e1 f1 C2 e2 f2:=⟨_,rfl⟩;have hw14s:W14.size=10:=by rw [hW14]; rfl
        have hw14o:W14.all (·.oneCell')=true:=by rw [hW14]; exact Q1U _ _ _ _ _ _ _
        rw [<- hW14];have HW14:=Lib.hid hW14;have HW14S:=Lib.hid hw14s;have HWO2:=Lib.hid hwo;have HB2:=Lib.hid hb2;clear hwo hb2 HCP hW14;go_upto_region 21 with(refine Q01 (o:=⟨none,_,_,_,_,_⟩) rfl 44 (.tmp 14) (.tmp 107) rfl w2.heap.size 0 W14 rfl rfl 44 (Q05 Q22 none 0 0 none 0 0) (Blk.newAt rfl) (by rw [hw14s]; kernel_rfl) (by rw [hw14s]; simp [Q05]) hw14o ?_; intro w3 hT3 hD3)
        rw [Q08 _ _ (by rw [hw14s]; rfl)] at hD3;have hb3:Below w2.heap.size w2 w3:=hT3.below ((Below.refl _ _).alloc (Nat.le_refl _) _) (Nat.le_refl _);obtain⟨g14,hg14⟩:∃ b,b=w2.heap.size:=⟨_,rfl⟩;rw [<- hg14] at hD3 ⊢;have hs3:=hb3.size;have K14:=Lib.hid hD3;have hwo3:Q23 w3 wk.heap.size x C1 e1 f1 C2 e2 f2:=HWO2.out.keep fun b _ hl=>hb3.block b hl
        have HWO3:=Lib.hid hwo3;have hb23:Below wk.heap.size wk w3:=HB2.out.trans (hb3.mono hs2);have HDF3:=Lib.hid (HDF.out.below hb23);have HWL:=Lib.hid (show (∀ b,(Value.slice C1 e1 f1).ownBlock=some b->b<w3.heap.size)/\∀ b,(Value.slice C2 e2 f2).ownBlock=some b->b<w3.heap.size from⟨fun b hb=>hwo3.data.lt hb,fun b hb=>(Q0a hwo3.next hb).2⟩);have HHA:=Lib.hid (HDF3.out.heardA x C1 e1 f1 C2 e2 f2 w3.heap.size hwo3.is (Nat.le_refl _));unfold Q2q at HHA;rw [<- HW14.out] at HHA;obtain⟨ha,hha⟩:∃ a,a=(Q1y m x).1:=⟨_,rfl⟩;obtain⟨hq,hhq⟩:∃ a,a=(Q1y m x).2:=⟨_,rfl⟩;rw [<- hha,<- hhq] at HHA;have HHA1:=Lib.hid hha;have HHQ1:=Lib.hid hhq;have hg14l:=hD3.lt;have hg14g:wk.heap.size<=g14:=by omega
        clear hT3 hD3 hb3 hwo3 hb23 hg14 hha hhq HWO2;go_wp2_with (refine Q03 (o:=⟨some 110,_,_,_,_,_⟩) rfl 44 (.tmp 14) rfl g14 0 10 rfl 44 _ W14 _ K14.out Tryz.underlying44 rfl rfl hw14s (fun _ _=>by rw [Nat.zero_add]) ?_)
        refine HHA.out.mono ?_;rintro _ w4 ⟨D,rfl,hds,han,hb4⟩;have hs4:=hb4.size;obtain⟨A4,c4,hD4,ho4⟩:=han;have hd1:D.all (·.oneCell')=true:=by rw [hD4]; exact Q0G _ _ _ _ _ _ _ _
        have HD4:=Lib.hid hD4;have HO4:=Lib.hid ho4;have HB4:=Lib.hid hb4;clear hD4 ho4 hb4 HHA;go_upto_region 22 with(refine Q01 (o:=⟨none,_,_,_,_,_⟩) rfl 47 (.tmp 15) (.tmp 112) rfl w4.heap.size 0 D rfl rfl 47 (anC 0 none 0 0 0 none 0 0) (Blk.newAt rfl) (by rw [hds]; kernel_rfl) (by rw [hds]; simp [anC]) hd1 ?_; intro w5 hT5 hD5)
        rw [Q08 _ _ (by rw [hds]; rfl)] at hD5;have hb5:Below w4.heap.size w4 w5:=hT5.below ((Below.refl _ _).alloc (Nat.le_refl _) _) (Nat.le_refl _);obtain⟨g15,hg15⟩:∃ b,b=w4.heap.size:=⟨_,rfl⟩;rw [<- hg15] at hD5 ⊢;have hs5:=hb5.size;have hb35:Below w3.heap.size w3 w5:=HB4.out.trans (hb5.mono hs4);have K15:=Lib.hid hD5;have K145:=Lib.hid (K14.out.below' hb35);have HO5:=Lib.hid (HO4.out.below_ hb5);have HWO5:=Lib.hid (HWO3.out.keep fun b _ hl=>hb35.block b hl);obtain⟨Lw,hLw⟩:∃ L:Nat->Prop,L=fun b=>wk.heap.size<=b/\b<w5.heap.size:=⟨_,rfl⟩
        have HLW:=Lib.hid (show ∀ b,wk.heap.size<=b->b<w5.heap.size->Lw b from fun b h1 h2=>by rw [hLw]; exact⟨h1,h2⟩);have HDF5:=Lib.hid (show DF w V g m m (30+6*k) Lw w5 from(HDF3.out.below hb35).less fun b hb=>by
         rw [hLw] at hb;rcases Nat.lt_or_ge b w3.heap.size with e | e
         ·exact .inl (.inr ⟨hb.1,e⟩)
         ·exact .inr ⟨e,hb.2⟩)
        have hlow5:=HDF5.out.low;have HHB:=Lib.hid (HDF5.out.heardB x B1 m1 d1 B2 m2 d2 w.heap.size (HXI.out w5 hlow5) hlow5.size);rw [<- HWX.out] at HHB;simp only [<- HHA1.out,<- HHQ1.out] at HHB;have HLOW5:=Lib.hid hlow5;have hg15l:=hD5.lt;have hg15g:w3.heap.size<=g15:=by omega
        clear hT5 hD5 hb5 hb35 hlow5 hg15 hLw HDF3 HWO3 K14;go_wp2_with (refine Q1v (o:=⟨some 119,_,_,_,_,_⟩) rfl 44 (.tmp 118) rfl (ad.add (k*10)) 10 rfl WX _ Tryz.underlying44 rfl rfl hwxs (fun j v hv=>by rw [Q1L,Nat.mul_comm]; exact HXC0.out w5 HLOW5.out j v hv) ?_)
        refine HHB.out.mono ?_;rintro _ w6 ⟨A6,c6,rfl,ho6,hdf6,hkp6,hs6⟩;obtain⟨D17,hD17⟩:∃ D17,D17=anC (ha.err:Int) none 0 0 (ha.epoch:Int) A6 ha.nodes.length c6:=⟨_,rfl⟩;have hd17s:D17.size=4:=by rw [hD17]; rfl
        have hd17o:D17.all (·.oneCell')=true:=by rw [hD17]; exact Q0G _ _ _ _ _ _ _ _
        rw [<- hD17];have HD17:=Lib.hid hD17;have HO6:=Lib.hid ho6;have HDF6:=Lib.hid hdf6;have HKP6:=Lib.hid hkp6;clear ho6 hdf6 hkp6 hD17 HHB;go_upto_region 23 with(refine Q01 (o:=⟨none,_,_,_,_,_⟩) rfl 47 (.tmp 17) (.tmp 121) rfl w6.heap.size 0 D17 rfl rfl 47 (anC 0 none 0 0 0 none 0 0) (Blk.newAt rfl) (by rw [hd17s]; kernel_rfl) (by rw [hd17s]; simp [anC]) hd17o ?_; intro w7 hT7 hD7)
        rw [Q08 _ _ (by rw [hd17s]; rfl)] at hD7;have hb7:Below w6.heap.size w6 w7:=hT7.below ((Below.refl _ _).alloc (Nat.le_refl _) _) (Nat.le_refl _);obtain⟨g17,hg17⟩:∃ b,b=w6.heap.size:=⟨_,rfl⟩;rw [<- hg17] at hD7 ⊢;have hs7:=hb7.size;have hkeep:∀ b,Lw b->w7.heap[b]?=w5.heap[b]?:=fun b hb=>(hb7.block b (HDF6.out.lt hb).1).trans (HKP6.out b hb)
        have K17:=Lib.hid hD7;have hk147:Blk w7 g14 44 W14:=(hkeep g14 (HLW.out _ (by omega) K145.out.lt)).trans K145.out;have hk157:Blk w7 g15 47 D:=(hkeep g15 (HLW.out _ (by omega) hg15l)).trans K15.out;have hwo7:Q23 w7 wk.heap.size x C1 e1 f1 C2 e2 f2:=HWO5.out.keep fun b h1 h2=>hkeep b (HLW.out b h1 h2)
        have ho7:OwnN w7 w3.heap.size (.slice A4 ha.nodes.length c4) ha.nodes:=HO5.out.keep_ fun b hb=>hkeep b (HLW.out b (by have:=(Q0a HO5.out hb).1; omega) (Q0a HO5.out hb).2)
        have hdf7:DF w V g m m (30+6*k) Lw w7:=(HDF6.out.below hb7).less fun b hb=>.inl hb
        obtain⟨hr4l,hr4⟩:=Q1K ho7;obtain⟨hr6l,hr6⟩:=Q1K (HO6.out.below_ hb7);have hlm:ha.nodes.length<=maxLen:=by
         obtain⟨_,_,_,q1,q2,_⟩:=Q0v ho7;omega
        have HSA:=Lib.hid (Q3e (ha.err:Int) (ha.err:Int) (ha.epoch:Int) (ha.epoch:Int) none 0 0 A4 ha.nodes.length c4 none 0 0 A6 ha.nodes.length c6 [] [] ha.nodes ha.nodes w7 w7.heap.size Q0d.none_ hr4 Q0d.none_ hr6 (Nat.le_refl _) (by unfold maxLen; omega) hlm (by unfold maxLen; omega) hlm);rw [<- HD4.out,<- HD17.out] at HSA;have hdt:(decide ((ha.err:Int)=(ha.err:Int)/\([]:List UInt8)=[]/\(ha.epoch:Int)=(ha.epoch:Int)/\ha.nodes=ha.nodes))=true:=decide_eq_true ⟨rfl,rfl,rfl,rfl⟩;rw [hdt] at HSA;have HDF7:=Lib.hid hdf7;obtain⟨ln,hln⟩:∃ x,x=ha.nodes.length:=⟨_,rfl⟩;have HZR7:=Lib.hid (show ∀ (W:World),Below w7.heap.size w7 W->DF w V g m m (30+6*k) Lw W->ZrD w V g m (30+6*k) Lw g14 W14 g15 D (.slice A4 ln c4) ln x C1 e1 f1 C2 e2 f2 wk.heap.size w3.heap.size W from fun W hb hd=>⟨hd,by rw [hln]; exact InI.of_own (ho7.below_ hb),fun b hb'=>by
         rw [hln] at hb';have q1:=Q0a HO5.out hb';exact⟨q1.1,HLW.out b (by omega) q1.2⟩,hk147.below' hb,hk157.below' hb,hwo7.keep fun b _ hl=>hb.block b hl,HWL.out⟩)
        have h153:D[3]?=some (.slice A4 ln c4):=by rw [HD4.out,hln]; rfl
        have hlm':ln<=9223372036854775807:=by unfold maxLen at hlm; omega
        have K157:=Lib.hid hk157;have hs37:w3.heap.size<=w7.heap.size:=by omega
        clear hT7 hD7 hb7 hg17 hkeep hk147 hk157 hwo7 ho7 hdf7 hr4 hr6 hr4l hr6l hlm hdt hln HDF5 HDF6 HKP6 HO6 K15 K145 HO5 HWO5 HO4 HB4;go_wp2_with (first
         | refine Q03 (o:=⟨some 123,_,_,_,_,_⟩) rfl 47 (.tmp 15) rfl g15 0 4 rfl 47 _ D _ K157.out Tryz.underlying47 rfl rfl hds (fun _ _=>by rw [Nat.zero_add]) ?_
         | refine Q03 (o:=⟨some 124,_,_,_,_,_⟩) rfl 47 (.tmp 17) rfl g17 0 4 rfl 47 _ D17 _ K17.out Tryz.underlying47 rfl rfl hd17s (fun _ _=>by rw [Nat.zero_add]) ?_)
        refine HSA.out.mono ?_;rintro _ w8 ⟨rfl,hb8⟩;have hs8:=hb8.size;have HB8:=Lib.hid hb8;have HDF8:=Lib.hid ((HDF7.out.below hb8).less (Lw':=Lw) fun b hb=>.inl hb);have HSM:=Lib.hid HDF8.out.same;clear hb8 HSA K157 K17;go_wp2_with fail
        refine HSM.out.mono ?_;rintro _ w9 ⟨rfl,hb9⟩;have hs9:=hb9.size;have HZR9:=Lib.hid (HZR7.out w9 (HB8.out.trans (hb9.mono hs8)) ((HDF8.out.below hb9).less fun b hb=>.inl hb));have hs39:w3.heap.size<=w9.heap.size:=by omega
        clear hb9 HSM HZR7 HDF7 HDF8 HB8;go_wp2_with fail
        go_loopw [19] (fun qv W=>∃ q:Nat,q<=ln/\qv=.int .i64 q/\W.heap.size=w9.heap.size/\ZrD w V g m (30+6*k) Lw g14 W14 g15 D (.slice A4 ln c4) ln x C1 e1 f1 C2 e2 f2 wk.heap.size w3.heap.size W) (fun qv _=>ln - (intOf qv).toNat)
        case atStart=>exact⟨0,by omega,rfl,rfl,HZR9.out⟩
        clear HZR9;case round =>
         obtain⟨q,hq,rfl,hsz9,hz⟩:=hrel;have HZ:=Lib.hid hz;have hc153:wr.cell? ⟨g15,3,none⟩=some (.slice A4 ln c4):=(hz.k15.cell 3).trans h153;by_cases hqn:q<ln
         ·have hqI:(q:Int)<(ln:Int):=by omega
          rcases hz.nin with h0 | ⟨gi,cap,cur,hv,hBk,hcur⟩
          ·omega
          injection hv with hv1 _ hv3
          obtain⟨u,hu⟩:=hcur q hqn;have hcc:=(hBk.cell q).trans hu;have hfz:=hBk.frozen q;have HBk:=Lib.hid hBk;have HV1:=Lib.hid hv1;clear hz hBk hcur hu hv3;rw [hv1] at hc153;clear hv1;go_wp2_with fail
          go_roundw
          case rel=>exact⟨q+1,by omega,by go_num,by simpa using hsz9,HZ.out.put HV1.out HBk.out q 0⟩
          case measure=>simp [intOf]; omega
         ·obtain rfl:q=ln:=by omega
          have hqI:¬ (q:Int)<(q:Int):=by omega
          obtain⟨w10,hw10⟩:∃ W,W=wr:=⟨_,rfl⟩;rw [<- hw10] at HZ hc153 hsz9 ⊢;have hs310:w3.heap.size<=w10.heap.size:=by omega
          have HDO:=Lib.hid (HZ.out.df.doA HA.out x C1 e1 f1 C2 e2 f2 w10.heap.size HZ.out.wo.is (Nat.le_refl _));rw [<- HW14.out] at HDO;obtain⟨m',hm'⟩:∃ a,a=(doQ m x).1:=⟨_,rfl⟩;obtain⟨an,han⟩:∃ a,a=(doQ m x).2.1:=⟨_,rfl⟩;obtain⟨er,her⟩:∃ a,a=(doQ m x).2.2:=⟨_,rfl⟩;simp only [<- hm',<- han,<- her] at HDO;have HM':=Lib.hid hm';have HAN':=Lib.hid han;have HER':=Lib.hid her;have hlt14:=HZ.out.k14.lt;clear hz hw10 hm' han her;go_wp2_with (refine Q03 (o:=⟨some 151,_,_,_,_,_⟩) rfl 44 (.tmp 14) rfl g14 0 10 rfl 44 _ W14 _ HZ.out.k14 Tryz.underlying44 rfl rfl hw14s (fun _ _=>by rw [Nat.zero_add]) ?_)
          refine HDO.out.mono ?_;rintro _ w11 ⟨D20,r,rfl,hd20s,hr,han,hdf11,hkp11,hs11⟩;obtain⟨A7,c7,hD20,ho7⟩:=han;have hd20o:D20.all (·.oneCell')=true:=by rw [hD20]; exact Q0G _ _ _ _ _ _ _ _
          have HD20:=Lib.hid hD20;have HO7:=Lib.hid ho7;have HDF11:=Lib.hid hdf11;have HKP11:=Lib.hid hkp11;clear hD20 ho7 hdf11 hkp11 HDO;go_upto_region 30 with(refine Q01 (o:=⟨none,_,_,_,_,_⟩) rfl 47 (.tmp 20) (.tmp 153) rfl w11.heap.size 0 D20 rfl rfl 47 (anC 0 none 0 0 0 none 0 0) (Blk.newAt rfl) (by rw [hd20s]; kernel_rfl) (by rw [hd20s]; simp [anC]) hd20o ?_; intro w12 hT12 hD12)
          rw [Q08 _ _ (by rw [hd20s]; rfl)] at hD12;have hb12:Below w11.heap.size w11 w12:=hT12.below ((Below.refl _ _).alloc (Nat.le_refl _) _) (Nat.le_refl _);obtain⟨g20,hg20⟩:∃ b,b=w11.heap.size:=⟨_,rfl⟩;rw [<- hg20] at hD12 ⊢;have hs12:=hb12.size;have hlg20:=hD12.lt;obtain⟨Lz,hLz⟩:∃ L:Nat->Prop,L=fun b=>Lw b\/(r<=b/\b<w11.heap.size)\/(g20<=b/\b<w12.heap.size):=⟨_,rfl⟩
          have HOB:=Lib.hid (show ∀ b,(Value.slice A7 an.nodes.length c7).ownBlock=some b->r<=b/\b<w11.heap.size from fun b hb=>Q0a HO7.out hb);have HLZ:=Lib.hid (show ∀ b,(Lw b\/(r<=b/\b<w11.heap.size)\/(g20<=b/\b<w12.heap.size))->Lz b from fun b h=>by rw [hLz]; exact h);have hk12:∀ b,Lw b->w12.heap[b]?=w10.heap[b]?:=fun b hb=>(hb12.block b (by have:=(HZ.out.df.lt hb).1; omega)).trans (HKP11.out b hb)
          have HDF12:=Lib.hid (show DF w V g m' m (30+6*k+6) Lz w12 from(HDF11.out.below hb12).less fun b hb=>by
           rw [hLz] at hb;rcases hb with e | e | e
           ·exact .inl (.inl e)
           ·exact .inl (.inr e)
           ·exact .inr ⟨by omega,e.2⟩)
          have K20':=Lib.hid hD12;have hL14:Lw g14:=HLW.out _ (by omega) (by omega);have K1412:=Lib.hid (show Blk w12 g14 44 W14 from(hk12 g14 hL14).trans HZ.out.k14);have hloC:∀ b,((Value.slice C1 e1 f1).ownBlock=some b\/(Value.slice C2 e2 f2).ownBlock=some b)->Lw b:=fun b hb=>by
           rcases hb with e | e
           ·exact HLW.out b (HZ.out.wo.data.ge e) (by have:=HWL.out.1 b e; omega)
           ·exact HLW.out b (HZ.out.wo.next.ge_ e) (by have:=HWL.out.2 b e; omega)
          have HLOC:=Lib.hid hloC;have HWO12:=Lib.hid (show Q23 w12 wk.heap.size x C1 e1 f1 C2 e2 f2 from⟨HZ.out.wo.data.keep fun b hb=>hk12 b (hloC b (.inl hb)),HZ.out.wo.next.keep_ fun b hb=>hk12 b (hloC b (.inr hb)),HZ.out.wo.dm,HZ.out.wo.nm,HZ.out.wo.rng⟩);have HO12:=Lib.hid (HO7.out.below_ hb12);have hlow12:=HDF12.out.low;have HDB:=Lib.hid (HDF12.out.doB x B1 m1 d1 B2 m2 d2 w.heap.size (HXI.out w12 hlow12) hlow12.size);rw [<- HWX.out] at HDB;simp only [<- HM'.out,<- HAN'.out,<- HER'.out] at HDB;have HLOW12:=Lib.hid hlow12;have HWN:=Lib.hid HZ.out.wo.nm;clear hT12 hb12 hg20 hLz hk12 hL14 hloC hlow12 hD12 HDF11 HKP11 HZ HO7;go_wp2_with (refine Q1v (o:=⟨some 160,_,_,_,_,_⟩) rfl 44 (.tmp 159) rfl (ad.add (k*10)) 10 rfl WX _ Tryz.underlying44 rfl rfl hwxs (fun j v hv=>by rw [Q1L,Nat.mul_comm]; exact HXC0.out w12 HLOW12.out j v hv) ?_)
          refine HDB.out.mono ?_;rintro _ w13 ⟨A8,c8,rfl,ho8,hdf13,hkp13,hs13⟩;obtain⟨D22,hD22⟩:∃ D22,D22=anC (an.err:Int) none 0 0 (an.epoch:Int) A8 an.nodes.length c8:=⟨_,rfl⟩;have hd22s:D22.size=4:=by rw [hD22]; rfl
          have hd22o:D22.all (·.oneCell')=true:=by rw [hD22]; exact Q0G _ _ _ _ _ _ _ _
          rw [<- hD22];have HD22:=Lib.hid hD22;have HO8:=Lib.hid ho8;have HDF13:=Lib.hid hdf13;have HKP13:=Lib.hid hkp13;clear ho8 hdf13 hkp13 hD22 HDB;go_upto_region 31 with(refine Q01 (o:=⟨none,_,_,_,_,_⟩) rfl 47 (.tmp 22) (.tmp 162) rfl w13.heap.size 0 D22 rfl rfl 47 (anC 0 none 0 0 0 none 0 0) (Blk.newAt rfl) (by rw [hd22s]; kernel_rfl) (by rw [hd22s]; simp [anC]) hd22o ?_; intro w14 hT14 hD14)
          rw [Q08 _ _ (by rw [hd22s]; rfl)] at hD14;have hb14:Below w13.heap.size w13 w14:=hT14.below ((Below.refl _ _).alloc (Nat.le_refl _) _) (Nat.le_refl _);obtain⟨g22,hg22⟩:∃ b,b=w13.heap.size:=⟨_,rfl⟩;rw [<- hg22] at hD14 ⊢;have hs14:=hb14.size;have hk14:∀ b,Lz b->w14.heap[b]?=w12.heap[b]?:=fun b hb=>(hb14.block b (HDF13.out.lt hb).1).trans (HKP13.out b hb)
          have K22:=Lib.hid hD14;have K20:=Lib.hid (show Blk w14 g20 47 D20 from(hk14 g20 (HLZ.out _ (.inr (.inr ⟨Nat.le_refl _,hlg20⟩)))).trans K20'.out);have hlt1412:=K1412.out.lt;have K14:=Lib.hid (show Blk w14 g14 44 W14 from(hk14 g14 (HLZ.out _ (.inl (HLW.out _ (by omega) (by omega))))).trans K1412.out);have HDF14:=Lib.hid (show DF w V g m' m' (30+6*k+6) Lz w14 from(HDF13.out.below hb14).less fun b hb=>.inl hb);have hwo14:Q23 w14 wk.heap.size x C1 e1 f1 C2 e2 f2:=⟨HWO12.out.data.keep fun b hb=>hk14 b (HLZ.out b (.inl (HLOC.out b (.inl hb)))),HWO12.out.next.keep_ fun b hb=>hk14 b (HLZ.out b (.inl (HLOC.out b (.inr hb)))),HWO12.out.dm,HWO12.out.nm,HWO12.out.rng⟩;have ho14:OwnN w14 r (.slice A7 an.nodes.length c7) an.nodes:=HO12.out.keep_ fun b hb=>hk14 b (HLZ.out b (.inr (.inl (HOB.out b hb))))
          obtain⟨hr7l,hr7⟩:=Q1K ho14;obtain⟨hr8l,hr8⟩:=Q1K (HO8.out.below_ hb14);have hlm:an.nodes.length<=maxLen:=by
           obtain⟨_,_,_,q1,q2,_⟩:=Q0v ho14;omega
          have hdt:(decide ((an.err:Int)=(an.err:Int)/\([]:List UInt8)=[]/\(an.epoch:Int)=(an.epoch:Int)/\an.nodes=an.nodes))=true:=decide_eq_true ⟨rfl,rfl,rfl,rfl⟩;have HSA2:=Lib.hid (show ∀ (W:World),Below w14.heap.size w14 W->Calls Tryz.prog 41 #[.agg D20,.agg D22] W fun e w'=>e=.returned (.bool true)/\Below W.heap.size W w' from fun W hb=>by
           have:=Q3e (an.err:Int) (an.err:Int) (an.epoch:Int) (an.epoch:Int) none 0 0 A7 an.nodes.length c7 none 0 0 A8 an.nodes.length c8 [] [] an.nodes an.nodes W w14.heap.size Q0d.none_ (hr7.below hb) Q0d.none_ (hr8.below hb) hb.size (by unfold maxLen; omega) hlm (by unfold maxLen; omega) hlm;rw [<- HD20.out,<- HD22.out,hdt] at this;exact this)
          have hlow14:=HDF14.out.low;have HXC:=Lib.hid (fun(W:World) (hb:Below w14.heap.size w14 W)=>HXC0.out W (hlow14.trans (hb.mono hlow14.size)));have HSW':=fun(W:World) (hb:Below w14.heap.size w14 W)=>Q6z x x C1 e1 f1 C2 e2 f2 B1 m1 d1 B2 m2 d2 W w14.heap.size ((hwo14.is).below hb) ((((HXI.out w14 hlow14)).more hlow14.size).below hb) hb.size
          rw [(Qdh x x).2 rfl,<- HW14.out,<- HWX.out] at HSW';have HSW:=Lib.hid HSW';obtain⟨lx,hlx⟩:∃ x,x=an.nodes.length:=⟨_,rfl⟩;have HZR:=Lib.hid (show ∀ (W:World),Below w14.heap.size w14 W->DF w V g m' m' (30+6*k+6) Lz W->ZrD w V g m' (30+6*k+6) Lz g14 W14 g20 D20 (.slice A7 lx c7) lx x C1 e1 f1 C2 e2 f2 wk.heap.size w3.heap.size W from fun W hb hd=>⟨hd,by rw [hlx]; exact InI.of_own (ho14.below_ hb),fun b hb'=>by
           rw [hlx] at hb';have q1:=HOB.out b hb';exact⟨by omega,HLZ.out b (.inr (.inl q1))⟩,K14.out.below' hb,K20.out.below' hb,hwo14.keep fun b _ hl=>hb.block b hl,HWL.out⟩)
          have h203:D20[3]?=some (.slice A7 lx c7):=by rw [HD20.out,hlx]; rfl
          have hlmx:lx<=9223372036854775807:=by unfold maxLen at hlm; omega
          clear hT14 hD14 hb14 hg22 hk14 hwo14 ho14 hr7 hr8 hr7l hr8l hlm hdt hlow14 HSW' hlx HDF12 HDF13 HKP13 K20' K1412 HWO12 HO12 HO8;go_upto_region 31 with fail
          refine Q0l 17 207 (fun jx W v=>match jx with | 0=>v=.agg D20 | 1=>v=.agg D22 | 2=>v=.bool true | 3=>v=.bool false | 4=>v=.bool false | 5=>v=.int .i64 (er:Int) | 6=>v=.int .i64 (er:Int) | 7=>v=.bool false | 8=>v=.bool false | 9=>v=.bool false | 10=>v=.agg W14 | 11=>v=.slice (some ad) n1 c1 | 12=>v=.int .i64 (k:Int) | 13=>v=.pointer (some (ad.add (k*10))) | 14=>v=.agg WX | 15=>v=.bool true | 16=>v=.bool false | _=>True) [164,165,166,167,168,169,170,171,172,173,174,175,176,177,178,179,180] (by kernel_rfl) (by kernel_rfl) (by kernel_rfl) (by first | rfl | simp) (by kernel_rfl) (fun jx=>?last) ?heads ?_
          case last =>
           match jx with
           | 0 | 1 | 2 | 3 | 4 | 5 | 6 | 7 | 8 | 9 | 10 | 11 | 12 | 13 | 14 | 15 | 16 | jx+17=>exact Q16.pure _
          case heads =>
           simp only [List.take_succ_cons,List.take_zero];refine⟨?_,?_,?_,?_,?_,?_,?_,?_,?_,?_,?_,?_,?_,?_,?_,?_,?_,trivial⟩;all_goals intro a W hb hkp hd
           ·have e0:a.eval (.tmp 20)=.pointer (some ⟨g20,0,none⟩):=by have:=hkp.at_ (d:=20) (by kernel_rfl); rw [this]; rfl
            exact Q00 rfl (.agg D20) (Q0m 47 (.tmp 20) rfl g20 0 4 e0 47 _ D20 _ (K20.out.below' hb) Tryz.underlying47 rfl rfl hd20s (fun _ _=>by rw [Nat.zero_add])) rfl
           ·have e0:a.eval (.tmp 22)=.pointer (some ⟨g22,0,none⟩):=by have:=hkp.at_ (d:=22) (by kernel_rfl); rw [this]; rfl
            exact Q00 rfl (.agg D22) (Q0m 47 (.tmp 22) rfl g22 0 4 e0 47 _ D22 _ (K22.out.below' hb) Tryz.underlying47 rfl rfl hd22s (fun _ _=>by rw [Nat.zero_add])) rfl
           ·have e0:(_:Value)=.agg D20:=(hd 0 (by kernel_rfl)).get 164 rfl rfl;have e1:(_:Value)=.agg D22:=(hd 1 (by kernel_rfl)).get 165 rfl rfl;have e0:(_:Value)=.agg D20:=(hd 0 (by kernel_rfl)).get 164 rfl rfl;have e1:(_:Value)=.agg D22:=(hd 1 (by kernel_rfl)).get 165 rfl rfl;exact Q0w rfl 41 #[.agg D20,.agg D22] (by go_simp) ((HSA2.out W hb).mono fun e w h=>⟨_,h.1,h.2,rfl⟩)
           ·have e0:(_:Value)=.bool true:=(hd 2 (by kernel_rfl)).get 166 rfl rfl;exact Q00 rfl _ (by go_simp) rfl
           ·have e0:(_:Value)=.bool false:=(hd 3 (by kernel_rfl)).get 167 rfl rfl;exact Q00 rfl _ (by go_simp) rfl
           ·have eg:(_:Value)=.bool false:=(hd 4 (by kernel_rfl)).get 168 rfl rfl;have e0:a.tmps[21]?.getD undef=.int .i64 (er:Int):=hkp.get (by kernel_rfl) rfl;exact Q00 (Q04 rfl rfl eg) _ (by go_simp) rfl
           ·have eg:(_:Value)=.bool false:=(hd 4 (by kernel_rfl)).get 168 rfl rfl;have e0:a.tmps[23]?.getD undef=.int .i64 (er:Int):=hkp.get (by kernel_rfl) rfl;exact Q00 (Q04 rfl rfl eg) _ (by go_simp) rfl
           ·have eg:(_:Value)=.bool false:=(hd 4 (by kernel_rfl)).get 168 rfl rfl;have e0:(_:Value)=.int .i64 (er:Int):=(hd 5 (by kernel_rfl)).get 169 rfl rfl;have e1:(_:Value)=.int .i64 (er:Int):=(hd 6 (by kernel_rfl)).get 170 rfl rfl;exact Q00 (Q04 rfl rfl eg) _ (by go_simp) rfl
           ·have e0:(_:Value)=.bool false:=(hd 4 (by kernel_rfl)).get 168 rfl rfl;have e1:(_:Value)=.bool false:=(hd 7 (by kernel_rfl)).get 171 rfl rfl;exact Q00 rfl _ (by go_simp) rfl
           ·have e0:(_:Value)=.bool false:=(hd 8 (by kernel_rfl)).get 172 rfl rfl;exact Q00 rfl _ (by go_simp) rfl
           ·have eg:(_:Value)=.bool false:=(hd 9 (by kernel_rfl)).get 173 rfl rfl;have e0:a.eval (.tmp 14)=.pointer (some ⟨g14,0,none⟩):=by have:=hkp.at_ (d:=14) (by kernel_rfl); rw [this]; rfl
            exact Q00 (Q04 rfl rfl eg) (.agg W14) (Q0m 44 (.tmp 14) rfl g14 0 10 e0 44 _ W14 _ (K14.out.below' hb) Tryz.underlying44 rfl rfl HW14S.out (fun _ _=>by rw [Nat.zero_add])) rfl
           ·have eg:(_:Value)=.bool false:=(hd 9 (by kernel_rfl)).get 173 rfl rfl;have e0:a.tmps[1]?.getD undef=.slice (some ad) n1 c1:=hkp.get (by kernel_rfl) rfl;exact Q00 (Q04 rfl rfl eg) _ (by go_simp) rfl
           ·have eg:(_:Value)=.bool false:=(hd 9 (by kernel_rfl)).get 173 rfl rfl;have e0:a.tmps[13]?.getD undef=.int .i64 (k:Int):=hkp.get (by kernel_rfl) rfl;exact Q00 (Q04 rfl rfl eg) _ (by go_simp) rfl
           ·have eg:(_:Value)=.bool false:=(hd 9 (by kernel_rfl)).get 173 rfl rfl;have e0:(_:Value)=.slice (some ad) n1 c1:=(hd 11 (by kernel_rfl)).get 175 rfl rfl;have e1:(_:Value)=.int .i64 (k:Int):=(hd 12 (by kernel_rfl)).get 176 rfl rfl;have hlt:=HKN1.out;exact Q00 (Q04 rfl rfl eg) (.pointer (some (ad.add (k*10)))) (by go_simp) rfl
           ·have eg:(_:Value)=.bool false:=(hd 9 (by kernel_rfl)).get 173 rfl rfl;have e0:(_:Value)=.pointer (some (ad.add (k*10))):=(hd 13 (by kernel_rfl)).get 177 rfl rfl;have e0':a.eval (.tmp 177)=.pointer (some (ad.add (k*10))):=by simpa [Act.eval] using e0
            exact Q00 (Q04 rfl rfl eg) (.agg WX) (Q0T 44 (.tmp 177) rfl (ad.add (k*10)) 10 e0' WX _ Tryz.underlying44 rfl rfl HWXS.out (fun j v hv=>by rw [Q1L,Nat.mul_comm]; exact HXC.out W hb j v hv)) rfl
           ·have eg:(_:Value)=.bool false:=(hd 9 (by kernel_rfl)).get 173 rfl rfl;have e0:(_:Value)=.agg W14:=(hd 10 (by kernel_rfl)).get 174 rfl rfl;have e1:(_:Value)=.agg WX:=(hd 14 (by kernel_rfl)).get 178 rfl rfl;have e0:(_:Value)=.agg W14:=(hd 10 (by kernel_rfl)).get 174 rfl rfl;have e1:(_:Value)=.agg WX:=(hd 14 (by kernel_rfl)).get 178 rfl rfl;exact Q0w (Q04 rfl rfl eg) 45 #[.agg W14,.agg WX] (by go_simp) ((HSW.out W hb).mono fun e w h=>⟨_,h.1,h.2,rfl⟩)
           ·have eg:(_:Value)=.bool false:=(hd 9 (by kernel_rfl)).get 173 rfl rfl;have e0:(_:Value)=.bool true:=(hd 15 (by kernel_rfl)).get 179 rfl rfl;exact Q00 (Q04 rfl rfl eg) _ (by go_simp) rfl
          intro f15 W15 hb15 hd15;have f173:f15 173=.bool false:=hd15 9 (by omega) _ 173 rfl rfl;have f180:f15 180=.bool false:=hd15 16 (by omega) _ 180 rfl rfl;have HB15':=Lib.hid hb15;have HZ15:=Lib.hid (HZR.out W15 hb15 ((HDF14.out.below hb15).less fun b hb=>.inl hb));clear hd15 hb15 HZR HSA2 HSW HDF14;simp only [Q0H,List.drop_succ_cons,List.drop_zero,f173,f180];try simp only [Act.put,sA1,sA2,sA3]
          go_wp2_with fail
          go_loopw [24] (fun qv W=>∃ q:Nat,q<=lx/\qv=.int .i64 q/\ZrD w V g m' (30+6*k+6) Lz g14 W14 g20 D20 (.slice A7 lx c7) lx x C1 e1 f1 C2 e2 f2 wk.heap.size w3.heap.size W) (fun qv _=>lx - (intOf qv).toNat)
          case atStart=>exact⟨0,by omega,rfl,HZ15.out⟩
          clear HZ15;case round =>
           obtain⟨p,hp,rfl,hz⟩:=hrel;have HZ:=Lib.hid hz;have hc203:wr.cell? ⟨g20,3,none⟩=some (.slice A7 lx c7):=(hz.k15.cell 3).trans h203;by_cases hpn:p<lx
           ·have hpI:(p:Int)<(lx:Int):=by omega
            rcases hz.nin with h0 | ⟨gi,cap,cur,hv,hBk,hcur⟩
            ·omega
            injection hv with hv1 _ hv3
            obtain⟨u,hu⟩:=hcur p hpn;have hcc:=(hBk.cell p).trans hu;have hfz:=hBk.frozen p;have HBk:=Lib.hid hBk;have HV1:=Lib.hid hv1;clear hz hBk hcur hu hv3;rw [hv1] at hc203;clear hv1;go_wp2_with fail
            go_roundw
            case rel=>exact⟨p+1,by omega,by go_num,HZ.out.put HV1.out HBk.out p 0⟩
            case measure=>simp [intOf]; omega
           ·obtain rfl:p=lx:=by omega
            have hpI:¬ (p:Int)<(p:Int):=by omega
            have HSM:=Lib.hid hz.df.same;clear hz;go_wp2_with fail
            refine HSM.out.mono ?_;rintro _ w16 ⟨rfl,hb16⟩;have HDF16:=Lib.hid ((HZ.out.df.below hb16).less (Lw':=fun _=>False) fun b hb=>hb.elim);clear hb16 HSM;go_wp2_with fail
            go_roundw
            case rel=>exact⟨k+1,by omega,by go_num,⟨HDF16.out.low,fun _=>⟨V,g,m',rfl,rfl,HDF16.out⟩⟩⟩
            case measure=>simp [intOf]; omega
       | false =>
        have hnot:¬ (k<n1/\k<40/\on.isSome=true):=of_decide_eq_false HTB.out.symm;cases b1 with
        | true =>
         go_wp2_with fail
         refine(Q7O wk).mono ?_;rintro _ w20 ⟨rfl,hb20⟩;have HL20:=Lib.hid (HLP.out.low.trans (hb20.mono hlowk));clear hb20;go_wp2_with fail
         go_ret
         exact⟨rfl,HL20.out⟩
        | false =>
         have hos:on.isSome=true:=by
          have:=HNB.out;cases on with
          | none=>cases this
          | some m=>rfl
         obtain⟨V,g,m,rfl,rfl,hdf⟩:=HLP.out.live hos;have HSM:=Lib.hid hdf.same;clear hdf;go_wp2_with fail
         refine HSM.out.mono ?_;rintro _ w19 ⟨rfl,hb19⟩;have HL19:=Lib.hid (HLP.out.low.trans (hb19.mono hlowk));have hs19:=hb19.size;clear hb19;go_wp2_with fail
         refine(Q7O w19).mono ?_;rintro _ w20 ⟨rfl,hb20⟩;have HL20:=Lib.hid (HL19.out.trans (hb20.mono (by omega)));clear hb20;go_wp2_with fail
         go_ret
         exact⟨rfl,HL20.out⟩
end
end Go.Proofs.YtcpngeiahgoacaaGreat
