/- Parts of the proof, in one text. -/
import Derived.Test.YtckjnbjiafgibaaGreatK8
import Derived.Test.YtckjnbjiafgibaaGreatK6
import Derived.Test.YtckjnbjiafgibaaGreatK5
namespace Go.Proofs.YtckjnbjiafgibaaGreat
set_option linter.unusedVariables false
set_option linter.unusedSimpArgs false
set_option maxRecDepth 100000
set_option maxHeartbeats 16000000
open _root_.Array renaming getElem?_eq_getElem->zK
open _root_.Go renaming Addr->zA,World->zB,Value->zC,Calls->zF
open _root_.Go.Act renaming put->zM
open _root_.Go.Proofs.Tryz renaming prog->zG
open _root_.Go.RowKit renaming Below->zE
open _root_.Go.RowKit.Below renaming refl->zJ
open _root_.Go.World renaming alloc->zO
open _root_.List renaming getElem?_eq_getElem->zD,length_append->zI,take_of_length_le->zL
open _root_.Nat renaming le_refl->zH
open _root_.Option.some renaming inj->zN
section
open Go.RowKit Go.Maps
attribute [local irreducible] wpList Q0t
theorem Q3c {l:List Nat} {s k x:Nat} (hn:l.Nodup) (hk:l[k]?=some x) (hs:l[s]?=some x):s=k :=(List.getElem?_inj (List.getElem?_eq_some_iff.1 hs).1 hn).1 (hs.trans hk.symm)
theorem Q9R {W W':zB} {V:VLoc} {B:Nat} {v:zC} {xs:List UInt8} (h:OwnB W B v xs) (ho:Only V.has W W') (hB:∀ b,V.has b->b<B):OwnB W' B v xs:=h.keep fun b hb=>ho.block b (h.lt hb) fun hv=>by have:=h.ge hb; have:=hB _ hv; omega
structure WkSt (w0:zB) (V:VLoc) (N:Nat->Prop) (m:VM) (a:Nat) (W:zB):Prop where
 vat:VAt W V N m
 book:∃ L a',Q0d W V.k L a'/\a'<=a/\Q0J L (Q01 m)
 only:Only V.has w0 W
theorem WkSt.below {w0 W W':zB} {V:VLoc} {N:Nat->Prop} {m:VM} {a:Nat} (h:WkSt w0 V N m a W) (hb:zE W.heap.size W W'):WkSt w0 V N m a W':=by obtain⟨L,a',h1,h2,h3⟩:=h.book;exact⟨h.vat.below hb,⟨L,a',h1.below hb,h2,h3⟩,h.only.trans (Only.of_below hb)⟩
theorem WkSt.of_done {w0 W W':zB} {V:VLoc} {N:Nat->Prop} {m:VM} {a q asked:Nat} {L:LL} (h:Only V.has w0 W) (hd:Q1d W W' V N m L asked q) (hq:asked+q<=a):WkSt w0 V N m a W':=by obtain⟨L',a',h1,h2,h3,h4⟩:=hd.book;exact⟨hd.vat,⟨L',a',h1,by omega,h4⟩,h.trans hd.only⟩
theorem WkSt.does_ {w0 W:zB} {V:VLoc} {N:Nat->Prop} {m:VM} {a:Nat} (h:WkSt w0 V N m a W) (hN:∀ b,N b->b<w0.heap.size) (ha:a<=700000)
 (x:Wish) (A:Option zA) (n c:Nat) (A':Option zA) (n' c':Nat) (hx:Q14 W W.heap.size x A n c A' n' c') (hap:∀ a,0<n->A=some a->w0.heap.size<=a.block)
 (y:Ans) (D:Option zA) (k d:Nat) (hy:Q04 W W.heap.size 1 D k (y.data.map vb)) (hyp:∀ a,0<k->D=some a->¬ V.has a.block) (hk:k<=1000000)
 (hres:((doV m x).2.2=0/\(doV m x).2.1.err=y.err/\(doV m x).2.1.data=y.data/\(doV m x).2.1.epoch=y.epoch)) (m':VM) (hm':(doV m x).1=m') (args:Array zC) (hargs:args=#[.pointer (some ⟨V.g,0,none⟩),.agg (Q02 x A n c A' n' c'),.agg (aC y.err D k d y.epoch)]) :
 zF zG 10 args W fun e W'=>∃ v,e=.returned v/\Only V.has W W'/\WkSt w0 V N m' (a+6) W'/\v=.bool true:=by
 obtain⟨L,a',h1,h2,h3⟩:=h.book;subst hargs;have hg:V.g<w0.heap.size:=hN _ (h.vat.all _ (.inl rfl));refine(Q4M W V N m L a' h.vat (fun b hb=>by have:=hN b hb; have:=h.only.size; omega) h1 h3 (by omega) x A n c A' n' c' _ hx (zH _) (fun ad h0 hA=>by have:=hap ad h0 hA; omega) y D k d hy hyp hk).mono ?_;rintro e W' ⟨rfl,hd⟩;exact⟨_,rfl,hd.only,hm'▸WkSt.of_done h.only hd (by omega),by rw [decide_eq_true hres]⟩
theorem WkSt.turn_ {w0 W:zB} {V:VLoc} {N:Nat->Prop} {m:VM} {a:Nat} (h:WkSt w0 V N m a W) (ha:a<=700000) (m':VM) (q:Nat) (hm':Q3q m=(m',q)) :
 zF zG 22 #[.pointer (some ⟨V.g,0,none⟩)] W fun e W'=>∃ v,e=.returned v/\Only V.has W W'/\WkSt w0 V N m' (a+6) W'/\v=.int .i64 (q:Int):=by
 obtain⟨L,a',h1,h2,h3⟩:=h.book;refine(Q9N W V N m L a' h.vat h1 h3 (by omega)).mono ?_;rintro e W' ⟨rfl,hd⟩;rw [hm'] at hd ⊢;exact⟨_,rfl,hd.only,WkSt.of_done h.only hd (by omega),rfl⟩
def VLoc.all (V:VLoc) (b:Nat):Prop:=b=V.g\/V.k.has b\/V.T.has b
structure Q32 (w w':zB) (k:Book) (V:VLoc) (L:LL) (asked:Nat) (m:VM):Prop where
 kk:V.k=k
 vat:VAt w' V V.all m
 old:VAt w' V (fun b=>V.all b\/b<V.g) m
 new:w.heap.size<=V.g/\∀ b,V.T.has b->w.heap.size<=b
 book:∃ L' a',Q0d w' k L' a'/\a'<=asked+48/\(∀ x,x∈L->x∈L')/\Q0J L' (Q01 m)
 only:Only k.has w w'
theorem VLoc.all_lt {w:zB} {V:VLoc} {N:Nat->Prop} {m:VM} {L:LL} {a:Nat} (h:VAt w V N m) (hb:Q0d w V.k L a):∀ b,V.all b->b<w.heap.size:=fun b hb'=>by
 obtain⟨S,hd⟩:=h.dat;have hl:=hb.lt;rcases hb' with e | e | e
 ·rw [e]; exact hd.blk.lt
 ·rcases e with e | e | e <;> rw [e]
  ·exact hl.1
  ·exact hl.2.1
  exact hl.2.2
 exact h.tree.lt e
theorem Q32.of_made {w w1 w':zB} {g:Nat} {T:Q0O} {k:Book} {L:LL} {asked:Nat} {m:VM} (h:Q4F (fun b=>b<g) w1 w' g T k L asked m 13) (hb:zE w.heap.size w w1) (hk:k.g<w.heap.size/\k.b1<w.heap.size/\k.b2<w.heap.size) (hg:w.heap.size<=g) (hgl:g<w1.heap.size):Q32 w w' k ⟨g,T,k⟩ L asked m:=by
 have hgk:¬ k.has g:=by rintro (e | e | e) <;> omega
 have e:(Q01 m).take 13++List.replicate (13 - 13) ([]:List UInt8)=Q01 m:=by rw [zL (by rw [Q0k]; exact zH _)]; simp
 obtain⟨L',a',q1,q2,q3,q4⟩:=h.book;rw [e] at q4;have hs:=hb.size;have hva:=VAt.of_made h hgk hgl;have hold:VAt w' ⟨g,T,k⟩ (fun b=>(VLoc.mk g T k).all b\/b<g) m:=hva.mono (fun b _ hn=>by
  rcases hn with(e | e | e) | e
  ·exact .inl e
  ·exact .inr (.inl e)
  ·exact .inr (.inr (.inl e))
  ·exact .inr (.inr (.inr e))) (fun b hb=>by
  rcases hb with e | e | e
  ·exact .inl (.inl e)
  ·exact .inl (.inr (.inr (.inr (.inr e))))
  exact .inl (.inr (.inl e)))
 refine⟨rfl,hold.mono (fun b _ hn=>.inl hn) (fun b hb=>by
  rcases hb with e | e | e
  ·exact .inl e
  ·exact .inr (.inr (.inr (.inr e)))
  exact .inr (.inl e)),hold,⟨hg,fun b hb'=>by have:=h.new b hb'; omega⟩,⟨L',a',q1,by omega,q3,q4⟩,?_⟩
 have ho:=h.only;exact⟨ho.os.trans hb.os,ho.tape.trans hb.tape,ho.output.trans hb.output,by have:=ho.size; omega,fun b hb' hn=>(ho.block b (by omega) (by rintro (e | e); omega; exact hn e)).trans (hb.block b hb')⟩
theorem Q9F (k:Book) (L:LL) (asked q:Nat) (w:zB) (hbk:Q0d w k L asked) (has:asked<=600000) (hq:1<=q/\q<=2) (z:Int) (hz:z=(q:Int)) :
 zF zG 6 #[.pointer (some ⟨k.g,0,none⟩),.int .i64 z] w fun e w'=>∃ V:VLoc,e=.returned (.tuple #[.pointer (some ⟨V.g,0,none⟩),.int .i64 0])/\Q32 w w' k V L asked (newV q):=by
 subst hz;refine(vNew_any k L asked q w hbk has hq).mono ?_;rintro e w' ⟨g,T,w1,rfl,h1,h2,h3,h4⟩;exact⟨⟨g,T,k⟩,rfl,Q32.of_made h4 h3 hbk.lt h1 h2⟩
def wk0:VM:=newV 1
def wk1:VM:=(doV wk0 (Q2C 31 1 0 3 7)).1
def wk2:VM:=(doV wk1 (Q0B 32 5 0 3)).1
def wk3:VM:=(doV wk2 (Q0B 32 5 0 0)).1
def wk4:VM:=(doV wk3 (Q0B 32 4 0 3)).1
def wk5:VM:=(doV wk4 (Q0B 31 2 1 3)).1
def wk6:VM:=(doV wk5 (Q2d 0)).1
def wk7:VM:=(doV wk6 (Q0B 31 2 0 3)).1
def wk8:VM:=(Q3q wk7).1
def wk9:VM:=(doV wk8 (Q0B 31 2 1 3)).1
def wk:Nat->VM
 | 0=>wk0
 | 1=>wk1
 | 2=>wk2
 | 3=>wk3
 | 4=>wk4
 | 5=>wk5
 | 6=>wk6
 | 7=>wk7
 | 8=>wk8
 | _=>wk9
def Q52 (m:VM) (x:Wish) (y:Ans):Prop:=(doV m x).2.2=0/\(doV m x).2.1.err=y.err/\(doV m x).2.1.data=y.data/\(doV m x).2.1.epoch=y.epoch
instance (m:VM) (x:Wish) (y:Ans):Decidable (Q52 m x y):=by unfold Q52; infer_instance
theorem wk_0:Q52 (wk 0) (Q2C 31 1 0 3 7) okA:=by decide +kernel
theorem wk_1:Q52 (wk 1) (Q0B 32 5 0 3) (Q24 (Q0V 7)):=by decide +kernel
theorem wk_2:Q52 (wk 2) (Q0B 32 5 0 0) (Q24 (Q0V 7)):=by decide +kernel
theorem wk_3:Q52 (wk 3) (Q0B 32 4 0 3) (errA 172 0):=by decide +kernel
theorem wk_4:Q52 (wk 4) (Q0B 31 2 1 3) (errA 171 0):=by decide +kernel
theorem wk_5:Q52 (wk 5) (Q2d 0) okA:=by decide +kernel
theorem wk_6:Q52 (wk 6) (Q0B 31 2 0 3) (errA 171 1):=by decide +kernel
theorem wk_7:Q3q (wk 7)=(wk 8,0):=by
 have h:(Q3q wk7).2=0:=by decide +kernel
 show Q3q wk7=((Q3q wk7).1,0);rw [<- h]
theorem wk_8:Q52 (wk 8) (Q0B 31 2 1 3) (Q24 (Q0V 7)):=by decide +kernel
theorem wk_9:(wk 9).epoch=1/\(wk 9).group=1:=by decide +kernel
theorem Q6B {w:zB} {A:Option zA} {q:Nat} (hr:Q04 w w.heap.size 1 A 4 ([1,2,3,4].map vn)) (hq:4<=q) {e:Int} (he:I64 e):Q14 w w.heap.size (Q2d e) none 0 0 A 4 q :=⟨Q04.none_,by simp,by simp,hr,hq,by simp,⟨by show I64 0; unfold I64; omega,by show I64 0; unfold I64; omega,by show I64 1; unfold I64; omega,he,by show I64 5; unfold I64; omega,by show I64 0; unfold I64; omega,by show I64 0; unfold I64; omega,by show I64 0; unfold I64; omega,fun z hz=>by simp [Q2d] at hz; unfold I64; omega⟩⟩
theorem Q9M {w:zB} {B:Nat} {A:Option zA} {q:Nat} {c s e k:Int} {b:UInt8} (ho:OwnB w B (.slice A 16 q) (Q0V b)) (h:I64 c/\I64 s/\I64 e/\I64 k):Q14 w w.heap.size (Q2C c s e k b) A 16 q none 0 0:=by obtain⟨q1,q2,q3,q4,q5⟩:=ho.reads;exact⟨q4,q2,by omega,Q04.none_,by simp,by simp,⟨h.1,h.2.1,by show I64 1; unfold I64; omega,h.2.2.1,by show I64 2; unfold I64; omega,h.2.2.2,by show I64 0; unfold I64; omega,by show I64 0; unfold I64; omega,fun z hz=>by simp [Q2C] at hz⟩⟩
theorem Q3Z {w:zB} {c s e b:Int} (h:I64 c/\I64 s/\I64 e/\I64 b):Q14 w w.heap.size (Q0B c s e b) none 0 0 none 0 0:=Q7k h
theorem Q89 (w:zB) :
 zF zG 25 #[] w fun e w'=>e=.returned (.bool true)/\zE w.heap.size w w':=by
 go_enter Tryz.func25,Tryz.ntmps25
 go_wp2_with fail
 refine(Q5g w).mono ?_;rintro _ w1 ⟨k,rfl,hbk,hkn,hb1⟩;have HNW:=sH (Q9F k [] 0 1 w1 hbk (by omega) (by omega));have HB1:=sH hb1;have HKN:=sH hkn;have hs1:=hb1.size;clear hb1 hkn hbk;go_wp2_with fail
 refine(HNW.out _ rfl).mono ?_;rintro _ w2 ⟨V,rfl,hna⟩;have hkk:=hna.kk;subst hkk;obtain⟨L2,a2,hbk2,ha2,_,hin2⟩:=hna.book;have HAL:=sH (VLoc.all_lt hna.vat hbk2);have HNA:=sH hna;have HBK2:=sH hbk2;have HIN2:=sH hin2;have hs2:=hna.only.size;have HVN:=sH (show ∀ b,V.has b->w.heap.size<=b from fun b hb=>by
  have hk:=HKN.out;rcases hb with e | e | e
  ·have:=hna.new.1; omega
  ·have:=hna.new.2 b (.inr (.inr e)); omega
  rcases e with e | e | e <;> omega)
 have HB2:=sH (HB1.out.trans (hna.only.below (B:=w.heap.size) (by omega) (fun b hb hn=>by have hk:=HKN.out; rcases hn with e | e | e <;> omega)));clear hna hbk2 hin2 HNW;go_wp2_with fail
 refine(Q21 7 w2).mono ?_;rintro _ w3 ⟨v,rfl,ho3,hb3⟩;obtain⟨A7,q7,hv,q1,q2,hr7,hge⟩:=Q03 ho3;have e16:(Q0V 7).length=16:=by simp [Q0V]
 rw [e16] at hv hr7;subst hv;have HWS:=sH (show WkSt w2 V V.all (wk 0) 48 w3 from⟨(HNA.out.vat.below hb3),⟨L2,a2,HBK2.out.below hb3,by omega,HIN2.out⟩,Only.of_below hb3⟩);have HR7:=sH hr7;have HGE:=sH hge;have hs3:=hb3.size;have hb23:=hb3;clear ho3 hb3 q1 q2 hr7 hge e16 HBK2 HIN2;go_upto_region 5 with(refine Q00 (o:=⟨none,_,_,_,_,_⟩) rfl 34 (.tmp 3) (.tmp 14) rfl w3.heap.size 0 (aC 0 A7 16 q7 0) rfl rfl 34 (aC 0 none 0 0 0) (Blk.newAt rfl) (Q0F _ _ _ _ _) (by simp [aC]) (Q0X _ _ _ _ _) ?_; intro w5 hT5 hD5; rw [Q17] at hD5)
 have hb5:zE w3.heap.size w3 w5:=hT5.below ((zJ _ _).alloc (zH _) _) (zH _);have hs5:=hb5.size;obtain⟨g3,hg3⟩:∃ g,g=w3.heap.size:=⟨_,rfl⟩;rw [<- hg3] at hD5 ⊢;have hg3l:=hD5.lt;have HAT:=sH (fun b (hb:V.has b)=>show b<w2.heap.size from HAL.out b (by rcases hb with e | e | e; exact .inl e; exact .inr (.inr (.inr (.inr e))); exact .inr (.inl e)));have hat7:∀ a,A7=some a->w2.heap.size<=a.block:=HGE.out;have HR5:=sH ((HR7.out.below hb5).more hs5);have HS5:=sH (show WkSt w5 V V.all (wk 0) 48 w5 from by have h:=HWS.out.below hb5;exact⟨h.vat,h.book,Only.refl _ _⟩)
 have HNL:=sH (show ∀ b,V.all b->b<w5.heap.size from fun b hb=>by have:=HAL.out b hb; omega);have HC3:=sH (fun(W:zB) (h:Only V.has w5 W)=>h.blk hD5 (fun hb=>by have:=HAT.out _ hb; omega));have HRC:=sH (fun(W:zB) (h:Only V.has w5 W)=>h.reads HR5.out (fun a _ ha hb=>by have:=HAT.out _ hb; have:=hat7 a ha; omega));have HW5:=sH (show ∀ b,V.has b->b<w5.heap.size from fun b hb=>by have:=HAT.out b hb; omega);have HA7:=sH (fun a (_:0<16) (ha:A7=some a) (hb:V.has a.block)=>show False by have:=HAT.out _ hb; have:=hat7 a ha; omega);have HB5:=sH (HB2.out.trans ((show zE w2.heap.size w2 w5 from hb23.trans (hb5.mono (by omega))).mono (by omega)));clear hT5 hD5 hb5 hg3 hat7;simp only [zM];refine Q0Y 28 84 (fun jx W v=>match jx with | 0=>v=.pointer (some ⟨V.g,0,none⟩) | 1=>∃ A q,v=.agg (Q02 (Q2C 31 1 0 3 7) A 16 q none 0 0)/\OwnB W w5.heap.size (.slice A 16 q) (Q0V 7) | 2=>v=.agg #[.int .i64 0,.slice none 0 0,.int .i64 0,.slice none 0 0] | 3=>v=.bool true | 4=>v=.bool true | 5=>v=.pointer (some ⟨V.g,0,none⟩) | 6=>v=.agg (Q02 (Q0B 32 5 0 3) none 0 0 none 0 0) | 7=>v=.agg (aC 0 A7 16 q7 0) | 8=>v=.bool true | 9=>v=.bool true | 10=>v=.bool true | 11=>v=.pointer (some ⟨V.g,0,none⟩) | 12=>v=.agg (Q02 (Q0B 32 5 0 0) none 0 0 none 0 0) | 13=>v=.agg (aC 0 A7 16 q7 0) | 14=>v=.bool true | 15=>v=.bool true | 16=>v=.bool true | 17=>v=.pointer (some ⟨V.g,0,none⟩) | 18=>v=.agg (Q02 (Q0B 32 4 0 3) none 0 0 none 0 0) | 19=>v=.agg #[.int .i64 172,.slice none 0 0,.int .i64 0,.slice none 0 0] | 20=>v=.bool true | 21=>v=.bool true | 22=>v=.bool true | 23=>v=.pointer (some ⟨V.g,0,none⟩) | 24=>v=.agg (Q02 (Q0B 31 2 1 3) none 0 0 none 0 0) | 25=>v=.agg #[.int .i64 171,.slice none 0 0,.int .i64 0,.slice none 0 0] | 26=>v=.bool true | _=>v=.bool true) (fun s W=>WkSt w5 V V.all (wk s) (48+6*s) W) (Only V.has) [3,8,14,20,26] [15,16,17,18,19,20,21,22,23,24,25,26,27,28,29,30,31,32,33,34,35,36,37,38,39,40,41,42] (by kernel_rfl) (by kernel_rfl) (by kernel_rfl) (by kernel_rfl) (by simp) (by kernel_rfl) (fun jx=>?last) ?lastR ?jay HS5.out ?heads ?_
 case last =>
  match jx with
  | 0 | 2 | 3 | 4 | 5 | 6 | 7 | 8 | 9 | 10 | 11 | 12 | 13 | 14 | 15 | 16 | 17 | 18 | 19 | 20 | 21 | 22 | 23 | 24 | 25 | 26 | jx+27=>exact Q1B.pure _
  | 1=>exact fun W W' v ⟨A,q,h1,h2⟩ hb=>⟨A,q,h1,h2.below hb⟩
 case lastR =>
  intro s jx W W' v hsl hs hj hp hr;match jx with
  | 0 | 2 | 3 | 4 | 5 | 6 | 7 | 8 | 9 | 10 | 11 | 12 | 13 | 14 | 15 | 16 | 17 | 18 | 19 | 20 | 21 | 22 | 23 | 24 | 25 | 26 | jx+27=>exact hp
  | 1=>(obtain⟨A,q,h1,h2⟩:=hp; exact⟨A,q,h1,Q9R h2 hr HW5.out⟩)
 case jay =>intro s W W' hj hb;exact hj.below hb
 case heads =>
  simp only [tT];and_intros;rotate_right;trivial
  all_goals try(rw [if_neg (by decide)];intro s a W hj hkp hd)
  ·have e0:(_:zC)=.pointer (some ⟨V.g,0,none⟩):=sK hkp 1;exact sV
  ·have hz:=hj.only.size;exact Q0z rfl 12 #[.int .i64 31,.int .i64 1,.int .i64 0,.int .i64 3,.int .u8 7] (by go_simp) ((Q5s 31 1 0 3 7 W).mono fun e w ⟨A,q,h1,h2,h3⟩=>⟨_,h1,h3,A,q,rfl,h2.more hz⟩)
  ·exact sV
  ·rw [if_pos (by decide)];intro s a W hs hj hkp hd;have e0:=sJ (hd 0) 15;obtain⟨A,q,e1,ho⟩:=(sG (hd 1) 16:);have e2:=sJ (hd 2) 17;obtain rfl:s=0:=Q3c (by decide) rfl hs;exact Q13 rfl 10 #[.pointer (some ⟨V.g,0,none⟩),.agg (Q02 (Q2C 31 1 0 3 7) A 16 q none 0 0),.agg #[.int .i64 0,.slice none 0 0,.int .i64 0,.slice none 0 0]] (by go_simp) (hj.does_ HNL.out (by omega) (Q2C 31 1 0 3 7) A 16 q none 0 0 (Q9M ho ⟨by unfold I64; omega,by unfold I64; omega,by unfold I64; omega,by unfold I64; omega⟩) (fun a h0 ha=>by subst ha; exact ho.ge rfl) (okA) none 0 0 Q04.none_ (by intro a h0; omega) (by omega) wk_0 (wk 1) rfl _ rfl)
  ·have e0:=sJ (hd 3) 18;exact sV
  ·have e0:(_:zC)=.pointer (some ⟨V.g,0,none⟩):=sK hkp 1;have eg:=sJ (hd 4) 19;exact sV (Q0i rfl rfl eg)
  ·have eg:=sJ (hd 4) 19;exact Q0z (Q0i rfl rfl eg) 7 #[.int .i64 32,.int .i64 5,.int .i64 0,.int .i64 3] (by go_simp) ((Q12 _ _ _ _ W).mono fun e w h=>⟨_,h.1,h.2,rfl⟩)
  ·have e0:a.eval (.tmp 3)=.pointer (some ⟨g3,0,none⟩):=hkp.at_ (by kernel_rfl);have eg:=sJ (hd 4) 19;exact Q1b (Q0i rfl rfl eg) (.agg (aC 0 A7 16 q7 0)) (Q0s 34 (.tmp 3) rfl g3 0 4 e0 34 _ (aC 0 A7 16 q7 0) _ (HC3.out W hj.only) Tryz.underlying34 rfl rfl rfl (fun _ _=>by rw [Nat.zero_add])) rfl
  ·rw [if_pos (by decide)];intro s a W hs hj hkp hd;have e0:=sJ (hd 5) 20;have e1:=sJ (hd 6) 21;have e2:=sJ (hd 7) 22;have eg:=sJ (hd 4) 19;obtain rfl:s=1:=Q3c (by decide) rfl hs;exact Q13 (Q0i rfl rfl eg) 10 #[.pointer (some ⟨V.g,0,none⟩),.agg (Q02 (Q0B 32 5 0 3) none 0 0 none 0 0),.agg (aC 0 A7 16 q7 0)] (by go_simp) (hj.does_ HNL.out (by omega) (Q0B 32 5 0 3) none 0 0 none 0 0 (Q3Z ⟨by unfold I64; omega,by unfold I64; omega,by unfold I64; omega,by unfold I64; omega⟩) (by intro a h0; omega) (Q24 (Q0V 7)) A7 16 q7 (HRC.out W hj.only) HA7.out (by omega) wk_1 (wk 2) rfl _ rfl)
  ·have e0:=sJ (hd 4) 19;have e1:=sJ (hd 8) 23;exact sV
  ·have e0:=sJ (hd 9) 24;exact sV
  ·have e0:(_:zC)=.pointer (some ⟨V.g,0,none⟩):=sK hkp 1;have eg:=sJ (hd 10) 25;exact sV (Q0i rfl rfl eg)
  ·have eg:=sJ (hd 10) 25;exact Q0z (Q0i rfl rfl eg) 7 #[.int .i64 32,.int .i64 5,.int .i64 0,.int .i64 0] (by go_simp) ((Q12 _ _ _ _ W).mono fun e w h=>⟨_,h.1,h.2,rfl⟩)
  ·have e0:a.eval (.tmp 3)=.pointer (some ⟨g3,0,none⟩):=hkp.at_ (by kernel_rfl);have eg:=sJ (hd 10) 25;exact Q1b (Q0i rfl rfl eg) (.agg (aC 0 A7 16 q7 0)) (Q0s 34 (.tmp 3) rfl g3 0 4 e0 34 _ (aC 0 A7 16 q7 0) _ (HC3.out W hj.only) Tryz.underlying34 rfl rfl rfl (fun _ _=>by rw [Nat.zero_add])) rfl
  ·rw [if_pos (by decide)];intro s a W hs hj hkp hd;have e0:=sJ (hd 11) 26;have e1:=sJ (hd 12) 27;have e2:=sJ (hd 13) 28;have eg:=sJ (hd 10) 25;obtain rfl:s=2:=Q3c (by decide) rfl hs;exact Q13 (Q0i rfl rfl eg) 10 #[.pointer (some ⟨V.g,0,none⟩),.agg (Q02 (Q0B 32 5 0 0) none 0 0 none 0 0),.agg (aC 0 A7 16 q7 0)] (by go_simp) (hj.does_ HNL.out (by omega) (Q0B 32 5 0 0) none 0 0 none 0 0 (Q3Z ⟨by unfold I64; omega,by unfold I64; omega,by unfold I64; omega,by unfold I64; omega⟩) (by intro a h0; omega) (Q24 (Q0V 7)) A7 16 q7 (HRC.out W hj.only) HA7.out (by omega) wk_2 (wk 3) rfl _ rfl)
  ·have e0:=sJ (hd 10) 25;have e1:=sJ (hd 14) 29;exact sV
  ·have e0:=sJ (hd 15) 30;exact sV
  ·have e0:(_:zC)=.pointer (some ⟨V.g,0,none⟩):=sK hkp 1;have eg:=sJ (hd 16) 31;exact sV (Q0i rfl rfl eg)
  ·have eg:=sJ (hd 16) 31;exact Q0z (Q0i rfl rfl eg) 7 #[.int .i64 32,.int .i64 4,.int .i64 0,.int .i64 3] (by go_simp) ((Q12 _ _ _ _ W).mono fun e w h=>⟨_,h.1,h.2,rfl⟩)
  ·have eg:=sJ (hd 16) 31;exact sV (Q0i rfl rfl eg)
  ·rw [if_pos (by decide)];intro s a W hs hj hkp hd;have e0:=sJ (hd 17) 32;have e1:=sJ (hd 18) 33;have e2:=sJ (hd 19) 34;have eg:=sJ (hd 16) 31;obtain rfl:s=3:=Q3c (by decide) rfl hs;exact Q13 (Q0i rfl rfl eg) 10 #[.pointer (some ⟨V.g,0,none⟩),.agg (Q02 (Q0B 32 4 0 3) none 0 0 none 0 0),.agg #[.int .i64 172,.slice none 0 0,.int .i64 0,.slice none 0 0]] (by go_simp) (hj.does_ HNL.out (by omega) (Q0B 32 4 0 3) none 0 0 none 0 0 (Q3Z ⟨by unfold I64; omega,by unfold I64; omega,by unfold I64; omega,by unfold I64; omega⟩) (by intro a h0; omega) (errA 172 0) none 0 0 Q04.none_ (by intro a h0; omega) (by omega) wk_3 (wk 4) rfl _ rfl)
  ·have e0:=sJ (hd 16) 31;have e1:=sJ (hd 20) 35;exact sV
  ·have e0:=sJ (hd 21) 36;exact sV
  ·have e0:(_:zC)=.pointer (some ⟨V.g,0,none⟩):=sK hkp 1;have eg:=sJ (hd 22) 37;exact sV (Q0i rfl rfl eg)
  ·have eg:=sJ (hd 22) 37;exact Q0z (Q0i rfl rfl eg) 7 #[.int .i64 31,.int .i64 2,.int .i64 1,.int .i64 3] (by go_simp) ((Q12 _ _ _ _ W).mono fun e w h=>⟨_,h.1,h.2,rfl⟩)
  ·have eg:=sJ (hd 22) 37;exact sV (Q0i rfl rfl eg)
  ·rw [if_pos (by decide)];intro s a W hs hj hkp hd;have e0:=sJ (hd 23) 38;have e1:=sJ (hd 24) 39;have e2:=sJ (hd 25) 40;have eg:=sJ (hd 22) 37;obtain rfl:s=4:=Q3c (by decide) rfl hs;exact Q13 (Q0i rfl rfl eg) 10 #[.pointer (some ⟨V.g,0,none⟩),.agg (Q02 (Q0B 31 2 1 3) none 0 0 none 0 0),.agg #[.int .i64 171,.slice none 0 0,.int .i64 0,.slice none 0 0]] (by go_simp) (hj.does_ HNL.out (by omega) (Q0B 31 2 1 3) none 0 0 none 0 0 (Q3Z ⟨by unfold I64; omega,by unfold I64; omega,by unfold I64; omega,by unfold I64; omega⟩) (by intro a h0; omega) (errA 171 0) none 0 0 Q04.none_ (by intro a h0; omega) (by omega) wk_4 (wk 5) rfl _ rfl)
  have e0:=sJ (hd 22) 37;have e1:=sJ (hd 26) 41;exact sV
 intro f W6 hj6 hd6;have f42:f 42=.bool true:=hd6 27 (by omega) _ 42 rfl rfl;have HS6:=sH (show WkSt w5 V V.all (wk 5) 78 W6 from hj6);clear hd6 hj6;simp only [Q0R,tU,f42];try simp only [zM,sA]
 have HT6:=sH (show WkSt W6 V V.all (wk 5) 78 W6 from⟨HS6.out.vat,HS6.out.book,Only.refl _ _⟩);have hs6:=HS6.out.only.size;have HNL6:=sH (show ∀ b,V.all b->b<W6.heap.size from fun b hb=>by have:=HAL.out b hb; omega);have HW6:=sH (show ∀ b,V.has b->b<W6.heap.size from fun b hb=>by have:=HAT.out b hb; omega);go_upto_region 6 with fail
 try simp only [zM,sA]
 refine Q0Y 21 84 (fun jx W v=>match jx with | 0=>v=.pointer (some ⟨V.g,0,none⟩) | 1=>∃ A q,v=.agg (Q02 (Q2d 0) none 0 0 A 4 q)/\Q04 W W.heap.size 1 A 4 ([1,2,3,4].map vn)/\4<=q/\∀ a,A=some a->W6.heap.size<=a.block | 2=>v=.agg #[.int .i64 0,.slice none 0 0,.int .i64 0,.slice none 0 0] | 3=>v=.bool true | 4=>v=.bool true | 5=>v=.pointer (some ⟨V.g,0,none⟩) | 6=>v=.agg (Q02 (Q0B 31 2 0 3) none 0 0 none 0 0) | 7=>v=.agg #[.int .i64 171,.slice none 0 0,.int .i64 1,.slice none 0 0] | 8=>v=.bool true | 9=>v=.bool true | 10=>v=.bool true | 11=>v=.pointer (some ⟨V.g,0,none⟩) | 12=>v=.int .i64 0 | 13=>v=.bool true | 14=>v=.bool true | 15=>v=.bool true | 16=>v=.pointer (some ⟨V.g,0,none⟩) | 17=>v=.agg (Q02 (Q0B 31 2 1 3) none 0 0 none 0 0) | 18=>v=.agg (aC 0 A7 16 q7 0) | 19=>v=.bool true | _=>v=.bool true) (fun s W=>WkSt W6 V V.all (wk (5+s)) (78+6*s) W) (Only V.has) [3,8,12,19] [43,44,45,46,47,48,49,50,51,52,53,54,55,56,57,58,59,60,61,62,63] (by kernel_rfl) (by kernel_rfl) (by kernel_rfl) (by kernel_rfl) (by simp) (by kernel_rfl) (fun jx=>?last) ?lastR ?jay HT6.out ?heads ?_
 case last =>
  match jx with
  | 0 | 2 | 3 | 4 | 5 | 6 | 7 | 8 | 9 | 10 | 11 | 12 | 13 | 14 | 15 | 16 | 17 | 18 | 19 | jx+20=>exact Q1B.pure _
  | 1=>exact fun W W' v ⟨A,q,h1,h2,h3⟩ hb=>⟨A,q,h1,(h2.below hb).more hb.size,h3⟩
 case lastR =>
  intro s jx W W' v hsl hs hj hp hr;match jx with
  | 0 | 2 | 3 | 4 | 5 | 6 | 7 | 8 | 9 | 10 | 11 | 12 | 13 | 14 | 15 | 16 | 17 | 18 | 19 | jx+20=>exact hp
  | 1=>(obtain⟨A,q,h1,h2,h3,h4⟩:=hp; exact⟨A,q,h1,hr.reads h2 (fun a _ ha hv=>by have:=h4 a ha; have:=HW6.out _ hv; omega),h3,h4⟩)
 case jay =>intro s W W' hj hb;exact hj.below hb
 case heads =>
  simp only [tT];and_intros;rotate_right;trivial
  all_goals try(rw [if_neg (by decide)];intro s a W hj hkp hd)
  ·have e0:(_:zC)=.pointer (some ⟨V.g,0,none⟩):=sK hkp 1;exact sV
  ·have hz:=hj.only.size;exact Q0z rfl 13 #[.int .i64 0] (by go_simp) ((Q2F 0 W).mono fun e w ⟨A,q,h1,h2,h3,h4,h5⟩=>⟨_,h1,h5,A,q,rfl,h2,h4,fun a ha=>by have:=h3 a ha; omega⟩)
  ·exact sV
  ·rw [if_pos (by decide)];intro s a W hs hj hkp hd;have e0:=sJ (hd 0) 43;obtain⟨A,q,e1,h4,h5,h6⟩:=(sG (hd 1) 44:);have e2:=sJ (hd 2) 45;obtain rfl:s=0:=Q3c (by decide) rfl hs;exact Q13 rfl 10 #[.pointer (some ⟨V.g,0,none⟩),.agg (Q02 (Q2d 0) none 0 0 A 4 q),.agg #[.int .i64 0,.slice none 0 0,.int .i64 0,.slice none 0 0]] (by go_simp) (hj.does_ HNL6.out (by omega) (Q2d 0) none 0 0 A 4 q (Q6B h4 h5 (by unfold I64; omega)) (by intro a h0; omega) (okA) none 0 0 Q04.none_ (by intro a h0; omega) (by omega) wk_5 (wk 6) rfl _ rfl)
  ·have e0:=sJ (hd 3) 46;exact sV
  ·have e0:(_:zC)=.pointer (some ⟨V.g,0,none⟩):=sK hkp 1;have eg:=sJ (hd 4) 47;exact sV (Q0i rfl rfl eg)
  ·have eg:=sJ (hd 4) 47;exact Q0z (Q0i rfl rfl eg) 7 #[.int .i64 31,.int .i64 2,.int .i64 0,.int .i64 3] (by go_simp) ((Q12 _ _ _ _ W).mono fun e w h=>⟨_,h.1,h.2,rfl⟩)
  ·have eg:=sJ (hd 4) 47;exact sV (Q0i rfl rfl eg)
  ·rw [if_pos (by decide)];intro s a W hs hj hkp hd;have e0:=sJ (hd 5) 48;have e1:=sJ (hd 6) 49;have e2:=sJ (hd 7) 50;have eg:=sJ (hd 4) 47;obtain rfl:s=1:=Q3c (by decide) rfl hs;exact Q13 (Q0i rfl rfl eg) 10 #[.pointer (some ⟨V.g,0,none⟩),.agg (Q02 (Q0B 31 2 0 3) none 0 0 none 0 0),.agg #[.int .i64 171,.slice none 0 0,.int .i64 1,.slice none 0 0]] (by go_simp) (hj.does_ HNL6.out (by omega) (Q0B 31 2 0 3) none 0 0 none 0 0 (Q3Z ⟨by unfold I64; omega,by unfold I64; omega,by unfold I64; omega,by unfold I64; omega⟩) (by intro a h0; omega) (errA 171 1) none 0 0 Q04.none_ (by intro a h0; omega) (by omega) wk_6 (wk 7) rfl _ rfl)
  ·have e0:=sJ (hd 4) 47;have e1:=sJ (hd 8) 51;exact sV
  ·have e0:=sJ (hd 9) 52;exact sV
  ·have e0:(_:zC)=.pointer (some ⟨V.g,0,none⟩):=sK hkp 1;have eg:=sJ (hd 10) 53;exact sV (Q0i rfl rfl eg)
  ·rw [if_pos (by decide)];intro s a W hs hj hkp hd;have e0:=sJ (hd 11) 54;have eg:=sJ (hd 10) 53;obtain rfl:s=2:=Q3c (by decide) rfl hs;exact Q13 (Q0i rfl rfl eg) 22 #[.pointer (some ⟨V.g,0,none⟩)] (by go_simp) (hj.turn_ (by omega) (wk 8) 0 wk_7)
  ·have e0:=sJ (hd 12) 55;have eg:=sJ (hd 10) 53;exact sV (Q0i rfl rfl eg)
  ·have e0:=sJ (hd 10) 53;have e1:=sJ (hd 13) 56;exact sV
  ·have e0:=sJ (hd 14) 57;exact sV
  ·have e0:(_:zC)=.pointer (some ⟨V.g,0,none⟩):=sK hkp 1;have eg:=sJ (hd 15) 58;exact sV (Q0i rfl rfl eg)
  ·have eg:=sJ (hd 15) 58;exact Q0z (Q0i rfl rfl eg) 7 #[.int .i64 31,.int .i64 2,.int .i64 1,.int .i64 3] (by go_simp) ((Q12 _ _ _ _ W).mono fun e w h=>⟨_,h.1,h.2,rfl⟩)
  ·have e0:a.eval (.tmp 3)=.pointer (some ⟨g3,0,none⟩):=hkp.at_ (by kernel_rfl);have eg:=sJ (hd 15) 58;exact Q1b (Q0i rfl rfl eg) (.agg (aC 0 A7 16 q7 0)) (Q0s 34 (.tmp 3) rfl g3 0 4 e0 34 _ (aC 0 A7 16 q7 0) _ (HC3.out W (HS6.out.only.trans hj.only)) Tryz.underlying34 rfl rfl rfl (fun _ _=>by rw [Nat.zero_add])) rfl
  ·rw [if_pos (by decide)];intro s a W hs hj hkp hd;have e0:=sJ (hd 16) 59;have e1:=sJ (hd 17) 60;have e2:=sJ (hd 18) 61;have eg:=sJ (hd 15) 58;obtain rfl:s=3:=Q3c (by decide) rfl hs;exact Q13 (Q0i rfl rfl eg) 10 #[.pointer (some ⟨V.g,0,none⟩),.agg (Q02 (Q0B 31 2 1 3) none 0 0 none 0 0),.agg (aC 0 A7 16 q7 0)] (by go_simp) (hj.does_ HNL6.out (by omega) (Q0B 31 2 1 3) none 0 0 none 0 0 (Q3Z ⟨by unfold I64; omega,by unfold I64; omega,by unfold I64; omega,by unfold I64; omega⟩) (by intro a h0; omega) (Q24 (Q0V 7)) A7 16 q7 (HRC.out W (HS6.out.only.trans hj.only)) HA7.out (by omega) wk_8 (wk 9) rfl _ rfl)
  have e0:=sJ (hd 15) 58;have e1:=sJ (hd 19) 62;exact sV
 intro f7 W7 hj7 hd7;have f63:f7 63=.bool true:=hd7 20 (by omega) _ 63 rfl rfl;have HS7:=sH (show WkSt W6 V V.all (wk 9) 102 W7 from hj7);clear hd7 hj7;simp only [Q0R,tU,f63];try simp only [zM,sA]
 have HEP:=sH (Q5o W7 V V.all (wk 9) HS7.out.vat);have HGR:=sH (Q8n W7 V V.all (wk 9) HS7.out.vat);have HLV:=sH (Q2w W7 V V.all (wk 9) HS7.out.vat);rw [wk_9.1] at HEP;rw [wk_9.2] at HGR;have HBE:=sH (show zE w.heap.size w W7 from by have h5:=HB5.out;have h6:=(HS6.out.only.trans HS7.out.only).below (B:=w.heap.size) h5.size (fun b hb hv=>by have:=HVN.out b hv; omega);exact h5.trans h6)
 go_wp2_with fail
 refine HEP.out.mono ?_;rintro _ _ ⟨rfl,rfl⟩;go_wp2_with fail
 refine HGR.out.mono ?_;rintro _ _ ⟨rfl,rfl⟩;go_wp2_with fail
 refine HLV.out.mono ?_;rintro _ W8 ⟨v,vs,rfl,hov,hb8⟩;obtain⟨A8,c8,hv8,_⟩:=hov.slice;rw [Q0k] at hv8;subst hv8;have HBF:=sH (HBE.out.trans (hb8.mono (by have:=HBE.out.size; omega)));clear hov hb8;go_wp2_with fail
 go_ret
 exact⟨rfl,HBF.out⟩
end
section
open Go.RowKit Go.Maps
def Q23 (w:zB) (B:Nat) (A:Option zA) (n:Nat) (xss:LL):Prop :=xss.length=n/\(0<n->∃ ad,A=some ad/\ad.block<B/\∀ (k:Nat) (x:List UInt8),xss[k]?=some x->∃ Ak mk ck,w.cell? (ad.add k)=some (.slice Ak mk ck)/\Q04 w B 1 Ak mk (x.map vb)/\mk<=ck)
theorem OwnL.rowsC {w:zB} {B0:Nat} {v:zC} {xss:LL} {vs:List zC} (h:OwnL w B0 v xss vs):∃ A c,v=.slice A xss.length c/\xss.length<=c/\Q23 w w.heap.size A xss.length xss:=by
 have hr:=fun A c (hv:v=.slice A xss.length c)=>Q04.of_own (A:=A) (c:=c) (by rw [<- hv]; exact h.row)
 have hrow:∀ A,Q04 w w.heap.size 1 A xss.length vs->Q23 w w.heap.size A xss.length xss:=fun A hrd=>⟨rfl,fun h0=>by obtain⟨ad,rfl,hlt,hc⟩:=hrd.2 h0;refine⟨ad,rfl,hlt,fun k x hx=>?_⟩;obtain⟨u,h1,h2⟩:=h.at_ k x hx;obtain⟨Ak,ck,rfl,h5,_,h3,_⟩:=Q03 h2;exact⟨Ak,x.length,ck,hc k _ h1,h3,h5⟩⟩
 rcases h.row.2 with⟨rfl,h0⟩ | ⟨g,cap,cur,rfl,hg,_,h1,h2,_⟩
 ·exact⟨none,0,by rw [h0],by omega,hrow _ (hr none 0 (by rw [h0]))⟩
 exact⟨_,cap,rfl,h1,hrow _ (hr _ _ rfl)⟩
end
section
open Go.RowKit Go.Maps
attribute [local irreducible] wpList Q0t
theorem Q2p {P:Program} {ops:Array Oper} {o:Oper} {a:Act} {w:zB} {R:zB->zB->Prop} {J:zB->Prop} {p:zB->zC->Prop} (hw:Region.wanted o (yielded ops a.tmps)=true) (w':zB) (he:(execOp a.eval o).run P w=.ok .skip w') (hR:R w w') (hJ:J w') (hp:p w' undef):Q5i P ops o a w R J p:=fun K Q' hK=>by rw [if_pos hw];unfold Oper.wp;rw [he];exact hK undef w' hR hJ hp
structure HdSt (w3:zB) (g:Nat) (cs:Array zC) (W:zB):Prop where
 only:Only (fun b=>b=g) w3 W
 blk:Blk W g 64 cs
theorem HdSt.below {w3 W W':zB} {g:Nat} {cs:Array zC} (h:HdSt w3 g cs W) (hb:zE W.heap.size W W'):HdSt w3 g cs W':=⟨h.only.trans (Only.of_below hb),h.blk.below' hb⟩
theorem HdSt.set_ {w3 W:zB} {g:Nat} {cs:Array zC} (h:HdSt w3 g cs W) (i:Nat) (v:zC):HdSt w3 g (cs.setIfInBounds i v) (W.setCell ⟨g,i,none⟩ v):=⟨h.only.trans (Only.of_turned (N:=fun b=>b=g) (Q05.setCell W ⟨g,i,none⟩ v) rfl),h.blk.set_ i v⟩
def hdC (cs:Array zC) (q e:Nat) (v:zC):Nat->Array zC
 | 0=>cs
 | 1=>cs.setIfInBounds 1 (.int .i64 (q:Int))
 | 2=>(cs.setIfInBounds 1 (.int .i64 (q:Int))).setIfInBounds 2 (.int .i64 (e:Int))
 | _=>((cs.setIfInBounds 1 (.int .i64 (q:Int))).setIfInBounds 2 (.int .i64 (e:Int))).setIfInBounds 19 v
theorem Q2U (cs:Array zC) (q e:Nat) (v:zC) (s:Nat):(hdC cs q e v s).size=cs.size:=by unfold hdC;split <;> simp
def OpenPost (w:zB) (k:Book) (L:LL) (asked:Nat) (o:Option VM) (e:Ending) (w':zB):Prop :=(o=none->e=.returned (.tuple #[.pointer none,.int .i64 2])/\zE w.heap.size w w')/\(∀ m,o=some m->∃ V:VLoc,e=.returned (.tuple #[.pointer (some ⟨V.g,0,none⟩),.int .i64 0])/\Q32 w w' k V L asked m)
structure OpSt (w:zB) (g:Nat) (k:Book) (xss:LL) (i j:Nat) (wr:zB):Prop where
 raw:∃ S,VRaw wr g none (fun b=>b=g\/k.has b\/b<g) (midO xss i j) S
 b16:∀ q,q<i->(xss.getD q []).length=16
 cl:∀ q,q<j->(Q0D (xss.getD (8+q) [])).isSome=true
 low:zE w.heap.size w wr
theorem Q1S {xss:LL} (h:¬ (xss.length=13/\(∀ i,i<8->(xss.getD i []).length=16)/\(∀ i,i<4->(Q0D (xss.getD (8+i) [])).isSome=true))):Q26 xss=none:=by unfold Q26; rw [if_neg h]
theorem Q4w (k:Book) (L:LL) (asked:Nat) (A:Option zA) (n c:Nat) (xss:LL) (w:zB) (hbk:Q0d w k L asked) (has:asked<=600000) (hr:Q23 w w.heap.size A n xss) (hn:n<=1000000000000) (hlx:∀ x,x∈xss->x.length<=1000000000000) :
 zF zG 15 #[.pointer (some ⟨k.g,0,none⟩),.slice A n c] w (OpenPost w k L asked (Q26 xss)):=by
 have hxl:=hr.1;obtain⟨o,ho⟩:∃ o,o=Q26 xss:=⟨_,rfl⟩;rw [<- ho];have HO:=sH ho;clear ho;by_cases h13:n=13
 ·have h13b:((n:Int) != 13)=false:=by simp [h13]
  obtain⟨ad,hA,hadb,hcell⟩:=hr.2 (by omega);subst hA;have HXL:=sH (show xss.length=13 by omega);have HBK:=sH hbk;have hkl:=hbk.lt;have HLX:=sH hlx;have HCELL:=sH (fun(W:zB) (hb:zE w.heap.size w W) (q:Nat) (hq:q<13)=>(show ∃ Ak mk ck,W.cell? (ad.add q)=some (.slice Ak mk ck)/\Q04 W w.heap.size 1 Ak mk ((xss.getD q []).map vb)/\mk<=ck/\mk=(xss.getD q []).length/\mk<=1000000000000 from by
   have hqx:q<xss.length:=by omega
   obtain⟨Ak,mk,ck,h1,h2,h3⟩:=hcell q xss[q] (zD hqx);have e:xss.getD q []=xss[q]:=by rw [List.getD_eq_getElem?_getD,zD hqx]; rfl
   rw [e];have hmk:xss[q].length=mk:=by have:=h2.1; simpa using this
   exact⟨Ak,mk,ck,(hb.cell (by rw [Q09]; exact hadb)).trans h1,h2.below hb,h3,hmk.symm,by have:=hlx _ (List.getElem_mem hqx); omega⟩))
  obtain⟨g,hg⟩:∃ g,g=w.heap.size:=⟨_,rfl⟩;have hRC:=rawC;have HST:=sH (show OpSt w g k xss 0 0 (w.alloc (.cells (vC none rawV rawS) 64)) from⟨⟨rawS,by rw [Q6w]; exact VRaw.new w _ hg⟩,fun q h=>by omega,fun q h=>by omega,Q0a _ _⟩);have HRC:=sH hRC;have hgw:w.heap.size<=g:=by omega
  have hgw2:g<=w.heap.size:=by omega
  clear hr hbk hlx hcell hRC hxl;subst h13;go_enter Tryz.func15,Tryz.ntmps15
  go_upto_region 4 with fail
  rw [<- HRC.out];generalize zO w _=w1 at HST ⊢;rw [<- hg];clear hg;go_wp2_with fail
  go_loopw [18] (fun iv wr=>∃ i:Nat,i<=8/\iv=.int .i64 i/\OpSt w g k xss i 0 wr) (fun iv _=>8 - (intOf iv).toNat)
  case atStart=>exact⟨0,by omega,rfl,HST.out⟩
  obtain⟨i,hi,rfl,hst⟩:=hrel;have HS:=sH hst;have hlow:=hst.low.size;clear hst;by_cases hin:i<8
  ·have hinI:(i:Int)<8:=by omega
   have hin13:(i:Int)<13:=by omega
   have h0I:(0:Int)<=(i:Int):=by omega
   obtain⟨Ak,mk,ck,h1,h2,h3,h4,h5⟩:=HCELL.out wr HS.out.low i (by omega);obtain⟨x,hx⟩:∃ x,x=xss.getD i []:=⟨_,rfl⟩;rw [<- hx] at h2 h4;have HX:=sH hx;have H4:=sH h4;by_cases h16:mk=16
   ·have h16b:((mk:Int) != 16)=false:=by simp [h16]
    obtain⟨S,hraw⟩:=HS.out.raw;have hgl:=hraw.blk.lt;have C1:=sH (fun(W:zB) (hb:zE wr.heap.size wr W)=>(hb.cell (show (ad.add i).block<wr.heap.size by rw [Q09]; omega)).trans h1);have HCL:=sH (fun(W:zB) (hb:zE wr.heap.size wr W)=>Q1t Ak mk ck x W w.heap.size (h2.below (hb.mono hlow)) (by have:=hb.size; omega) (by omega));have HRW:=sH hraw;subst h16;clear h2 hx h4 hraw;go_upto_region 9 with fail
    clear h1;refine Q0r 10 90 (fun jx W v=>match jx with | 0=>v=.pointer (some ⟨g,0,none⟩) | 1=>v=.int .i64 (i:Int) | 2=>v=.slice (some ad) 13 c | 3=>v=.int .i64 (i:Int) | 4=>v=.pointer (some (ad.add i)) | 5=>v=.slice Ak 16 ck | 6=>∃ A' c',v=.slice A' 16 c'/\OwnB W wr.heap.size (.slice A' 16 c') x | 7=>v=.pointer (some ⟨g,0,none⟩) | 8=>v=.pointer (some ⟨g,3,none⟩) | _=>v=.pointer (some ⟨g,3+i,none⟩)) [27,28,29,30,31,32,33,34,35,36] (by kernel_rfl) (by kernel_rfl) (by kernel_rfl) (by simp) (by kernel_rfl) (fun jx=>?last) ?heads ?_
    case last =>
     match jx with
     | 0 | 1 | 2 | 3 | 4 | 5 | 7 | 8 | jx+9=>exact Q1B.pure _
     | 6=>exact fun W W' v ⟨A',c',h1,h2⟩ hb=>⟨A',c',h1,h2.below hb⟩
    case heads =>
     simp only [tT];and_intros;rotate_right;trivial;all_goals intro a W hb hkp hd
     ·have e0:(_:zC)=.pointer (some ⟨g,0,none⟩):=sK hkp 6;exact sV
     ·have e0:(_:zC)=.int .i64 (i:Int):=sK hkp 7;exact sV
     ·have e0:(_:zC)=.slice (some ad) 13 c:=sK hkp 1;exact sV
     ·have e0:(_:zC)=.int .i64 (i:Int):=sK hkp 7;exact sV
     ·have e0:=sJ (hd 2) 29;have e1:=sJ (hd 3) 30;exact sV
     ·have e0:=sJ (hd 4) 31;have cc:=C1.out W hb;exact sV
     ·have e0:=sJ (hd 5) 32;refine Q0z rfl 48 #[.slice Ak 16 ck] (by go_simp) ((HCL.out W hb).mono ?_);rintro e w ⟨v,rfl,ho,hb'⟩;obtain⟨A1,c1,hv,_⟩:=Q03 ho;rw [<- H4.out] at hv;subst hv;exact⟨_,rfl,hb',A1,c1,rfl,ho.more hb.size⟩
     ·have e0:=sJ (hd 0) 27;exact sV
     ·have e0:=sJ (hd 7) 34;exact sV
     have e0:=sJ (hd 8) 35;have e1:=sJ (hd 1) 28;exact sV
    intro f W hbW hd;obtain⟨A',c',hf33,ho33⟩:∃ A' c',f 33=.slice A' 16 c'/\OwnB W wr.heap.size (.slice A' 16 c') x:=hd 6 (by omega) _ 33 rfl rfl;have f36:f 36=.pointer (some ⟨g,3+i,none⟩):=hd 9 (by omega) _ 36 rfl rfl;have hrw:=HRW.out.below hbW;have cb:W.cell? ⟨g,3+i,none⟩=some (.slice (S.bA i) (Q0l (midO xss i 0) i).length (S.bC i)):=(hrw.blk.cell _).trans (Q1l _ _ _ i hin);have fb:=hrw.blk.frozen (3+i);have hT:=Q05.setCell W ⟨g,3+i,none⟩ (.slice A' 16 c');obtain⟨q1,q2,q3,q4,q5⟩:=ho33.reads;have hrs:=hbW.size;have hfar:Far (W.setCell ⟨g,3+i,none⟩ (.slice A' 16 c')) (fun b=>b=g\/k.has b\/b<g) A' c' x:=by
     have hf0:Far W (fun b=>b=g\/k.has b\/b<g) A' c' x:=⟨by rw [<- q1]; exact q4,by omega,fun a h0 ha hN=>by have:=q5 a ha;rcases hN with e | (e | e | e) | e <;> omega⟩
     exact hf0.only (Only.of_turned (N:=fun b=>b=g) hT rfl) (fun b e=>.inl e)
    have hB2:=hrw.blk.set_ (3+i) (.slice A' 16 c');have hnew:=hrw.setB (b:=i) (d:=x) (A:=A') (c:=c') hT (.inl rfl) (by rw [<- q1]; exact hB2) hin hfar;rw [HX.out,Q58 (by rw [HXL.out]; omega) hin] at hnew;have HNX:=sH (show OpSt w g k xss (i+1) 0 (W.setCell ⟨g,3+i,none⟩ (.slice A' 16 c')) from⟨⟨_,hnew⟩,fun q hq=>by
     rcases Nat.lt_or_ge q i with h | h
     ·exact HS.out.b16 q h
     obtain rfl:q=i:=by omega
     rw [<- HX.out]; exact H4.out.symm,fun q hq=>by omega,hT.below (HS.out.low.trans (hbW.mono hlow)) hgw⟩)
    simp only [Q0R,tU,hf33,f36];clear hd hrw hT hfar hB2 hnew hbW ho33 q1 q2 q3 q4 q5;try simp only [zM,sA]
    go_wp2_with fail
    go_roundw
    case rel=>exact⟨i+1,by omega,by go_num,HNX.out⟩
    case measure=>simp [intOf]; omega
   have h16b:((mk:Int) != 16)=true:=by simp; omega
   have ho:o=none:=by
    rw [HO.out];refine Q1S fun hh=>?_
    have:=hh.2.1 i hin;rw [<- HX.out,<- H4.out] at this;exact h16 this
   subst ho;clear h2 hx h4;go_wp2_with fail
   go_ret2
   exact⟨fun _=>⟨rfl,HS.out.low⟩,fun m hm=>by cases hm⟩
  obtain rfl:i=8:=by omega
  have hinI:¬ (8:Int)<8:=by omega
  go_wp2_with fail
  go_loopw [38] (fun jv wr=>∃ j:Nat,j<=4/\jv=.int .i64 j/\OpSt w g k xss 8 j wr) (fun jv _=>4 - (intOf jv).toNat)
  case atStart=>exact⟨0,by omega,rfl,HS.out⟩
  obtain⟨j,hj,rfl,hst⟩:=hrel;have HJ:=sH hst;have hlow:=hst.low.size;clear hst HS;by_cases hjn:j<4
  ·have hjI:(j:Int)<4:=by omega
   have h0I:(0:Int)<=(j:Int):=by omega
   obtain⟨Ak,mk,ck,h1,h2,h3,h4,h5⟩:=HCELL.out wr HJ.out.low (8+j) (by omega);obtain⟨x,hx⟩:∃ x,x=xss.getD (8+j) []:=⟨_,rfl⟩;rw [<- hx] at h2 h4;have HX:=sH hx;have HCL:=sH (Q4B Ak mk ck x wr w.heap.size h2 hlow h3 (by omega));obtain⟨p,hp⟩:∃ p,p=Q0D x:=⟨_,rfl⟩;rw [<- hp] at HCL;have HPP:=sH hp;have h1':wr.cell? (ad.add (8+j))=some (.slice Ak mk ck):=h1;clear h2 hx h4 hp h1;go_wp2_with fail
   refine HCL.out.mono ?_;rintro _ w3 ⟨D,rfl,⟨A3,c3,hDe,ho3⟩,hb3⟩;obtain⟨D2,hD2⟩:∃ D2,D2=D:=⟨_,rfl⟩;rw [<- hD2] at hDe ⊢;have hDs:D2.size=2:=by rw [hDe]; rfl
   have hDo:D2.all (·.oneCell')=true:=by rw [hDe]; simp [Value.oneCell']
   have HDS:=sH hDs;have HDO:=sH hDo;have HDE:=sH hDe;have HO3:=sH ho3;obtain⟨S,hraw⟩:=HJ.out.raw;have hgl:=hraw.blk.lt;have HRW:=sH (hraw.below hb3);have HL3:=sH (HJ.out.low.trans (hb3.mono hlow));have hs3:=hb3.size;clear hDs hDo hDe ho3 hb3 HCL hraw h1' hD2;go_upto_region 15 with(refine Q00 (o:=⟨none,_,_,_,_,_⟩) rfl 61 (.tmp 9) (.tmp 48) rfl w3.heap.size 0 D2 rfl rfl 61 Q1v (Blk.newAt rfl) (by rw [HDS.out]; kernel_rfl) (by rw [HDS.out]; simp [Q1v]) HDO.out ?_; intro w5 hT5 hD5; rw [Q0h _ _ (by rw [HDS.out]; rfl)] at hD5)
   have hb5:zE w3.heap.size w3 w5:=hT5.below ((zJ _ _).alloc (zH _) _) (zH _);obtain⟨g9,hg9⟩:∃ g,g=w3.heap.size:=⟨_,rfl⟩;rw [<- hg9] at hD5 ⊢;have HD5:=sH hD5;have HRW5:=sH (HRW.out.below hb5);have HO5:=sH (HO3.out.below hb5);have HL5:=sH (HL3.out.trans (hb5.mono (by have:=HL3.out.size; omega)));have hs5:=hb5.size;clear hT5 hb5 hD5 hg9;cases hpc:p with
   | none =>
    have ho:o=none:=by
     rw [HO.out];refine Q1S fun hh=>?_
     have:=hh.2.2 j hjn;rw [<- HX.out,<- HPP.out,hpc] at this;cases this
    subst ho;simp only [Option.isSome_none];go_wp2_with fail
    go_ret2
    exact⟨fun _=>⟨rfl,HL5.out⟩,fun m hm=>by cases hm⟩
   | some y =>
    have hpe:(Q0D (xss.getD (8+j) [])).getD (0,[])=y:=by rw [<- HX.out,<- HPP.out,hpc]; rfl
    have hpi:(Q0D (xss.getD (8+j) [])).isSome=true:=by rw [<- HX.out,<- HPP.out,hpc]; rfl
    have hde:=HDE.out;rw [hpc] at hde HO5;simp only [Option.getD_some] at hde HO5;have HPE:=sH hpe;have HPI:=sH hpi;have HDE2:=sH hde;simp only [Option.isSome_some];clear hpe hpi hde;go_upto_region 17 with fail
    refine Q0f 6 90 (by kernel_rfl) (by kernel_rfl) (by kernel_rfl) (by simp) ?_;simp only [tT,tU];refine tD (.pointer (some ⟨g,0,none⟩)) ?_;try simp only [zM,sA]
    refine tD (.int .i64 (j:Int)) ?_;try simp only [zM,sA]
    refine Q0w rfl 61 (.tmp 9) rfl g9 0 2 rfl 61 _ D2 _ HD5.out Tryz.underlying61 rfl rfl HDS.out (fun _ _=>by rw [Nat.zero_add]) ?_;try simp only [zM,sA]
    refine tC (.pointer (some ⟨g,0,none⟩)) ?_;try simp only [zM,sA]
    refine tC (.pointer (some ⟨g,11,none⟩)) ?_;try simp only [zM,sA]
    refine tC (.pointer (some ⟨g,11+j*2,none⟩)) ?_;try simp only [zM,sA]
    refine Q0A ?_;intro W hbW;have hrw:=HRW5.out.below hbW;have HRWW:=sH hrw;have HOW:=sH (HO5.out.below hbW);have HLW:=sH (HL5.out.trans (hbW.mono (by have:=HL5.out.size; omega)));have hsW:=hbW.size;clear hbW hrw;go_wp2_with (refine Q00 (o:=⟨none,_,_,_,_,_⟩) rfl 61 (.tmp 57) (.tmp 54) rfl g (11+j*2) D2 rfl rfl 64 _ HRWW.out.blk (by rw [HDS.out]; kernel_rfl) (by rw [HDS.out,Q0H]; omega) HDO.out ?_; intro w7 hT7 hD7)
    rw [HDE2.out] at hD7;obtain⟨q1,q2,q3,q4,q5⟩:=HOW.out.reads;have hfar:Far w7 (fun b=>b=g\/k.has b\/b<g) A3 c3 y.2:=by
     have hf0:Far W (fun b=>b=g\/k.has b\/b<g) A3 c3 y.2:=⟨q4,⟨q2,q3⟩,fun a h0 ha hN=>by have:=q5 a ha;rcases hN with e | (e | e | e) | e <;> omega⟩
     exact hf0.only (Only.of_turned (N:=fun b=>b=g) hT7 rfl) (fun b e=>.inl e)
    have hnew:=HRWW.out.setL (j:=j) (st:=y.1) (d:=y.2) (A:=A3) (c:=c3) hT7 (.inl rfl) hD7 hjn hfar;have hme:=Q4P (ls:=xss) (i:=8) (j:=j) hjn;rw [HPE.out] at hme;rw [hme] at hnew;have HNX:=sH (show OpSt w g k xss 8 (j+1) w7 from⟨⟨_,hnew⟩,HJ.out.b16,fun q hq=>by
     rcases Nat.lt_or_ge q j with h | h
     ·exact HJ.out.cl q h
     obtain rfl:q=j:=by omega
     exact HPI.out,hT7.below HLW.out hgw⟩)
    clear hT7 hD7 q1 q2 q3 q4 q5 hfar hnew hme;go_roundw
    case rel=>exact⟨j+1,by omega,by go_num,HNX.out⟩
    case measure=>simp [intOf]; omega
  obtain rfl:j=4:=by omega
  have hjI:¬ (4:Int)<4:=by omega
  obtain⟨Ak,mk,ck,h1,h2,h3,h4,h5⟩:=HCELL.out wr HJ.out.low 12 (by omega);have HPS:=sH (Q5k Ak mk ck (xss.getD 12 []) wr w.heap.size h2 hlow h3 h5);have hoe:o=match Q2i (xss.getD 12 []) with | none=>none | some l=>some (Q4a xss l):=by rw [HO.out];unfold Q26;rw [if_pos ⟨HXL.out,HJ.out.b16,HJ.out.cl⟩];cases Q2i (xss.getD 12 []) <;> rfl
  obtain⟨sl,hsl⟩:∃ s,s=Q2i (xss.getD 12 []):=⟨_,rfl⟩;rw [<- hsl] at HPS hoe;have HSL:=sH hsl;have HOE:=sH hoe;clear h2 h4 hoe hsl;have c12:wr.cell? ⟨ad.block,ad.off+12,none⟩=some (.slice Ak mk ck):=by rw [show (⟨ad.block,ad.off+12,none⟩:zA)=ad.add 12 by simp [Addr.add]]; exact h1
  clear h1;go_wp2_with fail
  refine HPS.out.mono ?_;rintro _ w3 ⟨v,ys,rfl,hoy,hys,hb3⟩;have HYS:=sH hys;have HOY:=sH hoy;obtain⟨S,hraw⟩:=HJ.out.raw;have hgl:=hraw.blk.lt;have HRW:=sH (hraw.below hb3);have HL3:=sH (HJ.out.low.trans (hb3.mono hlow));have hs3:=hb3.size;obtain⟨Ay,cy,hvy,hcy1,hcy2,hry,hgy⟩:=Q1r hoy;subst hvy;have HRY:=sH hry;have HGY:=sH hgy;clear hys hoy hb3 hraw hry hgy HPS c12;cases hsc:sl with
  | none =>
   have ho:o=none:=by rw [HOE.out,hsc]
   subst ho;simp only [Option.isSome_none];go_wp2_with fail
   go_ret2
   exact⟨fun _=>⟨rfl,HL3.out⟩,fun m hm=>by cases hm⟩
  | some l =>
   have ho:o=some (Q4a xss l):=by rw [HOE.out,hsc]
   have hyl:ys=nI l:=HYS.out l hsc;have hgs:Q0U l:=by
    have:=HSL.out;rw [hsc] at this;unfold Q2i at this;cases hn:Q38 (xss.getD 12 []) with
    | none=>rw [hn] at this; cases this
    | some l' =>
     rw [hn] at this;simp only at this;by_cases hg:Q0U l'
     ·rw [if_pos hg] at this; rw [zN this]; exact hg
     rw [if_neg hg] at this; cases this
   have hok:=Q7E HXL.out HJ.out.b16 HJ.out.cl hgs;subst hyl;subst ho;have HOK:=sH hok;have HGS:=sH hgs;obtain⟨ln,hln⟩:∃ k,k=l.length:=⟨_,rfl⟩;have hl3:3<=ln:=by rw [hln]; exact hgs.1
   rw [Q1A,<- hln] at HRY hcy1 ⊢;have HLN:=sH hln;obtain⟨ay,hay,haylt,hcell⟩:=HRY.out.2 (by omega);subst hay;have cell:∀ W,zE w3.heap.size w3 W->∀ q,q<ln->W.cell? (ay.add q)=some (.int .i64 ((l.getD q 0:Nat):Int)):=fun W hb q hq=>(hb.cell (by rw [Q09]; exact haylt)).trans (hcell q _ (by
    have hqd:q<l.length:=by rw [<- hln]; exact hq
    unfold nI;rw [List.getElem?_map,List.getElem?_map,zD hqd,List.getD_eq_getElem?_getD,zD hqd]; rfl))
   have cy0:∀ W,zE w3.heap.size w3 W->W.cell? ay=some (.int .i64 ((l.getD 0 0:Nat):Int)):=fun W hb=>by have:=cell W hb 0 (by omega);rw [show ay.add 0=ay by simp [Addr.add]] at this;exact this
   have cy1:∀ W,zE w3.heap.size w3 W->W.cell? ⟨ay.block,ay.off+1,none⟩=some (.int .i64 ((l.getD 1 0:Nat):Int)):=fun W hb=>by have:=cell W hb 1 (by omega);rw [show ay.add 1=⟨ay.block,ay.off+1,none⟩ by simp [Addr.add]] at this;exact this
   have hbg:ay.block≠g:=fun e=>by have:=HGY.out ay rfl; omega
   have CY0:=sH (fun(W:zB) (h:Only (fun b=>b=g) w3 W)=>(h.cell (p:=ay) haylt hbg).trans (cy0 w3 (zJ _ _)));have CY1:=sH (fun(W:zB) (h:Only (fun b=>b=g) w3 W)=>(h.cell (p:=⟨ay.block,ay.off+1,none⟩) haylt hbg).trans (cy1 w3 (zJ _ _)));have hsf:=fun(W:zB)=>Q0L (P:=zG) (t:=29) (e:=3) Tryz.underlying29 (by kernel_rfl) (some ay) ln cy 3 3 rfl (by omega) W
   obtain⟨A7,hA7⟩:∃ A7,A7=(if cy=3 then(some ay:Option zA) else(some ay:Option zA).map (·.add 3)):=⟨_,rfl⟩;rw [<- hA7] at hsf;have HSF:=sH hsf;have hrn:=HRY.out.sub (l:=3) (k:=ln) (cap:=cy) (by omega) (zH _) hcy1;rw [Nat.mul_one,Nat.mul_one,<- hA7] at hrn;have e7:(((nI l).map vn).drop 3).take (ln - 3)=(nI (l.drop 3)).map vn:=by rw [zL (by rw [List.length_drop,List.length_map,Q1A,<- HLN.out]; omega)];unfold nI;rw [List.map_drop,List.map_drop]
   rw [e7] at hrn;have hfar3:FarN w3 (fun b=>b=g\/k.has b\/b<g) A7 (cy - 3) (nI (l.drop 3)):=by
    have hdl:(nI (l.drop 3)).length=ln - 3:=by rw [Q1A,List.length_drop,<- HLN.out]
    refine⟨by rw [hdl]; exact hrn,⟨by rw [hdl]; omega,by omega⟩,fun a h0 ha hN=>?_⟩;have hba:a.block=ay.block:=by
     rw [hA7] at ha;split at ha
     ·injection ha with ha; rw [<- ha]
     simp only [Option.map_some] at ha;injection ha with ha
     rw [<- ha,Q09]
    have:=HGY.out ay rfl;rw [hba] at hN;rcases hN with e | (e | e | e) | e <;> omega
   have HF3:=sH hfar3;have HDL3:=sH (show (nI (l.drop 3)).length=ln - 3 by rw [Q1A,List.length_drop,<- HLN.out]);obtain⟨m3,hm3⟩:∃ q,q=ln - 3:=⟨_,rfl⟩;rw [<- hm3] at HSF HDL3;obtain⟨q0,hq0⟩:∃ q,q=l.getD 0 0:=⟨_,rfl⟩;obtain⟨q1,hq1⟩:∃ q,q=l.getD 1 0:=⟨_,rfl⟩;rw [<- hq0] at CY0;rw [<- hq1] at CY1;have HQ0:=sH hq0;have HQ1:=sH hq1;obtain⟨cs,hcs⟩:∃ cs,cs=vC none (midO xss 8 4) S:=⟨_,rfl⟩;have HCS:=sH hcs;have hcz:cs.size=20:=by rw [hcs]; exact Q0H _ _ _
   have HJ0:=sH (show HdSt w3 g cs w3 from⟨Only.refl _ _,by rw [hcs]; exact HRW.out.blk⟩);have HCZ:=sH hcz;have hlnI:(0:Int)<(ln:Int):=by omega
   have hlnI1:(1:Int)<(ln:Int):=by omega
   have hln0:¬ ln=0:=by omega
   have hln1:0<ln:=by omega
   clear hsf hA7 hrn e7 hfar3 hm3 hq0 hq1 hcs hcz;simp only [Option.isSome_some];clear hok hgs hln hcell cell cy0 cy1;go_upto_region 22 with fail
   refine Q0Y 20 90 (fun jx W v=>match jx with | 0=>v=.pointer (some ⟨g,0,none⟩) | 1=>v=.pointer (some ⟨g,0,none⟩) | 2=>v=.pointer (some ⟨g,0,none⟩) | 3=>v=.slice (some ay) ln cy | 4=>v=.pointer (some ay) | 5=>v=.int .i64 (q0:Int) | 6=>v=.slice (some ay) ln cy | 7=>v=.pointer (some ⟨ay.block,ay.off+1,none⟩) | 8=>v=.int .i64 (q1:Int) | 9=>v=.slice (some ay) ln cy | 10=>v=.slice A7 m3 (cy - 3) | 11=>v=.pointer (some ⟨g,0,none⟩) | 12=>v=.pointer (some ⟨g,1,none⟩) | 13=>True | 14=>v=.pointer (some ⟨g,0,none⟩) | 15=>v=.pointer (some ⟨g,2,none⟩) | 16=>True | 17=>v=.pointer (some ⟨g,0,none⟩) | 18=>v=.pointer (some ⟨g,19,none⟩) | _=>True) (fun s W=>HdSt w3 g (hdC cs q0 q1 (.slice A7 m3 (cy - 3)) s) W) (fun _ _=>True) [13,16,19] [68,69,70,71,72,73,74,75,76,77,78,79,80,81,82,83,84] (by kernel_rfl) (by kernel_rfl) (by kernel_rfl) (by kernel_rfl) (by simp) (by kernel_rfl) (fun jx=>?last) ?lastR ?jay HJ0.out ?heads ?_
   case last =>
    match jx with
    | 0 | 1 | 2 | 3 | 4 | 5 | 6 | 7 | 8 | 9 | 10 | 11 | 12 | 14 | 15 | 17 | 18=>exact Q1B.pure _
    | 13=>exact fun _ _ _ h _=>h
    | 16=>exact fun _ _ _ h _=>h
    | jx+19=>exact fun _ _ _ h _=>h
   case lastR =>
    intro s jx W W' v hsl hs hj hp hr;match jx with
    | 0 | 1 | 2 | 3 | 4 | 5 | 6 | 7 | 8 | 9 | 10 | 11 | 12 | 14 | 15 | 17 | 18=>exact hp
    | 13=>trivial
    | 16=>trivial
    | jx+19=>trivial
   case jay =>intro s W W' hj hb;exact hj.below hb
   case heads =>
    simp only [tT];and_intros;rotate_right;trivial
    all_goals try(rw [if_neg (by decide)];intro s a W hj hkp hd)
    iterate 3 ·have e0:(_:zC)=.pointer (some ⟨g,0,none⟩):=sK hkp 6;exact sV
    ·have e0:(_:zC)=.slice (some ay) ln cy:=sK hkp 11;exact sV
    ·have e0:=sJ (hd 3) 71;exact sV
    ·have e0:=sJ (hd 4) 72;have cc:=CY0.out W hj.only;exact sV
    ·have e0:(_:zC)=.slice (some ay) ln cy:=sK hkp 11;exact sV
    ·have e0:=sJ (hd 6) 74;exact sV
    ·have e0:=sJ (hd 7) 75;have cc:=CY1.out W hj.only;exact sV
    ·have e0:(_:zC)=.slice (some ay) ln cy:=sK hkp 11;exact sV
    ·have e0:=sJ (hd 9) 77;have hsl:=HSF.out W;exact sV
    ·have e0:=sJ (hd 0) 68;exact sV
    ·have e0:=sJ (hd 11) 79;exact sV
    ·rw [if_pos (by decide)];intro s a W hs hj hkp hd;have e0:=sJ (hd 12) 80;have e1:=sJ (hd 5) 73;obtain rfl:s=0:=Q3c (by decide) rfl hs;have hk:=hj.blk.lt;have cc:W.cell? ⟨g,1,none⟩=some ((hdC cs q0 q1 (.slice A7 m3 (cy - 3)) 0)[1]'(by rw [Q2U,HCZ.out]; omega)):=(hj.blk.cell 1).trans (zK _);have ff:=hj.blk.frozen 1;exact Q2p rfl (W.setCell ⟨g,1,none⟩ (.int .i64 (q0:Int))) (by go_simp) trivial (hj.set_ 1 (.int .i64 (q0:Int))) trivial
    ·have e0:=sJ (hd 1) 69;exact sV
    ·have e0:=sJ (hd 14) 81;exact sV
    ·rw [if_pos (by decide)];intro s a W hs hj hkp hd;have e0:=sJ (hd 15) 82;have e1:=sJ (hd 8) 76;obtain rfl:s=1:=Q3c (by decide) rfl hs;have hk:=hj.blk.lt;have cc:W.cell? ⟨g,2,none⟩=some ((hdC cs q0 q1 (.slice A7 m3 (cy - 3)) 1)[2]'(by rw [Q2U,HCZ.out]; omega)):=(hj.blk.cell 2).trans (zK _);have ff:=hj.blk.frozen 2;exact Q2p rfl (W.setCell ⟨g,2,none⟩ (.int .i64 (q1:Int))) (by go_simp) trivial (hj.set_ 2 (.int .i64 (q1:Int))) trivial
    ·have e0:=sJ (hd 2) 70;exact sV
    ·have e0:=sJ (hd 17) 83;exact sV
    rw [if_pos (by decide)];intro s a W hs hj hkp hd;have e0:=sJ (hd 18) 84;have e1:=sJ (hd 10) 78;obtain rfl:s=2:=Q3c (by decide) rfl hs;have hk:=hj.blk.lt;have cc:W.cell? ⟨g,19,none⟩=some ((hdC cs q0 q1 (.slice A7 m3 (cy - 3)) 2)[19]'(by rw [Q2U,HCZ.out]; omega)):=(hj.blk.cell 19).trans (zK _);have ff:=hj.blk.frozen 19;exact Q2p rfl (W.setCell ⟨g,19,none⟩ (.slice A7 m3 (cy - 3))) (by go_simp) trivial (hj.set_ 19 (.slice A7 m3 (cy - 3))) trivial
   intro f W6 hj6 hd6;have hh:HdSt w3 g (hdC cs q0 q1 (.slice A7 m3 (cy - 3)) 3) W6:=hj6;have hbl:Blk W6 g 64 ((((vC none (midO xss 8 4) S).setIfInBounds 1 (.int .i64 (q0:Int))).setIfInBounds 2 (.int .i64 (q1:Int))).setIfInBounds 19 (.slice A7 (nI (l.drop 3)).length (cy - 3))):=by have:=hh.blk;unfold hdC at this;rw [HCS.out] at this;rw [HDL3.out];exact this
   have hraw:=HRW.out.setH hh.only (.inl rfl) hbl (HF3.out.only hh.only (fun b e=>.inl e));have hme:=Q7B (l:=l) HXL.out;rw [<- HQ0.out,<- HQ1.out] at hme;rw [hme] at hraw;have HRD:=sH (hraw.done HOK.out);have hb6:zE w.heap.size w W6:=HL3.out.trans (hh.only.below HL3.out.size fun b hb e=>by omega);have HB6:=sH hb6;have hs6:=hb6.size;have HMD:=sH (Q7u (fun b=>b<g) k L asked g (Q4a xss l) _ W6 (HBK.out.below (hb6)) has HRD.out (by rintro (e | e | e) <;> omega));have hgl6:=HRD.out.blk.lt;clear hd6 hj6 hh hbl hraw hme hb6;simp only [Q0R,tU];try simp only [zM,sA]
   go_wp2_with fail
   refine HMD.out.mono ?_;rintro _ w9 ⟨T,rfl,hms⟩;have HMS:=sH hms;clear hms HMD;go_wp2_with fail
   go_ret2
   refine⟨(fun hm=>by cases hm),fun m hm=>⟨⟨g,T,k⟩,rfl,?_⟩⟩;rw [<- zN hm];exact Q32.of_made HMS.out HB6.out hkl hgw hgl6
 have h13b:((n:Int) != 13)=true:=by simp; omega
 have ho:o=none:=by rw [HO.out];exact Q1S fun hh=>h13 (by rw [<- hxl]; exact hh.1)
 subst ho;clear hr hbk hxl hlx;go_enter Tryz.func15,Tryz.ntmps15
 go_wp2_with fail
 go_ret2
 exact⟨fun _=>⟨rfl,zJ _ _⟩,fun m hm=>by cases hm⟩
end
section
open Go.RowKit Go.Maps
theorem Q4K (f:Nat) (b:List UInt8) (acc:LL):Q2X (f+1) b acc=if (ts b 128).2.2≠0 then(acc,b,(ts b 128).2.2) else Q2X f (ts b 128).2.1 (acc++[(ts b 128).1]):=rfl
theorem OwnL.push_keep {w w3 w6:zB} {B0:Nat} {v u y:zC} {xss:LL} {vs:List zC} {z:List UInt8} (h:OwnL w B0 v xss vs) (hb:zE w.heap.size w w3) (hg:(w3.alloc (.cells #[u] 28)).grownBy w6 v.ownBlock) (hy:OwnB w3 B0 y z):OwnB w6 B0 y z:=by
 have hal:zE w3.heap.size w3 (w3.alloc (.cells #[u] 28)):=Q0a _ _;exact(hy.below hal).keep fun b hb'=>by
  obtain⟨cur,hcur⟩:=Q4f hy hb';refine hg.block b (by have:=hy.lt hb'; have:=hal.size; omega) fun e=>?_
  have hr3:w3.ownsRow B0 28 1 v xss.length vs:=Q15 h.row fun b hb''=>hb.block b (Q10 h.row hb'').2
  exact Q2T hr3 hcur (by decide) e.symm
theorem Q7s (b:List UInt8) (most:Nat):(ts b most).1.length<=b.length:=by
 rw [ts_eq];have:=Q80 b;split
 ·simp
 split
 ·simp
 split
 ·simp
 show ((tn b).2.1.take (tn b).1).length<=_;rw [List.length_take]; omega
end
section
open Go.RowKit Go.Maps
attribute [local irreducible] wpList Q0t
theorem Q32.before {w W w':zB} {k:Book} {V:VLoc} {L:LL} {asked:Nat} {m:VM} (hb:zE w.heap.size w W) (h:Q32 W w' k V L asked m):Q32 w w' k V L asked m :=⟨h.kk,h.vat,h.old,⟨by have:=h.new.1; have:=hb.size; omega,fun b hb'=>by have:=h.new.2 b hb'; have:=hb.size; omega⟩,h.book,(Only.of_below hb).trans h.only⟩
def LoadPost (w:zB) (k:Book) (L:LL) (asked:Nat) (o:Option VM) (n:Nat) (e:Ending) (w':zB):Prop :=(o=none->e=.returned (.tuple #[.pointer none,.int .i64 (n:Int)])/\zE w.heap.size w w')/\(∀ m,o=some m->∃ V:VLoc,e=.returned (.tuple #[.pointer (some ⟨V.g,0,none⟩),.int .i64 0])/\Q32 w w' k V L asked m)
structure LdSt (w:zB) (xs:List UInt8) (A:Option zA) (n c:Nat) (lv:zC) (rest:List UInt8) (acc:LL) (vs:List zC) (i:Nat) (wr:zB):Prop where
 rd:Q04 wr wr.heap.size 1 A n (rest.map vb)
 cap:n<=c
 own:OwnL wr w.heap.size lv acc vs
 al:acc.length=i
 ax:∀ x,x∈acc->x.length<=1000000000000
 go:Q2X 13 xs []=Q2X (13 - i) rest acc
 low:zE w.heap.size w wr
theorem Q92 (k:Book) (L:LL) (asked:Nat) (A:Option zA) (n c:Nat) (xs:List UInt8) (w:zB) (hbk:Q0d w k L asked) (has:asked<=600000) (hr:Q04 w w.heap.size 1 A n (xs.map vb)) (hc:n<=c) (hn:n<=1000000000000) :
 zF zG 18 #[.pointer (some ⟨k.g,0,none⟩),.slice A n c] w (LoadPost w k L asked (Q1u xs).1 (Q1u xs).2):=by
 obtain⟨o,ho⟩:∃ o,o=(Q1u xs).1:=⟨_,rfl⟩;obtain⟨en,hen⟩:∃ o,o=(Q1u xs).2:=⟨_,rfl⟩;rw [<- ho,<- hen];have HO:=sH ho;have HEN:=sH hen;have HBK:=sH hbk;have HST:=sH (show LdSt w xs A n c (.slice none 0 0) xs [] [] 0 w from⟨hr,hc,OwnL.nil _ _,rfl,(fun x hx=>by simp at hx),rfl,zJ _ _⟩);obtain⟨i0,hi0,hz0,hz1,hz2⟩:=info_parts Q5K;clear hr hbk ho hen hc;go_enter Tryz.func18,Tryz.ntmps18
 go_wp2_with fail
 go_loopw [1,6,10] (fun bv lv iv wr=>∃ (A:Option zA) (n c:Nat) (rest:List UInt8) (acc:LL) (vs:List zC) (i:Nat),i<=13/\n<=1000000000000/\bv=.slice A n c/\iv=.int .i64 i/\LdSt w xs A n c lv rest acc vs i wr) (fun _ _ iv _=>13 - (intOf iv).toNat)
 case atStart=>exact⟨_,_,_,_,_,_,0,by omega,hn,rfl,rfl,HST.out⟩
 obtain⟨A,n,c,rest,acc,vs,i,hi,hn,rfl,rfl,hst⟩:=hrel;have HS:=sH hst;have hsz:=hst.low.size;have hrl:rest.length=n:=by have:=hst.rd.1; simpa using this
 have HRL:=sH hrl;clear hrl;by_cases hin:i<13
 ·have hinI:(i:Int)<13:=by omega
  have HT:=sH (Q34 A n c 128 rest wr wr.heap.size hst.rd (zH _) hst.cap (by omega) (by omega));have hgo:=HS.out.go.trans ((congrArg (fun q=>Q2X q rest acc) (show 13 - i=(13 - (i+1))+1 by omega)).trans (Q4K _ rest acc));have hl1:=ts_len rest 128;have hl2:=Q7s rest 128;obtain⟨q,hq⟩:∃ q,q=ts rest 128:=⟨_,rfl⟩;rw [<- hq] at HT hgo hl1 hl2;obtain⟨d,r2,e2⟩:=q;simp only at hgo hl1 hl2;have HT2:=sH (show zF zG 56 #[.slice A n c,.int .i64 128] wr _ from HT.out);have HGO:=sH hgo;have HL1:=sH hl1;have HL2:=sH hl2;clear hst HT hq hgo hl1 hl2;go_wp2_with fail
  refine HT2.out.mono ?_;rintro _ w3 ⟨v,v',rfl,hod,hor,hb3⟩;obtain⟨Au,cu,hv,q1,q2,q3,q4⟩:=Q03 hod;obtain⟨A4,c4,hv',p1,p2,p3,p4⟩:=Q03 hor;subst hv hv';have HP3:=sH p3;have hs3:=hb3.size;have hrn:r2.length<=1000000000000:=by have:=HL1.out; have:=HRL.out; omega
  have hdn:d.length<=1000000000000:=by have:=HL2.out; have:=HRL.out; omega
  obtain⟨u,hu⟩:∃ u,u=Value.slice Au d.length cu:=⟨_,rfl⟩;have HOR:=sH (show OwnB w3 w.heap.size (.slice A4 r2.length c4) r2 from hor.more hsz);have HOD:=sH (show OwnB w3 w.heap.size u d from by rw [hu]; exact hod.more hsz);have HB3:=sH hb3;clear hod hor q1 q2 q3 q4 p2 p3 p4 HT2;obtain⟨nd,hnd⟩:∃ k,k=d.length:=⟨_,rfl⟩;obtain⟨nr,hnr⟩:∃ k,k=r2.length:=⟨_,rfl⟩;rw [<- hnd] at hu hdn ⊢;rw [<- hnr] at hrn p1 HP3 HOR ⊢;have HND:=sH hnd;clear hnd hnr;by_cases he:e2=0
  ·subst he;have HW:=sH (show (w3.alloc (.cells #[u] 28)).ownsRow w.heap.size 28 1 _ i vs from by
    have:=(Q15 HS.out.own.row (w':=w3) fun b hb''=>hb3.block b (Q10 HS.out.own.row hb'').2).alloc (.cells #[u] 28);rw [HS.out.al] at this;exact this)
   have HR3:=sH (Q0m w3 #[u] 28);rw [hu] at HW HR3;have HU:=sH hu;clear hb3 hu;go_wp2_with (at_builtin; go_must (refine Q06 _ rfl (.tmp 21) (.tmp 23) 43 rfl w.heap.size 28 i0 _ 1 24 Tryz.underlying43 hi0 hz0 hz1 hz2 rfl (by omega) _ i vs rfl HW.out (w3.heap.size+1) (some ⟨w3.heap.size,0,none⟩) 1 1 [.slice Au nd cu] rfl HR3.out ?c1 ?c2 ?c3 ?c4 ?_))
   case c1=>intro z hz; rw [List.mem_singleton] at hz; subst hz; rfl
   case c2=>unfold maxLen; omega
   case c3=>omega
   case c4=>simp; omega
   intro v6 w6 hown6 hg6 hor6;rw [<- HU.out] at hown6 hg6;have ho6:OwnL w6 w.heap.size v6 (acc++[d]) (vs++[u]):=HS.out.own.push HB3.out HOD.out (by rw [HS.out.al]; exact hown6) hg6;have hb6:zE w.heap.size w w6:=Q0p ((HS.out.low.trans (HB3.out.mono hsz)).trans ((Q0a w3 (.cells #[u] 28)).mono (by omega))) (by simp; omega) hg6 (fun b hb=>(Q10 HS.out.own.row hb).1);have hrd6:Q04 w6 w6.heap.size 1 A4 nr (r2.map vb):=(HS.out.own.push_keep HB3.out hg6 HOR.out).reads.2.2.2.1;have hst6:LdSt w xs A4 nr c4 v6 r2 (acc++[d]) (vs++[u]) (i+1) w6:=⟨hrd6,p1,ho6,by rw [zI,HS.out.al]; rfl,(by
    intro x hx;rcases List.mem_append.1 hx with hx | hx
    ·exact HS.out.ax x hx
    rw [List.mem_singleton] at hx; rw [hx,<- HND.out]; exact hdn),by rw [HGO.out,if_neg (by simp)],hb6⟩
   have HST6:=sH hst6;clear hown6 hg6 hor6 ho6 hb6 hrd6 hst6;go_wp2_with fail
   go_roundw
   case rel=>exact⟨_,_,_,_,_,_,i+1,by omega,hrn,rfl,by go_num,HST6.out⟩
   case measure=>simp [intOf]; omega
  have heb:((e2:Int) != 0)=true:=by simp; omega
  have hlo:Q1u xs=(none,e2):=by unfold Q1u;rw [HGO.out,if_pos he];simp only;rw [if_pos he]
  have ho:o=none:=by rw [HO.out,hlo]
  have he2:en=e2:=by rw [HEN.out,hlo]
  have HLOW:=sH (HS.out.low.trans (hb3.mono hsz));subst ho he2;clear hb3 hu hlo HO HEN HS;go_wp2_with fail
  go_ret2
  exact⟨fun _=>⟨rfl,HLOW.out⟩,fun m hm=>by cases hm⟩
 obtain rfl:i=13:=by omega
 have hinI:¬ (13:Int)<13:=by omega
 have hlg:Q2X 13 xs []=(acc,rest,0):=by rw [HS.out.go]; rfl
 have HLG:=sH hlg;obtain⟨Al,cl,hlv,hcl,hrows⟩:=HS.out.own.rowsC;rw [HS.out.al] at hlv hrows;subst hlv;have HROWS:=sH hrows;clear hst hlg hrows hcl;by_cases h0:n=0
 ·have h0I:¬ (0:Int)<(n:Int):=by omega
  subst h0;have hlo:Q1u xs=match Q26 acc with | none=>(none,2) | some m=>(some m,0):=by unfold Q1u;rw [HLG.out];simp only;rw [if_neg (by simp),if_neg (by rw [HRL.out]; omega)];cases Q26 acc <;> rfl
  have HBW:=sH (HBK.out.below HS.out.low);have HOP:=sH (Q4w k L asked Al 13 cl acc wr HBW.out has HROWS.out (by omega) (fun x hx=>by have:=HS.out.ax x hx; omega));have hoo:o=Q26 acc:=by rw [HO.out,hlo]; cases Q26 acc <;> rfl
  have hee:o=none->en=2:=fun h=>by rw [HEN.out,hlo,<- hoo,h]
  rw [<- hoo] at HOP;have HEE:=sH hee;have HLOW:=sH HS.out.low;clear hlo hoo hee HO HEN HS HLG;go_wp2_with fail
  refine HOP.out.mono ?_;rintro _ w9 ⟨hno,hso⟩;rcases Option.eq_none_or_eq_some o with hoc | ⟨m,hoc⟩
  ·obtain⟨rfl,hb9⟩:=hno hoc;have HB9:=sH (HLOW.out.trans (hb9.mono hsz));have he2:en=2:=HEE.out hoc;subst he2;subst hoc;clear hno hso hb9 HOP;go_wp2_with fail
   go_ret2
   exact⟨fun _=>⟨rfl,HB9.out⟩,fun m hm=>by cases hm⟩
  obtain⟨V,rfl,hnew⟩:=hso m hoc;have HNEW:=sH (Q32.before HLOW.out hnew);subst hoc;clear hno hso hnew HOP;go_wp2_with fail
  go_ret2
  refine⟨(fun hm=>by cases hm),fun m' hm=>⟨V,rfl,?_⟩⟩;rw [<- zN hm];exact HNEW.out
 have h0I:(0:Int)<(n:Int):=by omega
 have hlo:Q1u xs=(none,4):=by unfold Q1u;rw [HLG.out];simp only;rw [if_neg (by simp),if_pos (by rw [HRL.out]; omega)]
 have ho:o=none:=by rw [HO.out,hlo]
 have he2:en=4:=by rw [HEN.out,hlo]
 have HLOW:=sH HS.out.low;subst ho he2;clear hlo HO HEN HS;go_wp2_with fail
 go_ret2
 exact⟨fun _=>⟨rfl,HLOW.out⟩,fun m hm=>by cases hm⟩
def Q6z (w:zB) (m:VM) (e:Ending) (w':zB):Prop:=∃ v,e=.returned (.tuple #[v,.int .i64 0])/\OwnB w' w.heap.size v (Q27 m)/\zE w.heap.size w w'
theorem Q7M:∀ (l:LL),(∀ x,x∈l->x.length<=120)->(l.map strB).flatten.length<=128*l.length
 | [],_=>by simp
 | x :: t,h=>by
  rw [List.map_cons,List.flatten_cons,zI,List.length_cons];have h1:=Q7M t fun y hy=>h y (List.mem_cons_of_mem _ hy)
  have h2:=h x (List.mem_cons_self ..);have h3:=(Q0W (n:=x.length) (by unfold maxN; omega)).2;have h4:(strB x).length=(numB x.length).length+x.length:=by unfold strB; rw [zI]
  omega
theorem Q8y (w:zB) (V:VLoc) (N:Nat->Prop) (m:VM) (h:VAt w V N m) :
 zF zG 17 #[.pointer (some ⟨V.g,0,none⟩)] w (Q6z w m):=by
 obtain⟨S,hd⟩:=h.dat;have hok:=hd.ok;have HN:=sH (Q1C w V.g V.T.t h.none_);have HLV:=sH (Q2w w V N m h);have hlen:=Q0k m;have hbl:∀ x,x∈Q01 m->x.length<=120:=fun x hx=>by obtain⟨i,_,rfl⟩:=List.mem_map.1 hx;exact Q6h hok i
 have hfl:=Q7M _ hbl;rw [hlen] at hfl;obtain⟨ls,hls⟩:∃ ls,ls=Q01 m:=⟨_,rfl⟩;unfold Q6z Q27;unfold LvPost at HLV;rw [<- hls] at HLV hlen hbl hfl ⊢;have HLN:=sH hlen;have HBL:=sH hbl;obtain⟨i0,hi0,hz0,hz1,hz2⟩:=info_parts Q1f;clear h hd hlen hbl hls hok;go_enter Tryz.func17,Tryz.ntmps17
 go_wp2_with fail
 refine HN.out.mono ?_;rintro _ _ ⟨rfl,rfl⟩;go_wp2_with fail
 refine HLV.out.mono ?_;rintro _ w1 ⟨v,vs,rfl,how,hb1⟩;obtain⟨A,c,rfl,hc,_,hrows,hge⟩:=how.slice;rw [HLN.out] at hc hrows ⊢;have HR:=sH hrows;have HB1:=sH hb1;have hs1:=hb1.size;clear how hrows hb1 hge HLV HN;go_wp2_with fail
 go_loopw [4,14] (fun ov iv wr=>∃ i:Nat,i<=13/\iv=.int .i64 i/\OwnB wr w1.heap.size ov ((ls.take i).map strB).flatten/\zE w1.heap.size w1 wr) (fun _ iv _=>13 - (intOf iv).toNat)
 case atStart=>exact⟨0,by omega,rfl,OwnB.nil _ _,zJ _ _⟩
 obtain⟨i,hi,rfl,hov,hbel⟩:=hrel;have HOV:=sH hov;have HB:=sH hbel;have hsz:=hbel.size;clear hov hbel;by_cases hin:i<13
 ·have hinI:(i:Int)<13:=by omega
  have h0I:(0:Int)<=(i:Int):=by omega
  obtain⟨ad,hA,hadb,hcell⟩:=HR.out.2 (by omega);subst hA;have hxi:i<ls.length:=by have:=HLN.out; omega
  obtain⟨Ak,mk,ck,hck,hrk⟩:=hcell i ls[i] (zD hxi);have hck':=(HB.out.cell (show (ad.add i).block<w1.heap.size by rw [Q09]; omega)).trans hck;have hmk:ls[i].length=mk:=by have:=hrk.1; simpa using this
  have hm120:mk<=120:=by have:=HBL.out _ (List.getElem_mem hxi); omega
  have HST:=sH (Q9z Ak mk ck ls[i] wr wr.heap.size ((hrk.below HB.out).more hsz) (zH _) (by omega));obtain⟨ys,hys⟩:∃ ys,ys=((ls.take i).map strB).flatten:=⟨_,rfl⟩;have htk:((ls.take (i+1)).map strB).flatten=((ls.take i).map strB).flatten++strB ls[i]:=by rw [List.take_succ_eq_append_getElem hxi,List.map_append,List.flatten_append]; simp only [List.map_cons,List.map_nil,List.flatten_cons,List.flatten_nil,List.append_nil]
  have htl:((ls.take (i+1)).map strB).flatten.length<=(ls.map strB).flatten.length:=by
   conv=>rhs; rw [<- List.take_append_drop (i+1) ls,List.map_append,List.flatten_append,zI]
   omega
  rw [htk,zI] at htl;rw [<- hys] at HOV htk htl;have HTK:=sH htk;clear hys;generalize strB ls[i]=x at HTK HST htl;clear hcell hck hrk hmk htk;go_wp2_with fail
  refine HST.out.mono ?_;rintro _ w2 ⟨v2,rfl,ho2,hb2⟩;obtain⟨A2,c2,rfl,p1,p2,p3,p4⟩:=Q03 ho2;obtain⟨nx,hnx⟩:∃ k,k=x.length:=⟨_,rfl⟩;rw [<- hnx] at p3 htl ⊢;have HNX:=sH hnx;have HP3:=sH p3;have HO2:=sH (HOV.out.below hb2);have HWN:=sH HO2.out.row;have HB2:=sH (HB.out.trans (hb2.mono hsz));have hs2:=hb2.size;clear ho2 hb2 p1 p2 p3 p4 HST hnx;go_wp2_with (at_builtin; go_must (refine Q06 _ rfl (.tmp 26) (.tmp 27) 28 rfl w1.heap.size 5 i0 _ 1 1 Tryz.underlying28 hi0 hz0 hz1 hz2 rfl (by omega) _ _ _ rfl HWN.out w2.heap.size A2 nx c2 (x.map vb) rfl HP3.out ?c1 ?c2 ?c3 ?c4 ?_))
  case c1=>intro u hu; obtain⟨y,_,rfl⟩:=List.mem_map.1 hu; rfl
  case c2=>unfold maxLen; omega
  case c3=>omega
  case c4=>omega
  intro v3 w3 hown3 hg3 hor3;have HB3:=sH (Q0p HB2.out (by omega) hg3 (fun b hb=>HO2.out.ge hb));have HO3:=sH (show OwnB w3 w1.heap.size v3 ((ls.take (i+1)).map strB).flatten by unfold OwnB;rw [HTK.out,zI,List.map_append,<- HNX.out];exact hown3)
  clear hown3 hg3 hor3;go_wp2_with fail
  go_roundw
  case rel=>exact⟨i+1,by omega,by go_num,HO3.out,HB3.out⟩
  case measure=>simp [intOf]; omega
 obtain rfl:i=13:=by omega
 have hinI:¬ (13:Int)<13:=by omega
 go_wp2_with fail
 go_ret2
 refine⟨_,rfl,?_,HB1.out.trans (HB.out.mono hs1)⟩;have:=HOV.out;rw [zL (by have:=HLN.out; omega)] at this;exact this.more hs1
end
section
open Go.RowKit Go.Maps
attribute [local irreducible] wpList
def NilV (w:zB) (p:Option zA):Prop:=p=none\/∃ g,p=some ⟨g,0,none⟩/\w.cell? ⟨g,0,none⟩=some (.pointer none)
theorem NilV.below {w w':zB} {p:Option zA} (h:NilV w p) (hb:zE w.heap.size w w'):NilV w' p:=by
 rcases h with rfl | ⟨g,rfl,hc⟩
 ·exact .inl rfl
 exact .inr ⟨g,rfl,(hb.cell (World.block_lt_of_cell? _ _ hc)).trans hc⟩
theorem Q1o (w:zB) (p:Option zA) (h:NilV w p) :
 zF zG 43 #[.pointer p] w fun e w'=>e=.returned (.bool true)/\w'=w:=by
 rcases h with rfl | ⟨g,rfl,hc⟩
 ·go_enter Tryz.func43,Tryz.ntmps43
  go_wp2
  go_ret
  exact⟨rfl,rfl⟩
 go_enter Tryz.func43,Tryz.ntmps43
 go_wp2
 go_ret
 exact⟨rfl,rfl⟩
theorem Q8R (w:zB) (p:Option zA) (h:NilV w p) :
 zF zG 24 #[.pointer p] w fun e w'=>e=.returned (.int .i64 0)/\zE w.heap.size w w':=by
 have HN:=sH (Q1o w p h);clear h;go_enter Tryz.func24,Tryz.ntmps24
 go_wp2_with fail
 refine HN.out.mono ?_;rintro _ w1 ⟨rfl,rfl⟩;go_wp2_with fail
 first | go_ret2 | go_ret
 exact⟨rfl,zJ _ _⟩
theorem Q8X (w:zB) (p:Option zA) (h:NilV w p) :
 zF zG 16 #[.pointer p] w fun e w'=>e=.returned (.int .i64 0)/\zE w.heap.size w w':=by
 have HN:=sH (Q1o w p h);clear h;go_enter Tryz.func16,Tryz.ntmps16
 go_wp2_with fail
 refine HN.out.mono ?_;rintro _ w1 ⟨rfl,rfl⟩;go_wp2_with fail
 first | go_ret2 | go_ret
 exact⟨rfl,zJ _ _⟩
theorem vNilTurn (w:zB) (p:Option zA) (h:NilV w p) :
 zF zG 22 #[.pointer p] w fun e w'=>e=.returned (.int .i64 1)/\zE w.heap.size w w':=by
 have HN:=sH (Q1o w p h);clear h;go_enter Tryz.func22,Tryz.ntmps22
 go_wp2_with fail
 refine HN.out.mono ?_;rintro _ w1 ⟨rfl,rfl⟩;go_wp2_with fail
 first | go_ret2 | go_ret
 exact⟨rfl,zJ _ _⟩
theorem Q8C (w:zB) (p:Option zA) (h:NilV w p) :
 zF zG 23 #[.pointer p] w fun e w'=>e=.returned (.slice none 0 0)/\zE w.heap.size w w':=by
 have HN:=sH (Q1o w p h);clear h;go_enter Tryz.func23,Tryz.ntmps23
 go_wp2_with fail
 refine HN.out.mono ?_;rintro _ w1 ⟨rfl,rfl⟩;go_wp2_with fail
 first | go_ret2 | go_ret
 exact⟨rfl,zJ _ _⟩
theorem Q8s (w:zB) (p:Option zA) (h:NilV w p) :
 zF zG 14 #[.pointer p] w fun e w'=>e=.returned (.slice none 0 0)/\zE w.heap.size w w':=by
 have HN:=sH (Q1o w p h);clear h;go_enter Tryz.func14,Tryz.ntmps14
 go_wp2_with fail
 refine HN.out.mono ?_;rintro _ w1 ⟨rfl,rfl⟩;go_wp2_with fail
 first | go_ret2 | go_ret
 exact⟨rfl,zJ _ _⟩
theorem Q91 (w:zB) (p:Option zA) (h:NilV w p) :
 zF zG 17 #[.pointer p] w fun e w'=>e=.returned (.tuple #[.slice none 0 0,.int .i64 1])/\zE w.heap.size w w':=by
 have HN:=sH (Q1o w p h);clear h;go_enter Tryz.func17,Tryz.ntmps17
 go_wp2_with fail
 refine HN.out.mono ?_;rintro _ w1 ⟨rfl,rfl⟩;go_wp2_with fail
 first | go_ret2 | go_ret
 exact⟨rfl,zJ _ _⟩
theorem vNilLook (w:zB) (p:Option zA) (z:Int) (h:NilV w p) :
 zF zG 9 #[.pointer p,.int .i64 z] w fun e w'=>e=.returned (.tuple #[.slice none 0 0,.int .i64 1])/\zE w.heap.size w w':=by
 have HN:=sH (Q1o w p h);clear h;go_enter Tryz.func9,Tryz.ntmps9
 go_wp2_with fail
 refine HN.out.mono ?_;rintro _ w1 ⟨rfl,rfl⟩;go_wp2_with fail
 first | go_ret2 | go_ret
 exact⟨rfl,zJ _ _⟩
theorem vkZ:anC 0 none 0 0 0 none 0 0=#[.int .i64 0,.slice none 0 0,.int .i64 0,.slice none 0 0]:=rfl
theorem vNilRoot (w:zB) (p:Option zA) (h:NilV w p) :
 zF zG 20 #[.pointer p] w fun e w'=>e=.returned (.tuple #[.agg inkZ,.int .i64 1])/\zE w.heap.size w w':=by
 have hX:=Q0a w (.cells inkZ 51);have hk0:Blk (w.alloc (.cells inkZ 51)) w.heap.size 51 inkZ:=Blk.newAt rfl;have HN:=sH (Q1o (w.alloc (.cells inkZ 51)) p (h.below hX));have HZ:=sH Q1O;have hzs:inkZ.size=32:=by simp [inkZ,bRow]
 have hz1:inkZ.all (·.oneCell')=true:=Q0I _;obtain⟨D,hD⟩:∃ D,D=inkZ:=⟨_,rfl⟩;have HDE:=sH hD;have HDS:=sH (show D.size=32 by rw [hD]; exact hzs);have HDO:=sH (show D.all (·.oneCell')=true by rw [hD]; exact hz1);have HZS:=sH hzs;have HX:=sH hX;have HK:=sH hk0;obtain⟨g,hg⟩:∃ g,g=w.heap.size:=⟨_,rfl⟩;clear h hX hk0 hD hzs hz1;go_enter Tryz.func20,Tryz.ntmps20
 go_upto_region 1 with fail
 rw [<- HZ.out];generalize zO w _=w1 at HN HX HK ⊢;rw [<- hg] at HK ⊢;have hgw:w.heap.size<=g:=by omega
 clear hg;go_wp2_with fail
 refine HN.out.mono ?_;rintro _ _ ⟨rfl,rfl⟩;go_wp2_with (refine Q00 (o:=⟨none,_,_,_,_,_⟩) rfl 51 (.tmp 2) (.tmp 6) rfl g 0 D rfl (by rw [HDE.out,HZ.out]; rfl) 51 inkZ HK.out (by rw [HDS.out]; rfl) (by rw [HDS.out,HZS.out]; omega) HDO.out ?_; intro w5 hT5 hD5; rw [Q0h _ _ (by rw [HDS.out,HZS.out])] at hD5)
 refine bodyPost_ret (Q07 rfl _ _ g 32 51 _ _ rfl hD5 Tryz.underlying51 rfl rfl HDS.out) rfl ⟨by rw [HDE.out]; rfl,?_⟩;exact hT5.below HX.out hgw
theorem vNilDo (w:zB) (p:Option zA) (ws:Array zC) (hz:ws.size=10) (h:NilV w p) :
 zF zG 8 #[.pointer p,.agg ws] w fun e w'=>e=.returned (.tuple #[.agg (anC 0 none 0 0 0 none 0 0),.int .i64 1])/\zE w.heap.size w w':=by
 have hX:zE w.heap.size w ((w.alloc (.cells ws 31)).alloc (.cells (anC 0 none 0 0 0 none 0 0) 34)):=((zJ _ _).alloc (zH _) _).alloc (by simp) _;have hk4:Blk ((w.alloc (.cells ws 31)).alloc (.cells (anC 0 none 0 0 0 none 0 0) 34)) (w.heap.size+1) 34 (anC 0 none 0 0 0 none 0 0):=Blk.newAt (by simp);have HN:=sH (Q1o ((w.alloc (.cells ws 31)).alloc (.cells (anC 0 none 0 0 0 none 0 0) 34)) p (h.below hX));have HX:=sH hX;have HK:=sH hk4;obtain⟨g,hg⟩:∃ g,g=w.heap.size+1:=⟨_,rfl⟩;clear h hX hk4;go_enter Tryz.func8,Tryz.ntmps8
 go_upto_region 1 with fail
 rw [<- vkZ];generalize zO (zO w _) _=w1 at HN HX HK ⊢;rw [<- hg] at HK ⊢;have hgw:w.heap.size<=g:=by omega
 clear hg;go_wp2_with fail
 refine HN.out.mono ?_;rintro _ _ ⟨rfl,rfl⟩;go_wp2_with (refine Q00 (o:=⟨none,_,_,_,_,_⟩) rfl 34 (.tmp 4) (.tmp 14) rfl g 0 (anC 0 none 0 0 0 none 0 0) rfl rfl 34 (anC 0 none 0 0 0 none 0 0) HK.out (by kernel_rfl) (by simp [anC]) (by simp [anC,Value.oneCell']) ?_; intro w5 hT5 hD5; rw [Q0h _ _ rfl] at hD5)
 refine bodyPost_ret (Q07 rfl _ _ g 4 34 _ _ rfl hD5 Tryz.underlying34 rfl rfl rfl) rfl ⟨rfl,?_⟩;exact hT5.below HX.out hgw
theorem Q9v (w:zB) (p:Option zA) (ws:Array zC) (hz:ws.size=10) (h:NilV w p) :
 zF zG 21 #[.pointer p,.agg ws] w fun e w'=>e=.returned (.tuple #[.agg (anC 0 none 0 0 0 none 0 0),.bool false])/\zE w.heap.size w w':=by
 have hX:zE w.heap.size w ((w.alloc (.cells ws 31)).alloc (.cells (anC 0 none 0 0 0 none 0 0) 34)):=((zJ _ _).alloc (zH _) _).alloc (by simp) _;have hk4:Blk ((w.alloc (.cells ws 31)).alloc (.cells (anC 0 none 0 0 0 none 0 0) 34)) (w.heap.size+1) 34 (anC 0 none 0 0 0 none 0 0):=Blk.newAt (by simp);have HN:=sH (Q1o ((w.alloc (.cells ws 31)).alloc (.cells (anC 0 none 0 0 0 none 0 0) 34)) p (h.below hX));have HNA:=sH (fun(W:zB) (hb:zE w.heap.size w W)=>Q1o W p (h.below hb));have HX:=sH hX;have HK:=sH hk4;obtain⟨g,hg⟩:∃ g,g=w.heap.size+1:=⟨_,rfl⟩;clear h hX hk4;go_enter Tryz.func21,Tryz.ntmps21
 go_upto_region 1 with fail
 rw [<- vkZ];generalize zO (zO w _) _=w1 at HN HX HK ⊢;rw [<- hg] at HK ⊢;have hgw:w.heap.size<=g:=by omega
 clear hg;have HN2:=sH (fun(W:zB) (hb:zE w1.heap.size w1 W)=>(show zF zG 43 #[.pointer p] W fun e w'=>e=.returned (.bool true)/\zE W.heap.size W w' from(HNA.out W (HX.out.trans (hb.mono HX.out.size))).mono fun e w' ⟨h1,h2⟩=>⟨h1,by rw [h2]; exact zJ _ _⟩));have hg4:=HK.out.lt;refine Q0f 20 33 (by kernel_rfl) (by kernel_rfl) (by kernel_rfl) (by simp) ?_;simp only [tT,tU];refine tD (.pointer p) ?_;try simp only [zM,sA]
 refine Q1g rfl rfl 43 #[.pointer p] (fun W=>by go_simp) (.bool true) (fun W hb=>HN2.out W hb) ?_;try simp only [zM,sA]
 refine tD (.bool true) ?_;try simp only [zM,sA]
 refine Q0j rfl rfl ?_;try simp only [zM,sA]
 refine Q0j rfl rfl ?_;try simp only [zM,sA]
 refine Q0j rfl rfl ?_;try simp only [zM,sA]
 refine tD (.bool true) ?_;try simp only [zM,sA]
 refine tD (.bool true) ?_;try simp only [zM,sA]
 refine Q0j rfl rfl ?_;try simp only [zM,sA]
 refine Q0j rfl rfl ?_;try simp only [zM,sA]
 refine Q0j rfl rfl ?_;try simp only [zM,sA]
 refine Q0j rfl rfl ?_;try simp only [zM,sA]
 refine Q0j rfl rfl ?_;try simp only [zM,sA]
 refine Q0j rfl rfl ?_;try simp only [zM,sA]
 refine Q0j rfl rfl ?_;try simp only [zM,sA]
 refine tD (.bool true) ?_;try simp only [zM,sA]
 refine tD (.bool true) ?_;try simp only [zM,sA]
 refine Q0j rfl rfl ?_;try simp only [zM,sA]
 refine Q0j rfl rfl ?_;try simp only [zM,sA]
 refine Q0j rfl rfl ?_;try simp only [zM,sA]
 refine Q0A ?_;intro w2 hb2;have HK2:=sH (HK.out.below' hb2);have HX2:=sH (HX.out.trans (hb2.mono HX.out.size));have hs2:=hb2.size;clear hb2 HN HNA HN2;go_wp2_with (refine Q00 (o:=⟨none,_,_,_,_,_⟩) rfl 34 (.tmp 4) (.tmp 27) rfl g 0 (anC 0 none 0 0 0 none 0 0) rfl rfl 34 (anC 0 none 0 0 0 none 0 0) HK2.out (by kernel_rfl) (by simp [anC]) (by simp [anC,Value.oneCell']) ?_; intro w5 hT5 hD5; rw [Q0h _ _ rfl] at hD5)
 refine bodyPost_ret (Q07 rfl _ _ g 4 34 _ _ rfl hD5 Tryz.underlying34 rfl rfl rfl) rfl ⟨rfl,?_⟩;exact hT5.below HX2.out hgw
theorem Q6Z (w:zB) (k:Option zA) (z:Int) (hz:z<1\/2<z) :
 zF zG 6 #[.pointer k,.int .i64 z] w fun e w'=>e=.returned (.tuple #[.pointer none,.int .i64 2])/\zE w.heap.size w w':=by
 by_cases h1:z<1
 ·go_enter Tryz.func6,Tryz.ntmps6
  go_wp2_with fail
  go_ret2
  exact⟨rfl,zJ _ _⟩
 have h2:2<z:=by omega
 clear hz;go_enter Tryz.func6,Tryz.ntmps6
 go_wp2_with fail
 go_ret2
 exact⟨rfl,zJ _ _⟩
theorem Q7z (w:zB) (V:VLoc) (N:Nat->Prop) (m:VM) (h:VAt w V N m) (z:Int) (hz:z<0\/8<=z) :
 zF zG 9 #[.pointer (some ⟨V.g,0,none⟩),.int .i64 z] w fun e w'=>e=.returned (.tuple #[.slice none 0 0,.int .i64 170])/\zE w.heap.size w w':=by
 have HN:=sH (Q1C w V.g V.T.t h.none_);clear h;by_cases h1:z<0
 ·go_enter Tryz.func9,Tryz.ntmps9
  go_wp2_with fail
  refine HN.out.mono ?_;rintro _ w1 ⟨rfl,rfl⟩;go_wp2_with fail
  go_ret2
  exact⟨rfl,zJ _ _⟩
 have h2:8<=z:=by omega
 clear hz;go_enter Tryz.func9,Tryz.ntmps9
 go_wp2_with fail
 refine HN.out.mono ?_;rintro _ w1 ⟨rfl,rfl⟩;go_wp2_with fail
 go_ret2
 exact⟨rfl,zJ _ _⟩
end
end Go.Proofs.YtckjnbjiafgibaaGreat
