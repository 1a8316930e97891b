/- Parts of the proof, in one text: RefNum, RefTake, RaI, AtM, AtN, CrA, CrB, CrC. -/
import Derived.Test.YtcpngeiahgoacaaGreatD5
import Derived.Test.YtcpngeiahgoacaaGreatD8
import Derived.Lib.SliceRun
namespace Go.Proofs.YtcpngeiahgoacaaGreat
set_option linter.unusedVariables false
set_option linter.unusedSimpArgs false
set_option maxRecDepth 100000
set_option maxHeartbeats 16000000
section
open Go.RowKit
theorem Qb5 (w:World) (b:UInt8):OwnB (w.alloc (.cells #[vb b] 5)) w.heap.size (.slice (some ⟨w.heap.size,0,none⟩) 1 1) [b] :=
 ⟨rfl,.inr ⟨w.heap.size,1,_,rfl,Nat.le_refl _,heap_alloc_new w _,Nat.le_refl _,by unfold maxLen; omega,rfl,rfl⟩⟩
theorem Q8D (n:Nat) (hn:n<=maxN) (w:World) :
 Calls Tryz.prog 175 #[.int .i64 (n:Int)] w fun e w'=>∃ v,e=.returned v/\OwnB w' w.heap.size v (digs n (nd n))/\Below w.heap.size w w':=by
 have h7:=Q9p hn;have hdl:=Q6d n (nd n);obtain⟨ds,hds⟩:∃ ds,ds=digs n (nd n):=⟨_,rfl⟩;rw [<- hds] at hdl ⊢;have HDS:=Lib.hid hds;unfold maxN at hn;clear hds;obtain⟨i0,hi0,hz0,hz1,hz2⟩:=info_parts Q1O;go_enter Tryz.func175,Tryz.ntmps175
 go_wp2_with fail
 go_loopw [0,3] (fun nv ov wr=>∃ (m:Nat) (out:List UInt8),nv=.int .i64 m/\m<=n/\OwnB wr w.heap.size ov out/\ds=digs m (nd m)++out/\Below w.heap.size w wr) (fun nv _ _=>(intOf nv).toNat)
 case atStart=>exact⟨n,[],rfl,Nat.le_refl _,OwnB.nil _ _,by rw [List.append_nil]; exact HDS.out,Below.refl _ _⟩
 case round =>
  obtain⟨m,out,rfl,hm,hov,hd,hbel⟩:=hrel;have HB:=Lib.hid hbel;have hsz:=hbel.size;have hol:out.length<=7:=by have:=congrArg List.length hd; rw [List.length_append] at this; omega
  by_cases h0:m=0
  ·subst h0;have hd':ds=out:=by rw [hd,Qcx]; rfl
   have HO:=Lib.hid (hd'▸hov);clear hd hd' hov hbel;go_wp2_with fail
   go_ret
   exact⟨_,rfl,HO.out,HB.out⟩
  ·have hd':ds=digs (m / 256) (nd (m / 256))++(UInt8.ofNat (m % 256) :: out):=by rw [hd,nd_pos h0,Qcl,List.append_assoc]; rfl
   have HD':=Lib.hid hd';obtain⟨Ao,co,rfl,hoc,hom,hor,hoB⟩:=Q0p hov;have hb0:vb (UInt8.ofNat (m % 256))=.int .u8 ((m:Int) % 256):=by unfold vb bi; rw [UInt8.toNat_ofNat']; congr 1; omega
   have hX:Below wr.heap.size wr (wr.alloc (.cells #[vb (UInt8.ofNat (m % 256))] 5)):=(Below.refl _ _).alloc (Nat.le_refl _) _;have hown:=Qb5 wr (UInt8.ofNat (m % 256));have hrr:=hor.below hX;rw [hb0] at hX hown hrr;have HX:=Lib.hid hX;have HOW:=Lib.hid hown.row;have HRR:=Lib.hid hrr;have HB0:=Lib.hid hb0;have hpm:0<(m:Int):=by omega
   clear hd hd' hov hbel hor hX hown hrr hb0;go_wp2_with (at_builtin; go_must (refine Q06 _ rfl (.tmp 9) (.tmp 10) 22 rfl wr.heap.size 5 i0 _ 1 1 Tryz.underlying22 hi0 hz0 hz1 hz2 rfl (by omega) _ _ _ rfl HOW.out wr.heap.size Ao out.length co (out.map vb) rfl HRR.out ?c1 ?c2 ?c3 ?c4 ?_))
   case c1=>intro u hu; obtain⟨y,_,rfl⟩:=List.mem_map.1 hu; rfl
   case c2=>unfold maxLen; simp; omega
   case c3=>simp; omega
   case c4=>simp
   intro v3 w3 hown3 hg3 hor3;have HB3:=Lib.hid (Q0k (HB.out.trans (HX.out.mono hsz)) (by simp; omega) hg3 (fun b hb=>by simp [Value.ownBlock] at hb; omega));have ho3:OwnB w3 wr.heap.size v3 (UInt8.ofNat (m % 256) :: out):=by
    unfold OwnB;rw [List.length_cons,List.map_cons,HB0.out,show out.length+1=1+out.length by omega];have:=hown3;rw [HB0.out] at this;exact this
   have HO3:=Lib.hid (ho3.more hsz);clear hown3 hg3 hor3 ho3;go_wp2_with fail
   go_roundw
   case rel=>exact⟨m / 256,_,by go_num,by omega,HO3.out,HD'.out,HB3.out⟩
   case measure=>simp [intOf]; omega
theorem Q7I (n:Nat) (hn:n<=maxN) (w:World) :
 Calls Tryz.prog 153 #[.int .i64 (n:Int)] w fun e w'=>∃ v,e=.returned (.tuple #[v,.int .i64 0])/\OwnB w' w.heap.size v (numB n)/\Below w.heap.size w w':=by
 have h7:=Q9p hn;have HD:=Lib.hid (fun W=>Q8D n hn W);have HNB:=Lib.hid (show numB n=UInt8.ofNat (nd n) :: digs n (nd n) from rfl);have hb0:vb (UInt8.ofNat (nd n))=.int .u8 (nd n:Int):=by unfold vb bi; rw [Qcw hn]
 have HB0:=Lib.hid hb0;have HDL:=Lib.hid (Q6d n (nd n));unfold maxN at hn;clear hb0;obtain⟨i0,hi0,hz0,hz1,hz2⟩:=info_parts Q1O;generalize digs n (nd n)=ds at HD HNB HDL;generalize numB n=nb at HNB ⊢;obtain⟨k,hk⟩:∃ k,k=nd n:=⟨_,rfl⟩;rw [<- hk] at h7 HB0 HDL HNB;clear hk;go_enter Tryz.func153,Tryz.ntmps153
 go_wp2_with fail
 refine(HD.out w).mono ?_;rintro _ w2 ⟨v,rfl,ho,hb⟩;obtain⟨Ao,co,rfl,hoc,hom,hor,hoB⟩:=Q0p ho;rw [HDL.out] at hoc hor ⊢;have HB2:=Lib.hid hb;have hsz:=hb.size;have hX:Below w2.heap.size w2 (w2.alloc (.cells #[vb (UInt8.ofNat k)] 5)):=(Below.refl _ _).alloc (Nat.le_refl _) _;have hown:=Qb5 w2 (UInt8.ofNat k);have hrr:=hor.below hX;rw [HB0.out] at hX hown hrr;have HX:=Lib.hid hX;have HOW:=Lib.hid hown.row;have HRR:=Lib.hid hrr;clear ho hb hor hX hown hrr;go_wp2_with (at_builtin; go_must (refine Q06 _ rfl (.tmp 16) (.tmp 17) 22 rfl w2.heap.size 5 i0 _ 1 1 Tryz.underlying22 hi0 hz0 hz1 hz2 rfl (by omega) _ _ _ rfl HOW.out w2.heap.size Ao k co (ds.map vb) rfl HRR.out ?c1 ?c2 ?c3 ?c4 ?_))
 case c1=>intro u hu; obtain⟨y,_,rfl⟩:=List.mem_map.1 hu; rfl
 case c2=>unfold maxLen; simp; omega
 case c3=>simp; omega
 case c4=>simp
 intro v3 w3 hown3 hg3 hor3;have HB3:=Lib.hid (Q0k (HB2.out.trans (HX.out.mono hsz)) (by simp; omega) hg3 (fun b hb=>by simp [Value.ownBlock] at hb; omega));have ho3:OwnB w3 w2.heap.size v3 nb:=by
  rw [HNB.out];unfold OwnB;rw [List.length_cons,HDL.out,List.map_cons,HB0.out,show k+1=1+k by omega];have:=hown3;rw [HB0.out] at this;exact this
 have HO3:=Lib.hid (ho3.more hsz);clear hown3 hg3 hor3 ho3;go_wp2_with fail
 go_ret2
 exact⟨_,rfl,HO3.out,HB3.out⟩
theorem Qbz (A:Option Addr) (n c:Nat) (xs:List UInt8) (w:World) (B:Nat) (h:Q0d w B 1 A n (xs.map vb)) (hB:B<=w.heap.size) (hn:n<=65536) :
 Calls Tryz.prog 121 #[.slice A n c] w fun e w'=>∃ v,e=.returned (.tuple #[v,.int .i64 0])/\OwnB w' w.heap.size v (strB xs)/\Below w.heap.size w w':=by
 have hxn:xs.length=n:=by have:=h.1; simpa using this
 have HXN:=Lib.hid hxn;have H:=Lib.hid h;have HSB:=Lib.hid (show strB xs=numB n++xs by unfold strB; rw [hxn]);have HNL:=Lib.hid (Q2N (n:=n) (by unfold maxN; omega));have HNM:=Lib.hid (fun W=>Q7I n (by unfold maxN; omega) W);clear hxn h;obtain⟨i0,hi0,hz0,hz1,hz2⟩:=info_parts Q1O;generalize numB n=nb at HSB HNL HNM;generalize strB xs=sb at HSB ⊢;go_enter Tryz.func121,Tryz.ntmps121
 go_wp2_with fail
 refine(HNM.out w).mono ?_;rintro _ w2 ⟨v,rfl,ho,hb⟩;have HB2:=Lib.hid hb;have hsz:=hb.size;have HOW:=Lib.hid ho.row;have hge:=fun b (hb:v.ownBlock=some b)=>ho.ge hb
 have HGE:=Lib.hid hge;have HRR:=Lib.hid (H.out.below (hb.mono hB));have hnl:=HNL.out.2;clear ho hb hge;go_wp2_with (at_builtin; go_must (refine Q06 _ rfl (.tmp 15) (.tmp 16) 22 rfl w.heap.size 5 i0 _ 1 1 Tryz.underlying22 hi0 hz0 hz1 hz2 rfl (by omega) _ _ _ rfl HOW.out B A n c (xs.map vb) rfl HRR.out ?c1 ?c2 ?c3 ?c4 ?_))
 case c1=>intro u hu; obtain⟨y,_,rfl⟩:=List.mem_map.1 hu; rfl
 case c2=>unfold maxLen; omega
 case c3=>omega
 case c4=>omega
 intro v3 w3 hown3 hg3 hor3;have HB3:=Lib.hid (Q0k HB2.out (by omega) hg3 (fun b hb=>HGE.out b hb));have HO3:=Lib.hid (show OwnB w3 w.heap.size v3 sb by
  rw [HSB.out];unfold OwnB;rw [List.length_append,List.map_append,HXN.out];exact hown3)
 clear hown3 hg3 hor3;go_wp2_with fail
 go_ret2
 exact⟨_,rfl,HO3.out,HB3.out⟩
end
section
def insL (z:Int):List Int->List Int
 | []=>[z]
 | x :: t=>if z<x then z :: x :: t else x :: insL z t
def Q24 (l:List Int) (o:Int):List Int:=l.filter (fun x=>!decide (x=o))
def Q1N (l:List Int) (o n:Int):List Int:=insL n (Q24 l o)
def nowL (l:List Int):List (Int×Int)->List Int
 | []=>l
 | m :: t=>nowL (Q1N l m.1 m.2) t
def Q0U (l:List Int):List (Int×Int)->List (List Int)
 | []=>[l]
 | m :: t=>l :: Q0U (Q1N l m.1 m.2) t
structure OkC (f:Nat) (l:List Int):Prop where
 faults:f<=2
 len:l.length=3*f+1
 up:Q1c 0 l=true
theorem Q3C:∀ (l:List Int) (a:Int),Q1c a l=true->l.Pairwise (· < ·)/\∀ x,x∈l->a<x/\x<=28
 | [],_,_=>⟨List.Pairwise.nil,fun x hx=>by cases hx⟩
 | y :: t,a,h=>by
  unfold Q1c at h;rw [Bool.and_eq_true] at h;have h1:=of_decide_eq_true h.1;have h2:=Q3C t y h.2;refine⟨List.Pairwise.cons (fun x hx=>(h2.2 x hx).1) h2.1,fun x hx=>?_⟩;rcases List.mem_cons.1 hx with rfl | hx
  ·exact h1
  ·have:=h2.2 x hx; omega
theorem Q7U:∀ (l:List Int) (a:Int),l.Pairwise (· < ·)->(∀ x,x∈l->a<x/\x<=28)->Q1c a l=true
 | [],_,_,_=>rfl
 | y :: t,a,h,hb=>by
  have hp:=List.pairwise_cons.1 h;have h1:=hb y (List.mem_cons_self ..);unfold Q1c;rw [decide_eq_true ⟨h1.1,h1.2⟩,Bool.true_and];exact Q7U t y hp.2 fun x hx=>⟨hp.1 x hx,(hb x (List.mem_cons_of_mem _ hx)).2⟩
theorem OkC.pair {f:Nat} {l:List Int} (h:OkC f l):l.Pairwise (· < ·):=(Q3C l 0 h.up).1
theorem OkC.bound {f:Nat} {l:List Int} (h:OkC f l) {x:Int} (hx:x∈l):0<x/\x<=28:=(Q3C l 0 h.up).2 x hx
theorem OkC.short {f:Nat} {l:List Int} (h:OkC f l):1<=l.length/\l.length<=7:=by have:=h.faults; have:=h.len; omega
theorem OkC.crew {f:Nat} {l:List Int} (h:OkC f l):Q2M l=true:=by
 unfold Q2M;rw [h.up,Bool.and_true];have:=h.short;have:=h.len;exact decide_eq_true ⟨by omega,by omega⟩
theorem QcX (z:Int):∀ (a b:List Int),(∀ x,x∈a->¬ z<x)->(∀ x,b.head?=some x->z<x)->insL z (a++b)=a++z :: b
 | [],[],_,_=>rfl
 | [],x :: t,_,hb=>by
  show (if z<x then z :: x :: t else x :: insL z t)=z :: x :: t;rw [if_pos (hb x rfl)]
 | x :: a,b,ha,hb=>by
  show (if z<x then z :: x :: (a++b) else x :: insL z (a++b))=x :: (a++z :: b);rw [if_neg (ha x (List.mem_cons_self ..)),QcX z a b (fun y hy=>ha y (List.mem_cons_of_mem _ hy)) hb]
theorem Q53 (z x:Int):∀ (l:List Int),x∈insL z l <-> x=z\/x∈l
 | []=>by simp [insL]
 | y :: t=>by
  unfold insL;split
  ·simp
  ·simp only [List.mem_cons];rw [Q53 z x t];constructor
   ·rintro (h | h | h)
    ·exact .inr (.inl h)
    ·exact .inl h
    ·exact .inr (.inr h)
   ·rintro (h | h | h)
    ·exact .inr (.inl h)
    ·exact .inl h
    ·exact .inr (.inr h)
theorem Q3U (z:Int):∀ (l:List Int),(insL z l).length=l.length+1
 | []=>rfl
 | y :: t=>by
  unfold insL;split
  ·rfl
  ·simp [Q3U z t]
theorem Q9x (z:Int):∀ (l:List Int),l.Pairwise (· < ·)->¬ z∈l->(insL z l).Pairwise (· < ·)
 | [],_,_=>by simp [insL]
 | y :: t,h,hz=>by
  have hp:=List.pairwise_cons.1 h;unfold insL;split
  ·rename_i hlt;refine List.Pairwise.cons (fun x hx=>?_) h;rcases List.mem_cons.1 hx with rfl | hx
   ·exact hlt
   ·have:=hp.1 x hx; omega
  ·rename_i hlt;have hne:z≠y:=fun e=>hz (by rw [e]; exact List.mem_cons_self ..)
   refine List.Pairwise.cons (fun x hx=>?_) (Q9x z t hp.2 fun hm=>hz (List.mem_cons_of_mem _ hm));rcases(Q53 z x t).1 hx with rfl | hx
   ·omega
   ·exact hp.1 x hx
theorem Q43 {l:List Int} {o x:Int}:x∈Q24 l o <-> x∈l/\x≠o:=by
 unfold Q24;rw [List.mem_filter]
 simp
theorem Q7t {l:List Int} (o:Int) (h:l.Pairwise (· < ·)):(Q24 l o).Pairwise (· < ·):=h.filter _
theorem Q5o:∀ (l:List Int) (o:Int),l.Pairwise (· < ·)->o∈l->(Q24 l o).length+1=l.length
 | [],_,_,h=>by cases h
 | y :: t,o,h,hm=>by
  have hp:=List.pairwise_cons.1 h;unfold Q24;by_cases hy:y=o
  ·rw [List.filter_cons_of_neg (by simp [hy])];have:t.filter (fun x=>!decide (x=o))=t:=List.filter_eq_self.2 fun x hx=>by
    have:=hp.1 x hx
    simp
    omega
   rw [this]; rfl
  ·rw [List.filter_cons_of_pos (by simp [hy])];have:=Q5o t o hp.2 (by
    rcases List.mem_cons.1 hm with e | e
    ·exact absurd e.symm hy
    ·exact e)
   unfold Q24 at this;simp only [List.length_cons];omega
theorem OkC.repl {f:Nat} {l:List Int} (h:OkC f l) {o n:Int} (ho:o∈l) (hn:¬ n∈l) (h1:1<=n) (h2:n<=28):OkC f (Q1N l o n):=by
 have hl:=Q5o l o h.pair ho;have hnd:¬ n∈Q24 l o:=fun hm=>hn (Q43.1 hm).1
 refine⟨h.faults,by unfold Q1N; rw [Q3U]; have:=h.len; omega,Q7U _ 0 (Q9x n _ (Q7t o h.pair) hnd) fun x hx=>?_⟩;rcases(Q53 n x _).1 hx with rfl | hx
 ·omega
 ·exact h.bound (Q43.1 hx).1
theorem Q8Z {l:List Int} {o n x:Int}:x∈Q1N l o n <-> x=n\/(x∈l/\x≠o):=by
 unfold Q1N;rw [Q53,Q43]
theorem Q3O:∀ (l:List Int) (a:List (Int×Int)) (o n:Int),nowL l (a++[(o,n)])=Q1N (nowL l a) o n
 | _,[],_,_=>rfl
 | l,m :: t,o,n=>Q3O (Q1N l m.1 m.2) t o n
theorem Q3L:∀ (l:List Int) (a:List (Int×Int)) (o n:Int),Q0U l (a++[(o,n)])=Q0U l a++[Q1N (nowL l a) o n]
 | _,[],_,_=>rfl
 | l,m :: t,o,n=>by
  show l :: Q0U _ (t++[(o,n)])=l :: (Q0U _ t++[_]);rw [Q3L];rfl
theorem Q1r:∀ (l:List Int) (a:List (Int×Int)),(Q0U l a).length=a.length+1
 | _,[]=>rfl
 | l,m :: t=>by
  show (Q0U (Q1N l m.1 m.2) t).length+1=_;rw [Q1r];rfl
theorem Q4j:∀ (l:List Int) (a:List (Int×Int)) (i:Nat),i<=a.length->(Q0U l a)[i]?=some (nowL l (a.take i))
 | _,[],i,h=>by
  obtain rfl:i=0:=by simpa using h
  rfl
 | l,m :: t,0,_=>rfl
 | l,m :: t,i+1,h=>by
  show (Q0U (Q1N l m.1 m.2) t)[i]?=some (nowL (Q1N l m.1 m.2) (t.take i));exact Q4j _ t i (by simpa using h)
def Q1d (l:List Int):List (Int×Int)->Prop
 | []=>True
 | m :: t=>m.1∈l/\¬ m.2∈l/\1<=m.2/\m.2<=28/\Q1d (Q1N l m.1 m.2) t
theorem Q1d.now {f:Nat}:∀ {l:List Int} {a:List (Int×Int)},OkC f l->Q1d l a->OkC f (nowL l a)
 | _,[],h,_=>h
 | l,m :: t,h,hm=>Q1d.now (l:=Q1N l m.1 m.2) (a:=t) (h.repl hm.1 hm.2.1 hm.2.2.1 hm.2.2.2.1) hm.2.2.2.2
theorem Q1d.take:∀ {l:List Int} {a:List (Int×Int)} (i:Nat),Q1d l a->Q1d l (a.take i)
 | _,[],i,_=>by simp [Q1d]
 | _,_ :: _,0,_=>trivial
 | _,m :: t,i+1,h=>⟨h.1,h.2.1,h.2.2.1,h.2.2.2.1,Q1d.take i h.2.2.2.2⟩
theorem Q1d.app:∀ {l:List Int} {a:List (Int×Int)} {o n:Int},Q1d l a->o∈nowL l a->¬ n∈nowL l a->1<=n->n<=28->Q1d l (a++[(o,n)])
 | _,[],_,_,_,h1,h2,h3,h4=>⟨h1,h2,h3,h4,trivial⟩
 | _,m :: t,_,_,h,h1,h2,h3,h4=>⟨h.1,h.2.1,h.2.2.1,h.2.2.2.1,Q1d.app h.2.2.2.2 h1 h2 h3 h4⟩
theorem Q1d.mem_old:∀ {l:List Int} {a:List (Int×Int)} {f:Nat},OkC f l->Q1d l a->∀ m,m∈a->1<=m.1/\m.1<=28/\1<=m.2/\m.2<=28
 | _,[],_,_,_,_,hm=>by cases hm
 | _,m :: t,f,hc,h,x,hx=>by
  rcases List.mem_cons.1 hx with rfl | hx
  ·have:=hc.bound h.1;exact⟨by omega,by omega,h.2.2.1,h.2.2.2.1⟩
  ·exact Q1d.mem_old (hc.repl h.1 h.2.1 h.2.2.1 h.2.2.2.1) h.2.2.2.2 x hx
theorem Qb0:∀ {l:List Int} {a:List (Int×Int)} {x:Int},x∈nowL l a->x∈l\/∃ m,m∈a/\m.2=x
 | _,[],_,h=>.inl h
 | l,m :: t,x,h=>by
  rcases Qb0 (l:=Q1N l m.1 m.2) (a:=t) h with h | ⟨q,h1,h2⟩
  ·rcases Q8Z.1 h with h | h
   ·exact .inr ⟨m,List.mem_cons_self ..,h.symm⟩
   ·exact .inl h.1
  ·exact .inr ⟨q,List.mem_cons_of_mem _ h1,h2⟩
structure Srv where
 f:Nat
 first:List Int
 moves:List (Int×Int)
structure AM where
 chunks:List Srv
 last:List (Nat×Ans)
def Srv.now (s:Srv):List Int:=nowL s.first s.moves
def Q2B (s:Srv) (z:Int):Bool:=decide (z∈s.first) || s.moves.any (fun m=>decide (m.2=z))
def Q18 (cs:List Srv) (f:Nat) (z:Int):Bool:=decide (z<=3*(f:Int)+1) || cs.any (fun s=>Q2B s z)
structure SOk (s:Srv):Prop where
 crew:OkC s.f s.first
 len:s.moves.length<=21
 mv:Q1d s.first s.moves
structure Qau (a:Ans):Prop where
 err:a.err=0\/a.err=5\/a.err=180
 data:a.data=[]
 epoch:a.epoch<=21
 nodes:a.nodes=[]\/Q2M a.nodes=true
def Q1u (s:Srv):List Int:=s.first++s.moves.map (·.2)
def Q2k (cs:List Srv):List Int:=(cs.map Q1u).flatten
structure AOk (m:AM):Prop where
 one:1<=m.chunks.length/\m.chunks.length<=2
 srv:∀ s,s∈m.chunks->SOk s
 same:∃ f,∀ s,s∈m.chunks->s.f=f
 apart:(Q2k m.chunks).Nodup
 high:∀ s,s∈m.chunks->∀ x,x∈Q1u s->3*(s.f:Int)+1<x
 last:m.last.length=4
 ans:∀ x,x∈m.last->x.1<=maxN/\Qau x.2/\(x.1=0->x.2=okA)
def Q0u (m:AM) (i:Nat):Nat×Ans:=m.last.getD i (0,okA)
def Q1h:List (Int×Int)->List Int
 | []=>[]
 | m :: t=>m.1 :: m.2 :: Q1h t
def Q31 (s:Srv):List Int:=(((s.moves.length+1:Nat):Int) :: (s.f:Int) :: s.first)++Q1h s.moves
def Q7l (x:Nat×Ans):List Int:=[(x.1:Int),(x.2.err:Int),(x.2.epoch:Int),(x.2.nodes.length:Int)]++x.2.nodes
def Q5l (m:AM) (i:Nat):List Int:=if i<2 then(match m.chunks[i]? with | some s=>Q31 s | none=>[0]) else Q7l (Q0u m (i - 2))
def Q1w (m:AM) (i:Nat):List UInt8:=Q0M (Q5l m i)
def Q0g (m:AM):List (List UInt8):=(List.range 6).map (Q1w m)
theorem Q0B (m:AM):(Q0g m).length=6:=by simp [Q0g]
theorem Q1P (m:AM) (i:Nat) (h:i<6):(Q0g m)[i]?=some (Q1w m i):=by
 unfold Q0g;rw [List.getElem?_map,List.getElem?_range h]; rfl
def inQ (x:Wish):Bool:=mayB x && decide (x.kind=3\/x.kind=4)
def oldQ (m:AM) (x:Wish):Ans×Bool :=
 let y:=Q0u m (x.client - 31).toNat
 if x.stamp<(y.1:Int) then(errA 172 0,true) else if (y.1:Int)<x.stamp then(okA,false) else(y.2,true)
def Q41 (s:Srv) (o n:Int):Srv:=⟨s.f,s.first,s.moves++[(o,n)]⟩
def Q0s (m:AM) (x:Wish):AM×Ans :=
 match m.chunks[(x.block - 1).toNat]? with
 | none=>(m,errA 180 0)
 | some s =>
  if x.kind=3 then(m,⟨0,[],s.moves.length,s.now⟩)
  else if x.client≠34 then(m,errA 180 0)
  else if ¬ x.old∈s.now\/Q18 m.chunks s.f x.new=true then(m,errA 180 s.moves.length)
  else if s.moves.length+1=22 then(m,errA 5 0)
  else(⟨m.chunks.set (x.block - 1).toNat (Q41 s x.old x.new),m.last⟩,errA 0 (s.moves.length+1))
def didQ (m:AM) (x:Wish):AM :=
 if ((Q0u m (x.client - 31).toNat).1:Int)<x.stamp then⟨(Q0s m x).1.chunks,(Q0s m x).1.last.set (x.client - 31).toNat (x.stamp.toNat,(Q0s m x).2)⟩ else m
def doQ (m:AM) (x:Wish):AM×Ans×Nat:=if inQ x=true then(didQ m x,(oldQ (didQ m x) x).1,0) else(m,okA,2)
def Q1y (m:AM) (x:Wish):Ans×Bool:=if inQ x=true then oldQ m x else(okA,false)
theorem SOk.now_ok {s:Srv} (h:SOk s):OkC s.f s.now:=h.mv.now h.crew
theorem Q3y:∀ l:List (Int×Int),(Q1h l).length=2*l.length
 | []=>rfl
 | m :: t=>by
  show (Q1h t).length+2=_;rw [Q3y t];simp only [List.length_cons];omega
theorem Q3V:∀ (a b:List (Int×Int)),Q1h (a++b)=Q1h a++Q1h b
 | [],_=>rfl
 | m :: t,b=>by
  show m.1 :: m.2 :: Q1h (t++b)=m.1 :: m.2 :: (Q1h t++Q1h b);rw [Q3V t b]
theorem Q5w:∀ {l:List (Int×Int)} {x:Int},x∈Q1h l->∃ m,m∈l/\(x=m.1\/x=m.2)
 | [],_,h=>by cases h
 | m :: t,x,h=>by
  rcases List.mem_cons.1 h with h | h
  ·exact⟨m,List.mem_cons_self ..,.inl h⟩
  ·rcases List.mem_cons.1 h with h | h
   ·exact⟨m,List.mem_cons_self ..,.inr h⟩
   ·obtain⟨q,h1,h2⟩:=Q5w h;exact⟨q,List.mem_cons_of_mem _ h1,h2⟩
theorem Q4k {z:Int} (h1:0<=z) (h2:z<=255):NumI z:=by unfold NumI; omega
theorem numB_two {n:Nat} (h:n<256):(numB n).length<=2:=by
 have:∀ n:Fin 256,(numB n.1).length<=2:=by decide +kernel
 exact this ⟨n,h⟩
theorem Q4u:∀ (l:List Int),(∀ z,z∈l->0<=z/\z<=255)->(Q0M l).length<=2*l.length
 | [],_=>by simp [Q0M]
 | z :: t,h=>by
  have h1:=h z (List.mem_cons_self ..);have h2:=Q4u t fun x hx=>h x (List.mem_cons_of_mem _ hx)
  have h3:=numB_two (n:=z.toNat) (by omega);show (numB z.toNat++Q0M t).length<=_;rw [List.length_append,List.length_cons];omega
theorem SOk.chunk {s:Srv} (h:SOk s):∀ z,z∈Q31 s->0<=z/\z<=255:=by
 intro z hz;have hl:=h.len;have hf:=h.crew.faults;unfold Q31 at hz;rcases List.mem_append.1 hz with hz | hz
 ·rcases List.mem_cons.1 hz with rfl | hz
  ·omega
  ·rcases List.mem_cons.1 hz with rfl | hz
   ·omega
   ·have:=h.crew.bound hz; omega
 ·obtain⟨m,h1,h2⟩:=Q5w hz;have:=Q1d.mem_old h.crew h.mv m h1;omega
theorem SOk.chunk_len {s:Srv} (h:SOk s):(Q31 s).length<=51:=by
 have:=h.crew.short;have:=h.len;have:=Q3y s.moves;unfold Q31;rw [List.length_append];simp only [List.length_cons];omega
theorem QaD {l:List Int} (h:Q2M l=true):l.length<=7/\∀ z,z∈l->0<z/\z<=28:=by
 unfold Q2M at h;rw [Bool.and_eq_true] at h;exact⟨(of_decide_eq_true h.1).2,(Q3C l 0 h.2).2⟩
theorem Qau.bound {a:Ans} (h:Qau a):a.nodes.length<=7/\∀ z,z∈a.nodes->0<=z/\z<=28:=by
 rcases h.nodes with e | e
 ·rw [e]; exact⟨by simp,fun z hz=>by cases hz⟩
 ·have:=QaD e;exact⟨this.1,fun z hz=>by have:=this.2 z hz; omega⟩
theorem AOk.lst {m:AM} (h:AOk m) (i:Nat):(Q0u m i).1<=maxN/\Qau (Q0u m i).2/\((Q0u m i).1=0->(Q0u m i).2=okA):=by
 unfold Q0u;rw [List.getD_eq_getElem?_getD];cases hx:m.last[i]? with
 | none=>exact⟨by unfold maxN; exact Nat.zero_le _,⟨.inl rfl,rfl,by show (0:Nat)<=21; omega,.inl rfl⟩,fun _=>rfl⟩
 | some x=>exact h.ans x (List.mem_of_getElem? hx)
theorem QcO {m:AM} (h:AOk m) (i:Nat):∀ z,z∈Q5l m i->NumI z:=by
 intro z hz;unfold Q5l at hz;split at hz
 ·cases hs:m.chunks[i]? with
  | none =>
   rw [hs] at hz;rw [List.mem_singleton.1 hz];exact Q4k (by omega) (by omega)
  | some s =>
   rw [hs] at hz;have:=(h.srv s (List.mem_of_getElem? hs)).chunk z hz;exact Q4k this.1 this.2
 ·have hl:=h.lst (i - 2);have hb:=hl.2.1.bound;have he:=hl.2.1.err;have hp:=hl.2.1.epoch;unfold Q7l at hz;simp only [List.cons_append,List.nil_append,List.mem_cons] at hz;rcases hz with rfl | rfl | rfl | rfl | hz
  ·have:=hl.1; unfold maxN at this; unfold NumI; omega
  iterate 3 ·unfold NumI; omega
  ·have:=hb.2 z hz; unfold NumI; omega
theorem Q3l {m:AM} (h:AOk m) (i:Nat):(Q1w m i).length<=120:=by
 unfold Q1w Q5l;split
 ·cases hs:m.chunks[i]? with
  | none =>
   have:=Q4u [0] (fun z hz=>by rw [List.mem_singleton.1 hz]; omega);exact Nat.le_trans this (by simp)
  | some s =>
   have hk:=h.srv s (List.mem_of_getElem? hs);have h1:=Q4u (Q31 s) hk.chunk;have h2:=hk.chunk_len;show (Q0M (Q31 s)).length<=120;omega
 ·have hl:=h.lst (i - 2);have hb:=hl.2.1.bound;have he:=hl.2.1.err;have hp:=hl.2.1.epoch;have h1:=Q4u ([((Q0u m (i - 2)).2.err:Int),((Q0u m (i - 2)).2.epoch:Int),((Q0u m (i - 2)).2.nodes.length:Int)]++(Q0u m (i - 2)).2.nodes) (fun z hz=>by
   simp only [List.cons_append,List.nil_append,List.mem_cons] at hz;rcases hz with rfl | rfl | rfl | hz
   iterate 3 ·omega
   ·have:=hb.2 z hz; omega)
  have h2:=(Q2N (n:=(Q0u m (i - 2)).1) hl.1).2;show (numB (((Q0u m (i - 2)).1:Int)).toNat++Q0M ([((Q0u m (i - 2)).2.err:Int),((Q0u m (i - 2)).2.epoch:Int),((Q0u m (i - 2)).2.nodes.length:Int)]++(Q0u m (i - 2)).2.nodes)).length<=120;rw [List.length_append,Int.toNat_natCast];rw [List.length_append] at h1;simp only [List.length_cons,List.length_nil] at h1;omega
end
section
theorem Q5d (s:Srv) (o n:Int):Q1u (Q41 s o n)=Q1u s++[n]:=by
 unfold Q1u Q41
 simp
theorem Q6T:∀ (cs:List Srv) (i:Nat) (s:Srv) (o n:Int),cs[i]?=some s->(Q2k (cs.set i (Q41 s o n))).Perm (n :: Q2k cs)
 | [],_,_,_,_,h=>by simp at h
 | c :: t,0,s,o,n,h=>by
  obtain rfl:c=s:=by simpa using h
  show (Q1u (Q41 c o n)++Q2k t).Perm (n :: (Q1u c++Q2k t));rw [Q5d,List.append_assoc];exact List.perm_middle
 | c :: t,i+1,s,o,n,h=>by
  have h1:=Q6T t i s o n (by simpa using h);show (Q1u c++Q2k (t.set i (Q41 s o n))).Perm (n :: (Q1u c++Q2k t));exact(h1.append_left (Q1u c)).trans List.perm_middle
theorem Qar {s:Srv} {z:Int} (h:Q2B s z=false):¬ z∈Q1u s:=by
 unfold Q2B at h;rw [Bool.or_eq_false_iff] at h;unfold Q1u;rw [List.mem_append];rintro (e | e)
 ·exact of_decide_eq_false h.1 e
 ·obtain⟨m,h1,h2⟩:=List.mem_map.1 e;have:=List.any_eq_false.1 h.2 m h1;simp [h2] at this
theorem Qbk {s:Srv} {z:Int} (h:z∈Q1u s):Q2B s z=true:=by
 cases hu:Q2B s z with
 | true=>rfl
 | false=>exact absurd h (Qar hu)
theorem Q4N {cs:List Srv} {f:Nat} {z:Int} (h:Q18 cs f z=false):3*(f:Int)+1<z/\¬ z∈Q2k cs:=by
 unfold Q18 at h;rw [Bool.or_eq_false_iff] at h;refine⟨by have:=of_decide_eq_false h.1; omega,fun e=>?_⟩;unfold Q2k at e;obtain⟨l,h1,h2⟩:=List.mem_flatten.1 e;obtain⟨s,h3,rfl⟩:=List.mem_map.1 h1;have:=List.any_eq_false.1 h.2 s h3;exact this (Qbk h2)
theorem Q8Y {cs:List Srv} {s:Srv} {z:Int} (hs:s∈cs) (hz:z∈Q1u s):z∈Q2k cs:=List.mem_flatten.2 ⟨_,List.mem_map.2 ⟨s,hs,rfl⟩,hz⟩
theorem Q7y {s:Srv} {z:Int} (h:z∈s.now):z∈Q1u s:=by
 unfold Q1u;rw [List.mem_append];rcases Qb0 h with h | ⟨m,h1,h2⟩
 ·exact .inl h
 ·exact .inr (List.mem_map.2 ⟨m,h1,h2⟩)
theorem Q3o {α:Type} {l:List α} {i:Nat} {a x:α} (h:x∈l.set i a):x=a\/x∈l:=by
 obtain⟨k,hk,rfl⟩:=List.mem_iff_getElem.1 h;rw [List.getElem_set];split
 ·exact .inl rfl
 ·exact .inr (List.getElem_mem _)
theorem Q2L {x:Wish} (h:inQ x=true):31<=x.client/\x.client<=34/\1<=x.stamp/\x.stamp<=9007199254740991/\1<=x.block/\x.block<=2/\(x.kind=3\/(x.kind=4/\1<=x.old/\x.old<=28/\1<=x.new/\x.new<=28/\x.old≠x.new)):=by
 unfold inQ at h;rw [Bool.and_eq_true] at h;have h2:=of_decide_eq_true h.2;have h1:=of_decide_eq_true h.1;obtain⟨_,_,h1⟩:=h1;rcases h1 with h1 | h1
 ·omega
 ·obtain⟨_,c1,c2,s1,s2,_,h1⟩:=h1;rcases h1 with h1 | h1
  ·omega
  ·obtain⟨hk,_,_,b1,b2,_⟩:=h1;refine⟨c1,c2,s1,s2,b1,b2,?_⟩;rcases hk with hk | hk
   ·exact .inl hk.1
   ·exact .inr hk
theorem Q6Q {e n:Nat} (he:e=0\/e=5\/e=180) (hn:n<=21):Qau (errA e n):=⟨he,rfl,hn,.inl rfl⟩
structure COk (cs:List Srv):Prop where
 one:1<=cs.length/\cs.length<=2
 srv:∀ s,s∈cs->SOk s
 same:∃ f,∀ s,s∈cs->s.f=f
 apart:(Q2k cs).Nodup
 high:∀ s,s∈cs->∀ x,x∈Q1u s->3*(s.f:Int)+1<x
theorem AOk.cok {m:AM} (h:AOk m):COk m.chunks:=⟨h.one,h.srv,h.same,h.apart,h.high⟩
theorem COk.moved {cs:List Srv} {i:Nat} {s:Srv} {o n:Int} (h:COk cs) (hs:cs[i]?=some s) (ho:o∈s.now) (hn:Q18 cs s.f n=false) (h1:1<=n) (h2:n<=28) (hl:s.moves.length<=20):COk (cs.set i (Q41 s o n)):=by
 have hm:=List.mem_of_getElem? hs;have hk:=h.srv s hm;have hu:=Q4N hn;refine⟨by rw [List.length_set]; exact h.one,fun q hq=>?_,?_,?_,fun q hq=>?_⟩
 ·rcases Q3o hq with rfl | hq
  ·exact⟨hk.crew,by show (s.moves++[(o,n)]).length<=21; simp; omega,Q1d.app hk.mv ho (fun e=>hu.2 (Q8Y hm (Q7y e))) h1 h2⟩
  ·exact h.srv q hq
 ·obtain⟨f,hf⟩:=h.same;refine⟨f,fun q hq=>?_⟩;rcases Q3o hq with rfl | hq
  ·exact hf s hm
  ·exact hf q hq
 ·exact((Q6T cs i s o n hs).nodup_iff).2 (List.nodup_cons.2 ⟨hu.2,h.apart⟩)
 ·rcases Q3o hq with rfl | hq
  ·intro x hx;rw [Q5d,List.mem_append,List.mem_singleton] at hx;show 3*(s.f:Int)+1<x;rcases hx with hx | rfl
   ·exact h.high s hm x hx
   ·exact hu.1
  ·exact h.high q hq
theorem COk.answered {m:AM} (h:COk m.chunks) {x:Wish} (hx:inQ x=true):COk (Q0s m x).1.chunks/\(Q0s m x).1.last=m.last/\Qau (Q0s m x).2:=by
 obtain⟨c1,c2,s1,s2,b1,b2,hk⟩:=Q2L hx;unfold Q0s;cases hs:m.chunks[(x.block - 1).toNat]? with
 | none=>exact⟨h,rfl,Q6Q (.inr (.inr rfl)) (by omega)⟩
 | some s =>
  have hsk:=h.srv s (List.mem_of_getElem? hs);have hl:=hsk.len;simp only;split
  ·exact⟨h,rfl,⟨.inl rfl,rfl,hl,.inr hsk.now_ok.crew⟩⟩
  ·rename_i hk3;split
   ·exact⟨h,rfl,Q6Q (.inr (.inr rfl)) (by omega)⟩
   ·split
    ·exact⟨h,rfl,Q6Q (.inr (.inr rfl)) hl⟩
    ·rename_i hu;split
     ·exact⟨h,rfl,Q6Q (.inr (.inl rfl)) (by omega)⟩
     ·rename_i h22;have hu':x.old∈s.now/\Q18 m.chunks s.f x.new=false:=by
       refine⟨Decidable.byContradiction fun e=>hu (.inl e),?_⟩;cases hq:Q18 m.chunks s.f x.new with
       | false=>rfl
       | true=>exact absurd (.inr hq) hu
      have hk4:x.kind=4/\1<=x.old/\x.old<=28/\1<=x.new/\x.new<=28/\x.old≠x.new:=by
       rcases hk with e | e
       ·exact absurd e hk3
       ·exact e
      exact⟨h.moved hs hu'.1 hu'.2 hk4.2.2.2.1 hk4.2.2.2.2.1 (by omega),rfl,Q6Q (.inl rfl) (by omega)⟩
theorem AOk.did {m:AM} (h:AOk m) {x:Wish} (hx:inQ x=true):AOk (didQ m x):=by
 obtain⟨c1,c2,s1,s2,b1,b2,hk⟩:=Q2L hx;have ha:=h.cok.answered hx;unfold didQ;split
 ·have hc:=ha.1;refine⟨hc.one,hc.srv,hc.same,hc.apart,hc.high,?_,fun y hy=>?_⟩
  ·show ((Q0s m x).1.last.set _ _).length=4;rw [List.length_set,ha.2.1]; exact h.last
  ·rcases Q3o hy with rfl | hy
   ·exact⟨by show x.stamp.toNat<=maxN; unfold maxN; omega,ha.2.2,fun e=>by have:x.stamp.toNat=0:=e; omega⟩
   ·rw [ha.2.1] at hy; exact h.ans y hy
 ·exact h
def Q1M:List Srv->Int->List (Int×List Int)->Option (List Srv)
 | acc,_,[]=>some acc
 | acc,f0,c :: t=>if (0<=c.1/\c.1<=2/\(c.2.length:Int)=3*c.1+1/\Q1c 0 c.2=true)/\c.1=f0/\c.2.any (Q18 acc c.1.toNat)=false then Q1M (acc++[⟨c.1.toNat,c.2,[]⟩]) f0 t else none
def Q2w (cs:List (Int×List Int)):Option (List Srv):=match cs with
 | []=>none
 | c :: t=>if cs.length<=2 then Q1M [] c.1 cs else none
def Q1t (cs:List Srv):AM:=⟨cs,List.replicate 4 (0,okA)⟩
def newQ (cs:List (Int×List Int)):Option AM:=(Q2w cs).map Q1t
structure CPre (f0:Int) (cs:List Srv):Prop where
 srv:∀ s,s∈cs->SOk s/\(s.f:Int)=f0/\s.moves=[]
 apart:(Q2k cs).Nodup
 high:∀ s,s∈cs->∀ x,x∈Q1u s->3*(s.f:Int)+1<x
theorem CPre.nil (f0:Int):CPre f0 []:=⟨fun s hs=>(by cases hs),List.nodup_nil,fun s hs=>(by cases hs)⟩
theorem CPre.push {f0:Int} {acc:List Srv} {c:Int×List Int} (h:CPre f0 acc) (h1:0<=c.1/\c.1<=2/\(c.2.length:Int)=3*c.1+1/\Q1c 0 c.2=true) (h2:c.1=f0) (h3:c.2.any (Q18 acc c.1.toNat)=false):CPre f0 (acc++[⟨c.1.toNat,c.2,[]⟩]):=by
 have hc:OkC c.1.toNat c.2:=⟨by omega,by omega,h1.2.2.2⟩;have hse:Q1u ⟨c.1.toNat,c.2,[]⟩=c.2:=by unfold Q1u; simp
 have hu:∀ x,x∈c.2->3*((c.1.toNat:Nat):Int)+1<x/\¬ x∈Q2k acc:=fun x hx=>by
  have:=List.any_eq_false.1 h3 x hx;exact Q4N (by simpa using this)
 refine⟨fun s hs=>?_,?_,fun s hs=>?_⟩
 ·rcases List.mem_append.1 hs with hs | hs
  ·exact h.srv s hs
  ·rw [List.mem_singleton] at hs;subst hs;exact⟨⟨hc,by show 0<=21; omega,trivial⟩,by show ((c.1.toNat:Nat):Int)=f0; omega,rfl⟩
 ·unfold Q2k;rw [List.map_append,List.flatten_append];simp only [List.map_cons,List.map_nil,List.flatten_cons,List.flatten_nil,List.append_nil];rw [hse];refine List.nodup_append.2 ⟨h.apart,hc.pair.imp (fun {a b} e=>by omega),fun a ha b hb e=>?_⟩;subst e;exact(hu a hb).2 ha
 ·rcases List.mem_append.1 hs with hs | hs
  ·exact h.high s hs
  ·rw [List.mem_singleton] at hs;subst hs;intro x hx;rw [hse] at hx;exact(hu x hx).1
theorem Q7V:∀ (t:List (Int×List Int)) (acc:List Srv) (f0:Int) (cs:List Srv),CPre f0 acc->Q1M acc f0 t=some cs->CPre f0 cs/\cs.length=acc.length+t.length
 | [],acc,f0,cs,h,e=>by
  obtain rfl:=Option.some.inj e;exact⟨h,by simp⟩
 | c :: t,acc,f0,cs,h,e=>by
  unfold Q1M at e;split at e
  ·rename_i hc;have:=Q7V t _ f0 cs (h.push hc.1 hc.2.1 hc.2.2) e;refine⟨this.1,?_⟩;rw [this.2,List.length_append];simp only [List.length_cons,List.length_nil];omega
  ·cases e
theorem Q99 {l:List (Int×List Int)} {cs:List Srv} (h:Q2w l=some cs):COk cs/\(∀ s,s∈cs->s.moves=[])/\cs.length=l.length:=by
 unfold Q2w at h;split at h
 ·cases h
 ·rename_i c t;split at h
  ·rename_i hl;have:=Q7V _ _ _ _ (CPre.nil c.1) h;have hlen:cs.length=(c :: t).length:=by rw [this.2]; simp
   have hsrv:=this.1.srv;refine⟨⟨⟨by rw [hlen]; simp,by omega⟩,fun s hs=>(hsrv s hs).1,?_,this.1.apart,this.1.high⟩,fun s hs=>(hsrv s hs).2.2,hlen⟩;exact⟨c.1.toNat,fun s hs=>by have:=(hsrv s hs).2.1; omega⟩
  ·cases h
theorem okA_ok:Qau okA:=⟨.inl rfl,rfl,by show (0:Nat)<=21; omega,.inl rfl⟩
theorem Q9N {cs:List Srv} (h:COk cs):AOk (Q1t cs):=by
 refine⟨h.one,h.srv,h.same,h.apart,h.high,by simp [Q1t],fun x hx=>?_⟩;have:=List.eq_of_mem_replicate hx;rw [this];exact⟨Nat.zero_le _,okA_ok,fun _=>rfl⟩
end
section
open Go.RowKit Go.Maps
attribute [local irreducible] wpList Q0i
def crC (f:Int) (A:Option Addr) (n c:Nat):Array Value:=#[.int .i64 f,.slice A n c]
def okCB (f:Int) (l:List Int):Bool:=decide (0<=f/\f<=2/\(l.length:Int)=3*f+1) && Q1c 0 l
theorem Q3F {f:Nat} {l:List Int} (h:OkC f l):okCB (f:Int) l=true:=by
 unfold okCB;have:=h.faults;have:=h.len;rw [h.up,Bool.and_true];exact decide_eq_true ⟨by omega,by omega,by omega⟩
theorem okCB_to {f:Int} {l:List Int} (h:okCB f l=true):OkC f.toNat l/\0<=f:=by
 unfold okCB at h;rw [Bool.and_eq_true] at h;have h1:=of_decide_eq_true h.1;exact⟨⟨by omega,by omega,h.2⟩,h1.1⟩
theorem QaY (n:Int) (w:World):Calls Tryz.prog 144 #[.int .i64 n] w fun e w'=>e=.returned (.bool (decide (1<=n/\n<=28)))/\w=w':=by
 by_cases h:1<=n
 ·by_cases h2:n<=28
  ·rw [decide_eq_true ⟨h,h2⟩];go_enter Tryz.func144,Tryz.ntmps144
   go_wp2
   go_ret
   exact⟨rfl,rfl⟩
  ·rw [decide_eq_false fun hh=>h2 hh.2];go_enter Tryz.func144,Tryz.ntmps144
   go_wp2
   go_ret
   exact⟨rfl,rfl⟩
 ·rw [decide_eq_false fun hh=>h hh.1];go_enter Tryz.func144,Tryz.ntmps144
  go_wp2
  go_ret
  exact⟨rfl,rfl⟩
theorem Q2U (f:Int) (A:Option Addr) (n c:Nat) (zs:List Int) (w:World) (h:Q0d w w.heap.size 1 A n (zs.map vn)) (hn:n<=17592186044416) :
 Calls Tryz.prog 134 #[.agg (crC f A n c)] w fun e w'=>e=.returned (.int .i64 (if okCB f zs=true then 0 else 110))/\Below w.heap.size w w':=by
 have hzn:zs.length=n:=by have:=h.1; simpa using this
 have H:=Lib.hid h;have HZN:=Lib.hid hzn;have HX:=Lib.hid (Q07 w (.cells (crC f A n c) 77));have HK:=Lib.hid (Blk.newAt rfl:Blk (w.alloc (.cells (crC f A n c) 77)) w.heap.size 77 (crC f A n c));obtain⟨res,hres⟩:∃ b,b=okCB f zs:=⟨_,rfl⟩;rw [<- hres];have HRES:=Lib.hid hres;clear h hzn hres;obtain⟨g,hg⟩:∃ g,g=w.heap.size:=⟨_,rfl⟩;go_enter Tryz.func134,Tryz.ntmps134
 go_upto_region 1 with fail
 generalize World.alloc w _=w1 at HX HK ⊢;rw [<- hg] at HK ⊢;clear hg;have hbad:¬ (0<=f/\f<=2/\(n:Int)=3*f+1)->res=false:=fun hb=>by
  rw [HRES.out]; unfold okCB; rw [HZN.out,decide_eq_false hb,Bool.false_and]
 have c0:w1.cell? ⟨g,0,none⟩=some (.int .i64 f):=(HK.out.cell 0).trans rfl;have c1:w1.cell? ⟨g,1,none⟩=some (.slice A n c):=(HK.out.cell 1).trans rfl;by_cases h0:f<0
 ·obtain rfl:=hbad (by omega);clear hbad;go_wp2_with fail
  go_ret
  exact⟨rfl,HX.out⟩
 ·by_cases h2:2<f
  ·obtain rfl:=hbad (by omega);clear hbad;go_wp2_with fail
   go_ret
   exact⟨rfl,HX.out⟩
  ·by_cases h3:(n:Int)=3*f+1
   ·have h3b:((n:Int) != 3*f+1)=false:=by simp [h3]
    have HR:=Lib.hid (show res=Q1c 0 zs by rw [HRES.out]; unfold okCB; rw [decide_eq_true (by rw [HZN.out]; exact⟨by omega,by omega,h3⟩),Bool.true_and]);have h3w:(IntKind.i64.wrap (IntKind.i64.wrap (3*f)+1))=3*f+1:=by rw [IntKind.wrap_i64,IntKind.wrap_i64]; omega
    clear hbad HRES;go_wp2_with fail
    go_loopw [3,27] (fun lv iv wr=>∃ (i:Nat) (last:Int),i<=n/\0<=last/\lv=.int .i64 last/\iv=.int .i64 i/\w1=wr/\res=Q1c last (zs.drop i)) (fun _ iv _=>n - (intOf iv).toNat)
    case atStart=>exact⟨0,0,by omega,by omega,rfl,rfl,rfl,HR.out⟩
    case round =>
     obtain⟨i,last,hi,hl0,rfl,rfl,rfl,hr⟩:=hrel;by_cases hin:i<n
     ·obtain⟨ad,u,hA,hadb,hxi,hcell⟩:=(H.out.below HX.out).at_ hin;subst hA;have hil:i<zs.length:=by have:=HZN.out; omega
      have hu:u=.int .i64 zs[i]:=by
       rw [List.getElem?_map,List.getElem?_eq_getElem hil] at hxi;injection hxi with hxi
       exact hxi.symm
      subst hu;rw [List.drop_eq_getElem_cons hil] at hr;generalize zs[i]=z at hr hcell;simp only [Q1c] at hr;have HNO:=Lib.hid (QaY z w1);clear hxi;by_cases hz1:z<=last
      ·rw [decide_eq_false (by omega),Bool.false_and] at hr;subst hr;go_wp2_with fail
       go_ret
       exact⟨rfl,HX.out⟩
      ·by_cases hz2:z<=28
       ·rw [decide_eq_true ⟨by omega,hz2⟩,Bool.true_and] at hr;rw [decide_eq_true ⟨by omega,hz2⟩] at HNO;have HRR:=Lib.hid hr;clear hr;go_wp2_with fail
        refine HNO.out.mono ?_;rintro _ _ ⟨rfl,rfl⟩;go_wp2_with fail
        go_roundw
        case rel=>exact⟨i+1,z,by omega,by omega,rfl,by go_num,trivial,HRR.out⟩
        case measure=>simp [intOf]; omega
       ·rw [decide_eq_false (by omega),Bool.false_and] at hr;rw [decide_eq_false (by omega)] at HNO;subst hr;go_wp2_with fail
        refine HNO.out.mono ?_;rintro _ _ ⟨rfl,rfl⟩;go_wp2_with fail
        go_ret
        exact⟨rfl,HX.out⟩
     ·obtain rfl:i=n:=by omega
      rw [List.drop_of_length_le (by have:=HZN.out; omega)] at hr;subst hr;go_wp2_with fail
      go_ret
      exact⟨rfl,HX.out⟩
   ·have h3b:((n:Int) != 3*f+1)=true:=by simp [h3]
    obtain rfl:=hbad (by omega);clear hbad;go_wp2_with fail
    go_ret
    exact⟨rfl,HX.out⟩
theorem QcP (x:Int) (w:World):Calls Tryz.prog 181 #[.int .i64 x] w fun e w'=>e=.returned (.bool false)/\w=w':=by
 have hx:(x != x)=false:=by simp
 go_enter Tryz.func181,Tryz.ntmps181
 go_wp2
 go_ret
 exact⟨rfl,rfl⟩
theorem Qc9 (x:Int) (w:World):Calls Tryz.prog 193 #[.int .i64 x] w fun e w'=>e=.returned (.bool false)/\w=w':=by
 have hx:(x != x)=false:=by simp
 go_enter Tryz.func193,Tryz.ntmps193
 go_wp2
 go_ret
 exact⟨rfl,rfl⟩
theorem Q8q (x y:Int) (w:World):Calls Tryz.prog 180 #[.int .i64 x,.int .i64 y] w fun e w'=>e=.returned (.bool (decide (x<y)))/\w=w':=by
 have HN:=Lib.hid (Qc9 x w);go_enter Tryz.func180,Tryz.ntmps180
 go_wp2_with fail
 refine HN.out.mono ?_;rintro _ _ ⟨rfl,rfl⟩;go_wp2_with fail
 go_ret
 exact⟨rfl,rfl⟩
theorem Qan (A:Option Addr) (n c:Nat) (zs:List Int) (t:Int) (w:World) (B:Nat) (h:Q0d w B 1 A n (zs.map vn)) (hp:zs.Pairwise (· < ·)) (hn:n<=1000000) :
 Calls Tryz.prog 166 #[.slice A n c,.int .i64 t] w fun e w'=>∃ i:Nat,e=.returned (.tuple #[.int .i64 i,.bool (decide (t∈zs))])/\w=w':=by
 have hzn:zs.length=n:=by have:=h.1; simpa using this
 have H:=Lib.hid h;have HZN:=Lib.hid hzn;have HP:=Lib.hid (List.pairwise_iff_getElem.1 hp);obtain⟨res,hres⟩:∃ b,b=decide (t∈zs):=⟨_,rfl⟩;rw [<- hres];have HRES:=Lib.hid hres;clear h hzn hres hp;go_enter Tryz.func166,Tryz.ntmps166
 go_wp2_with fail
 go_loopw [7,8,9] (fun iv jv hv wr=>∃ (i j:Nat),i<=j/\j<=n/\iv=.int .i64 i/\jv=.int .i64 j/\w=wr/\(∀ (k:Nat) (hk:k<zs.length),k<i->zs[k]<t)/\(∀ (k:Nat) (hk:k<zs.length),j<=k->t<=zs[k])) (fun iv jv _ _=>(intOf jv).toNat - (intOf iv).toNat)
 case atStart=>exact⟨0,n,by omega,by omega,rfl,rfl,rfl,fun k hk h=>by omega,fun k hk h=>by have:=HZN.out; omega⟩
 case round =>
  obtain⟨i,j,hij,hj,rfl,rfl,rfl,hlo,hhi⟩:=hrel;have HLO:=Lib.hid hlo;have HHI:=Lib.hid hhi;clear hlo hhi;by_cases hlt:i<j
  ·have hltI:(i:Int)<(j:Int):=by omega
   have hm1:i<=(i+j) / 2:=by omega
   have hm2:(i+j) / 2<j:=by omega
   obtain⟨ad,u,hA,hadb,hxi,hcell⟩:=H.out.at_ (k:=(i+j) / 2) (by omega);subst hA;have hil:(i+j) / 2<zs.length:=by have:=HZN.out; omega
   have hu:u=.int .i64 zs[(i+j) / 2]:=by
    rw [List.getElem?_map,List.getElem?_eq_getElem hil] at hxi;injection hxi with hxi
    exact hxi.symm
   subst hu;obtain⟨z,hz⟩:∃ z,z=zs[(i+j) / 2]:=⟨_,rfl⟩;rw [<- hz] at hcell;have HZ:=Lib.hid hz;have HLE:=Lib.hid (Q8q z t w);clear hxi hz;by_cases hzt:z<t
   ·rw [decide_eq_true hzt] at HLE;have HN:=Lib.hid (show ∀ (k:Nat) (hk:k<zs.length),k<(i+j) / 2+1->zs[k]<t from fun k hk h=>by
     rcases Nat.lt_or_ge k ((i+j) / 2) with e | e
     ·have:=HP.out k _ hk hil e; have:=HZ.out; omega
     ·obtain rfl:k=(i+j) / 2:=by omega
      have:=HZ.out; omega)
    go_wp2_with fail
    refine HLE.out.mono ?_;rintro _ _ ⟨rfl,rfl⟩;go_wp2_with fail
    go_roundw
    case rel=>exact⟨(i+j) / 2+1,j,by omega,hj,by go_num,rfl,trivial,HN.out,HHI.out⟩
    case measure=>simp [intOf]; omega
   ·rw [decide_eq_false hzt] at HLE;have HN:=Lib.hid (show ∀ (k:Nat) (hk:k<zs.length),(i+j) / 2<=k->t<=zs[k] from fun k hk h=>by
     rcases Nat.lt_or_ge ((i+j) / 2) k with e | e
     ·have:=HP.out _ k hil hk e; have:=HZ.out; omega
     ·obtain rfl:k=(i+j) / 2:=by omega
      have:=HZ.out; omega)
    go_wp2_with fail
    refine HLE.out.mono ?_;rintro _ _ ⟨rfl,rfl⟩;go_wp2_with fail
    go_roundw
    case rel=>exact⟨i,(i+j) / 2,by omega,by omega,rfl,by go_num,trivial,HLO.out,HN.out⟩
    case measure=>simp [intOf]; omega
  ·obtain rfl:i=j:=by omega
   have hno:∀ (k:Nat) (hk:k<zs.length),k≠i->zs[k]≠t:=fun k hk hne e=>by
    rcases Nat.lt_or_ge k i with q | q
    ·have:=HLO.out k hk q; omega
    ·have h1:i<zs.length:=by omega
     have:=HHI.out i h1 (Nat.le_refl _);have:=HP.out i k h1 hk (by omega);omega
   by_cases hin:i<n
   ·obtain⟨ad,u,hA,hadb,hxi,hcell⟩:=H.out.at_ hin;subst hA;have hil:i<zs.length:=by have:=HZN.out; omega
    have hu:u=.int .i64 zs[i]:=by
     rw [List.getElem?_map,List.getElem?_eq_getElem hil] at hxi;injection hxi with hxi
     exact hxi.symm
    subst hu;have hinI:(i:Int)<(n:Int):=by omega
    by_cases hzt:zs[i]=t
    ·have hr:res=true:=by rw [HRES.out]; exact decide_eq_true (hzt▸List.getElem_mem hil)
     rw [hzt] at hcell;subst hr;clear hxi hno hzt;go_wp2_with fail
     go_ret2
     exact⟨i,rfl,rfl⟩
    ·have hr:res=false:=by
      rw [HRES.out];refine decide_eq_false fun hm=>?_
      obtain⟨k,hk,e⟩:=List.mem_iff_getElem.1 hm;rcases Nat.eq_or_lt_of_le (Nat.le_refl k) with _ | _
      ·by_cases hki:k=i
       ·subst hki; exact hzt e
       ·exact hno k hk hki e
      ·omega
     generalize zs[i]=z at hcell hzt;have hztb:(z == t)=false:=by simpa using hzt
     have HNA:=Lib.hid (QcP z w);subst hr;clear hxi hno hzt;go_wp2_with fail
     refine HNA.out.mono ?_;rintro _ _ ⟨rfl,rfl⟩;go_wp2_with fail
     go_ret2
     exact⟨i,rfl,rfl⟩
   ·have hr:res=false:=by
     rw [HRES.out];refine decide_eq_false fun hm=>?_
     obtain⟨k,hk,e⟩:=List.mem_iff_getElem.1 hm;have:=HZN.out;exact hno k hk (by omega) e
    have hinI:¬ (i:Int)<(n:Int):=by omega
    subst hr;clear hno;go_wp2_with fail
    go_ret2
    exact⟨⟨i,rfl⟩,rfl⟩
end
section
open Go.RowKit Go.Maps
attribute [local irreducible] wpList Q0i
theorem Q4Z (f:Nat) (A:Option Addr) (n c:Nat) (zs:List Int) (t:Int) (w:World) (h:Q0d w w.heap.size 1 A n (zs.map vn)) (hok:OkC f zs) :
 Calls Tryz.prog 141 #[.agg (crC f A n c),.int .i64 t] w fun e w'=>e=.returned (.bool (decide (t∈zs)))/\Below w.heap.size w w':=by
 have hzn:zs.length=n:=by have:=h.1; simpa using this
 have hs:=hok.short;have HX:=Lib.hid (Q07 w (.cells (crC f A n c) 77));have HK:=Lib.hid (Blk.newAt rfl:Blk (w.alloc (.cells (crC f A n c) 77)) w.heap.size 77 (crC f A n c));have hr1:=h.below HX.out;have HB:=Lib.hid (Qan A n c zs t (w.alloc (.cells (crC f A n c) 77)) _ hr1 hok.pair (by omega));have HC:=Lib.hid (Q2U f A n c zs (w.alloc (.cells (crC f A n c) 77)) (hr1.more HX.out.size) (by omega));rw [Q3F hok,if_pos rfl] at HC;generalize decide (t∈zs)=res at HB ⊢;have hD:crC f A n c=#[.int .i64 (f:Int),.slice A n c]:=rfl;obtain⟨D,hDe⟩:∃ D,D=crC f A n c:=⟨_,rfl⟩;have hsz:D.size=2:=by rw [hDe]; rfl
 rw [<- hDe] at HX HK HB HC hD ⊢;clear h hr1 hok hDe;have HD:=Lib.hid hD;clear hD;obtain⟨g,hg⟩:∃ g,g=w.heap.size:=⟨_,rfl⟩;go_enter Tryz.func141,Tryz.ntmps141
 go_upto_region 1 with fail
 generalize World.alloc w _=w1 at HX HK HB HC ⊢;rw [<- hg] at HK ⊢;clear hg;have c1:w1.cell? ⟨g,1,none⟩=some (.slice A n c):=(HK.out.cell 1).trans (by rw [HD.out]; rfl);go_wp2_with fail
 refine HB.out.mono ?_;rintro _ _ ⟨i,rfl,rfl⟩;clear HB;go_wp2_with (refine Q03 (o:=⟨some 14,_,_,_,_,_⟩) rfl 77 (.tmp 2) rfl g 0 2 rfl 77 _ D _ HK.out Tryz.underlying77 rfl rfl hsz (fun _ _=>by rw [Nat.zero_add]; try rfl) ?_)
 refine HC.out.mono ?_;rintro _ w2 ⟨rfl,hb2⟩;have HB2:=Lib.hid (HX.out.trans (hb2.mono HX.out.size));clear hb2 HC;go_wp2_with fail
 go_ret
 exact⟨rfl,HB2.out⟩
end
section
open Go.RowKit Go.Maps
attribute [local irreducible] wpList Q0i
structure RowN (w:World) (g cap:Nat) (zs:List Int):Prop where
 row:∃ cur:Array Value,Blk w g 3 cur/\cur.size=cap/\cur.toList.take zs.length=zs.map vn
 cap:zs.length<=cap/\cap<=maxLen
theorem RowN.of_own {w:World} {B:Nat} {v:Value} {zs:List Int} (h:OwnN w B v zs) (h0:0<zs.length):∃ g cap,v=.slice (some ⟨g,0,none⟩) zs.length cap/\B<=g/\RowN w g cap zs:=by
 rcases h.2 with⟨_,h1⟩ | ⟨g,cap,cur,hv,h2,h3,h4,h5,h6,h7⟩
 ·omega
 ·exact⟨g,cap,hv,h2,⟨⟨cur,h3,by omega,by simpa using h7⟩,h4,h5⟩⟩
theorem RowN.lt {w:World} {g cap:Nat} {zs:List Int} (h:RowN w g cap zs):g<w.heap.size:=by
 obtain⟨cur,h1,_⟩:=h.row;exact h1.lt
theorem RowN.keep {w w':World} {g cap:Nat} {zs:List Int} (h:RowN w g cap zs) (hk:w'.heap[g]?=w.heap[g]?):RowN w' g cap zs:=by
 obtain⟨cur,h1,h2⟩:=h.row;exact⟨⟨cur,hk.trans h1,h2⟩,h.cap⟩
theorem RowN.below {w w':World} {B g cap:Nat} {zs:List Int} (h:RowN w g cap zs) (hb:Below B w w') (hg:g<B):RowN w' g cap zs:=h.keep (hb.block g hg)
theorem RowN.own {w:World} {B g cap:Nat} {zs:List Int} (h:RowN w g cap zs) (hB:B<=g):OwnN w B (.slice (some ⟨g,0,none⟩) zs.length cap) zs:=by
 obtain⟨cur,h1,h2,h3⟩:=h.row;exact⟨by simp,.inr ⟨g,cap,cur,rfl,hB,h1,h.cap.1,h.cap.2,by omega,by simpa using h3⟩⟩
theorem RowN.at_ {w:World} {g cap:Nat} {zs:List Int} (h:RowN w g cap zs) {i:Nat} (hi:i<zs.length):w.cell? ⟨g,i,none⟩=some (.int .i64 zs[i]):=by
 obtain⟨cur,h1,h2,h3⟩:=h.row;rw [h1.cell,<- Array.getElem?_toList];have:(cur.toList.take zs.length)[i]?=some (.int .i64 zs[i]):=by
  rw [h3,List.getElem?_map,List.getElem?_eq_getElem hi]; rfl
 rw [List.getElem?_take,if_pos hi] at this;exact this
theorem RowN.frozen {w:World} {g cap:Nat} {zs:List Int} (h:RowN w g cap zs) (i:Nat):w.frozen? ⟨g,i,none⟩=false:=by
 obtain⟨cur,h1,_⟩:=h.row;exact h1.frozen i
theorem RowN.set_ {w:World} {g cap:Nat} {zs:List Int} (h:RowN w g cap zs) {i:Nat} (hi:i<zs.length) (z:Int):RowN (w.setCell ⟨g,i,none⟩ (.int .i64 z)) g cap (zs.set i z):=by
 obtain⟨cur,h1,h2,h3⟩:=h.row;refine⟨⟨_,h1.set_ i _,by simp [h2],?_⟩,by rw [List.length_set]; exact h.cap⟩;rw [List.length_set,Array.toList_setIfInBounds,List.take_set,h3];rw [List.map_set];rfl
theorem RowN.reads {w:World} {g cap:Nat} {zs:List Int} (h:RowN w g cap zs):Q0d w w.heap.size 1 (some ⟨g,0,none⟩) zs.length (zs.map vn):=(OwnN.reads' (h.own (Nat.zero_le _)))
where OwnN.reads' {w:World} {B g cap:Nat} {zs:List Int} (h:OwnN w B (.slice (some ⟨g,0,none⟩) zs.length cap) zs):Q0d w w.heap.size 1 (some ⟨g,0,none⟩) zs.length (zs.map vn):=Q0d.of_own h
theorem Q6A (b:Nat) (x o:Int) (w:World) (hc:w.cell? ⟨b,0,none⟩=some (.int .i64 o)) :
 Calls Tryz.prog 169 #[.int .i64 x,.pointer (some ⟨b,0,none⟩)] w fun e w'=>e=.returned (.bool (decide (x=o)))/\w=w':=by
 by_cases h:x=o
 ·subst h;go_enter Tryz.func169,Tryz.ntmps169
  go_wp2
  go_ret
  exact⟨Q0N (by simp),rfl⟩
 ·have hx:(x == o)=false:=by simpa using h
  rw [decide_eq_false h];go_enter Tryz.func169,Tryz.ntmps169
  go_wp2
  go_ret
  exact⟨rfl,rfl⟩
theorem Qc0 (g cap b n:Nat) (p q:List Int) (o:Int) (w:World) (h:RowN w g cap (p++o :: q)) (hn:n=(p++o :: q).length) (hp:¬ o∈p) (hb:w.cell? ⟨b,0,none⟩=some (.int .i64 o)) (hn2:n<=1000000) :
 Calls Tryz.prog 184 #[.slice (some ⟨g,0,none⟩) n cap,.func (.func 169) #[] #[.pointer (some ⟨b,0,none⟩)]] w fun e w'=>e=.returned (.int .i64 (p.length:Int))/\w=w':=by
 have HR:=Lib.hid h;have HN:=Lib.hid hn;have HO:=Lib.hid (fun x=>Q6A b x o w hb);have HP:=Lib.hid hp;have hpl:p.length<n:=by rw [hn,List.length_append]; simp
 clear h hn hp hb;go_enter Tryz.func184,Tryz.ntmps184
 go_wp2_with fail
 go_loopw [5,8] (fun _ iv wr=>∃ i:Nat,i<=p.length/\iv=.int .i64 i/\w=wr) (fun _ iv _=>p.length - (intOf iv).toNat)
 case atStart=>exact⟨0,by omega,rfl,rfl⟩
 case round =>
  obtain⟨i,hi,rfl,rfl⟩:=hrel;have hin:i<n:=by omega
  have hinI:(i:Int)<(n:Int):=by omega
  have hil:i<(p++o :: q).length:=by have:=HN.out; omega
  have hcell:=HR.out.at_ hil;by_cases hlt:i<p.length
  ·have hz:(p++o :: q)[i]=p[i]:=List.getElem_append_left hlt;rw [hz] at hcell;have hne:¬ p[i]=o:=fun e=>HP.out (e▸List.getElem_mem hlt)
   generalize p[i]=z at hcell hne;have HC:=Lib.hid (HO.out z);rw [decide_eq_false hne] at HC;clear hz;go_wp2_with fail
   refine HC.out.mono ?_;rintro _ _ ⟨rfl,rfl⟩;go_wp2_with fail
   go_roundw
   case rel=>exact⟨i+1,by omega,by go_num,trivial⟩
   case measure=>simp [intOf]; omega
  ·obtain rfl:i=p.length:=by omega
   have hz:(p++o :: q)[p.length]=o:=by rw [List.getElem_append_right (Nat.le_refl _)]; simp
   rw [hz] at hcell;have HC:=Lib.hid (HO.out o);rw [decide_eq_true rfl] at HC;clear hz;go_wp2_with fail
   refine HC.out.mono ?_;rintro _ _ ⟨rfl,rfl⟩;go_wp2_with fail
   go_ret
   exact⟨rfl,rfl⟩
theorem Q9Z (g cap b n:Nat) (p q:List Int) (o:Int) (w:World) (h:RowN w g cap (p++o :: q)) (hn:n=(p++o :: q).length) (hp:¬ o∈p) (hq:¬ o∈q) (hb:w.cell? ⟨b,0,none⟩=some (.int .i64 o)) (hbg:b≠g) (hn2:n<=1000000) :
 Calls Tryz.prog 168 #[.slice (some ⟨g,0,none⟩) n cap,.func (.func 169) #[] #[.pointer (some ⟨b,0,none⟩)]] w fun e w'=>e=.returned (.slice (some ⟨g,0,none⟩) (p++q).length cap)/\RowN w' g cap (p++q++[0])/\Only (fun b=>b=g) w w':=by
 have HI:=Lib.hid (Qc0 g cap b n p q o w h hn hp hb hn2);have HR:=Lib.hid h;have HN:=Lib.hid hn;have HB:=Lib.hid hb;have HQ:=Lib.hid hq;obtain⟨pl,hpl⟩:∃ k,k=p.length:=⟨_,rfl⟩;have hnl:n=pl+1+q.length:=by rw [hn,List.length_append,List.length_cons,hpl]; omega
 rw [<- hpl] at HI;have HPL:=Lib.hid hpl;obtain⟨z0,hz0,hz1,hz2⟩:=info_parts Q3I;have hm1:((pl:Int) == -1)=false:=by rw [beq_eq_false_iff_ne]; omega
 have HNL:=Lib.hid hnl;have hnp:pl<n:=by omega
 obtain⟨pq,hpq⟩:∃ k,k=(p++q).length:=⟨_,rfl⟩;rw [<- hpq];have HPQ:=Lib.hid hpq;clear h hn hp hq hb hpl hnl hpq;go_enter Tryz.func168,Tryz.ntmps168
 go_wp2_with fail
 refine HI.out.mono ?_;rintro _ _ ⟨rfl,rfl⟩;clear HI;go_wp2_with fail
 go_loopw [5,6,7] (fun iv jv _ wr=>∃ (k m m2:Nat),m=pl+k/\m2=m+1/\k<=q.length/\iv=.int .i64 (m:Int)/\jv=.int .i64 (m2:Int)/\(∃ x,RowN wr g cap (p++q.take k++x :: q.drop k))/\Only (fun b=>b=g) w wr) (fun _ jv _ _=>n - (intOf jv).toNat)
 case atStart=>exact⟨0,pl,pl+1,by omega,by omega,by omega,rfl,by go_num,⟨o,by simpa using HR.out⟩,Only.refl _ _⟩
 case round =>
  obtain⟨k,m,m2,hm,hm2,hk,rfl,rfl,⟨x,hrow⟩,hon⟩:=hrel;have HROW:=Lib.hid hrow;have HON:=Lib.hid hon;have HPL1:=HPL.out;have hnl:=HNL.out;have htk:(q.take k).length=k:=by rw [List.length_take]; omega
  have hll:(p++q.take k++x :: q.drop k).length=n:=by
   rw [List.length_append,List.length_append,List.length_cons,List.length_drop,htk]; omega
  have hg:=hrow.lt;by_cases hlt:k<q.length
  ·have hjI:(m2:Int)<(n:Int):=by omega
   have h0I:(0:Int)<=(m2:Int):=by omega
   have hz:(p++q.take k++x :: q.drop k)[m2]'(by omega)=q[k]:=by
    rw [List.getElem_append_right (by rw [List.length_append,htk]; omega)];have:m2 - (p++q.take k).length=1:=by rw [List.length_append,htk]; omega
    simp only [this,List.getElem_cons_succ,List.getElem_drop]
    simp
   have hcell:=HROW.out.at_ (i:=m2) (by omega);rw [hz] at hcell;have hne:¬ q[k]=o:=fun e=>HQ.out (e▸List.getElem_mem hlt)
   have hset:=HROW.out.set_ (i:=m) (by omega) q[k];have hse:(p++q.take k++x :: q.drop k).set m q[k]=p++q.take (k+1)++q[k] :: q.drop (k+1):=by
    rw [List.set_append,if_neg (by rw [List.length_append,htk]; omega)];have:m - (p++q.take k).length=0:=by rw [List.length_append,htk]; omega
    rw [this,List.set_cons_zero,List.drop_eq_getElem_cons hlt,List.take_succ_eq_append_getElem hlt];simp only [List.append_assoc,List.singleton_append]
   rw [hse] at hset;have hfz:=HROW.out.frozen m;have hob:w.cell? ⟨b,0,none⟩=some (.int .i64 o):=HB.out;have hlb:=World.block_lt_of_cell? _ _ hob;have hcb:wr.cell? ⟨b,0,none⟩=some (.int .i64 o):=(HON.out.cell hlb hbg).trans hob;have HC:=Lib.hid (Q6A b q[k] o wr hcb);rw [decide_eq_false hne] at HC;have hmI:(m:Int)<(n:Int):=by omega
   have hm0:(0:Int)<=(m:Int):=by omega
   have hcm:=HROW.out.at_ (i:=m) (by omega);generalize (p++q.take k++x :: q.drop k)[m]=y at hcm;generalize hqk:q[k]=z at hcell hset HC;have HSET:=Lib.hid hset;have HON2:=Lib.hid (HON.out.trans (Only.of_turned (N:=fun b=>b=g) (Q0c.setCell wr ⟨g,m,none⟩ (.int .i64 z)) rfl));have HM:=Lib.hid hm;have HM2:=Lib.hid hm2;have hmn1:m2<=n:=by omega
   clear hrow hon hset hse hz hne hqk hob hcb hnl HPL1 htk hll hm hm2;go_wp2_with fail
   refine HC.out.mono ?_;rintro _ _ ⟨rfl,rfl⟩;clear HC;go_wp2_with fail
   go_roundw
   case rel=>exact⟨k+1,m+1,m2+1,by have:=HM.out; omega,by have:=HM2.out; omega,by omega,by go_num,by go_num,⟨z,HSET.out⟩,HON2.out⟩
   case measure=>simp [intOf]; omega
  ·obtain rfl:k=q.length:=by omega
   have hjI:¬ (m2:Int)<(n:Int):=by omega
   have hpq:(p++q.take q.length++x :: q.drop q.length)=(p++q)++[x]:=by simp
   rw [hpq] at hrow hll;have hcx:=hrow.at_ (i:=m) (by omega);have hfz:=hrow.frozen m;have hset:=hrow.set_ (i:=m) (by omega) 0;have hse:((p++q)++[x]).set m 0=(p++q)++[0]:=by
    rw [List.set_append,if_neg (by rw [List.length_append]; omega)];have:m - (p++q).length=0:=by rw [List.length_append]; omega
    rw [this]; rfl
   rw [hse] at hset;have HPRE:=Lib.hid hset;have hcap1:=hrow.cap.1;rw [hll] at hcap1;have hcap2:¬ cap=m:=by omega
   have hmn:n - m=1:=by omega
   have hnm:n=m+1:=by omega
   have hlen:pq=m:=by rw [HPQ.out,List.length_append]; omega
   have HON2:=Lib.hid (HON.out.trans (Only.of_turned (N:=fun b=>b=g) (Q0c.setCell wr ⟨g,m,none⟩ (.int .i64 0)) rfl));have hcl:∀ ty,(Builtin.clear_ #[42] ty #[.slice (some ⟨g,m,none⟩) 1 (cap - m)]).run Tryz.prog wr=.ok (.tuple #[]) (wr.setCell ⟨g,m,none⟩ (.int .i64 0)):=fun ty=>by
    have:=Lib.run_clear_slice (P:=Tryz.prog) wr 42 3 ty (.int .i64 0) Tryz.underlying42 (fun w=>Tryz.zeroValue3 w) rfl rfl g m 1 (cap - m) (by omega) (fun j hj=>by
     obtain rfl:j=0:=by omega
     rw [Nat.add_zero,hcx]; rfl) (fun j hj=>by
     obtain rfl:j=0:=by omega
     rw [Nat.add_zero]; exact hfz)
    simpa [World.setCells] using this
   clear hrow hset hse hcx hpq hon hnl HPL1 htk hll hm hm2;subst hlen hnm;go_wp2_with fail
   go_ret
   exact⟨rfl,by first | exact HPRE.out | (rw [<- List.append_assoc]; exact HPRE.out),HON2.out⟩
theorem Qaa {zs:List Int} {o:Int} (hp:zs.Pairwise (· < ·)) (ho:o∈zs):∃ p q,zs=p++o :: q/\¬ o∈p/\¬ o∈q/\Q24 zs o=p++q:=by
 obtain⟨p,q,rfl⟩:=List.append_of_mem ho;have h:=List.pairwise_append.1 hp;have h2:=List.pairwise_cons.1 h.2.1;have hnp:¬ o∈p:=fun e=>by have:=h.2.2 o e o (List.mem_cons_self ..); omega
 have hnq:¬ o∈q:=fun e=>by have:=h2.1 o e; omega
 refine⟨p,q,rfl,hnp,hnq,?_⟩;unfold Q24;rw [List.filter_append,List.filter_cons_of_neg (by simp)];rw [List.filter_eq_self.2 fun x hx=>by simp; exact fun e=>hnp (e▸hx),List.filter_eq_self.2 fun x hx=>by simp; exact fun e=>hnq (e▸hx)]
theorem QbU (f:Nat) (A:Option Addr) (n c:Nat) (zs:List Int) (o:Int) (w:World) (h:Q0d w w.heap.size 1 A n (zs.map vn)) (hok:OkC f zs) (ho:o∈zs) :
 Calls Tryz.prog 146 #[.agg (crC f A n c),.int .i64 o] w fun e w'=>∃ v,e=.returned v/\(∃ g cap,v=.slice (some ⟨g,0,none⟩) (Q24 zs o).length cap/\w.heap.size<=g/\RowN w' g cap (Q24 zs o++[0]))/\Below w.heap.size w w':=by
 have hmf:∀ (fn:Fn) (first cap:Array Value) (w:World),(Instr.makeFunc fn first cap).run Tryz.prog w=.ok (.func fn first cap) w:=fun _ _ _ _=>rfl
 have hzn:zs.length=n:=by have:=h.1; simpa using this
 have hs:=hok.short;have hX:=((Below.refl w.heap.size w).alloc (Nat.le_refl _) (.cells (crC f A n c) 77)).alloc (by simp) (.cells #[.int .i64 o] 3);have HK:=Lib.hid ((Blk.newAt rfl:Blk (w.alloc (.cells (crC f A n c) 77)) w.heap.size 77 (crC f A n c)).alloc (.cells #[.int .i64 o] 3));have HO:=Lib.hid (Blk.newAt (by simp):Blk ((w.alloc (.cells (crC f A n c) 77)).alloc (.cells #[.int .i64 o] 3)) (w.heap.size+1) 3 #[.int .i64 o]);have hr1:=h.below hX;have hs1:((w.alloc (.cells (crC f A n c) 77)).alloc (.cells #[.int .i64 o] 3)).heap.size=w.heap.size+2:=by simp
 have hn7:n<=1000000:=by omega
 have HC:=Lib.hid (Q2U f A n c zs _ (hr1.more hX.size) (by omega));rw [Q3F hok,if_pos rfl] at HC;obtain⟨p,q,hzs,hnp,hnq,hd⟩:=Qaa hok.pair ho;have HX:=Lib.hid hX;have HR1:=Lib.hid hr1;have HZS:=Lib.hid hzs;have HNP:=Lib.hid hnp;have HNQ:=Lib.hid hnq;have HD:=Lib.hid hd;have HZN:=Lib.hid hzn;obtain⟨dl,hdl⟩:∃ k,k=(Q24 zs o).length:=⟨_,rfl⟩;rw [<- hdl];have HDL0:=Lib.hid hdl;clear hdl;obtain⟨D,hD⟩:∃ D,D=crC f A n c:=⟨_,rfl⟩;have hsz:D.size=2:=by rw [hD]; rfl
 have c1:D[1]?=some (.slice A n c):=by rw [hD]; rfl
 rw [<- hD] at HX HK HO HC HR1 hs1 ⊢;have C1:=Lib.hid c1;have HS1:=Lib.hid hs1;clear h hr1 hok hX hzs hnp hnq hd hD hzn c1 hs1;obtain⟨g,hg⟩:∃ g,g=w.heap.size:=⟨_,rfl⟩;obtain⟨g3,hg3⟩:∃ g,g=w.heap.size+1:=⟨_,rfl⟩;go_enter Tryz.func146,Tryz.ntmps146
 go_upto_region 1 with fail
 generalize World.alloc (World.alloc w _) _=w1 at HX HK HO HC HR1 HS1 ⊢;rw [<- hg3] at HO ⊢;rw [<- hg] at HK ⊢;have hs1:=HS1.out;have hg1:g<w1.heap.size:=by omega
 have hg31:g3<w1.heap.size:=by omega
 clear HS1 hs1 hg hg3;go_wp2_with (refine Q03 (o:=⟨some 5,_,_,_,_,_⟩) rfl 77 (.tmp 2) rfl g 0 2 rfl 77 _ D _ HK.out Tryz.underlying77 rfl rfl hsz (fun _ _=>by rw [Nat.zero_add]; try rfl) ?_)
 refine HC.out.mono ?_;rintro _ w2 ⟨rfl,hb2⟩;have HB2:=Lib.hid (HX.out.trans (hb2.mono HX.out.size));have hs2:=hb2.size;have c21:w2.cell? ⟨g,1,none⟩=some (.slice A n c):=((HK.out.below' hb2).cell 1).trans C1.out;have co2:w2.cell? ⟨g3,0,none⟩=some (.int .i64 o):=((HO.out.below' hb2).cell 0).trans rfl;have HCL:=Lib.hid (Q2Q A n c zs w2 w.heap.size (HR1.out.below (hb2.mono HX.out.size)) HB2.out.size (by omega));have CO2:=Lib.hid co2;clear hb2 HC HR1 HK HO co2;go_wp2_with fail
 refine HCL.out.mono ?_;rintro _ w3 ⟨v,rfl,how,hb3⟩;have hzl:0<zs.length:=by have:=HZN.out; omega
 obtain⟨g4,cap,rfl,hg4,hrow⟩:=RowN.of_own how hzl;rw [HZN.out];rw [HZS.out] at hrow;have HDL:=Lib.hid (Q9Z g4 cap g3 n p q o w3 hrow (by rw [<- HZS.out]; exact HZN.out.symm) HNP.out HNQ.out ((hb3.cell (show g3<w2.heap.size by omega)).trans CO2.out) (by omega) (by omega));rw [<- HD.out,<- HDL0.out] at HDL;have HB3:=Lib.hid (HB2.out.trans (hb3.mono HB2.out.size));have hs3:=HB2.out.size;clear how hrow hb3 HCL hzl c21;go_wp2_with fail
 refine HDL.out.mono ?_;rintro _ w4 ⟨rfl,hrow,hon⟩;have HOW:=Lib.hid hrow;have hgw4:w.heap.size<=g4:=by omega
 have HB4:=Lib.hid (HB3.out.trans (hon.below HB3.out.size fun b hb e=>by omega));clear hrow hon HDL;go_wp2_with fail
 go_ret
 exact⟨_,rfl,⟨g4,cap,rfl,hgw4,HOW.out⟩,HB4.out⟩
end
end Go.Proofs.YtcpngeiahgoacaaGreat
