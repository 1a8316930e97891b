/- Parts of the proof, in one text: OpenWish, OpenCrews, OpenWishes. -/
import Derived.Test.YtcpngeiahgoacaaGreatD5
import Derived.Test.YtcpngeiahgoacaaGreatD4
import Derived.Test.YtcpngeiahgoacaaGreatD14
namespace Go.Proofs.YtcpngeiahgoacaaGreat
set_option linter.unusedVariables false
set_option linter.unusedSimpArgs false
set_option maxRecDepth 100000
set_option maxHeartbeats 16000000
section
open Go.RowKit Go.WideShapes Go.ChangeShapes
theorem Q45 {H:Type} {P:Program} {t:TypeId} {fs:Array Field} {ds:List (DataW H)} (ht:P.underlying t=some (.struct fs)) (h:Light P t (.agg ds)) (j:Nat) (f:Field) (d:DataW H) (hf:fs[j]?=some f) (hd:ds[j]?=some d):Light P f.type d:=by
 unfold Light at h;rw [DataW.weights] at h;simp only [ht] at h;refine fun n hn=>h n (DataW.weights_mem_each (j:=j) ?_ hd n hn)
 rw [List.getElem?_map,Array.getElem?_toList,hf];rfl
section
variable {H:Type} {enc:TypeId×Value->H} {w:World} {held:Bool}
theorem Qdo {fuel:Nat} {cs:List Value} {x:DataW H×List MemPlace}
 (h:DataW.trod enc Tryz.prog w 0 (fun _=>true) held fuel 44 cs=some x) (hw:Light Tryz.prog 44 x.1) :
 ∃ (y:Wish) (A:Option Addr) (n c:Nat) (A':Option Addr) (n' c':Nat),cs=(Q05 y A n c A' n' c').toList/\Q0Y w w.heap.size y A n c A' n' c':=by
 obtain⟨xs,m,_,rfl,hl,hlen,hf⟩:=DataW.trod_struct Tryz.underlying44 h;have hl10:cs.length=10:=by rw [hl]; kernel_rfl
 match cs,hl10 with
 | [v0,v1,v2,v3,v4,v5,v6,v7,v8,v9],_ =>
  match xs,hlen with
  | [y0,y1,y2,y3,y4,y5,y6,y7,y8,y9],_ =>
   have e0:DataW.trod enc Tryz.prog w 0 (fun _=>true) held m 3 [v0]=some y0:=hf 0 _ rfl;have e1:DataW.trod enc Tryz.prog w 0 (fun _=>true) held m 3 [v1]=some y1:=hf 1 _ rfl;have e2:DataW.trod enc Tryz.prog w 0 (fun _=>true) held m 3 [v2]=some y2:=hf 2 _ rfl;have e3:DataW.trod enc Tryz.prog w 0 (fun _=>true) held m 3 [v3]=some y3:=hf 3 _ rfl;have e4:DataW.trod enc Tryz.prog w 0 (fun _=>true) held m 3 [v4]=some y4:=hf 4 _ rfl;have e5:DataW.trod enc Tryz.prog w 0 (fun _=>true) held m 3 [v5]=some y5:=hf 5 _ rfl;have e6:DataW.trod enc Tryz.prog w 0 (fun _=>true) held m 22 [v6]=some y6:=hf 6 _ rfl;have e7:DataW.trod enc Tryz.prog w 0 (fun _=>true) held m 3 [v7]=some y7:=hf 7 _ rfl;have e8:DataW.trod enc Tryz.prog w 0 (fun _=>true) held m 3 [v8]=some y8:=hf 8 _ rfl;have e9:DataW.trod enc Tryz.prog w 0 (fun _=>true) held m 42 [v9]=some y9:=hf 9 _ rfl;have l6:=Q45 Tryz.underlying44 hw 6 _ y6.1 rfl rfl;have l9:=Q45 Tryz.underlying44 hw 9 _ y9.1 rfl rfl;obtain⟨z0,q0,_,w0⟩:=DataW.trod_int Tryz.underlying3 e0;obtain⟨z1,q1,_,w1⟩:=DataW.trod_int Tryz.underlying3 e1;obtain⟨z2,q2,_,w2⟩:=DataW.trod_int Tryz.underlying3 e2;obtain⟨z3,q3,_,w3⟩:=DataW.trod_int Tryz.underlying3 e3;obtain⟨z4,q4,_,w4⟩:=DataW.trod_int Tryz.underlying3 e4;obtain⟨z5,q5,_,w5⟩:=DataW.trod_int Tryz.underlying3 e5;obtain⟨z7,q7,_,w7⟩:=DataW.trod_int Tryz.underlying3 e7;obtain⟨z8,q8,_,w8⟩:=DataW.trod_int Tryz.underlying3 e8;obtain⟨A,n,c,bs,q6,r6,h6,h6'⟩:=Qbl Tryz.underlying22 Tryz.underlying5 (by kernel_rfl) (by kernel_rfl) e6 l6;obtain⟨A',n',c',zs,q9,r9,h9,h9',hz⟩:=Q9i Tryz.underlying42 Tryz.underlying3 (by kernel_rfl) (by kernel_rfl) e9 l9;simp only [List.cons.injEq,and_true] at q0 q1 q2 q3 q4 q5 q6 q7 q8 q9;subst q0 q1 q2 q3 q4 q5 q6 q7 q8 q9;unfold reachBytes at h6' h9';exact⟨⟨z0,z1,z2,z3,z4,z5,bs,z7,z8,zs⟩,A,n,c,A',n',c',rfl,r6,h6,by omega,r9,h9,by omega,bounds_i64 w0,bounds_i64 w1,bounds_i64 w2,bounds_i64 w3,bounds_i64 w4,bounds_i64 w5,bounds_i64 w7,bounds_i64 w8,hz⟩
end
end
section
open Go.RowKit Go.WideShapes Go.ChangeShapes
theorem QcK {w:World} {a:Addr} {v:Value} (h:w.cell? a=some v):a.spot=none:=by
 unfold World.cell? at h;split at h
 ·split at h
  ·cases h
  ·rename_i hs;cases hq:a.spot with
   | none=>rfl
   | some q=>rw [hq] at hs; exact absurd rfl hs
 ·cases h
def CAt (w:World) (a:Addr) (i:Nat) (y:(Int×List Int)×(Option Addr×Nat)):Prop:=w.cell? (a.add (i*2))=some (.int .i64 y.1.1)/\w.cell? (a.add (i*2+1))=some (.slice y.2.1 y.1.2.length y.2.2)/\Q0d w w.heap.size 1 y.2.1 y.1.2.length (y.1.2.map vn)/\y.1.2.length<=17592186044416
section
variable {H:Type} {enc:TypeId×Value->H} {w:World} {held:Bool}
theorem Qdj {fuel:Nat} {cs:List Value} {x:DataW H×List MemPlace}
 (h:DataW.trod enc Tryz.prog w 0 (fun _=>true) held fuel 77 cs=some x) (hw:Light Tryz.prog 77 x.1) :
 ∃ (f:Int) (A:Option Addr) (c:Nat) (zs:List Int),cs=[.int .i64 f,.slice A zs.length c]/\Q0d w w.heap.size 1 A zs.length (zs.map vn)/\zs.length<=17592186044416:=by
 obtain⟨xs,m,_,rfl,hl,hlen,hf⟩:=DataW.trod_struct Tryz.underlying77 h;have hl2:cs.length=2:=by rw [hl]; kernel_rfl
 match cs,hl2 with
 | [v0,v1],_ =>
  match xs,hlen with
  | [y0,y1],_ =>
   have e0:DataW.trod enc Tryz.prog w 0 (fun _=>true) held m 3 [v0]=some y0:=hf 0 _ rfl;have e1:DataW.trod enc Tryz.prog w 0 (fun _=>true) held m 42 [v1]=some y1:=hf 1 _ rfl;have l1:=Q45 Tryz.underlying77 hw 1 _ y1.1 rfl rfl;obtain⟨z0,q0,_,w0⟩:=DataW.trod_int Tryz.underlying3 e0;obtain⟨A',n',c',zs,q9,r9,h9,h9',hz⟩:=Q9i Tryz.underlying42 Tryz.underlying3 (by kernel_rfl) (by kernel_rfl) e1 l1;simp only [List.cons.injEq,and_true] at q0 q9;subst q0 q9;unfold reachBytes at h9';have hzl:zs.length=n':=by have:=r9.1; simpa using this
   subst hzl;exact⟨z0,A',c',zs,rfl,r9,by omega⟩
theorem open_crews {fuel:Nat} {cs:List Value} {x:DataW H×List MemPlace}
 (h:DataW.trod enc Tryz.prog w 0 (fun _=>true) held fuel 74 cs=some x) (hw:Light Tryz.prog 74 x.1) :
 ∃ (A:Option Addr) (n c:Nat) (l:List (Int×List Int)),cs=[.slice A n c]/\Q2V w A n l/\n<=c/\n<=4398046511104:=by
 have hC:Tryz.prog.cellsOf 77=2:=by kernel_rfl
 have hBy:Tryz.prog.bytesOf 77=32:=by kernel_rfl
 rcases Deep.open_slice Tryz.underlying74 h with⟨rfl,rfl⟩ | ⟨a,len,cap,m,n,D,Pl,rfl,_,hl,hm,hmm,rfl,hx⟩
 ·exact⟨none,0,0,[],rfl,⟨rfl,fun h=>absurd h (by omega)⟩,Nat.le_refl _,Nat.zero_le _⟩
 ·simp only [if_true] at hmm;subst hmm;have hlight:=Q3G Tryz.underlying74 hw;have hlt:=hlight.1;rw [hBy] at hlt;simp only [List.length_map,List.length_range] at hlt;unfold reachBytes at hlt;rw [hC] at hx;have each:∀ i,i<len->∃ y:(Int×List Int)×(Option Addr×Nat),CAt w a i y:=by
   intro i hi;obtain⟨cs',h1,h2⟩:=hx i (by omega);obtain⟨_,hcl,hat⟩:=World.cells?_some h1;obtain⟨f,A,c,zs,hcs,hr,hz⟩:=Qdj h2 (hlight.2 _ (.inl (List.mem_map.2 ⟨i,List.mem_range.2 hi,rfl⟩)));have e0:=hat 0 (by omega);have e1:=hat 1 (by omega);rw [hcs] at e0 e1;refine⟨((f,zs),(A,c)),?_,?_,hr,hz⟩
   ·have:(a.add (i*2)).add 0=a.add (i*2):=by unfold Addr.add; simp
    rw [this] at e0;exact e0
   ·rw [Q1L] at e1;exact e1
  obtain⟨y,hy⟩:=Go.Deep.choose_lt (α:=(Int×List Int)×(Option Addr×Nat)) (p:=fun i y=>CAt w a i y) each;refine⟨some a,len,m,(List.range len).map fun i=>(y i).1,rfl,⟨by simp,fun hn=>?_⟩,hl,by omega⟩;have h0:=(hy 0 hn).1;have ha0:a.add (0*2)=a:=by unfold Addr.add; simp
  rw [ha0] at h0;have hsp:=QcK h0;have hb:=World.block_lt_of_cell? _ _ h0;have hae:a=⟨a.block,a.off,none⟩:=by cases a; simp at hsp; rw [hsp]
  have hadd:∀ k,a.add k=⟨a.block,a.off+k,none⟩:=fun k=>by
   unfold Addr.add;split
   ·rename_i e; subst e; exact hae
   ·rfl
  refine⟨a.block,a.off,by rw [<- hae],hb,fun j f zs hj=>?_⟩;rw [List.getElem?_map] at hj;rcases Nat.lt_or_ge j len with hjl | hjl
  ·rw [List.getElem?_range hjl] at hj;simp only [Option.map_some,Option.some.injEq] at hj;obtain⟨h1,h2,h3,h4⟩:=hy j hjl;rw [hj] at h1 h2 h3 h4;rw [hadd] at h1 h2;exact⟨_,_,h1,h2,h3,h4⟩
  ·rw [List.getElem?_eq_none (by simpa using hjl)] at hj;simp at hj
end
end
section
open Go.RowKit Go.WideShapes Go.ChangeShapes
instance wishInh:Inhabited Wish:=⟨Q22⟩
def WAt (w:World) (a:Addr) (i:Nat) (y:Wish×(Option Addr×Nat×Nat)×(Option Addr×Nat×Nat)):Prop:=(∀ (j:Nat) (v:Value),(Q05 y.1 y.2.1.1 y.2.1.2.1 y.2.1.2.2 y.2.2.1 y.2.2.2.1 y.2.2.2.2)[j]?=some v->w.cell? (a.add (10*i+j))=some v)/\Q0Y w w.heap.size y.1 y.2.1.1 y.2.1.2.1 y.2.1.2.2 y.2.2.1 y.2.2.2.1 y.2.2.2.2
section
variable {H:Type} {enc:TypeId×Value->H} {w:World} {held:Bool}
theorem Q9t {fuel:Nat} {cs:List Value} {x:DataW H×List MemPlace}
 (h:DataW.trod enc Tryz.prog w 0 (fun _=>true) held fuel 75 cs=some x) (hw:Light Tryz.prog 75 x.1) :
 ∃ (A:Option Addr) (n c:Nat) (l:List Wish),cs=[.slice A n c]/\Q8u w w.heap.size A n l/\n<=c/\n<=1256584717421:=by
 have hC:Tryz.prog.cellsOf 44=10:=by kernel_rfl
 have hBy:Tryz.prog.bytesOf 44=112:=by kernel_rfl
 rcases Deep.open_slice Tryz.underlying75 h with⟨rfl,rfl⟩ | ⟨a,len,cap,m,n,D,Pl,rfl,_,hl,hm,hmm,rfl,hx⟩
 ·exact⟨none,0,0,[],rfl,⟨rfl,fun h=>absurd h (by omega)⟩,Nat.le_refl _,Nat.zero_le _⟩
 ·simp only [if_true] at hmm;subst hmm;have hlight:=Q3G Tryz.underlying75 hw;have hlt:=hlight.1;rw [hBy] at hlt;simp only [List.length_map,List.length_range] at hlt;unfold reachBytes at hlt;rw [hC] at hx;have each:∀ i,i<len->∃ y:Wish×(Option Addr×Nat×Nat)×(Option Addr×Nat×Nat),WAt w a i y:=by
   intro i hi;obtain⟨cs',h1,h2⟩:=hx i (by omega);obtain⟨_,hcl,hat⟩:=World.cells?_some h1;obtain⟨y,A,n1,c1,A',n2,c2,hcs,hwi⟩:=Qdo h2 (hlight.2 _ (.inl (List.mem_map.2 ⟨i,List.mem_range.2 hi,rfl⟩)));refine⟨(y,(A,n1,c1),(A',n2,c2)),fun j v hv=>?_,hwi⟩;have hj:j<10:=by
    rcases Nat.lt_or_ge j 10 with h | h
    ·exact h
    ·rw [Array.getElem?_eq_none (by rw [show (Q05 y A n1 c1 A' n2 c2).size=10 from rfl]; exact h)] at hv; cases hv
   have hc:=hat j hj;rw [hcs,Array.getElem?_toList,hv] at hc;rw [show 10*i+j=i*10+j by omega,<- Q1L];exact hc
  obtain⟨y,hy⟩:=Go.Deep.choose_lt (α:=Wish×(Option Addr×Nat×Nat)×(Option Addr×Nat×Nat)) (p:=fun i y=>WAt w a i y) each;refine⟨some a,len,m,(List.range len).map fun i=>(y i).1,rfl,⟨by simp,fun hn=>⟨a,rfl,?_,fun j x hj=>?_⟩⟩,hl,by omega⟩
  ·have:=(hy 0 hn).1 0 _ rfl;have hb:=World.block_lt_of_cell? _ _ this
   rwa [Q0e] at hb
  ·rw [List.getElem?_map] at hj;rcases Nat.lt_or_ge j len with hjl | hjl
   ·rw [List.getElem?_range hjl] at hj;simp only [Option.map_some,Option.some.injEq] at hj;subst hj;obtain⟨h1,h2⟩:=hy j hjl;exact⟨_,_,_,_,_,_,h1,h2⟩
   ·rw [List.getElem?_eq_none (by simpa using hjl)] at hj;simp at hj
theorem open_wishes {fuel:Nat} {cs:List Value} {x:DataW H×List MemPlace}
 (h:DataW.trod enc Tryz.prog w 0 (fun _=>true) held fuel 75 cs=some x) (hw:Light Tryz.prog 75 x.1) :
 ∃ (A:Option Addr) (n c:Nat) (l:List Wish),cs=[.slice A n c]/\Q8u w w.heap.size A n l/\n<=c/\n<=2000000000000:=by
 obtain⟨A,n,c,l,h1,h2,h3,h4⟩:=Q9t h hw;exact⟨A,n,c,l,h1,h2,h3,by omega⟩
end
end
end Go.Proofs.YtcpngeiahgoacaaGreat
