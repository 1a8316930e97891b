/- Parts of the proof, in one text: TreeA, TreeB, TreeC, TreeD, TreeE. -/
import Derived.Test.YtcpngeiahgoacaaGreatD5
import Derived.BigRegion
namespace Go.Proofs.YtcpngeiahgoacaaGreat
set_option linter.unusedVariables false
set_option linter.unusedSimpArgs false
set_option maxRecDepth 100000
set_option maxHeartbeats 16000000
section
open Go.RowKit Go.Maps
structure Only (N:Nat->Prop) (w w':World):Prop where
 os:w'.os=w.os
 tape:w'.tape=w.tape
 output:w'.output=w.output
 size:w.heap.size<=w'.heap.size
 block:∀ i,i<w.heap.size->¬ N i->w'.heap[i]?=w.heap[i]?
theorem Only.refl (N:Nat->Prop) (w:World):Only N w w:=⟨rfl,rfl,rfl,Nat.le_refl _,fun _ _ _=>rfl⟩
theorem Only.trans {N:Nat->Prop} {a b c:World} (h:Only N a b) (h':Only N b c):Only N a c :=
 ⟨h'.os.trans h.os,h'.tape.trans h.tape,h'.output.trans h.output,Nat.le_trans h.size h'.size,fun i hi hn=>(h'.block i (Nat.lt_of_lt_of_le hi h.size) hn).trans (h.block i hi hn)⟩
theorem Only.of_book {k:Book} {w w':World} (h:Q0t k w w'):Only k.has w w':=⟨h.os,h.tape,h.output,h.size,h.block⟩
theorem Only.of_below {N:Nat->Prop} {w w':World} (h:Below w.heap.size w w'):Only N w w':=⟨h.os,h.tape,h.output,h.size,fun i hi _=>h.block i hi⟩
theorem Only.mono {N N':Nat->Prop} {w w':World} (h:Only N w w') (hN:∀ b,b<w.heap.size->N b->N' b):Only N' w w':=⟨h.os,h.tape,h.output,h.size,fun i hi hn=>h.block i hi (fun e=>hn (hN i hi e))⟩
theorem Only.of_grown {N:Nat->Prop} {w w':World} {b:Nat} (h:w.grownBy w' (some b)) (hb:N b):Only N w w':=⟨h.os,h.tape,h.output,h.size,fun i hi hn=>h.block i hi (fun e=>hn (by injection e with e; exact e▸hb))⟩
theorem Only.of_turned {N:Nat->Prop} {w w':World} {b:Nat} (h:Q0c b w w') (hb:N b):Only N w w':=Only.of_grown h.grown hb
theorem Only.drewN {N:Nat->Prop} {w w':World} (h:Only N w w') (n:Nat):Only N w (w'.drewN n):=⟨h.os,h.tape,h.output,h.size,h.block⟩
theorem Only.below {N:Nat->Prop} {w w':World} (h:Only N w w') {B:Nat} (hB:B<=w.heap.size) (hn:∀ b,b<B->¬ N b):Below B w w':=⟨h.os,h.tape,h.output,h.size,fun i hi=>h.block i (by omega) (hn i hi)⟩
theorem Only.blk {N:Nat->Prop} {w w':World} {g:Nat} {t:TypeId} {cs:Array Value} (h:Only N w w') (hb:Blk w g t cs) (hg:¬ N g):Blk w' g t cs:=(h.block g hb.lt hg).trans hb
theorem Only.cell {N:Nat->Prop} {w w':World} (h:Only N w w') {p:Addr} (hp:p.block<w.heap.size) (hn:¬ N p.block):w'.cell? p=w.cell? p:=World.cell?_of_block (h.block p.block hp hn)
theorem Only.reads {N:Nat->Prop} {w w':World} {size n:Nat} {A:Option Addr} {xs:List Value} (h:Only N w w') (hr:Q0d w w.heap.size size A n xs) (hn:∀ a,0<n->A=some a->¬ N a.block):Q0d w' w'.heap.size size A n xs :=
 ⟨hr.1,fun h0=>by
  obtain⟨ad,e,hb,hc⟩:=hr.2 h0;exact⟨ad,e,by have:=h.size; omega,fun j u hu=>(h.cell (by rw [Q0e]; exact hb) (by rw [Q0e]; exact hn ad h0 e)).trans (hc j u hu)⟩⟩
theorem Q0A.only {w w':World} {k:Book} {l:List (List UInt8)} {n:Nat} {N:Nat->Prop} (h:Q0A w k l n) (ho:Only N w w') (hg:¬ N k.g) (h1:¬ N k.b1) (h2:¬ N k.b2):Q0A w' k l n:=by
 obtain⟨D1,D2,n1,n2,m1,m2,m3⟩:=h.maps;have hl:=h.lt;refine⟨(ho.block _ hl.1 hg).trans h.cells,⟨D1,D2,n1,n2,?_,?_,m3⟩,h.len,h.apart⟩
 ·obtain⟨es,c,hb,F,hs,hD⟩:=m1;exact⟨es,c,(ho.block _ hl.2.1 h1).trans hb,F,hs,hD⟩
 ·obtain⟨es,c,hb,F,hs,hD⟩:=m2;exact⟨es,c,(ho.block _ hl.2.2 h2).trans hb,F,hs,hD⟩
def Q0q (ds:List (List UInt8)):List Value:=ds.flatMap fun d=>d.map vb
theorem Q1W:∀ {ds:List (List UInt8)},Digs ds->(Q0q ds).length=ds.length*32
 | [],_=>rfl
 | d :: t,h=>by
  have h1:=h d (List.mem_cons_self ..);have h2:=Q1W (ds:=t) fun e he=>h e (List.mem_cons_of_mem _ he)
  unfold Q0q at h2 ⊢;simp only [List.flatMap_cons,List.length_append,List.length_map,List.length_cons];omega
theorem Q4m (a b:List (List UInt8)):Q0q (a++b)=Q0q a++Q0q b:=by simp [Q0q]
theorem Q3u:∀ {ds:List (List UInt8)} (hd:Digs ds) (i j:Nat) {d:List UInt8},ds[i]?=some d->j<32->(Q0q ds)[i*32+j]?=(d.map vb)[j]?
 | [],_,i,j,d,h,_=>by simp at h
 | e :: t,hd,0,j,d,h,hj=>by
  simp only [List.getElem?_cons_zero,Option.some.injEq] at h;subst h;have h1:=hd e (List.mem_cons_self ..);unfold Q0q;rw [List.flatMap_cons,List.getElem?_append_left (by simp [h1]; omega),show 0*32+j=j by omega]
 | e :: t,hd,i+1,j,d,h,hj=>by
  have h1:=hd e (List.mem_cons_self ..);have h2:=Q3u (ds:=t) (fun x hx=>hd x (List.mem_cons_of_mem _ hx)) i j (d:=d) (by simpa using h) hj;unfold Q0q at h2 ⊢;rw [List.flatMap_cons,List.getElem?_append_right (by simp [h1]; omega),<- h2];congr 1
  simp [h1];omega
theorem Q6V:∀ {ds:List (List UInt8)} (hd:Digs ds) (i:Nat),(Q0q ds).drop (i*32)=Q0q (ds.drop i)
 | [],_,i=>by simp [Q0q]
 | e :: t,_,0=>by simp
 | e :: t,hd,i+1=>by
  have h1:=hd e (List.mem_cons_self ..);have h2:=Q6V (ds:=t) (fun x hx=>hd x (List.mem_cons_of_mem _ hx)) i;rw [List.drop_succ_cons,<- h2];unfold Q0q;rw [List.flatMap_cons,show (i+1)*32=(e.map vb).length+i*32 by simp [h1]; omega,List.drop_append,Nat.add_sub_cancel_left,List.drop_of_length_le (by omega),List.nil_append]
theorem Q6p:∀ {ds:List (List UInt8)} (hd:Digs ds) (i:Nat),(Q0q ds).take (i*32)=Q0q (ds.take i)
 | [],_,i=>by simp [Q0q]
 | e :: t,_,0=>by simp [Q0q]
 | e :: t,hd,i+1=>by
  have h1:=hd e (List.mem_cons_self ..);have h2:=Q6p (ds:=t) (fun x hx=>hd x (List.mem_cons_of_mem _ hx)) i;rw [List.take_succ_cons];unfold Q0q at h2 ⊢;rw [List.flatMap_cons,List.flatMap_cons,<- h2,show (i+1)*32=(e.map vb).length+i*32 by simp [h1]; omega,List.take_length_add_append]
theorem Q1T:inkZ=#[.int .u8 0,.int .u8 0,.int .u8 0,.int .u8 0,.int .u8 0,.int .u8 0,.int .u8 0,.int .u8 0,.int .u8 0,.int .u8 0,.int .u8 0,.int .u8 0,.int .u8 0,.int .u8 0,.int .u8 0,.int .u8 0,.int .u8 0,.int .u8 0,.int .u8 0,.int .u8 0,.int .u8 0,.int .u8 0,.int .u8 0,.int .u8 0,.int .u8 0,.int .u8 0,.int .u8 0,.int .u8 0,.int .u8 0,.int .u8 0,.int .u8 0,.int .u8 0]:=by kernel_rfl
theorem Q7R {w:World} {k:Book} {A:Option Addr} {n:Nat} {B:Nat} (hB:∀ ad,A=some ad->B<=ad.block) (hk:k.g<B/\k.b1<B/\k.b2<B):∀ a,0<n->A=some a->¬ k.has a.block:=fun a _ ha e=>by
 have:=hB a ha;rcases e with e | e | e <;> omega
theorem Q0E {d:List UInt8} (h:d.length=32):(bRow d).size=32:=by rw [Q1j,h]
theorem QaO (k:Book) (L:List (List UInt8)) (asked:Nat) (A:Option Addr) (n c:Nat) (xs:List UInt8) (w:World) (B:Nat) (hbk:Q0A w k L asked) (h:Q0d w B 1 A n (xs.map vb)) (hB:B<=w.heap.size) (hn:n<65536) (has:asked<=1000000) :
 Calls Tryz.prog 148 #[.pointer (some ⟨k.g,0,none⟩),.slice A n c] w fun e w'=>e=.returned (.tuple #[.agg (bRow (Q1A xs)),.int .i64 0])/\Q0A w' k (Q10 L (Q2l xs)) (asked+1)/\Q0t k w w':=by
 have hxn:xs.length=n:=by have:=h.1; simpa using this
 have HXN:=Lib.hid hxn;have hX:Below w.heap.size w (w.alloc (.cells inkZ 60)):=(Below.refl _ _).alloc (Nat.le_refl _) _;have hk0:Blk (w.alloc (.cells inkZ 60)) w.heap.size 60 inkZ:=Blk.newAt (by simp);have hlt:=hbk.lt;have hlt1:=hlt.1;have hlt2:=hlt.2.1;have hlt3:=hlt.2.2;have HBK:=Lib.hid hbk;have HRD:=Lib.hid h;obtain⟨i0,hi0,hz0,hz1,hz2⟩:=info_parts Q1O;have HZ:=Lib.hid Q1T;have HZS:=Lib.hid (show inkZ.size=32 by simp [inkZ,bRow]);have hs0:(w.alloc (.cells inkZ 60)).heap.size=w.heap.size+1:=by simp
 have HX:=Lib.hid hX;have HK0:=Lib.hid hk0;have HS0:=Lib.hid hs0;clear h hlt hbk hX hk0 hs0 hxn;obtain⟨g,hg⟩:∃ g,g=w.heap.size:=⟨_,rfl⟩;have hnn:¬ (65536:Int)<=(n:Int):=by omega
 go_enter Tryz.func148,Tryz.ntmps148
 go_upto_region 1 with fail
 rw [<- HZ.out];generalize World.alloc w _=w1 at HX HK0 HS0 ⊢;rw [<- hg] at HK0 HS0 ⊢;have hs1:=HX.out.size;have hg1:g<w1.heap.size:=by have:=HS0.out; omega
 have hgw:w.heap.size<=g:=by omega
 have HRD1:=Lib.hid (HRD.out.below (HX.out.mono hB));have HW0:=Lib.hid (World.ownsRow_lit (base:=w1.heap.size) (e:=5) (size:=1) w1 #[.int .u8 0] 1 (Nat.le_refl _) (by unfold maxLen; omega) rfl);have HRD2:=Lib.hid (HRD1.out.alloc (by omega) (.cells #[.int .u8 0] 5));clear HS0 hg;go_wp2_with (at_builtin; go_must (refine Q06 _ rfl (.tmp 11) (.tmp 12) 22 rfl w1.heap.size 5 i0 _ 1 1 Tryz.underlying22 hi0 hz0 hz1 hz2 rfl (by omega) _ 1 _ rfl HW0.out B A n c (xs.map vb) rfl HRD2.out ?c1 ?c2 ?c3 (by simp) ?_))
 case c1=>intro u hu; rfl
 case c2=>unfold maxLen; omega
 case c3=>omega
 intro v2 w2 hown2 hg2 hor2;have hb2:Below w1.heap.size w1 w2:=Q0k ((Below.refl _ _).alloc (Nat.le_refl _) _) (by simp) hg2 (fun b hb=>by
  have:b=w1.heap.size:=by simpa [Value.ownBlock] using hb.symm
  omega)
 have hob:OwnB w2 w1.heap.size v2 (Q2l xs):=by
  unfold OwnB Q2l;rw [List.length_cons,HXN.out,List.map_cons,Nat.add_comm];exact hown2
 obtain⟨Ab,cb,rfl,hbc,hbm,hbr,hbB⟩:=Q0p hob;have hll:(Q2l xs).length=n+1:=by unfold Q2l; rw [List.length_cons,HXN.out]
 rw [hll] at hbc hbr ⊢;have HB2:=Lib.hid (HX.out.trans (hb2.mono hs1));have HK2:=Lib.hid (HK0.out.under hb2);have HBK2:=Lib.hid (HBK.out.below HB2.out);have hs2:=hb2.size;have hap:=Q7R (w:=w) (k:=k) (n:=n+1) hbB (by omega);have hof:=Q9h k L asked Ab (n+1) cb (Q2l xs) w2 _ HBK2.out hbr (Nat.le_refl _) (fun a h0 ha e=>hap a h0 ha (.inl e)) hbc hbm (by omega) has;have hsz:(bRow (Q1A xs)).size=32:=Q0E (Q2j xs);have hon:=Q0K (Q1A xs);have HOF:=Lib.hid hof;have hdd:Q1A xs=Q14 (Q2l xs):=rfl;rw [<- hdd] at HOF;obtain⟨D,hD⟩:∃ D,D=bRow (Q1A xs):=⟨_,rfl⟩;rw [<- hD] at HOF hsz hon;have HD:=Lib.hid hD;have HSZ:=Lib.hid hsz;have HON:=Lib.hid hon;clear hob hb2 hown2 hg2 hor2 hbr hbB hap hof hsz hon hdd hD HRD1 HRD2 HW0 hll;go_wp2_with fail
 refine HOF.out.mono ?_;rintro _ w3 ⟨rfl,hbk3,ho3⟩;have HO3:=Lib.hid ((Q0t.of_below HB2.out).trans ho3);have hk3:Blk w3 g 60 inkZ:=(ho3.block g (by omega) (by rintro (e | e | e) <;> omega)).trans HK2.out;have HK3:=Lib.hid hk3;have HBK3:=Lib.hid hbk3;have hs3:=ho3.size;clear hbk3 ho3 hk3;go_wp2_with (refine Q01 (o:=⟨none,_,_,_,_,_⟩) rfl 60 (.tmp 4) (.tmp 15) rfl g 0 D rfl rfl 60 inkZ HK3.out (by rw [HSZ.out]; rfl) (by rw [HSZ.out,HZS.out]; omega) HON.out ?_; intro w5 hT5 hD5; rw [Q08 _ _ (by rw [HSZ.out,HZS.out])] at hD5)
 refine bodyPost_ret (Q0b rfl _ _ g 32 60 _ _ rfl hD5 Tryz.underlying60 rfl rfl HSZ.out) rfl ⟨by rw [HD.out]; rfl,?_,?_⟩
 ·exact HBK3.out.grown hT5.grown ⟨by omega,by omega,by omega⟩
 ·exact HO3.out.grown hT5.grown (by omega)
theorem Q2I {P:Program} {t e:TypeId} {m:Nat} (ht:P.underlying t=some (.slice e)) (hs:(P.info? e).map (·.size)=some m) (A:Option Addr) (len cap l h:Nat) (li hi:Int) (el:li=l) (eh:hi=h) (hlh:l<=h) (hh:h<=cap) (W:World) :
 (Instr.slice t (.slice A len cap) (some (.int .i64 li)) (some (.int .i64 hi)) none).run P W=.ok (.slice (if cap=l then A else A.map (·.add (l*m))) (h - l) (cap - l)) W:=by
 subst el eh;obtain⟨i,hi,hsz⟩:∃ i,P.info? e=some i/\i.size=m:=by
  cases hh:P.info? e with
  | none=>rw [hh] at hs; cases hs
  | some i=>rw [hh] at hs; exact⟨i,rfl,by simpa using hs⟩
 have he:P.elem t=e:=by simp [Program.elem,ht]
 rw [run_slice_lh W t A len cap (by rw [he]; exact ht) .i64 .i64 (l:Int) (h:Int) (by omega) (by omega) (by omega)];simp [he,sizeOf,typeInfo,hi,hsz,sliced]
theorem Q0d.sub {w:World} {B size n:Nat} {A:Option Addr} {xs:List Value} (h:Q0d w B size A n xs) {l k cap:Nat} (hlk:l<=k) (hk:k<=n) (hc:n<=cap) :
 Q0d w B size (if cap=l then A else A.map (·.add (l*size))) (k - l) ((xs.drop (l*size)).take ((k - l)*size)):=by
 have hx:=h.1;have hm:l*size<=k*size:=Nat.mul_le_mul_right _ hlk;have hm2:k*size<=n*size:=Nat.mul_le_mul_right _ hk;refine⟨by rw [List.length_take,List.length_drop,hx,Nat.sub_mul]; omega,fun hn=>?_⟩;obtain⟨ad,rfl,hb,hcell⟩:=h.2 (by omega);rw [if_neg (by omega)];refine⟨ad.add (l*size),rfl,by rw [Q0e]; exact hb,fun j u hu=>?_⟩;rw [Q1L];rw [List.getElem?_take] at hu;split at hu
 ·exact hcell _ u (by rw [<- hu,List.getElem?_drop])
 ·cases hu
theorem Q67 {P:Program} {t e:TypeId} {n:Nat} (ht:P.underlying t=some (.array n e)) (hs:(P.info? e).map (·.size)=some 1) (hn:0<n) (a:Addr) (W:World) :
 (Instr.sliceAt t (.pointer (some a)) none none none).run P W=.ok (.slice (some (a.add 0)) n n) W:=by
 obtain⟨i,hi,hsz⟩:∃ i,P.info? e=some i/\i.size=1:=by
  cases hh:P.info? e with
  | none=>rw [hh] at hs; cases hs
  | some i=>rw [hh] at hs; exact⟨i,rfl,by simpa using hs⟩
 have he:P.elem t=e:=by simp [Program.elem,ht]
 have hln:P.arrayLen t=n:=by simp [Program.arrayLen,ht]
 rw [run_sliceAt_array_all W t a (by rw [he,hln]; exact ht)];simp [he,hln,sizeOf,typeInfo,hi,hsz,slicedAt,show ¬ n=0 by omega]
theorem Q9K {w:World} {g n:Nat} {t:TypeId} {cs:Array Value} (h:Blk w g t cs) (hn:cs.size=n):Q0d w w.heap.size 1 (some ⟨g,0,none⟩) n cs.toList :=
 ⟨by simp [hn],fun _=>⟨_,rfl,h.lt,fun j u hu=>by
  rw [Q13,Nat.zero_add,h.cell];simpa using hu⟩⟩
theorem Qbb:∀ (l:List Value) (k:Nat) (cs:Array Value),k+l.length<=cs.size->(l.zipIdx k).foldl (fun(cs:Array Value) (x:Value×Nat)=>cs.setIfInBounds x.2 x.1) cs=spl cs k l
 | [],k,cs,h=>by
  simp only [List.zipIdx_nil,List.foldl_nil];unfold spl;apply Array.toList_inj.1
  simp
 | v :: l,k,cs,h=>by
  rw [List.length_cons] at h;rw [List.zipIdx_cons,List.foldl_cons,Qbb l (k+1) _ (by rw [Array.size_setIfInBounds]; omega),QaV cs k v l h]
theorem Q4V (cs D:Array Value) (n:Nat) (h0:cs.size=n) (h1:D.size=n):Array.foldl (fun(cs:Array Value) (x:Value×Nat)=>cs.setIfInBounds x.2 x.1) cs D.zipIdx 0 n=D:=by
 subst h1;have e:D.size=D.zipIdx.size:=by simp
 rw [e,<- Array.foldl_toList,Array.toList_zipIdx,Qbb _ _ _ (by simp [h0]),Q08 _ _ h0.symm]
theorem Q3a:(Tryz.prog.info? 60).map (·.size)=some 32:=by kernel_rfl
theorem Q9b (A:Option Addr) (n c p:Nat) (w:World) (hp:4*p<=n) (hn:n<=1000000) (hc:n<=c) :
 Calls Tryz.prog 158 #[.slice A n c,.int .i64 (p:Int)] w fun e w'=>e=.returned (.slice (if c=4*p then A else A.map (·.add (4*p*32))) (min (4*p+4) n - 4*p) (c - 4*p))/\w=w':=by
 by_cases h4:(n:Int)<4*(p:Int)+4
 ·have hsl:=fun(W:World)=>Q2I (P:=Tryz.prog) (t:=189) Tryz.underlying189 Q3a A n c (4*p) n (4*(p:Int)) (n:Int) (by omega) rfl (by omega) (by omega) W
  rw [show min (4*p+4) n=n by omega];generalize (if c=4*p then A else A.map (·.add (4*p*32)))=A' at hsl ⊢;go_enter Tryz.func158,Tryz.ntmps158
  go_wp2
  go_ret
  exact⟨rfl,rfl⟩
 ·have hsl:=fun(W:World)=>Q2I (P:=Tryz.prog) (t:=189) Tryz.underlying189 Q3a A n c (4*p) (4*p+4) (4*(p:Int)) (4*(p:Int)+4) (by omega) (by omega) (by omega) (by omega) W
  rw [show min (4*p+4) n=4*p+4 by omega];generalize (if c=4*p then A else A.map (·.add (4*p*32)))=A' at hsl ⊢;go_enter Tryz.func158,Tryz.ntmps158
  go_wp2
  go_ret
  exact⟨rfl,rfl⟩
end
section
open Go.RowKit Go.Maps
attribute [local irreducible] wpList
theorem Q9E {ds:List (List UInt8)} (hd:Digs ds) {i:Nat} (hi:i<ds.length) {w:World} {ad:Addr} (h:∀ j u,(Q0q ds)[j]?=some u->w.cell? (ad.add j)=some u) :
 ∀ (j:Nat) (v:Value),(bRow ds[i])[j]?=some v->w.cell? ((ad.add (i*32)).add j)=some v:=fun j v hv=>by
 have hl:ds[i].length=32:=hd _ (List.getElem_mem hi);have hj:j<32:=by
  rcases Nat.lt_or_ge j 32 with h1 | h1
  ·exact h1
  ·rw [Array.getElem?_eq_none (by rw [Q1j,hl]; exact h1)] at hv; cases hv
 rw [Q1L];refine h _ v ?_;rw [Q3u hd i j (List.getElem?_eq_getElem hi) hj];simpa [bRow] using hv
theorem up_any (k:Book) (L:List (List UInt8)) (asked:Nat) (A:Option Addr) (n c:Nat) (ds:List (List UInt8)) (w:World) (B:Nat) (hbk:Q0A w k L asked) (h:Q0d w B 32 A n (Q0q ds)) (hB:B<=w.heap.size) (hd:Digs ds) (h1:1<=n) (h4:n<=4) (has:asked<=1000000) :
 Calls Tryz.prog 157 #[.pointer (some ⟨k.g,0,none⟩),.slice A n c] w fun e w'=>e=.returned (.tuple #[.agg (bRow (upD ds)),.int .i64 0])/\Q0A w' k (Q10 L (upIn ds)) (asked+1)/\Q0t k w w':=by
 have hxn:ds.length=n:=by have h2:=h.1; rw [Q1W hd] at h2; omega
 obtain⟨ad,rfl,hadb,hcell⟩:=h.2 (by omega);have HXN:=Lib.hid hxn;have HD:=Lib.hid hd;have HC:=Lib.hid hcell;have hX:Below w.heap.size w (w.alloc (.cells inkZ 60)):=(Below.refl _ _).alloc (Nat.le_refl _) _;have hk0:Blk (w.alloc (.cells inkZ 60)) w.heap.size 60 inkZ:=Blk.newAt (by simp);have hlt:=hbk.lt;have hlt1:=hlt.1;have hlt2:=hlt.2.1;have hlt3:=hlt.2.2;have HBK:=Lib.hid hbk;obtain⟨i0,hi0,hz0,hz1,hz2⟩:=info_parts Q1O;have HZ:=Lib.hid Q1T;have HZS:=Lib.hid (show inkZ.size=32 by simp [inkZ,bRow]);have hs0:(w.alloc (.cells inkZ 60)).heap.size=w.heap.size+1:=by simp
 have HX:=Lib.hid hX;have HK0:=Lib.hid hk0;have HS0:=Lib.hid hs0;clear h hlt hbk hX hk0 hs0 hxn hd hcell;obtain⟨g,hg⟩:∃ g,g=w.heap.size:=⟨_,rfl⟩;have hnn:¬ (n:Int)<1:=by omega
 have hnn4:¬ (4:Int)<(n:Int):=by omega
 go_enter Tryz.func157,Tryz.ntmps157
 go_upto_region 1 with fail
 rw [<- HZ.out];generalize World.alloc w _=w1 at HX HK0 HS0 ⊢;rw [<- hg] at HK0 HS0 ⊢;have hs1:=HX.out.size;have hg1:g<w1.heap.size:=by have:=HS0.out; omega
 have hgw:w.heap.size<=g:=by omega
 have hw0:=World.ownsRow_lit (base:=w1.heap.size) (e:=5) (size:=1) w1 #[.int .u8 1] 1 (Nat.le_refl _) (by unfold maxLen; omega) rfl;have hob0:OwnB (w1.alloc (.cells #[.int .u8 1] 5)) w1.heap.size (.slice (some ⟨w1.heap.size,0,none⟩) 1 1) (upIn (ds.take 0)):=hw0;have HW0:=Lib.hid hob0;have HX1:=Lib.hid (HX.out.trans ((Q07 w1 (.cells #[.int .u8 1] 5)).mono hs1));have HK1:=Lib.hid (HK0.out.under (Q07 w1 (.cells #[.int .u8 1] 5)));have hsz1:w1.heap.size<=(w1.alloc (.cells #[.int .u8 1] 5)).heap.size:=by simp
 have HSZ1:=Lib.hid hsz1;clear HS0 hg hw0 hob0 hsz1;go_wp2_with fail
 go_loopw [6,21] (fun ov iv wr=>∃ i:Nat,i<=n/\iv=.int .i64 i/\OwnB wr w1.heap.size ov (upIn (ds.take i))/\Below w.heap.size w wr/\Blk wr g 60 inkZ/\w1.heap.size<=wr.heap.size) (fun _ iv _=>n - (intOf iv).toNat)
 case atStart=>exact⟨0,by omega,rfl,HW0.out,HX1.out,HK1.out,HSZ1.out⟩
 case round =>
  obtain⟨i,hi,rfl,hov,hbel,hblk,hsr⟩:=hrel;have HOV:=Lib.hid hov;have HB:=Lib.hid hbel;have HKR:=Lib.hid hblk;have hsz:=hbel.size;have HUL:=Lib.hid (Q8S (fun d hd=>HD.out d (List.mem_of_mem_take hd):Digs (ds.take i)));clear hov hbel hblk;by_cases hin:i<n
  ·have hil:i<ds.length:=by have:=HXN.out; omega
   have hcs:=Q9E HD.out hil HC.out;have hcs':∀ (j:Nat) (v:Value),(bRow ds[i])[j]?=some v->wr.cell? ((ad.add (i*32)).add j)=some v:=fun j v hv=>(HB.out.cell (show ((ad.add (i*32)).add j).block<w.heap.size by rw [Q0e,Q0e]; omega)).trans (hcs j v hv)
   have htk:upIn (ds.take (i+1))=upIn (ds.take i)++ds[i]:=by
    unfold upIn;rw [List.take_succ_eq_append_getElem hil,List.flatten_append]
    simp
   have hdl:ds[i].length=32:=HD.out _ (List.getElem_mem hil);obtain⟨d,hdd⟩:∃ d,d=ds[i]:=⟨_,rfl⟩;rw [<- hdd] at hcs' htk hdl;have HCS:=Lib.hid hcs';have HTK:=Lib.hid htk;have hds:=Q0E hdl;have hdo:=Q0K d;have HDL:=Lib.hid hdl;have hdv:(bRow d).toList=d.map vb:=by simp [bRow]
   have HDV:=Lib.hid hdv;clear hcs hcs' htk hdd hdl hdv;obtain⟨D,hD⟩:∃ D,D=bRow d:=⟨_,rfl⟩;rw [<- hD] at HCS hds hdo HDV;have HDS:=Lib.hid hds;have HDO:=Lib.hid hdo;clear hds hdo hD;have hinI:(i:Int)<(n:Int):=by omega
   go_upto_region 7 with(first
    | (refine Q1v (o:=⟨some 24,_,_,_,_,_⟩) rfl 60 (.tmp 23) rfl (ad.add (i*32)) 32 rfl D _ Tryz.underlying60 rfl rfl HDS.out (fun j v hv=>HCS.out j v hv) ?_)
    | (refine Q01 (o:=⟨none,_,_,_,_,_⟩) rfl 60 (.tmp 8) (.tmp 24) rfl wr.heap.size 0 D rfl rfl 60 inkZ (by rw [HZ.out]; exact Blk.newAt rfl) (by rw [HDS.out]; rfl) (by rw [HDS.out,HZS.out]; omega) HDO.out ?_; intro w3 hT3 hD3; rw [Q08 _ _ (by rw [HDS.out,HZS.out])] at hD3))
   have hb3:Below wr.heap.size wr w3:=hT3.below ((Below.refl _ _).alloc (Nat.le_refl _) _) (Nat.le_refl _);have HB3:=Lib.hid (HB.out.trans (hb3.mono hsz));have HO3:=Lib.hid (HOV.out.below hb3);have HK3:=Lib.hid (HKR.out.under hb3);have hs3:=hb3.size;have hr3:=Q9K hD3 HDS.out;rw [HDV.out] at hr3;have HR3:=Lib.hid hr3;obtain⟨gq,hgq⟩:∃ gq,gq=wr.heap.size:=⟨_,rfl⟩;rw [<- hgq] at HR3 ⊢;have HSL:=Lib.hid (fun(W:World)=>Q67 (P:=Tryz.prog) (t:=60) Tryz.underlying60 (show (Tryz.prog.info? 5).map (·.size)=some 1 by kernel_rfl) (by omega) ⟨gq,0,none⟩ W);have hrow:=HO3.out.row;have hul:=HUL.out;have hlen:(ds.take i).length<=4:=by rw [List.length_take]; omega
   have HWN:=Lib.hid hrow;have hge:=fun b (hb:(_:Value).ownBlock=some b)=>HO3.out.ge hb
   have HGE:=Lib.hid hge;obtain⟨xb,hxb⟩:∃ xb,xb=upIn (ds.take i):=⟨_,rfl⟩;rw [<- hxb] at HWN hul HTK;have HXB:=Lib.hid hxb;clear hT3 hD3 hb3 hr3 hrow hgq hge hxb HOV HO3;go_wp2_with (first
    | (refine wpList_exec_w (o:=⟨some 26,_,_,_,_,_⟩) rfl (.slice (some ⟨gq,0,none⟩) 32 32) w3 (by
     have:=HSL.out w3
     go_simp
     exact this) ?_)
    | (at_builtin; go_must (refine Q06 (o:=⟨some 27,_,_,_,_,_⟩) _ rfl (.tmp 25) (.tmp 26) 22 rfl w1.heap.size 5 i0 _ 1 1 Tryz.underlying22 hi0 hz0 hz1 hz2 rfl (by omega) _ _ _ rfl HWN.out w3.heap.size (some ⟨gq,0,none⟩) 32 32 (d.map vb) rfl HR3.out ?c1 ?c2 ?c3 ?c4 ?_)))
   case c1=>intro u hu; first | rfl | (obtain⟨y,_,rfl⟩:=List.mem_map.1 hu; rfl)
   case c2=>unfold maxLen; omega
   case c3=>omega
   case c4=>omega
   intro v6 w6 hown6 hg6 hor6;have HB6:=Lib.hid (Q0k HB3.out (by omega) hg6 (fun b hb=>by have:=HGE.out b hb; omega));have hk6:Blk w6 g 60 inkZ:=HK3.out.grown hg6 (fun e=>by have:=HGE.out g e.symm; omega);have HK6:=Lib.hid hk6;have hs6:=hg6.size;have HO6:=Lib.hid (show OwnB w6 w1.heap.size v6 (upIn (ds.take (i+1))) by
    unfold OwnB;rw [HTK.out,List.length_append,List.map_append,HDL.out,hul,List.length_take];exact hown6)
   clear hown6 hg6 hor6 hk6;go_wp2_with fail
   go_roundw
   case rel=>exact⟨i+1,by omega,by go_num,HO6.out,HB6.out,HK6.out,by omega⟩
   case measure=>simp [intOf]; omega
  ·obtain rfl:i=n:=by omega
   have hiI:¬ (i:Int)<(i:Int):=by omega
   have htk:ds.take i=ds:=List.take_of_length_le (by have:=HXN.out; omega);rw [htk] at HOV HUL;have hob:=HOV.out;have hul:=HUL.out;obtain⟨Ab,cb,rfl,hbc,hbm,hbr,hbB⟩:=Q0p hob;have HBK2:=Lib.hid (HBK.out.below HB.out);have hap:=Q7R (w:=w) (k:=k) (n:=(upIn ds).length) hbB (by omega);have hof:=Q9h k L asked Ab (upIn ds).length cb (upIn ds) wr _ HBK2.out hbr (Nat.le_refl _) (fun a h0 ha e=>hap a h0 ha (.inl e)) hbc hbm (by have:=HXN.out; omega) has;have hsz5:(bRow (upD ds)).size=32:=Q0E (Q4P ds);have hon:=Q0K (upD ds);have HOF:=Lib.hid hof;have hdd:upD ds=Q14 (upIn ds):=rfl;rw [<- hdd] at HOF;obtain⟨D,hD⟩:∃ D,D=bRow (upD ds):=⟨_,rfl⟩;rw [<- hD] at HOF hsz5 hon;have HD5:=Lib.hid hD;have HSZ:=Lib.hid hsz5;have HON:=Lib.hid hon;generalize (upIn ds).length=ul at *;clear hob hbr hbB hap hof hsz5 hon hdd hD htk HOV HUL hul;go_wp2_with fail
   refine HOF.out.mono ?_;rintro _ w3 ⟨rfl,hbk3,ho3⟩;have HO3:=Lib.hid ((Q0t.of_below HB.out).trans ho3);have hk3:Blk w3 g 60 inkZ:=(ho3.block g (by omega) (by rintro (e | e | e) <;> omega)).trans HKR.out;have HK3:=Lib.hid hk3;have HBK3:=Lib.hid hbk3;have hs3:=ho3.size;clear hbk3 ho3 hk3;go_wp2_with (refine Q01 (o:=⟨none,_,_,_,_,_⟩) rfl 60 (.tmp 4) (.tmp 32) rfl g 0 D rfl rfl 60 inkZ HK3.out (by rw [HSZ.out]; rfl) (by rw [HSZ.out,HZS.out]; omega) HON.out ?_; intro w5 hT5 hD6; rw [Q08 _ _ (by rw [HSZ.out,HZS.out])] at hD6)
   refine bodyPost_ret (Q0b rfl _ _ g 32 60 _ _ rfl hD6 Tryz.underlying60 rfl rfl HSZ.out) rfl ⟨by rw [HD5.out]; rfl,?_,?_⟩
   ·exact HBK3.out.grown hT5.grown ⟨by omega,by omega,by omega⟩
   ·exact HO3.out.grown hT5.grown (by omega)
end
section
open Go.RowKit Go.Maps
theorem Q58 {j n:Nat}:j<grps n <-> 4*j<n:=by unfold grps; omega
theorem Q6j {ds:List (List UInt8)} (hd:Digs ds) (p:Nat) (hp:4*p<=ds.length):((Q0q ds).drop (4*p*32)).take ((min (4*p+4) ds.length - 4*p)*32)=Q0q (grp ds p):=by
 rw [Q6V hd,Q6p (fun d h=>hd d (List.mem_of_mem_drop h))];unfold grp;congr 1
 rcases Nat.lt_or_ge (ds.length - 4*p) 4 with h | h
 ·rw [List.take_of_length_le (by rw [List.length_drop]; omega),List.take_of_length_le (by rw [List.length_drop]; omega)]
 ·rw [show min (4*p+4) ds.length - 4*p=4 by omega]
def Q1H (ds:List (List UInt8)) (j:Nat):List (List UInt8):=(List.range j).map fun p=>upD (grp ds p)
theorem Q5k (ds:List (List UInt8)) (j:Nat):Q1H ds (j+1)=Q1H ds j++[upD (grp ds j)]:=by simp [Q1H,List.range_succ]
theorem Q6F:(Tryz.prog.info? 60).map (fun i=>(i.zero,i.size,i.bytes))=some (some (.agg inkZ),32,32):=by kernel_rfl
theorem tdiv4 (j:Nat):(4*(j:Int)).tdiv 4=(j:Int):=Int.mul_tdiv_cancel_left _ (by decide)
theorem Q5e (w:World) (cs:Array Value) (t:TypeId) (m:Nat) (h:cs.size=m):Q0d (w.alloc (.cells cs t)) (w.heap.size+1) m (some ⟨w.heap.size,0,none⟩) 1 cs.toList:=by
 obtain⟨_,h2⟩:=Q1m w cs t;refine⟨by simp [h],fun _=>?_⟩;rcases Nat.eq_zero_or_pos cs.size with h0 | h0
 ·exact⟨_,rfl,by simp,fun j u hu=>by
   have:cs.toList.length=0:=by simpa using h0
   rw [List.getElem?_eq_none (by omega)] at hu; cases hu⟩
 ·obtain⟨ad,h3,h4,h5⟩:=h2 h0;exact⟨ad,h3,h4,h5⟩
theorem Q0f {w w':World} {B n s:Nat} {e:TypeId} {v:Value} {vs:List Value} (h:w.ownsRow B e s v n vs) (hk:∀ b,v.ownBlock=some b->w'.heap[b]?=w.heap[b]?):w'.ownsRow B e s v n vs:=by
 rcases h.2 with hv | ⟨g,cap,cur,hv,h2,h3,h4⟩
 ·exact⟨h.1,.inl hv⟩
 ·exact⟨h.1,.inr ⟨g,cap,cur,hv,h2,(hk g (by rw [hv]; rfl)).trans h3,h4⟩⟩
theorem Q0a {w:World} {B b n s:Nat} {e:TypeId} {v:Value} {vs:List Value} (h:w.ownsRow B e s v n vs) (hb:v.ownBlock=some b):B<=b/\b<w.heap.size:=h.lt b hb
theorem Q2n {l:List (List UInt8)} {x y:List UInt8} (h:y∈l):y∈Q10 l x:=by
 unfold Q10;split
 ·exact h
 ·exact List.mem_append_left _ h
theorem Q3j (l:List (List UInt8)) (x:List UInt8):x∈Q10 l x:=by
 unfold Q10;split
 ·rename_i h; simpa using h
 ·exact List.mem_append_right _ (List.mem_singleton.2 rfl)
theorem QcV (k:Book) (L:List (List UInt8)) (asked:Nat) (A:Option Addr) (n c:Nat) (ds:List (List UInt8)) (w:World) (hbk:Q0A w k L asked) (h:Q0d w w.heap.size 32 A n (Q0q ds)) (hap:∀ a,0<n->A=some a->¬ k.has a.block) (hd:Digs ds) (hn:n<=1000) (hc:n<=c) (has:asked<=900000) :
 Calls Tryz.prog 171 #[.pointer (some ⟨k.g,0,none⟩),.slice A n c] w fun e w'=>∃ v L',e=.returned v/\w'.ownsRow w.heap.size 60 32 v (grps n) (Q0q (Q2m ds))/\Q0A w' k L' (asked+grps n)/\(∀ x,x∈L->x∈L')/\(∀ p,p<grps n->upIn (grp ds p)∈L')/\Q0t k w w':=by
 have hxn:ds.length=n:=by have h2:=h.1; rw [Q1W hd] at h2; omega
 have HXN:=Lib.hid hxn;have HD:=Lib.hid hd;have HR:=Lib.hid h;have HAP:=Lib.hid hap;have hlt:=hbk.lt;have HLT:=Lib.hid hlt;have HBK:=Lib.hid hbk;have HZS:=Lib.hid (show inkZ.size=32 by simp [inkZ,bRow]);have HZ:=Lib.hid Q1T;obtain⟨i0,hi0,hz0,hz1,hz2⟩:=info_parts Q6F;clear h hlt hbk hxn hd hap;have hgn:grps n<=251:=by unfold grps; omega
 go_enter Tryz.func171,Tryz.ntmps171
 go_wp2_with fail
 go_loopw [5,6] (fun ov iv wr=>∃ j:Nat,j<=grps n/\iv=.int .i64 (4*(j:Int))/\wr.ownsRow w.heap.size 60 32 ov j (Q0q (Q1H ds j))/\(∃ Lr,Q0A wr k Lr (asked+j)/\(∀ x,x∈L->x∈Lr)/\(∀ p,p<j->upIn (grp ds p)∈Lr))/\Q0t k w wr) (fun _ iv _=>n+8 - (intOf iv).toNat)
 case atStart=>exact⟨0,by omega,by simp,World.ownsRow_nil _ _ _ _,⟨L,HBK.out,fun _ h=>h,fun p hp=>by omega⟩,Q0t.refl _ _⟩
 case round =>
  obtain⟨j,hj,rfl,hov,⟨Lr,hbr,hLr,hLp⟩,hob⟩:=hrel;have HOV:=Lib.hid hov;have HB:=Lib.hid hbr;have HOB:=Lib.hid hob;have HLR:=Lib.hid hLr;have HLP:=Lib.hid hLp;have hsz:=hob.size;clear hov hbr hob hLr hLp;by_cases hjn:j<grps n
  ·have h4n:4*j<n:=Q58.1 hjn;have h4i:4*(j:Int)<(n:Int):=by omega
   have HQ:=Lib.hid (tdiv4 j);have hdv:=tdiv4 j;have hgr:=fun W=>Q9b A n c j W (by omega) (by omega) hc
   have hrs:Q0d wr wr.heap.size 32 (if c=4*j then A else A.map (·.add (4*j*32))) (min (4*j+4) n - 4*j) (Q0q (grp ds j)):=by
    have h1:=(Only.of_book HOB.out).reads HR.out HAP.out;have h2:=h1.sub (l:=4*j) (k:=min (4*j+4) n) (cap:=c) (by omega) (by omega) hc;rw [<- HXN.out,Q6j HD.out j (by have:=HXN.out; omega),HXN.out] at h2;exact h2
   have hup:=up_any k Lr (asked+j) _ _ (c - 4*j) (grp ds j) wr _ HB.out hrs (Nat.le_refl _) (Q89 HD.out j) (by omega) (by omega) (by omega);generalize (if c=4*j then A else A.map (·.add (4*j*32)))=A2 at hgr hup;have HG:=Lib.hid hgr;have HU:=Lib.hid hup;have hsz5:(bRow (upD (grp ds j))).size=32:=Q0E (Q4P _);have hon:=Q0K (upD (grp ds j));have hdv2:(bRow (upD (grp ds j))).toList=(upD (grp ds j)).map vb:=by simp [bRow]
   obtain⟨D,hD⟩:∃ D,D=bRow (upD (grp ds j)):=⟨_,rfl⟩;rw [<- hD] at HU hsz5 hon hdv2;have HSZ:=Lib.hid hsz5;have HON:=Lib.hid hon;have HDV:=Lib.hid hdv2;clear hgr hrs hup hsz5 hon hD hdv2;go_wp2_with fail
   refine(HG.out wr).mono ?_;rintro _ _ ⟨rfl,rfl⟩;go_wp2_with fail
   refine HU.out.mono ?_;rintro _ w3 ⟨rfl,hbk3,ho3⟩;have HB3:=Lib.hid hbk3;have HO3:=Lib.hid (HOB.out.trans ho3);have hrow3:=Q0f HOV.out (w':=w3) (fun b hb=>by
    have:=Q0a HOV.out hb;have hl:=HLT.out;exact ho3.block b this.2 (by rintro (e | e | e) <;> omega))
   have HW3:=Lib.hid hrow3;have hs3:=ho3.size;clear hbk3 ho3 hrow3 HG HU HB HOV HOB;go_upto_region 6 with(refine Q01 (o:=⟨none,_,_,_,_,_⟩) rfl 60 (.tmp 7) (.tmp 22) rfl w3.heap.size 0 D rfl rfl 60 inkZ (by rw [HZ.out]; exact Blk.newAt rfl) (by rw [HSZ.out]; rfl) (by rw [HSZ.out,HZS.out]; omega) HON.out ?_; intro w4 hT4 hD4; rw [Q08 _ _ (by rw [HSZ.out,HZS.out])] at hD4)
   have hb4:Below w3.heap.size w3 w4:=hT4.below ((Below.refl _ _).alloc (Nat.le_refl _) _) (Nat.le_refl _);have HB4:=Lib.hid (HB3.out.below hb4);have HO4:=Lib.hid (HO3.out.trans (Q0t.of_below hb4));have HW4:=Lib.hid (Q0f HW3.out (fun b hb=>hb4.block b (Q0a HW3.out hb).2));have hs4:=hb4.size;have HD4:=Lib.hid hD4;obtain⟨g4,hg4⟩:∃ g,g=w3.heap.size:=⟨_,rfl⟩;rw [<- hg4] at HD4 ⊢;have hSZ:=HSZ.out;clear hT4 hD4 hb4 HW3 hg4 HB3 HO3;go_wp2_with (first
    | (refine Q03 (o:=⟨some 25,_,_,_,_,_⟩) rfl 60 (.tmp 7) rfl g4 0 32 rfl 60 _ D _ HD4.out Tryz.underlying60 rfl rfl HSZ.out (fun _ _=>by rw [Nat.zero_add]) ?_)
    | (at_builtin; (rw [Q4V _ D 32 rfl HSZ.out]; refine Q06 _ rfl (.tmp 24) (.tmp 26) 189 rfl w.heap.size 60 i0 _ 32 32 Tryz.underlying189 hi0 hz0 hz1 hz2 HZS.out (by omega) _ j (Q0q (Q1H ds j)) rfl ?row (w4.heap.size+1) (some ⟨w4.heap.size,0,none⟩) 1 1 D.toList rfl ?rd ?c1 ?c2 ?c3 ?c4 ?_)))
   case row=>exact Q0f HW4.out (fun b hb=>Below.heap_alloc _ _ b (Q0a HW4.out hb).2)
   case rd=>exact Q5e _ _ _ _ HSZ.out
   case c1=>exact fun u hu=>List.all_eq_true.1 (by have:=HON.out; rw [<- Array.all_toList] at this; exact this) u hu
   case c2=>unfold maxLen; omega
   case c3=>omega
   case c4=>have:=HO4.out.size; simp; omega
   intro v6 w6 hown6 hg6 hor6;have hal:Below w4.heap.size w4 (w4.alloc (.cells D 60)):=(Below.refl _ _).alloc (Nat.le_refl _) _;have hO6:Q0t k w w6:=by
    have h5:=HO4.out.trans (Q0t.of_below hal);have hsz4:=HO4.out.size;refine⟨hg6.os.trans h5.os,hg6.tape.trans h5.tape,hg6.output.trans h5.output,Nat.le_trans h5.size hg6.size,fun i hi hn=>(hg6.block i (by have:=h5.size; omega) (fun e=>?_)).trans (h5.block i hi hn)⟩;have:=(Q0a HW4.out e.symm).1;omega
   have hB6:Q0A w6 k (Q10 Lr (upIn (grp ds j))) (asked+j+1):=by
    have h5:=HB4.out.below hal;have hl:=HLT.out;refine h5.only (N:=fun b=>w.heap.size<=b) ⟨hg6.os,hg6.tape,hg6.output,hg6.size,fun i hi hn=>hg6.block i hi (fun e=>hn (Q0a HW4.out e.symm).1)⟩ ?_ ?_ ?_ <;> omega
   have HB6:=Lib.hid hB6;have HO6:=Lib.hid hO6;have hown7:w6.ownsRow w.heap.size 60 32 v6 (j+1) (Q0q (Q1H ds (j+1))):=by
    rw [Q5k,Q4m];have e:Q0q [upD (grp ds j)]=D.toList:=by rw [HDV.out]; simp [Q0q]
    rw [e];exact hown6
   have HW6:=Lib.hid hown7;clear hB6 hO6 hal hown6 hown7 hg6 hor6 HW4 HB4 HO4;go_wp2_with fail
   go_roundw
   case rel=>exact⟨j+1,by omega,by go_num,HW6.out,⟨_,HB6.out,fun x hx=>Q2n (HLR.out x hx),fun p hp=>by
    rcases Nat.lt_or_ge p j with h | h
    ·exact Q2n (HLP.out p h)
    ·obtain rfl:p=j:=by omega
     exact Q3j _ _⟩,HO6.out⟩
   case measure=>simp [intOf]; omega
  ·have h4i:¬ 4*(j:Int)<(n:Int):=by have:=mt Q58.2 hjn; omega
   obtain rfl:j=grps n:=by omega
   go_wp2_with fail
   go_ret
   refine⟨_,rfl,?_,Lr,HB.out,HLR.out,HLP.out,HOB.out⟩;have:=HOV.out;rw [show Q1H ds (grps n)=Q2m ds by unfold Q1H Q2m; rw [HXN.out]] at this;exact this
end
section
open Go.RowKit Go.Maps
structure Q25 (w:World) (g cap:Nat) (ds:List (List UInt8)):Prop where
 row:∃ cur:Array Value,Blk w g 60 cur/\cur.size=cap*32/\cur.toList.take (ds.length*32)=Q0q ds
 cap:ds.length<=cap/\cap<=maxLen
theorem Q25.of_own {w:World} {B:Nat} {v:Value} {n:Nat} {ds:List (List UInt8)} (h:w.ownsRow B 60 32 v n (Q0q ds)) (hd:Digs ds) (h0:0<n):ds.length=n/\∃ g cap,v=.slice (some ⟨g,0,none⟩) n cap/\B<=g/\Q25 w g cap ds:=by
 have hl:ds.length=n:=by have:=h.1; rw [Q1W hd] at this; omega
 rcases h.2 with⟨_,h1⟩ | ⟨g,cap,cur,hv,h2,h3,h4,h5,h6,h7⟩
 ·omega
 ·exact⟨hl,g,cap,hv,h2,⟨⟨cur,h3,h6,by rw [hl]; exact h7⟩,by omega,h5⟩⟩
theorem Q25.lt {w:World} {g cap:Nat} {ds:List (List UInt8)} (h:Q25 w g cap ds):g<w.heap.size:=by
 obtain⟨cur,h1,_⟩:=h.row;exact h1.lt
theorem Q25.keep {w w':World} {g cap:Nat} {ds:List (List UInt8)} (h:Q25 w g cap ds) (hk:w'.heap[g]?=w.heap[g]?):Q25 w' g cap ds:=by
 obtain⟨cur,h1,h2⟩:=h.row;exact⟨⟨cur,hk.trans h1,h2⟩,h.cap⟩
theorem Q25.reads {w:World} {g cap:Nat} {ds:List (List UInt8)} (h:Q25 w g cap ds) (hd:Digs ds):Q0d w w.heap.size 32 (some ⟨g,0,none⟩) ds.length (Q0q ds):=by
 obtain⟨cur,h1,h2,h3⟩:=h.row;refine⟨Q1W hd,fun _=>⟨_,rfl,h1.lt,fun j u hu=>?_⟩⟩;rw [Q13,Nat.zero_add,h1.cell,<- Array.getElem?_toList];rw [<- h3,List.getElem?_take] at hu;split at hu
 ·exact hu
 ·cases hu
theorem Q25.set {w w':World} {g cap i:Nat} {ds:List (List UInt8)} {d:List UInt8} (h:Q25 w g cap ds) (hd:Digs ds) (hdl:d.length=32) (hi:i<ds.length) (hk:∀ cur:Array Value,Blk w g 60 cur->cur.size=cap*32->Blk w' g 60 (spl cur (i*32) (d.map vb))):Q25 w' g cap (ds.set i d):=by
 obtain⟨cur,h1,h2,h3⟩:=h.row;have hc:=h.cap;have hm:(i+1)*32<=cap*32:=Nat.mul_le_mul_right _ (by omega);have hle:i*32+(d.map vb).length<=cur.size:=by rw [List.length_map,hdl,h2]; omega
 refine⟨⟨_,hk cur h1 h2,by rw [Q3P hle,h2],?_⟩,by rw [List.length_set]; exact hc⟩;apply List.ext_getElem?
 intro j;have hl:=Q1W (hd.set i hdl);have hl0:=Q1W hd;rw [List.length_set] at hl ⊢;rw [List.getElem?_take];rcases Nat.lt_or_ge j (ds.length*32) with hj | hj
 ·rw [if_pos hj,Array.getElem?_toList,Q4I hle];have hq:j / 32<ds.length:=by omega
  have hj2:j=j / 32*32+j % 32:=by omega
  by_cases he:j / 32=i
  ·rw [if_pos (by rw [List.length_map,hdl]; omega)];have:=Q3u (hd.set i hdl) i (j % 32) (d:=d) (by rw [List.getElem?_set_self hi]) (by omega);rw [hj2,he,this];congr 1
   omega
  ·rw [if_neg (by rw [List.length_map,hdl]; omega),<- Array.getElem?_toList];have e1:(Q0q ds)[j]?=cur.toList[j]?:=by rw [<- h3,List.getElem?_take,if_pos hj]
   have hg1:=Q3u hd (j / 32) (j % 32) (List.getElem?_eq_getElem hq) (by omega);have hg2:=Q3u (hd.set i hdl) (j / 32) (j % 32) (d:=ds[j / 32]) (by rw [List.getElem?_set_ne (fun e=>he e.symm),List.getElem?_eq_getElem hq]) (by omega);rw [<- hj2] at hg1 hg2;rw [hg2,<- hg1,e1]
 ·rw [if_neg (by omega),List.getElem?_eq_none (by omega)]
theorem QaP:(Tryz.prog.info? 189).map (fun i=>(i.zero,i.size,i.bytes))=some (some (.slice none 0 0),1,24):=by kernel_rfl
structure LvSt (w wr:World) (k:Book) (L:List (List UInt8)) (asked:Nat) (ls:List (List UInt8)) (g0 c s:Nat) (gs cs:Nat->Nat) (ov:Value):Prop where
 g0:gs 0=g0
 c0:cs 0=c
 row:wr.ownsRow w.heap.size 189 1 ov (s+1) ((List.range (s+1)).map fun j=>.slice (some ⟨gs j,0,none⟩) (lv ls j).length (cs j))
 dig:∀ j,j<=s->Q25 wr (gs j) (cs j) (lv ls j)
 new:∀ j,1<=j->j<=s->w.heap.size<=gs j
 ne:∀ i j,i<j->j<=s->gs i≠gs j
 book:∃ L' a',Q0A wr k L' a'/\a'<=asked+4*s/\(∀ x,x∈L->x∈L')/\(1<=s->∀ p,p<grps ls.length->upIn (grp (lv ls 0) p)∈L')/\(2<=s->upIn (lv ls 1)∈L')
 only:Q0t k w wr
theorem Q8y {ls:List (List UInt8)} (h5:5<=ls.length) (h16:ls.length<=16) (s:Nat) (hs:s<=2):(1<(lv ls s).length <-> s<2)/\(lv ls s).length<=16/\1<=(lv ls s).length/\grps (lv ls s).length<=4:=by
 have h0:=Q6l ls;have h1:=Q71 ls;have h2:=QcM ls;obtain rfl | rfl | rfl:s=0\/s=1\/s=2:=by omega
 ·rw [h0]; unfold grps; omega
 ·rw [h1]; unfold grps; omega
 ·rw [h2]; unfold grps; omega
theorem Qca (k:Book) (L:List (List UInt8)) (asked:Nat) (g0 n c:Nat) (ls:List (List UInt8)) (w:World) (hbk:Q0A w k L asked) (h:Q25 w g0 c (lv ls 0)) (hap:¬ k.has g0) (h5:5<=ls.length) (h16:ls.length<=16) (hn:n=ls.length) (has:asked<=800000) :
 Calls Tryz.prog 150 #[.pointer (some ⟨k.g,0,none⟩),.slice (some ⟨g0,0,none⟩) n c] w fun e w'=>∃ v gs cs,e=.returned v/\LvSt w w' k L asked ls g0 c 2 gs cs v:=by
 have hn0:n=(lv ls 0).length:=by rw [Q6l]; exact hn
 have HAP:=Lib.hid hap;have HBK:=Lib.hid hbk;have H0:=Lib.hid h;have h0lt:=h.lt;have hlt:=hbk.lt;have HLT:=Lib.hid hlt;have HN:=Lib.hid hn0;obtain⟨i0,hi0,hz0,hz1,hz2⟩:=info_parts QaP;have hw0:=World.ownsRow_lit (base:=w.heap.size) (e:=189) (size:=1) w #[.slice (some ⟨g0,0,none⟩) n c] 1 (Nat.le_refl _) (by unfold maxLen; omega) rfl;have hst:LvSt w (w.alloc (.cells #[.slice (some ⟨g0,0,none⟩) n c] 189)) k L asked ls g0 c 0 (fun _=>g0) (fun _=>c) (.slice (some ⟨w.heap.size,0,none⟩) 1 1):=by
  refine⟨rfl,rfl,?_,fun j hj=>?_,fun j h1 h2=>by omega,fun i j h1 h2=>by omega,⟨L,asked,hbk.below (Q07 _ _),by omega,fun _ h=>h,fun h=>by omega,fun h=>by omega⟩,Q0t.of_below (Q07 _ _)⟩
  ·rw [hn0] at hw0 ⊢;exact hw0
  ·obtain rfl:j=0:=by omega
   exact h.keep (Below.heap_alloc _ _ _ h0lt)
 have HST:=Lib.hid hst;clear h hap hbk hlt hst hw0 hn hn0;go_enter Tryz.func150,Tryz.ntmps150
 go_wp2_with fail
 go_loopw [1,5] (fun lw ov wr=>∃ s gs cs m,s<=2/\m=(lv ls s).length/\lw=.slice (some ⟨gs s,0,none⟩) m (cs s)/\LvSt w wr k L asked ls g0 c s gs cs ov) (fun lw _ _=>(match lw with | .slice _ n _=>n | _=>0))
 case atStart=>exact⟨0,_,_,n,by omega,HN.out,rfl,HST.out⟩
 case round =>
  obtain⟨s,gs,cs,m,hs,hm,rfl,hlv⟩:=hrel;have HLV:=Lib.hid hlv;obtain⟨hc1,hc2,hc3,hc4⟩:=Q8y h5 h16 s hs;rw [<- hm] at hc1 hc2 hc3 hc4;have HM:=Lib.hid hm;by_cases h1:1<m
  ·have hs2:=hc1.1 h1;have h1i:(1:Int)<(m:Int):=by omega
   obtain⟨Ls,a',hbk,ha',hLs,hp1,hp2⟩:=hlv.book;have hg:=hlv.dig s (Nat.le_refl _);have hgk:¬ k.has (gs s):=by
    rcases Nat.eq_zero_or_pos s with e | e
    ·subst e; rw [hlv.g0]; exact HAP.out
    ·have:=hlv.new s e (Nat.le_refl _);have hl:=HLT.out;rintro (e | e | e) <;> omega
   have hab:=QcV k Ls a' (some ⟨gs s,0,none⟩) m (cs s) (lv ls s) wr hbk (by have:=hg.reads (Q2C ls s); rw [<- hm] at this; exact this) (fun a _ e=>by injection e with e; subst e; exact hgk) (Q2C ls s) (by omega) (by have:=hg.cap; rw [<- hm] at this; exact this.1) (by omega);have HAB:=Lib.hid hab;have HL1:=Lib.hid hLs;have HP1:=Lib.hid hp1;have HP2:=Lib.hid hp2;have hsw:=hlv.only.size;clear hlv hbk hg hab hLs hp1 hp2 hm;go_wp2_with fail
   refine HAB.out.mono ?_;rintro _ w3 ⟨v3,L3,rfl,hrow3,hbk3,hL3,hp3,ho3⟩;obtain⟨hl3,g3,c3,rfl,hg3,hd3⟩:=Q25.of_own hrow3 (Q74 _) (by unfold grps; omega);have HR3:=Lib.hid (Q0f HLV.out.row (w':=w3) (fun b hb=>by
    have:=Q0a HLV.out.row hb;have hl:=HLT.out;exact ho3.block b this.2 (by rintro (e | e | e) <;> omega)))
   have HO3:=Lib.hid (HLV.out.only.trans ho3);have hs3:=ho3.size;obtain⟨m2,hm2⟩:∃ m2,m2=grps m:=⟨_,rfl⟩;rw [<- hm2];have HM2:=Lib.hid hm2;have HW3:=Lib.hid (Q1m w3 #[.slice (some ⟨g3,0,none⟩) m2 c3] 189);have HBK3:=Lib.hid hbk3;have HL3:=Lib.hid hL3;have HP3:=Lib.hid hp3;have HD3:=Lib.hid hd3;have HO:=Lib.hid ho3;have hm2l:m2<=4/\1<=m2:=by rw [hm2]; unfold grps at hc4 ⊢; omega
   clear hrow3 hbk3 hL3 hp3 hd3 ho3 HAB hm2;go_wp2_with (at_builtin; go_must (refine Q06 _ rfl (.tmp 14) (.tmp 16) 201 rfl w.heap.size 189 i0 _ 1 24 Tryz.underlying201 hi0 hz0 hz1 hz2 rfl (by omega) _ (s+1) ((List.range (s+1)).map fun j=>Value.slice (some ⟨gs j,0,none⟩) (lv ls j).length (cs j)) rfl ?row (w3.heap.size+1) (some ⟨w3.heap.size,0,none⟩) 1 1 [.slice (some ⟨g3,0,none⟩) m2 c3] rfl ?rd ?c1 ?c2 ?c3 ?c4 ?_))
   case row=>exact Q0f HR3.out (fun b hb=>Below.heap_alloc _ _ b (Q0a HR3.out hb).2)
   case rd=>exact HW3.out
   case c1=>intro u hu; rw [List.mem_singleton] at hu; subst hu; rfl
   case c2=>unfold maxLen; omega
   case c3=>omega
   case c4=>simp; omega
   intro v6 w6 hown6 hg6 hor6;have hal:Below w3.heap.size w3 (w3.alloc (.cells #[.slice (some ⟨g3,0,none⟩) m2 c3] 189)):=Q07 _ _;have hfar:∀ b,b<w.heap.size->w6.heap[b]?=w3.heap[b]?:=fun b hb=>(hg6.block b (by have:=hal.size; omega) (fun e=>by have:=(Q0a HR3.out e.symm).1; omega)).trans (hal.block b (by omega))
   have hkeep:∀ b,b<w3.heap.size->(∃ cur,Blk w3 b 60 cur)->w6.heap[b]?=w3.heap[b]?:=fun b hb ⟨cur,hcur⟩=>(hg6.block b (by have:=hal.size; omega) (fun e=>Q09 HR3.out hcur (by decide) e.symm)).trans (hal.block b hb)
   have hdk:∀ g cap ds,Q25 w3 g cap ds->Q25 w6 g cap ds:=fun g cap ds hd=>hd.keep (by
    obtain⟨cur,h1,_⟩:=hd.row;exact hkeep g hd.lt ⟨cur,h1⟩)
   have hst6:LvSt w w6 k L asked ls g0 c (s+1) (fun j=>if j=s+1 then g3 else gs j) (fun j=>if j=s+1 then c3 else cs j) v6:=by
    have hold:=HLV.out;have ho:=HO.out;have hl:=HLT.out;refine⟨by simp [hold.g0],by simp [hold.c0],?_,fun j hj=>?_,fun j h1 h2=>?_,fun i j h1 h2=>?_,⟨L3,a'+grps m,?_,?_,fun x hx=>HL3.out x (HL1.out x hx),fun _ p hp=>?_,fun h2=>?_⟩,?_⟩
    ·have e:(List.range (s+1+1)).map (fun j=>Value.slice (some ⟨if j=s+1 then g3 else gs j,0,none⟩) (lv ls j).length (if j=s+1 then c3 else cs j))=(List.range (s+1)).map (fun j=>Value.slice (some ⟨gs j,0,none⟩) (lv ls j).length (cs j))++[.slice (some ⟨g3,0,none⟩) m2 c3]:=by
      rw [List.range_succ,List.map_append];congr 1
      ·refine List.map_congr_left fun j hj=>?_
       have:=List.mem_range.1 hj;rw [if_neg (by omega),if_neg (by omega)]
      ·simp only [List.map_cons,List.map_nil,if_true];rw [show (lv ls (s+1)).length=m2 by show (Q2m (lv ls s)).length=_; rw [Q2S,<- HM.out,HM2.out]]
     rw [e,List.range_succ,List.map_append,List.append_assoc];exact hown6
    ·by_cases he:j=s+1
     ·subst he;simp only [if_true];exact hdk _ _ _ HD3.out
     ·simp only [if_neg he];have hd:=hold.dig j (by omega);refine hdk _ _ _ (hd.keep (ho.block _ hd.lt ?_));rcases Nat.eq_zero_or_pos j with e | e
      ·subst e; rw [hold.g0]; exact HAP.out
      ·have:=hold.new j e (by omega);rintro (e | e | e) <;> omega
    ·by_cases he:j=s+1
     ·simp only [if_pos he]; omega
     ·simp only [if_neg he]; exact hold.new j h1 (by omega)
    ·have hi:i≠s+1:=by omega
     simp only [if_neg hi];by_cases he:j=s+1
     ·simp only [if_pos he];have:=(hold.dig i (by omega)).lt;omega
     ·simp only [if_neg he]; exact hold.ne i j h1 (by omega)
    ·exact HBK3.out.only (N:=fun b=>w.heap.size<=b) ⟨hg6.os.trans hal.os,hg6.tape.trans hal.tape,hg6.output.trans hal.output,by have:=hal.size; have:=hg6.size; omega,fun i hi hn=>hfar i (by omega)⟩ (by omega) (by omega) (by omega)
    ·have:=HM2.out; omega
    ·rcases Nat.eq_zero_or_pos s with e | e
     ·subst e;refine HP3.out p ?_;rw [HM.out,Q6l];exact hp
     ·exact HL3.out _ (HP1.out e p hp)
    ·obtain rfl:s=1:=by omega
     have:=HP3.out 0 (by unfold grps; omega);have e:grp (lv ls 1) 0=lv ls 1:=by
      unfold grp;rw [Nat.mul_zero,List.drop_zero,List.take_of_length_le];rw [Q71]; unfold grps; omega
     rw [e] at this;exact this
    ·have h5:=HO3.out;refine⟨hg6.os.trans (hal.os.trans h5.os),hg6.tape.trans (hal.tape.trans h5.tape),hg6.output.trans (hal.output.trans h5.output),by have:=hal.size; have:=hg6.size; have:=h5.size; omega,fun i hi hn=>(hfar i hi).trans (h5.block i hi hn)⟩
   have HST6:=Lib.hid hst6;clear hst6 hdk hkeep hfar hal hown6 hg6 hor6 HD3 HO HR3 HW3;go_wp2_with fail
   go_roundw
   case rel=>exact⟨s+1,_,_,m2,by omega,by show m2=(Q2m (lv ls s)).length; rw [Q2S,<- HM.out,HM2.out],by simp,HST6.out⟩
   case measure=>show m2<m; rw [HM2.out]; unfold grps; omega
  ·have hs2:s=2:=by have:=mt hc1.2 h1; omega
   subst hs2;have h1i:¬ (1:Int)<(m:Int):=by omega
   clear hlv hm;go_wp2_with fail
   go_ret
   exact⟨_,rfl,gs,cs,HLV.out⟩
end
section
open Go.RowKit Go.Maps
attribute [local irreducible] wpList
section
variable {P:Program}
theorem Q50 (w:World) (dT sT ty elem:TypeId) (g o dLen dCap s m:Nat) (a:Addr) (sLen sCap:Nat) (cur:Array Value) (t:TypeId) (cs:List Value)
 (hu:P.underlying dT=some (.slice elem)) (hs:(P.info? elem).map (·.size)=some s)
 (hg:Blk w g t cur) (hm:m=Nat.min sLen dLen) (hn:cs.length=m*s)
 (hsrc:∀ j v,cs[j]?=some v->w.cell? (a.add j)=some v) (hfit:o+cs.length<=cur.size) (h1:∀ v∈cs,v.oneCell'=true) :
 (Builtin.copy_ #[dT,sT] ty #[.slice (some ⟨g,o,none⟩) dLen dCap,.slice (some a) sLen sCap]).run P w=.ok (.int .i64 (m:Int)) (w.setRow g (spl cur o cs)):=by
 have hl:=run_loadCells_list (P:=P) w a cs hsrc;have hst:=run_storeCells_at P g o t cs 0 cur w hg (by simpa using hfit) h1;cases hq:P.info? elem with
 | none=>simp [hq] at hs
 | some i =>
  have hi:i.size=s:=by simpa [hq] using hs
  rw [hn] at hl;simp only [Nat.add_zero] at hst;simp only [List.append_assoc] at hst;simp [Builtin.copy_,run_underlying hu,Builtin.lenOf,Builtin.firstCells,sizeOf,typeInfo,hq,hi,<- hm,hl,hst,spl,goInt]
theorem Q5K {ops:Array Oper} {rest:List Oper} {o:Oper} {a:Act} {w:World} {Q:Exit->Act->World->Prop} (hgd:o.guard=none) (d s:Operand) (dT sT elem:TypeId)
 (ho:o.op=.call { callee:=.builtin .copy,args:=#[d,s],argTypes:=#[dT,sT] })
 (g off dLen dCap sLen sCap size m:Nat) (ad:Addr) (t:TypeId) (cs:Array Value) (vs:List Value)
 (hd:a.eval d=.slice (some ⟨g,off,none⟩) dLen dCap) (hs:a.eval s=.slice (some ad) sLen sCap)
 (hu:P.underlying dT=some (.slice elem)) (hsz:(P.info? elem).map (·.size)=some size)
 (hB:Blk w g t cs) (hm:m=Nat.min sLen dLen) (hn:vs.length=m*size) (hsrc:∀ j v,vs[j]?=some v->w.cell? (ad.add j)=some v) (hfit:off+vs.length<=cs.size) (h1:∀ v∈vs,v.oneCell'=true)
 (h:∀ W',Q0c g w W'->Blk W' g t (spl cs off vs)->wpList P ops Q rest (a.put o.dst (.int .i64 (m:Int))) W'):wpList P ops Q (o :: rest) a w :=
 wpList_plain hgd fun _ hK=>by
  unfold Oper.wp execOp;simp only [ho,resolve,invoke,builtin,Sem.run_bind,Sem.run_pure,Result.andThen_ok,List.map_toArray,List.map_cons,List.map_nil,hd,hs,Q50 (P:=P) w dT sT o.type elem g off dLen dCap size m ad sLen sCap cs t vs hu hsz hB hm hn hsrc hfit h1];exact hK _ _ (h _ (Q0c.setRow w g _) (setRow_heap w g cs _ t _ hB))
theorem Q6O {t e:TypeId} {m:Nat} (ht:P.underlying t=some (.slice e)) (hs:(P.info? e).map (·.size)=some m) (A:Option Addr) (len cap l:Nat) (li:Int) (el:li=l) (hl:l<=len) (W:World) :
 (Instr.slice t (.slice A len cap) (some (.int .i64 li)) none none).run P W=.ok (.slice (if cap=l then A else A.map (·.add (l*m))) (len - l) (cap - l)) W:=by
 subst el;obtain⟨i,hi,hsz⟩:∃ i,P.info? e=some i/\i.size=m:=by
  cases hh:P.info? e with
  | none=>rw [hh] at hs; cases hs
  | some i=>rw [hh] at hs; exact⟨i,rfl,by simpa using hs⟩
 have he:P.elem t=e:=by simp [Program.elem,ht]
 rw [run_slice_l W t A len cap (by rw [he]; exact ht) .i64 (l:Int) (by omega) (by omega)];simp [he,sizeOf,typeInfo,hi,hsz,sliced]
theorem Q8s {t e:TypeId} {m:Nat} (ht:P.underlying t=some (.slice e)) (hs:(P.info? e).map (·.size)=some m) (A:Addr) (len cap h:Nat) (hi:Int) (eh:hi=h) (h0:0<cap) (hh:h<=cap) (W:World) :
 (Instr.slice t (.slice (some A) len cap) none (some (.int .i64 hi)) none).run P W=.ok (.slice (some (A.add 0)) h cap) W:=by
 subst eh;obtain⟨i,hi,hsz⟩:∃ i,P.info? e=some i/\i.size=m:=by
  cases hh:P.info? e with
  | none=>rw [hh] at hs; cases hs
  | some i=>rw [hh] at hs; exact⟨i,rfl,by simpa using hs⟩
 have he:P.elem t=e:=by simp [Program.elem,ht]
 rw [run_slice_h W t (some A) len cap (by rw [he]; exact ht) .i64 (h:Int) (by omega) (by omega)];simp [he,sizeOf,typeInfo,hi,hsz,sliced,show ¬ cap=0 by omega]
end
theorem mul64_13 (w:World):Calls Tryz.prog 189 #[.int .u64 1,.int .u64 13] w fun e w'=>e=.returned (.tuple #[.int .u64 0,.int .u64 13])/\w=w':=by
 go_enter Tryz.func189,Tryz.ntmps189
 go_wp2
 go_ret2
 exact⟨rfl,rfl⟩
theorem mul64_6 (w:World):Calls Tryz.prog 189 #[.int .u64 1,.int .u64 6] w fun e w'=>e=.returned (.tuple #[.int .u64 0,.int .u64 6])/\w=w':=by
 go_enter Tryz.func189,Tryz.ntmps189
 go_wp2
 go_ret2
 exact⟨rfl,rfl⟩
theorem mul_any (n:Nat) (hn:n=13\/n=6) (w:World):Calls Tryz.prog 172 #[.int .u64 1,.int .u64 (n:Int)] w fun e w'=>e=.returned (.tuple #[.int .u64 0,.int .u64 (n:Int)])/\w=w':=by
 rcases hn with rfl | rfl
 ·go_enter Tryz.func172,Tryz.ntmps172
  go_wp2_with fail
  refine(mul64_13 _).mono ?_;rintro _ _ ⟨rfl,rfl⟩;go_wp2_with fail
  go_ret2
  exact⟨rfl,rfl⟩
 ·go_enter Tryz.func172,Tryz.ntmps172
  go_wp2_with fail
  refine(mul64_6 _).mono ?_;rintro _ _ ⟨rfl,rfl⟩;go_wp2_with fail
  go_ret2
  exact⟨rfl,rfl⟩
theorem Q7s (d:List UInt8) (a b:Nat):Q0q (List.replicate (a+b) d)=Q0q (List.replicate a d)++Q0q (List.replicate b d):=by rw [<- Q4m,List.replicate_append_replicate]
theorem rep_digs {d:List UInt8} (h:d.length=32) (n:Nat):Digs (List.replicate n d):=fun x hx=>by obtain⟨_,rfl⟩:=List.mem_replicate.1 hx; exact h
theorem Q5t {d:List UInt8} (h:d.length=32) (n:Nat):(Q0q (List.replicate n d)).length=n*32:=by rw [Q1W (rep_digs h n),List.length_replicate]
theorem Q7v (ds:List (List UInt8)):∀ v∈Q0q ds,v.oneCell'=true:=fun v hv=>by
 obtain⟨d,_,h⟩:=List.mem_flatMap.1 hv;obtain⟨b,_,rfl⟩:=List.mem_map.1 h;rfl
def RepAt (w:World) (g n m:Nat) (d:List UInt8):Prop:=∃ cur:Array Value,Blk w g 60 cur/\cur.size=n*32/\cur.toList.take (m*32)=Q0q (List.replicate m d)
theorem QaW {cur:Array Value} {n m k:Nat} {d:List UInt8} (hd:d.length=32) (hs:cur.size=n*32) (hm:cur.toList.take (m*32)=Q0q (List.replicate m d)) (hk:m+k<=n) :
 (spl cur (m*32) (Q0q (List.replicate k d))).size=n*32/\(spl cur (m*32) (Q0q (List.replicate k d))).toList.take ((m+k)*32)=Q0q (List.replicate (m+k) d):=by
 have h1:(m+k)*32<=n*32:=Nat.mul_le_mul_right _ hk;have hl:=Q5t hd k;have hl2:=Q5t hd m;have hfit:m*32+(Q0q (List.replicate k d)).length<=cur.size:=by rw [hl,hs]; omega
 refine⟨by rw [Q3P hfit,hs],?_⟩;unfold spl;rw [hm,Q7s,show (m+k)*32=(Q0q (List.replicate m d)++Q0q (List.replicate k d)).length by rw [List.length_append,hl,hl2]; omega];simp only [List.append_assoc];rw [<- List.append_assoc,List.take_left]
theorem Qbp (g n:Nat) (d:List UInt8) (w:World) (hn:n=13\/n=6) (hd:d.length=32) (h:Blk w g 60 (bRow d)) :
 Calls Tryz.prog 151 #[.slice (some ⟨g,0,none⟩) 1 1,.int .i64 (n:Int)] w fun e w'=>∃ g',e=.returned (.slice (some ⟨g',0,none⟩) n n)/\Q25 w' g' n (List.replicate n d)/\w.heap.size<=g'/\Below w.heap.size w w':=by
 have HMUL:=Lib.hid (fun W=>mul_any n hn W);have hn2:6<=n/\n<=13:=by omega
 clear hn;have hn0:¬ (n:Int)<0:=by omega
 have H:=Lib.hid h;have hgl:=h.lt;have hwr:IntKind.u64.wrap (n:Int)=(n:Int):=by rw [IntKind.wrap_u64]; omega
 have hwr2:IntKind.i64.wrap (n:Int)=(n:Int):=by rw [IntKind.wrap_i64]; omega
 have hnb:¬ (9223372036854775807:Int)<(n:Int):=by omega
 obtain⟨i0,hi0,hz0,hz1,hz2⟩:=info_parts Q6F;have HZS:=Lib.hid (show inkZ.size=32 by simp [inkZ,bRow]);clear h;go_enter Tryz.func151,Tryz.ntmps151
 go_wp2_with fail
 refine(HMUL.out _).mono ?_;rintro _ _ ⟨rfl,rfl⟩;have hmk:(Instr.makeSlice 189 (.int .i64 (n:Int)) (.int .i64 (n:Int))).run Tryz.prog w=.ok (.slice (some ⟨w.heap.size,0,none⟩) n n) (w.alloc (.cells (madeCells inkZ (n*32)) 60)):=by
  have h:=Q8t (P:=Tryz.prog) 189 60 i0 _ Tryz.underlying189 hi0 hz0 .i64 .i64 n n (by omega) (by rw [hz2]; omega) (by omega) w;rw [hz1] at h;exact h
 have HMK:=Lib.hid hmk;have hms:(madeCells inkZ (n*32)).size=n*32:=size_madeCells _ _;have hbn:Below w.heap.size w (w.alloc (.cells (madeCells inkZ (n*32)) 60)):=Q07 _ _;have hB0:Blk (w.alloc (.cells (madeCells inkZ (n*32)) 60)) w.heap.size 60 (madeCells inkZ (n*32)):=Blk.newAt rfl;have hr0:=Q9K (H.out.below hbn hgl) (Q0E hd);generalize madeCells inkZ (n*32)=cz at HMK hms hbn hB0 hr0;generalize hw1:w.alloc (.cells cz 60)=w1 at HMK hbn hB0 hr0;obtain⟨gn,hgn⟩:∃ gn,gn=w.heap.size:=⟨_,rfl⟩;rw [<- hgn] at HMK hB0 hbn;have HBN:=Lib.hid hbn;have HB0:=Lib.hid hB0;have HMS:=Lib.hid hms;have HGN:=Lib.hid hgn;have hsr:∀ (j:Nat) (v:Value),(Q0q (List.replicate 1 d))[j]?=some v->w1.cell? ((⟨g,0,none⟩:Addr).add j)=some v:=fun j v hv=>by
  obtain⟨ad,he,_,hc⟩:=hr0.2 (by omega);injection he with he
  subst he;refine hc j v ?_;rw [<- hv];simp [Q0q,bRow]
 have HSR:=Lib.hid hsr;clear hmk hms hbn hB0 hgn hw1 hsr hr0;have hmk:=HMK.out;go_wp2_with (refine Q5K (o:=⟨some 33,_,_,_,_,_⟩) rfl (.tmp 31) (.tmp 32) 189 189 60 rfl gn 0 n n 1 1 32 1 ⟨g,0,none⟩ 60 cz (Q0q (List.replicate 1 d)) rfl rfl Tryz.underlying189 Q3a HB0.out (show 1=min 1 n by omega) (by rw [Q5t hd]) HSR.out (by rw [Q5t hd,HMS.out]; omega) (Q7v _) ?_)
 intro w2 hT2 hB2;have hrep:RepAt w2 gn n 1 d:=by
  have:=QaW (m:=0) (k:=1) hd HMS.out (by simp [Q0q]) (by omega);exact⟨_,by simpa using hB2,by simpa using this.1,by simpa using this.2⟩
 have HREP:=Lib.hid hrep;have HB2:=Lib.hid (hT2.below HBN.out (by omega));clear hT2 hB2 hrep;go_wp2_with fail
 go_loopw [8] (fun mv wr=>∃ m:Nat,1<=m/\m<=n/\mv=.int .i64 (m:Int)/\RepAt wr gn n m d/\Below gn w wr) (fun mv _=>n - (intOf mv).toNat)
 case atStart=>exact⟨1,by omega,by omega,rfl,HREP.out,HB2.out⟩
 case round =>
  obtain⟨m,hm1,hmn,rfl,hrep,hbel⟩:=hrel;have HR:=Lib.hid hrep;have HB:=Lib.hid hbel;clear hrep hbel;by_cases hlt:m<n
  ·obtain⟨cur,hbk,hcs,hct⟩:=HR.out;have HBK:=Lib.hid hbk;have HCS:=Lib.hid hcs;have HCT:=Lib.hid hct;have hlti:(m:Int)<(n:Int):=by omega
   have hf:=fun W=>Q6O (P:=Tryz.prog) (t:=189) Tryz.underlying189 Q3a (some ⟨gn,0,none⟩) n n m (m:Int) rfl (by omega) W
   rw [if_neg (by omega)] at hf;have ht:=fun W=>Q8s (P:=Tryz.prog) (t:=189) Tryz.underlying189 Q3a ⟨gn,0,none⟩ n n m (m:Int) rfl (by omega) (by omega) W
   have HF:=Lib.hid hf;have HT:=Lib.hid ht;clear hbk hcs hct hf ht;go_upto_region 9 with fail
   have hsr3:∀ (W:World),Blk W gn 60 cur->∀ (j:Nat) (v:Value),(Q0q (List.replicate (min m (n - m)) d))[j]?=some v->W.cell? ((⟨gn,0,none⟩:Addr).add j)=some v:=fun W hbk3 j v hv=>by
    have e:=Q7s d (min m (n - m)) (m - min m (n - m));rw [show min m (n - m)+(m - min m (n - m))=m by omega] at e;have hj:j<(Q0q (List.replicate (min m (n - m)) d)).length:=(List.getElem?_eq_some_iff.1 hv).1;have h1:(Q0q (List.replicate m d))[j]?=some v:=by rw [e,List.getElem?_append_left hj]; exact hv
    rw [<- HCT.out,List.getElem?_take] at h1;split at h1
    ·rw [Q13,Nat.zero_add,hbk3.cell,<- Array.getElem?_toList]; exact h1
    ·cases h1
   have HSR3:=Lib.hid hsr3;have hle:m+min m (n - m)<=n:=by omega
   have hle32:(m+min m (n - m))*32<=n*32:=Nat.mul_le_mul_right _ hle;have hf:=HF.out;have ht:=HT.out;have hbw:=HBK.out;have hbd:Blk wr.drew gn 60 cur:=HBK.out;have hcp:=Q50 (P:=Tryz.prog) wr.drew 189 189 3 60 gn (m*32) (n - m) (n - m) 32 (min m (n - m)) ⟨gn,0,none⟩ m n cur 60 (Q0q (List.replicate (min m (n - m)) d)) Tryz.underlying189 Q3a hbd rfl (by rw [Q5t hd]) (HSR3.out _ hbd) (by rw [Q5t hd,HCS.out]; omega) (Q7v _);have hT4:Q0c gn wr.drew (wr.drew.setRow gn (spl cur (m*32) (Q0q (List.replicate (min m (n - m)) d)))):=Q0c.setRow _ gn _;have hB4:Blk (wr.drew.setRow gn (spl cur (m*32) (Q0q (List.replicate (min m (n - m)) d)))) gn 60 (spl cur (m*32) (Q0q (List.replicate (min m (n - m)) d))):=setRow_heap _ gn cur _ 60 _ hbd;generalize wr.drew.setRow gn (spl cur (m*32) (Q0q (List.replicate (min m (n - m)) d)))=w4 at hcp hT4 hB4;have hg:=QaW (k:=min m (n - m)) hd HCS.out HCT.out hle;have HREP4:=Lib.hid (show RepAt w4 gn n (m+min m (n - m)) d from⟨_,hB4,hg.1,hg.2⟩);have HB4:=Lib.hid (hT4.below HB.out.drew (by have:=HGN.out; omega));obtain⟨q,hq⟩:∃ q,q=min m (n - m):=⟨_,rfl⟩;rw [<- hq] at HREP4 hle hcp;have hq1:1<=q:=by omega
   clear hT4 hB4 hg hq hle32 HSR3 hbd hbw;go_region
   go_wp2_with fail
   go_roundw
   case rel=>exact⟨m+q,by omega,hle,by go_num,HREP4.out,HB4.out⟩
   case measure=>simp [intOf]; omega
  ·obtain rfl:m=n:=by omega
   have hlti:¬ (m:Int)<(m:Int):=by omega
   obtain⟨cur,hbk,hcs,hct⟩:=HR.out;have HBK:=Lib.hid hbk;have HCS:=Lib.hid hcs;have HCT:=Lib.hid hct;clear hbk hcs hct;go_wp2_with fail
   go_ret
   refine⟨gn,rfl,⟨⟨cur,HBK.out,HCS.out,by rw [List.length_replicate]; exact HCT.out⟩,by rw [List.length_replicate]; unfold maxLen; omega⟩,by have:=HGN.out; omega,by have h:=HB.out; rw [HGN.out] at h; exact h⟩
end
end Go.Proofs.YtcpngeiahgoacaaGreat
