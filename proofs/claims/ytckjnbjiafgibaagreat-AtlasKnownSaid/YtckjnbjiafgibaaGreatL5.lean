/- Parts of the proof, in one text. -/
import Derived.Test.YtckjnbjiafgibaaGreatL3
import Derived.Test.YtckjnbjiafgibaaGreatL4
import Derived.BigRegion
namespace Go.Proofs.YtckjnbjiafgibaaGreat
set_option linter.unusedVariables false
set_option linter.unusedSimpArgs false
set_option maxRecDepth 100000
set_option maxHeartbeats 16000000
open _root_.Array renaming getElem?_toList->zW
open _root_.Bool renaming and_eq_true->za
open _root_.Go renaming World->zA,Value->zB,TypeId->zE,Program->zG,Oper->zI
open _root_.Go.Proofs.Tryz renaming prog->zL
open _root_.Go.Region renaming wanted->zJ,Mode->zZ,waitsFor->zb
open _root_.Go.RowKit renaming Below->zD
open _root_.Go.RowKit.Below renaming refl->zO
open _root_.List renaming getElem?_eq_getElem->zC,range->zK,length_append->zN,append_assoc->zP,getElem?_take->zQ,replicate->zS,length_cons->zT,length_map->zU,take_of_length_le->zV,mem_cons_self->zX,mem_cons_of_mem->zY
open _root_.Nat renaming lt_or_ge->zF,eq_zero_or_pos->zH,le_refl->zM,zero_add->zR
open _root_.Option.some renaming inj->zc
section
open Go.RowKit Go.Maps
structure Only (N:Nat->Prop) (w w':zA):Prop where
 os:w'.os=w.os
 tape:w'.tape=w.tape
 output:w'.output=w.output
 size:w.heap.size<=w'.heap.size
 block:∀ i,i<w.heap.size->¬ N i->w'.heap[i]?=w.heap[i]?
theorem Only.refl (N:Nat->Prop) (w:zA):Only N w w:=⟨rfl,rfl,rfl,zM _,fun _ _ _=>rfl⟩
theorem Only.trans {N:Nat->Prop} {a b c:zA} (h:Only N a b) (h':Only N b c):Only N a c :=⟨h'.os.trans h.os,h'.tape.trans h.tape,h'.output.trans h.output,Nat.le_trans h.size h'.size,fun i hi hn=>(h'.block i (Nat.lt_of_lt_of_le hi h.size) hn).trans (h.block i hi hn)⟩
theorem Only.of_book {k:Book} {w w':zA} (h:Q0b k w w'):Only k.has w w':=⟨h.os,h.tape,h.output,h.size,h.block⟩
theorem Only.of_below {N:Nat->Prop} {w w':zA} (h:zD w.heap.size w w'):Only N w w':=⟨h.os,h.tape,h.output,h.size,fun i hi _=>h.block i hi⟩
theorem Only.mono {N N':Nat->Prop} {w w':zA} (h:Only N w w') (hN:∀ b,b<w.heap.size->N b->N' b):Only N' w w':=⟨h.os,h.tape,h.output,h.size,fun i hi hn=>h.block i hi (fun e=>hn (hN i hi e))⟩
theorem Only.of_grown {N:Nat->Prop} {w w':zA} {b:Nat} (h:w.grownBy w' (some b)) (hb:N b):Only N w w':=⟨h.os,h.tape,h.output,h.size,fun i hi hn=>h.block i hi (fun e=>hn (by injection e with e; exact e▸hb))⟩
theorem Only.of_turned {N:Nat->Prop} {w w':zA} {b:Nat} (h:Q06 b w w') (hb:N b):Only N w w':=Only.of_grown h.grown hb
theorem Only.drewN {N:Nat->Prop} {w w':zA} (h:Only N w w') (n:Nat):Only N w (w'.drewN n):=⟨h.os,h.tape,h.output,h.size,h.block⟩
theorem Only.below {N:Nat->Prop} {w w':zA} (h:Only N w w') {B:Nat} (hB:B<=w.heap.size) (hn:∀ b,b<B->¬ N b):zD B w w':=⟨h.os,h.tape,h.output,h.size,fun i hi=>h.block i (by omega) (hn i hi)⟩
theorem Only.blk {N:Nat->Prop} {w w':zA} {g:Nat} {t:zE} {cs:Array zB} (h:Only N w w') (hb:Blk w g t cs) (hg:¬ N g):Blk w' g t cs:=(h.block g hb.lt hg).trans hb
theorem Only.cell {N:Nat->Prop} {w w':zA} (h:Only N w w') {p:Addr} (hp:p.block<w.heap.size) (hn:¬ N p.block):w'.cell? p=w.cell? p:=World.cell?_of_block (h.block p.block hp hn)
theorem Only.reads {N:Nat->Prop} {w w':zA} {size n:Nat} {A:Option Addr} {xs:List zB} (h:Only N w w') (hr:Q04 w w.heap.size size A n xs) (hn:∀ a,0<n->A=some a->¬ N a.block):Q04 w' w'.heap.size size A n xs :=⟨hr.1,fun h0=>by obtain⟨ad,e,hb,hc⟩:=hr.2 h0;exact⟨ad,e,by have:=h.size; omega,fun j u hu=>(h.cell (by rw [Q0d]; exact hb) (by rw [Q0d]; exact hn ad h0 e)).trans (hc j u hu)⟩⟩
theorem Q0h.only {w w':zA} {k:Book} {l:LL} {n:Nat} {N:Nat->Prop} (h:Q0h w k l n) (ho:Only N w w') (hg:¬ N k.g) (h1:¬ N k.b1) (h2:¬ N k.b2):Q0h w' k l n:=by
 obtain⟨D1,D2,n1,n2,m1,m2,m3⟩:=h.maps;have hl:=h.lt;refine⟨(ho.block _ hl.1 hg).trans h.cells,⟨D1,D2,n1,n2,?_,?_,m3⟩,h.len,h.apart⟩
 ·obtain⟨es,c,hb,F,hs,hD⟩:=m1;exact⟨es,c,(ho.block _ hl.2.1 h1).trans hb,F,hs,hD⟩
 obtain⟨es,c,hb,F,hs,hD⟩:=m2;exact⟨es,c,(ho.block _ hl.2.2 h2).trans hb,F,hs,hD⟩
def Q0j (ds:LL):List zB:=ds.flatMap fun d=>d.map vb
theorem Q1t:∀ {ds:LL},Digs ds->(Q0j ds).length=ds.length*32
 | [],_=>rfl
 | d :: t,h=>by
  have h1:=h d (zX ..);have h2:=Q1t (ds:=t) fun e he=>h e (zY _ he)
  unfold Q0j at h2 ⊢;simp only [List.flatMap_cons,zN,zU,zT];omega
theorem Q6A (a b:LL):Q0j (a++b)=Q0j a++Q0j b:=by simp [Q0j]
theorem Q2G:∀ {ds:LL} (hd:Digs ds) (i j:Nat) {d:List UInt8},ds[i]?=some d->j<32->(Q0j ds)[i*32+j]?=(d.map vb)[j]?
 | [],_,i,j,d,h,_=>by simp at h
 | e :: t,hd,0,j,d,h,hj=>by simp only [List.getElem?_cons_zero,Option.some.injEq] at h;subst h;have h1:=hd e (zX ..);unfold Q0j;rw [List.flatMap_cons,List.getElem?_append_left (by simp [h1]; omega),show 0*32+j=j by omega]
 | e :: t,hd,i+1,j,d,h,hj=>by
  have h1:=hd e (zX ..);have h2:=Q2G (ds:=t) (fun x hx=>hd x (zY _ hx)) i j (d:=d) (by simpa using h) hj;unfold Q0j at h2 ⊢;rw [List.flatMap_cons,List.getElem?_append_right (by simp [h1]; omega),<- h2];congr 1
  simp [h1];omega
theorem Q5z:∀ {ds:LL} (hd:Digs ds) (i:Nat),(Q0j ds).drop (i*32)=Q0j (ds.drop i)
 | [],_,i=>by simp [Q0j]
 | e :: t,_,0=>by simp
 | e :: t,hd,i+1=>by have h1:=hd e (zX ..);have h2:=Q5z (ds:=t) (fun x hx=>hd x (zY _ hx)) i;rw [List.drop_succ_cons,<- h2];unfold Q0j;rw [List.flatMap_cons,show (i+1)*32=(e.map vb).length+i*32 by simp [h1]; omega,List.drop_append,Nat.add_sub_cancel_left,List.drop_of_length_le (by omega),List.nil_append]
theorem Q5i:∀ {ds:LL} (hd:Digs ds) (i:Nat),(Q0j ds).take (i*32)=Q0j (ds.take i)
 | [],_,i=>by simp [Q0j]
 | e :: t,_,0=>by simp [Q0j]
 | e :: t,hd,i+1=>by have h1:=hd e (zX ..);have h2:=Q5i (ds:=t) (fun x hx=>hd x (zY _ hx)) i;rw [List.take_succ_cons];unfold Q0j at h2 ⊢;rw [List.flatMap_cons,List.flatMap_cons,<- h2,show (i+1)*32=(e.map vb).length+i*32 by simp [h1]; omega,List.take_length_add_append]
theorem Q23:inkZ=#[.int .u8 0,.int .u8 0,.int .u8 0,.int .u8 0,.int .u8 0,.int .u8 0,.int .u8 0,.int .u8 0,.int .u8 0,.int .u8 0,.int .u8 0,.int .u8 0,.int .u8 0,.int .u8 0,.int .u8 0,.int .u8 0,.int .u8 0,.int .u8 0,.int .u8 0,.int .u8 0,.int .u8 0,.int .u8 0,.int .u8 0,.int .u8 0,.int .u8 0,.int .u8 0,.int .u8 0,.int .u8 0,.int .u8 0,.int .u8 0,.int .u8 0,.int .u8 0]:=by kernel_rfl
theorem Q6g {w:zA} {k:Book} {A:Option Addr} {n:Nat} {B:Nat} (hB:∀ ad,A=some ad->B<=ad.block) (hk:k.g<B/\k.b1<B/\k.b2<B):∀ a,0<n->A=some a->¬ k.has a.block:=fun a _ ha e=>by have:=hB a ha;rcases e with e | e | e <;> omega
theorem Q0S {d:List UInt8} (h:d.length=32):(bRow d).size=32:=by rw [Q2l,h]
theorem Q93 (k:Book) (L:LL) (asked:Nat) (A:Option Addr) (n c:Nat) (xs:List UInt8) (w:zA) (B:Nat) (hbk:Q0h w k L asked) (h:Q04 w B 1 A n (xs.map vb)) (hB:B<=w.heap.size) (hn:n<65536) (has:asked<=1000000) :
 Calls zL 93 #[.pointer (some ⟨k.g,0,none⟩),.slice A n c] w fun e w'=>e=.returned (.tuple #[.agg (bRow (Q2y xs)),.int .i64 0])/\Q0h w' k (Q0V L (Q1Z xs)) (asked+1)/\Q0b k w w':=by
 have hxn:xs.length=n:=by have:=h.1; simpa using this
 have HXN:=sH hxn;have hX:zD w.heap.size w (w.alloc (.cells inkZ 51)):=(zO _ _).alloc (zM _) _;have hk0:Blk (w.alloc (.cells inkZ 51)) w.heap.size 51 inkZ:=Blk.newAt (by simp);have hlt:=hbk.lt;have hlt1:=hlt.1;have hlt2:=hlt.2.1;have hlt3:=hlt.2.2;have HBK:=sH hbk;have HRD:=sH h;obtain⟨i0,hi0,hz0,hz1,hz2⟩:=info_parts Q2p;have HZ:=sH Q23;have HZS:=sH (show inkZ.size=32 by simp [inkZ,bRow]);have hs0:(w.alloc (.cells inkZ 51)).heap.size=w.heap.size+1:=by simp
 have HX:=sH hX;have HK0:=sH hk0;have HS0:=sH hs0;clear h hlt hbk hX hk0 hs0 hxn;obtain⟨g,hg⟩:∃ g,g=w.heap.size:=⟨_,rfl⟩;have hnn:¬ (65536:Int)<=(n:Int):=by omega
 go_enter Tryz.func93,Tryz.ntmps93
 go_upto_region 1 with fail
 rw [<- HZ.out];generalize World.alloc w _=w1 at HX HK0 HS0 ⊢;rw [<- hg] at HK0 HS0 ⊢;have hs1:=HX.out.size;have hg1:g<w1.heap.size:=by have:=HS0.out; omega
 have hgw:w.heap.size<=g:=by omega
 have HRD1:=sH (HRD.out.below (HX.out.mono hB));have HW0:=sH (World.ownsRow_lit (base:=w1.heap.size) (e:=5) (size:=1) w1 #[.int .u8 0] 1 (zM _) (by unfold maxLen; omega) rfl);have HRD2:=sH (HRD1.out.alloc (by omega) (.cells #[.int .u8 0] 5));clear HS0 hg;go_wp2_with (at_builtin; go_must (refine Q05 _ rfl (.tmp 11) (.tmp 12) 28 rfl w1.heap.size 5 i0 _ 1 1 Tryz.underlying28 hi0 hz0 hz1 hz2 rfl (by omega) _ 1 _ rfl HW0.out B A n c (xs.map vb) rfl HRD2.out ?c1 ?c2 ?c3 (by simp) ?_))
 case c1=>intro u hu; rfl
 case c2=>unfold maxLen; omega
 case c3=>omega
 intro v2 w2 hown2 hg2 hor2;have hb2:zD w1.heap.size w1 w2:=Q0i ((zO _ _).alloc (zM _) _) (by simp) hg2 (fun b hb=>by
  have:b=w1.heap.size:=by simpa [Value.ownBlock] using hb.symm
  omega)
 have hob:OwnB w2 w1.heap.size v2 (Q1Z xs):=by unfold OwnB Q1Z;rw [zT,HXN.out,List.map_cons,Nat.add_comm];exact hown2
 obtain⟨Ab,cb,rfl,hbc,hbm,hbr,hbB⟩:=Q0m hob;have hll:(Q1Z xs).length=n+1:=by unfold Q1Z; rw [zT,HXN.out]
 rw [hll] at hbc hbr ⊢;have HB2:=sH (HX.out.trans (hb2.mono hs1));have HK2:=sH (HK0.out.under hb2);have HBK2:=sH (HBK.out.below HB2.out);have hs2:=hb2.size;have hap:=Q6g (w:=w) (k:=k) (n:=n+1) hbB (by omega);have hof:=Q7X k L asked Ab (n+1) cb (Q1Z xs) w2 _ HBK2.out hbr (zM _) (fun a h0 ha e=>hap a h0 ha (.inl e)) hbc hbm (by omega) has;have hsz:(bRow (Q2y xs)).size=32:=Q0S (Q2n xs);have hon:=Q0Q (Q2y xs);have HOF:=sH hof;have hdd:Q2y xs=Q14 (Q1Z xs):=rfl;rw [<- hdd] at HOF;obtain⟨D,hD⟩:∃ D,D=bRow (Q2y xs):=⟨_,rfl⟩;rw [<- hD] at HOF hsz hon;have HD:=sH hD;have HSZ:=sH hsz;have HON:=sH hon;clear hob hb2 hown2 hg2 hor2 hbr hbB hap hof hsz hon hdd hD HRD1 HRD2 HW0 hll;go_wp2_with fail
 refine HOF.out.mono ?_;rintro _ w3 ⟨rfl,hbk3,ho3⟩;have HO3:=sH ((Q0b.of_below HB2.out).trans ho3);have hk3:Blk w3 g 51 inkZ:=(ho3.block g (by omega) (by rintro (e | e | e) <;> omega)).trans HK2.out;have HK3:=sH hk3;have HBK3:=sH hbk3;have hs3:=ho3.size;clear hbk3 ho3 hk3;go_wp2_with (refine Q00 (o:=⟨none,_,_,_,_,_⟩) rfl 51 (.tmp 4) (.tmp 15) rfl g 0 D rfl rfl 51 inkZ HK3.out (by rw [HSZ.out]; rfl) (by rw [HSZ.out,HZS.out]; omega) HON.out ?_; intro w5 hT5 hD5; rw [Q0a _ _ (by rw [HSZ.out,HZS.out])] at hD5)
 refine bodyPost_ret (Q03 rfl _ _ g 32 51 _ _ rfl hD5 Tryz.underlying51 rfl rfl HSZ.out) rfl ⟨by rw [HD.out]; rfl,?_,?_⟩
 ·exact HBK3.out.grown hT5.grown ⟨by omega,by omega,by omega⟩
 exact HO3.out.grown hT5.grown (by omega)
theorem Q45 {P:zG} {t e:zE} {m:Nat} (ht:P.underlying t=some (.slice e)) (hs:(P.info? e).map (·.size)=some m) (A:Option Addr) (len cap l h:Nat) (li hi:Int) (el:li=l) (eh:hi=h) (hlh:l<=h) (hh:h<=cap) (W:zA) :
 (Instr.slice t (.slice A len cap) (some (.int .i64 li)) (some (.int .i64 hi)) none).run P W=.ok (.slice (if cap=l then A else A.map (·.add (l*m))) (h - l) (cap - l)) W:=by
 subst el eh;obtain⟨i,hi,hsz⟩:∃ i,P.info? e=some i/\i.size=m:=by
  cases hh:P.info? e with
  | none=>rw [hh] at hs; cases hs
  | some i=>rw [hh] at hs; exact⟨i,rfl,by simpa using hs⟩
 have he:P.elem t=e:=by simp [Program.elem,ht]
 rw [run_slice_lh W t A len cap (by rw [he]; exact ht) .i64 .i64 (l:Int) (h:Int) (by omega) (by omega) (by omega)];simp [he,sizeOf,typeInfo,hi,hsz,sliced]
theorem Q04.sub {w:zA} {B size n:Nat} {A:Option Addr} {xs:List zB} (h:Q04 w B size A n xs) {l k cap:Nat} (hlk:l<=k) (hk:k<=n) (hc:n<=cap) :
 Q04 w B size (if cap=l then A else A.map (·.add (l*size))) (k - l) ((xs.drop (l*size)).take ((k - l)*size)):=by
 have hx:=h.1;have hm:l*size<=k*size:=Nat.mul_le_mul_right _ hlk;have hm2:k*size<=n*size:=Nat.mul_le_mul_right _ hk;refine⟨by rw [List.length_take,List.length_drop,hx,Nat.sub_mul]; omega,fun hn=>?_⟩;obtain⟨ad,rfl,hb,hcell⟩:=h.2 (by omega);rw [if_neg (by omega)];refine⟨ad.add (l*size),rfl,by rw [Q0d]; exact hb,fun j u hu=>?_⟩;rw [Q2b];rw [zQ] at hu;split at hu
 ·exact hcell _ u (by rw [<- hu,List.getElem?_drop])
 cases hu
theorem Q4R {P:zG} {t e:zE} {n:Nat} (ht:P.underlying t=some (.array n e)) (hs:(P.info? e).map (·.size)=some 1) (hn:0<n) (a:Addr) (W:zA) :
 (Instr.sliceAt t (.pointer (some a)) none none none).run P W=.ok (.slice (some (a.add 0)) n n) W:=by
 obtain⟨i,hi,hsz⟩:∃ i,P.info? e=some i/\i.size=1:=by
  cases hh:P.info? e with
  | none=>rw [hh] at hs; cases hs
  | some i=>rw [hh] at hs; exact⟨i,rfl,by simpa using hs⟩
 have he:P.elem t=e:=by simp [Program.elem,ht]
 have hln:P.arrayLen t=n:=by simp [Program.arrayLen,ht]
 rw [run_sliceAt_array_all W t a (by rw [he,hln]; exact ht)];simp [he,hln,sizeOf,typeInfo,hi,hsz,slicedAt,show ¬ n=0 by omega]
theorem Q8a {w:zA} {g n:Nat} {t:zE} {cs:Array zB} (h:Blk w g t cs) (hn:cs.size=n):Q04 w w.heap.size 1 (some ⟨g,0,none⟩) n cs.toList :=⟨by simp [hn],fun _=>⟨_,rfl,h.lt,fun j u hu=>by rw [Q0R,zR,h.cell];simpa using hu⟩⟩
theorem Q9f:∀ (l:List zB) (k:Nat) (cs:Array zB),k+l.length<=cs.size->(l.zipIdx k).foldl (fun(cs:Array zB) (x:zB×Nat)=>cs.setIfInBounds x.2 x.1) cs=spl cs k l
 | [],k,cs,h=>by
  simp only [List.zipIdx_nil,List.foldl_nil];unfold spl;apply Array.toList_inj.1
  simp
 | v :: l,k,cs,h=>by rw [zT] at h;rw [List.zipIdx_cons,List.foldl_cons,Q9f l (k+1) _ (by rw [Array.size_setIfInBounds]; omega),Q9j cs k v l h]
theorem Q9c (cs D:Array zB) (n:Nat) (h0:cs.size=n) (h1:D.size=n):Array.foldl (fun(cs:Array zB) (x:zB×Nat)=>cs.setIfInBounds x.2 x.1) cs D.zipIdx 0 n=D:=by
 subst h1;have e:D.size=D.zipIdx.size:=by simp
 rw [e,<- Array.foldl_toList,Array.toList_zipIdx,Q9f _ _ _ (by simp [h0]),Q0a _ _ h0.symm]
theorem Q3r:(Tryz.prog.info? 51).map (·.size)=some 32:=by kernel_rfl
theorem Q8d (A:Option Addr) (n c p:Nat) (w:zA) (hp:4*p<=n) (hn:n<=1000000) (hc:n<=c) :
 Calls zL 101 #[.slice A n c,.int .i64 (p:Int)] w fun e w'=>e=.returned (.slice (if c=4*p then A else A.map (·.add (4*p*32))) (min (4*p+4) n - 4*p) (c - 4*p))/\w=w':=by
 by_cases h4:(n:Int)<4*(p:Int)+4
 ·have hsl:=fun(W:zA)=>Q45 (P:=zL) (t:=139) Tryz.underlying139 Q3r A n c (4*p) n (4*(p:Int)) (n:Int) (by omega) rfl (by omega) (by omega) W
  rw [show min (4*p+4) n=n by omega];generalize (if c=4*p then A else A.map (·.add (4*p*32)))=A' at hsl ⊢;go_enter Tryz.func101,Tryz.ntmps101
  go_wp2
  go_ret
  exact⟨rfl,rfl⟩
 have hsl:=fun(W:zA)=>Q45 (P:=zL) (t:=139) Tryz.underlying139 Q3r A n c (4*p) (4*p+4) (4*(p:Int)) (4*(p:Int)+4) (by omega) (by omega) (by omega) (by omega) W
 rw [show min (4*p+4) n=4*p+4 by omega];generalize (if c=4*p then A else A.map (·.add (4*p*32)))=A' at hsl ⊢;go_enter Tryz.func101,Tryz.ntmps101
 go_wp2
 go_ret
 exact⟨rfl,rfl⟩
end
section
open Go.RowKit Go.Maps
attribute [local irreducible] wpList
theorem Qbj {ds:LL} (hd:Digs ds) {i:Nat} (hi:i<ds.length) {w:zA} {ad:Addr} (h:∀ j u,(Q0j ds)[j]?=some u->w.cell? (ad.add j)=some u) :
 ∀ (j:Nat) (v:zB),(bRow ds[i])[j]?=some v->w.cell? ((ad.add (i*32)).add j)=some v:=fun j v hv=>by
 have hl:ds[i].length=32:=hd _ (List.getElem_mem hi);have hj:j<32:=by
  rcases zF j 32 with h1 | h1
  ·exact h1
  rw [Array.getElem?_eq_none (by rw [Q2l,hl]; exact h1)] at hv; cases hv
 rw [Q2b];refine h _ v ?_;rw [Q2G hd i j (zC hi) hj];simpa [bRow] using hv
theorem up_any (k:Book) (L:LL) (asked:Nat) (A:Option Addr) (n c:Nat) (ds:LL) (w:zA) (B:Nat) (hbk:Q0h w k L asked) (h:Q04 w B 32 A n (Q0j ds)) (hB:B<=w.heap.size) (hd:Digs ds) (h1:1<=n) (h4:n<=4) (has:asked<=1000000) :
 Calls zL 100 #[.pointer (some ⟨k.g,0,none⟩),.slice A n c] w fun e w'=>e=.returned (.tuple #[.agg (bRow (upD ds)),.int .i64 0])/\Q0h w' k (Q0V L (upIn ds)) (asked+1)/\Q0b k w w':=by
 have hxn:ds.length=n:=by have h2:=h.1; rw [Q1t hd] at h2; omega
 obtain⟨ad,rfl,hadb,hcell⟩:=h.2 (by omega);have HXN:=sH hxn;have HD:=sH hd;have HC:=sH hcell;have hX:zD w.heap.size w (w.alloc (.cells inkZ 51)):=(zO _ _).alloc (zM _) _;have hk0:Blk (w.alloc (.cells inkZ 51)) w.heap.size 51 inkZ:=Blk.newAt (by simp);have hlt:=hbk.lt;have hlt1:=hlt.1;have hlt2:=hlt.2.1;have hlt3:=hlt.2.2;have HBK:=sH hbk;obtain⟨i0,hi0,hz0,hz1,hz2⟩:=info_parts Q2p;have HZ:=sH Q23;have HZS:=sH (show inkZ.size=32 by simp [inkZ,bRow]);have hs0:(w.alloc (.cells inkZ 51)).heap.size=w.heap.size+1:=by simp
 have HX:=sH hX;have HK0:=sH hk0;have HS0:=sH hs0;clear h hlt hbk hX hk0 hs0 hxn hd hcell;obtain⟨g,hg⟩:∃ g,g=w.heap.size:=⟨_,rfl⟩;have hnn:¬ (n:Int)<1:=by omega
 have hnn4:¬ (4:Int)<(n:Int):=by omega
 go_enter Tryz.func100,Tryz.ntmps100
 go_upto_region 1 with fail
 rw [<- HZ.out];generalize World.alloc w _=w1 at HX HK0 HS0 ⊢;rw [<- hg] at HK0 HS0 ⊢;have hs1:=HX.out.size;have hg1:g<w1.heap.size:=by have:=HS0.out; omega
 have hgw:w.heap.size<=g:=by omega
 have hw0:=World.ownsRow_lit (base:=w1.heap.size) (e:=5) (size:=1) w1 #[.int .u8 1] 1 (zM _) (by unfold maxLen; omega) rfl;have hob0:OwnB (w1.alloc (.cells #[.int .u8 1] 5)) w1.heap.size (.slice (some ⟨w1.heap.size,0,none⟩) 1 1) (upIn (ds.take 0)):=hw0;have HW0:=sH hob0;have HX1:=sH (HX.out.trans ((Q02 w1 (.cells #[.int .u8 1] 5)).mono hs1));have HK1:=sH (HK0.out.under (Q02 w1 (.cells #[.int .u8 1] 5)));have hsz1:w1.heap.size<=(w1.alloc (.cells #[.int .u8 1] 5)).heap.size:=by simp
 have HSZ1:=sH hsz1;clear HS0 hg hw0 hob0 hsz1;go_wp2_with fail
 go_loopw [6,21] (fun ov iv wr=>∃ i:Nat,i<=n/\iv=.int .i64 i/\OwnB wr w1.heap.size ov (upIn (ds.take i))/\zD w.heap.size w wr/\Blk wr g 51 inkZ/\w1.heap.size<=wr.heap.size) (fun _ iv _=>n - (intOf iv).toNat)
 case atStart=>exact⟨0,by omega,rfl,HW0.out,HX1.out,HK1.out,HSZ1.out⟩
 obtain⟨i,hi,rfl,hov,hbel,hblk,hsr⟩:=hrel;have HOV:=sH hov;have HB:=sH hbel;have HKR:=sH hblk;have hsz:=hbel.size;have HUL:=sH (upIn_len (fun d hd=>HD.out d (List.mem_of_mem_take hd):Digs (ds.take i)));clear hov hbel hblk;by_cases hin:i<n
 ·have hil:i<ds.length:=by have:=HXN.out; omega
  have hcs:=Qbj HD.out hil HC.out;have hcs':∀ (j:Nat) (v:zB),(bRow ds[i])[j]?=some v->wr.cell? ((ad.add (i*32)).add j)=some v:=fun j v hv=>(HB.out.cell (show ((ad.add (i*32)).add j).block<w.heap.size by rw [Q0d,Q0d]; omega)).trans (hcs j v hv)
  have htk:upIn (ds.take (i+1))=upIn (ds.take i)++ds[i]:=by
   unfold upIn;rw [List.take_succ_eq_append_getElem hil,List.flatten_append]
   simp
  have hdl:ds[i].length=32:=HD.out _ (List.getElem_mem hil);obtain⟨d,hdd⟩:∃ d,d=ds[i]:=⟨_,rfl⟩;rw [<- hdd] at hcs' htk hdl;have HCS:=sH hcs';have HTK:=sH htk;have hds:=Q0S hdl;have hdo:=Q0Q d;have HDL:=sH hdl;have hdv:(bRow d).toList=d.map vb:=by simp [bRow]
  have HDV:=sH hdv;clear hcs hcs' htk hdd hdl hdv;obtain⟨D,hD⟩:∃ D,D=bRow d:=⟨_,rfl⟩;rw [<- hD] at HCS hds hdo HDV;have HDS:=sH hds;have HDO:=sH hdo;clear hds hdo hD;have hinI:(i:Int)<(n:Int):=by omega
  go_upto_region 7 with(first
   | (refine Q4l (o:=⟨some 24,_,_,_,_,_⟩) rfl 51 (.tmp 23) rfl (ad.add (i*32)) 32 rfl D _ Tryz.underlying51 rfl rfl HDS.out (fun j v hv=>HCS.out j v hv) ?_)
   | (refine Q00 (o:=⟨none,_,_,_,_,_⟩) rfl 51 (.tmp 8) (.tmp 24) rfl wr.heap.size 0 D rfl rfl 51 inkZ (by rw [HZ.out]; exact Blk.newAt rfl) (by rw [HDS.out]; rfl) (by rw [HDS.out,HZS.out]; omega) HDO.out ?_; intro w3 hT3 hD3; rw [Q0a _ _ (by rw [HDS.out,HZS.out])] at hD3))
  have hb3:zD wr.heap.size wr w3:=hT3.below ((zO _ _).alloc (zM _) _) (zM _);have HB3:=sH (HB.out.trans (hb3.mono hsz));have HO3:=sH (HOV.out.below hb3);have HK3:=sH (HKR.out.under hb3);have hs3:=hb3.size;have hr3:=Q8a hD3 HDS.out;rw [HDV.out] at hr3;have HR3:=sH hr3;obtain⟨gq,hgq⟩:∃ gq,gq=wr.heap.size:=⟨_,rfl⟩;rw [<- hgq] at HR3 ⊢;have HSL:=sH (fun(W:zA)=>Q4R (P:=zL) (t:=51) Tryz.underlying51 (show (Tryz.prog.info? 5).map (·.size)=some 1 by kernel_rfl) (by omega) ⟨gq,0,none⟩ W);have hrow:=HO3.out.row;have hul:=HUL.out;have hlen:(ds.take i).length<=4:=by rw [List.length_take]; omega
  have HWN:=sH hrow;have hge:=fun b (hb:(_:zB).ownBlock=some b)=>HO3.out.ge hb
  have HGE:=sH hge;obtain⟨xb,hxb⟩:∃ xb,xb=upIn (ds.take i):=⟨_,rfl⟩;rw [<- hxb] at HWN hul HTK;have HXB:=sH hxb;clear hT3 hD3 hb3 hr3 hrow hgq hge hxb HOV HO3;go_wp2_with (first
   | (refine wpList_exec_w (o:=⟨some 26,_,_,_,_,_⟩) rfl (.slice (some ⟨gq,0,none⟩) 32 32) w3 (by
    have:=HSL.out w3
    go_simp
    exact this) ?_)
   | (at_builtin; go_must (refine Q05 (o:=⟨some 27,_,_,_,_,_⟩) _ rfl (.tmp 25) (.tmp 26) 28 rfl w1.heap.size 5 i0 _ 1 1 Tryz.underlying28 hi0 hz0 hz1 hz2 rfl (by omega) _ _ _ rfl HWN.out w3.heap.size (some ⟨gq,0,none⟩) 32 32 (d.map vb) rfl HR3.out ?c1 ?c2 ?c3 ?c4 ?_)))
  case c1=>intro u hu; first | rfl | (obtain⟨y,_,rfl⟩:=List.mem_map.1 hu; rfl)
  case c2=>unfold maxLen; omega
  case c3=>omega
  case c4=>omega
  intro v6 w6 hown6 hg6 hor6;have HB6:=sH (Q0i HB3.out (by omega) hg6 (fun b hb=>by have:=HGE.out b hb; omega));have hk6:Blk w6 g 51 inkZ:=HK3.out.grown hg6 (fun e=>by have:=HGE.out g e.symm; omega);have HK6:=sH hk6;have hs6:=hg6.size;have HO6:=sH (show OwnB w6 w1.heap.size v6 (upIn (ds.take (i+1))) by unfold OwnB;rw [HTK.out,zN,List.map_append,HDL.out,hul,List.length_take];exact hown6)
  clear hown6 hg6 hor6 hk6;go_wp2_with fail
  go_roundw
  case rel=>exact⟨i+1,by omega,by go_num,HO6.out,HB6.out,HK6.out,by omega⟩
  case measure=>simp [intOf]; omega
 obtain rfl:i=n:=by omega
 have hiI:¬ (i:Int)<(i:Int):=by omega
 have htk:ds.take i=ds:=zV (by have:=HXN.out; omega);rw [htk] at HOV HUL;have hob:=HOV.out;have hul:=HUL.out;obtain⟨Ab,cb,rfl,hbc,hbm,hbr,hbB⟩:=Q0m hob;have HBK2:=sH (HBK.out.below HB.out);have hap:=Q6g (w:=w) (k:=k) (n:=(upIn ds).length) hbB (by omega);have hof:=Q7X k L asked Ab (upIn ds).length cb (upIn ds) wr _ HBK2.out hbr (zM _) (fun a h0 ha e=>hap a h0 ha (.inl e)) hbc hbm (by have:=HXN.out; omega) has;have hsz5:(bRow (upD ds)).size=32:=Q0S (Q58 ds);have hon:=Q0Q (upD ds);have HOF:=sH hof;have hdd:upD ds=Q14 (upIn ds):=rfl;rw [<- hdd] at HOF;obtain⟨D,hD⟩:∃ D,D=bRow (upD ds):=⟨_,rfl⟩;rw [<- hD] at HOF hsz5 hon;have HD5:=sH hD;have HSZ:=sH hsz5;have HON:=sH hon;generalize (upIn ds).length=ul at *;clear hob hbr hbB hap hof hsz5 hon hdd hD htk HOV HUL hul;go_wp2_with fail
 refine HOF.out.mono ?_;rintro _ w3 ⟨rfl,hbk3,ho3⟩;have HO3:=sH ((Q0b.of_below HB.out).trans ho3);have hk3:Blk w3 g 51 inkZ:=(ho3.block g (by omega) (by rintro (e | e | e) <;> omega)).trans HKR.out;have HK3:=sH hk3;have HBK3:=sH hbk3;have hs3:=ho3.size;clear hbk3 ho3 hk3;go_wp2_with (refine Q00 (o:=⟨none,_,_,_,_,_⟩) rfl 51 (.tmp 4) (.tmp 32) rfl g 0 D rfl rfl 51 inkZ HK3.out (by rw [HSZ.out]; rfl) (by rw [HSZ.out,HZS.out]; omega) HON.out ?_; intro w5 hT5 hD6; rw [Q0a _ _ (by rw [HSZ.out,HZS.out])] at hD6)
 refine bodyPost_ret (Q03 rfl _ _ g 32 51 _ _ rfl hD6 Tryz.underlying51 rfl rfl HSZ.out) rfl ⟨by rw [HD5.out]; rfl,?_,?_⟩
 ·exact HBK3.out.grown hT5.grown ⟨by omega,by omega,by omega⟩
 exact HO3.out.grown hT5.grown (by omega)
end
section
open Go.RowKit Go.Maps
theorem Q7g {j n:Nat}:j<grps n <-> 4*j<n:=by unfold grps; omega
theorem Q7I {ds:LL} (hd:Digs ds) (p:Nat) (hp:4*p<=ds.length):((Q0j ds).drop (4*p*32)).take ((min (4*p+4) ds.length - 4*p)*32)=Q0j (grp ds p):=by
 rw [Q5z hd,Q5i (fun d h=>hd d (List.mem_of_mem_drop h))];unfold grp;congr 1
 rcases zF (ds.length - 4*p) 4 with h | h
 ·rw [zV (by rw [List.length_drop]; omega),zV (by rw [List.length_drop]; omega)]
 rw [show min (4*p+4) ds.length - 4*p=4 by omega]
def Q2u (ds:LL) (j:Nat):LL:=(zK j).map fun p=>upD (grp ds p)
theorem Q6P (ds:LL) (j:Nat):Q2u ds (j+1)=Q2u ds j++[upD (grp ds j)]:=by simp [Q2u,List.range_succ]
theorem Q84:(Tryz.prog.info? 51).map (fun i=>(i.zero,i.size,i.bytes))=some (some (.agg inkZ),32,32):=by kernel_rfl
theorem tdiv4 (j:Nat):(4*(j:Int)).tdiv 4=(j:Int):=Int.mul_tdiv_cancel_left _ (by decide)
theorem Qb7 (w:zA) (cs:Array zB) (t:zE) (m:Nat) (h:cs.size=m):Q04 (w.alloc (.cells cs t)) (w.heap.size+1) m (some ⟨w.heap.size,0,none⟩) 1 cs.toList:=by
 obtain⟨_,h2⟩:=Q0l w cs t;refine⟨by simp [h],fun _=>?_⟩;rcases zH cs.size with h0 | h0
 ·exact⟨_,rfl,by simp,fun j u hu=>by
   have:cs.toList.length=0:=by simpa using h0
   rw [List.getElem?_eq_none (by omega)] at hu; cases hu⟩
 obtain⟨ad,h3,h4,h5⟩:=h2 h0;exact⟨ad,h3,h4,h5⟩
theorem Q0k {w w':zA} {B n s:Nat} {e:zE} {v:zB} {vs:List zB} (h:w.ownsRow B e s v n vs) (hk:∀ b,v.ownBlock=some b->w'.heap[b]?=w.heap[b]?):w'.ownsRow B e s v n vs:=by
 rcases h.2 with hv | ⟨g,cap,cur,hv,h2,h3,h4⟩
 ·exact⟨h.1,.inl hv⟩
 exact⟨h.1,.inr ⟨g,cap,cur,hv,h2,(hk g (by rw [hv]; rfl)).trans h3,h4⟩⟩
theorem Q0f {w:zA} {B b n s:Nat} {e:zE} {v:zB} {vs:List zB} (h:w.ownsRow B e s v n vs) (hb:v.ownBlock=some b):B<=b/\b<w.heap.size:=h.lt b hb
theorem Q1J {l:LL} {x y:List UInt8} (h:y∈l):y∈Q0V l x:=by
 unfold Q0V;split
 ·exact h
 exact List.mem_append_left _ h
theorem Q2Q (l:LL) (x:List UInt8):x∈Q0V l x:=by
 unfold Q0V;split
 ·rename_i h; simpa using h
 exact List.mem_append_right _ (List.mem_singleton.2 rfl)
theorem Qag (k:Book) (L:LL) (asked:Nat) (A:Option Addr) (n c:Nat) (ds:LL) (w:zA) (hbk:Q0h w k L asked) (h:Q04 w w.heap.size 32 A n (Q0j ds)) (hap:∀ a,0<n->A=some a->¬ k.has a.block) (hd:Digs ds) (hn:n<=1000) (hc:n<=c) (has:asked<=900000) :
 Calls zL 111 #[.pointer (some ⟨k.g,0,none⟩),.slice A n c] w fun e w'=>∃ v L',e=.returned v/\w'.ownsRow w.heap.size 51 32 v (grps n) (Q0j (Q1H ds))/\Q0h w' k L' (asked+grps n)/\(∀ x,x∈L->x∈L')/\(∀ p,p<grps n->upIn (grp ds p)∈L')/\Q0b k w w':=by
 have hxn:ds.length=n:=by have h2:=h.1; rw [Q1t hd] at h2; omega
 have HXN:=sH hxn;have HD:=sH hd;have HR:=sH h;have HAP:=sH hap;have hlt:=hbk.lt;have HLT:=sH hlt;have HBK:=sH hbk;have HZS:=sH (show inkZ.size=32 by simp [inkZ,bRow]);have HZ:=sH Q23;obtain⟨i0,hi0,hz0,hz1,hz2⟩:=info_parts Q84;clear h hlt hbk hxn hd hap;have hgn:grps n<=251:=by unfold grps; omega
 go_enter Tryz.func111,Tryz.ntmps111
 go_wp2_with fail
 go_loopw [5,6] (fun ov iv wr=>∃ j:Nat,j<=grps n/\iv=.int .i64 (4*(j:Int))/\wr.ownsRow w.heap.size 51 32 ov j (Q0j (Q2u ds j))/\(∃ Lr,Q0h wr k Lr (asked+j)/\(∀ x,x∈L->x∈Lr)/\(∀ p,p<j->upIn (grp ds p)∈Lr))/\Q0b k w wr) (fun _ iv _=>n+8 - (intOf iv).toNat)
 case atStart=>exact⟨0,by omega,by simp,World.ownsRow_nil _ _ _ _,⟨L,HBK.out,fun _ h=>h,fun p hp=>by omega⟩,Q0b.refl _ _⟩
 obtain⟨j,hj,rfl,hov,⟨Lr,hbr,hLr,hLp⟩,hob⟩:=hrel;have HOV:=sH hov;have HB:=sH hbr;have HOB:=sH hob;have HLR:=sH hLr;have HLP:=sH hLp;have hsz:=hob.size;clear hov hbr hob hLr hLp;by_cases hjn:j<grps n
 ·have h4n:4*j<n:=Q7g.1 hjn;have h4i:4*(j:Int)<(n:Int):=by omega
  have HQ:=sH (tdiv4 j);have hdv:=tdiv4 j;have hgr:=fun W=>Q8d A n c j W (by omega) (by omega) hc
  have hrs:Q04 wr wr.heap.size 32 (if c=4*j then A else A.map (·.add (4*j*32))) (min (4*j+4) n - 4*j) (Q0j (grp ds j)):=by have h1:=(Only.of_book HOB.out).reads HR.out HAP.out;have h2:=h1.sub (l:=4*j) (k:=min (4*j+4) n) (cap:=c) (by omega) (by omega) hc;rw [<- HXN.out,Q7I HD.out j (by have:=HXN.out; omega),HXN.out] at h2;exact h2
  have hup:=up_any k Lr (asked+j) _ _ (c - 4*j) (grp ds j) wr _ HB.out hrs (zM _) (Q9b HD.out j) (by omega) (by omega) (by omega);generalize (if c=4*j then A else A.map (·.add (4*j*32)))=A2 at hgr hup;have HG:=sH hgr;have HU:=sH hup;have hsz5:(bRow (upD (grp ds j))).size=32:=Q0S (Q58 _);have hon:=Q0Q (upD (grp ds j));have hdv2:(bRow (upD (grp ds j))).toList=(upD (grp ds j)).map vb:=by simp [bRow]
  obtain⟨D,hD⟩:∃ D,D=bRow (upD (grp ds j)):=⟨_,rfl⟩;rw [<- hD] at HU hsz5 hon hdv2;have HSZ:=sH hsz5;have HON:=sH hon;have HDV:=sH hdv2;clear hgr hrs hup hsz5 hon hD hdv2;go_wp2_with fail
  refine(HG.out wr).mono ?_;rintro _ _ ⟨rfl,rfl⟩;go_wp2_with fail
  refine HU.out.mono ?_;rintro _ w3 ⟨rfl,hbk3,ho3⟩;have HB3:=sH hbk3;have HO3:=sH (HOB.out.trans ho3);have hrow3:=Q0k HOV.out (w':=w3) (fun b hb=>by have:=Q0f HOV.out hb;have hl:=HLT.out;exact ho3.block b this.2 (by rintro (e | e | e) <;> omega))
  have HW3:=sH hrow3;have hs3:=ho3.size;clear hbk3 ho3 hrow3 HG HU HB HOV HOB;go_upto_region 6 with(refine Q00 (o:=⟨none,_,_,_,_,_⟩) rfl 51 (.tmp 7) (.tmp 22) rfl w3.heap.size 0 D rfl rfl 51 inkZ (by rw [HZ.out]; exact Blk.newAt rfl) (by rw [HSZ.out]; rfl) (by rw [HSZ.out,HZS.out]; omega) HON.out ?_; intro w4 hT4 hD4; rw [Q0a _ _ (by rw [HSZ.out,HZS.out])] at hD4)
  have hb4:zD w3.heap.size w3 w4:=hT4.below ((zO _ _).alloc (zM _) _) (zM _);have HB4:=sH (HB3.out.below hb4);have HO4:=sH (HO3.out.trans (Q0b.of_below hb4));have HW4:=sH (Q0k HW3.out (fun b hb=>hb4.block b (Q0f HW3.out hb).2));have hs4:=hb4.size;have HD4:=sH hD4;obtain⟨g4,hg4⟩:∃ g,g=w3.heap.size:=⟨_,rfl⟩;rw [<- hg4] at HD4 ⊢;have hSZ:=HSZ.out;clear hT4 hD4 hb4 HW3 hg4 HB3 HO3;go_wp2_with (first
   | (refine Q01 (o:=⟨some 25,_,_,_,_,_⟩) rfl 51 (.tmp 7) rfl g4 0 32 rfl 51 _ D _ HD4.out Tryz.underlying51 rfl rfl HSZ.out (fun _ _=>by rw [zR]) ?_)
   | (at_builtin; (rw [Q9c _ D 32 rfl HSZ.out]; refine Q05 _ rfl (.tmp 24) (.tmp 26) 139 rfl w.heap.size 51 i0 _ 32 32 Tryz.underlying139 hi0 hz0 hz1 hz2 HZS.out (by omega) _ j (Q0j (Q2u ds j)) rfl ?row (w4.heap.size+1) (some ⟨w4.heap.size,0,none⟩) 1 1 D.toList rfl ?rd ?c1 ?c2 ?c3 ?c4 ?_)))
  case row=>exact Q0k HW4.out (fun b hb=>Below.heap_alloc _ _ b (Q0f HW4.out hb).2)
  case rd=>exact Qb7 _ _ _ _ HSZ.out
  case c1=>exact fun u hu=>List.all_eq_true.1 (by have:=HON.out; rw [<- Array.all_toList] at this; exact this) u hu
  case c2=>unfold maxLen; omega
  case c3=>omega
  case c4=>have:=HO4.out.size; simp; omega
  intro v6 w6 hown6 hg6 hor6;have hal:zD w4.heap.size w4 (w4.alloc (.cells D 51)):=(zO _ _).alloc (zM _) _;have hO6:Q0b k w w6:=by have h5:=HO4.out.trans (Q0b.of_below hal);have hsz4:=HO4.out.size;refine⟨hg6.os.trans h5.os,hg6.tape.trans h5.tape,hg6.output.trans h5.output,Nat.le_trans h5.size hg6.size,fun i hi hn=>(hg6.block i (by have:=h5.size; omega) (fun e=>?_)).trans (h5.block i hi hn)⟩;have:=(Q0f HW4.out e.symm).1;omega
  have hB6:Q0h w6 k (Q0V Lr (upIn (grp ds j))) (asked+j+1):=by have h5:=HB4.out.below hal;have hl:=HLT.out;refine h5.only (N:=fun b=>w.heap.size<=b) ⟨hg6.os,hg6.tape,hg6.output,hg6.size,fun i hi hn=>hg6.block i hi (fun e=>hn (Q0f HW4.out e.symm).1)⟩ ?_ ?_ ?_ <;> omega
  have HB6:=sH hB6;have HO6:=sH hO6;have hown7:w6.ownsRow w.heap.size 51 32 v6 (j+1) (Q0j (Q2u ds (j+1))):=by
   rw [Q6P,Q6A];have e:Q0j [upD (grp ds j)]=D.toList:=by rw [HDV.out]; simp [Q0j]
   rw [e];exact hown6
  have HW6:=sH hown7;clear hB6 hO6 hal hown6 hown7 hg6 hor6 HW4 HB4 HO4;go_wp2_with fail
  go_roundw
  case rel=>exact⟨j+1,by omega,by go_num,HW6.out,⟨_,HB6.out,fun x hx=>Q1J (HLR.out x hx),fun p hp=>by
   rcases zF p j with h | h
   ·exact Q1J (HLP.out p h)
   obtain rfl:p=j:=by omega
   exact Q2Q _ _⟩,HO6.out⟩
  case measure=>simp [intOf]; omega
 have h4i:¬ 4*(j:Int)<(n:Int):=by have:=mt Q7g.2 hjn; omega
 obtain rfl:j=grps n:=by omega
 go_wp2_with fail
 go_ret
 refine⟨_,rfl,?_,Lr,HB.out,HLR.out,HLP.out,HOB.out⟩;have:=HOV.out;rw [show Q2u ds (grps n)=Q1H ds by unfold Q2u Q1H; rw [HXN.out]] at this;exact this
structure Q1X (w:zA) (g cap:Nat) (ds:LL):Prop where
 row:∃ cur:Array zB,Blk w g 51 cur/\cur.size=cap*32/\cur.toList.take (ds.length*32)=Q0j ds
 cap:ds.length<=cap/\cap<=maxLen
theorem Q1X.of_own {w:zA} {B:Nat} {v:zB} {n:Nat} {ds:LL} (h:w.ownsRow B 51 32 v n (Q0j ds)) (hd:Digs ds) (h0:0<n):ds.length=n/\∃ g cap,v=.slice (some ⟨g,0,none⟩) n cap/\B<=g/\Q1X w g cap ds:=by
 have hl:ds.length=n:=by have:=h.1; rw [Q1t hd] at this; omega
 rcases h.2 with⟨_,h1⟩ | ⟨g,cap,cur,hv,h2,h3,h4,h5,h6,h7⟩
 ·omega
 exact⟨hl,g,cap,hv,h2,⟨⟨cur,h3,h6,by rw [hl]; exact h7⟩,by omega,h5⟩⟩
theorem Q1X.lt {w:zA} {g cap:Nat} {ds:LL} (h:Q1X w g cap ds):g<w.heap.size:=by obtain⟨cur,h1,_⟩:=h.row;exact h1.lt
theorem Q1X.keep {w w':zA} {g cap:Nat} {ds:LL} (h:Q1X w g cap ds) (hk:w'.heap[g]?=w.heap[g]?):Q1X w' g cap ds:=by obtain⟨cur,h1,h2⟩:=h.row;exact⟨⟨cur,hk.trans h1,h2⟩,h.cap⟩
theorem Q1X.reads {w:zA} {g cap:Nat} {ds:LL} (h:Q1X w g cap ds) (hd:Digs ds):Q04 w w.heap.size 32 (some ⟨g,0,none⟩) ds.length (Q0j ds):=by
 obtain⟨cur,h1,h2,h3⟩:=h.row;refine⟨Q1t hd,fun _=>⟨_,rfl,h1.lt,fun j u hu=>?_⟩⟩;rw [Q0R,zR,h1.cell,<- zW];rw [<- h3,zQ] at hu;split at hu
 ·exact hu
 cases hu
theorem Q1X.set {w w':zA} {g cap i:Nat} {ds:LL} {d:List UInt8} (h:Q1X w g cap ds) (hd:Digs ds) (hdl:d.length=32) (hi:i<ds.length) (hk:∀ cur:Array zB,Blk w g 51 cur->cur.size=cap*32->Blk w' g 51 (spl cur (i*32) (d.map vb))):Q1X w' g cap (ds.set i d):=by
 obtain⟨cur,h1,h2,h3⟩:=h.row;have hc:=h.cap;have hm:(i+1)*32<=cap*32:=Nat.mul_le_mul_right _ (by omega);have hle:i*32+(d.map vb).length<=cur.size:=by rw [zU,hdl,h2]; omega
 refine⟨⟨_,hk cur h1 h2,by rw [Q4c hle,h2],?_⟩,by rw [List.length_set]; exact hc⟩;apply List.ext_getElem?
 intro j;have hl:=Q1t (hd.set i hdl);have hl0:=Q1t hd;rw [List.length_set] at hl ⊢;rw [zQ];rcases zF j (ds.length*32) with hj | hj
 ·rw [if_pos hj,zW,Q4y hle];have hq:j / 32<ds.length:=by omega
  have hj2:j=j / 32*32+j % 32:=by omega
  by_cases he:j / 32=i
  ·rw [if_pos (by rw [zU,hdl]; omega)];have:=Q2G (hd.set i hdl) i (j % 32) (d:=d) (by rw [List.getElem?_set_self hi]) (by omega);rw [hj2,he,this];congr 1
   omega
  rw [if_neg (by rw [zU,hdl]; omega),<- zW];have e1:(Q0j ds)[j]?=cur.toList[j]?:=by rw [<- h3,zQ,if_pos hj]
  have hg1:=Q2G hd (j / 32) (j % 32) (zC hq) (by omega);have hg2:=Q2G (hd.set i hdl) (j / 32) (j % 32) (d:=ds[j / 32]) (by rw [List.getElem?_set_ne (fun e=>he e.symm),zC hq]) (by omega);rw [<- hj2] at hg1 hg2;rw [hg2,<- hg1,e1]
 rw [if_neg (by omega),List.getElem?_eq_none (by omega)]
theorem slc_info:(Tryz.prog.info? 139).map (fun i=>(i.zero,i.size,i.bytes))=some (some (.slice none 0 0),1,24):=by kernel_rfl
structure LvSt (w wr:zA) (k:Book) (L:LL) (asked:Nat) (ls:LL) (g0 c s:Nat) (gs cs:Nat->Nat) (ov:zB):Prop where
 g0:gs 0=g0
 c0:cs 0=c
 row:wr.ownsRow w.heap.size 139 1 ov (s+1) ((zK (s+1)).map fun j=>.slice (some ⟨gs j,0,none⟩) (lv ls j).length (cs j))
 dig:∀ j,j<=s->Q1X wr (gs j) (cs j) (lv ls j)
 new:∀ j,1<=j->j<=s->w.heap.size<=gs j
 ne:∀ i j,i<j->j<=s->gs i≠gs j
 book:∃ L' a',Q0h wr k L' a'/\a'<=asked+4*s/\(∀ x,x∈L->x∈L')/\(1<=s->∀ p,p<grps ls.length->upIn (grp (lv ls 0) p)∈L')/\(2<=s->upIn (lv ls 1)∈L')
 only:Q0b k w wr
theorem Q97 {ls:LL} (h5:5<=ls.length) (h16:ls.length<=16) (s:Nat) (hs:s<=2):(1<(lv ls s).length <-> s<2)/\(lv ls s).length<=16/\1<=(lv ls s).length/\grps (lv ls s).length<=4:=by
 have h0:=Q5c ls;have h1:=Q55 ls;have h2:=lv_len2 ls;obtain rfl | rfl | rfl:s=0\/s=1\/s=2:=by omega
 ·rw [h0]; unfold grps; omega
 ·rw [h1]; unfold grps; omega
 rw [h2]; unfold grps; omega
theorem Qac (k:Book) (L:LL) (asked:Nat) (g0 n c:Nat) (ls:LL) (w:zA) (hbk:Q0h w k L asked) (h:Q1X w g0 c (lv ls 0)) (hap:¬ k.has g0) (h5:5<=ls.length) (h16:ls.length<=16) (hn:n=ls.length) (has:asked<=800000) :
 Calls zL 95 #[.pointer (some ⟨k.g,0,none⟩),.slice (some ⟨g0,0,none⟩) n c] w fun e w'=>∃ v gs cs,e=.returned v/\LvSt w w' k L asked ls g0 c 2 gs cs v:=by
 have hn0:n=(lv ls 0).length:=by rw [Q5c]; exact hn
 have HAP:=sH hap;have HBK:=sH hbk;have H0:=sH h;have h0lt:=h.lt;have hlt:=hbk.lt;have HLT:=sH hlt;have HN:=sH hn0;obtain⟨i0,hi0,hz0,hz1,hz2⟩:=info_parts slc_info;have hw0:=World.ownsRow_lit (base:=w.heap.size) (e:=139) (size:=1) w #[.slice (some ⟨g0,0,none⟩) n c] 1 (zM _) (by unfold maxLen; omega) rfl;have hst:LvSt w (w.alloc (.cells #[.slice (some ⟨g0,0,none⟩) n c] 139)) k L asked ls g0 c 0 (fun _=>g0) (fun _=>c) (.slice (some ⟨w.heap.size,0,none⟩) 1 1):=by
  refine⟨rfl,rfl,?_,fun j hj=>?_,fun j h1 h2=>by omega,fun i j h1 h2=>by omega,⟨L,asked,hbk.below (Q02 _ _),by omega,fun _ h=>h,fun h=>by omega,fun h=>by omega⟩,Q0b.of_below (Q02 _ _)⟩
  ·rw [hn0] at hw0 ⊢;exact hw0
  obtain rfl:j=0:=by omega
  exact h.keep (Below.heap_alloc _ _ _ h0lt)
 have HST:=sH hst;clear h hap hbk hlt hst hw0 hn hn0;go_enter Tryz.func95,Tryz.ntmps95
 go_wp2_with fail
 go_loopw [1,5] (fun lw ov wr=>∃ s gs cs m,s<=2/\m=(lv ls s).length/\lw=.slice (some ⟨gs s,0,none⟩) m (cs s)/\LvSt w wr k L asked ls g0 c s gs cs ov) (fun lw _ _=>(match lw with | .slice _ n _=>n | _=>0))
 case atStart=>exact⟨0,_,_,n,by omega,HN.out,rfl,HST.out⟩
 obtain⟨s,gs,cs,m,hs,hm,rfl,hlv⟩:=hrel;have HLV:=sH hlv;obtain⟨hc1,hc2,hc3,hc4⟩:=Q97 h5 h16 s hs;rw [<- hm] at hc1 hc2 hc3 hc4;have HM:=sH hm;by_cases h1:1<m
 ·have hs2:=hc1.1 h1;have h1i:(1:Int)<(m:Int):=by omega
  obtain⟨Ls,a',hbk,ha',hLs,hp1,hp2⟩:=hlv.book;have hg:=hlv.dig s (zM _);have hgk:¬ k.has (gs s):=by
   rcases zH s with e | e
   ·subst e; rw [hlv.g0]; exact HAP.out
   have:=hlv.new s e (zM _);have hl:=HLT.out;rintro (e | e | e) <;> omega
  have hab:=Qag k Ls a' (some ⟨gs s,0,none⟩) m (cs s) (lv ls s) wr hbk (by have:=hg.reads (Q4i ls s); rw [<- hm] at this; exact this) (fun a _ e=>by injection e with e; subst e; exact hgk) (Q4i ls s) (by omega) (by have:=hg.cap; rw [<- hm] at this; exact this.1) (by omega);have HAB:=sH hab;have HL1:=sH hLs;have HP1:=sH hp1;have HP2:=sH hp2;have hsw:=hlv.only.size;clear hlv hbk hg hab hLs hp1 hp2 hm;go_wp2_with fail
  refine HAB.out.mono ?_;rintro _ w3 ⟨v3,L3,rfl,hrow3,hbk3,hL3,hp3,ho3⟩;obtain⟨hl3,g3,c3,rfl,hg3,hd3⟩:=Q1X.of_own hrow3 (Q5R _) (by unfold grps; omega);have HR3:=sH (Q0k HLV.out.row (w':=w3) (fun b hb=>by have:=Q0f HLV.out.row hb;have hl:=HLT.out;exact ho3.block b this.2 (by rintro (e | e | e) <;> omega)))
  have HO3:=sH (HLV.out.only.trans ho3);have hs3:=ho3.size;obtain⟨m2,hm2⟩:∃ m2,m2=grps m:=⟨_,rfl⟩;rw [<- hm2];have HM2:=sH hm2;have HW3:=sH (Q0l w3 #[.slice (some ⟨g3,0,none⟩) m2 c3] 139);have HBK3:=sH hbk3;have HL3:=sH hL3;have HP3:=sH hp3;have HD3:=sH hd3;have HO:=sH ho3;have hm2l:m2<=4/\1<=m2:=by rw [hm2]; unfold grps at hc4 ⊢; omega
  clear hrow3 hbk3 hL3 hp3 hd3 ho3 HAB hm2;go_wp2_with (at_builtin; go_must (refine Q05 _ rfl (.tmp 14) (.tmp 16) 151 rfl w.heap.size 139 i0 _ 1 24 Tryz.underlying151 hi0 hz0 hz1 hz2 rfl (by omega) _ (s+1) ((zK (s+1)).map fun j=>Value.slice (some ⟨gs j,0,none⟩) (lv ls j).length (cs j)) rfl ?row (w3.heap.size+1) (some ⟨w3.heap.size,0,none⟩) 1 1 [.slice (some ⟨g3,0,none⟩) m2 c3] rfl ?rd ?c1 ?c2 ?c3 ?c4 ?_))
  case row=>exact Q0k HR3.out (fun b hb=>Below.heap_alloc _ _ b (Q0f HR3.out hb).2)
  case rd=>exact HW3.out
  case c1=>intro u hu; rw [List.mem_singleton] at hu; subst hu; rfl
  case c2=>unfold maxLen; omega
  case c3=>omega
  case c4=>simp; omega
  intro v6 w6 hown6 hg6 hor6;have hal:zD w3.heap.size w3 (w3.alloc (.cells #[.slice (some ⟨g3,0,none⟩) m2 c3] 139)):=Q02 _ _;have hfar:∀ b,b<w.heap.size->w6.heap[b]?=w3.heap[b]?:=fun b hb=>(hg6.block b (by have:=hal.size; omega) (fun e=>by have:=(Q0f HR3.out e.symm).1; omega)).trans (hal.block b (by omega))
  have hkeep:∀ b,b<w3.heap.size->(∃ cur,Blk w3 b 51 cur)->w6.heap[b]?=w3.heap[b]?:=fun b hb ⟨cur,hcur⟩=>(hg6.block b (by have:=hal.size; omega) (fun e=>Q09 HR3.out hcur (by decide) e.symm)).trans (hal.block b hb)
  have hdk:∀ g cap ds,Q1X w3 g cap ds->Q1X w6 g cap ds:=fun g cap ds hd=>hd.keep (by obtain⟨cur,h1,_⟩:=hd.row;exact hkeep g hd.lt ⟨cur,h1⟩)
  have hst6:LvSt w w6 k L asked ls g0 c (s+1) (fun j=>if j=s+1 then g3 else gs j) (fun j=>if j=s+1 then c3 else cs j) v6:=by
   have hold:=HLV.out;have ho:=HO.out;have hl:=HLT.out;refine⟨by simp [hold.g0],by simp [hold.c0],?_,fun j hj=>?_,fun j h1 h2=>?_,fun i j h1 h2=>?_,⟨L3,a'+grps m,?_,?_,fun x hx=>HL3.out x (HL1.out x hx),fun _ p hp=>?_,fun h2=>?_⟩,?_⟩
   ·have e:(zK (s+1+1)).map (fun j=>Value.slice (some ⟨if j=s+1 then g3 else gs j,0,none⟩) (lv ls j).length (if j=s+1 then c3 else cs j))=(zK (s+1)).map (fun j=>Value.slice (some ⟨gs j,0,none⟩) (lv ls j).length (cs j))++[.slice (some ⟨g3,0,none⟩) m2 c3]:=by
     rw [List.range_succ,List.map_append];congr 1
     ·refine List.map_congr_left fun j hj=>?_
      have:=List.mem_range.1 hj;rw [if_neg (by omega),if_neg (by omega)]
     simp only [List.map_cons,List.map_nil,if_true];rw [show (lv ls (s+1)).length=m2 by show (Q1H (lv ls s)).length=_; rw [Q2d,<- HM.out,HM2.out]]
    rw [e,List.range_succ,List.map_append,zP];exact hown6
   ·by_cases he:j=s+1
    ·subst he;simp only [if_true];exact hdk _ _ _ HD3.out
    simp only [if_neg he];have hd:=hold.dig j (by omega);refine hdk _ _ _ (hd.keep (ho.block _ hd.lt ?_));rcases zH j with e | e
    ·subst e; rw [hold.g0]; exact HAP.out
    have:=hold.new j e (by omega);rintro (e | e | e) <;> omega
   ·by_cases he:j=s+1
    ·simp only [if_pos he]; omega
    simp only [if_neg he]; exact hold.new j h1 (by omega)
   ·have hi:i≠s+1:=by omega
    simp only [if_neg hi];by_cases he:j=s+1
    ·simp only [if_pos he];have:=(hold.dig i (by omega)).lt;omega
    simp only [if_neg he]; exact hold.ne i j h1 (by omega)
   ·exact HBK3.out.only (N:=fun b=>w.heap.size<=b) ⟨hg6.os.trans hal.os,hg6.tape.trans hal.tape,hg6.output.trans hal.output,by have:=hal.size; have:=hg6.size; omega,fun i hi hn=>hfar i (by omega)⟩ (by omega) (by omega) (by omega)
   ·have:=HM2.out; omega
   ·rcases zH s with e | e
    ·subst e;refine HP3.out p ?_;rw [HM.out,Q5c];exact hp
    exact HL3.out _ (HP1.out e p hp)
   ·obtain rfl:s=1:=by omega
    have:=HP3.out 0 (by unfold grps; omega);have e:grp (lv ls 1) 0=lv ls 1:=by unfold grp;rw [Nat.mul_zero,List.drop_zero,zV];rw [Q55]; unfold grps; omega
    rw [e] at this;exact this
   have h5:=HO3.out;refine⟨hg6.os.trans (hal.os.trans h5.os),hg6.tape.trans (hal.tape.trans h5.tape),hg6.output.trans (hal.output.trans h5.output),by have:=hal.size; have:=hg6.size; have:=h5.size; omega,fun i hi hn=>(hfar i hi).trans (h5.block i hi hn)⟩
  have HST6:=sH hst6;clear hst6 hdk hkeep hfar hal hown6 hg6 hor6 HD3 HO HR3 HW3;go_wp2_with fail
  go_roundw
  case rel=>exact⟨s+1,_,_,m2,by omega,by show m2=(Q1H (lv ls s)).length; rw [Q2d,<- HM.out,HM2.out],by simp,HST6.out⟩
  case measure=>show m2<m; rw [HM2.out]; unfold grps; omega
 have hs2:s=2:=by have:=mt hc1.2 h1; omega
 subst hs2;have h1i:¬ (1:Int)<(m:Int):=by omega
 clear hlv hm;go_wp2_with fail
 go_ret
 exact⟨_,rfl,gs,cs,HLV.out⟩
end
section
open Go.RowKit Go.Maps
attribute [local irreducible] wpList
section
variable {P:zG}
theorem Q42 (w:zA) (dT sT ty elem:zE) (g o dLen dCap s m:Nat) (a:Addr) (sLen sCap:Nat) (cur:Array zB) (t:zE) (cs:List zB)
 (hu:P.underlying dT=some (.slice elem)) (hs:(P.info? elem).map (·.size)=some s)
 (hg:Blk w g t cur) (hm:m=Nat.min sLen dLen) (hn:cs.length=m*s)
 (hsrc:∀ j v,cs[j]?=some v->w.cell? (a.add j)=some v) (hfit:o+cs.length<=cur.size) (h1:∀ v∈cs,v.oneCell'=true) :
 (Builtin.copy_ #[dT,sT] ty #[.slice (some ⟨g,o,none⟩) dLen dCap,.slice (some a) sLen sCap]).run P w=.ok (.int .i64 (m:Int)) (w.setRow g (spl cur o cs)):=by
 have hl:=run_loadCells_list (P:=P) w a cs hsrc;have hst:=run_storeCells_at P g o t cs 0 cur w hg (by simpa using hfit) h1;cases hq:P.info? elem with
 | none=>simp [hq] at hs
 | some i =>
  have hi:i.size=s:=by simpa [hq] using hs
  rw [hn] at hl;simp only [Nat.add_zero] at hst;simp only [zP] at hst;simp [Builtin.copy_,run_underlying hu,Builtin.lenOf,Builtin.firstCells,sizeOf,typeInfo,hq,hi,<- hm,hl,hst,spl,goInt]
theorem Q4t {ops:Array zI} {rest:List zI} {o:zI} {a:Act} {w:zA} {Q:Exit->Act->zA->Prop} (hgd:o.guard=none) (d s:Operand) (dT sT elem:zE)
 (ho:o.op=.call { callee:=.builtin .copy,args:=#[d,s],argTypes:=#[dT,sT] })
 (g off dLen dCap sLen sCap size m:Nat) (ad:Addr) (t:zE) (cs:Array zB) (vs:List zB)
 (hd:a.eval d=.slice (some ⟨g,off,none⟩) dLen dCap) (hs:a.eval s=.slice (some ad) sLen sCap)
 (hu:P.underlying dT=some (.slice elem)) (hsz:(P.info? elem).map (·.size)=some size)
 (hB:Blk w g t cs) (hm:m=Nat.min sLen dLen) (hn:vs.length=m*size) (hsrc:∀ j v,vs[j]?=some v->w.cell? (ad.add j)=some v) (hfit:off+vs.length<=cs.size) (h1:∀ v∈vs,v.oneCell'=true)
 (h:∀ W',Q06 g w W'->Blk W' g t (spl cs off vs)->wpList P ops Q rest (a.put o.dst (.int .i64 (m:Int))) W'):wpList P ops Q (o :: rest) a w :=
 wpList_plain hgd fun _ hK=>by unfold Oper.wp execOp;simp only [ho,resolve,invoke,builtin,Sem.run_bind,Sem.run_pure,Result.andThen_ok,List.map_toArray,List.map_cons,List.map_nil,hd,hs,Q42 (P:=P) w dT sT o.type elem g off dLen dCap size m ad sLen sCap cs t vs hu hsz hB hm hn hsrc hfit h1];exact hK _ _ (h _ (Q06.setRow w g _) (setRow_heap w g cs _ t _ hB))
theorem Q53 {t e:zE} {m:Nat} (ht:P.underlying t=some (.slice e)) (hs:(P.info? e).map (·.size)=some m) (A:Option Addr) (len cap l:Nat) (li:Int) (el:li=l) (hl:l<=len) (W:zA) :
 (Instr.slice t (.slice A len cap) (some (.int .i64 li)) none none).run P W=.ok (.slice (if cap=l then A else A.map (·.add (l*m))) (len - l) (cap - l)) W:=by
 subst el;obtain⟨i,hi,hsz⟩:∃ i,P.info? e=some i/\i.size=m:=by
  cases hh:P.info? e with
  | none=>rw [hh] at hs; cases hs
  | some i=>rw [hh] at hs; exact⟨i,rfl,by simpa using hs⟩
 have he:P.elem t=e:=by simp [Program.elem,ht]
 rw [run_slice_l W t A len cap (by rw [he]; exact ht) .i64 (l:Int) (by omega) (by omega)];simp [he,sizeOf,typeInfo,hi,hsz,sliced]
theorem Q7v {t e:zE} {m:Nat} (ht:P.underlying t=some (.slice e)) (hs:(P.info? e).map (·.size)=some m) (A:Addr) (len cap h:Nat) (hi:Int) (eh:hi=h) (h0:0<cap) (hh:h<=cap) (W:zA) :
 (Instr.slice t (.slice (some A) len cap) none (some (.int .i64 hi)) none).run P W=.ok (.slice (some (A.add 0)) h cap) W:=by
 subst eh;obtain⟨i,hi,hsz⟩:∃ i,P.info? e=some i/\i.size=m:=by
  cases hh:P.info? e with
  | none=>rw [hh] at hs; cases hs
  | some i=>rw [hh] at hs; exact⟨i,rfl,by simpa using hs⟩
 have he:P.elem t=e:=by simp [Program.elem,ht]
 rw [run_slice_h W t (some A) len cap (by rw [he]; exact ht) .i64 (h:Int) (by omega) (by omega)];simp [he,sizeOf,typeInfo,hi,hsz,sliced,show ¬ cap=0 by omega]
end
theorem mul64_13 (w:zA):Calls zL 126 #[.int .u64 1,.int .u64 13] w fun e w'=>e=.returned (.tuple #[.int .u64 0,.int .u64 13])/\w=w':=by
 go_enter Tryz.func126,Tryz.ntmps126
 go_wp2
 go_ret2
 exact⟨rfl,rfl⟩
theorem mul64_6 (w:zA):Calls zL 126 #[.int .u64 1,.int .u64 6] w fun e w'=>e=.returned (.tuple #[.int .u64 0,.int .u64 6])/\w=w':=by
 go_enter Tryz.func126,Tryz.ntmps126
 go_wp2
 go_ret2
 exact⟨rfl,rfl⟩
theorem mul_any (n:Nat) (hn:n=13\/n=6) (w:zA):Calls zL 112 #[.int .u64 1,.int .u64 (n:Int)] w fun e w'=>e=.returned (.tuple #[.int .u64 0,.int .u64 (n:Int)])/\w=w':=by
 rcases hn with rfl | rfl
 ·go_enter Tryz.func112,Tryz.ntmps112
  go_wp2_with fail
  refine(mul64_13 _).mono ?_;rintro _ _ ⟨rfl,rfl⟩;go_wp2_with fail
  go_ret2
  exact⟨rfl,rfl⟩
 go_enter Tryz.func112,Tryz.ntmps112
 go_wp2_with fail
 refine(mul64_6 _).mono ?_;rintro _ _ ⟨rfl,rfl⟩;go_wp2_with fail
 go_ret2
 exact⟨rfl,rfl⟩
theorem Q6B (d:List UInt8) (a b:Nat):Q0j (zS (a+b) d)=Q0j (zS a d)++Q0j (zS b d):=by rw [<- Q6A,List.replicate_append_replicate]
theorem rep_digs {d:List UInt8} (h:d.length=32) (n:Nat):Digs (zS n d):=fun x hx=>by obtain⟨_,rfl⟩:=List.mem_replicate.1 hx; exact h
theorem Q4o {d:List UInt8} (h:d.length=32) (n:Nat):(Q0j (zS n d)).length=n*32:=by rw [Q1t (rep_digs h n),List.length_replicate]
theorem Q6C (ds:LL):∀ v∈Q0j ds,v.oneCell'=true:=fun v hv=>by obtain⟨d,_,h⟩:=List.mem_flatMap.1 hv;obtain⟨b,_,rfl⟩:=List.mem_map.1 h;rfl
def RepAt (w:zA) (g n m:Nat) (d:List UInt8):Prop:=∃ cur:Array zB,Blk w g 51 cur/\cur.size=n*32/\cur.toList.take (m*32)=Q0j (zS m d)
theorem Q90 {cur:Array zB} {n m k:Nat} {d:List UInt8} (hd:d.length=32) (hs:cur.size=n*32) (hm:cur.toList.take (m*32)=Q0j (zS m d)) (hk:m+k<=n) :
 (spl cur (m*32) (Q0j (zS k d))).size=n*32/\(spl cur (m*32) (Q0j (zS k d))).toList.take ((m+k)*32)=Q0j (zS (m+k) d):=by
 have h1:(m+k)*32<=n*32:=Nat.mul_le_mul_right _ hk;have hl:=Q4o hd k;have hl2:=Q4o hd m;have hfit:m*32+(Q0j (zS k d)).length<=cur.size:=by rw [hl,hs]; omega
 refine⟨by rw [Q4c hfit,hs],?_⟩;unfold spl;rw [hm,Q6B,show (m+k)*32=(Q0j (zS m d)++Q0j (zS k d)).length by rw [zN,hl,hl2]; omega];simp only [zP];rw [<- zP,List.take_left]
theorem Q9Y (g n:Nat) (d:List UInt8) (w:zA) (hn:n=13\/n=6) (hd:d.length=32) (h:Blk w g 51 (bRow d)) :
 Calls zL 96 #[.slice (some ⟨g,0,none⟩) 1 1,.int .i64 (n:Int)] w fun e w'=>∃ g',e=.returned (.slice (some ⟨g',0,none⟩) n n)/\Q1X w' g' n (zS n d)/\w.heap.size<=g'/\zD w.heap.size w w':=by
 have HMUL:=sH (fun W=>mul_any n hn W);have hn2:6<=n/\n<=13:=by omega
 clear hn;have hn0:¬ (n:Int)<0:=by omega
 have H:=sH h;have hgl:=h.lt;have hwr:IntKind.u64.wrap (n:Int)=(n:Int):=by rw [IntKind.wrap_u64]; omega
 have hwr2:IntKind.i64.wrap (n:Int)=(n:Int):=by rw [IntKind.wrap_i64]; omega
 have hnb:¬ (9223372036854775807:Int)<(n:Int):=by omega
 obtain⟨i0,hi0,hz0,hz1,hz2⟩:=info_parts Q84;have HZS:=sH (show inkZ.size=32 by simp [inkZ,bRow]);clear h;go_enter Tryz.func96,Tryz.ntmps96
 go_wp2_with fail
 refine(HMUL.out _).mono ?_;rintro _ _ ⟨rfl,rfl⟩;have hmk:(Instr.makeSlice 139 (.int .i64 (n:Int)) (.int .i64 (n:Int))).run zL w=.ok (.slice (some ⟨w.heap.size,0,none⟩) n n) (w.alloc (.cells (madeCells inkZ (n*32)) 51)):=by have h:=Q7t (P:=zL) 139 51 i0 _ Tryz.underlying139 hi0 hz0 .i64 .i64 n n (by omega) (by rw [hz2]; omega) (by omega) w;rw [hz1] at h;exact h
 have HMK:=sH hmk;have hms:(madeCells inkZ (n*32)).size=n*32:=size_madeCells _ _;have hbn:zD w.heap.size w (w.alloc (.cells (madeCells inkZ (n*32)) 51)):=Q02 _ _;have hB0:Blk (w.alloc (.cells (madeCells inkZ (n*32)) 51)) w.heap.size 51 (madeCells inkZ (n*32)):=Blk.newAt rfl;have hr0:=Q8a (H.out.below hbn hgl) (Q0S hd);generalize madeCells inkZ (n*32)=cz at HMK hms hbn hB0 hr0;generalize hw1:w.alloc (.cells cz 51)=w1 at HMK hbn hB0 hr0;obtain⟨gn,hgn⟩:∃ gn,gn=w.heap.size:=⟨_,rfl⟩;rw [<- hgn] at HMK hB0 hbn;have HBN:=sH hbn;have HB0:=sH hB0;have HMS:=sH hms;have HGN:=sH hgn;have hsr:∀ (j:Nat) (v:zB),(Q0j (zS 1 d))[j]?=some v->w1.cell? ((⟨g,0,none⟩:Addr).add j)=some v:=fun j v hv=>by
  obtain⟨ad,he,_,hc⟩:=hr0.2 (by omega);injection he with he
  subst he;refine hc j v ?_;rw [<- hv];simp [Q0j,bRow]
 have HSR:=sH hsr;clear hmk hms hbn hB0 hgn hw1 hsr hr0;have hmk:=HMK.out;go_wp2_with (refine Q4t (o:=⟨some 33,_,_,_,_,_⟩) rfl (.tmp 31) (.tmp 32) 139 139 51 rfl gn 0 n n 1 1 32 1 ⟨g,0,none⟩ 51 cz (Q0j (zS 1 d)) rfl rfl Tryz.underlying139 Q3r HB0.out (show 1=min 1 n by omega) (by rw [Q4o hd]) HSR.out (by rw [Q4o hd,HMS.out]; omega) (Q6C _) ?_)
 intro w2 hT2 hB2;have hrep:RepAt w2 gn n 1 d:=by have:=Q90 (m:=0) (k:=1) hd HMS.out (by simp [Q0j]) (by omega);exact⟨_,by simpa using hB2,by simpa using this.1,by simpa using this.2⟩
 have HREP:=sH hrep;have HB2:=sH (hT2.below HBN.out (by omega));clear hT2 hB2 hrep;go_wp2_with fail
 go_loopw [8] (fun mv wr=>∃ m:Nat,1<=m/\m<=n/\mv=.int .i64 (m:Int)/\RepAt wr gn n m d/\zD gn w wr) (fun mv _=>n - (intOf mv).toNat)
 case atStart=>exact⟨1,by omega,by omega,rfl,HREP.out,HB2.out⟩
 obtain⟨m,hm1,hmn,rfl,hrep,hbel⟩:=hrel;have HR:=sH hrep;have HB:=sH hbel;clear hrep hbel;by_cases hlt:m<n
 ·obtain⟨cur,hbk,hcs,hct⟩:=HR.out;have HBK:=sH hbk;have HCS:=sH hcs;have HCT:=sH hct;have hlti:(m:Int)<(n:Int):=by omega
  have hf:=fun W=>Q53 (P:=zL) (t:=139) Tryz.underlying139 Q3r (some ⟨gn,0,none⟩) n n m (m:Int) rfl (by omega) W
  rw [if_neg (by omega)] at hf;have ht:=fun W=>Q7v (P:=zL) (t:=139) Tryz.underlying139 Q3r ⟨gn,0,none⟩ n n m (m:Int) rfl (by omega) (by omega) W
  have HF:=sH hf;have HT:=sH ht;clear hbk hcs hct hf ht;go_upto_region 9 with fail
  have hsr3:∀ (W:zA),Blk W gn 51 cur->∀ (j:Nat) (v:zB),(Q0j (zS (min m (n - m)) d))[j]?=some v->W.cell? ((⟨gn,0,none⟩:Addr).add j)=some v:=fun W hbk3 j v hv=>by
   have e:=Q6B d (min m (n - m)) (m - min m (n - m));rw [show min m (n - m)+(m - min m (n - m))=m by omega] at e;have hj:j<(Q0j (zS (min m (n - m)) d)).length:=(List.getElem?_eq_some_iff.1 hv).1;have h1:(Q0j (zS m d))[j]?=some v:=by rw [e,List.getElem?_append_left hj]; exact hv
   rw [<- HCT.out,zQ] at h1;split at h1
   ·rw [Q0R,zR,hbk3.cell,<- zW]; exact h1
   cases h1
  have HSR3:=sH hsr3;have hle:m+min m (n - m)<=n:=by omega
  have hle32:(m+min m (n - m))*32<=n*32:=Nat.mul_le_mul_right _ hle;have hf:=HF.out;have ht:=HT.out;have hbw:=HBK.out;have hbd:Blk wr.drew gn 51 cur:=HBK.out;have hcp:=Q42 (P:=zL) wr.drew 139 139 3 51 gn (m*32) (n - m) (n - m) 32 (min m (n - m)) ⟨gn,0,none⟩ m n cur 51 (Q0j (zS (min m (n - m)) d)) Tryz.underlying139 Q3r hbd rfl (by rw [Q4o hd]) (HSR3.out _ hbd) (by rw [Q4o hd,HCS.out]; omega) (Q6C _);have hT4:Q06 gn wr.drew (wr.drew.setRow gn (spl cur (m*32) (Q0j (zS (min m (n - m)) d)))):=Q06.setRow _ gn _;have hB4:Blk (wr.drew.setRow gn (spl cur (m*32) (Q0j (zS (min m (n - m)) d)))) gn 51 (spl cur (m*32) (Q0j (zS (min m (n - m)) d))):=setRow_heap _ gn cur _ 51 _ hbd;generalize wr.drew.setRow gn (spl cur (m*32) (Q0j (zS (min m (n - m)) d)))=w4 at hcp hT4 hB4;have hg:=Q90 (k:=min m (n - m)) hd HCS.out HCT.out hle;have HREP4:=sH (show RepAt w4 gn n (m+min m (n - m)) d from⟨_,hB4,hg.1,hg.2⟩);have HB4:=sH (hT4.below HB.out.drew (by have:=HGN.out; omega));obtain⟨q,hq⟩:∃ q,q=min m (n - m):=⟨_,rfl⟩;rw [<- hq] at HREP4 hle hcp;have hq1:1<=q:=by omega
  clear hT4 hB4 hg hq hle32 HSR3 hbd hbw;go_region
  go_wp2_with fail
  go_roundw
  case rel=>exact⟨m+q,by omega,hle,by go_num,HREP4.out,HB4.out⟩
  case measure=>simp [intOf]; omega
 obtain rfl:m=n:=by omega
 have hlti:¬ (m:Int)<(m:Int):=by omega
 obtain⟨cur,hbk,hcs,hct⟩:=HR.out;have HBK:=sH hbk;have HCS:=sH hcs;have HCT:=sH hct;clear hbk hcs hct;go_wp2_with fail
 go_ret
 refine⟨gn,rfl,⟨⟨cur,HBK.out,HCS.out,by rw [List.length_replicate]; exact HCT.out⟩,by rw [List.length_replicate]; unfold maxLen; omega⟩,by have:=HGN.out; omega,by have h:=HB.out; rw [HGN.out] at h; exact h⟩
end
section
open Go.RowKit
def Q6J (md:zZ) (ops:Array zI):Nat->Nat->Nat->Bool
 | 0,_,_=>false
 | f+1,i,j=>match ops[i]? with
  | none=>false
  | some o=>o.after.any fun e=>Region.binds md e && (e.on == j || Q6J md ops f e.on j)
theorem Q4G {md:zZ} {ops:Array zI} {n:Nat} {listed:Array Bool} (inv:HeadInv md ops n listed) (j:Nat):∀ (f i:Nat) (o:zI),Q6J md ops f i j=true->ops[i]?=some o->(∀ e∈o.after,Region.binds md e=true->listed.getD e.on false=true)->listed.getD j false=true
 | 0,_,_,h,_,_=>by cases h
 | f+1,i,o,h,ho,hall=>by
  unfold Q6J at h;rw [ho] at h;obtain⟨e,he,hb⟩:=Array.any_eq_true'.1 h;simp only [za,Bool.or_eq_true,beq_iff_eq] at hb;have hl:=hall e he hb.1;rcases hb.2 with h1 | h1
  ·rw [<- h1]; exact hl
  cases hq:ops[e.on]? with
  | none =>
   cases f with
   | zero=>cases h1
   | succ f=>unfold Q6J at h1; rw [hq] at h1; cases h1
  | some o'=>exact Q4G inv j f e.on o' h1 hq (inv.closed e.on o' hq hl)
def Q5Q (md:zZ) (ops:Array zI) (n:Nat):List Nat->Bool
 | []=>true
 | [x]=>decide (x<n)
 | x :: y :: t=>decide (x<n) && decide (x<y) && Q6J md ops ops.size y x && Q5Q md ops n (y :: t)
theorem Q9p {md:zZ} {ops:Array zI} {n:Nat}:∀ {l:List Nat},Q5Q md ops n l=true->∀ x,x∈l->x<n
 | [],_,x,hx=>by cases hx
 | [y],h,x,hx=>by rw [List.mem_singleton] at hx; subst hx; simpa [Q5Q] using h
 | y :: z :: t,h,x,hx=>by
  simp only [Q5Q,za,decide_eq_true_eq] at h;rcases List.mem_cons.1 hx with rfl | hx
  ·exact h.1.1.1
  exact Q9p h.2 x hx
theorem Q3p {md:zZ} {ops:Array zI} {n:Nat}:∀ {l:List Nat},Q5Q md ops n l=true->∀ k x y,l[k]?=some x->l[k+1]?=some y->x<y/\Q6J md ops ops.size y x=true
 | [],_,k,x,y,hx,_=>by simp at hx
 | [z],_,k,x,y,_,hy=>by simp at hy
 | z :: z' :: t,h,0,x,y,hx,hy=>by simp only [Q5Q,za,decide_eq_true_eq] at h;simp at hx hy;subst hx hy;exact⟨h.1.1.2,h.1.2⟩
 | z :: z' :: t,h,k+1,x,y,hx,hy=>by simp only [Q5Q,za,decide_eq_true_eq] at h;exact Q3p h.2 k x y (by simpa using hx) (by simpa using hy)
theorem Q4m {md:zZ} {ops:Array zI} {n:Nat} {l:List Nat} (h:Q5Q md ops n l=true):∀ (d k:Nat) (x y:Nat),l[k]?=some x->l[k+(d+1)]?=some y->x<y
 | 0,k,x,y,hx,hy=>(Q3p h k x y hx hy).1
 | d+1,k,x,y,hx,hy=>by
  have hl:k+(d+1)<l.length:=by have:=(List.getElem?_eq_some_iff.1 hy).1;omega
  have h1:=Q4m h d k x _ hx (zC hl);have h2:=Q3p h (k+(d+1)) _ y (zC hl) hy;omega
theorem Qba {md:zZ} {ops:Array zI} {n:Nat} {l:List Nat} (h:Q5Q md ops n l=true) {i j x:Nat} (hi:l[i]?=some x) (hj:l[j]?=some x):i=j:=by
 rcases Nat.lt_trichotomy i j with h1 | h1 | h1
 ·have:=Q4m h (j - i - 1) i x x hi (by rw [show i+(j - i - 1+1)=j by omega]; exact hj);omega
 ·exact h1
 have:=Q4m h (i - j - 1) j x x hj (by rw [show j+(i - j - 1+1)=i by omega]; exact hi);omega
def Q6q (P:zG) (ops:Array zI) (o:zI) (a:Act) (w:zA) (R:zA->zA->Prop) (J:zA->Prop) (p:zA->zB->Prop):Prop :=∀ (K:Act->zA->Prop) (Q':Exit->Act->zA->Prop),(∀ v w',R w w'->J w'->p w' v->K (a.put o.dst v) w')->if zJ o (yielded ops a.tmps)=true then o.wp P a w K Q' else K (a.put o.dst undef) w
theorem Q3a {P:zG} {ops:Array zI} {o:zI} {a:Act} {w:zA} {R:zA->zA->Prop} {J:zA->Prop} {p:zA->zB->Prop} (hw:zJ o (yielded ops a.tmps)=true) (f:FuncId) (args:Array zB) (he:(execOp a.eval o).run P w=.ok (.enter f args) w)
 (hc:Calls P f args w fun e w'=>∃ v,e=.returned v/\R w w'/\J w'/\p w' v):Q6q P ops o a w R J p:=fun K Q' hK=>by
 rw [if_pos hw];unfold Oper.wp;rw [he];refine hc.mono ?_;rintro e w' ⟨v,rfl,hb,hj,hp⟩;exact hK v w' hb hj hp
theorem Q6K {P:zG} {ops:Array zI} {o:zI} {a:Act} {w:zA} {R:zA->zA->Prop} {J:zA->Prop} {p:zA->zB->Prop} (hgd:o.guard=none) (ty:zE) (x y:Operand) (ho:o.op=.store ty x y)
 (g off:Nat) (vs:Array zB) (hx:a.eval x=.pointer (some ⟨g,off,none⟩)) (hy:a.eval y=.agg vs)
 (t:zE) (cs:Array zB) (hB:Blk w g t cs) (hi:(P.info? ty).map (·.size)=some vs.size)
 (hold:off+vs.size<=cs.size) (h1:vs.all (·.oneCell')=true)
 (h:∀ W',Q06 g w W'->Blk W' g t (spl cs off vs.toList)->R w W'/\J W'/\p W' undef):Q6q P ops o a w R J p:=fun K Q' hK=>by
 have hw:zJ o (yielded ops a.tmps)=true:=by simp [zJ,hgd]
 rw [if_pos hw];exact Q36 ty x y ho g off vs hx hy t cs hB hi hold h1 fun W' h2 h3=>by obtain⟨q1,q2,q3⟩:=h W' h2 h3;exact hK undef W' q1 q2 q3
def relLB (md:zZ) (ops:Array zI) (n:Nat):Bool :=decide (n<=ops.size) && (decide (n=ops.size) || Region.sinkB md ops n && Region.chainB md ops n) && Q8s ops n && backB md ops n && Region.seqB md ops (ops.size - n) n (Q1h ops.size n)
section
variable {P:zG} {md:zZ} {ops:Array zI}
theorem Q6H {n:Nat} {ps:Nat->zA->zB->Prop} {J:Nat->zA->Prop} {R:zA->zA->Prop} {lo:List Nat} {a0:Act} {Q':Exit->Act->zA->Prop} (hn:n<=ops.size) (hsc:n=ops.size\/(Region.sinkB md ops n=true/\Region.chainB md ops n=true)) (hd:Q8s ops n=true) (hbk:backB md ops n=true)
 (hlo:Q5Q md ops n lo=true)
 (hl:∀ j,Q2w (ps j)) (hR:∀ s j w w' v,s<lo.length->(∀ s',s<=s'->lo[s']?≠some j)->J s w->ps j w v->R w w'->ps j w' v) (hJ:∀ s w w',J s w->zD w.heap.size w w'->J s w')
 (hop:∀ i o,i<n->ops[i]?=some o->i∉lo->∀ s a w,J s w->Kept ops n a0 a->(∀ j,zb md ops i j=true->Q2R ops ps j w a)->Q5X P ops o a w (ps i))
 (hop2:∀ i o,i<n->ops[i]?=some o->∀ s a w,lo[s]?=some i->J s w->Kept ops n a0 a->(∀ j,zb md ops i j=true->Q2R ops ps j w a)->Q6q P ops o a w R (J (s+1)) (ps i))
 (hL:∀ a w,J lo.length w->Kept ops n a0 a->(∀ j,j<n->Q2R ops ps j w a)->wpAny P md ops Q' (ops.size - n) (Q1h ops.size n) a w)
 (hsz:∀ (i:Nat) (o:zI) (d:Tmp),i<n->ops[i]?=some o->o.dst=some d->d<a0.tmps.size) :
 ∀ (f:Nat) (listed:Array Bool) (s:Nat) (a:Act) (w:zA),((zK n).filter fun i=>!listed.getD i false).length=f->HeadInv md ops n listed->s<=lo.length->(∀ k x,lo[k]?=some x->(listed.getD x false=true <-> k<s))->J s w->Kept ops n a0 a->(∀ j,j<n->listed.getD j false=true->Q2R ops ps j w a)->wpAny P md ops Q' (f+(ops.size - n)) listed a w
 | 0,listed,s,a,w,hf,inv,hsl,hph,hb,hk,hp=>by
  have hall:∀ j,j<n->listed.getD j false=true:=fun j hj=>by
   cases hx:listed.getD j false with
   | true=>rfl
   | false =>
    have:j∈(zK n).filter fun i=>!listed.getD i false:=List.mem_filter.2 ⟨List.mem_range.2 hj,by rw [hx]; rfl⟩
    rw [List.eq_nil_of_length_eq_zero hf] at this;cases this
  have hls:listed=Q1h ops.size n:=by
   apply Array.ext
   ·rw [inv.size]; simp [Q1h]
   intro i h1 h2;have hi:i<ops.size:=by rw [<- inv.size]; exact h1
   have e1:listed[i]=listed.getD i false:=by simp [h1]
   have e2:(Q1h ops.size n)[i]=(Q1h ops.size n).getD i false:=by simp [h2]
   rw [e1,e2,Q5h _ _ _ _ hi];by_cases hin:i<n
   ·rw [hall i hin,decide_eq_true hin]
   rw [decide_eq_false hin];exact getD_both (inv.tail i (by omega) hi)
  have hsE:s=lo.length:=by
   rcases zF s lo.length with h1 | h1
   ·have h2:=hph s lo[s] (zC h1);have h3:=h2.1 (hall _ (Q9p hlo _ (List.getElem_mem h1)));omega
   omega
  subst hsE;rw [zR,hls];exact hL a w hb hk fun j hj=>hp j hj (hall j hj)
 | f+1,listed,s,a,w,hf,inv,hsl,hph,hb,hk,hp=>by
  have hex:∃ i,i<n/\listed.getD i false=false:=by
   cases hx:(zK n).filter fun i=>!listed.getD i false with
   | nil=>rw [hx] at hf; cases hf
   | cons i t =>
    have:i∈(zK n).filter fun i=>!listed.getD i false:=by rw [hx]; exact zX
    obtain⟨h1,h2⟩:=List.mem_filter.1 this;exact⟨i,List.mem_range.1 h1,by simpa using h2⟩
  obtain⟨m,hm,hmf,hmb⟩:=Q52 (fun i=>listed.getD i false) n hex;have hin:∀ k,k<n->listed.getD k false=false->listed.getD k true=false:=fun k hk h=>getD_in (by rw [inv.size]; omega) h
  rw [show f+1+(ops.size - n)=(f+(ops.size - n))+1 by omega];refine⟨fun h0=>?_,fun i hi=>?_⟩
  ·exfalso
   have:m∈Region.ready md ops listed:=by refine mem_ready.2 ⟨hin m hm hmf,ops[m],Array.getElem?_eq_getElem (by omega),fun e he hbd=>?_⟩;have h1:=List.all_eq_true.1 hbk m (List.mem_range.2 hm);rw [Array.getElem?_eq_getElem (show m<ops.size by omega)] at h1;have h2:=Array.all_eq_true_iff_forall_mem.1 h1 e he;rw [hbd] at h2;simp at h2;exact hmb e.on h2
   rw [h0] at this;cases this
  have hin':i<n:=by
   rcases zF i n with h | h
   ·exact h
   rcases zF n ops.size with hn' | hn'
   ·have hsc':=hsc.resolve_left (by omega);exact absurd hi (tail_waits hsc'.1 hsc'.2 hn' inv _ m rfl hm (hin m hm hmf) i h)
   obtain⟨_,o,ho,_⟩:=mem_ready.1 hi;have:=(Array.getElem?_eq_some_iff.1 ho).1;omega
  obtain⟨hun,o,ho,hall⟩:=mem_ready.1 hi;have hdep:∀ j,zb md ops i j=true->Q2R ops ps j w a:=fun j hj=>by obtain⟨oj,hoj,e,he,hbd,hon⟩:=Region.waitsFor_spec hj;have:oj=o:=zc (hoj.symm.trans ho);subst this;have h1:=hall e he hbd;rw [hon] at h1;have h2:=List.all_eq_true.1 hbk i (List.mem_range.2 hin');rw [ho] at h2;have h3:=Array.all_eq_true_iff_forall_mem.1 h2 e he;rw [hbd] at h3;simp at h3;exact hp j (by omega) h1
  have hcnt:((zK n).filter fun k=>!(listed.setIfInBounds i true).getD k false).length=f:=by
   have hmem:i∈(zK n).filter fun i=>!listed.getD i false:=List.mem_filter.2 ⟨List.mem_range.2 hin',by rw [getD_both hun]; rfl⟩
   have hnd:((zK n).filter fun i=>!listed.getD i false).Nodup:=List.Pairwise.filter _ List.nodup_range;have he:((zK n).filter fun k=>!(listed.setIfInBounds i true).getD k false)=((zK n).filter fun i=>!listed.getD i false).erase i:=by
    rw [hnd.erase_eq_filter,List.filter_filter];apply List.filter_congr
    intro k hk;by_cases hki:i=k
    ·subst hki;have hlt:i<listed.size:=by rw [inv.size]; omega
     simp [hlt]
    rw [getD_set_ne false hki];simp [Ne.symm hki]
   rw [he,List.length_erase_of_mem hmem,hf];rfl
  have hon:(listed.setIfInBounds i true).getD i false=true:=by
   have hlt:i<listed.size:=by rw [inv.size]; omega
   simp [hlt]
  have hfin:∀ s' v w',s'<=lo.length->(∀ k x,lo[k]?=some x->((listed.setIfInBounds i true).getD x false=true <-> k<s'))->J s' w'->(∀ j,listed.getD j false=true->∀ u,ps j w u->ps j w' u)->ps i w' v->wpAny P md ops Q' (f+(ops.size - n)) (listed.setIfInBounds i true) (a.put o.dst v) w':=fun s' v w' hs' hph' hj' hlast hpv=>by
   refine Q6H hn hsc hd hbk hlo hl hR hJ hop hop2 hL hsz f _ s' _ w' hcnt (inv.set hi hin') hs' hph' hj' ⟨?_,by rw [Q32]; exact hk.size,fun d hfree=>?_⟩ fun j hj hlj oj d hoj hdj=>?_
   ·rw [<- hk.defers]; unfold Act.put; split <;> rfl
   ·rw [Q1u (hfree i o hin' ho)]; exact hk.tmps d hfree
   by_cases hji:j=i
   ·subst hji;have:oj=o:=zc (hoj.symm.trans ho);subst this;have hds:d<a.tmps.size:=by rw [hk.size]; exact hsz j oj d hin' hoj hdj
    have he:(a.put oj.dst v).eval (.tmp d)=v:=by rw [hdj];simp [Act.put,Act.eval,hds]
    rw [he];exact hpv
   have hl2:listed.getD j false=true:=by rw [getD_set_ne false (Ne.symm hji)] at hlj; exact hlj
   have he:(a.put o.dst v).eval (.tmp d)=a.eval (.tmp d):=by have:=Q1u (a:=a) (v:=v) (Q2a hd hj hin' hji hoj ho hdj);simp [Act.eval,this]
   rw [he];exact hlast j hl2 _ (hp j hj hl2 oj d hoj hdj)
  unfold wpOp;simp only [ho];by_cases hil:i∈lo
  ·obtain⟨k,hki⟩:=List.mem_iff_getElem?.1 hil;have hnl:listed.getD i false=false:=getD_both hun;have h1:=hph k i hki;have hks:¬ k<s:=fun h2=>by rw [h1.2 h2] at hnl; cases hnl
   have hsk:s=k:=by
    rcases zH k with e | e
    ·omega
    have hpl:k - 1<lo.length:=by have:=(List.getElem?_eq_some_iff.1 hki).1; omega
    have h2:=Q3p hlo (k - 1) lo[k - 1] i (zC hpl) (by rw [show k - 1+1=k by omega]; exact hki);have h3:=Q4G inv _ _ i o h2.2 ho hall;have h4:=(hph (k - 1) _ (zC hpl)).1 h3;omega
   subst hsk;have hrel:=hop2 i o hin' ho s a w hki hb hk hdep (wpAny P md ops Q' (f+(ops.size - n)) (listed.setIfInBounds i true)) Q' (fun v w' hr hj hpv=>hfin (s+1) v w' (by have:=(List.getElem?_eq_some_iff.1 hki).1; omega) (fun k' x hx=>by
    by_cases hxi:x=i
    ·subst hxi;have:=Qba hlo hx hki;rw [hon]
     simp; omega
    rw [getD_set_ne false (Ne.symm hxi),hph k' x hx];have:k'≠s:=fun e=>hxi (by subst e; rw [hx] at hki; exact zc hki)
    omega) hj (fun j hlj u hu=>hR s j _ _ _ (by have:=(List.getElem?_eq_some_iff.1 hki).1; omega) (fun s' hs' e=>by have:=(hph s' j e).1 hlj; omega) hb hu hr) hpv)
   split
   ·rename_i hwt;rw [if_pos hwt] at hrel;exact .inl hrel
   rename_i hwt;rw [if_neg hwt] at hrel;exact hrel
  have hrel:=hop i o hin' ho hil s a w hb hk hdep (wpAny P md ops Q' (f+(ops.size - n)) (listed.setIfInBounds i true)) Q' (fun v w' hbw hpv=>hfin s v w' hsl (fun k' x hx=>by
   have hxi:x≠i:=fun e=>hil (e▸List.mem_of_getElem? hx)
   rw [getD_set_ne false (Ne.symm hxi)];exact hph k' x hx) (hJ s w w' hb hbw) (fun j _ u hu=>hl j _ _ _ hu hbw) hpv)
  split
  ·rename_i hwt;rw [if_pos hwt] at hrel;exact .inl hrel
  rename_i hwt;rw [if_neg hwt] at hrel;exact hrel
end
def Q3H (P:zG) (ops:Array zI) (n:Nat) (ps:Nat->zA->zB->Prop) (J:Nat->zA->Prop) (R:zA->zA->Prop) (lo:List Nat) (a0:Act):Nat->List zI->Prop
 | _,[]=>True
 | k,o :: l=>(if k∈lo then ∀ s a w,lo[s]?=some k->J s w->Kept ops n a0 a->(∀ j,zb .any ops k j=true->Q2R ops ps j w a)->Q6q P ops o a w R (J (s+1)) (ps k)
  else ∀ s a w,J s w->Kept ops n a0 a->(∀ j,zb .any ops k j=true->Q2R ops ps j w a)->Q5X P ops o a w (ps k))/\Q3H P ops n ps J R lo a0 (k+1) l
theorem Q3H.spec {P:zG} {ops:Array zI} {n:Nat} {ps:Nat->zA->zB->Prop} {J:Nat->zA->Prop} {R:zA->zA->Prop} {lo:List Nat} {a0:Act}:∀ (l:List zI) (k:Nat),Q3H P ops n ps J R lo a0 k l->∀ i o,l[i]?=some o ->
 (if k+i∈lo then ∀ s a w,lo[s]?=some (k+i)->J s w->Kept ops n a0 a->(∀ j,zb .any ops (k+i) j=true->Q2R ops ps j w a)->Q6q P ops o a w R (J (s+1)) (ps (k+i))
  else ∀ s a w,J s w->Kept ops n a0 a->(∀ j,zb .any ops (k+i) j=true->Q2R ops ps j w a)->Q5X P ops o a w (ps (k+i)))
 | [],k,_,i,o,ho=>by simp at ho
 | o' :: l,k,h,0,o,ho=>by simp at ho; subst ho; exact h.1
 | o' :: l,k,h,i+1,o,ho=>by have:=Q3H.spec l (k+1) h.2 i o (by simpa using ho);rw [show k+1+i=k+(i+1) by omega] at this;exact this
theorem Q0T {P:zG} {id:Nat} {Q:Exit->Act->zA->Prop} {a:Act} {w:zA} {l:List zI} (n m:Nat) (ps:Nat->zA->zB->Prop) (J:Nat->zA->Prop) (R:zA->zA->Prop) (lo:List Nat) (ds:List Nat) (hm:P.follows .mixedOrders=true) (hB:relLB .any l.toArray n=true) (hlo:Q5Q .any l.toArray n lo=true) (hsz:sizeB l.toArray n m=true) (ha:a.tmps.size=m) (hds:Q66 l.toArray n=ds)
 (hl:∀ j,Q2w (ps j)) (hR:∀ s j w w' v,s<lo.length->(∀ s',s<=s'->lo[s']?≠some j)->J s w->ps j w v->R w w'->ps j w' v) (hJ:∀ s w w',J s w->zD w.heap.size w w'->J s w') (hJ0:J 0 w) (hop:Q3H P l.toArray n ps J R lo a 0 (l.take n))
 (h:∀ (f:Nat->zB) w',J lo.length w'->(∀ j,j<n->∀ o d,l.toArray[j]?=some o->o.dst=some d->ps j w' (f d))->wpList P l.toArray Q (l.drop n) (Q19 a ds f) w'):(Code.region id l.toArray true).wp P Q a w:=by
 simp only [relLB,za,Bool.or_eq_true,decide_eq_true_eq] at hB;obtain⟨⟨⟨⟨hn,hsc⟩,hd⟩,hbk⟩,hsq⟩:=hB;have inv0:HeadInv .any l.toArray n (Array.replicate l.toArray.size false) :=⟨by simp,fun j oj _ hl=>(by rw [getD_replicate_false] at hl; cases hl),fun t _ ht=>getD_in (by simpa using ht) (getD_replicate_false _ _)⟩
 have hdl:(l.drop n).length=l.toArray.size - n:=by simp
 refine wp_region_any hm ?_;have:=Q6H (Q':=Q) (md:=.any) (P:=P) (ops:=l.toArray) (n:=n) (ps:=ps) (J:=J) (R:=R) (lo:=lo) (a0:=a) hn hsc hd hbk hlo hl hR hJ (fun i o hi ho hni s a' w' h1 h2 h3=>by
  have:=Q3H.spec (l.take n) 0 hop i o (by rw [zQ,if_pos hi]; simpa using ho);simp only [zR] at this;rw [if_neg hni] at this;exact this s a' w' h1 h2 h3)
  (fun i o hi ho s a' w' hlos h1 h2 h3=>by have:=Q3H.spec (l.take n) 0 hop i o (by rw [zQ,if_pos hi]; simpa using ho);simp only [zR] at this;rw [if_pos (List.mem_of_getElem? hlos)] at this;exact this s a' w' hlos h1 h2 h3)
  (fun a' w' h1 h2 h3=>by
   have:=wpAny_of_seq (md:=.any) (ops:=l.toArray) (Q':=Q) (l.drop n) n (Q1h l.toArray.size n) a' w' (fun j=>by simp [List.getElem?_drop]) (by rw [hdl]; exact hsq) (by rw [h2.puts (by rw [ha]; exact hsz),hds];exact h _ w' h1 fun j hj o d ho hd=>(h3 j hj).get d ho hd)
   rw [hdl] at this;exact this)
  (fun i o d hi ho hdst=>by have:=List.all_eq_true.1 hsz i (List.mem_range.2 hi);simp only [ho,hdst,decide_eq_true_eq] at this;rw [ha]; exact this)
  n (Array.replicate l.toArray.size false) 0 a w.drew (by
   rw [List.filter_eq_self.2 (fun i _=>by rw [getD_replicate_false]; rfl)]
   simp) inv0 (Nat.zero_le _) (fun k x _=>by rw [getD_replicate_false]; simp) (hJ 0 _ _ hJ0 (zO _ w).drew) ⟨rfl,rfl,fun _ _=>rfl⟩ (fun j _ hj=>by rw [getD_replicate_false] at hj; cases hj)
 rw [show n+(l.toArray.size - n)=l.toArray.size by omega] at this;exact this
end
end Go.Proofs.YtckjnbjiafgibaaGreat
