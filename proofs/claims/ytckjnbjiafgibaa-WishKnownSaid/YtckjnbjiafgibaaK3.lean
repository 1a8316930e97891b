/- Parts of the proof, in one text. -/
import Derived.Test.YtckjnbjiafgibaaK2
import Derived.Laws.OwnMore
import Derived.Deep.RegionLaw
import Derived.Deep.DeepCutAuto
import Derived.Test.YtckjnbjiafgibaaRows
import Derived.Test.YtckjnbjiafgibaaK1
namespace Go.Proofs.Ytckjnbjiafgibaa
set_option linter.unusedVariables false
set_option linter.unusedSimpArgs false
set_option maxRecDepth 100000
set_option maxHeartbeats 16000000
open _root_.Go renaming Addr->zA,World->zB,Value->zC
open _root_.Go.RowKit renaming Below->zD
open _root_.Go.RowKit.Below renaming heap_alloc->zE,heap_setCell->zF,refl->zK
open _root_.Go.Value renaming ownBlock->zG
open _root_.List renaming range->zH,length_append->zJ,map_append->zL,append_assoc->zM,take_of_length_le->zO,take_succ_eq_append_getElem->zP
open _root_.Nat renaming le_refl->zI,zero_add->zN
section
open Go.RowKit
def stN (s:RdS):Nat->RdS
 | 0=>s
 | i+1=>(rdN (stN s i)).2
def vlN (s:RdS) (i:Nat):Nat:=(rdN (stN s i)).1
def Q0k:Wish:=⟨0,0,0,0,0,0,[],0,0,[]⟩
def pD (b:List UInt8):List UInt8×RdS:=rdT (stN (b,0) 6) 16
def pM (b:List UInt8):Nat×RdS:=rdM (stN (pD b).2 2) 7
def Q0i (b:List UInt8):Wish where
 kind:=(vlN (b,0) 0:Int)
 client:=(vlN (b,0) 1:Int)
 stamp:=(vlN (b,0) 2:Int)
 group:=(vlN (b,0) 3:Int)
 epoch:=(vlN (b,0) 4:Int)
 block:=(vlN (b,0) 5:Int)
 data:=(pD b).1
 old:=(vlN (pD b).2 0:Int)
 new:=(vlN (pD b).2 1:Int)
 next:=(zH (pM b).1).map fun i=>(vlN (pM b).2 i:Int)
def Q0K (b:List UInt8):Nat:=rdE (stN (pM b).2 (pM b).1)
def Q0C (b:List UInt8):Wish×Nat:=if Q0K b=0 then(if mayB (Q0i b)=true then(Q0i b,0) else(Q0k,2)) else(Q0k,Q0K b)
def Q0f (f:Nat->Nat) (i:Nat):Array zC :=#[.int .i64 (if 1<i then(f 1:Int) else 0),.int .i64 (if 2<i then(f 2:Int) else 0),.int .i64 (if 3<i then(f 3:Int) else 0),.int .i64 (if 4<i then(f 4:Int) else 0),.int .i64 (if 0<i then(f 0:Int) else 0),.int .i64 (if 5<i then(f 5:Int) else 0),.slice none 0 0,.int .i64 0,.int .i64 0,.slice none 0 0]
def Q0W (i:Nat):Nat:=[4,0,1,2,3,5].getD i 0
theorem Q1N (f:Nat->Nat) (i:Nat) (h:i<6):(Q0f f i).setIfInBounds (Q0W i) (.int .i64 (f i:Int))=Q0f f (i+1):=by
 match i,h with
 | 0,_=>rfl
 | 1,_=>rfl
 | 2,_=>rfl
 | 3,_=>rfl
 | 4,_=>rfl
 | 5,_=>rfl
theorem Q2s (f:Nat->Nat) (i:Nat) (h:i<6):(Q0f f i)[Q0W i]?=some (.int .i64 0):=by
 match i,h with
 | 0,_=>rfl
 | 1,_=>rfl
 | 2,_=>rfl
 | 3,_=>rfl
 | 4,_=>rfl
 | 5,_=>rfl
def Q25 (g:Nat):Array zC:=#[.pointer (some ⟨g,4,none⟩),.pointer (some ⟨g,0,none⟩),.pointer (some ⟨g,1,none⟩),.pointer (some ⟨g,2,none⟩),.pointer (some ⟨g,3,none⟩),.pointer (some ⟨g,5,none⟩)]
def Q1n (f:Nat->Nat) (dv:zC) (o nw:Nat) (nv:zC):Array zC :=#[.int .i64 (f 1:Int),.int .i64 (f 2:Int),.int .i64 (f 3:Int),.int .i64 (f 4:Int),.int .i64 (f 0:Int),.int .i64 (f 5:Int),dv,.int .i64 (o:Int),.int .i64 (nw:Int),nv]
theorem Q32 (g i:Nat) (h:i<6):(Q25 g)[i]?=some (.pointer (some ⟨g,Q0W i,none⟩)):=by
 match i,h with
 | 0,_=>rfl
 | 1,_=>rfl
 | 2,_=>rfl
 | 3,_=>rfl
 | 4,_=>rfl
 | 5,_=>rfl
theorem Q3o (w:zB) (a b c d:Obj):((((w.alloc a).alloc b).alloc c).alloc d).heap[w.heap.size]?=some a/\((((w.alloc a).alloc b).alloc c).alloc d).heap[w.heap.size+1]?=some b/\((((w.alloc a).alloc b).alloc c).alloc d).heap[w.heap.size+1+1]?=some c /\
 ((((w.alloc a).alloc b).alloc c).alloc d).heap[w.heap.size+1+1+1]?=some d/\((((w.alloc a).alloc b).alloc c).alloc d).heap.size=w.heap.size+4/\zD w.heap.size w ((((w.alloc a).alloc b).alloc c).alloc d):=by
 have h1:(w.alloc a).heap.size=w.heap.size+1:=by simp
 have h2:((w.alloc a).alloc b).heap.size=w.heap.size+1+1:=by simp
 have h3:(((w.alloc a).alloc b).alloc c).heap.size=w.heap.size+1+1+1:=by simp
 refine⟨?_,?_,?_,?_,by simp,((((zK _ w).alloc (zI _) a).alloc (by omega) b).alloc (by omega) c).alloc (by omega) d⟩
 ·rw [zE _ d _ (by omega),zE _ c _ (by omega),zE _ b _ (by omega)]; exact heap_alloc_new w a
 ·rw [zE _ d _ (by omega),zE _ c _ (by omega),<- h1]; exact heap_alloc_new _ b
 ·rw [zE _ d _ (by omega),<- h2]; exact heap_alloc_new _ c
 rw [<- h3]; exact heap_alloc_new _ d
theorem RdAt.mono {w:zB} {g:Nat} {N N':Nat->Prop} {s:RdS} (h:RdAt w g N s) (hN:∀ b,N' b->N b\/w.heap.size<=b):RdAt w g N' s:=by
 obtain⟨A,n,c,h1,h2,h3,h4,h5⟩:=h.has;refine⟨h.err,A,n,c,h1,h2,h3,h4,fun a h0 ha hn=>?_⟩;obtain⟨ad,hA,hb,_⟩:=h4.2 h0;rw [hA] at ha;injection ha with ha
 subst ha;rcases hN _ hn with h | h
 ·exact h5 ad h0 hA h
 omega
theorem Q0e.of_set {g:Nat} (w:zB) (i:Nat) (u:zC):Q0e g w (w.setCell ⟨g,i,none⟩ u):=(Q0e.refl g w).set i u
theorem Blk.only {w w':zB} {g k:Nat} {t:TypeId} {cs:Array zC} (h:Blk w g t cs) (ho:Q0e k w w') (hne:g≠k):Blk w' g t cs:=(ho.block g h.lt hne).trans h
theorem RdAt.beside {w w':zB} {g k:Nat} {N:Nat->Prop} {s:RdS} (h:RdAt w g N s) (ho:Q0e k w w') (hk:N k) (hne:g≠k):RdAt w' g N s :=h.keep (ho.block g h.lt hne) ho.size fun i hi hn=>ho.block i hi (fun e=>hn (e▸hk))
structure PSt (w0 w:zB) (gr gw g2:Nat) (s:RdS) (cells:Array zC) (f:Nat->Nat) (dv:zC) (D:List UInt8):Prop where
 rd:RdAt w gr (fun b=>b=gr\/b=gw) s
 kw:Blk w gw 25 cells
 k2:Blk w g2 25 (Q0f f 0)
 bl:zD w0.heap.size w0 w
 dat:OwnB w w0.heap.size dv D
 dne:∀ b,dv.ownBlock=some b->b≠gr/\b≠gw/\b≠g2
theorem PSt.num {w0 w w':zB} {gr gw g2:Nat} {s s':RdS} {cells:Array zC} {f:Nat->Nat} {dv:zC} {D:List UInt8} (h:PSt w0 w gr gw g2 s cells f dv D) (hr:RdAt w' gr (fun b=>b=gr\/b=gw) s') (ho:Q0e gr w w') (h1:gw≠gr) (h2:g2≠gr) (h3:w0.heap.size<=gr):PSt w0 w' gr gw g2 s' cells f dv D :=⟨hr,h.kw.only ho h1,h.k2.only ho h2,ho.below h.bl h.bl.size h3,h.dat.keep fun b hb=>ho.block b (h.dat.lt hb) (h.dne b hb).1,h.dne⟩
theorem PSt.set {w0 w:zB} {gr gw g2:Nat} {s:RdS} {cells:Array zC} {f:Nat->Nat} {dv:zC} {D:List UInt8} (h:PSt w0 w gr gw g2 s cells f dv D) (i:Nat) (u:zC) (h1:gr≠gw) (h2:g2≠gw) (h3:w0.heap.size<=gw):PSt w0 (w.setCell ⟨gw,i,none⟩ u) gr gw g2 s (cells.setIfInBounds i u) f dv D :=⟨h.rd.beside (Q0e.of_set w i u) (.inr rfl) h1,h.kw.set_ i u,h.k2.only (Q0e.of_set w i u) h2,(Q0e.of_set w i u).below h.bl h.bl.size h3,h.dat.keep fun b hb=>(Q0e.of_set w i u).block b (h.dat.lt hb) (h.dne b hb).2.1,h.dne⟩
theorem Q3n (s:RdS) (most:Nat):(rdM s most).1<=most:=by
 unfold rdM;split
 ·split
  ·simp
  show (rdN s).1<=most; omega
 simp
def OwnN (w:zB) (base:Nat) (v:zC) (zs:List Int):Prop:=w.ownsRow base 3 1 v zs.length (zs.map vn)
theorem Q11 {w:zB} {base:Nat} {v:zC} {zs:List Int} (h:OwnN w base v zs):∃ A c,v=.slice A zs.length c:=by
 rcases h.2 with⟨rfl,h0⟩ | ⟨g,cap,cur,rfl,_⟩
 ·exact⟨none,0,by rw [h0]⟩
 exact⟨_,cap,rfl⟩
theorem Q1r {w:zB} {base b:Nat} {v:zC} {zs:List Int} (h:OwnN w base v zs) (hb:v.ownBlock=some b):b<w.heap.size:=by
 rcases h.2 with⟨rfl,_⟩ | ⟨g,cap,cur,rfl,hg,hh,_⟩
 ·simp [zG] at hb
 simp [zG] at hb; subst hb;rcases Nat.lt_or_ge g w.heap.size with h | h
 ·exact h
 rw [Array.getElem?_eq_none h] at hh; cases hh
theorem Q0H {w:zB} {base b:Nat} {v:zC} {zs:List Int} (h:OwnN w base v zs) (hb:v.ownBlock=some b):base<=b:=by
 rcases h.2 with⟨rfl,_⟩ | ⟨g,cap,cur,rfl,hg,hh,_⟩
 ·simp [zG] at hb
 simp [zG] at hb; omega
theorem Q0u {w w':zB} {base:Nat} {v:zC} {zs:List Int} (h:OwnN w base v zs) (hk:∀ b,v.ownBlock=some b->w'.heap[b]?=w.heap[b]?):OwnN w' base v zs:=by
 refine⟨h.1,?_⟩;rcases h.2 with h0 | ⟨g,cap,cur,rfl,hg,hh,h1⟩
 ·exact .inl h0
 exact .inr ⟨g,cap,cur,rfl,hg,(hk g rfl).trans hh,h1⟩
theorem Q2R {w w':zB} {base:Nat} {v:zC} {zs:List Int} {A:Option zA} {n c:Nat} {o:Obj} (h:OwnN w base v zs) (hv:v=.slice A n c) (hl:zs.length=n) (hk:∀ b,v.ownBlock=some b->w'.heap[b]?=w.heap[b]?) (hs:w.heap.size<=w'.heap.size) (hlt:∀ b,v.ownBlock=some b->b<w.heap.size) :
 (w'.alloc o).ownsRow base 3 1 (.slice A n c) n (zs.map vn):=by
 subst hv;subst hl;exact Q0u h fun b hb=>(zE w' o b (by have:=hlt b hb; omega)).trans (hk b hb)
theorem Q1H {w:zB} {B:Nat} {e:TypeId} {s n:Nat} {v:zC} {vs:List zC} (h:w.ownsRow B e s v n vs):∃ A c,v=.slice A n c:=by
 rcases h.2 with⟨rfl,h0⟩ | ⟨g,cap,cur,rfl,_⟩
 ·exact⟨none,0,by rw [h0]⟩
 exact⟨_,cap,rfl⟩
structure PFar (w0:zB) (gr gw g2 B2:Nat) (dv:zC):Prop where
 r:gr<B2
 w:gw<B2
 z:g2<B2
 d:∀ b,dv.ownBlock=some b->b<B2
 o:w0.heap.size<=B2
 wo:w0.heap.size<=gw
theorem PSt.push {w0 w6 w8:zB} {gr gw g2 B2:Nat} {s:RdS} {cells:Array zC} {f:Nat->Nat} {dv v v8:zC} {D:List UInt8} {o:Obj} (h:PSt w0 w6 gr gw g2 s cells f dv D) (hr:RdAt w6 gr (fun b=>(b=gr\/b=gw)\/v.ownBlock=some b) s)
 (hg:(w6.alloc o).grownBy w8 v.ownBlock) (hor:v8.ownBlock=v.ownBlock\/v8.ownBlock=some (w6.alloc o).heap.size) (hvB:∀ b,v.ownBlock=some b->B2<=b) (hF:PFar w0 gr gw g2 B2 dv) (hne:gr≠gw/\g2≠gw) :
 PSt w0 (w8.setCell ⟨gw,9,none⟩ v8) gr gw g2 s (cells.setIfInBounds 9 v8) f dv D/\RdAt (w8.setCell ⟨gw,9,none⟩ v8) gr (fun b=>(b=gr\/b=gw)\/v8.ownBlock=some b) s:=by
 have hsa:(w6.alloc o).heap.size=w6.heap.size+1:=by simp
 have hgs:=hg.size;have hk:∀ b,b<w6.heap.size->v.ownBlock≠some b->w8.heap[b]?=w6.heap[b]?:=fun b hb hn=>(hg.block b (by omega) (fun e=>hn e.symm)).trans (zE w6 o b (by omega))
 have hnv:∀ b,b<B2->v.ownBlock≠some b:=fun b hb e=>by have:=hvB b e; omega
 have hset:∀ b,b≠gw->(w8.setCell ⟨gw,9,none⟩ v8).heap[b]?=w8.heap[b]?:=fun b hb=>zF w8 ⟨gw,9,none⟩ v8 b hb
 have hss:(w8.setCell ⟨gw,9,none⟩ v8).heap.size=w8.heap.size:=by simp [World.setCell]
 have hr3:RdAt w6 gr (fun b=>((b=gr\/b=gw)\/v.ownBlock=some b)\/v8.ownBlock=some b) s:=hr.mono fun b hb=>by
  rcases hb with hb | hb
  ·exact .inl hb
  rcases hor with e | e
  ·exact .inl (.inr (e▸hb))
  rw [e,hsa] at hb; injection hb with hb; exact .inr (by omega)
 have hr4:RdAt (w8.setCell ⟨gw,9,none⟩ v8) gr (fun b=>((b=gr\/b=gw)\/v.ownBlock=some b)\/v8.ownBlock=some b) s :=hr3.keep ((hset gr hne.1).trans (hk gr hr.lt (hnv gr hF.r))) (by omega) fun b hb hn=>(hset b (fun e=>hn (.inl (.inl (.inr e))))).trans (hk b hb (fun e=>hn (.inl (.inr e))))
 refine⟨⟨hr4.mono fun b hb=>.inl (.inl (.inl hb)),?_,?_,?_,?_,h.dne⟩,hr4.mono fun b hb=>.inl (by
  rcases hb with hb | hb
  ·exact .inl (.inl hb)
  exact .inr hb)⟩
 ·exact Blk.set_ ((hk gw h.kw.lt (hnv gw hF.w)).trans h.kw:Blk w8 gw _ _) 9 v8
 ·exact(hset g2 hne.2).trans ((hk g2 h.k2.lt (hnv g2 hF.z)).trans h.k2)
 ·have h1:=h.bl.size;exact h.bl.trans ⟨hg.os,hg.tape,hg.output,by omega,fun i hi=>(hset i (by have:=hF.wo; omega)).trans (hk i (by omega) (hnv i (by have:=hF.o; omega)))⟩
 exact h.dat.keep fun b hb=>(hset b (h.dne b hb).2.1).trans (hk b (h.dat.lt hb) (hnv b (hF.d b hb)))
theorem Q06 (x:Wish) (A:Option zA) (n c:Nat) (A':Option zA) (n' c':Nat):(Q00 x A n c A' n' c').all (·.oneCell')=true:=by simp [Q00,Value.oneCell']
theorem Q07 (x:Wish) (A:Option zA) (n c:Nat) (A':Option zA) (n' c':Nat):(Try.prog.info? 25).map (·.size)=some (Q00 x A n c A' n' c').size:=by kernel_rfl
theorem Q0X (w:zB) (B:Nat):Q0c w B Q0k none 0 0 none 0 0 :=⟨Q02.none_,zI _,by omega,Q02.none_,zI _,by omega,by unfold I64 Q0k; simp⟩
theorem Q1b {w:zB} {B1 B2:Nat} {x:Wish} {A1 A2:Option zA} {n1 c1 n2 c2:Nat} (h1:OwnB w B1 (.slice A1 n1 c1) x.data) (h2:OwnN w B2 (.slice A2 n2 c2) x.next) (hl:x.data.length<=140737488355328/\x.next.length<=7)
 (hr:I64 x.client/\I64 x.stamp/\I64 x.group/\I64 x.epoch/\I64 x.kind/\I64 x.block/\I64 x.old/\I64 x.new/\∀ z,z∈x.next->I64 z):Q0c w w.heap.size x A1 n1 c1 A2 n2 c2:=by
 obtain⟨e1,h3,h4,h5,_⟩:=h1.reads;have hn2:n2=x.next.length:=by obtain⟨A,c,e⟩:=Q11 h2;injection e
 have hc2:n2<=c2:=by
  rcases h2.2 with⟨e,h0⟩ | ⟨g,cap,cur,e,_,_,h6,_⟩
  iterate 2 ·injection e with _ e1 e2; omega
 refine⟨h5,h3,by omega,?_,hc2,by omega,hr⟩;subst hn2;exact Q02.of_own h2
theorem Q0V (s:RdS) (i:Nat):I64 (vlN s i:Int):=by
 unfold I64 vlN rdN;split
 ·have:=tn_num (stN s i).1;unfold maxN at this;show -9223372036854775808<=(((tn (stN s i).1).1:Nat):Int)/\_;omega
 simp
theorem Q3L (b:List UInt8) (most:Nat):(ts b most).1.length<=most:=by
 rw [ts_eq];split
 ·simp
 split
 ·simp
 split
 ·simp
 simp; omega
theorem pD_len (b:List UInt8):(pD b).1.length<=140737488355328:=by
 unfold pD rdT;split
 ·have:=Q3L (stN (b,0) 6).1 16;show (ts _ 16).1.length<=_;omega
 simp
theorem pM_le (b:List UInt8):(pM b).1<=7:=Q3n _ 7
section
attribute [local irreducible] pD pM vlN stN
theorem Q20 (b:List UInt8) (f:Nat->Nat) (A1:Option zA) (n1 c1:Nat) (A2:Option zA) (n2 c2:Nat) (hf:f=vlN (b,0)) :
 Q1n f (.slice A1 n1 c1) (vlN (pD b).2 0) (vlN (pD b).2 1) (.slice A2 n2 c2)=Q00 (Q0i b) A1 n1 c1 A2 n2 c2:=by
 subst hf;rfl
theorem Q1C (b:List UInt8):(Q0i b).data=(pD b).1:=rfl
theorem Q17 (b:List UInt8) (i:Nat) (h:i=(pM b).1):(Q0i b).next=(zH i).map fun j=>(vlN (pM b).2 j:Int):=by subst h; rfl
theorem Q2M (b:List UInt8):(I64 (Q0i b).client/\I64 (Q0i b).stamp/\I64 (Q0i b).group/\I64 (Q0i b).epoch/\I64 (Q0i b).kind/\I64 (Q0i b).block/\I64 (Q0i b).old/\I64 (Q0i b).new/\∀ z,z∈(Q0i b).next->I64 z)/\((Q0i b).data.length<=140737488355328/\(Q0i b).next.length<=7):=by
 refine⟨⟨Q0V _ _,Q0V _ _,Q0V _ _,Q0V _ _,Q0V _ _,Q0V _ _,Q0V _ _,Q0V _ _,fun z hz=>?_⟩,?_,?_⟩
 ·rw [Q17 b _ rfl] at hz;obtain⟨j,_,rfl⟩:=List.mem_map.1 hz;exact Q0V _ _
 ·rw [Q1C];exact pD_len b
 rw [Q17 b _ rfl,List.length_map,List.length_range];exact pM_le b
end
theorem Q1F (b:List UInt8):∀ (u:Unit),(Q0K b≠0->Q0C b=(Q0k,Q0K b))/\(Q0K b=0->mayB (Q0i b)=true->Q0C b=(Q0i b,0))/\(Q0K b=0->mayB (Q0i b)=false->Q0C b=(Q0k,2)):=fun _=>by unfold Q0C;refine⟨fun h=>by rw [if_neg h],fun h hm=>by rw [if_pos h,if_pos hm],fun h hm=>by rw [if_pos h,if_neg (by rw [hm]; exact Bool.false_ne_true)]⟩
theorem Q2U (A:Option zA) (n c:Nat) (xs:List UInt8) (w:zB) (B:Nat) (h:Q02 w B 1 A n (xs.map vb)) (hB:B<=w.heap.size) (hc:n<=c) (hn:n<=140737488355328) :
 Calls Try.prog 8 #[.slice A n c] w fun e w'=>∃ A1 n1 c1 A2 n2 c2,e=.returned (.tuple #[.agg (Q00 (Q0C xs).1 A1 n1 c1 A2 n2 c2),.int .i64 ((Q0C xs).2:Int)])/\Q0c w' w'.heap.size (Q0C xs).1 A1 n1 c1 A2 n2 c2/\zD w.heap.size w w':=by
 have H:=sH h;clear h;go_enter Try.func8,Try.ntmps8
 go_upto_region 4 with fail
 generalize hW:World.alloc _ _=W;obtain⟨f,hf⟩:∃ f,f=vlN (xs,0):=⟨_,rfl⟩;have h4:W.heap[w.heap.size]?=some (.cells (Q0f f 0) 25)/\W.heap[w.heap.size+1]?=some (.cells (Q29 A n c 0) 59)/\W.heap[w.heap.size+1+1]?=some (.cells (Q0f f 0) 25)/\W.heap[w.heap.size+1+1+1]?=some (.cells (Q25 (w.heap.size+1+1)) 60)/\W.heap.size=w.heap.size+4/\zD w.heap.size w W:=by rw [<- hW];exact Q3o w _ _ _ _
 obtain⟨b2,br,bw,bp,hsz,hbl⟩:=h4;obtain⟨g2,hg2⟩:∃ g,g=w.heap.size:=⟨_,rfl⟩;rw [<- hg2] at b2 br bw bp ⊢;obtain⟨gr,hgr⟩:∃ g,g=g2+1:=⟨_,rfl⟩;rw [<- hgr] at br bw bp ⊢;obtain⟨gw,hgw⟩:∃ g,g=gr+1:=⟨_,rfl⟩;rw [<- hgw] at bw bp ⊢;obtain⟨gp,hgp⟩:∃ g,g=gw+1:=⟨_,rfl⟩;rw [<- hgp] at bp ⊢;have hrd:RdAt W gr (fun b=>b=gr\/b=gw) (xs,0):=⟨by omega,A,n,c,br,hc,hn,(H.out.below (hbl.mono hB)).more (by omega),fun a h0 ha hor=>by
  obtain⟨ad,hA,hb,_⟩:=H.out.2 h0;rw [hA] at ha;injection ha with ha
  subst ha;rcases hor with e | e <;> omega⟩
 have HF:=sH hf;have K2:=sH (show Blk W g2 25 (Q0f f 0) from b2);have KW:=sH (show Blk W gw 25 (Q0f f 0) from bw);have KP:=sH (show Blk W gp 60 (Q25 gw) from bp);have HB:=sH hbl;have HRD:=sH hrd;have ho1:g2<gr:=by omega
 have ho2:gr<gw:=by omega
 have ho3:gw<gp:=by omega
 have ho4:gp<W.heap.size:=by omega
 have ho5:w.heap.size<=g2:=by omega
 clear hf hW b2 br bw bp hbl hrd hg2 hgr hgw hgp hsz;go_loopw [20] (fun iv wr=>∃ i:Nat,i<=6/\iv=.int .i64 i/\Blk wr gw 25 (Q0f f i)/\Blk wr gp 60 (Q25 gw)/\Blk wr g2 25 (Q0f f 0)/\RdAt wr gr (fun b=>b=gr\/b=gw) (stN (xs,0) i)/\zD w.heap.size w wr) (fun iv _=>6 - (intOf iv).toNat)
 case atStart=>exact⟨0,by omega,rfl,KW.out,KP.out,K2.out,HRD.out,HB.out⟩
 obtain⟨i,hi,rfl,kw,kp,k2,hrd,hbl⟩:=hrel;have KW1:=sH kw;have KP1:=sH kp;have K21:=sH k2;have HR1:=sH hrd;have HB1:=sH hbl;have hgpl:=kp.lt;have hwl:=hbl.size;by_cases hi6:i<6
 ·have cp:wr.cell? ⟨gp,i,none⟩=some (.pointer (some ⟨gw,Q0W i,none⟩)):=(kp.cell i).trans (Q32 gw i hi6);clear kw kp k2 hrd hbl;go_wp2_with fail
  refine(Q0v gr _ _ wr HR1.out (by rintro b (rfl | rfl) <;> omega) (.inl rfl)).mono ?_;rintro _ w2 ⟨rfl,hr2,ho⟩;have kw2:=KW1.out.only ho (by omega);have cw:w2.cell? ⟨gw,Q0W i,none⟩=some (.int .i64 0):=(kw2.cell _).trans (Q2s f i hi6);have fw:=kw2.frozen (Q0W i);have hfi:f i=(rdN (stN (xs,0) i)).1:=by rw [HF.out]; rfl
  rw [<- hfi];have HR2:=sH (hr2.beside (Q0e.of_set (g:=gw) w2 (Q0W i) (.int .i64 (f i:Int))) (.inr rfl) (by omega));have KW2:=sH (kw2.set_ (Q0W i) (.int .i64 (f i:Int)));rw [Q1N f i hi6] at KW2;have KP2:=sH ((KP1.out.only ho (by omega)).only (Q0e.of_set (g:=gw) w2 (Q0W i) (.int .i64 (f i:Int))) (by omega));have K22:=sH ((K21.out.only ho (by omega)).only (Q0e.of_set (g:=gw) w2 (Q0W i) (.int .i64 (f i:Int))) (by omega));have HB2:=sH ((Q0e.of_set (g:=gw) w2 (Q0W i) (.int .i64 (f i:Int))).below (ho.below HB1.out hwl (by omega)) (by have:=ho.size; omega) (by omega));clear hr2 ho kw2 hfi;go_wp2_with fail
  go_roundw
  case rel=>exact⟨i+1,by omega,by go_num,KW2.out,KP2.out,K22.out,HR2.out,HB2.out⟩
  case measure=>simp [intOf]; omega
 obtain rfl:i=6:=by omega
 clear kw kp k2 hrd hbl;have hq:pD xs=rdT (stN (xs,0) 6) 16:=rfl;go_wp2_with fail
 refine(Q1W gr 16 _ _ wr HR1.out (by rintro b (rfl | rfl) <;> omega) (.inl rfl) (by omega)).mono ?_;rw [<- hq];rintro _ w2 ⟨dv,rfl,hdv,hr2,ho⟩;have HDV:=sH hdv;obtain⟨Ad,cd,rfl,hcd,hcdm,_,_⟩:=Q05 hdv;have kw2:=KW1.out.only ho (by omega);have cw:w2.cell? ⟨gw,6,none⟩=some (.slice none 0 0):=(kw2.cell 6).trans rfl;have fw:=kw2.frozen 6;have hoA:=Q0e.of_set (g:=gw) w2 6 (.slice Ad (pD xs).1.length cd);have hP:=sH (show PSt w (w2.setCell ⟨gw,6,none⟩ (.slice Ad (pD xs).1.length cd)) gr gw g2 (pD xs).2 (Q1n f (.slice Ad (pD xs).1.length cd) 0 0 (.slice none 0 0)) f (.slice Ad (pD xs).1.length cd) (pD xs).1 from
  ⟨hr2.beside hoA (.inr rfl) (by omega),kw2.set_ 6 _,(K21.out.only ho (by omega)).only hoA (by omega),hoA.below (ho.below HB1.out hwl (by omega)) (by have:=ho.size; omega) (by omega),
   (HDV.out.keep fun b hb=>hoA.block b (HDV.out.lt hb) (by have:=HDV.out.ge hb; omega)).more hwl,fun b hb=>by have:=HDV.out.ge hb; omega⟩)
 clear hr2 ho kw2 hdv hq hoA HDV;obtain⟨dl,hdl⟩:∃ dl,dl=(pD xs).1.length:=⟨_,rfl⟩;rw [<- hdl] at hP hcd ⊢;have HDLN:=sH hdl;clear hdl;go_upto_region 9 with fail
 generalize w2.setCell _ _=w3 at hP ⊢;clear cw fw;have hs3:=hP.out.bl.size;have hlr:=hP.out.rd.lt;have hlw:=hP.out.kw.lt;go_wp2_with fail
 refine(Q0v gr _ _ w3 hP.out.rd (by rintro b (rfl | rfl) <;> omega) (.inl rfl)).mono ?_;rintro _ w4 ⟨rfl,hr4,ho4⟩;have hP4:=sH (hP.out.num hr4 ho4 (by omega) (by omega) (by omega));have cw:w4.cell? ⟨gw,7,none⟩=some (.int .i64 ((0:Nat):Int)):=(hP4.out.kw.cell 7).trans rfl;have fw:=hP4.out.kw.frozen 7;clear hr4 ho4;rw [show (rdN (pD xs).2).1=vlN (pD xs).2 0 from rfl];have hP5:=sH (hP4.out.set 7 (.int .i64 (vlN (pD xs).2 0:Int)) (by omega) (by omega) (by omega));go_upto_region 10 with fail
 generalize w4.setCell _ _=w5 at hP5 ⊢;have hs5:=hP5.out.bl.size;have hlr5:=hP5.out.rd.lt;have hlw5:=hP5.out.kw.lt;clear cw fw;go_wp2_with fail
 refine(Q0v gr _ _ w5 hP5.out.rd (by rintro b (rfl | rfl) <;> omega) (.inl rfl)).mono ?_;rintro _ w6 ⟨rfl,hr6,ho6⟩;have hP6:=sH (hP5.out.num hr6 ho6 (by omega) (by omega) (by omega));have cw:w6.cell? ⟨gw,8,none⟩=some (.int .i64 ((0:Nat):Int)):=(hP6.out.kw.cell 8).trans rfl;have fw:=hP6.out.kw.frozen 8;clear hr6 ho6;rw [show (rdN (rdN (pD xs).2).2).1=vlN (pD xs).2 1 from rfl];have hP7:=sH (hP6.out.set 8 (.int .i64 (vlN (pD xs).2 1:Int)) (by omega) (by omega) (by omega));go_upto_region 11 with fail
 generalize w6.setCell _ _=w7 at hP7 ⊢;have hP7':=sH (show PSt w w7 gr gw g2 (stN (pD xs).2 2) (Q1n f (.slice Ad dl cd) (vlN (pD xs).2 0) (vlN (pD xs).2 1) (.slice none 0 0)) f (.slice Ad dl cd) (pD xs).1 from hP7.out);have hs7:=hP7.out.bl.size;have hlr7:=hP7.out.rd.lt;have hlw7:=hP7.out.kw.lt;clear cw fw hP hP4 hP5 hP6 hP7;go_wp2_with fail
 refine(Q19 gr 7 _ _ w7 hP7'.out.rd (by rintro b (rfl | rfl) <;> omega) (.inl rfl) (by omega)).mono ?_;rw [show rdM (stN (pD xs).2 2) 7=pM xs from rfl];rintro _ w8 ⟨rfl,hr8,ho8⟩;have hP8:=sH (hP7'.out.num hr8 ho8 (by omega) (by omega) (by omega));clear hr8 ho8 hP7';have hs8:=hP8.out.bl.size;obtain⟨B2,hB2⟩:∃ B2,B2=w8.heap.size:=⟨_,rfl⟩;have hm7:(pM xs).1<=7:=Q3n _ 7;have hfar:PFar w gr gw g2 B2 (.slice Ad dl cd):=⟨by rw [hB2]; exact hP8.out.rd.lt,by rw [hB2]; exact hP8.out.kw.lt,by rw [hB2]; exact hP8.out.k2.lt,fun b hb=>by rw [hB2]; exact hP8.out.dat.lt hb,by omega,by omega⟩;have HFR:=sH hfar;have hB2l:B2<=w8.heap.size:=by omega
 have HBE:=sH hB2;clear hfar hB2;obtain⟨m,hm⟩:∃ m,m=(pM xs).1:=⟨_,rfl⟩;rw [<- hm] at hm7 ⊢;have HM:=sH hm;clear hm;go_wp2_with fail
 go_loopw [40] (fun iv wr=>∃ (i:Nat) (v:zC),i<=m/\iv=.int .i64 i/\PSt w wr gr gw g2 (stN (pM xs).2 i) (Q1n f (.slice Ad dl cd) (vlN (pD xs).2 0) (vlN (pD xs).2 1) v) f (.slice Ad dl cd) (pD xs).1/\OwnN wr B2 v ((zH i).map fun j=>(vlN (pM xs).2 j:Int))/\RdAt wr gr (fun b=>(b=gr\/b=gw)\/v.ownBlock=some b) (stN (pM xs).2 i)/\B2<=wr.heap.size) (fun iv _=>m - (intOf iv).toNat)
 case atStart=>exact⟨0,.slice none 0 0,by omega,rfl,hP8.out,⟨rfl,.inl ⟨rfl,rfl⟩⟩,hP8.out.rd.mono (fun b hb=>.inl (by rcases hb with h | h; exact h; cases h)),hB2l⟩
 obtain⟨i,v,hi,rfl,hp,hov,hrd,hBl⟩:=hrel;have HP:=sH hp;have HOV:=sH hov;have HRD2:=sH hrd;have hlr9:=hp.rd.lt;have hlw9:=hp.kw.lt;clear hp hov hrd;by_cases him:i<m
 ·obtain⟨LA,Lc,hlv⟩:=Q11 HOV.out;have hlen:((zH i).map fun j=>(vlN (pM xs).2 j:Int)).length=i:=by simp
  rw [hlen] at hlv;have c0:wr.cell? ⟨gw,9,none⟩=some (.slice LA i Lc):=by rw [<- hlv]; exact(HP.out.kw.cell 9).trans rfl
  have HNM:=sH (Q0v gr _ _ wr.drew (HRD2.out.below (zK _ wr).drew) (by
   show ∀ b,((b=gr\/b=gw)\/v.ownBlock=some b)->b<wr.heap.size;rintro b ((rfl | rfl) | hb)
   iterate 2 ·omega
   exact Q1r HOV.out hb) (.inl (.inl rfl)))
  rw [show (rdN (stN (pM xs).2 i)).1=vlN (pM xs).2 i from rfl] at HNM;obtain⟨i0,hi0,hz0,hz1,hz2⟩:=info_parts (show (Try.prog.info? 3).map (fun i=>(i.zero,i.size,i.bytes))=some (some (.int .i64 0),1,8) by kernel_rfl);go_upto_region 13 with fail
  obtain⟨zs,hzs⟩:∃ zs,zs=(zH i).map fun j=>(vlN (pM xs).2 j:Int):=⟨_,rfl⟩
  rw [<- hzs] at HOV hlen;obtain⟨z,hz⟩:∃ z,z=vlN (pM xs).2 i:=⟨_,rfl⟩;rw [<- hz] at HNM;have hnx:((zH (i+1)).map fun j=>(vlN (pM xs).2 j:Int))=zs++[(z:Int)]:=by rw [List.range_succ,zL,hzs,hz]; rfl
  have HNX:=sH hnx;have HZS:=sH hzs;have HLEN:=sH hlen;have HLV:=sH hlv;have HVN:=sH (fun b (hb:v.ownBlock=some b)=>(⟨Q1r HOV.out hb,by have:=Q0H HOV.out hb; have:=HFR.out.r; omega,by have:=Q0H HOV.out hb; have:=HFR.out.w; omega⟩:b<wr.heap.size/\b≠gr/\b≠gw));clear hzs hz hnx hlen hlv;go_region_law (first
   | (go_simp; go_at_call 18; refine HNM.out.mono ?_; rintro _ w6 ⟨rfl,hr6,ho6⟩; have hk6:=Blk.only (w:=wr.drew) HP.out.kw ho6 (by omega); have c6:w6.cell? ⟨gw,9,none⟩=some (.slice LA i Lc):=(by rw [<- HLV.out]; exact(hk6.cell 9).trans rfl); have c7:=fun o=>(World.cell?_alloc_lt w6 o ⟨gw,9,none⟩ hk6.lt).trans c6)
   | (refine Q14 _ rfl (.tmp 43) (.tmp 46) 23 rfl B2 3 i0 _ 1 8 Try.underlying23 hi0 hz0 hz1 hz2 rfl (by omega) (.slice LA i Lc) i (zs.map vn) rfl (Q2R HOV.out HLV.out HLEN.out (fun b hb=>(ho6.block b (HVN.out b hb).1 (HVN.out b hb).2.1)) ho6.size (fun b hb=>(HVN.out b hb).1)) (w6.heap.size+1) (some ⟨w6.heap.size,0,none⟩) 1 1 [.int .i64 (z:Int)] rfl (Q1e _ _ _) (by simp [Value.oneCell']) (by unfold maxLen; omega) (by omega) (by have h5:=ho6.size; have h6:wr.drew.heap.size=wr.heap.size:=rfl; simp; omega) ?_; intro v8 w8' hown8 hg8 hor8; obtain⟨A8,C8,rfl⟩:=Q1H hown8; have HB8:=(hk6.alloc _).grown hg8 (by rw [<- HLV.out]; exact fun e=>(HVN.out gw e.symm).2.2 rfl); have c8:w8'.cell? ⟨gw,9,none⟩=some v:=(HB8.cell 9).trans rfl; have f8:=HB8.frozen 9))
  all_goals
   have hP6:=PSt.num (w:=wr.drew) (w':=w6) (h:=⟨HP.out.rd.below (zK _ wr).drew,HP.out.kw,HP.out.k2,HP.out.bl.drew,HP.out.dat,HP.out.dne⟩) (hr6.mono (fun b hb=>.inl (.inl hb))) ho6 (by omega) (by omega) (by omega)
   have hpu:=PSt.push (B2:=B2) hP6 hr6 (HLV.out▸hg8) (v8:=.slice A8 (i+1) C8) (HLV.out▸hor8) (fun b hb=>Q0H HOV.out hb) HFR.out (by omega)
   have HPU:=sH hpu
   have HO8:=sH (show OwnN (w8'.setCell ⟨gw,9,none⟩ (.slice A8 (i+1) C8)) B2 (.slice A8 (i+1) C8) ((zH (i+1)).map fun j=>(vlN (pM xs).2 j:Int)) from by
    rw [HNX.out];have h1:OwnN w8' B2 (.slice A8 (i+1) C8) (zs++[(z:Int)]):=by unfold OwnN;rw [zJ,zL,HLEN.out];exact hown8
    exact Q0u h1 fun b hb=>zF w8' ⟨gw,9,none⟩ _ b (by have:=Q0H h1 hb; have:=HFR.out.w; show b≠gw; omega))
   have hsz8:B2<=w8'.heap.size:=by have h1:=hg8.size; have h2:=ho6.size; have h3:wr.drew.heap.size=wr.heap.size:=rfl; simp at h1; omega
   clear hP6 hpu hown8 hg8 hor8 HB8 c8 f8 c6 c7 hk6 hr6 ho6 c0
   generalize hW9:w8'.setCell _ _=w9 at HPU HO8 ⊢
   have hsz9:B2<=w9.heap.size:=by rw [<- hW9]; simpa [World.setCell] using hsz8
   clear hW9 hsz8
   go_wp2_with fail
   go_roundw
   case rel=>exact⟨i+1,_,by omega,by go_num,HPU.out.1,HO8.out,HPU.out.2,hsz9⟩
   case measure=>simp [intOf]; omega
 obtain rfl:i=m:=by omega
 clear HRD2;have hpe:rdE (stN (pM xs).2 i)=Q0K xs:=by unfold Q0K; rw [<- HM.out]
 have hE:=Q1w gr _ (stN (pM xs).2 i) wr HP.out.rd (.inl rfl);rw [hpe] at hE;obtain⟨ec,hec⟩:∃ ec,ec=Q0K xs:=⟨_,rfl⟩;have hpa:=Q1F xs;obtain⟨A2,c2,hv2⟩:=Q11 HOV.out;have hl2:((zH i).map fun j=>(vlN (pM xs).2 j:Int)).length=i:=by simp
 rw [hl2] at hv2;have hcl:Q1n f (.slice Ad dl cd) (vlN (pD xs).2 0) (vlN (pD xs).2 1) (.slice A2 i c2)=Q00 (Q0i xs) Ad dl cd A2 i c2:=Q20 xs f _ _ _ _ _ _ HF.out;have hdt:(Q0i xs).data=(pD xs).1:=Q1C xs;have hnt:(Q0i xs).next=(zH i).map fun j=>(vlN (pM xs).2 j:Int):=Q17 xs i HM.out
 have hrg:=Q2M xs;rw [hv2,<- hnt] at HOV;rw [hv2,hcl,<- hdt] at HP;rw [<- hdt] at HDLN;obtain⟨PW,hPW⟩:∃ PW,PW=Q0i xs:=⟨_,rfl⟩;rw [<- hec] at hE hpa;rw [<- hPW] at hpa HOV HP HDLN hrg;have HRG:=sH hrg;have HE:=sH hE;have HPA:=sH hpa;clear hpe hE hec hpa hcl hdt hnt hrg hPW hv2 hl2;go_wp2_with fail
 refine HE.out.mono ?_;rintro _ w9 ⟨rfl,hr9,ho9⟩;have HP9:=sH (HP.out.num hr9 ho9 (by omega) (by omega) (by omega));have HO9:=sH (Q0u (w':=w9) HOV.out fun b hb=>ho9.block b (Q1r HOV.out hb) (by have:=Q0H HOV.out hb; have:=HFR.out.r; omega));clear hr9 ho9;by_cases hec:ec=0
 ·subst hec;obtain⟨mb,hmb⟩:∃ mb,mb=mayB PW:=⟨_,rfl⟩;have hwi:Q0c w9 w9.heap.size PW Ad dl cd A2 i c2:=Q1b HP9.out.dat HO9.out HRG.out.2 HRG.out.1;have hck:=Q0Q PW Ad dl cd A2 i c2 w9 w9.heap.size hwi (zI _);rw [<- hmb] at hck;have HCK:=sH hck;have HMB:=sH (fun(_:Unit)=>hmb);have hwz:(Q00 PW Ad dl cd A2 i c2).size=10:=rfl;clear hck hwi hmb;go_wp2_with (refine Q03 rfl 25 (.tmp 5) rfl gw 0 10 rfl 25 _ (Q00 PW Ad dl cd A2 i c2) _ HP9.out.kw Try.underlying25 rfl rfl rfl (fun _ _=>by rw [zN]) ?_)
  refine HCK.out.mono ?_;rintro _ w10 ⟨rfl,hb10⟩;have K10:=sH (HP9.out.kw.under hb10);have K2':=sH (HP9.out.k2.under hb10);have HB10:=sH (HP9.out.bl.trans (hb10.mono HP9.out.bl.size));have HD10:=sH (HP9.out.dat.below hb10);have HO10:=sH (Q0u (w':=w10) HO9.out fun b hb=>hb10.block b (Q1r HO9.out hb));have HNE:=sH (HP9.out.dne);clear hb10 HP9 HO9 HE;cases mb with
  | false =>
   go_wp2_with (refine Q01 rfl 25 (.tmp 2) (.tmp 58) rfl g2 0 (Q00 Q0k none 0 0 none 0 0) rfl rfl 25 _ K2'.out (Q07 _ _ _ _ _ _ _) (by simp [Q00,Q0f]) (Q06 _ _ _ _ _ _ _) ?_; intro w11 hT10 hD10; rw [Q0d _ _ (by simp [Q00,Q0f])] at hD10)
   have hpq:=(HPA.out ()).2.2 trivial (HMB.out ()).symm;refine bodyPost_ret (Q0g rfl _ _ g2 10 25 _ _ rfl hD10 Try.underlying25 rfl rfl rfl) rfl ⟨none,0,0,none,0,0,by rw [hpq]; rfl,by rw [hpq]; exact Q0X _ _,?_⟩;exact hT10.below HB10.out (by omega)
  | true =>
   go_wp2_with (first
    | (refine Q03 rfl 25 (.tmp 5) rfl gw 0 10 rfl 25 _ (Q00 PW Ad dl cd A2 i c2) _ K10.out Try.underlying25 rfl rfl rfl (fun _ _=>by rw [zN]) ?_)
    | (refine Q01 rfl 25 (.tmp 2) (.tmp 60) rfl g2 0 (Q00 PW Ad dl cd A2 i c2) rfl rfl 25 _ K2'.out (Q07 _ _ _ _ _ _ _) (by simp [Q00,Q0f]) (Q06 _ _ _ _ _ _ _) ?_; intro w11 hT10 hD10; rw [Q0d _ _ (by simp [Q00,Q0f])] at hD10))
   have hpq:=(HPA.out ()).2.1 trivial (HMB.out ()).symm;refine bodyPost_ret (Q0g rfl _ _ g2 10 25 _ _ rfl hD10 Try.underlying25 rfl rfl rfl) rfl ⟨Ad,dl,cd,A2,i,c2,by rw [hpq]; rfl,?_,hT10.below HB10.out (by omega)⟩;rw [hpq];exact Q1b (HD10.out.keep fun b hb=>hT10.block b (HNE.out b hb).2.2) (Q0u HO10.out fun b hb=>hT10.block b (by have:=Q0H HO10.out hb; have:=HFR.out.z; omega)) HRG.out.2 HRG.out.1
 have hec':¬ (ec:Int)=0:=by omega
 go_wp2_with (refine Q01 rfl 25 (.tmp 2) (.tmp 58) rfl g2 0 (Q00 Q0k none 0 0 none 0 0) rfl rfl 25 _ HP9.out.k2 (Q07 _ _ _ _ _ _ _) (by simp [Q00,Q0f]) (Q06 _ _ _ _ _ _ _) ?_; intro w10 hT10 hD10; rw [Q0d _ _ (by simp [Q00,Q0f])] at hD10)
 refine bodyPost_ret (Q0g rfl _ _ g2 10 25 _ _ rfl hD10 Try.underlying25 rfl rfl rfl) rfl ⟨none,0,0,none,0,0,by rw [(HPA.out ()).1 hec]; rfl,by rw [(HPA.out ()).1 hec]; exact Q0X _ _,?_⟩;exact hT10.below HP9.out.bl (by omega)
end
section
theorem Q1Y (s:RdS):∀ i,stN s (i+1)=stN (rdN s).2 i
 | 0=>rfl
 | i+1=>by show (rdN (stN s (i+1))).2=(rdN (stN (rdN s).2 i)).2;rw [Q1Y s i]
theorem Q3X (s:RdS) (i:Nat):vlN s (i+1)=vlN (rdN s).2 i:=by unfold vlN;rw [Q1Y]
theorem Q24 {n:Nat} (h:n<=maxN) (r:List UInt8):rdN (numB n++r,0)=(n,(r,0)):=by unfold rdN;rw [if_pos rfl];unfold tn;simp only;rw [Q34 h]
theorem Q1G (z:Int) (t:List Int):Q0m (z :: t)=numB z.toNat++Q0m t:=rfl
theorem NumI.max {z:Int} (h:NumI z):z.toNat<=maxN:=by unfold NumI at h; unfold maxN; omega
theorem Q1Q (r:List UInt8):∀ (l:List Int),(∀ z,z∈l->NumI z)->stN (Q0m l++r,0) l.length=(r,0)
 | [],_=>rfl
 | z :: t,h=>by rw [List.length_cons,Q1Y,Q1G,zM,Q24 (h z (by simp)).max];exact Q1Q r t fun y hy=>h y (by simp [hy])
theorem Q1R (r:List UInt8):∀ (l:List Int),(∀ z,z∈l->NumI z)->∀ i,i<l.length->(vlN (Q0m l++r,0) i:Int)=l.getD i 0
 | [],_,i,hi=>by simp at hi
 | z :: t,h,0,hi=>by
  unfold vlN;show ((rdN (Q0m (z :: t)++r,0)).1:Int)=_;rw [Q1G,zM,Q24 (h z (by simp)).max];have:=h z (by simp);unfold NumI at this
  simp
  omega
 | z :: t,h,i+1,hi=>by rw [Q3X,Q1G,zM,Q24 (h z (by simp)).max];have:=Q1R r t (fun y hy=>h y (by simp [hy])) i (by simpa using hi);simpa using this
theorem Q3w {x:Wish} (h:mayB x=true):Q0i (Q0s x)=x/\Q0K (Q0s x)=0:=by
 obtain⟨h6,h3,hn,hd,hl⟩:=Q2F h;obtain⟨client,stamp,group,epoch,kind,block,data,old,new,next⟩:=x;simp only at h6 h3 hn hd hl;obtain⟨r3,hr3⟩:∃ r,r=Q0m next:=⟨_,rfl⟩;obtain⟨r2,hr2⟩:∃ r,r=Q0m [old,new,(next.length:Int)]++r3:=⟨_,rfl⟩;have hw:Q0s ⟨client,stamp,group,epoch,kind,block,data,old,new,next⟩=Q0m [kind,client,stamp,group,epoch,block]++(strB data++r2):=by unfold Q0s;simp only [zM,hr2,hr3]
 have s6:stN (Q0s ⟨client,stamp,group,epoch,kind,block,data,old,new,next⟩,0) 6=(strB data++r2,0):=by rw [hw];exact Q1Q _ [kind,client,stamp,group,epoch,block] h6
 have hD:pD (Q0s ⟨client,stamp,group,epoch,kind,block,data,old,new,next⟩)=(data,(r2,0)):=by unfold pD;rw [s6];unfold rdT;rw [if_pos rfl];unfold ts;simp only;rw [Q3V (by omega)]
 have h2:∀ z,z∈[old,new]->NumI z:=fun z hz=>h3 z (by simp at hz ⊢; omega)
 have e2:r2=Q0m [old,new]++(numB next.length++r3):=by rw [hr2]; simp only [Q0m,List.flatMap_cons,List.flatMap_nil,List.append_nil,Int.toNat_natCast,zM]
 have s9:stN (r2,0) 2=(numB next.length++r3,0):=by rw [e2];exact Q1Q _ [old,new] h2
 have hM:pM (Q0s ⟨client,stamp,group,epoch,kind,block,data,old,new,next⟩)=(next.length,(r3,0)):=by unfold pM;rw [hD];simp only;rw [s9];unfold rdM;rw [Q24 (by unfold maxN; omega)];simp only;rw [if_pos trivial,if_neg (by omega)]
 have e3:r3=Q0m next++[]:=by rw [hr3,List.append_nil]
 have s11:stN (r3,0) next.length=([],0):=by rw [e3];exact Q1Q _ next hn
 refine⟨?_,?_⟩
 ·unfold Q0i;rw [hM,hD];simp only;have v:=fun i hi=>Q1R (strB data++r2) [kind,client,stamp,group,epoch,block] h6 i hi
  rw [<- hw] at v;have v2:=fun i hi=>Q1R (numB next.length++r3) [old,new] h2 i hi
  rw [<- e2] at v2;have v3:=fun i hi=>Q1R [] next hn i hi
  rw [<- e3] at v3;have hx:((zH next.length).map fun i=>(vlN (r3,0) i:Int))=next:=by
   apply List.ext_getElem
   ·simp
   intro i h1 h2;simp only [List.getElem_map,List.getElem_range];rw [v3 i h2,List.getD_eq_getElem?_getD,List.getElem?_eq_getElem h2];rfl
  rw [hx,v 0 (by simp),v 1 (by simp),v 2 (by simp),v 3 (by simp),v 4 (by simp),v 5 (by simp),v2 0 (by simp),v2 1 (by simp)];rfl
 unfold Q0K;rw [hM];simp only;rw [s11];rfl
theorem parse_of {x:Wish} (h:mayB x=true):Q0C (Q0s x)=(x,0):=by obtain⟨h1,h2⟩:=Q3w h;have:=(Q1F (Q0s x) ()).2.1 h2 (by rw [h1]; exact h);rw [this,h1]
theorem Q1q:numB 0=[0]:=by unfold numB; rw [Q3j]; rfl
theorem Q2u {n:Nat} (h0:0<n) (h:n<256):numB n=[1,UInt8.ofNat n]:=by
 have h1:nd n=1:=by rw [nd_pos (by omega),Nat.div_eq_of_lt h,Q3j]
 unfold numB;rw [h1];show [UInt8.ofNat 1,UInt8.ofNat (n / 256 ^ 0 % 256)]=_;rw [Nat.pow_zero,Nat.div_one,Nat.mod_eq_of_lt h];rfl
def Q0t:Wish:=⟨31,5,1,0,1,3,[],0,0,[]⟩
def Q0S:Wish:=⟨0,0,2,1,5,0,[],0,0,[1,2,3,4]⟩
theorem read_may:mayB Q0t=true:=by decide
theorem seal_may:mayB Q0S=true:=by decide
theorem Q3G:Q0s Q0t=[1,1,1,31,1,5,1,1,0,1,3,0,0,0,0]:=by simp [Q0s,Q0m,strB,Q0t,Q1q,Q2u]
theorem Q3D:Q0s Q0S=[1,5,0,0,1,2,1,1,0,0,0,0,1,4,1,1,1,2,1,3,1,4]:=by simp [Q0s,Q0m,strB,Q0S,Q1q,Q2u]
end
section
open Go.RowKit
def Q18 (w:zB) (B:Nat) (A:Option zA) (n:Nat) (l:List Wish):Prop :=l.length=n/\(0<n->∃ ad,A=some ad/\ad.block<B/\∀ (k:Nat) (x:Wish),l[k]?=some x->∃ A1 n1 c1 A2 n2 c2,(∀ (j:Nat) (v:zC),(Q00 x A1 n1 c1 A2 n2 c2)[j]?=some v->w.cell? (ad.add (10*k+j))=some v)/\Q0c w B x A1 n1 c1 A2 n2 c2)
theorem Q1x {P:Program} {ops:Array Oper} {rest:List Oper} {o:Oper} {a:Act} {w:zB} {Q:Exit->Act->zB->Prop} (hgd:o.guard=none) (ty:TypeId) (x:Operand) (ho:o.op=.load ty x)
 (ad:zA) (n:Nat) (hx:a.eval x=.pointer (some ad)) (vs:Array zC) (d:TypeDesc)
 (hu:P.underlying ty=some d) (hd:(match d with | .struct _ | .array _ _=>true | _=>false)=true) (hi:(P.info? ty).map (·.size)=some n)
 (hn:vs.size=n) (hv:∀ (j:Nat) (v:zC),vs[j]?=some v->w.cell? (ad.add j)=some v)
 (h:wpList P ops Q rest (a.put o.dst (.agg vs)) w):wpList P ops Q (o :: rest) a w :=
 wpList_plain hgd fun _ hK=>by
  have hl:(loadCells ad vs.toList.length).run P w=.ok vs.toList.toArray w :=run_loadCells_list (P:=P) w ad vs.toList (fun j v hj=>hv j v (by simpa using hj))
  have hrun:(loadVar ty ad).run P w=.ok (.agg vs) w:=by
   cases hq:P.info? ty with
   | none=>simp [hq] at hi
   | some i =>
    have hs:i.size=n:=by simpa [hq] using hi
    have hagg:(isAgg ty).run P w=.ok true w:=by unfold isAgg;rw [Sem.run_bind,run_underlying hu w];cases d <;> simp_all
    simp only [Array.length_toList,Array.toArray_toList,hn] at hl;simp [loadVar,Sem.run_bind,hagg,sizeOf,typeInfo,hq,hs,hl]
  unfold Oper.wp execOp;simp only [ho,hx,Instr.loadAt,Instr.sureAddr,Sem.run_bind,Sem.run_pure,Result.andThen_ok,hrun];exact hK _ _ h
def Q1A (l:List Wish):List UInt8:=numB l.length++l.flatMap fun x=>strB (Q0s x)
def Q2E (l:List Wish):List UInt8×Nat:=if 4<l.length then([],5) else if l.all mayB=true then(Q1A l,0) else([],2)
theorem Q2Q {x:Wish} (h:mayB x=true):(Q0s x).length<=200:=by obtain⟨h6,h3,hn,hd,hl⟩:=Q2F h;have e1:=Q0P h6;have e2:=Q0P h3;have e3:=Q0P hn;have e4:=(Q0E (n:=x.data.length) (by unfold maxN; omega)).2;unfold Q0s strB;simp only [zJ,List.length_cons,List.length_nil] at *;omega
theorem outs_len {l:List Wish} {n k:Nat} (h:∀ x,x∈l->mayB x=true) (hn:n<=4) (hk:l.length<=k):(numB n++l.flatMap fun x=>strB (Q0s x)).length<=8+k*300:=by
 have h1:=(Q0E (n:=n) (by unfold maxN; omega)).2;rw [zJ];have h2:(l.flatMap fun x=>strB (Q0s x)).length<=l.length*300:=by
  clear hk
  induction l with
  | nil=>simp
  | cons a t ih =>have h3:=Q2Q (h a (by simp));have h4:=(Q0E (n:=(Q0s a).length) (by unfold maxN; omega)).2;have h5:=ih (fun x hx=>h x (by simp [hx]));rw [List.flatMap_cons,zJ,List.length_cons];unfold strB at h5 ⊢;rw [zJ];omega
 have:l.length*300<=k*300:=Nat.mul_le_mul_right _ hk;omega
theorem Q1Z (A:Option zA) (n c:Nat) (l:List Wish) (w:zB) (B:Nat) (h:Q18 w B A n l) (hB:B<=w.heap.size) (hn:n<=2000000000000) :
 Calls Try.prog 10 #[.slice A n c] w fun e w'=>∃ v,e=.returned (.tuple #[v,.int .i64 ((Q2E l).2:Int)])/\OwnB w' w.heap.size v (Q2E l).1/\zD w.heap.size w w':=by
 have hln:=h.1;have H:=sH h;have HLN:=sH hln;obtain⟨bt,hbt⟩:∃ bt,bt=Q2E l:=⟨_,rfl⟩;rw [<- hbt];have HBT:=sH hbt;clear h hln hbt;obtain⟨i0,hi0,hz0,hz1,hz2⟩:=info_parts Q1j;by_cases h4:4<n
 ·have hb:bt=([],5):=by rw [HBT.out]; unfold Q2E; rw [if_pos (by rw [HLN.out]; exact h4)]
  subst hb;go_enter Try.func10,Try.ntmps10
  go_wp2_with fail
  go_ret2
  exact⟨_,rfl,OwnB.nil _ _,zK _ _⟩
 have hX:zD w.heap.size w (w.alloc (.cells #[.int .i64 (n:Int)] 3)):=(zK _ _).alloc (zI _) _;have HNM:=sH (Q1v _ 1 1 [(n:Int)] _ _ (Q04 w #[.int .i64 (n:Int)] 3) (by simp) (by omega) (fun z hz=>by simp at hz; subst hz; unfold NumI; omega));have e0:Q0m [(n:Int)]=numB n:=by simp [Q0m]
 rw [e0] at HNM;have HX:=sH hX;have hbt2:bt=if l.all mayB=true then(Q1A l,0) else([],2):=by rw [HBT.out]; unfold Q2E; rw [if_neg (by rw [HLN.out]; exact h4)]
 have HB2:=sH hbt2;clear hX e0 hbt2;go_enter Try.func10,Try.ntmps10
 go_wp2_with fail
 refine HNM.out.mono ?_;rintro _ w2 ⟨v,rfl,ho,hb⟩;have HBW:=sH (HX.out.trans (hb.mono (by simp)));have HO:=sH (ho.more (B':=w.heap.size) (by simp));clear ho hb;go_wp2_with fail
 go_loopw [4,19] (fun ov iv wr=>∃ i:Nat,i<=n/\iv=.int .i64 i/\OwnB wr w.heap.size ov (numB n++(l.take i).flatMap fun x=>strB (Q0s x))/\zD w.heap.size w wr/\(∀ x,x∈l.take i->mayB x=true)) (fun _ iv _=>n - (intOf iv).toNat)
 case atStart=>exact⟨0,by omega,rfl,by simpa using HO.out,HBW.out,fun x hx=>by simp at hx⟩
 obtain⟨i,hi,rfl,hov,hbel,hall⟩:=hrel;have HOV:=sH hov;have HB:=sH hbel;have HALL:=sH hall;have hsz:=hbel.size;clear hov hbel hall;by_cases hin:i<n
 ·obtain⟨ad,hA,hadb,hcell⟩:=H.out.2 (by omega);subst hA;have hil:i<l.length:=by have:=HLN.out; omega
  obtain⟨A1,n1,c1,A2,n2,c2,hcs,hwi⟩:=hcell i l[i] (List.getElem?_eq_getElem hil);have HCS:=sH (fun(j:Nat) (v:zC) hv=>(HB.out.cell (show (ad.add (10*i+j)).block<w.heap.size by rw [Q0a]; omega)).trans (hcs j v hv));have HWI:=sH (fun W (hb:zD wr.heap.size wr W)=>Q28 l[i] A1 n1 c1 A2 n2 c2 W B (hwi.below ((HB.out.trans (hb.mono hsz)).mono hB)) (by have:=hb.size; omega));have htk:l.take (i+1)=l.take i++[l[i]]:=zP hil;have hmem:l[i]∈l:=List.getElem_mem hil;generalize l[i]=x at HCS HWI htk hmem;have HTK:=sH htk;have HMEM:=sH hmem;clear hcell hcs hwi htk hmem;go_upto_region 7 with(first
   | (refine Q1x rfl 25 (.tmp 21) rfl (ad.add (i*10)) 10 rfl (Q00 x A1 n1 c1 A2 n2 c2) _ Try.underlying25 rfl rfl rfl (fun j v hv=>by rw [Q1E,Nat.mul_comm]; exact HCS.out j v hv) ?_)
   | (refine Q01 rfl 25 (.tmp 6) (.tmp 22) rfl wr.heap.size 0 (Q00 x A1 n1 c1 A2 n2 c2) rfl rfl 25 (Q00 Q0k none 0 0 none 0 0) (Blk.newAt rfl) (Q07 _ _ _ _ _ _ _) (by simp [Q00]) (Q06 _ _ _ _ _ _ _) ?_; intro w3 hT3 hD3; rw [Q0d _ _ (by simp [Q00])] at hD3))
  have hb3:zD wr.heap.size wr w3:=hT3.below ((zK _ _).alloc (zI _) _) (zI _);have HC3:=sH (HWI.out w3 hb3);have HO3:=sH (HOV.out.below hb3);have HB3:=sH (HB.out.trans (hb3.mono hsz));have HD3:=sH hD3;have hs3:=hb3.size;clear hT3 hD3 hb3;go_wp2_with (refine Q03 rfl 25 (.tmp 6) rfl wr.heap.size 0 10 rfl 25 _ (Q00 x A1 n1 c1 A2 n2 c2) _ HD3.out Try.underlying25 rfl rfl rfl (fun _ _=>by rw [zN]) ?_)
  refine HC3.out.mono ?_;rintro _ w4 ⟨bv,rfl,hob,hb4⟩;have HB4:=sH (HB3.out.trans (hb4.mono (by omega)));have HO4:=sH (HO3.out.below hb4);have hs4:=hb4.size;obtain⟨mb,hmb⟩:∃ mb,mb=mayB x:=⟨_,rfl⟩;rw [<- hmb] at hob ⊢;have HMB:=sH (fun(_:Unit)=>hmb);clear hb4 hmb;cases mb with
  | false =>
   have hbad:bt=([],2):=by rw [HB2.out,if_neg];intro h;have:=List.all_eq_true.1 h x HMEM.out;rw [<- HMB.out ()] at this;cases this
   have HBAD:=sH hbad;clear hbad hob;go_wp2_with fail
   go_ret2
   exact⟨_,by rw [HBAD.out]; rfl,by rw [HBAD.out]; exact OwnB.nil _ _,HB4.out⟩
  | true =>
   have hwl:=Q2Q (HMB.out ()).symm;have hob':OwnB w4 w3.heap.size bv (Q0s x):=hob;obtain⟨Ab,cb,rfl,hbc,hbm,hbr,hbB⟩:=Q05 hob';obtain⟨xb,hxb⟩:∃ xb,xb=Q0s x:=⟨_,rfl⟩;rw [<- hxb] at hwl hbr hbc ⊢;have HXB:=sH hxb;have HBR:=sH hbr;clear hob hob' hxb hbr;go_wp2_with fail
   refine(Q46 Ab xb.length cb xb w4 _ HBR.out (zI _) (by omega)).mono ?_;rintro _ w5 ⟨sv,rfl,hos,hb5⟩;have HB5:=sH (HB4.out.trans (hb5.mono (by omega)));have HO5:=sH (HO4.out.below hb5);have hs5:=hb5.size;obtain⟨As,cs,rfl,hsc,hsm,hsr,hsB⟩:=Q05 hos;have HWN:=sH HO5.out.row;have HSR:=sH hsr;have hsl:(strB xb).length<=300:=by have:=(Q0E (n:=xb.length) (by unfold maxN; omega)).2;unfold strB;rw [zJ];omega
   have hol:(numB n++(l.take i).flatMap fun x=>strB (Q0s x)).length<=8+i*300:=outs_len HALL.out (by omega) (by rw [List.length_take]; omega);obtain⟨ob,hobe⟩:∃ ob,ob=(numB n++(l.take i).flatMap fun x=>strB (Q0s x)):=⟨_,rfl⟩;obtain⟨sb,hsbe⟩:∃ sb,sb=strB xb:=⟨_,rfl⟩;rw [<- hobe] at hol HWN;rw [<- hsbe] at hsl HSR hsc ⊢;have hnext:(numB n++(l.take (i+1)).flatMap fun x=>strB (Q0s x))=ob++sb:=by rw [HTK.out,List.flatMap_append,hobe,hsbe,HXB.out,zM];simp only [List.flatMap_cons,List.flatMap_nil,List.append_nil]
   have HNX:=sH hnext;have hge:=fun b (hb:(_:zC).ownBlock=some b)=>HO5.out.ge hb
   have HGE:=sH hge;clear hos hb5 hsr hobe hsbe hnext hge;go_wp2_with (at_builtin; go_must (refine Q0b _ rfl (.tmp 39) (.tmp 40) 22 rfl w.heap.size 5 i0 _ 1 1 Try.underlying22 hi0 hz0 hz1 hz2 rfl (by omega) _ _ _ rfl HWN.out w5.heap.size As sb.length cs (sb.map vb) rfl HSR.out ?c1 ?c2 ?c3 ?c4 ?_))
   case c1=>intro u hu; obtain⟨y,_,rfl⟩:=List.mem_map.1 hu; rfl
   case c2=>unfold maxLen; omega
   case c3=>omega
   case c4=>omega
   intro v6 w6 hown6 hg6 hor6;have HB6:=sH (Q0y HB5.out (by omega) hg6 (fun b hb=>HGE.out b hb));have HO6:=sH (show OwnB w6 w.heap.size v6 (numB n++(l.take (i+1)).flatMap fun x=>strB (Q0s x)) by unfold OwnB;rw [HNX.out,zJ,zL];exact hown6)
   have hall':∀ y,y∈l.take (i+1)->mayB y=true:=fun y hy=>by
    rw [HTK.out] at hy;rcases List.mem_append.1 hy with h | h
    ·exact HALL.out y h
    rw [List.mem_singleton] at h; subst h; exact(HMB.out ()).symm
   have HALL':=sH hall';clear hown6 hg6 hor6 hall';go_wp2_with fail
   go_roundw
   case rel=>exact⟨i+1,by omega,by go_num,HO6.out,HB6.out,HALL'.out⟩
   case measure=>simp [intOf]; omega
 obtain rfl:i=n:=by omega
 have hgood:bt=(Q1A l,0):=by
  rw [HB2.out,if_pos];refine List.all_eq_true.2 fun x hx=>HALL.out x ?_
  rw [zO (by have:=HLN.out; omega)];exact hx
 have HG:=sH hgood;clear hgood;go_wp2_with fail
 go_ret2
 refine⟨_,by rw [HG.out]; rfl,?_,HB.out⟩;rw [HG.out];have:=HOV.out;rw [zO (by have:=HLN.out; omega)] at this;unfold Q1A;rw [HLN.out];exact this
theorem Q1i (A B:Option zA) (n m c d:Nat) (xs ys:List UInt8) (w:zB) (Bx By:Nat) (ha:Q02 w Bx 1 A n (xs.map vb)) (hb:Q02 w By 1 B m (ys.map vb)) (hn:n<=maxLen) (hm:m<=maxLen) :
 Calls Try.prog 27 #[.slice A n c,.slice B m d] w fun e w'=>e=.returned (.bool (decide (xs=ys)))/\∃ k,w'=w.drewN k:=by
 have hlx:xs.length=n:=by have:=ha.1; simpa using this
 have hly:ys.length=m:=by have:=hb.1; simpa using this
 unfold maxLen at hn hm;by_cases hnm:n=m
 ·subst hnm;go_enter Try.func27,Try.ntmps27
  go_wp2
  go_loopw [5] (fun i wr=>∃ k q:Nat,k<=n/\i=.int .i64 k/\xs.take k=ys.take k/\wr=w.drewN q) (fun i _=>n - (intOf i).toNat)
  case atStart=>exact⟨0,0,Nat.zero_le _,rfl,by simp,rfl⟩
  obtain⟨k,q,hk,rfl,heq,rfl⟩:=hrel;have HE:=sH heq;clear heq;by_cases hlt:k<n
  ·obtain⟨ad,u,rfl,_,hx,hcx⟩:=ha.at_ hlt;obtain⟨bd,v,rfl,_,hy,hcy⟩:=hb.at_ hlt;obtain⟨hk1,rfl⟩:=Q26 hx;obtain⟨hk2,rfl⟩:=Q26 hy;clear hx hy ha hb;by_cases hne:xs[k]=ys[k]
   ·have hz:(bi xs[k] != bi ys[k])=false:=by simp [hne]
    have HN:=sH hne;clear hne
    go_wp2
    go_quiet (fail)
    go_wp2
    go_roundw
    case rel=>exact⟨k+1,_,by omega,by go_num,by rw [zP hk1,zP hk2,HE.out,HN.out],rfl⟩
    case measure=>simp [intOf]; omega
   have hz:(bi xs[k] != bi ys[k])=true:=by rw [bne_iff_ne]; intro e; exact hne (bi_inj e)
   have HN:=sH hne;clear hne
   go_wp2
   go_quiet (fail)
   go_wp2
   go_ret
   exact⟨Q0n (by have:=HN.out; symm; rw [decide_eq_false_iff_not]; rintro rfl; exact this rfl),_,World.drewN_drewN _ _ _⟩
  have hkn:k=n:=by omega
  have HK:=sH hkn;clear hkn
  go_wp2
  go_ret
  exact⟨Q0n (by symm; rw [decide_eq_true_iff]; have h1:=HE.out; rw [HK.out] at h1; rwa [zO (by omega),zO (by omega)] at h1),q,rfl⟩
 have h0:((n:Int) != (m:Int))=true:=by rw [bne_iff_ne]; omega
 have HN:=sH hnm;clear hnm;go_enter Try.func27,Try.ntmps27
 go_wp2
 go_ret
 exact⟨Q0n (by symm; rw [decide_eq_false_iff_not]; rintro rfl; exact HN.out (by omega)),0,rfl⟩
theorem ci_info:(Try.prog.info? 3).map (fun i=>(i.zero,i.size,i.bytes))=some (some (.int .i64 0),1,8):=by kernel_rfl
theorem Q2Y (A:Option zA) (n c:Nat) (xs:List Int) (w:zB) (B:Nat) (h:Q02 w B 1 A n (xs.map vn)) (hB:B<=w.heap.size) (hn:n<=17592186044416) :
 Calls Try.prog 17 #[.slice A n c] w fun e w'=>∃ v,e=.returned v/\OwnN w' w.heap.size v xs/\zD w.heap.size w w':=by
 have hxn:xs.length=n:=by have:=h.1; simpa using this
 have HXN:=sH hxn;clear hxn;go_enter Try.func17,Try.ntmps17
 obtain⟨i0,hi0,hz0,hz1,hz2⟩:=info_parts ci_info;go_wp2_with (at_builtin; go_must (refine Q0b _ rfl (.tmp 4) (.tmp 5) 23 rfl w.heap.size 3 i0 _ 1 8 Try.underlying23 hi0 hz0 hz1 hz2 rfl (by omega) (.slice none 0 0) 0 [] rfl ⟨by simp,.inl ⟨rfl,rfl⟩⟩ B A n c (xs.map vn) rfl h ?c1 ?c2 ?c3 ?c4 ?_))
 case c1=>intro u hu; obtain⟨x,_,rfl⟩:=List.mem_map.1 hu; rfl
 case c2=>unfold maxLen; omega
 case c3=>omega
 case c4=>omega
 intro v1 w1 hown1 hg1 hor
 go_wp2
 go_ret
 refine⟨v1,rfl,?_,(zK _ _).grown hg1 (zI _) (fun b hb=>by simp [zG] at hb)⟩;unfold OwnN;rw [HXN.out];simpa using hown1
theorem Q2a {w:zB} {B:Nat} {v:zC} {xs:List Int} (h:OwnN w B v xs):∃ A c,v=.slice A xs.length c/\xs.length<=c/\c<=maxLen/\Q02 w w.heap.size 1 A xs.length (xs.map vn)/\(∀ ad,A=some ad->B<=ad.block):=by
 have hr:=fun A c (hv:v=.slice A xs.length c)=>Q02.of_own (A:=A) (c:=c) (by rw [<- hv]; exact h)
 rcases h.2 with⟨rfl,h0⟩ | ⟨g,cap,cur,rfl,hg,_,h1,h2,_⟩
 ·exact⟨none,0,by rw [h0],by omega,by unfold maxLen; omega,hr none 0 (by rw [h0]),fun _ h=>by cases h⟩
 exact⟨_,cap,rfl,h1,h2,hr _ _ rfl,fun ad h=>by injection h with h; subst h; exact hg⟩
theorem OwnN.more {w:zB} {B B':Nat} {v:zC} {xs:List Int} (h:OwnN w B v xs) (hB:B'<=B):OwnN w B' v xs:=by
 refine⟨h.1,?_⟩;rcases h.2 with h0 | ⟨g,cap,cur,rfl,hg,hh,h1⟩
 ·exact .inl h0
 exact .inr ⟨g,cap,cur,rfl,by omega,hh,h1⟩
structure Q0O (w:zB) (B:Nat) (x:Wish) (A:Option zA) (n c:Nat) (A':Option zA) (n' c':Nat):Prop where
 data:OwnB w B (.slice A n c) x.data
 next:OwnN w B (.slice A' n' c') x.next
 dm:n<=140737488355328
 nm:n'<=17592186044416
 rng:I64 x.client/\I64 x.stamp/\I64 x.group/\I64 x.epoch/\I64 x.kind/\I64 x.block/\I64 x.old/\I64 x.new/\∀ z,z∈x.next->I64 z
theorem Q0O.is {w:zB} {B:Nat} {x:Wish} {A:Option zA} {n c:Nat} {A':Option zA} {n' c':Nat} (h:Q0O w B x A n c A' n' c'):Q0c w w.heap.size x A n c A' n' c':=by
 obtain⟨_,h3,h4,h5,_⟩:=h.data.reads;obtain⟨A1,c1,e,h6,h7,h8,_⟩:=Q2a h.next;injection e with e1 e2 e3
 subst e1 e2 e3;exact⟨h5,h3,h.dm,h8,h6,h.nm,h.rng⟩
theorem Q0O.more {w:zB} {B B':Nat} {x:Wish} {A:Option zA} {n c:Nat} {A':Option zA} {n' c':Nat} (h:Q0O w B x A n c A' n' c') (hB:B'<=B):Q0O w B' x A n c A' n' c' :=⟨h.data.more hB,h.next.more hB,h.dm,h.nm,h.rng⟩
theorem Q0O.keep {w w':zB} {B:Nat} {x:Wish} {A:Option zA} {n c:Nat} {A':Option zA} {n' c':Nat} (h:Q0O w B x A n c A' n' c') (hk:∀ b,B<=b->b<w.heap.size->w'.heap[b]?=w.heap[b]?):Q0O w' B x A n c A' n' c' :=⟨h.data.keep fun b hb=>hk b (h.data.ge hb) (h.data.lt hb),Q0u h.next fun b hb=>hk b (Q0H h.next hb) (Q1r h.next hb),h.dm,h.nm,h.rng⟩
theorem Q38 (x:Wish) (A:Option zA) (n c:Nat) (A':Option zA) (n' c':Nat) (w:zB) (B:Nat) (hx:Q0c w B x A n c A' n' c') (hB:B<=w.heap.size) :
 Calls Try.prog 7 #[.agg (Q00 x A n c A' n' c')] w fun e w'=>∃ A1 n1 c1 A2 n2 c2,e=.returned (.agg (Q00 x A1 n1 c1 A2 n2 c2))/\Q0O w' w.heap.size x A1 n1 c1 A2 n2 c2/\zD w.heap.size w w':=by
 have HWX:=sH (fun W (hb:zD w.heap.size w W)=>hx.below (hb.mono hB));clear hx;have hd0:zD w.heap.size w ((w.alloc (.cells (Q00 x A n c A' n' c') 25)).alloc (.cells (Q00 Q0k none 0 0 none 0 0) 25)):=((zK _ _).alloc (zI _) _).alloc (by simp) _;have k1:Blk ((w.alloc (.cells (Q00 x A n c A' n' c') 25)).alloc (.cells (Q00 Q0k none 0 0 none 0 0) 25)) w.heap.size 25 (Q00 x A n c A' n' c'):=(Blk.new w _ _).alloc _;have k2:Blk ((w.alloc (.cells (Q00 x A n c A' n' c') 25)).alloc (.cells (Q00 Q0k none 0 0 none 0 0) 25)) (w.heap.size+1) 25 (Q00 Q0k none 0 0 none 0 0):=Blk.newAt (by simp);have hs0:((w.alloc (.cells (Q00 x A n c A' n' c') 25)).alloc (.cells (Q00 Q0k none 0 0 none 0 0) 25)).heap.size=w.heap.size+2:=by simp
 go_enter Try.func7,Try.ntmps7
 go_upto_region 1 with fail
 generalize hW:World.alloc (World.alloc _ _) _=w1;have hW':((w.alloc (.cells (Q00 x A n c A' n' c') 25)).alloc (.cells (Q00 Q0k none 0 0 none 0 0) 25))=w1:=hW;rw [hW'] at hd0 k1 k2 hs0;clear hW hW';obtain⟨g1,hg1⟩:∃ g,g=w.heap.size:=⟨_,rfl⟩;obtain⟨g2,hg2⟩:∃ g,g=w.heap.size+1:=⟨_,rfl⟩;rw [<- hg1] at k1;rw [<- hg2] at k2 ⊢;rw [<- hg1];have ho1:w.heap.size<=g1:=by omega
 have ho2:g1<g2:=by omega
 have ho3:g2<w1.heap.size:=by omega
 have hs1:=hd0.size;have K1:=sH k1;have K2:=sH k2;have HB1:=sH hd0;clear hg1 hg2 k1 k2 hd0 hs0;go_upto_region 2 with(first
  | (refine Q03 (o:=⟨some 4,_,_,_,_,_⟩) rfl 25 (.tmp 1) rfl g1 0 10 rfl 25 _ (Q00 x A n c A' n' c') _ K1.out Try.underlying25 rfl rfl rfl (fun _ _=>by rw [zN]) ?_)
  | (refine Q01 (o:=⟨none,_,_,_,_,_⟩) rfl 25 (.tmp 3) (.tmp 4) rfl w1.heap.size 0 (Q00 x A n c A' n' c') rfl rfl 25 (Q00 Q0k none 0 0 none 0 0) (Blk.newAt rfl) (Q07 _ _ _ _ _ _ _) (by simp [Q00]) (Q06 _ _ _ _ _ _ _) ?_; intro w2 hT2 hD2; rw [Q0d _ _ (by simp [Q00])] at hD2))
 have hb2:zD w1.heap.size w1 w2:=hT2.below ((zK _ _).alloc (zI _) _) (zI _);obtain⟨g3,hg3⟩:∃ g,g=w1.heap.size:=⟨_,rfl⟩;rw [<- hg3] at hD2 ⊢;have ho4:g2<g3:=by omega
 have ho5:g3<w2.heap.size:=hD2.lt;have hs2:=hb2.size;have c6:w2.cell? ⟨g1,6,none⟩=some (.slice A n c):=((K1.out.under hb2).cell 6).trans rfl;have K12:=sH (K1.out.under hb2);have K22:=sH (K2.out.under hb2);have K32:=sH hD2;have HB2:=sH (HB1.out.trans (hb2.mono hs1));clear hT2 hD2 hb2 hg3 K1 K2 HB1;go_wp2_with fail
 refine(Q2K A n c x.data w2 B (HWX.out w2 HB2.out).data (by omega) (HWX.out w2 HB2.out).dm).mono ?_;rintro _ w3 ⟨dv,rfl,hdv,hb3⟩;obtain⟨A1,c1,hdve,_,_,_,_⟩:=Q05 hdv;subst hdve;obtain⟨dv,hdve⟩:∃ dv,dv=Value.slice A1 x.data.length c1:=⟨_,rfl⟩;rw [<- hdve] at hdv;have hs3:=hb3.size;have k3:=K32.out.under hb3;have cw:w3.cell? ⟨g3,6,none⟩=some (.slice A n c):=(k3.cell 6).trans rfl;have fw:=k3.frozen 6;have c9:(w3.setCell ⟨g3,6,none⟩ dv).cell? ⟨g1,9,none⟩=some (.slice A' n' c'):=(((K12.out.under hb3).far (p:=⟨g3,6,none⟩) (by show g1≠g3; omega) dv).cell 9).trans rfl;have K14:=sH ((K12.out.under hb3).far (p:=⟨g3,6,none⟩) (by show g1≠g3; omega) dv);have K24:=sH ((K22.out.under hb3).far (p:=⟨g3,6,none⟩) (by show g2≠g3; omega) dv);have K34:=sH (k3.set_ 6 dv);have HB4:=sH ((HB2.out.trans (hb3.mono (by omega))).setCell (p:=⟨g3,6,none⟩) (by show w.heap.size<=g3; omega) dv);have HO4:=sH ((hdv.keep (w':=w3.setCell ⟨g3,6,none⟩ dv) fun b hb=>zF w3 ⟨g3,6,none⟩ dv b (by have:=hdv.ge hb; show b≠g3; omega)));have HG4:=sH (fun b (hb:dv.ownBlock=some b)=>(⟨hdv.ge hb,hdv.lt hb⟩:w2.heap.size<=b/\b<w3.heap.size));have hs4:(w3.setCell ⟨g3,6,none⟩ dv).heap.size=w3.heap.size:=by simp [World.setCell]
 have HS4:=sH hs4;clear hdv hb3 k3 hs4 c6;rw [hdve] at c9 K14 K24 K34 HB4 HO4 HG4 HS4;clear hdve dv;go_upto_region 3 with fail
 have hs4:=HS4.out;generalize w3.setCell _ _=w4 at K14 K24 K34 HB4 HO4 c9 hs4 ⊢;have hs4':w4.heap.size<=w3.heap.size:=by omega
 have hs4'':w3.heap.size<=w4.heap.size:=by omega
 clear hs4 HS4 cw fw;go_wp2_with fail
 refine(Q2Y A' n' c' x.next w4 B (HWX.out w4 HB4.out).next (by omega) (HWX.out w4 HB4.out).nm).mono ?_;rintro _ w5 ⟨ev,rfl,hev,hb5⟩;obtain⟨A2,c2,heve,_,_,_,_⟩:=Q2a hev;subst heve;obtain⟨ev,heve⟩:∃ ev,ev=Value.slice A2 x.next.length c2:=⟨_,rfl⟩;rw [<- heve] at hev;have hs5:=hb5.size;have k3:=K34.out.under hb5;have cw:w5.cell? ⟨g3,9,none⟩=some (.slice A' n' c'):=(k3.cell 9).trans rfl;have fw:=k3.frozen 9;have K26:=sH ((K24.out.under hb5).far (p:=⟨g3,9,none⟩) (by show g2≠g3; omega) ev);have K36:=sH (k3.set_ 9 ev);have HB6:=sH ((HB4.out.trans (hb5.mono (by omega))).setCell (p:=⟨g3,9,none⟩) (by show w.heap.size<=g3; omega) ev);have HO6:=sH ((HO4.out.below hb5).keep (w':=w5.setCell ⟨g3,9,none⟩ ev) fun b hb=>zF w5 ⟨g3,9,none⟩ ev b (by have:=(HG4.out b hb).1; show b≠g3; omega));have hn6:OwnN (w5.setCell ⟨g3,9,none⟩ ev) w4.heap.size ev x.next:=Q0u (w':=w5.setCell ⟨g3,9,none⟩ ev) hev fun b hb=>zF w5 ⟨g3,9,none⟩ ev b (by have:=Q0H hev hb; show b≠g3; omega)
 have HN6:=sH (hn6.more (B':=w2.heap.size) (by omega));clear hev hb5 k3 hn6 c9;rw [heve] at K26 K36 HB6 HO6 HN6;clear heve ev;go_upto_region 4 with fail
 generalize w5.setCell _ _=w6 at K26 K36 HB6 HO6 HN6 ⊢;clear cw fw;have hfin:((Q00 x A n c A' n' c').setIfInBounds 6 (.slice A1 x.data.length c1)).setIfInBounds 9 (.slice A2 x.next.length c2)=Q00 x A1 x.data.length c1 A2 x.next.length c2:=rfl;rw [hfin] at K36;have hxl:=(HWX.out w6 HB6.out);have hx1:=hxl.dlen;have hx2:=hxl.nlen;have hx3:=hxl.dm;have hx4:=hxl.nm;have HWO:=sH (show Q0O w6 w2.heap.size x A1 x.data.length c1 A2 x.next.length c2 from⟨HO6.out,HN6.out,by omega,by omega,hxl.rng⟩);clear hxl hx1 hx2 hx3 hx4 hfin;go_wp2_with (first
  | (refine Q03 (o:=⟨some 13,_,_,_,_,_⟩) rfl 25 (.tmp 3) rfl g3 0 10 rfl 25 _ (Q00 x A1 x.data.length c1 A2 x.next.length c2) _ K36.out Try.underlying25 rfl rfl rfl (fun _ _=>by rw [zN]) ?_)
  | (refine Q01 (o:=⟨none,_,_,_,_,_⟩) rfl 25 (.tmp 2) (.tmp 13) rfl g2 0 (Q00 x A1 x.data.length c1 A2 x.next.length c2) rfl rfl 25 (Q00 Q0k none 0 0 none 0 0) K26.out (Q07 _ _ _ _ _ _ _) (by simp [Q00]) (Q06 _ _ _ _ _ _ _) ?_; intro w7 hT7 hD7; rw [Q0d _ _ (by simp [Q00])] at hD7))
 refine bodyPost_ret (Q0I rfl _ _ g2 10 25 _ _ rfl hD7 Try.underlying25 rfl rfl rfl) rfl ⟨A1,_,c1,A2,_,c2,rfl,?_,hT7.below HB6.out (by omega)⟩;exact(HWO.out.keep fun b hb hlt=>hT7.block b (by omega)).more (by omega)
theorem Q3e (A:Option zA) (n c:Nat) (xs:List UInt8) (w:zB) (B:Nat) (h:Q02 w B 1 A n (xs.map vb)) (hB:B<=w.heap.size) (hc:n<=c) (hn:n<=140737488355328) :
 Calls Try.prog 8 #[.slice A n c] w fun e w'=>∃ A1 n1 c1 A2 n2 c2,e=.returned (.tuple #[.agg (Q00 (Q0C xs).1 A1 n1 c1 A2 n2 c2),.int .i64 ((Q0C xs).2:Int)])/\Q0c w' w'.heap.size (Q0C xs).1 A1 n1 c1 A2 n2 c2/\zD w.heap.size w w'/\(∀ a,0<n1->A1=some a->w.heap.size<=a.block)/\(∀ a,0<n2->A2=some a->w.heap.size<=a.block):=by
 have H:=sH h;clear h;go_enter Try.func8,Try.ntmps8
 go_upto_region 4 with fail
 generalize hW:World.alloc _ _=W;obtain⟨f,hf⟩:∃ f,f=vlN (xs,0):=⟨_,rfl⟩;have h4:W.heap[w.heap.size]?=some (.cells (Q0f f 0) 25)/\W.heap[w.heap.size+1]?=some (.cells (Q29 A n c 0) 59)/\W.heap[w.heap.size+1+1]?=some (.cells (Q0f f 0) 25)/\W.heap[w.heap.size+1+1+1]?=some (.cells (Q25 (w.heap.size+1+1)) 60)/\W.heap.size=w.heap.size+4/\zD w.heap.size w W:=by rw [<- hW];exact Q3o w _ _ _ _
 obtain⟨b2,br,bw,bp,hsz,hbl⟩:=h4;obtain⟨g2,hg2⟩:∃ g,g=w.heap.size:=⟨_,rfl⟩;rw [<- hg2] at b2 br bw bp ⊢;obtain⟨gr,hgr⟩:∃ g,g=g2+1:=⟨_,rfl⟩;rw [<- hgr] at br bw bp ⊢;obtain⟨gw,hgw⟩:∃ g,g=gr+1:=⟨_,rfl⟩;rw [<- hgw] at bw bp ⊢;obtain⟨gp,hgp⟩:∃ g,g=gw+1:=⟨_,rfl⟩;rw [<- hgp] at bp ⊢;have hrd:RdAt W gr (fun b=>b=gr\/b=gw) (xs,0):=⟨by omega,A,n,c,br,hc,hn,(H.out.below (hbl.mono hB)).more (by omega),fun a h0 ha hor=>by
  obtain⟨ad,hA,hb,_⟩:=H.out.2 h0;rw [hA] at ha;injection ha with ha
  subst ha;rcases hor with e | e <;> omega⟩
 have HF:=sH hf;have K2:=sH (show Blk W g2 25 (Q0f f 0) from b2);have KW:=sH (show Blk W gw 25 (Q0f f 0) from bw);have KP:=sH (show Blk W gp 60 (Q25 gw) from bp);have HB:=sH hbl;have HRD:=sH hrd;have ho1:g2<gr:=by omega
 have ho2:gr<gw:=by omega
 have ho3:gw<gp:=by omega
 have ho4:gp<W.heap.size:=by omega
 have ho5:w.heap.size<=g2:=by omega
 clear hf hW b2 br bw bp hbl hrd hg2 hgr hgw hgp hsz;go_loopw [20] (fun iv wr=>∃ i:Nat,i<=6/\iv=.int .i64 i/\Blk wr gw 25 (Q0f f i)/\Blk wr gp 60 (Q25 gw)/\Blk wr g2 25 (Q0f f 0)/\RdAt wr gr (fun b=>b=gr\/b=gw) (stN (xs,0) i)/\zD w.heap.size w wr) (fun iv _=>6 - (intOf iv).toNat)
 case atStart=>exact⟨0,by omega,rfl,KW.out,KP.out,K2.out,HRD.out,HB.out⟩
 obtain⟨i,hi,rfl,kw,kp,k2,hrd,hbl⟩:=hrel;have KW1:=sH kw;have KP1:=sH kp;have K21:=sH k2;have HR1:=sH hrd;have HB1:=sH hbl;have hgpl:=kp.lt;have hwl:=hbl.size;by_cases hi6:i<6
 ·have cp:wr.cell? ⟨gp,i,none⟩=some (.pointer (some ⟨gw,Q0W i,none⟩)):=(kp.cell i).trans (Q32 gw i hi6);clear kw kp k2 hrd hbl;go_wp2_with fail
  refine(Q0v gr _ _ wr HR1.out (by rintro b (rfl | rfl) <;> omega) (.inl rfl)).mono ?_;rintro _ w2 ⟨rfl,hr2,ho⟩;have kw2:=KW1.out.only ho (by omega);have cw:w2.cell? ⟨gw,Q0W i,none⟩=some (.int .i64 0):=(kw2.cell _).trans (Q2s f i hi6);have fw:=kw2.frozen (Q0W i);have hfi:f i=(rdN (stN (xs,0) i)).1:=by rw [HF.out]; rfl
  rw [<- hfi];have HR2:=sH (hr2.beside (Q0e.of_set (g:=gw) w2 (Q0W i) (.int .i64 (f i:Int))) (.inr rfl) (by omega));have KW2:=sH (kw2.set_ (Q0W i) (.int .i64 (f i:Int)));rw [Q1N f i hi6] at KW2;have KP2:=sH ((KP1.out.only ho (by omega)).only (Q0e.of_set (g:=gw) w2 (Q0W i) (.int .i64 (f i:Int))) (by omega));have K22:=sH ((K21.out.only ho (by omega)).only (Q0e.of_set (g:=gw) w2 (Q0W i) (.int .i64 (f i:Int))) (by omega));have HB2:=sH ((Q0e.of_set (g:=gw) w2 (Q0W i) (.int .i64 (f i:Int))).below (ho.below HB1.out hwl (by omega)) (by have:=ho.size; omega) (by omega));clear hr2 ho kw2 hfi;go_wp2_with fail
  go_roundw
  case rel=>exact⟨i+1,by omega,by go_num,KW2.out,KP2.out,K22.out,HR2.out,HB2.out⟩
  case measure=>simp [intOf]; omega
 obtain rfl:i=6:=by omega
 clear kw kp k2 hrd hbl;have hq:pD xs=rdT (stN (xs,0) 6) 16:=rfl;go_wp2_with fail
 refine(Q1W gr 16 _ _ wr HR1.out (by rintro b (rfl | rfl) <;> omega) (.inl rfl) (by omega)).mono ?_;rw [<- hq];rintro _ w2 ⟨dv,rfl,hdv,hr2,ho⟩;have HDV:=sH hdv;obtain⟨Ad,cd,rfl,hcd,hcdm,_,_⟩:=Q05 hdv;have kw2:=KW1.out.only ho (by omega);have cw:w2.cell? ⟨gw,6,none⟩=some (.slice none 0 0):=(kw2.cell 6).trans rfl;have fw:=kw2.frozen 6;have hoA:=Q0e.of_set (g:=gw) w2 6 (.slice Ad (pD xs).1.length cd);have hP:=sH (show PSt w (w2.setCell ⟨gw,6,none⟩ (.slice Ad (pD xs).1.length cd)) gr gw g2 (pD xs).2 (Q1n f (.slice Ad (pD xs).1.length cd) 0 0 (.slice none 0 0)) f (.slice Ad (pD xs).1.length cd) (pD xs).1 from
  ⟨hr2.beside hoA (.inr rfl) (by omega),kw2.set_ 6 _,(K21.out.only ho (by omega)).only hoA (by omega),hoA.below (ho.below HB1.out hwl (by omega)) (by have:=ho.size; omega) (by omega),
   (HDV.out.keep fun b hb=>hoA.block b (HDV.out.lt hb) (by have:=HDV.out.ge hb; omega)).more hwl,fun b hb=>by have:=HDV.out.ge hb; omega⟩)
 clear hr2 ho kw2 hdv hq hoA HDV;obtain⟨dl,hdl⟩:∃ dl,dl=(pD xs).1.length:=⟨_,rfl⟩;rw [<- hdl] at hP hcd ⊢;have HDLN:=sH hdl;clear hdl;go_upto_region 9 with fail
 generalize w2.setCell _ _=w3 at hP ⊢;clear cw fw;have hs3:=hP.out.bl.size;have hlr:=hP.out.rd.lt;have hlw:=hP.out.kw.lt;go_wp2_with fail
 refine(Q0v gr _ _ w3 hP.out.rd (by rintro b (rfl | rfl) <;> omega) (.inl rfl)).mono ?_;rintro _ w4 ⟨rfl,hr4,ho4⟩;have hP4:=sH (hP.out.num hr4 ho4 (by omega) (by omega) (by omega));have cw:w4.cell? ⟨gw,7,none⟩=some (.int .i64 ((0:Nat):Int)):=(hP4.out.kw.cell 7).trans rfl;have fw:=hP4.out.kw.frozen 7;clear hr4 ho4;rw [show (rdN (pD xs).2).1=vlN (pD xs).2 0 from rfl];have hP5:=sH (hP4.out.set 7 (.int .i64 (vlN (pD xs).2 0:Int)) (by omega) (by omega) (by omega));go_upto_region 10 with fail
 generalize w4.setCell _ _=w5 at hP5 ⊢;have hs5:=hP5.out.bl.size;have hlr5:=hP5.out.rd.lt;have hlw5:=hP5.out.kw.lt;clear cw fw;go_wp2_with fail
 refine(Q0v gr _ _ w5 hP5.out.rd (by rintro b (rfl | rfl) <;> omega) (.inl rfl)).mono ?_;rintro _ w6 ⟨rfl,hr6,ho6⟩;have hP6:=sH (hP5.out.num hr6 ho6 (by omega) (by omega) (by omega));have cw:w6.cell? ⟨gw,8,none⟩=some (.int .i64 ((0:Nat):Int)):=(hP6.out.kw.cell 8).trans rfl;have fw:=hP6.out.kw.frozen 8;clear hr6 ho6;rw [show (rdN (rdN (pD xs).2).2).1=vlN (pD xs).2 1 from rfl];have hP7:=sH (hP6.out.set 8 (.int .i64 (vlN (pD xs).2 1:Int)) (by omega) (by omega) (by omega));go_upto_region 11 with fail
 generalize w6.setCell _ _=w7 at hP7 ⊢;have hP7':=sH (show PSt w w7 gr gw g2 (stN (pD xs).2 2) (Q1n f (.slice Ad dl cd) (vlN (pD xs).2 0) (vlN (pD xs).2 1) (.slice none 0 0)) f (.slice Ad dl cd) (pD xs).1 from hP7.out);have hs7:=hP7.out.bl.size;have hlr7:=hP7.out.rd.lt;have hlw7:=hP7.out.kw.lt;clear cw fw hP hP4 hP5 hP6 hP7;go_wp2_with fail
 refine(Q19 gr 7 _ _ w7 hP7'.out.rd (by rintro b (rfl | rfl) <;> omega) (.inl rfl) (by omega)).mono ?_;rw [show rdM (stN (pD xs).2 2) 7=pM xs from rfl];rintro _ w8 ⟨rfl,hr8,ho8⟩;have hP8:=sH (hP7'.out.num hr8 ho8 (by omega) (by omega) (by omega));clear hr8 ho8 hP7';have hs8:=hP8.out.bl.size;obtain⟨B2,hB2⟩:∃ B2,B2=w8.heap.size:=⟨_,rfl⟩;have hm7:(pM xs).1<=7:=Q3n _ 7;have hfar:PFar w gr gw g2 B2 (.slice Ad dl cd):=⟨by rw [hB2]; exact hP8.out.rd.lt,by rw [hB2]; exact hP8.out.kw.lt,by rw [hB2]; exact hP8.out.k2.lt,fun b hb=>by rw [hB2]; exact hP8.out.dat.lt hb,by omega,by omega⟩;have HFR:=sH hfar;have hB2l:B2<=w8.heap.size:=by omega
 have HBE:=sH hB2;clear hfar hB2;obtain⟨m,hm⟩:∃ m,m=(pM xs).1:=⟨_,rfl⟩;rw [<- hm] at hm7 ⊢;have HM:=sH hm;clear hm;go_wp2_with fail
 go_loopw [40] (fun iv wr=>∃ (i:Nat) (v:zC),i<=m/\iv=.int .i64 i/\PSt w wr gr gw g2 (stN (pM xs).2 i) (Q1n f (.slice Ad dl cd) (vlN (pD xs).2 0) (vlN (pD xs).2 1) v) f (.slice Ad dl cd) (pD xs).1/\OwnN wr B2 v ((zH i).map fun j=>(vlN (pM xs).2 j:Int))/\RdAt wr gr (fun b=>(b=gr\/b=gw)\/v.ownBlock=some b) (stN (pM xs).2 i)/\B2<=wr.heap.size) (fun iv _=>m - (intOf iv).toNat)
 case atStart=>exact⟨0,.slice none 0 0,by omega,rfl,hP8.out,⟨rfl,.inl ⟨rfl,rfl⟩⟩,hP8.out.rd.mono (fun b hb=>.inl (by rcases hb with h | h; exact h; cases h)),hB2l⟩
 obtain⟨i,v,hi,rfl,hp,hov,hrd,hBl⟩:=hrel;have HP:=sH hp;have HOV:=sH hov;have HRD2:=sH hrd;have hlr9:=hp.rd.lt;have hlw9:=hp.kw.lt;clear hp hov hrd;by_cases him:i<m
 ·obtain⟨LA,Lc,hlv⟩:=Q11 HOV.out;have hlen:((zH i).map fun j=>(vlN (pM xs).2 j:Int)).length=i:=by simp
  rw [hlen] at hlv;have c0:wr.cell? ⟨gw,9,none⟩=some (.slice LA i Lc):=by rw [<- hlv]; exact(HP.out.kw.cell 9).trans rfl
  have HNM:=sH (Q0v gr _ _ wr.drew (HRD2.out.below (zK _ wr).drew) (by
   show ∀ b,((b=gr\/b=gw)\/v.ownBlock=some b)->b<wr.heap.size;rintro b ((rfl | rfl) | hb)
   iterate 2 ·omega
   exact Q1r HOV.out hb) (.inl (.inl rfl)))
  rw [show (rdN (stN (pM xs).2 i)).1=vlN (pM xs).2 i from rfl] at HNM;obtain⟨i0,hi0,hz0,hz1,hz2⟩:=info_parts (show (Try.prog.info? 3).map (fun i=>(i.zero,i.size,i.bytes))=some (some (.int .i64 0),1,8) by kernel_rfl);go_upto_region 13 with fail
  obtain⟨zs,hzs⟩:∃ zs,zs=(zH i).map fun j=>(vlN (pM xs).2 j:Int):=⟨_,rfl⟩
  rw [<- hzs] at HOV hlen;obtain⟨z,hz⟩:∃ z,z=vlN (pM xs).2 i:=⟨_,rfl⟩;rw [<- hz] at HNM;have hnx:((zH (i+1)).map fun j=>(vlN (pM xs).2 j:Int))=zs++[(z:Int)]:=by rw [List.range_succ,zL,hzs,hz]; rfl
  have HNX:=sH hnx;have HZS:=sH hzs;have HLEN:=sH hlen;have HLV:=sH hlv;have HVN:=sH (fun b (hb:v.ownBlock=some b)=>(⟨Q1r HOV.out hb,by have:=Q0H HOV.out hb; have:=HFR.out.r; omega,by have:=Q0H HOV.out hb; have:=HFR.out.w; omega⟩:b<wr.heap.size/\b≠gr/\b≠gw));clear hzs hz hnx hlen hlv;go_region_law (first
   | (go_simp; go_at_call 18; refine HNM.out.mono ?_; rintro _ w6 ⟨rfl,hr6,ho6⟩; have hk6:=Blk.only (w:=wr.drew) HP.out.kw ho6 (by omega); have c6:w6.cell? ⟨gw,9,none⟩=some (.slice LA i Lc):=(by rw [<- HLV.out]; exact(hk6.cell 9).trans rfl); have c7:=fun o=>(World.cell?_alloc_lt w6 o ⟨gw,9,none⟩ hk6.lt).trans c6)
   | (refine Q14 _ rfl (.tmp 43) (.tmp 46) 23 rfl B2 3 i0 _ 1 8 Try.underlying23 hi0 hz0 hz1 hz2 rfl (by omega) (.slice LA i Lc) i (zs.map vn) rfl (Q2R HOV.out HLV.out HLEN.out (fun b hb=>(ho6.block b (HVN.out b hb).1 (HVN.out b hb).2.1)) ho6.size (fun b hb=>(HVN.out b hb).1)) (w6.heap.size+1) (some ⟨w6.heap.size,0,none⟩) 1 1 [.int .i64 (z:Int)] rfl (Q1e _ _ _) (by simp [Value.oneCell']) (by unfold maxLen; omega) (by omega) (by have h5:=ho6.size; have h6:wr.drew.heap.size=wr.heap.size:=rfl; simp; omega) ?_; intro v8 w8' hown8 hg8 hor8; obtain⟨A8,C8,rfl⟩:=Q1H hown8; have HB8:=(hk6.alloc _).grown hg8 (by rw [<- HLV.out]; exact fun e=>(HVN.out gw e.symm).2.2 rfl); have c8:w8'.cell? ⟨gw,9,none⟩=some v:=(HB8.cell 9).trans rfl; have f8:=HB8.frozen 9))
  all_goals
   have hP6:=PSt.num (w:=wr.drew) (w':=w6) (h:=⟨HP.out.rd.below (zK _ wr).drew,HP.out.kw,HP.out.k2,HP.out.bl.drew,HP.out.dat,HP.out.dne⟩) (hr6.mono (fun b hb=>.inl (.inl hb))) ho6 (by omega) (by omega) (by omega)
   have hpu:=PSt.push (B2:=B2) hP6 hr6 (HLV.out▸hg8) (v8:=.slice A8 (i+1) C8) (HLV.out▸hor8) (fun b hb=>Q0H HOV.out hb) HFR.out (by omega)
   have HPU:=sH hpu
   have HO8:=sH (show OwnN (w8'.setCell ⟨gw,9,none⟩ (.slice A8 (i+1) C8)) B2 (.slice A8 (i+1) C8) ((zH (i+1)).map fun j=>(vlN (pM xs).2 j:Int)) from by
    rw [HNX.out];have h1:OwnN w8' B2 (.slice A8 (i+1) C8) (zs++[(z:Int)]):=by unfold OwnN;rw [zJ,zL,HLEN.out];exact hown8
    exact Q0u h1 fun b hb=>zF w8' ⟨gw,9,none⟩ _ b (by have:=Q0H h1 hb; have:=HFR.out.w; show b≠gw; omega))
   have hsz8:B2<=w8'.heap.size:=by have h1:=hg8.size; have h2:=ho6.size; have h3:wr.drew.heap.size=wr.heap.size:=rfl; simp at h1; omega
   clear hP6 hpu hown8 hg8 hor8 HB8 c8 f8 c6 c7 hk6 hr6 ho6 c0
   generalize hW9:w8'.setCell _ _=w9 at HPU HO8 ⊢
   have hsz9:B2<=w9.heap.size:=by rw [<- hW9]; simpa [World.setCell] using hsz8
   clear hW9 hsz8
   go_wp2_with fail
   go_roundw
   case rel=>exact⟨i+1,_,by omega,by go_num,HPU.out.1,HO8.out,HPU.out.2,hsz9⟩
   case measure=>simp [intOf]; omega
 obtain rfl:i=m:=by omega
 clear HRD2;have hpe:rdE (stN (pM xs).2 i)=Q0K xs:=by unfold Q0K; rw [<- HM.out]
 have hE:=Q1w gr _ (stN (pM xs).2 i) wr HP.out.rd (.inl rfl);rw [hpe] at hE;obtain⟨ec,hec⟩:∃ ec,ec=Q0K xs:=⟨_,rfl⟩;have hpa:=Q1F xs;obtain⟨A2,c2,hv2⟩:=Q11 HOV.out;have hl2:((zH i).map fun j=>(vlN (pM xs).2 j:Int)).length=i:=by simp
 rw [hl2] at hv2;have hcl:Q1n f (.slice Ad dl cd) (vlN (pD xs).2 0) (vlN (pD xs).2 1) (.slice A2 i c2)=Q00 (Q0i xs) Ad dl cd A2 i c2:=Q20 xs f _ _ _ _ _ _ HF.out;have hdt:(Q0i xs).data=(pD xs).1:=Q1C xs;have hnt:(Q0i xs).next=(zH i).map fun j=>(vlN (pM xs).2 j:Int):=Q17 xs i HM.out
 have hrg:=Q2M xs;rw [hv2,<- hnt] at HOV;rw [hv2,hcl,<- hdt] at HP;rw [<- hdt] at HDLN;obtain⟨PW,hPW⟩:∃ PW,PW=Q0i xs:=⟨_,rfl⟩;rw [<- hec] at hE hpa;rw [<- hPW] at hpa HOV HP HDLN hrg;have HRG:=sH hrg;have HE:=sH hE;have HPA:=sH hpa;clear hpe hE hec hpa hcl hdt hnt hrg hPW hv2 hl2;go_wp2_with fail
 refine HE.out.mono ?_;rintro _ w9 ⟨rfl,hr9,ho9⟩;have HP9:=sH (HP.out.num hr9 ho9 (by omega) (by omega) (by omega));have HO9:=sH (Q0u (w':=w9) HOV.out fun b hb=>ho9.block b (Q1r HOV.out hb) (by have:=Q0H HOV.out hb; have:=HFR.out.r; omega));clear hr9 ho9;by_cases hec:ec=0
 ·subst hec;obtain⟨mb,hmb⟩:∃ mb,mb=mayB PW:=⟨_,rfl⟩;have hwi:Q0c w9 w9.heap.size PW Ad dl cd A2 i c2:=Q1b HP9.out.dat HO9.out HRG.out.2 HRG.out.1;have hck:=Q0Q PW Ad dl cd A2 i c2 w9 w9.heap.size hwi (zI _);rw [<- hmb] at hck;have HCK:=sH hck;have HMB:=sH (fun(_:Unit)=>hmb);have hwz:(Q00 PW Ad dl cd A2 i c2).size=10:=rfl;clear hck hwi hmb;go_wp2_with (refine Q03 rfl 25 (.tmp 5) rfl gw 0 10 rfl 25 _ (Q00 PW Ad dl cd A2 i c2) _ HP9.out.kw Try.underlying25 rfl rfl rfl (fun _ _=>by rw [zN]) ?_)
  refine HCK.out.mono ?_;rintro _ w10 ⟨rfl,hb10⟩;have K10:=sH (HP9.out.kw.under hb10);have K2':=sH (HP9.out.k2.under hb10);have HB10:=sH (HP9.out.bl.trans (hb10.mono HP9.out.bl.size));have HD10:=sH (HP9.out.dat.below hb10);have HO10:=sH (Q0u (w':=w10) HO9.out fun b hb=>hb10.block b (Q1r HO9.out hb));have HNE:=sH (HP9.out.dne);clear hb10 HP9 HO9 HE;cases mb with
  | false =>
   go_wp2_with (refine Q01 rfl 25 (.tmp 2) (.tmp 58) rfl g2 0 (Q00 Q0k none 0 0 none 0 0) rfl rfl 25 _ K2'.out (Q07 _ _ _ _ _ _ _) (by simp [Q00,Q0f]) (Q06 _ _ _ _ _ _ _) ?_; intro w11 hT10 hD10; rw [Q0d _ _ (by simp [Q00,Q0f])] at hD10)
   have hpq:=(HPA.out ()).2.2 trivial (HMB.out ()).symm;refine bodyPost_ret (Q0g rfl _ _ g2 10 25 _ _ rfl hD10 Try.underlying25 rfl rfl rfl) rfl ⟨none,0,0,none,0,0,by rw [hpq]; rfl,by rw [hpq]; exact Q0X _ _,?_⟩;exact⟨hT10.below HB10.out (by omega),fun a h=>absurd h (by omega),fun a h=>absurd h (by omega)⟩
  | true =>
   go_wp2_with (first
    | (refine Q03 rfl 25 (.tmp 5) rfl gw 0 10 rfl 25 _ (Q00 PW Ad dl cd A2 i c2) _ K10.out Try.underlying25 rfl rfl rfl (fun _ _=>by rw [zN]) ?_)
    | (refine Q01 rfl 25 (.tmp 2) (.tmp 60) rfl g2 0 (Q00 PW Ad dl cd A2 i c2) rfl rfl 25 _ K2'.out (Q07 _ _ _ _ _ _ _) (by simp [Q00,Q0f]) (Q06 _ _ _ _ _ _ _) ?_; intro w11 hT10 hD10; rw [Q0d _ _ (by simp [Q00,Q0f])] at hD10))
   have hpq:=(HPA.out ()).2.1 trivial (HMB.out ()).symm;refine bodyPost_ret (Q0g rfl _ _ g2 10 25 _ _ rfl hD10 Try.underlying25 rfl rfl rfl) rfl ⟨Ad,dl,cd,A2,i,c2,by rw [hpq]; rfl,?_,hT10.below HB10.out (by omega),fun a _ ha=>HD10.out.ge (by rw [ha]; rfl),fun a _ ha=>by have:=Q0H HO10.out (b:=a.block) (by rw [ha]; rfl); have:=HFR.out.o; omega⟩;rw [hpq];exact Q1b (HD10.out.keep fun b hb=>hT10.block b (HNE.out b hb).2.2) (Q0u HO10.out fun b hb=>hT10.block b (by have:=Q0H HO10.out hb; have:=HFR.out.z; omega)) HRG.out.2 HRG.out.1
 have hec':¬ (ec:Int)=0:=by omega
 go_wp2_with (refine Q01 rfl 25 (.tmp 2) (.tmp 58) rfl g2 0 (Q00 Q0k none 0 0 none 0 0) rfl rfl 25 _ HP9.out.k2 (Q07 _ _ _ _ _ _ _) (by simp [Q00,Q0f]) (Q06 _ _ _ _ _ _ _) ?_; intro w10 hT10 hD10; rw [Q0d _ _ (by simp [Q00,Q0f])] at hD10)
 refine bodyPost_ret (Q0g rfl _ _ g2 10 25 _ _ rfl hD10 Try.underlying25 rfl rfl rfl) rfl ⟨none,0,0,none,0,0,by rw [(HPA.out ()).1 hec]; rfl,by rw [(HPA.out ()).1 hec]; exact Q0X _ _,?_⟩;exact⟨hT10.below HP9.out.bl (by omega),fun a h=>absurd h (by omega),fun a h=>absurd h (by omega)⟩
end
end Go.Proofs.Ytckjnbjiafgibaa
