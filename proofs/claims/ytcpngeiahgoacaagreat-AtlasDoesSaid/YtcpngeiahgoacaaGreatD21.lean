/- Parts of the proof, in one text: RkC, RkD, RkE, RvB, RvC, VaultI, VoC, VaultR, VaultW, VaultT, VaultU, RowsC, VoD, LoadH, VoE, VoF, RvD, RvE, RvF, RvG, RefSame, WorksW, RefOwn. -/
import Derived.Test.YtcpngeiahgoacaaGreatD20
import Derived.Test.YtcpngeiahgoacaaGreatD6
import Derived.Test.YtcpngeiahgoacaaGreatD19
import Derived.Test.YtcpngeiahgoacaaGreatD8
import Derived.Test.YtcpngeiahgoacaaGreatD16
import Derived.Test.YtcpngeiahgoacaaGreatD4
import Derived.Test.YtcpngeiahgoacaaGreatD7
import Derived.Test.YtcpngeiahgoacaaGreatD10
import Derived.Test.YtcpngeiahgoacaaGreatD5
namespace Go.Proofs.YtcpngeiahgoacaaGreat
set_option linter.unusedVariables false
set_option linter.unusedSimpArgs false
set_option maxRecDepth 100000
set_option maxHeartbeats 16000000
section
open Go.RowKit Go.Maps
attribute [local irreducible] wpList Q0i
theorem Q6Z {w:World} {B n s:Nat} {e:TypeId} {v:Value} {vs:List Value} (h:w.ownsRow B e s v n vs) {b:Nat} (hb:v.ownBlock=some b):∃ cur,Blk w b e cur:=by
 rcases h.2 with⟨rfl,_⟩ | ⟨g,cap,cur,rfl,hg,hh,_⟩
 ·cases hb
 ·have:b=g:=by simpa [Value.ownBlock] using hb.symm
  subst this;exact⟨cur,hh⟩
def Q4q (w:World) (r:Nat) (N:Nat->Prop) (A:Option Addr) (n:Nat) (ls:List (List UInt8)):Prop :=
 ∀ W,w.heap.size<=W.heap.size->(∀ b,b<w.heap.size->¬ RM r N b->W.heap[b]?=w.heap[b]?)->Q4w W W.heap.size A n ls
structure LoSt (w wr:World) (r k:Nat) (N:Nat->Prop) (ls:List (List UInt8)) (i:Nat) (ov:Value):Prop where
 row:wr.ownsRow w.heap.size 60 32 ov i (Q0q ((ls.take i).map Q1A))
 book:RBk wr r N (k+i)
 only:Only (RM r N) w wr
theorem LoSt.call {w wr:World} {r k i:Nat} {N:Nat->Prop} {ls:List (List UInt8)} {ov:Value} (h:LoSt w wr r k N ls i ov) (hN:∀ b,N b->b<w.heap.size) :
 RBk wr r (fun b=>N b\/ov.ownBlock=some b) (k+i)/\∀ b,N b\/ov.ownBlock=some b->b<wr.heap.size :=
 ⟨h.book.hold fun b hb=>hb.imp id fun e=>by
  obtain⟨cur,hc⟩:=Q6Z h.row e;exact .inr ⟨_,cur,hc,by decide,by decide⟩,fun b hb=>by
  rcases hb with hb | hb
  ·have:=hN b hb; have:=h.only.size; omega
  ·exact(Q0a h.row hb).2⟩
theorem LoSt.called {w wr w3:World} {r k i:Nat} {N:Nat->Prop} {ls:List (List UInt8)} {ov:Value} (h:LoSt w wr r k N ls i ov) (hr:r<w.heap.size) (hb:RBk w3 r (fun b=>N b\/ov.ownBlock=some b) (k+i+1)) (ho:Only (RM r (fun b=>N b\/ov.ownBlock=some b)) wr w3) :
 w3.ownsRow w.heap.size 60 32 ov i (Q0q ((ls.take i).map Q1A))/\RBk w3 r N (k+(i+1))/\Only (RM r N) w w3 :=
 ⟨Q0f h.row fun b hb=>by
  have:=Q0a h.row hb;exact ho.block b this.2 (by
   rintro (e | e)
   ·omega
   ·exact e (.inr hb)),hb.less (by omega) fun b=>.inl,h.only.trans (ho.mono fun b _=>RM.mono fun b=>.inl)⟩
theorem Qcg {w w3 w4 w6:World} {r k i:Nat} {N:Nat->Prop} {ls:List (List UInt8)} {ov v6:Value} {x:List UInt8} {D:Array Value} (hx:ls[i]?=some x) (hD:D.toList=(Q1A x).map vb) (hr:r<w.heap.size) (hb:RBk w4 r N (k+(i+1))) (ho:Only (RM r N) w w4) (hrow:w4.ownsRow w.heap.size 60 32 ov i (Q0q ((ls.take i).map Q1A)))
 (hown:w6.ownsRow w.heap.size 60 32 v6 (i+1) (Q0q ((ls.take i).map Q1A)++D.toList)) (hg:(w4.alloc (.cells D 60)).grownBy w6 ov.ownBlock) (hN:∀ b,N b->b<w.heap.size):LoSt w w6 r k N ls (i+1) v6:=by
 have hal:Below w4.heap.size w4 (w4.alloc (.cells D 60)):=(Below.refl _ _).alloc (Nat.le_refl _) _;have hfar:∀ b,b<w4.heap.size->ov.ownBlock≠some b->w6.heap[b]?=w4.heap[b]?:=fun b hb hne=>(hg.block b (by have:=hal.size; omega) (fun e=>hne e.symm)).trans (hal.block b hb)
 have hs6:=hg.size;have hs4:=hal.size;have hs:=ho.size;refine⟨?_,?_,?_⟩
 ·have hil:=(List.getElem?_eq_some_iff.1 hx).1;have he:ls[i]=x:=(List.getElem?_eq_some_iff.1 hx).2;have e:(ls.take (i+1)).map Q1A=(ls.take i).map Q1A++[Q1A x]:=by rw [List.take_succ_eq_append_getElem hil,List.map_append,he]; rfl
  rw [e,Q4m];have e2:Q0q [Q1A x]=D.toList:=by rw [hD]; simp [Q0q]
  rw [e2];exact hown
 ·have hb':RBk w4 r (fun b=>N b\/ov.ownBlock=some b) (k+(i+1)):=hb.hold fun b hb=>hb.imp id fun e=>by
   obtain⟨cur,hc⟩:=Q6Z hrow e;exact .inr ⟨_,cur,hc,by decide,by decide⟩
  refine(hb'.kept (w':=w6) (by omega) fun b hbl hm=>hfar b hbl fun e=>?_).less (Nat.le_refl _) fun b=>.inl
  rcases hm with hm | hm
  ·have:=Q0a hrow e; omega
  ·exact hm (.inr e)
 ·exact⟨hg.os.trans (hal.os.trans ho.os),hg.tape.trans (hal.tape.trans ho.tape),hg.output.trans (hal.output.trans ho.output),by omega,fun b hb hn=>(hfar b (by omega) (fun e=>by have:=Q0a hrow e; omega)).trans (ho.block b hb hn)⟩
structure ReSt (w wr:World) (r k:Nat) (N:Nat->Prop) (ls:List (List UInt8)) (s g c m:Nat) (us:List Value) (ov:Value):Prop where
 row:wr.ownsRow w.heap.size 189 1 ov (s+1) (us++[.slice (some ⟨g,0,none⟩) m c])
 len:us.length=s
 dig:Q25 wr g c (lv ls s)
 new:w.heap.size<=g
 m:m=(lv ls s).length
 book:RBk wr r N (k+16+4*s)
 only:Only (RM r N) w wr
structure UpSt (w wo wr:World) (r k:Nat) (N:Nat->Prop) (ds:List (List UInt8)) (g c j:Nat) (ov nv:Value):Prop where
 row:wr.ownsRow wo.heap.size 60 32 nv j (Q0q (Q1H ds j))
 book:RBk wr r (fun b=>N b\/b=g\/ov.ownBlock=some b) (k+j)
 only:Only (RM r (fun b=>N b\/b=g\/ov.ownBlock=some b)) wo wr
theorem UpSt.call {w wo wr:World} {r k g c j:Nat} {N:Nat->Prop} {ds:List (List UInt8)} {ov nv:Value} (h:UpSt w wo wr r k N ds g c j ov nv) (hN:∀ b,(N b\/b=g\/ov.ownBlock=some b)->b<wo.heap.size) :
 RBk wr r (fun b=>(N b\/b=g\/ov.ownBlock=some b)\/nv.ownBlock=some b) (k+j)/\∀ b,(N b\/b=g\/ov.ownBlock=some b)\/nv.ownBlock=some b->b<wr.heap.size :=
 ⟨h.book.hold fun b hb=>hb.imp id fun e=>by
  obtain⟨cur,hc⟩:=Q6Z h.row e;exact .inr ⟨_,cur,hc,by decide,by decide⟩,fun b hb=>by
  rcases hb with hb | hb
  ·have:=hN b hb; have:=h.only.size; omega
  ·exact(Q0a h.row hb).2⟩
theorem UpSt.called {w wo wr w3:World} {r k g c j:Nat} {N:Nat->Prop} {ds:List (List UInt8)} {ov nv:Value} (h:UpSt w wo wr r k N ds g c j ov nv) (hr:r<wo.heap.size) (hb:RBk w3 r (fun b=>(N b\/b=g\/ov.ownBlock=some b)\/nv.ownBlock=some b) (k+j+1)) (ho:Only (RM r (fun b=>(N b\/b=g\/ov.ownBlock=some b)\/nv.ownBlock=some b)) wr w3) :
 w3.ownsRow wo.heap.size 60 32 nv j (Q0q (Q1H ds j))/\RBk w3 r (fun b=>N b\/b=g\/ov.ownBlock=some b) (k+(j+1))/\Only (RM r (fun b=>N b\/b=g\/ov.ownBlock=some b)) wo w3 :=
 ⟨Q0f h.row fun b hb=>by
  have:=Q0a h.row hb;exact ho.block b this.2 (by
   rintro (e | e)
   ·omega
   ·exact e (.inr hb)),hb.less (by omega) fun b=>.inl,h.only.trans (ho.mono fun b _=>RM.mono fun b=>.inl)⟩
theorem Q9c {w wo w3 w4 w6:World} {r k g c j:Nat} {N:Nat->Prop} {ds:List (List UInt8)} {ov nv v6:Value} {D:Array Value} (hD:D.toList=(upD (grp ds j)).map vb) (hr:r<wo.heap.size) (hb:RBk w4 r (fun b=>N b\/b=g\/ov.ownBlock=some b) (k+(j+1))) (ho:Only (RM r (fun b=>N b\/b=g\/ov.ownBlock=some b)) wo w4) (hrow:w4.ownsRow wo.heap.size 60 32 nv j (Q0q (Q1H ds j)))
 (hown:w6.ownsRow wo.heap.size 60 32 v6 (j+1) (Q0q (Q1H ds j)++D.toList)) (hg:(w4.alloc (.cells D 60)).grownBy w6 nv.ownBlock):UpSt w wo w6 r k N ds g c (j+1) ov v6:=by
 have hal:Below w4.heap.size w4 (w4.alloc (.cells D 60)):=(Below.refl _ _).alloc (Nat.le_refl _) _;have hfar:∀ b,b<w4.heap.size->nv.ownBlock≠some b->w6.heap[b]?=w4.heap[b]?:=fun b hb hne=>(hg.block b (by have:=hal.size; omega) (fun e=>hne e.symm)).trans (hal.block b hb)
 have hs6:=hg.size;have hs4:=hal.size;have hs:=ho.size;refine⟨?_,?_,?_⟩
 ·rw [Q5k,Q4m];have e2:Q0q [upD (grp ds j)]=D.toList:=by rw [hD]; simp [Q0q]
  rw [e2];exact hown
 ·have hb':RBk w4 r (fun b=>(N b\/b=g\/ov.ownBlock=some b)\/nv.ownBlock=some b) (k+(j+1)):=hb.hold fun b hb=>hb.imp id fun e=>by
   obtain⟨cur,hc⟩:=Q6Z hrow e;exact .inr ⟨_,cur,hc,by decide,by decide⟩
  refine(hb'.kept (w':=w6) (by omega) fun b hbl hm=>hfar b hbl fun e=>?_).less (Nat.le_refl _) fun b=>.inl
  rcases hm with hm | hm
  ·have:=Q0a hrow e; omega
  ·exact hm (.inr e)
 ·exact⟨hg.os.trans (hal.os.trans ho.os),hg.tape.trans (hal.tape.trans ho.tape),hg.output.trans (hal.output.trans ho.output),by omega,fun b hb hn=>(hfar b (by omega) (fun e=>by have:=Q0a hrow e; omega)).trans (ho.block b hb hn)⟩
end
section
open Go.RowKit Go.Maps
attribute [local irreducible] wpList Q0i
theorem ReSt.start {w wr:World} {r k n:Nat} {N:Nat->Prop} {ls:List (List UInt8)} {ov:Value} (h:LoSt w wr r k N ls n ov) (hn:ls.length=n) (h5:5<=n) (h16:n<=16) :
 ∃ g c,ov=.slice (some ⟨g,0,none⟩) n c/\ReSt w (wr.alloc (.cells #[.slice (some ⟨g,0,none⟩) n c] 189)) r k N ls 0 g c n [] (.slice (some ⟨wr.heap.size,0,none⟩) 1 1):=by
 have hrow:=h.row;have e:(ls.take n).map Q1A=lv ls 0:=by rw [List.take_of_length_le (by omega)]; rfl
 rw [e] at hrow;obtain⟨hl,g,c,rfl,hg,hd⟩:=Q25.of_own hrow (Q2C ls 0) (by omega);have hal:Below wr.heap.size wr (wr.alloc (.cells #[.slice (some ⟨g,0,none⟩) n c] 189)):=Q07 _ _;have hs:=h.only.size;refine⟨g,c,rfl,⟨?_,rfl,hd.keep (hal.block _ hd.lt),hg,hl.symm,(h.book.below hal).less (by omega) fun b hb=>hb,h.only.trans (Only.of_below hal)⟩⟩;have hw0:=World.ownsRow_lit (base:=w.heap.size) (e:=189) (size:=1) wr #[.slice (some ⟨g,0,none⟩) n c] 1 hs (by unfold maxLen; omega) rfl;exact hw0
theorem ReSt.inner {w wo:World} {r k s g c m:Nat} {N:Nat->Prop} {ls:List (List UInt8)} {us:List Value} {ov:Value} (h:ReSt w wo r k N ls s g c m us ov):UpSt w wo wo r (k+16+4*s) N (lv ls s) g c 0 ov (.slice none 0 0) :=
 ⟨World.ownsRow_nil _ _ _ _,h.book.hold fun b hb=>by
  rcases hb with hb | rfl | hb
  ·exact .inl hb
  ·obtain⟨cur,h1,_⟩:=h.dig.row;exact .inr (.inr ⟨_,cur,h1,by decide,by decide⟩)
  ·obtain⟨cur,hc⟩:=Q6Z h.row hb;exact .inr (.inr ⟨_,cur,hc,by decide,by decide⟩),Only.refl _ _⟩
theorem ReSt.low {w wo:World} {r k s g c m:Nat} {N:Nat->Prop} {ls:List (List UInt8)} {us:List Value} {ov:Value} (h:ReSt w wo r k N ls s g c m us ov) (hN:∀ b,N b->b<w.heap.size):∀ b,(N b\/b=g\/ov.ownBlock=some b)->b<wo.heap.size:=fun b hb=>by
 have hs:=h.only.size;rcases hb with hb | rfl | hb
 ·have:=hN b hb; omega
 ·exact h.dig.lt
 ·exact(Q0a h.row hb).2
theorem UpSt.lowRow {w wo wr:World} {r k s g c m j:Nat} {N:Nat->Prop} {ls:List (List UInt8)} {us:List Value} {ov nv:Value} (h0:ReSt w wo r k N ls s g c m us ov) (h:UpSt w wo wr r (k+16+4*s) N (lv ls s) g c j ov nv) (hr:r<w.heap.size):Q25 wr g c (lv ls s)/\wr.ownsRow w.heap.size 189 1 ov (s+1) (us++[.slice (some ⟨g,0,none⟩) m c]) :=
 ⟨h0.dig.keep (h.only.block g h0.dig.lt (by
  have:=h0.new;rintro (e | e)
  ·omega
  ·exact e (.inr (.inl rfl)))),Q0f h0.row fun b hb=>h.only.block b (Q0a h0.row hb).2 (by
  have:=Q0a h0.row hb;rintro (e | e)
  ·omega
  ·exact e (.inr (.inr hb)))⟩
theorem UpSt.done {w wo w3:World} {r k s g c m:Nat} {N:Nat->Prop} {ls:List (List UInt8)} {us:List Value} {ov nv:Value} (h0:ReSt w wo r k N ls s g c m us ov) (h:UpSt w wo w3 r (k+16+4*s) N (lv ls s) g c (grps m) ov nv) (h1:1<m):∃ g3 c3,nv=.slice (some ⟨g3,0,none⟩) (grps m) c3/\Q25 w3 g3 c3 (lv ls (s+1))/\wo.heap.size<=g3/\(lv ls (s+1)).length=grps m:=by
 have hrow:=h.row;have e:Q1H (lv ls s) (grps m)=lv ls (s+1):=by rw [h0.m]; rfl
 rw [e] at hrow;obtain⟨hl,g3,c3,rfl,hg,hd⟩:=Q25.of_own hrow (Q2C ls (s+1)) (by unfold grps; omega);exact⟨g3,c3,rfl,hd,hg,hl⟩
theorem Qcu {w wo w3 w6:World} {r k s g c m g3 c3 m2:Nat} {N:Nat->Prop} {ls:List (List UInt8)} {us:List Value} {ov v6:Value} (h0:ReSt w wo r k N ls s g c m us ov) (h:UpSt w wo w3 r (k+16+4*s) N (lv ls s) g c (grps m) ov (.slice (some ⟨g3,0,none⟩) m2 c3)) (hr:r<w.heap.size) (hm:grps m<=4) (hm2:m2=(lv ls (s+1)).length) (hd:Q25 w3 g3 c3 (lv ls (s+1))) (hg3:wo.heap.size<=g3)
 (hown:w6.ownsRow w.heap.size 189 1 v6 (s+1+1) (us++[.slice (some ⟨g,0,none⟩) m c]++[.slice (some ⟨g3,0,none⟩) m2 c3])) (hg:(w3.alloc (.cells #[.slice (some ⟨g3,0,none⟩) m2 c3] 189)).grownBy w6 ov.ownBlock):ReSt w w6 r k N ls (s+1) g3 c3 m2 (us++[.slice (some ⟨g,0,none⟩) m c]) v6:=by
 obtain⟨-,hrow⟩:=h.lowRow h0 hr;have hal:Below w3.heap.size w3 (w3.alloc (.cells #[.slice (some ⟨g3,0,none⟩) m2 c3] 189)):=Q07 _ _;have hfar:∀ b,b<w3.heap.size->ov.ownBlock≠some b->w6.heap[b]?=w3.heap[b]?:=fun b hb hne=>(hg.block b (by have:=hal.size; omega) (fun e=>hne e.symm)).trans (hal.block b hb)
 have hs6:=hg.size;have hs4:=hal.size;have hs:=h.only.size;have hs0:=h0.only.size;have ho:Only (RM r N) w w3:=h0.only.trans (h.only.mono fun b _=>RM.mono fun b=>.inl);obtain⟨cur,hcur,-⟩:=hd.row;refine⟨hown,by rw [List.length_append,h0.len]; rfl,hd.keep (hfar g3 hd.lt (Q09 hrow hcur (by decide))),by omega,hm2,?_,?_⟩
 ·refine(h.book.kept (w':=w6) (by omega) fun b hbl hb=>hfar b hbl fun e=>?_).less (by omega) fun b=>.inl
  rcases hb with hb | hb
  ·have:=Q0a hrow e; omega
  ·exact hb (.inr (.inr e))
 ·exact⟨hg.os.trans (hal.os.trans ho.os),hg.tape.trans (hal.tape.trans ho.tape),hg.output.trans (hal.output.trans ho.output),by omega,fun b hb hn=>(hfar b (by omega) (fun e=>by have:=Q0a hrow e; omega)).trans (ho.block b hb hn)⟩
theorem Q8K (w:World) (r k:Nat) (N:Nat->Prop) (A:Option Addr) (n c:Nat) (ls:List (List UInt8)) (h:RBk w r N k) (hk:k<=800000) (hL:Q4q w r N A n ls) (hxl:ls.length=n) (hN:∀ b,N b->b<w.heap.size) (hb:∀ x,x∈ls->x.length<65536) (h5:5<=n) (h16:n<=16) :
 Calls Tryz.prog 154 #[.pointer (some ⟨r,0,none⟩),.slice A n c] w fun e w'=>∃ v g c2 us,e=.returned v/\ReSt w w' r k N ls 2 g c2 1 us v:=by
 have hrl:=h.lt;have HBK:=Lib.hid h;have HL:=Lib.hid hL;have HXL:=Lib.hid hxl;have HNN:=Lib.hid hN;have HLE:=Lib.hid hb;have HZ:=Lib.hid Q1T;have HZS:=Lib.hid (show inkZ.size=32 by simp [inkZ,bRow]);obtain⟨i0,hi0,hz0,hz1,hz2⟩:=info_parts Q6F;obtain⟨i1,hi1,hy0,hy1,hy2⟩:=info_parts QaP;clear h hL hxl hN hb;go_enter Tryz.func154,Tryz.ntmps154
 go_wp2_with fail
 go_loopw [5,6] (fun ov iv wr=>∃ i:Nat,i<=n/\iv=.int .i64 i/\LoSt w wr r k N ls i ov) (fun _ iv _=>n - (intOf iv).toNat)
 case atStart=>exact⟨0,by omega,rfl,⟨World.ownsRow_nil _ _ _ _,HBK.out,Only.refl _ _⟩⟩
 case round =>
  obtain⟨i,hi,rfl,hst⟩:=hrel;have HST:=Lib.hid hst;have hsz:=hst.only.size;by_cases hin:i<n
  ·have hinI:(i:Int)<(n:Int):=by omega
   have hil:i<ls.length:=by have:=HXL.out; omega
   obtain⟨ad,rfl,hadb,hcell⟩:=(HL.out wr hst.only.size hst.only.block).2 (by omega);have hx:=List.getElem?_eq_getElem hil;obtain⟨Ak,mk,ck,hq,hrd⟩:=hcell i _ hx;have hmk:mk<65536:=by have:=HLE.out _ (List.getElem_mem hil); have:=hrd.1; simp at this; omega
   generalize ls[i]=x at hx hrd;obtain⟨hc1,hc2⟩:=hst.call HNN.out;have HLF:=Lib.hid (QaI wr r (k+i) _ Ak mk ck x hc1 (by omega) hrd hc2 hmk);have hds:=Q0E (Q2j x);have hdo:=Q0K (Q1A x);have hdv:(bRow (Q1A x)).toList=(Q1A x).map vb:=by simp [bRow]
   obtain⟨D,hD⟩:∃ D,D=bRow (Q1A x):=⟨_,rfl⟩;rw [<- hD] at HLF hds hdo hdv;have HDS:=Lib.hid hds;have HDO:=Lib.hid hdo;have HDV:=Lib.hid hdv;have HX:=Lib.hid hx;clear hst hcell hx hrd hc1 hc2 hds hdo hdv hD;go_wp2_with fail
   refine HLF.out.mono ?_;rintro _ w3 ⟨rfl,hb3,ho3⟩;obtain⟨hr3,hk3,hn3⟩:=HST.out.called hrl hb3 ho3;have HR3:=Lib.hid hr3;have HB3:=Lib.hid hk3;have HO3:=Lib.hid hn3;have hs3:=hn3.size;clear hb3 ho3 hr3 hk3 hn3 HLF HST hq;go_upto_region 6 with(refine Q01 (o:=⟨none,_,_,_,_,_⟩) rfl 60 (.tmp 7) (.tmp 27) rfl w3.heap.size 0 D rfl rfl 60 inkZ (by rw [HZ.out]; exact Blk.newAt rfl) (by rw [HDS.out]; rfl) (by rw [HDS.out,HZS.out]; omega) HDO.out ?_; intro w4 hT4 hD4; rw [Q08 _ _ (by rw [HDS.out,HZS.out])] at hD4)
   have hb4:Below w3.heap.size w3 w4:=hT4.below ((Below.refl _ _).alloc (Nat.le_refl _) _) (Nat.le_refl _);have HB4:=Lib.hid (HB3.out.below hb4);have HO4:=Lib.hid (HO3.out.trans (Only.of_below hb4));have HW4:=Lib.hid (Q0f HR3.out (fun b hb=>hb4.block b (Q0a HR3.out hb).2));have hs4:=hb4.size;have HD4:=Lib.hid hD4;obtain⟨g4,hg4⟩:∃ g,g=w3.heap.size:=⟨_,rfl⟩;rw [<- hg4] at HD4 ⊢;have hSZ:=HDS.out;clear hT4 hD4 hb4 hg4 HB3 HO3 HR3;go_wp2_with (first
    | (refine Q03 (o:=⟨some 30,_,_,_,_,_⟩) rfl 60 (.tmp 7) rfl g4 0 32 rfl 60 _ D _ HD4.out Tryz.underlying60 rfl rfl HDS.out (fun _ _=>by rw [Nat.zero_add]) ?_)
    | (at_builtin; (rw [Q4V _ D 32 rfl HDS.out]; refine Q06 _ rfl (.tmp 29) (.tmp 31) 189 rfl w.heap.size 60 i0 _ 32 32 Tryz.underlying189 hi0 hz0 hz1 hz2 HZS.out (by omega) _ i (Q0q ((ls.take i).map Q1A)) rfl ?row (w4.heap.size+1) (some ⟨w4.heap.size,0,none⟩) 1 1 D.toList rfl ?rd ?c1 ?c2 ?c3 ?c4 ?_)))
   case row=>exact Q0f HW4.out (fun b hb=>Below.heap_alloc _ _ b (Q0a HW4.out hb).2)
   case rd=>exact Q5e _ _ _ _ HDS.out
   case c1=>exact fun u hu=>List.all_eq_true.1 (by have:=HDO.out; rw [<- Array.all_toList] at this; exact this) u hu
   case c2=>unfold maxLen; omega
   case c3=>omega
   case c4=>have:=HO4.out.size; simp; omega
   intro v6 w6 hown6 hg6 hor6;have HN6:=Lib.hid (Qcg (w3:=w4) HX.out HDV.out hrl HB4.out HO4.out HW4.out (by rw [List.map_take]; exact hown6) hg6 HNN.out);clear hown6 hg6 hor6 HW4 HB4 HO4;go_wp2_with fail
   go_roundw
   case rel=>exact⟨i+1,by omega,by go_num,HN6.out⟩
   case measure=>simp [intOf]; omega
  ·obtain rfl:i=n:=by omega
   have hinI:¬ (i:Int)<(i:Int):=by omega
   obtain⟨g0,c0,rfl,hre⟩:=ReSt.start hst HXL.out h5 h16;have HRE:=Lib.hid hre;clear hst hre HST;go_wp2_with fail
   go_loopw [5,9] (fun lw ov wr=>∃ s g c m us,s<=2/\lw=.slice (some ⟨g,0,none⟩) m c/\ReSt w wr r k N ls s g c m us ov) (fun lw _ _=>(match lw with | .slice _ n _=>n | _=>0))
   case atStart=>exact⟨0,_,_,_,_,by omega,rfl,HRE.out⟩
   case round =>
    obtain⟨s,g,c,m,us,hs,rfl,hre⟩:=hrel;obtain⟨wo,hwo⟩:∃ x,x=wr:=⟨_,rfl⟩;rw [<- hwo] at hre ⊢;clear hwo;obtain⟨hc1,hc2,hc3,hc4⟩:=Q8y (ls:=ls) (by have:=HXL.out; omega) (by have:=HXL.out; omega) s hs;rw [<- hre.m] at hc1 hc2 hc3 hc4;have HR:=Lib.hid hre;have HLOW:=Lib.hid (hre.low HNN.out);have hso:=hre.only.size;have hcm:m<=c:=by have:=hre.dig.cap; rw [<- hre.m] at this; exact this.1
    by_cases h1:1<m
    ·have hs2:=hc1.1 h1;have h1i:(1:Int)<(m:Int):=by omega
     have HU:=Lib.hid hre.inner;clear hre;go_wp2_with fail
     go_loopw [10,11] (fun nv jv wr=>∃ j:Nat,j<=grps m/\jv=.int .i64 (4*(j:Int))/\UpSt w wo wr r (k+16+4*s) N (lv ls s) g c j _ nv) (fun _ jv _=>m+8 - (intOf jv).toNat)
     case atStart=>exact⟨0,by omega,by simp,HU.out⟩
     case round =>
      obtain⟨j,hj,rfl,hup⟩:=hrel;obtain⟨hdg,hov⟩:=hup.lowRow HR.out hrl;have hsj:=hup.only.size;have HUP:=Lib.hid hup;by_cases hjn:j<grps m
      ·have h4n:4*j<m:=Q58.1 hjn;have h4i:4*(j:Int)<(m:Int):=by omega
       have h04:(0:Int)<=4*(j:Int):=by omega
       have hgl:(lv ls s).length=m:=HR.out.m.symm;have hrs:Q0d wr wr.heap.size 32 (if c=4*j then some ⟨g,0,none⟩ else(some ⟨g,0,none⟩:Option Addr).map (·.add (4*j*32))) (min (4*j+4) m - 4*j) (Q0q (grp (lv ls s) j)):=by
        have h1:=hdg.reads (Q2C ls s);rw [hgl] at h1;have h2:=h1.sub (l:=4*j) (k:=min (4*j+4) m) (cap:=c) (by omega) (by omega) hcm;have h3:=Q6j (Q2C ls s) j (by omega);rw [hgl] at h3;rw [h3] at h2;exact h2
       obtain⟨hc1,hc2⟩:=hup.call HLOW.out;have hcall:=Qcs wr r (k+16+4*s+j) _ _ _ (c - 4*j) (grp (lv ls s) j) hc1 (by omega) hrs (Q89 (Q2C ls s) j) hc2 (by omega) (by omega);have hds:=Q0E (Q4P (grp (lv ls s) j));have hdo:=Q0K (upD (grp (lv ls s) j));have hdv:(bRow (upD (grp (lv ls s) j))).toList=(upD (grp (lv ls s) j)).map vb:=by simp [bRow]
       obtain⟨D,hD⟩:∃ D,D=bRow (upD (grp (lv ls s) j)):=⟨_,rfl⟩;rw [<- hD] at hcall hds hdo hdv;have HDS:=Lib.hid hds;have HDO:=Lib.hid hdo;have HDV:=Lib.hid hdv;clear hup hdg hov hrs hc1 hc2 hds hdo hdv hD;by_cases h4:(m:Int)<4*(j:Int)+4
       ·have hsl:=fun(W:World)=>Q2I (P:=Tryz.prog) (t:=189) Tryz.underlying189 Q3a (some ⟨g,0,none⟩) m c (4*j) m (4*(j:Int)) (m:Int) (by omega) rfl (by omega) (by omega) W
        rw [show min (4*j+4) m=m by omega] at hcall;generalize m - 4*j=K at hsl hcall;generalize c - 4*j=C2 at hsl hcall;generalize (if c=4*j then(some ⟨g,0,none⟩:Option Addr) else(some ⟨g,0,none⟩:Option Addr).map (·.add (4*j*32)))=A2 at hsl hcall;have HG:=Lib.hid hcall;clear hcall;go_wp2_with fail
        refine HG.out.mono ?_;rintro _ w3 ⟨rfl,hb3,ho3⟩;obtain⟨hr3,hk3,hn3⟩:=HUP.out.called (by omega) hb3 ho3;have HR3:=Lib.hid hr3;have HB3:=Lib.hid hk3;have HO3:=Lib.hid hn3;have hs3:=hn3.size;clear hb3 ho3 hr3 hk3 hn3 HG HUP hsl;go_upto_region 14 with(refine Q01 (o:=⟨none,_,_,_,_,_⟩) rfl 60 (.tmp 12) (.tmp 55) rfl w3.heap.size 0 D rfl rfl 60 inkZ (by rw [HZ.out]; exact Blk.newAt rfl) (by rw [HDS.out]; rfl) (by rw [HDS.out,HZS.out]; omega) HDO.out ?_; intro w4 hT4 hD4; rw [Q08 _ _ (by rw [HDS.out,HZS.out])] at hD4)
        have hb4:Below w3.heap.size w3 w4:=hT4.below ((Below.refl _ _).alloc (Nat.le_refl _) _) (Nat.le_refl _);have HB4:=Lib.hid (HB3.out.below hb4);have HO4:=Lib.hid (HO3.out.trans (Only.of_below hb4));have HW4:=Lib.hid (Q0f HR3.out (fun b hb=>hb4.block b (Q0a HR3.out hb).2));have hs4:=hb4.size;have HD4:=Lib.hid hD4;obtain⟨g4,hg4⟩:∃ g,g=w3.heap.size:=⟨_,rfl⟩;rw [<- hg4] at HD4 ⊢;have hSZ:=HDS.out;clear hT4 hD4 hb4 hg4 HB3 HO3 HR3;go_wp2_with (first
         | (refine Q03 (o:=⟨some 58,_,_,_,_,_⟩) rfl 60 (.tmp 12) rfl g4 0 32 rfl 60 _ D _ HD4.out Tryz.underlying60 rfl rfl HDS.out (fun _ _=>by rw [Nat.zero_add]) ?_)
         | (at_builtin; (rw [Q4V _ D 32 rfl HDS.out]; refine Q06 _ rfl (.tmp 57) (.tmp 59) 189 rfl wo.heap.size 60 i0 _ 32 32 Tryz.underlying189 hi0 hz0 hz1 hz2 HZS.out (by omega) _ j (Q0q (Q1H (lv ls s) j)) rfl ?row (w4.heap.size+1) (some ⟨w4.heap.size,0,none⟩) 1 1 D.toList rfl ?rd ?c1 ?c2 ?c3 ?c4 ?_)))
        case row=>exact Q0f HW4.out (fun b hb=>Below.heap_alloc _ _ b (Q0a HW4.out hb).2)
        case rd=>exact Q5e _ _ _ _ HDS.out
        case c1=>exact fun u hu=>List.all_eq_true.1 (by have:=HDO.out; rw [<- Array.all_toList] at this; exact this) u hu
        case c2=>unfold maxLen; omega
        case c3=>omega
        case c4=>have:=HO4.out.size; simp; omega
        intro v6 w6 hown6 hg6 hor6;have HN6:=Lib.hid (Q9c (w:=w) (c:=c) (w3:=w4) HDV.out (by omega) HB4.out HO4.out HW4.out hown6 hg6);clear hown6 hg6 hor6 HW4 HB4 HO4;go_wp2_with fail
        go_roundw
        case rel=>exact⟨j+1,by omega,by go_num,HN6.out⟩
        case measure=>simp [intOf]; omega
       ·have hsl:=fun(W:World)=>Q2I (P:=Tryz.prog) (t:=189) Tryz.underlying189 Q3a (some ⟨g,0,none⟩) m c (4*j) (4*j+4) (4*(j:Int)) (4*(j:Int)+4) (by omega) (by omega) (by omega) (by omega) W
        rw [show min (4*j+4) m=4*j+4 by omega] at hcall;generalize 4*j+4 - 4*j=K at hsl hcall;generalize c - 4*j=C2 at hsl hcall;generalize (if c=4*j then(some ⟨g,0,none⟩:Option Addr) else(some ⟨g,0,none⟩:Option Addr).map (·.add (4*j*32)))=A2 at hsl hcall;have HG:=Lib.hid hcall;clear hcall;go_wp2_with fail
        refine HG.out.mono ?_;rintro _ w3 ⟨rfl,hb3,ho3⟩;obtain⟨hr3,hk3,hn3⟩:=HUP.out.called (by omega) hb3 ho3;have HR3:=Lib.hid hr3;have HB3:=Lib.hid hk3;have HO3:=Lib.hid hn3;have hs3:=hn3.size;clear hb3 ho3 hr3 hk3 hn3 HG HUP hsl;go_upto_region 14 with(refine Q01 (o:=⟨none,_,_,_,_,_⟩) rfl 60 (.tmp 12) (.tmp 55) rfl w3.heap.size 0 D rfl rfl 60 inkZ (by rw [HZ.out]; exact Blk.newAt rfl) (by rw [HDS.out]; rfl) (by rw [HDS.out,HZS.out]; omega) HDO.out ?_; intro w4 hT4 hD4; rw [Q08 _ _ (by rw [HDS.out,HZS.out])] at hD4)
        have hb4:Below w3.heap.size w3 w4:=hT4.below ((Below.refl _ _).alloc (Nat.le_refl _) _) (Nat.le_refl _);have HB4:=Lib.hid (HB3.out.below hb4);have HO4:=Lib.hid (HO3.out.trans (Only.of_below hb4));have HW4:=Lib.hid (Q0f HR3.out (fun b hb=>hb4.block b (Q0a HR3.out hb).2));have hs4:=hb4.size;have HD4:=Lib.hid hD4;obtain⟨g4,hg4⟩:∃ g,g=w3.heap.size:=⟨_,rfl⟩;rw [<- hg4] at HD4 ⊢;have hSZ:=HDS.out;clear hT4 hD4 hb4 hg4 HB3 HO3 HR3;go_wp2_with (first
         | (refine Q03 (o:=⟨some 58,_,_,_,_,_⟩) rfl 60 (.tmp 12) rfl g4 0 32 rfl 60 _ D _ HD4.out Tryz.underlying60 rfl rfl HDS.out (fun _ _=>by rw [Nat.zero_add]) ?_)
         | (at_builtin; (rw [Q4V _ D 32 rfl HDS.out]; refine Q06 _ rfl (.tmp 57) (.tmp 59) 189 rfl wo.heap.size 60 i0 _ 32 32 Tryz.underlying189 hi0 hz0 hz1 hz2 HZS.out (by omega) _ j (Q0q (Q1H (lv ls s) j)) rfl ?row (w4.heap.size+1) (some ⟨w4.heap.size,0,none⟩) 1 1 D.toList rfl ?rd ?c1 ?c2 ?c3 ?c4 ?_)))
        case row=>exact Q0f HW4.out (fun b hb=>Below.heap_alloc _ _ b (Q0a HW4.out hb).2)
        case rd=>exact Q5e _ _ _ _ HDS.out
        case c1=>exact fun u hu=>List.all_eq_true.1 (by have:=HDO.out; rw [<- Array.all_toList] at this; exact this) u hu
        case c2=>unfold maxLen; omega
        case c3=>omega
        case c4=>have:=HO4.out.size; simp; omega
        intro v6 w6 hown6 hg6 hor6;have HN6:=Lib.hid (Q9c (w:=w) (c:=c) (w3:=w4) HDV.out (by omega) HB4.out HO4.out HW4.out hown6 hg6);clear hown6 hg6 hor6 HW4 HB4 HO4;go_wp2_with fail
        go_roundw
        case rel=>exact⟨j+1,by omega,by go_num,HN6.out⟩
        case measure=>simp [intOf]; omega
      ·have h4i:¬ 4*(j:Int)<(m:Int):=by have:=mt Q58.2 hjn; omega
       obtain rfl:j=grps m:=by omega
       obtain⟨g3,c3,rfl,hd3,hg3,hl3⟩:=hup.done HR.out h1;obtain⟨m2,hm2⟩:∃ m2,m2=grps m:=⟨_,rfl⟩;have hm2':m2<=4/\m2<m:=by rw [hm2]; refine⟨hc4,?_⟩; unfold grps; omega
       have h4j:¬ 4*(m2:Int)<(m:Int):=by rw [hm2]; exact h4i
       rw [<- hm2];have HM2:=Lib.hid hm2;have HD3:=Lib.hid hd3;have HOV:=Lib.hid hov;have HW3:=Lib.hid (Q1m wr #[.slice (some ⟨g3,0,none⟩) m2 c3] 189);clear hup hdg hov hd3 hm2;go_wp2_with (at_builtin; go_must (refine Q06 _ rfl (.tmp 61) (.tmp 63) 201 rfl w.heap.size 189 i1 _ 1 24 Tryz.underlying201 hi1 hy0 hy1 hy2 rfl (by omega) _ (s+1) (us++[.slice (some ⟨g,0,none⟩) m c]) rfl ?row (wr.heap.size+1) (some ⟨wr.heap.size,0,none⟩) 1 1 [.slice (some ⟨g3,0,none⟩) m2 c3] rfl ?rd ?c1 ?c2 ?c3 ?c4 ?_))
       case row=>exact Q0f HOV.out (fun b hb=>Below.heap_alloc _ _ b (Q0a HOV.out hb).2)
       case rd=>exact HW3.out
       case c1=>first | rfl | (intro u hu; rw [List.mem_singleton] at hu; subst hu; rfl)
       case c2=>unfold maxLen; omega
       case c3=>omega
       case c4=>first | omega | (simp; omega)
       intro v6 w6 hown6 hg6 hor6;have hUP:=HUP.out;have HN6:=Lib.hid (Qcu HR.out (by rw [<- HM2.out] at hUP; rw [<- HM2.out]; exact hUP) hrl hc4 (by rw [hl3,HM2.out]) HD3.out hg3 (by rw [List.append_assoc]; exact hown6) hg6);clear hown6 hg6 hor6 hUP HUP HD3 HOV;go_wp2_with fail
       go_roundw
       case rel=>exact⟨s+1,_,_,m2,_,by omega,rfl,HN6.out⟩
       case measure=>show m2<m; omega
    ·have hs2:s=2:=by have:=mt hc1.2 h1; omega
     subst hs2;have h1i:¬ (1:Int)<(m:Int):=by omega
     obtain rfl:m=1:=by omega
     clear hre;go_wp2_with fail
     go_ret
     exact⟨_,rfl,g,c,us,HR.out⟩
end
section
open Go.RowKit Go.Maps
attribute [local irreducible] wpList Q0i
theorem Q4q.later {w w1:World} {r n:Nat} {N N':Nat->Prop} {A:Option Addr} {ls:List (List UInt8)} (h:Q4q w r N A n ls) (hb:Below w.heap.size w w1) (hN:∀ b,N b->N' b):Q4q w1 r N' A n ls:=fun W hs hk =>
 h W (by have:=hb.size; omega) fun b hbl hm=>(hk b (by have:=hb.size; omega) fun hm'=>hm (hm'.mono hN)).trans (hb.block b hbl)
theorem ReSt.last {w w':World} {r k g c:Nat} {N:Nat->Prop} {ls:List (List UInt8)} {us:List Value} {v:Value} (h:ReSt w w' r k N ls 2 g c 1 us v):∃ gv cv,v=.slice (some ⟨gv,0,none⟩) 3 cv/\w'.cell? ⟨gv,2,none⟩=some (.slice (some ⟨g,0,none⟩) 1 c):=by
 rcases h.row.2 with⟨_,h1⟩ | ⟨gv,cap,cur,rfl,h2,h3,h4,h5,h6,h7⟩
 ·omega
 ·refine⟨gv,cap,rfl,?_⟩;rw [(show Blk w' gv 189 cur from h3).cell,<- Array.getElem?_toList];have e:(cur.toList.take 3)[2]?=some (.slice (some ⟨g,0,none⟩) 1 c):=by
   have h7':cur.toList.take 3=us++[.slice (some ⟨g,0,none⟩) 1 c]:=h7;rw [h7',List.getElem?_append_right (by rw [h.len]; exact Nat.le_refl _),h.len];rfl
  rw [List.getElem?_take] at e;split at e
  ·exact e
  ·cases e
theorem Qah (w:World) (r k:Nat) (N:Nat->Prop) (A:Option Addr) (n c:Nat) (ls:List (List UInt8)) (h:RBk w r N k) (hk:k<=800000) (hL:Q4q w r N A n ls) (hxl:ls.length=n) (hN:∀ b,N b->b<w.heap.size) (hb:∀ x,x∈ls->x.length<65536) (h5:5<=n) (h16:n<=16) :
 Calls Tryz.prog 124 #[.pointer (some ⟨r,0,none⟩),.slice A n c] w fun e w'=>e=.returned (.tuple #[.agg (bRow (Q2o ls)),.int .i64 0])/\RBk w' r N (k+24)/\Only (RM r N) w w':=by
 have hrl:=h.lt;have hX:=Q07 w (.cells inkZ 60);have hk0:Blk (w.alloc (.cells inkZ 60)) w.heap.size 60 inkZ:=Blk.newAt rfl;have HX:=Lib.hid hX;have HK:=Lib.hid hk0;have HB0:=Lib.hid (h.later hX);have HL:=Lib.hid (hL.later hX (N':=fun b=>N b\/(w.heap.size<=b/\b<(w.alloc (.cells inkZ 60)).heap.size)) fun b=>.inl);have HXL:=Lib.hid hxl;have HNN:=Lib.hid hN;have HLE:=Lib.hid hb;have HZ:=Lib.hid Q1T;have HZS:=Lib.hid (show inkZ.size=32 by simp [inkZ,bRow]);obtain⟨hone,hrl32⟩:=Q9H ls (by omega) (by omega);have hds:=Q0E hrl32;have hdo:=Q0K (Q2o ls);have hdv:(bRow (Q2o ls)).toList=(Q2o ls).map vb:=by simp [bRow]
 obtain⟨D,hD⟩:∃ D,D=bRow (Q2o ls):=⟨_,rfl⟩;rw [<- hD] at hds hdo hdv ⊢;have HDS:=Lib.hid hds;have HDO:=Lib.hid hdo;have HDV:=Lib.hid hdv;have HONE:=Lib.hid hone;obtain⟨g4,hg4⟩:∃ g,g=w.heap.size:=⟨_,rfl⟩;have hgw:w.heap.size<=g4:=by omega
 have hg4l:g4<(w.alloc (.cells inkZ 60)).heap.size:=by simp; omega
 have hn1:¬ (n:Int)<1:=by omega
 have hn2:¬ (1024:Int)<(n:Int):=by omega
 clear h hL hX hk0 hxl hN hb hds hdo hdv hD hone hrl32;go_enter Tryz.func124,Tryz.ntmps124
 go_upto_region 1 with fail
 rw [<- HZ.out];generalize World.alloc w _=w1 at HX HK HB0 HL hg4l ⊢;rw [<- hg4] at HK ⊢;have hs1:=HX.out.size;clear hg4;go_wp2_with fail
 go_loopw [6] (fun iv wr=>∃ i:Nat,i<=n/\iv=.int .i64 i/\∃ d,wr=w1.drewN d) (fun iv _=>n - (intOf iv).toNat)
 case atStart=>exact⟨0,by omega,rfl,0,rfl⟩
 case round =>
  obtain⟨i,hi,rfl,d,rfl⟩:=hrel;by_cases hin:i<n
  ·have hinI:(i:Int)<(n:Int):=by omega
   have hil:i<ls.length:=by have:=HXL.out; omega
   obtain⟨ad,rfl,hadb,hcell⟩:=(HL.out w1 (Nat.le_refl _) fun _ _ _=>rfl).2 (by omega);have hx:=List.getElem?_eq_getElem hil;obtain⟨Ak,mk,ck,hq,hrd⟩:=hcell i _ hx;have hmk:mk<65536:=by have:=HLE.out _ (List.getElem_mem hil); have:=hrd.1; simp at this; omega
   have hmkI:¬ (65536:Int)<=(mk:Int):=by omega
   have hqd:(w1.drewN d).cell? (ad.add i)=some (.slice Ak mk ck):=hq;clear hcell hx hrd hq;go_wp2_with fail
   go_roundw
   case rel=>exact⟨i+1,by omega,by go_num,d,rfl⟩
   case measure=>simp [intOf]; omega
  ·obtain rfl:i=n:=by omega
   have hinI:¬ (i:Int)<(i:Int):=by omega
   have hb2:Below w1.heap.size w1 (w1.drewN d):=Q0z (Below.refl _ _) d;have HLV:=Lib.hid (Q8K (w1.drewN d) r k _ A i c ls (HB0.out.below hb2) hk (HL.out.later hb2 fun _ h=>h) HXL.out (fun b hb=>by
    rcases hb with hb | hb
    ·have:=HNN.out b hb; show b<w1.heap.size; omega
    ·exact hb.2) HLE.out h5 h16)
   have HX2:=Lib.hid (HX.out.trans (hb2.mono hs1));have HK2:=Lib.hid (HK.out.below' hb2);have hs2:=hb2.size;generalize w1.drewN d=w2 at HLV HX2 HK2 hs2;clear hb2;go_wp2_with fail
   refine HLV.out.mono ?_;rintro _ w3 ⟨v,g,c2,us,rfl,hre⟩;obtain⟨gv,cv,rfl,hcl⟩:=hre.last;obtain⟨cur,q1,q2,q3⟩:=hre.dig.row;have HQ:=Lib.hid q1;have HPT:=Lib.hid (show ∀ j,j<32->cur[0+j]?=D[j]? from fun j hj=>by
    rw [Nat.zero_add,<- Array.getElem?_toList,<- Array.getElem?_toList];have e:cur.toList.take 32=D.toList:=by
     rw [HDV.out];have h3:=q3;rw [HONE.out] at h3;have h4:cur.toList.take 32=Q0q [Q2o ls]:=h3;rw [h4]; simp [Q0q]
    rw [<- e,List.getElem?_take,if_pos hj])
   have HK3:=Lib.hid (hre.only.blk HK2.out (by
    rintro (e | e)
    ·omega
    ·exact e (.inr ⟨hgw,hg4l⟩)))
   have HB3:=Lib.hid hre.book;have HO3:=Lib.hid ((Only.of_below HX2.out).trans (hre.only.mono fun b _=>RM.mono (N:=N) fun b=>.inl));have hs3:=hre.only.size;clear hre q1 q2 q3;go_wp2_with (first
    | (refine Q03 (o:=⟨some 40,_,_,_,_,_⟩) rfl 60 (.tmp 39) rfl g 0 32 rfl 60 cur D _ HQ.out Tryz.underlying60 rfl rfl HDS.out HPT.out ?_)
    | (refine Q01 (o:=⟨none,_,_,_,_,_⟩) rfl 60 (.tmp 4) (.tmp 40) rfl g4 0 D rfl rfl 60 inkZ HK3.out (by rw [HDS.out]; rfl) (by rw [HDS.out,HZS.out]; omega) HDO.out ?_; intro w5 hT5 hD5; rw [Q08 _ _ (by rw [HDS.out,HZS.out])] at hD5))
   refine bodyPost_ret (Q0b rfl _ _ g4 32 60 _ _ rfl hD5 Tryz.underlying60 rfl rfl HDS.out) rfl ⟨rfl,?_,?_⟩
   ·exact(HB3.out.turned hT5 (.inr ⟨hgw,hg4l⟩) (by omega)).less (by omega) fun b=>.inl
   ·exact⟨hT5.os.trans HO3.out.os,hT5.tape.trans HO3.out.tape,hT5.output.trans HO3.out.output,by rw [hT5.size]; exact HO3.out.size,fun i hi hn=>(hT5.block i (by omega)).trans (HO3.out.block i hi hn)⟩
end
section
open Go.RowKit Go.Maps
attribute [local irreducible] wpList
def rep16 (b:UInt8):List UInt8:=List.replicate 16 b
def Qbw (c s e b:Int):Wish:=⟨c,s,1,e,1,b,[],0,0,[]⟩
def writeV (c s e k:Int) (b:UInt8):Wish:=⟨c,s,1,e,2,k,rep16 b,0,0,[]⟩
def shutV (e:Int):Wish:=⟨0,0,1,e,5,0,[],0,0,[1,2,3,4]⟩
theorem wC_spl (x y:Wish) (A B A' B':Option Addr) (n c n' c' m d m' d':Nat):spl (Q05 x A n c A' n' c') 0 (Q05 y B m d B' m' d').toList=Q05 y B m d B' m' d':=Q08 (Q05 x A n c A' n' c') (Q05 y B m d B' m' d') rfl
end
section
open Go.RowKit Go.Maps
attribute [local irreducible] wpList Q0i
def wk0:VM:=newV 1
def wk1:VM:=(doV wk0 (writeV 31 1 0 3 7)).1
def wk2:VM:=(doV wk1 (Qbw 32 5 0 3)).1
def wk3:VM:=(doV wk2 (Qbw 32 5 0 0)).1
def wk4:VM:=(doV wk3 (Qbw 32 4 0 3)).1
def wk5:VM:=(doV wk4 (Qbw 31 2 1 3)).1
def wk6:VM:=(doV wk5 (shutV 0)).1
def wk7:VM:=(doV wk6 (Qbw 31 2 0 3)).1
def wk8:VM:=(turnV wk7).1
def wk9:VM:=(doV wk8 (Qbw 31 2 1 3)).1
def wk:Nat->VM
 | 0=>wk0
 | 1=>wk1
 | 2=>wk2
 | 3=>wk3
 | 4=>wk4
 | 5=>wk5
 | 6=>wk6
 | 7=>wk7
 | 8=>wk8
 | _=>wk9
end
section
open Go.RowKit Go.Maps
attribute [local irreducible] wpList Q0i
theorem Q8f:∀ (l:List (List UInt8)),(∀ x,x∈l->x.length<=120)->(l.map strB).flatten.length<=128*l.length
 | [],_=>by simp
 | x :: t,h=>by
  rw [List.map_cons,List.flatten_cons,List.length_append,List.length_cons];have h1:=Q8f t fun y hy=>h y (List.mem_cons_of_mem _ hy)
  have h2:=h x (List.mem_cons_self ..);have h3:=(Q2N (n:=x.length) (by unfold maxN; omega)).2;have h4:(strB x).length=(numB x.length).length+x.length:=by unfold strB; rw [List.length_append]
  omega
end
section
open Go.RowKit
attribute [local irreducible] wpList
theorem Q6z (x y:Wish) (A:Option Addr) (n c:Nat) (A':Option Addr) (n' c':Nat) (D:Option Addr) (m d:Nat) (D':Option Addr) (m' d':Nat) (w:World) (B:Nat) (hx:Q0Y w B x A n c A' n' c') (hy:Q0Y w B y D m d D' m' d') (hB:B<=w.heap.size) :
 Calls Tryz.prog 45 #[.agg (Q05 x A n c A' n' c'),.agg (Q05 y D m d D' m' d')] w fun e w'=>e=.returned (.bool (Q5C x y))/\Below w.heap.size w w':=by
 have HEB:=Lib.hid (fun W (hb:Below w.heap.size w W)=>Q34 A D n m c d x.data y.data W B B (hx.data.below (hb.mono hB)) (hy.data.below (hb.mono hB)) (by have:=hx.dm; unfold maxLen; omega) (by have:=hy.dm; unfold maxLen; omega));have HEI:=Lib.hid (fun W (hb:Below w.heap.size w W)=>Q4l A' D' n' m' c' d' x.next y.next W B B (hx.next.below (hb.mono hB)) (hy.next.below (hb.mono hB)) (by have:=hx.nm; unfold maxLen; omega) (by have:=hy.nm; unfold maxLen; omega));clear hx hy;obtain⟨xc,xs,xg,xe,xk,xb,xd,xo,xn,xt⟩:=x;obtain⟨yc,ys,yg,ye,yk,yb,yd,yo,yn,yt⟩:=y;simp only at HEB HEI;unfold Q05 Q5C;simp only;go_enter Tryz.func45,Tryz.ntmps45
 go_upto_region 1 with fail
 have hX:Below w.heap.size w ((w.alloc (.cells #[.int .i64 xc,.int .i64 xs,.int .i64 xg,.int .i64 xe,.int .i64 xk,.int .i64 xb,.slice A n c,.int .i64 xo,.int .i64 xn,.slice A' n' c'] 44)).alloc (.cells #[.int .i64 yc,.int .i64 ys,.int .i64 yg,.int .i64 ye,.int .i64 yk,.int .i64 yb,.slice D m d,.int .i64 yo,.int .i64 yn,.slice D' m' d'] 44)):=((Below.refl _ _).alloc (Nat.le_refl _) _).alloc (by simp) _;have k1:Blk ((w.alloc (.cells #[.int .i64 xc,.int .i64 xs,.int .i64 xg,.int .i64 xe,.int .i64 xk,.int .i64 xb,.slice A n c,.int .i64 xo,.int .i64 xn,.slice A' n' c'] 44)).alloc (.cells #[.int .i64 yc,.int .i64 ys,.int .i64 yg,.int .i64 ye,.int .i64 yk,.int .i64 yb,.slice D m d,.int .i64 yo,.int .i64 yn,.slice D' m' d'] 44)) w.heap.size 44 _:=(Blk.new w _ _).alloc _;have k2:Blk ((w.alloc (.cells #[.int .i64 xc,.int .i64 xs,.int .i64 xg,.int .i64 xe,.int .i64 xk,.int .i64 xb,.slice A n c,.int .i64 xo,.int .i64 xn,.slice A' n' c'] 44)).alloc (.cells #[.int .i64 yc,.int .i64 ys,.int .i64 yg,.int .i64 ye,.int .i64 yk,.int .i64 yb,.slice D m d,.int .i64 yo,.int .i64 yn,.slice D' m' d'] 44)) (w.heap.size+1) 44 _:=Blk.newAt (by simp);generalize World.alloc _ _=w1 at hX k1 k2 ⊢;have c0:=k1.cell 0;have c1:=k1.cell 1;have c2:=k1.cell 2;have c3:=k1.cell 3;have c4:=k1.cell 4;have c5:=k1.cell 5;have c6:=k1.cell 6;have c7:=k1.cell 7;have c8:=k1.cell 8;have c9:=k1.cell 9;have d0:=k2.cell 0;have d1:=k2.cell 1;have d2:=k2.cell 2;have d3:=k2.cell 3;have d4:=k2.cell 4;have d5:=k2.cell 5;have d6:=k2.cell 6;have d7:=k2.cell 7;have d8:=k2.cell 8;have d9:=k2.cell 9;simp only [List.getElem?_toArray,List.getElem?_cons_zero,List.getElem?_cons_succ] at c0 c1 c2 c3 c4 c5 c6 c7 c8 c9 d0 d1 d2 d3 d4 d5 d6 d7 d8 d9;have HB:=Lib.hid hX;have HE1:=Lib.hid (HEB.out w1 hX);have HE2:=Lib.hid (fun q=>HEI.out (w1.drewN q) (Q0z HB.out q));clear k1 k2 hX HEB HEI;obtain⟨g1,hg1⟩:∃ g,g=w.heap.size:=⟨_,rfl⟩;obtain⟨g3,hg3⟩:∃ g,g=w.heap.size+1:=⟨_,rfl⟩;rw [<- hg1] at c0 c1 c2 c3 c4 c5 c6 c7 c8 c9;rw [<- hg3] at d0 d1 d2 d3 d4 d5 d6 d7 d8 d9 ⊢;rw [<- hg1];clear hg1 hg3;go_wp2_with (first
  | (go_at_call 14; refine HE1.out.mono ?_; rintro _ _ ⟨rfl,q,rfl⟩)
  | (go_at_call 75; refine(HE2.out _).mono ?_; rintro _ _ ⟨rfl,q2,rfl⟩))
 all_goals go_ret
 all_goals refine⟨Q0N ?_,by first | exact HB.out | exact Q0z HB.out _ | exact Q0z (Q0z HB.out _) _⟩
 all_goals clear HB HE1 HE2 c0 c1 c2 c3 c4 c5 c6 c7 c8 c9 d0 d1 d2 d3 d4 d5 d6 d7 d8 d9
 all_goals rw [Bool.eq_iff_iff]
 all_goals simp_all
end
section
open Go.RowKit
def ownW (x:Wish):Wish :=
 ⟨if x.kind=5 then 0 else x.client,if x.kind=5 then 0 else x.stamp,x.group,x.epoch,x.kind,if x.kind=5 then 0 else x.block,if x.kind=2 then x.data else [],if x.kind=4 then x.old else 0,if x.kind=4 then x.new else 0,if x.kind=5 then x.next else []⟩
def Q7i (x:Wish) (A:Option Addr) (n c:Nat) (A':Option Addr) (n' c':Nat):Value :=
 if x.kind=5 then .agg (Q05 (ownW x) none 0 0 A' n' c') else if x.kind=2 then .agg (Q05 (ownW x) A n c none 0 0) else .agg (Q05 (ownW x) none 0 0 none 0 0)
theorem QbK (x:Wish) (A:Option Addr) (n c:Nat) (A':Option Addr) (n' c':Nat) (w:World) :
 Calls Tryz.prog 119 #[.agg (Q05 x A n c A' n' c')] w fun e w'=>e=.returned (Q7i x A n c A' n' c')/\Below w.heap.size w w':=by
 have hd0:Below w.heap.size w ((w.alloc (.cells (Q05 x A n c A' n' c') 44)).alloc (.cells (Q05 Q22 none 0 0 none 0 0) 44)):=((Below.refl _ _).alloc (Nat.le_refl _) _).alloc (by simp) _;have k1:Blk ((w.alloc (.cells (Q05 x A n c A' n' c') 44)).alloc (.cells (Q05 Q22 none 0 0 none 0 0) 44)) w.heap.size 44 (Q05 x A n c A' n' c'):=(Blk.new w _ _).alloc _;have k2:Blk ((w.alloc (.cells (Q05 x A n c A' n' c') 44)).alloc (.cells (Q05 Q22 none 0 0 none 0 0) 44)) (w.heap.size+1) 44 (Q05 Q22 none 0 0 none 0 0):=Blk.newAt (by simp);have hs0:((w.alloc (.cells (Q05 x A n c A' n' c') 44)).alloc (.cells (Q05 Q22 none 0 0 none 0 0) 44)).heap.size=w.heap.size+2:=by simp
 go_enter Tryz.func119,Tryz.ntmps119
 go_upto_region 1 with fail
 generalize hW:World.alloc (World.alloc _ _) _=w1;have hW':((w.alloc (.cells (Q05 x A n c A' n' c') 44)).alloc (.cells (Q05 Q22 none 0 0 none 0 0) 44))=w1:=hW;rw [hW'] at hd0 k1 k2 hs0;clear hW hW';obtain⟨g1,hg1⟩:∃ g,g=w.heap.size:=⟨_,rfl⟩;obtain⟨g2,hg2⟩:∃ g,g=w.heap.size+1:=⟨_,rfl⟩;rw [<- hg1] at k1;rw [<- hg2] at k2 ⊢;rw [<- hg1];have ho1:w.heap.size<=g1:=by omega
 have ho2:g1<g2:=by omega
 have ho3:g2<w1.heap.size:=by omega
 have hs1:=hd0.size;have HB1:=Lib.hid hd0;have d4:=(k1.cell 4).trans (show (Q05 x A n c A' n' c')[4]?=some (.int .i64 x.kind) from rfl);have d2:=(k1.cell 2).trans (show (Q05 x A n c A' n' c')[2]?=some (.int .i64 x.group) from rfl);have d3:=(k1.cell 3).trans (show (Q05 x A n c A' n' c')[3]?=some (.int .i64 x.epoch) from rfl);have K1':=Lib.hid k1;have K2':=Lib.hid k2;clear hg1 hg2 k1 k2 hd0 hs0;go_upto_region 2 with(refine Q01 (o:=⟨none,_,_,_,_,_⟩) rfl 44 (.tmp 3) (.tmp 10) rfl w1.heap.size 0 #[.int .i64 0,.int .i64 0,.int .i64 x.group,.int .i64 x.epoch,.int .i64 x.kind,.int .i64 0,.slice none 0 0,.int .i64 0,.int .i64 0,.slice none 0 0] rfl rfl 44 (Q05 Q22 none 0 0 none 0 0) (Blk.newAt rfl) (by kernel_rfl) (by simp [Q05]) (by simp [Value.oneCell']) ?_; intro w2 hT2 hD2; rw [Q08 _ _ (by simp [Q05])] at hD2)
 have hb2:Below w1.heap.size w1 w2:=hT2.below ((Below.refl _ _).alloc (Nat.le_refl _) _) (Nat.le_refl _);obtain⟨g3,hg3⟩:∃ g,g=w1.heap.size:=⟨_,rfl⟩;rw [<- hg3] at hD2 ⊢;have ho4:g2<g3:=by omega
 have K1:=Lib.hid (K1'.out.under hb2);have K2:=Lib.hid (K2'.out.under hb2);have K3:=Lib.hid hD2;have HB:=Lib.hid (HB1.out.trans (hb2.mono hs1));have ck:=(K1.out.cell 4).trans (show (Q05 x A n c A' n' c')[4]?=some (.int .i64 x.kind) from rfl);clear hT2 hD2 hb2 hg3 K1' K2' HB1 d4 d2 d3;by_cases hk:x.kind=5
 ·go_upto_region 3 with fail
  clear ck;have cx:=(K1.out.cell 9).trans (show (Q05 x A n c A' n' c')[9]?=some (.slice A' n' c') from rfl);have cw:=(K3.out.cell 9).trans (show (#[.int .i64 0,.int .i64 0,.int .i64 x.group,.int .i64 x.epoch,.int .i64 x.kind,.int .i64 0,.slice none 0 0,.int .i64 0,.int .i64 0,.slice none 0 0]:Array Value)[9]?=some (.slice none 0 0) from rfl);have fw:=K3.out.frozen 9;have k1:=K1.out.far (p:=⟨g3,9,none⟩) (by show g1≠g3; omega) (.slice A' n' c');have k2:=K2.out.far (p:=⟨g3,9,none⟩) (by show g2≠g3; omega) (.slice A' n' c');have k3:=K3.out.set_ 9 (.slice A' n' c');have hb:=HB.out.setCell (p:=⟨g3,9,none⟩) (by show w.heap.size<=g3; omega) (.slice A' n' c');have ck:=(k1.cell 4).trans (show (Q05 x A n c A' n' c')[4]?=some (.int .i64 x.kind) from rfl);go_upto_region 4 with fail
  replace K1:=Lib.hid k1
  replace K2:=Lib.hid k2
  replace HB:=Lib.hid hb
  replace K3:=Lib.hid (show Blk _ g3 44 #[.int .i64 0,.int .i64 0,.int .i64 x.group,.int .i64 x.epoch,.int .i64 x.kind,.int .i64 0,.slice none 0 0,.int .i64 0,.int .i64 0,.slice A' n' c'] from k3)
  clear k1 k2 k3 hb cx cw fw ck;generalize World.setCell _ _ _=wn at K1 K2 K3 HB ⊢;have hf:(#[.int .i64 0,.int .i64 0,.int .i64 x.group,.int .i64 x.epoch,.int .i64 x.kind,.int .i64 0,.slice none 0 0,.int .i64 0,.int .i64 0,.slice A' n' c']:Array Value)=Q05 (ownW x) none 0 0 A' n' c':=by unfold Q05 ownW; simp [hk]
  rw [hf] at K3;clear hf;go_wp2_with (first
   | (refine Q03 (o:=⟨some 17,_,_,_,_,_⟩) rfl 44 (.tmp 3) rfl g3 0 10 rfl 44 _ (Q05 (ownW x) none 0 0 A' n' c') _ K3.out Tryz.underlying44 rfl rfl rfl (fun _ _=>by rw [Nat.zero_add]) ?_)
   | (refine Q01 (o:=⟨none,_,_,_,_,_⟩) rfl 44 (.tmp 2) (.tmp 17) rfl g2 0 (Q05 (ownW x) none 0 0 A' n' c') rfl rfl 44 (Q05 Q22 none 0 0 none 0 0) K2.out (Q1R _ _ _ _ _ _ _) (by simp [Q05]) (Q1U _ _ _ _ _ _ _) ?_; intro w7 hT7 hD7; rw [Q08 _ _ (by simp [Q05])] at hD7))
  refine bodyPost_ret (Q0h rfl _ _ g2 10 44 _ _ rfl hD7 Tryz.underlying44 rfl rfl rfl) rfl ⟨?_,hT7.below HB.out (by omega)⟩;unfold Q7i; simp [hk]
 ·have hkb:(x.kind == 5)=false:=by simpa using hk
  go_upto_region 5 with fail
  clear ck;have cx:=(K1.out.cell 0).trans (show (Q05 x A n c A' n' c')[0]?=some (.int .i64 x.client) from rfl);have cw:=(K3.out.cell 0).trans (show (#[.int .i64 0,.int .i64 0,.int .i64 x.group,.int .i64 x.epoch,.int .i64 x.kind,.int .i64 0,.slice none 0 0,.int .i64 0,.int .i64 0,.slice none 0 0]:Array Value)[0]?=some (.int .i64 0) from rfl);have fw:=K3.out.frozen 0;have k1:=K1.out.far (p:=⟨g3,0,none⟩) (by show g1≠g3; omega) (.int .i64 x.client);have k2:=K2.out.far (p:=⟨g3,0,none⟩) (by show g2≠g3; omega) (.int .i64 x.client);have k3:=K3.out.set_ 0 (.int .i64 x.client);have hb:=HB.out.setCell (p:=⟨g3,0,none⟩) (by show w.heap.size<=g3; omega) (.int .i64 x.client);have ck:=(k1.cell 4).trans (show (Q05 x A n c A' n' c')[4]?=some (.int .i64 x.kind) from rfl);go_upto_region 6 with fail
  replace K1:=Lib.hid k1
  replace K2:=Lib.hid k2
  replace HB:=Lib.hid hb
  replace K3:=Lib.hid (show Blk _ g3 44 #[.int .i64 x.client,.int .i64 0,.int .i64 x.group,.int .i64 x.epoch,.int .i64 x.kind,.int .i64 0,.slice none 0 0,.int .i64 0,.int .i64 0,.slice none 0 0] from k3)
  clear k1 k2 k3 hb cx cw fw ck;generalize World.setCell _ _ _=wn at K1 K2 K3 HB ⊢;have cx:=(K1.out.cell 1).trans (show (Q05 x A n c A' n' c')[1]?=some (.int .i64 x.stamp) from rfl);have cw:=(K3.out.cell 1).trans (show (#[.int .i64 x.client,.int .i64 0,.int .i64 x.group,.int .i64 x.epoch,.int .i64 x.kind,.int .i64 0,.slice none 0 0,.int .i64 0,.int .i64 0,.slice none 0 0]:Array Value)[1]?=some (.int .i64 0) from rfl);have fw:=K3.out.frozen 1;have k1:=K1.out.far (p:=⟨g3,1,none⟩) (by show g1≠g3; omega) (.int .i64 x.stamp);have k2:=K2.out.far (p:=⟨g3,1,none⟩) (by show g2≠g3; omega) (.int .i64 x.stamp);have k3:=K3.out.set_ 1 (.int .i64 x.stamp);have hb:=HB.out.setCell (p:=⟨g3,1,none⟩) (by show w.heap.size<=g3; omega) (.int .i64 x.stamp);have ck:=(k1.cell 4).trans (show (Q05 x A n c A' n' c')[4]?=some (.int .i64 x.kind) from rfl);go_upto_region 7 with fail
  replace K1:=Lib.hid k1
  replace K2:=Lib.hid k2
  replace HB:=Lib.hid hb
  replace K3:=Lib.hid (show Blk _ g3 44 #[.int .i64 x.client,.int .i64 x.stamp,.int .i64 x.group,.int .i64 x.epoch,.int .i64 x.kind,.int .i64 0,.slice none 0 0,.int .i64 0,.int .i64 0,.slice none 0 0] from k3)
  clear k1 k2 k3 hb cx cw fw ck;generalize World.setCell _ _ _=wn at K1 K2 K3 HB ⊢;have cx:=(K1.out.cell 5).trans (show (Q05 x A n c A' n' c')[5]?=some (.int .i64 x.block) from rfl);have cw:=(K3.out.cell 5).trans (show (#[.int .i64 x.client,.int .i64 x.stamp,.int .i64 x.group,.int .i64 x.epoch,.int .i64 x.kind,.int .i64 0,.slice none 0 0,.int .i64 0,.int .i64 0,.slice none 0 0]:Array Value)[5]?=some (.int .i64 0) from rfl);have fw:=K3.out.frozen 5;have k1:=K1.out.far (p:=⟨g3,5,none⟩) (by show g1≠g3; omega) (.int .i64 x.block);have k2:=K2.out.far (p:=⟨g3,5,none⟩) (by show g2≠g3; omega) (.int .i64 x.block);have k3:=K3.out.set_ 5 (.int .i64 x.block);have hb:=HB.out.setCell (p:=⟨g3,5,none⟩) (by show w.heap.size<=g3; omega) (.int .i64 x.block);have ck:=(k1.cell 4).trans (show (Q05 x A n c A' n' c')[4]?=some (.int .i64 x.kind) from rfl);go_upto_region 8 with fail
  replace K1:=Lib.hid k1
  replace K2:=Lib.hid k2
  replace HB:=Lib.hid hb
  replace K3:=Lib.hid (show Blk _ g3 44 #[.int .i64 x.client,.int .i64 x.stamp,.int .i64 x.group,.int .i64 x.epoch,.int .i64 x.kind,.int .i64 x.block,.slice none 0 0,.int .i64 0,.int .i64 0,.slice none 0 0] from k3)
  clear k1 k2 k3 hb cx cw fw ck;generalize World.setCell _ _ _=wn at K1 K2 K3 HB ⊢;have ck:=(K1.out.cell 4).trans (show (Q05 x A n c A' n' c')[4]?=some (.int .i64 x.kind) from rfl);by_cases hk2:x.kind=2
  ·have hk0:=hk
   replace hk:=hk2
   go_upto_region 9 with fail
   clear ck;have cx:=(K1.out.cell 6).trans (show (Q05 x A n c A' n' c')[6]?=some (.slice A n c) from rfl);have cw:=(K3.out.cell 6).trans (show (#[.int .i64 x.client,.int .i64 x.stamp,.int .i64 x.group,.int .i64 x.epoch,.int .i64 x.kind,.int .i64 x.block,.slice none 0 0,.int .i64 0,.int .i64 0,.slice none 0 0]:Array Value)[6]?=some (.slice none 0 0) from rfl);have fw:=K3.out.frozen 6;have k1:=K1.out.far (p:=⟨g3,6,none⟩) (by show g1≠g3; omega) (.slice A n c);have k2:=K2.out.far (p:=⟨g3,6,none⟩) (by show g2≠g3; omega) (.slice A n c);have k3:=K3.out.set_ 6 (.slice A n c);have hb:=HB.out.setCell (p:=⟨g3,6,none⟩) (by show w.heap.size<=g3; omega) (.slice A n c);have ck:=(k1.cell 4).trans (show (Q05 x A n c A' n' c')[4]?=some (.int .i64 x.kind) from rfl);go_upto_region 10 with fail
   replace K1:=Lib.hid k1
   replace K2:=Lib.hid k2
   replace HB:=Lib.hid hb
   replace K3:=Lib.hid (show Blk _ g3 44 #[.int .i64 x.client,.int .i64 x.stamp,.int .i64 x.group,.int .i64 x.epoch,.int .i64 x.kind,.int .i64 x.block,.slice A n c,.int .i64 0,.int .i64 0,.slice none 0 0] from k3)
   clear k1 k2 k3 hb cx cw fw ck;generalize World.setCell _ _ _=wn at K1 K2 K3 HB ⊢;have ck:=(K1.out.cell 4).trans (show (Q05 x A n c A' n' c')[4]?=some (.int .i64 x.kind) from rfl);go_upto_region 13 with fail
   clear ck;have hf:(#[.int .i64 x.client,.int .i64 x.stamp,.int .i64 x.group,.int .i64 x.epoch,.int .i64 x.kind,.int .i64 x.block,.slice A n c,.int .i64 0,.int .i64 0,.slice none 0 0]:Array Value)=Q05 (ownW x) A n c none 0 0:=by unfold Q05 ownW; simp [hk]
   rw [hf] at K3;clear hf;go_wp2_with (first
    | (refine Q03 (o:=⟨some 42,_,_,_,_,_⟩) rfl 44 (.tmp 3) rfl g3 0 10 rfl 44 _ (Q05 (ownW x) A n c none 0 0) _ K3.out Tryz.underlying44 rfl rfl rfl (fun _ _=>by rw [Nat.zero_add]) ?_)
    | (refine Q01 (o:=⟨none,_,_,_,_,_⟩) rfl 44 (.tmp 2) (.tmp 42) rfl g2 0 (Q05 (ownW x) A n c none 0 0) rfl rfl 44 (Q05 Q22 none 0 0 none 0 0) K2.out (Q1R _ _ _ _ _ _ _) (by simp [Q05]) (Q1U _ _ _ _ _ _ _) ?_; intro w7 hT7 hD7; rw [Q08 _ _ (by simp [Q05])] at hD7))
   refine bodyPost_ret (Q0h rfl _ _ g2 10 44 _ _ rfl hD7 Tryz.underlying44 rfl rfl rfl) rfl ⟨?_,hT7.below HB.out (by omega)⟩;unfold Q7i; simp [hk]
  ·by_cases hk4:x.kind=4
   ·have hk0:=hk
    replace hk:=hk4
    go_upto_region 11 with fail
    clear ck;have cx:=(K1.out.cell 7).trans (show (Q05 x A n c A' n' c')[7]?=some (.int .i64 x.old) from rfl);have cw:=(K3.out.cell 7).trans (show (#[.int .i64 x.client,.int .i64 x.stamp,.int .i64 x.group,.int .i64 x.epoch,.int .i64 x.kind,.int .i64 x.block,.slice none 0 0,.int .i64 0,.int .i64 0,.slice none 0 0]:Array Value)[7]?=some (.int .i64 0) from rfl);have fw:=K3.out.frozen 7;have k1:=K1.out.far (p:=⟨g3,7,none⟩) (by show g1≠g3; omega) (.int .i64 x.old);have k2:=K2.out.far (p:=⟨g3,7,none⟩) (by show g2≠g3; omega) (.int .i64 x.old);have k3:=K3.out.set_ 7 (.int .i64 x.old);have hb:=HB.out.setCell (p:=⟨g3,7,none⟩) (by show w.heap.size<=g3; omega) (.int .i64 x.old);have ck:=(k1.cell 4).trans (show (Q05 x A n c A' n' c')[4]?=some (.int .i64 x.kind) from rfl);go_upto_region 12 with fail
    replace K1:=Lib.hid k1
    replace K2:=Lib.hid k2
    replace HB:=Lib.hid hb
    replace K3:=Lib.hid (show Blk _ g3 44 #[.int .i64 x.client,.int .i64 x.stamp,.int .i64 x.group,.int .i64 x.epoch,.int .i64 x.kind,.int .i64 x.block,.slice none 0 0,.int .i64 x.old,.int .i64 0,.slice none 0 0] from k3)
    clear k1 k2 k3 hb cx cw fw ck;generalize World.setCell _ _ _=wn at K1 K2 K3 HB ⊢;have cx:=(K1.out.cell 8).trans (show (Q05 x A n c A' n' c')[8]?=some (.int .i64 x.new) from rfl);have cw:=(K3.out.cell 8).trans (show (#[.int .i64 x.client,.int .i64 x.stamp,.int .i64 x.group,.int .i64 x.epoch,.int .i64 x.kind,.int .i64 x.block,.slice none 0 0,.int .i64 x.old,.int .i64 0,.slice none 0 0]:Array Value)[8]?=some (.int .i64 0) from rfl);have fw:=K3.out.frozen 8;have k1:=K1.out.far (p:=⟨g3,8,none⟩) (by show g1≠g3; omega) (.int .i64 x.new);have k2:=K2.out.far (p:=⟨g3,8,none⟩) (by show g2≠g3; omega) (.int .i64 x.new);have k3:=K3.out.set_ 8 (.int .i64 x.new);have hb:=HB.out.setCell (p:=⟨g3,8,none⟩) (by show w.heap.size<=g3; omega) (.int .i64 x.new);have ck:=(k1.cell 4).trans (show (Q05 x A n c A' n' c')[4]?=some (.int .i64 x.kind) from rfl);go_upto_region 13 with fail
    replace K1:=Lib.hid k1
    replace K2:=Lib.hid k2
    replace HB:=Lib.hid hb
    replace K3:=Lib.hid (show Blk _ g3 44 #[.int .i64 x.client,.int .i64 x.stamp,.int .i64 x.group,.int .i64 x.epoch,.int .i64 x.kind,.int .i64 x.block,.slice none 0 0,.int .i64 x.old,.int .i64 x.new,.slice none 0 0] from k3)
    clear k1 k2 k3 hb cx cw fw ck;generalize World.setCell _ _ _=wn at K1 K2 K3 HB ⊢;have hf:(#[.int .i64 x.client,.int .i64 x.stamp,.int .i64 x.group,.int .i64 x.epoch,.int .i64 x.kind,.int .i64 x.block,.slice none 0 0,.int .i64 x.old,.int .i64 x.new,.slice none 0 0]:Array Value)=Q05 (ownW x) none 0 0 none 0 0:=by unfold Q05 ownW; simp [hk]
    rw [hf] at K3;clear hf;go_wp2_with (first
     | (refine Q03 (o:=⟨some 42,_,_,_,_,_⟩) rfl 44 (.tmp 3) rfl g3 0 10 rfl 44 _ (Q05 (ownW x) none 0 0 none 0 0) _ K3.out Tryz.underlying44 rfl rfl rfl (fun _ _=>by rw [Nat.zero_add]) ?_)
     | (refine Q01 (o:=⟨none,_,_,_,_,_⟩) rfl 44 (.tmp 2) (.tmp 42) rfl g2 0 (Q05 (ownW x) none 0 0 none 0 0) rfl rfl 44 (Q05 Q22 none 0 0 none 0 0) K2.out (Q1R _ _ _ _ _ _ _) (by simp [Q05]) (Q1U _ _ _ _ _ _ _) ?_; intro w7 hT7 hD7; rw [Q08 _ _ (by simp [Q05])] at hD7))
    refine bodyPost_ret (Q0h rfl _ _ g2 10 44 _ _ rfl hD7 Tryz.underlying44 rfl rfl rfl) rfl ⟨?_,hT7.below HB.out (by omega)⟩;unfold Q7i; simp [hk]
   ·go_upto_region 13 with fail
    clear ck;have hf:(#[.int .i64 x.client,.int .i64 x.stamp,.int .i64 x.group,.int .i64 x.epoch,.int .i64 x.kind,.int .i64 x.block,.slice none 0 0,.int .i64 0,.int .i64 0,.slice none 0 0]:Array Value)=Q05 (ownW x) none 0 0 none 0 0:=by unfold Q05 ownW; simp [hk,hk4]
    rw [hf] at K3;clear hf;go_wp2_with (first
     | (refine Q03 (o:=⟨some 42,_,_,_,_,_⟩) rfl 44 (.tmp 3) rfl g3 0 10 rfl 44 _ (Q05 (ownW x) none 0 0 none 0 0) _ K3.out Tryz.underlying44 rfl rfl rfl (fun _ _=>by rw [Nat.zero_add]) ?_)
     | (refine Q01 (o:=⟨none,_,_,_,_,_⟩) rfl 44 (.tmp 2) (.tmp 42) rfl g2 0 (Q05 (ownW x) none 0 0 none 0 0) rfl rfl 44 (Q05 Q22 none 0 0 none 0 0) K2.out (Q1R _ _ _ _ _ _ _) (by simp [Q05]) (Q1U _ _ _ _ _ _ _) ?_; intro w7 hT7 hD7; rw [Q08 _ _ (by simp [Q05])] at hD7))
    refine bodyPost_ret (Q0h rfl _ _ g2 10 44 _ _ rfl hD7 Tryz.underlying44 rfl rfl rfl) rfl ⟨?_,hT7.below HB.out (by omega)⟩;unfold Q7i; simp [hk,hk2]
end
end Go.Proofs.YtcpngeiahgoacaaGreat
