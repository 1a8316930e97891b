/- Parts of the proof, in one text. -/
import Derived.Test.YtcpngeiahgoacaaGreatM14
import Derived.Test.YtcpngeiahgoacaaGreatM13
import Derived.Test.YtcpngeiahgoacaaGreatM6
import Derived.Test.YtcpngeiahgoacaaGreatM11
import Derived.Test.YtcpngeiahgoacaaGreatM3
import Derived.Test.YtcpngeiahgoacaaGreatM5
import Derived.Test.YtcpngeiahgoacaaGreatM8
import Derived.Test.YtcpngeiahgoacaaGreatM4
namespace Go.Proofs.YtcpngeiahgoacaaGreat
set_option linter.unusedVariables false
set_option linter.unusedSimpArgs false
set_option maxRecDepth 100000
set_option maxHeartbeats 16000000
open _root_.Array renaming getElem?_toList->zN
open _root_.Bool renaming eq_iff_iff->zH,true_and->zP,false_and->zQ
open _root_.Go renaming Addr->zA,World->zB,Value->zC
open _root_.Go.Act renaming put->zM
open _root_.Go.Proofs.Tryz renaming prog->zG,underlying60->zO,underlying189->zS,underlying44->zT
open _root_.Go.RowKit renaming Below->zE
open _root_.Go.RowKit.Below renaming heap_alloc->zF,refl->zK
open _root_.Go.World renaming alloc->zR
open _root_.List renaming getElem?_eq_getElem->zD,length_append->zJ
open _root_.Nat renaming le_refl->zI,zero_add->zL
section
open Go.RowKit Go.Maps
attribute [local irreducible] wpList Q0h
theorem ReSt.start {w wr:zB} {r k n:Nat} {N:Nat->Prop} {ls:LL} {ov:zC} (h:LoSt w wr r k N ls n ov) (hn:ls.length=n) (h5:5<=n) (h16:n<=16) :
 ∃ g c,ov=.slice (some ⟨g,0,none⟩) n c/\ReSt w (wr.alloc (.cells #[.slice (some ⟨g,0,none⟩) n c] 189)) r k N ls 0 g c n [] (.slice (some ⟨wr.heap.size,0,none⟩) 1 1):=by
 have hrow:=h.row;have e:(ls.take n).map Q1z=lv ls 0:=by rw [List.take_of_length_le (by omega)]; rfl
 rw [e] at hrow;obtain⟨hl,g,c,rfl,hg,hd⟩:=Q29.of_own hrow (Q2N ls 0) (by omega);have hal:zE wr.heap.size wr (wr.alloc (.cells #[.slice (some ⟨g,0,none⟩) n c] 189)):=Q04 _ _;have hs:=h.only.size;refine⟨g,c,rfl,⟨?_,rfl,hd.keep (hal.block _ hd.lt),hg,hl.symm,(h.book.below hal).less (by omega) fun b hb=>hb,h.only.trans (Only.of_below hal)⟩⟩;have hw0:=World.ownsRow_lit (base:=w.heap.size) (e:=189) (size:=1) wr #[.slice (some ⟨g,0,none⟩) n c] 1 hs (by unfold maxLen; omega) rfl;exact hw0
theorem ReSt.inner {w wo:zB} {r k s g c m:Nat} {N:Nat->Prop} {ls:LL} {us:List zC} {ov:zC} (h:ReSt w wo r k N ls s g c m us ov):UpSt w wo wo r (k+16+4*s) N (lv ls s) g c 0 ov (.slice none 0 0) :=
 ⟨World.ownsRow_nil _ _ _ _,h.book.hold fun b hb=>by
  rcases hb with hb | rfl | hb
  ·exact .inl hb
  ·obtain⟨cur,h1,_⟩:=h.dig.row;exact .inr (.inr ⟨_,cur,h1,by decide,by decide⟩)
  obtain⟨cur,hc⟩:=Q7W h.row hb;exact .inr (.inr ⟨_,cur,hc,by decide,by decide⟩),Only.refl _ _⟩
theorem ReSt.low {w wo:zB} {r k s g c m:Nat} {N:Nat->Prop} {ls:LL} {us:List zC} {ov:zC} (h:ReSt w wo r k N ls s g c m us ov) (hN:∀ b,N b->b<w.heap.size):∀ b,(N b\/b=g\/ov.ownBlock=some b)->b<wo.heap.size:=fun b hb=>by
 have hs:=h.only.size;rcases hb with hb | rfl | hb
 ·have:=hN b hb; omega
 ·exact h.dig.lt
 exact(Q07 h.row hb).2
theorem UpSt.lowRow {w wo wr:zB} {r k s g c m j:Nat} {N:Nat->Prop} {ls:LL} {us:List zC} {ov nv:zC} (h0:ReSt w wo r k N ls s g c m us ov) (h:UpSt w wo wr r (k+16+4*s) N (lv ls s) g c j ov nv) (hr:r<w.heap.size):Q29 wr g c (lv ls s)/\wr.ownsRow w.heap.size 189 1 ov (s+1) (us++[.slice (some ⟨g,0,none⟩) m c]) :=
 ⟨h0.dig.keep (h.only.block g h0.dig.lt (by
  have:=h0.new;rintro (e | e)
  ·omega
  ·exact e (.inr (.inl rfl)))),Q0d h0.row fun b hb=>h.only.block b (Q07 h0.row hb).2 (by
  have:=Q07 h0.row hb;rintro (e | e)
  ·omega
  exact e (.inr (.inr hb)))⟩
theorem UpSt.done {w wo w3:zB} {r k s g c m:Nat} {N:Nat->Prop} {ls:LL} {us:List zC} {ov nv:zC} (h0:ReSt w wo r k N ls s g c m us ov) (h:UpSt w wo w3 r (k+16+4*s) N (lv ls s) g c (grps m) ov nv) (h1:1<m):∃ g3 c3,nv=.slice (some ⟨g3,0,none⟩) (grps m) c3/\Q29 w3 g3 c3 (lv ls (s+1))/\wo.heap.size<=g3/\(lv ls (s+1)).length=grps m:=by
 have hrow:=h.row;have e:Q1D (lv ls s) (grps m)=lv ls (s+1):=by rw [h0.m]; rfl
 rw [e] at hrow;obtain⟨hl,g3,c3,rfl,hg,hd⟩:=Q29.of_own hrow (Q2N ls (s+1)) (by unfold grps; omega);exact⟨g3,c3,rfl,hd,hg,hl⟩
theorem QeD {w wo w3 w6:zB} {r k s g c m g3 c3 m2:Nat} {N:Nat->Prop} {ls:LL} {us:List zC} {ov v6:zC} (h0:ReSt w wo r k N ls s g c m us ov) (h:UpSt w wo w3 r (k+16+4*s) N (lv ls s) g c (grps m) ov (.slice (some ⟨g3,0,none⟩) m2 c3)) (hr:r<w.heap.size) (hm:grps m<=4) (hm2:m2=(lv ls (s+1)).length) (hd:Q29 w3 g3 c3 (lv ls (s+1))) (hg3:wo.heap.size<=g3)
 (hown:w6.ownsRow w.heap.size 189 1 v6 (s+1+1) (us++[.slice (some ⟨g,0,none⟩) m c]++[.slice (some ⟨g3,0,none⟩) m2 c3])) (hg:(w3.alloc (.cells #[.slice (some ⟨g3,0,none⟩) m2 c3] 189)).grownBy w6 ov.ownBlock):ReSt w w6 r k N ls (s+1) g3 c3 m2 (us++[.slice (some ⟨g,0,none⟩) m c]) v6:=by
 obtain⟨-,hrow⟩:=h.lowRow h0 hr;have hal:zE w3.heap.size w3 (w3.alloc (.cells #[.slice (some ⟨g3,0,none⟩) m2 c3] 189)):=Q04 _ _;have hfar:∀ b,b<w3.heap.size->ov.ownBlock≠some b->w6.heap[b]?=w3.heap[b]?:=fun b hb hne=>(hg.block b (by have:=hal.size; omega) (fun e=>hne e.symm)).trans (hal.block b hb)
 have hs6:=hg.size;have hs4:=hal.size;have hs:=h.only.size;have hs0:=h0.only.size;have ho:Only (RM r N) w w3:=h0.only.trans (h.only.mono fun b _=>RM.mono fun b=>.inl);obtain⟨cur,hcur,-⟩:=hd.row;refine⟨hown,by rw [zJ,h0.len]; rfl,hd.keep (hfar g3 hd.lt (Q05 hrow hcur (by decide))),by omega,hm2,?_,?_⟩
 ·refine(h.book.kept (w':=w6) (by omega) fun b hbl hb=>hfar b hbl fun e=>?_).less (by omega) fun b=>.inl
  rcases hb with hb | hb
  ·have:=Q07 hrow e; omega
  exact hb (.inr (.inr e))
 exact⟨hg.os.trans (hal.os.trans ho.os),hg.tape.trans (hal.tape.trans ho.tape),hg.output.trans (hal.output.trans ho.output),by omega,fun b hb hn=>(hfar b (by omega) (fun e=>by have:=Q07 hrow e; omega)).trans (ho.block b hb hn)⟩
theorem Q9s (w:zB) (r k:Nat) (N:Nat->Prop) (A:Option zA) (n c:Nat) (ls:LL) (h:RBk w r N k) (hk:k<=800000) (hL:Q4L w r N A n ls) (hxl:ls.length=n) (hN:∀ b,N b->b<w.heap.size) (hb:∀ x,x∈ls->x.length<65536) (h5:5<=n) (h16:n<=16) :
 Calls zG 154 #[.pointer (some ⟨r,0,none⟩),.slice A n c] w fun e w'=>∃ v g c2 us,e=.returned v/\ReSt w w' r k N ls 2 g c2 1 us v:=by
 have hrl:=h.lt;have HBK:=sH h;have HL:=sH hL;have HXL:=sH hxl;have HNN:=sH hN;have HLE:=sH hb;have HZ:=sH Q1Y;have HZS:=sH (show inkZ.size=32 by simp [inkZ,bRow]);obtain⟨i0,hi0,hz0,hz1,hz2⟩:=info_parts Q7t;obtain⟨i1,hi1,hy0,hy1,hy2⟩:=info_parts Qc8;clear h hL hxl hN hb;go_enter Tryz.func154,Tryz.ntmps154
 go_wp2_with fail
 go_loopw [5,6] (fun ov iv wr=>∃ i:Nat,i<=n/\iv=.int .i64 i/\LoSt w wr r k N ls i ov) (fun _ iv _=>n - (intOf iv).toNat)
 case atStart=>exact⟨0,by omega,rfl,⟨World.ownsRow_nil _ _ _ _,HBK.out,Only.refl _ _⟩⟩
 obtain⟨i,hi,rfl,hst⟩:=hrel;have HST:=sH hst;have hsz:=hst.only.size;by_cases hin:i<n
 ·have hinI:(i:Int)<(n:Int):=by omega
  have hil:i<ls.length:=by have:=HXL.out; omega
  obtain⟨ad,rfl,hadb,hcell⟩:=(HL.out wr hst.only.size hst.only.block).2 (by omega);have hx:=zD hil;obtain⟨Ak,mk,ck,hq,hrd⟩:=hcell i _ hx;have hmk:mk<65536:=by have:=HLE.out _ (List.getElem_mem hil); have:=hrd.1; simp at this; omega
  generalize ls[i]=x at hx hrd;obtain⟨hc1,hc2⟩:=hst.call HNN.out;have HLF:=sH (Qba wr r (k+i) _ Ak mk ck x hc1 (by omega) hrd hc2 hmk);have hds:=Q0E (Q2o x);have hdo:=Q0K (Q1z x);have hdv:(bRow (Q1z x)).toList=(Q1z x).map vb:=by simp [bRow]
  obtain⟨D,hD⟩:∃ D,D=bRow (Q1z x):=⟨_,rfl⟩;rw [<- hD] at HLF hds hdo hdv;have HDS:=sH hds;have HDO:=sH hdo;have HDV:=sH hdv;have HX:=sH hx;clear hst hcell hx hrd hc1 hc2 hds hdo hdv hD;go_wp2_with fail
  refine HLF.out.mono ?_;rintro _ w3 ⟨rfl,hb3,ho3⟩;obtain⟨hr3,hk3,hn3⟩:=HST.out.called hrl hb3 ho3;have HR3:=sH hr3;have HB3:=sH hk3;have HO3:=sH hn3;have hs3:=hn3.size;clear hb3 ho3 hr3 hk3 hn3 HLF HST hq;go_upto_region 6 with(refine Q00 (o:=⟨none,_,_,_,_,_⟩) rfl 60 (.tmp 7) (.tmp 27) rfl w3.heap.size 0 D rfl rfl 60 inkZ (by rw [HZ.out]; exact Blk.newAt rfl) (by rw [HDS.out]; rfl) (by rw [HDS.out,HZS.out]; omega) HDO.out ?_; intro w4 hT4 hD4; rw [Q0c _ _ (by rw [HDS.out,HZS.out])] at hD4)
  have hb4:zE w3.heap.size w3 w4:=hT4.below ((zK _ _).alloc (zI _) _) (zI _);have HB4:=sH (HB3.out.below hb4);have HO4:=sH (HO3.out.trans (Only.of_below hb4));have HW4:=sH (Q0d HR3.out (fun b hb=>hb4.block b (Q07 HR3.out hb).2));have hs4:=hb4.size;have HD4:=sH hD4;obtain⟨g4,hg4⟩:∃ g,g=w3.heap.size:=⟨_,rfl⟩;rw [<- hg4] at HD4 ⊢;have hSZ:=HDS.out;clear hT4 hD4 hb4 hg4 HB3 HO3 HR3;go_wp2_with (first
   | (refine Q01 (o:=⟨some 30,_,_,_,_,_⟩) rfl 60 (.tmp 7) rfl g4 0 32 rfl 60 _ D _ HD4.out zO rfl rfl HDS.out (fun _ _=>by rw [zL]) ?_)
   | (at_builtin; (rw [Q5C _ D 32 rfl HDS.out]; refine Q03 _ rfl (.tmp 29) (.tmp 31) 189 rfl w.heap.size 60 i0 _ 32 32 zS hi0 hz0 hz1 hz2 HZS.out (by omega) _ i (Q0o ((ls.take i).map Q1z)) rfl ?row (w4.heap.size+1) (some ⟨w4.heap.size,0,none⟩) 1 1 D.toList rfl ?rd ?c1 ?c2 ?c3 ?c4 ?_)))
  case row=>exact Q0d HW4.out (fun b hb=>zF _ _ b (Q07 HW4.out hb).2)
  case rd=>exact Q5A _ _ _ _ HDS.out
  case c1=>exact fun u hu=>List.all_eq_true.1 (by have:=HDO.out; rw [<- Array.all_toList] at this; exact this) u hu
  case c2=>unfold maxLen; omega
  case c3=>omega
  case c4=>have:=HO4.out.size; simp; omega
  intro v6 w6 hown6 hg6 hor6;have HN6:=sH (QdQ (w3:=w4) HX.out HDV.out hrl HB4.out HO4.out HW4.out (by rw [List.map_take]; exact hown6) hg6 HNN.out);clear hown6 hg6 hor6 HW4 HB4 HO4;go_wp2_with fail
  go_roundw
  case rel=>exact⟨i+1,by omega,by go_num,HN6.out⟩
  case measure=>simp [intOf]; omega
 obtain rfl:i=n:=by omega
 have hinI:¬ (i:Int)<(i:Int):=by omega
 obtain⟨g0,c0,rfl,hre⟩:=ReSt.start hst HXL.out h5 h16;have HRE:=sH hre;clear hst hre HST;go_wp2_with fail
 go_loopw [5,9] (fun lw ov wr=>∃ s g c m us,s<=2/\lw=.slice (some ⟨g,0,none⟩) m c/\ReSt w wr r k N ls s g c m us ov) (fun lw _ _=>(match lw with | .slice _ n _=>n | _=>0))
 case atStart=>exact⟨0,_,_,_,_,by omega,rfl,HRE.out⟩
 obtain⟨s,g,c,m,us,hs,rfl,hre⟩:=hrel;obtain⟨wo,hwo⟩:∃ x,x=wr:=⟨_,rfl⟩;rw [<- hwo] at hre ⊢;clear hwo;obtain⟨hc1,hc2,hc3,hc4⟩:=Q9L (ls:=ls) (by have:=HXL.out; omega) (by have:=HXL.out; omega) s hs;rw [<- hre.m] at hc1 hc2 hc3 hc4;have HR:=sH hre;have HLOW:=sH (hre.low HNN.out);have hso:=hre.only.size;have hcm:m<=c:=by have:=hre.dig.cap; rw [<- hre.m] at this; exact this.1
 by_cases h1:1<m
 ·have hs2:=hc1.1 h1;have h1i:(1:Int)<(m:Int):=by omega
  have HU:=sH hre.inner;clear hre;go_wp2_with fail
  go_loopw [10,11] (fun nv jv wr=>∃ j:Nat,j<=grps m/\jv=.int .i64 (4*(j:Int))/\UpSt w wo wr r (k+16+4*s) N (lv ls s) g c j _ nv) (fun _ jv _=>m+8 - (intOf jv).toNat)
  case atStart=>exact⟨0,by omega,by simp,HU.out⟩
  obtain⟨j,hj,rfl,hup⟩:=hrel;obtain⟨hdg,hov⟩:=hup.lowRow HR.out hrl;have hsj:=hup.only.size;have HUP:=sH hup;by_cases hjn:j<grps m
  ·have h4n:4*j<m:=Q5l.1 hjn;have h4i:4*(j:Int)<(m:Int):=by omega
   have h04:(0:Int)<=4*(j:Int):=by omega
   have hgl:(lv ls s).length=m:=HR.out.m.symm;have hrs:Q08 wr wr.heap.size 32 (if c=4*j then some ⟨g,0,none⟩ else(some ⟨g,0,none⟩:Option zA).map (·.add (4*j*32))) (min (4*j+4) m - 4*j) (Q0o (grp (lv ls s) j)):=by have h1:=hdg.reads (Q2N ls s);rw [hgl] at h1;have h2:=h1.sub (l:=4*j) (k:=min (4*j+4) m) (cap:=c) (by omega) (by omega) hcm;have h3:=Q7d (Q2N ls s) j (by omega);rw [hgl] at h3;rw [h3] at h2;exact h2
   obtain⟨hc1,hc2⟩:=hup.call HLOW.out;have hcall:=QeA wr r (k+16+4*s+j) _ _ _ (c - 4*j) (grp (lv ls s) j) hc1 (by omega) hrs (Q97 (Q2N ls s) j) hc2 (by omega) (by omega);have hds:=Q0E (Q58 (grp (lv ls s) j));have hdo:=Q0K (upD (grp (lv ls s) j));have hdv:(bRow (upD (grp (lv ls s) j))).toList=(upD (grp (lv ls s) j)).map vb:=by simp [bRow]
   obtain⟨D,hD⟩:∃ D,D=bRow (upD (grp (lv ls s) j)):=⟨_,rfl⟩;rw [<- hD] at hcall hds hdo hdv;have HDS:=sH hds;have HDO:=sH hdo;have HDV:=sH hdv;clear hup hdg hov hrs hc1 hc2 hds hdo hdv hD;by_cases h4:(m:Int)<4*(j:Int)+4
   ·have hsl:=fun(W:zB)=>Q30 (P:=zG) (t:=189) zS Q3v (some ⟨g,0,none⟩) m c (4*j) m (4*(j:Int)) (m:Int) (by omega) rfl (by omega) (by omega) W
    rw [show min (4*j+4) m=m by omega] at hcall;generalize m - 4*j=K at hsl hcall;generalize c - 4*j=C2 at hsl hcall;generalize (if c=4*j then(some ⟨g,0,none⟩:Option zA) else(some ⟨g,0,none⟩:Option zA).map (·.add (4*j*32)))=A2 at hsl hcall;have HG:=sH hcall;clear hcall;go_wp2_with fail
    refine HG.out.mono ?_;rintro _ w3 ⟨rfl,hb3,ho3⟩;obtain⟨hr3,hk3,hn3⟩:=HUP.out.called (by omega) hb3 ho3;have HR3:=sH hr3;have HB3:=sH hk3;have HO3:=sH hn3;have hs3:=hn3.size;clear hb3 ho3 hr3 hk3 hn3 HG HUP hsl;go_upto_region 14 with(refine Q00 (o:=⟨none,_,_,_,_,_⟩) rfl 60 (.tmp 12) (.tmp 55) rfl w3.heap.size 0 D rfl rfl 60 inkZ (by rw [HZ.out]; exact Blk.newAt rfl) (by rw [HDS.out]; rfl) (by rw [HDS.out,HZS.out]; omega) HDO.out ?_; intro w4 hT4 hD4; rw [Q0c _ _ (by rw [HDS.out,HZS.out])] at hD4)
    have hb4:zE w3.heap.size w3 w4:=hT4.below ((zK _ _).alloc (zI _) _) (zI _);have HB4:=sH (HB3.out.below hb4);have HO4:=sH (HO3.out.trans (Only.of_below hb4));have HW4:=sH (Q0d HR3.out (fun b hb=>hb4.block b (Q07 HR3.out hb).2));have hs4:=hb4.size;have HD4:=sH hD4;obtain⟨g4,hg4⟩:∃ g,g=w3.heap.size:=⟨_,rfl⟩;rw [<- hg4] at HD4 ⊢;have hSZ:=HDS.out;clear hT4 hD4 hb4 hg4 HB3 HO3 HR3;go_wp2_with (first
     | (refine Q01 (o:=⟨some 58,_,_,_,_,_⟩) rfl 60 (.tmp 12) rfl g4 0 32 rfl 60 _ D _ HD4.out zO rfl rfl HDS.out (fun _ _=>by rw [zL]) ?_)
     | (at_builtin; (rw [Q5C _ D 32 rfl HDS.out]; refine Q03 _ rfl (.tmp 57) (.tmp 59) 189 rfl wo.heap.size 60 i0 _ 32 32 zS hi0 hz0 hz1 hz2 HZS.out (by omega) _ j (Q0o (Q1D (lv ls s) j)) rfl ?row (w4.heap.size+1) (some ⟨w4.heap.size,0,none⟩) 1 1 D.toList rfl ?rd ?c1 ?c2 ?c3 ?c4 ?_)))
    case row=>exact Q0d HW4.out (fun b hb=>zF _ _ b (Q07 HW4.out hb).2)
    case rd=>exact Q5A _ _ _ _ HDS.out
    case c1=>exact fun u hu=>List.all_eq_true.1 (by have:=HDO.out; rw [<- Array.all_toList] at this; exact this) u hu
    case c2=>unfold maxLen; omega
    case c3=>omega
    case c4=>have:=HO4.out.size; simp; omega
    intro v6 w6 hown6 hg6 hor6;have HN6:=sH (Qa9 (w:=w) (c:=c) (w3:=w4) HDV.out (by omega) HB4.out HO4.out HW4.out hown6 hg6);clear hown6 hg6 hor6 HW4 HB4 HO4;go_wp2_with fail
    go_roundw
    case rel=>exact⟨j+1,by omega,by go_num,HN6.out⟩
    case measure=>simp [intOf]; omega
   have hsl:=fun(W:zB)=>Q30 (P:=zG) (t:=189) zS Q3v (some ⟨g,0,none⟩) m c (4*j) (4*j+4) (4*(j:Int)) (4*(j:Int)+4) (by omega) (by omega) (by omega) (by omega) W
   rw [show min (4*j+4) m=4*j+4 by omega] at hcall;generalize 4*j+4 - 4*j=K at hsl hcall;generalize c - 4*j=C2 at hsl hcall;generalize (if c=4*j then(some ⟨g,0,none⟩:Option zA) else(some ⟨g,0,none⟩:Option zA).map (·.add (4*j*32)))=A2 at hsl hcall;have HG:=sH hcall;clear hcall;go_wp2_with fail
   refine HG.out.mono ?_;rintro _ w3 ⟨rfl,hb3,ho3⟩;obtain⟨hr3,hk3,hn3⟩:=HUP.out.called (by omega) hb3 ho3;have HR3:=sH hr3;have HB3:=sH hk3;have HO3:=sH hn3;have hs3:=hn3.size;clear hb3 ho3 hr3 hk3 hn3 HG HUP hsl;go_upto_region 14 with(refine Q00 (o:=⟨none,_,_,_,_,_⟩) rfl 60 (.tmp 12) (.tmp 55) rfl w3.heap.size 0 D rfl rfl 60 inkZ (by rw [HZ.out]; exact Blk.newAt rfl) (by rw [HDS.out]; rfl) (by rw [HDS.out,HZS.out]; omega) HDO.out ?_; intro w4 hT4 hD4; rw [Q0c _ _ (by rw [HDS.out,HZS.out])] at hD4)
   have hb4:zE w3.heap.size w3 w4:=hT4.below ((zK _ _).alloc (zI _) _) (zI _);have HB4:=sH (HB3.out.below hb4);have HO4:=sH (HO3.out.trans (Only.of_below hb4));have HW4:=sH (Q0d HR3.out (fun b hb=>hb4.block b (Q07 HR3.out hb).2));have hs4:=hb4.size;have HD4:=sH hD4;obtain⟨g4,hg4⟩:∃ g,g=w3.heap.size:=⟨_,rfl⟩;rw [<- hg4] at HD4 ⊢;have hSZ:=HDS.out;clear hT4 hD4 hb4 hg4 HB3 HO3 HR3;go_wp2_with (first
    | (refine Q01 (o:=⟨some 58,_,_,_,_,_⟩) rfl 60 (.tmp 12) rfl g4 0 32 rfl 60 _ D _ HD4.out zO rfl rfl HDS.out (fun _ _=>by rw [zL]) ?_)
    | (at_builtin; (rw [Q5C _ D 32 rfl HDS.out]; refine Q03 _ rfl (.tmp 57) (.tmp 59) 189 rfl wo.heap.size 60 i0 _ 32 32 zS hi0 hz0 hz1 hz2 HZS.out (by omega) _ j (Q0o (Q1D (lv ls s) j)) rfl ?row (w4.heap.size+1) (some ⟨w4.heap.size,0,none⟩) 1 1 D.toList rfl ?rd ?c1 ?c2 ?c3 ?c4 ?_)))
   case row=>exact Q0d HW4.out (fun b hb=>zF _ _ b (Q07 HW4.out hb).2)
   case rd=>exact Q5A _ _ _ _ HDS.out
   case c1=>exact fun u hu=>List.all_eq_true.1 (by have:=HDO.out; rw [<- Array.all_toList] at this; exact this) u hu
   case c2=>unfold maxLen; omega
   case c3=>omega
   case c4=>have:=HO4.out.size; simp; omega
   intro v6 w6 hown6 hg6 hor6;have HN6:=sH (Qa9 (w:=w) (c:=c) (w3:=w4) HDV.out (by omega) HB4.out HO4.out HW4.out hown6 hg6);clear hown6 hg6 hor6 HW4 HB4 HO4;go_wp2_with fail
   go_roundw
   case rel=>exact⟨j+1,by omega,by go_num,HN6.out⟩
   case measure=>simp [intOf]; omega
  have h4i:¬ 4*(j:Int)<(m:Int):=by have:=mt Q5l.2 hjn; omega
  obtain rfl:j=grps m:=by omega
  obtain⟨g3,c3,rfl,hd3,hg3,hl3⟩:=hup.done HR.out h1;obtain⟨m2,hm2⟩:∃ m2,m2=grps m:=⟨_,rfl⟩;have hm2':m2<=4/\m2<m:=by rw [hm2]; refine⟨hc4,?_⟩; unfold grps; omega
  have h4j:¬ 4*(m2:Int)<(m:Int):=by rw [hm2]; exact h4i
  rw [<- hm2];have HM2:=sH hm2;have HD3:=sH hd3;have HOV:=sH hov;have HW3:=sH (Q0N wr #[.slice (some ⟨g3,0,none⟩) m2 c3] 189);clear hup hdg hov hd3 hm2;go_wp2_with (at_builtin; go_must (refine Q03 _ rfl (.tmp 61) (.tmp 63) 201 rfl w.heap.size 189 i1 _ 1 24 Tryz.underlying201 hi1 hy0 hy1 hy2 rfl (by omega) _ (s+1) (us++[.slice (some ⟨g,0,none⟩) m c]) rfl ?row (wr.heap.size+1) (some ⟨wr.heap.size,0,none⟩) 1 1 [.slice (some ⟨g3,0,none⟩) m2 c3] rfl ?rd ?c1 ?c2 ?c3 ?c4 ?_))
  case row=>exact Q0d HOV.out (fun b hb=>zF _ _ b (Q07 HOV.out hb).2)
  case rd=>exact HW3.out
  case c1=>first | rfl | (intro u hu; rw [List.mem_singleton] at hu; subst hu; rfl)
  case c2=>unfold maxLen; omega
  case c3=>omega
  case c4=>first | omega | (simp; omega)
  intro v6 w6 hown6 hg6 hor6;have hUP:=HUP.out;have HN6:=sH (QeD HR.out (by rw [<- HM2.out] at hUP; rw [<- HM2.out]; exact hUP) hrl hc4 (by rw [hl3,HM2.out]) HD3.out hg3 (by rw [List.append_assoc]; exact hown6) hg6);clear hown6 hg6 hor6 hUP HUP HD3 HOV;go_wp2_with fail
  go_roundw
  case rel=>exact⟨s+1,_,_,m2,_,by omega,rfl,HN6.out⟩
  case measure=>show m2<m; omega
 have hs2:s=2:=by have:=mt hc1.2 h1; omega
 subst hs2;have h1i:¬ (1:Int)<(m:Int):=by omega
 obtain rfl:m=1:=by omega
 clear hre;go_wp2_with fail
 go_ret
 exact⟨_,rfl,g,c,us,HR.out⟩
theorem Q4L.later {w w1:zB} {r n:Nat} {N N':Nat->Prop} {A:Option zA} {ls:LL} (h:Q4L w r N A n ls) (hb:zE w.heap.size w w1) (hN:∀ b,N b->N' b):Q4L w1 r N' A n ls:=fun W hs hk =>h W (by have:=hb.size; omega) fun b hbl hm=>(hk b (by have:=hb.size; omega) fun hm'=>hm (hm'.mono hN)).trans (hb.block b hbl)
theorem ReSt.last {w w':zB} {r k g c:Nat} {N:Nat->Prop} {ls:LL} {us:List zC} {v:zC} (h:ReSt w w' r k N ls 2 g c 1 us v):∃ gv cv,v=.slice (some ⟨gv,0,none⟩) 3 cv/\w'.cell? ⟨gv,2,none⟩=some (.slice (some ⟨g,0,none⟩) 1 c):=by
 rcases h.row.2 with⟨_,h1⟩ | ⟨gv,cap,cur,rfl,h2,h3,h4,h5,h6,h7⟩
 ·omega
 refine⟨gv,cap,rfl,?_⟩;rw [(show Blk w' gv 189 cur from h3).cell,<- zN];have e:(cur.toList.take 3)[2]?=some (.slice (some ⟨g,0,none⟩) 1 c):=by have h7':cur.toList.take 3=us++[.slice (some ⟨g,0,none⟩) 1 c]:=h7;rw [h7',List.getElem?_append_right (by rw [h.len]; exact zI _),h.len];rfl
 rw [List.getElem?_take] at e;split at e
 ·exact e
 cases e
theorem QbA (w:zB) (r k:Nat) (N:Nat->Prop) (A:Option zA) (n c:Nat) (ls:LL) (h:RBk w r N k) (hk:k<=800000) (hL:Q4L w r N A n ls) (hxl:ls.length=n) (hN:∀ b,N b->b<w.heap.size) (hb:∀ x,x∈ls->x.length<65536) (h5:5<=n) (h16:n<=16) :
 Calls zG 124 #[.pointer (some ⟨r,0,none⟩),.slice A n c] w fun e w'=>e=.returned (.tuple #[.agg (bRow (Q2z ls)),.int .i64 0])/\RBk w' r N (k+24)/\Only (RM r N) w w':=by
 have hrl:=h.lt;have hX:=Q04 w (.cells inkZ 60);have hk0:Blk (w.alloc (.cells inkZ 60)) w.heap.size 60 inkZ:=Blk.newAt rfl;have HX:=sH hX;have HK:=sH hk0;have HB0:=sH (h.later hX);have HL:=sH (hL.later hX (N':=fun b=>N b\/(w.heap.size<=b/\b<(w.alloc (.cells inkZ 60)).heap.size)) fun b=>.inl);have HXL:=sH hxl;have HNN:=sH hN;have HLE:=sH hb;have HZ:=sH Q1Y;have HZS:=sH (show inkZ.size=32 by simp [inkZ,bRow]);obtain⟨hone,hrl32⟩:=Qa2 ls (by omega) (by omega);have hds:=Q0E hrl32;have hdo:=Q0K (Q2z ls);have hdv:(bRow (Q2z ls)).toList=(Q2z ls).map vb:=by simp [bRow]
 obtain⟨D,hD⟩:∃ D,D=bRow (Q2z ls):=⟨_,rfl⟩;rw [<- hD] at hds hdo hdv ⊢;have HDS:=sH hds;have HDO:=sH hdo;have HDV:=sH hdv;have HONE:=sH hone;obtain⟨g4,hg4⟩:∃ g,g=w.heap.size:=⟨_,rfl⟩;have hgw:w.heap.size<=g4:=by omega
 have hg4l:g4<(w.alloc (.cells inkZ 60)).heap.size:=by simp; omega
 have hn1:¬ (n:Int)<1:=by omega
 have hn2:¬ (1024:Int)<(n:Int):=by omega
 clear h hL hX hk0 hxl hN hb hds hdo hdv hD hone hrl32;go_enter Tryz.func124,Tryz.ntmps124
 go_upto_region 1 with fail
 rw [<- HZ.out];generalize zR w _=w1 at HX HK HB0 HL hg4l ⊢;rw [<- hg4] at HK ⊢;have hs1:=HX.out.size;clear hg4;go_wp2_with fail
 go_loopw [6] (fun iv wr=>∃ i:Nat,i<=n/\iv=.int .i64 i/\∃ d,wr=w1.drewN d) (fun iv _=>n - (intOf iv).toNat)
 case atStart=>exact⟨0,by omega,rfl,0,rfl⟩
 obtain⟨i,hi,rfl,d,rfl⟩:=hrel;by_cases hin:i<n
 ·have hinI:(i:Int)<(n:Int):=by omega
  have hil:i<ls.length:=by have:=HXL.out; omega
  obtain⟨ad,rfl,hadb,hcell⟩:=(HL.out w1 (zI _) fun _ _ _=>rfl).2 (by omega);have hx:=zD hil;obtain⟨Ak,mk,ck,hq,hrd⟩:=hcell i _ hx;have hmk:mk<65536:=by have:=HLE.out _ (List.getElem_mem hil); have:=hrd.1; simp at this; omega
  have hmkI:¬ (65536:Int)<=(mk:Int):=by omega
  have hqd:(w1.drewN d).cell? (ad.add i)=some (.slice Ak mk ck):=hq;clear hcell hx hrd hq;go_wp2_with fail
  go_roundw
  case rel=>exact⟨i+1,by omega,by go_num,d,rfl⟩
  case measure=>simp [intOf]; omega
 obtain rfl:i=n:=by omega
 have hinI:¬ (i:Int)<(i:Int):=by omega
 have hb2:zE w1.heap.size w1 (w1.drewN d):=Q0v (zK _ _) d;have HLV:=sH (Q9s (w1.drewN d) r k _ A i c ls (HB0.out.below hb2) hk (HL.out.later hb2 fun _ h=>h) HXL.out (fun b hb=>by
  rcases hb with hb | hb
  ·have:=HNN.out b hb; show b<w1.heap.size; omega
  exact hb.2) HLE.out h5 h16)
 have HX2:=sH (HX.out.trans (hb2.mono hs1));have HK2:=sH (HK.out.below' hb2);have hs2:=hb2.size;generalize w1.drewN d=w2 at HLV HX2 HK2 hs2;clear hb2;go_wp2_with fail
 refine HLV.out.mono ?_;rintro _ w3 ⟨v,g,c2,us,rfl,hre⟩;obtain⟨gv,cv,rfl,hcl⟩:=hre.last;obtain⟨cur,q1,q2,q3⟩:=hre.dig.row;have HQ:=sH q1;have HPT:=sH (show ∀ j,j<32->cur[0+j]?=D[j]? from fun j hj=>by
  rw [zL,<- zN,<- zN];have e:cur.toList.take 32=D.toList:=by rw [HDV.out];have h3:=q3;rw [HONE.out] at h3;have h4:cur.toList.take 32=Q0o [Q2z ls]:=h3;rw [h4]; simp [Q0o]
  rw [<- e,List.getElem?_take,if_pos hj])
 have HK3:=sH (hre.only.blk HK2.out (by
  rintro (e | e)
  ·omega
  exact e (.inr ⟨hgw,hg4l⟩)))
 have HB3:=sH hre.book;have HO3:=sH ((Only.of_below HX2.out).trans (hre.only.mono fun b _=>RM.mono (N:=N) fun b=>.inl));have hs3:=hre.only.size;clear hre q1 q2 q3;go_wp2_with (first
  | (refine Q01 (o:=⟨some 40,_,_,_,_,_⟩) rfl 60 (.tmp 39) rfl g 0 32 rfl 60 cur D _ HQ.out zO rfl rfl HDS.out HPT.out ?_)
  | (refine Q00 (o:=⟨none,_,_,_,_,_⟩) rfl 60 (.tmp 4) (.tmp 40) rfl g4 0 D rfl rfl 60 inkZ HK3.out (by rw [HDS.out]; rfl) (by rw [HDS.out,HZS.out]; omega) HDO.out ?_; intro w5 hT5 hD5; rw [Q0c _ _ (by rw [HDS.out,HZS.out])] at hD5))
 refine bodyPost_ret (Q09 rfl _ _ g4 32 60 _ _ rfl hD5 zO rfl rfl HDS.out) rfl ⟨rfl,?_,?_⟩
 ·exact(HB3.out.turned hT5 (.inr ⟨hgw,hg4l⟩) (by omega)).less (by omega) fun b=>.inl
 exact⟨hT5.os.trans HO3.out.os,hT5.tape.trans HO3.out.tape,hT5.output.trans HO3.out.output,by rw [hT5.size]; exact HO3.out.size,fun i hi hn=>(hT5.block i (by omega)).trans (HO3.out.block i hi hn)⟩
end
section
open Go.RowKit Go.Maps
attribute [local irreducible] wpList
theorem Qdw (x y:Wish) (A B A' B':Option zA) (n c n' c' m d m' d':Nat):spl (Q06 x A n c A' n' c') 0 (Q06 y B m d B' m' d').toList=Q06 y B m d B' m' d':=Q0c (Q06 x A n c A' n' c') (Q06 y B m d B' m' d') rfl
end
section
open Go.RowKit Go.Maps
def Q61 (w:zB) (B:Nat) (A:Option zA) (n:Nat) (xss:LL):Prop :=xss.length=n/\(0<n->∃ ad,A=some ad/\ad.block<B/\∀ (k:Nat) (x:List UInt8),xss[k]?=some x->∃ Ak mk ck,w.cell? (ad.add k)=some (.slice Ak mk ck)/\Q08 w B 1 Ak mk (x.map vb)/\mk<=ck)
theorem Q61.below {w w':zB} {B n:Nat} {A:Option zA} {xss:LL} (h:Q61 w B A n xss) (hb:zE B w w'):Q61 w' B A n xss :=⟨h.1,fun h0=>by obtain⟨ad,hA,hB,hc⟩:=h.2 h0;exact⟨ad,hA,hB,fun k x hx=>by obtain⟨Ak,mk,ck,h1,h2,h3⟩:=hc k x hx;exact⟨Ak,mk,ck,(hb.cell (by rw [Q0a]; exact hB)).trans h1,h2.below hb,h3⟩⟩⟩
theorem Q61.more {w:zB} {B B' n:Nat} {A:Option zA} {xss:LL} (h:Q61 w B A n xss) (hB:B<=B'):Q61 w B' A n xss :=⟨h.1,fun h0=>by obtain⟨ad,h1,h2,h3⟩:=h.2 h0;exact⟨ad,h1,by omega,fun k x hx=>by obtain⟨Ak,mk,ck,q1,q2,q3⟩:=h3 k x hx;exact⟨Ak,mk,ck,q1,q2.more hB,q3⟩⟩⟩
theorem Q61.rows {w:zB} {B n:Nat} {A:Option zA} {xss:LL} (h:Q61 w B A n xss):Q45 w B A n xss :=⟨h.1,fun h0=>by obtain⟨ad,h1,h2,h3⟩:=h.2 h0;exact⟨ad,h1,h2,fun k x hx=>by obtain⟨Ak,mk,ck,q1,q2,q3⟩:=h3 k x hx;exact⟨Ak,mk,ck,q1,q2⟩⟩⟩
theorem OwnL.rowsC {w:zB} {B0:Nat} {v:zC} {xss:LL} {vs:List zC} (h:OwnL w B0 v xss vs):∃ A c,v=.slice A xss.length c/\xss.length<=c/\Q61 w w.heap.size A xss.length xss:=by
 have hr:=fun A c (hv:v=.slice A xss.length c)=>Q08.of_own (A:=A) (c:=c) (by rw [<- hv]; exact h.row)
 have hrow:∀ A,Q08 w w.heap.size 1 A xss.length vs->Q61 w w.heap.size A xss.length xss:=fun A hrd=>⟨rfl,fun h0=>by obtain⟨ad,rfl,hlt,hc⟩:=hrd.2 h0;refine⟨ad,rfl,hlt,fun k x hx=>?_⟩;obtain⟨u,h1,h2⟩:=h.at_ k x hx;obtain⟨Ak,ck,rfl,h5,_,h3,_⟩:=Q0f h2;exact⟨Ak,x.length,ck,hc k _ h1,h3,h5⟩⟩
 rcases h.row.2 with⟨rfl,h0⟩ | ⟨g,cap,cur,rfl,hg,_,h1,h2,_⟩
 ·exact⟨none,0,by rw [h0],by omega,hrow _ (hr none 0 (by rw [h0]))⟩
 exact⟨_,cap,rfl,h1,hrow _ (hr _ _ rfl)⟩
theorem Q7j (f:Nat) (b:List UInt8) (acc:LL):Q3p (f+1) b acc=if (ts b 128).2.2≠0 then(acc,b,(ts b 128).2.2) else Q3p f (ts b 128).2.1 (acc++[(ts b 128).1]):=rfl
theorem OwnL.push_keep {w w3 w6:zB} {B0:Nat} {v u y:zC} {xss:LL} {vs:List zC} {z:List UInt8} (h:OwnL w B0 v xss vs) (hb:zE w.heap.size w w3) (hg:(w3.alloc (.cells #[u] 22)).grownBy w6 v.ownBlock) (hy:OwnB w3 B0 y z):OwnB w6 B0 y z:=by
 have hal:zE w3.heap.size w3 (w3.alloc (.cells #[u] 22)):=Q04 _ _;exact(hy.below hal).keep fun b hb'=>by
  obtain⟨cur,hcur⟩:=Q5M hy hb';refine hg.block b (by have:=hy.lt hb'; have:=hal.size; omega) fun e=>?_
  have hr3:w3.ownsRow B0 22 1 v xss.length vs:=Q0d h.row fun b hb''=>hb.block b (Q07 h.row hb'').2
  exact Q05 hr3 hcur (by decide) e.symm
theorem Qca (b:List UInt8) (most:Nat):(ts b most).1.length<=b.length:=by
 rw [ts_eq];have:=Qch b;split
 ·simp
 split
 ·simp
 split
 ·simp
 show ((tn b).2.1.take (tn b).1).length<=_;rw [List.length_take]; omega
end
section
open Go.RowKit Go.Maps
attribute [local irreducible] wpList Q0h
theorem Q9f:∀ (l:LL),(∀ x,x∈l->x.length<=120)->(l.map strB).flatten.length<=128*l.length
 | [],_=>by simp
 | x :: t,h=>by
  rw [List.map_cons,List.flatten_cons,zJ,List.length_cons];have h1:=Q9f t fun y hy=>h y (List.mem_cons_of_mem _ hy)
  have h2:=h x (List.mem_cons_self ..);have h3:=(Q2D (n:=x.length) (by unfold maxN; omega)).2;have h4:(strB x).length=(numB x.length).length+x.length:=by unfold strB; rw [zJ]
  omega
end
section
open Go.RowKit
attribute [local irreducible] wpList
theorem Qbw (x y:Wish) (A:Option zA) (n c:Nat) (A':Option zA) (n' c':Nat) (D:Option zA) (m d:Nat) (D':Option zA) (m' d':Nat) (w:zB) (B:Nat) (hx:Q2g w B x A n c A' n' c') (hy:Q2g w B y D m d D' m' d') (hB:B<=w.heap.size) :
 Calls zG 45 #[.agg (Q06 x A n c A' n' c'),.agg (Q06 y D m d D' m' d')] w fun e w'=>e=.returned (.bool (Q6Y x y))/\zE w.heap.size w w':=by
 have HEB:=sH (fun W (hb:zE w.heap.size w W)=>Q2b A D n m c d x.data y.data W B B (hx.data.below (hb.mono hB)) (hy.data.below (hb.mono hB)) (by have:=hx.dm; unfold maxLen; omega) (by have:=hy.dm; unfold maxLen; omega));have HEI:=sH (fun W (hb:zE w.heap.size w W)=>Q4H A' D' n' m' c' d' x.next y.next W B B (hx.next.below (hb.mono hB)) (hy.next.below (hb.mono hB)) (by have:=hx.nm; unfold maxLen; omega) (by have:=hy.nm; unfold maxLen; omega));clear hx hy;obtain⟨xc,xs,xg,xe,xk,xb,xd,xo,xn,xt⟩:=x;obtain⟨yc,ys,yg,ye,yk,yb,yd,yo,yn,yt⟩:=y;simp only at HEB HEI;unfold Q06 Q6Y;simp only;go_enter Tryz.func45,Tryz.ntmps45
 go_upto_region 1 with fail
 have hX:zE w.heap.size w ((w.alloc (.cells #[.int .i64 xc,.int .i64 xs,.int .i64 xg,.int .i64 xe,.int .i64 xk,.int .i64 xb,.slice A n c,.int .i64 xo,.int .i64 xn,.slice A' n' c'] 44)).alloc (.cells #[.int .i64 yc,.int .i64 ys,.int .i64 yg,.int .i64 ye,.int .i64 yk,.int .i64 yb,.slice D m d,.int .i64 yo,.int .i64 yn,.slice D' m' d'] 44)):=((zK _ _).alloc (zI _) _).alloc (by simp) _;have k1:Blk ((w.alloc (.cells #[.int .i64 xc,.int .i64 xs,.int .i64 xg,.int .i64 xe,.int .i64 xk,.int .i64 xb,.slice A n c,.int .i64 xo,.int .i64 xn,.slice A' n' c'] 44)).alloc (.cells #[.int .i64 yc,.int .i64 ys,.int .i64 yg,.int .i64 ye,.int .i64 yk,.int .i64 yb,.slice D m d,.int .i64 yo,.int .i64 yn,.slice D' m' d'] 44)) w.heap.size 44 _:=(Blk.new w _ _).alloc _;have k2:Blk ((w.alloc (.cells #[.int .i64 xc,.int .i64 xs,.int .i64 xg,.int .i64 xe,.int .i64 xk,.int .i64 xb,.slice A n c,.int .i64 xo,.int .i64 xn,.slice A' n' c'] 44)).alloc (.cells #[.int .i64 yc,.int .i64 ys,.int .i64 yg,.int .i64 ye,.int .i64 yk,.int .i64 yb,.slice D m d,.int .i64 yo,.int .i64 yn,.slice D' m' d'] 44)) (w.heap.size+1) 44 _:=Blk.newAt (by simp);generalize zR _ _=w1 at hX k1 k2 ⊢;have c0:=k1.cell 0;have c1:=k1.cell 1;have c2:=k1.cell 2;have c3:=k1.cell 3;have c4:=k1.cell 4;have c5:=k1.cell 5;have c6:=k1.cell 6;have c7:=k1.cell 7;have c8:=k1.cell 8;have c9:=k1.cell 9;have d0:=k2.cell 0;have d1:=k2.cell 1;have d2:=k2.cell 2;have d3:=k2.cell 3;have d4:=k2.cell 4;have d5:=k2.cell 5;have d6:=k2.cell 6;have d7:=k2.cell 7;have d8:=k2.cell 8;have d9:=k2.cell 9;simp only [List.getElem?_toArray,List.getElem?_cons_zero,List.getElem?_cons_succ] at c0 c1 c2 c3 c4 c5 c6 c7 c8 c9 d0 d1 d2 d3 d4 d5 d6 d7 d8 d9;have HB:=sH hX;have HE1:=sH (HEB.out w1 hX);have HE2:=sH (fun q=>HEI.out (w1.drewN q) (Q0v HB.out q));clear k1 k2 hX HEB HEI;obtain⟨g1,hg1⟩:∃ g,g=w.heap.size:=⟨_,rfl⟩;obtain⟨g3,hg3⟩:∃ g,g=w.heap.size+1:=⟨_,rfl⟩;rw [<- hg1] at c0 c1 c2 c3 c4 c5 c6 c7 c8 c9;rw [<- hg3] at d0 d1 d2 d3 d4 d5 d6 d7 d8 d9 ⊢;rw [<- hg1];clear hg1 hg3;go_wp2_with (first
  | (go_at_call 14; refine HE1.out.mono ?_; rintro _ _ ⟨rfl,q,rfl⟩)
  | (go_at_call 75; refine(HE2.out _).mono ?_; rintro _ _ ⟨rfl,q2,rfl⟩))
 all_goals go_ret
 all_goals refine⟨Q0C ?_,by first | exact HB.out | exact Q0v HB.out _ | exact Q0v (Q0v HB.out _) _⟩
 all_goals clear HB HE1 HE2 c0 c1 c2 c3 c4 c5 c6 c7 c8 c9 d0 d1 d2 d3 d4 d5 d6 d7 d8 d9
 all_goals rw [zH]
 all_goals simp_all
end
section
open Go.RowKit
def ownW (x:Wish):Wish :=⟨if x.kind=5 then 0 else x.client,if x.kind=5 then 0 else x.stamp,x.group,x.epoch,x.kind,if x.kind=5 then 0 else x.block,if x.kind=2 then x.data else [],if x.kind=4 then x.old else 0,if x.kind=4 then x.new else 0,if x.kind=5 then x.next else []⟩
def Q8e (x:Wish) (A:Option zA) (n c:Nat) (A':Option zA) (n' c':Nat):zC :=if x.kind=5 then .agg (Q06 (ownW x) none 0 0 A' n' c') else if x.kind=2 then .agg (Q06 (ownW x) A n c none 0 0) else .agg (Q06 (ownW x) none 0 0 none 0 0)
theorem QcW (x:Wish) (A:Option zA) (n c:Nat) (A':Option zA) (n' c':Nat) (w:zB) :
 Calls zG 119 #[.agg (Q06 x A n c A' n' c')] w fun e w'=>e=.returned (Q8e x A n c A' n' c')/\zE w.heap.size w w':=by
 have hd0:zE w.heap.size w ((w.alloc (.cells (Q06 x A n c A' n' c') 44)).alloc (.cells (Q06 Q2T none 0 0 none 0 0) 44)):=((zK _ _).alloc (zI _) _).alloc (by simp) _;have k1:Blk ((w.alloc (.cells (Q06 x A n c A' n' c') 44)).alloc (.cells (Q06 Q2T none 0 0 none 0 0) 44)) w.heap.size 44 (Q06 x A n c A' n' c'):=(Blk.new w _ _).alloc _;have k2:Blk ((w.alloc (.cells (Q06 x A n c A' n' c') 44)).alloc (.cells (Q06 Q2T none 0 0 none 0 0) 44)) (w.heap.size+1) 44 (Q06 Q2T none 0 0 none 0 0):=Blk.newAt (by simp);have hs0:((w.alloc (.cells (Q06 x A n c A' n' c') 44)).alloc (.cells (Q06 Q2T none 0 0 none 0 0) 44)).heap.size=w.heap.size+2:=by simp
 go_enter Tryz.func119,Tryz.ntmps119
 go_upto_region 1 with fail
 generalize hW:zR (zR _ _) _=w1;have hW':((w.alloc (.cells (Q06 x A n c A' n' c') 44)).alloc (.cells (Q06 Q2T none 0 0 none 0 0) 44))=w1:=hW;rw [hW'] at hd0 k1 k2 hs0;clear hW hW';obtain⟨g1,hg1⟩:∃ g,g=w.heap.size:=⟨_,rfl⟩;obtain⟨g2,hg2⟩:∃ g,g=w.heap.size+1:=⟨_,rfl⟩;rw [<- hg1] at k1;rw [<- hg2] at k2 ⊢;rw [<- hg1];have ho1:w.heap.size<=g1:=by omega
 have ho2:g1<g2:=by omega
 have ho3:g2<w1.heap.size:=by omega
 have hs1:=hd0.size;have HB1:=sH hd0;have d4:=(k1.cell 4).trans (show (Q06 x A n c A' n' c')[4]?=some (.int .i64 x.kind) from rfl);have d2:=(k1.cell 2).trans (show (Q06 x A n c A' n' c')[2]?=some (.int .i64 x.group) from rfl);have d3:=(k1.cell 3).trans (show (Q06 x A n c A' n' c')[3]?=some (.int .i64 x.epoch) from rfl);have K1':=sH k1;have K2':=sH k2;clear hg1 hg2 k1 k2 hd0 hs0;go_upto_region 2 with(refine Q00 (o:=⟨none,_,_,_,_,_⟩) rfl 44 (.tmp 3) (.tmp 10) rfl w1.heap.size 0 #[.int .i64 0,.int .i64 0,.int .i64 x.group,.int .i64 x.epoch,.int .i64 x.kind,.int .i64 0,.slice none 0 0,.int .i64 0,.int .i64 0,.slice none 0 0] rfl rfl 44 (Q06 Q2T none 0 0 none 0 0) (Blk.newAt rfl) (by kernel_rfl) (by simp [Q06]) (by simp [Value.oneCell']) ?_; intro w2 hT2 hD2; rw [Q0c _ _ (by simp [Q06])] at hD2)
 have hb2:zE w1.heap.size w1 w2:=hT2.below ((zK _ _).alloc (zI _) _) (zI _);obtain⟨g3,hg3⟩:∃ g,g=w1.heap.size:=⟨_,rfl⟩;rw [<- hg3] at hD2 ⊢;have ho4:g2<g3:=by omega
 have K1:=sH (K1'.out.under hb2);have K2:=sH (K2'.out.under hb2);have K3:=sH hD2;have HB:=sH (HB1.out.trans (hb2.mono hs1));have ck:=(K1.out.cell 4).trans (show (Q06 x A n c A' n' c')[4]?=some (.int .i64 x.kind) from rfl);clear hT2 hD2 hb2 hg3 K1' K2' HB1 d4 d2 d3;by_cases hk:x.kind=5
 ·go_upto_region 3 with fail
  clear ck;have cx:=(K1.out.cell 9).trans (show (Q06 x A n c A' n' c')[9]?=some (.slice A' n' c') from rfl);have cw:=(K3.out.cell 9).trans (show (#[.int .i64 0,.int .i64 0,.int .i64 x.group,.int .i64 x.epoch,.int .i64 x.kind,.int .i64 0,.slice none 0 0,.int .i64 0,.int .i64 0,.slice none 0 0]:Array zC)[9]?=some (.slice none 0 0) from rfl);have fw:=K3.out.frozen 9;have k1:=K1.out.far (p:=⟨g3,9,none⟩) (by show g1≠g3; omega) (.slice A' n' c');have k2:=K2.out.far (p:=⟨g3,9,none⟩) (by show g2≠g3; omega) (.slice A' n' c');have k3:=K3.out.set_ 9 (.slice A' n' c');have hb:=HB.out.setCell (p:=⟨g3,9,none⟩) (by show w.heap.size<=g3; omega) (.slice A' n' c');have ck:=(k1.cell 4).trans (show (Q06 x A n c A' n' c')[4]?=some (.int .i64 x.kind) from rfl);go_upto_region 4 with fail
  replace K1:=sH k1
  replace K2:=sH k2
  replace HB:=sH hb
  replace K3:=sH (show Blk _ g3 44 #[.int .i64 0,.int .i64 0,.int .i64 x.group,.int .i64 x.epoch,.int .i64 x.kind,.int .i64 0,.slice none 0 0,.int .i64 0,.int .i64 0,.slice A' n' c'] from k3)
  clear k1 k2 k3 hb cx cw fw ck;generalize World.setCell _ _ _=wn at K1 K2 K3 HB ⊢;have hf:(#[.int .i64 0,.int .i64 0,.int .i64 x.group,.int .i64 x.epoch,.int .i64 x.kind,.int .i64 0,.slice none 0 0,.int .i64 0,.int .i64 0,.slice A' n' c']:Array zC)=Q06 (ownW x) none 0 0 A' n' c':=by unfold Q06 ownW; simp [hk]
  rw [hf] at K3;clear hf;go_wp2_with (first
   | (refine Q01 (o:=⟨some 17,_,_,_,_,_⟩) rfl 44 (.tmp 3) rfl g3 0 10 rfl 44 _ (Q06 (ownW x) none 0 0 A' n' c') _ K3.out zT rfl rfl rfl (fun _ _=>by rw [zL]) ?_)
   | (refine Q00 (o:=⟨none,_,_,_,_,_⟩) rfl 44 (.tmp 2) (.tmp 17) rfl g2 0 (Q06 (ownW x) none 0 0 A' n' c') rfl rfl 44 (Q06 Q2T none 0 0 none 0 0) K2.out (Q2c _ _ _ _ _ _ _) (by simp [Q06]) (Q2B _ _ _ _ _ _ _) ?_; intro w7 hT7 hD7; rw [Q0c _ _ (by simp [Q06])] at hD7))
  refine bodyPost_ret (Q0t rfl _ _ g2 10 44 _ _ rfl hD7 zT rfl rfl rfl) rfl ⟨?_,hT7.below HB.out (by omega)⟩;unfold Q8e; simp [hk]
 have hkb:(x.kind == 5)=false:=by simpa using hk
 go_upto_region 5 with fail
 clear ck;have cx:=(K1.out.cell 0).trans (show (Q06 x A n c A' n' c')[0]?=some (.int .i64 x.client) from rfl);have cw:=(K3.out.cell 0).trans (show (#[.int .i64 0,.int .i64 0,.int .i64 x.group,.int .i64 x.epoch,.int .i64 x.kind,.int .i64 0,.slice none 0 0,.int .i64 0,.int .i64 0,.slice none 0 0]:Array zC)[0]?=some (.int .i64 0) from rfl);have fw:=K3.out.frozen 0;have k1:=K1.out.far (p:=⟨g3,0,none⟩) (by show g1≠g3; omega) (.int .i64 x.client);have k2:=K2.out.far (p:=⟨g3,0,none⟩) (by show g2≠g3; omega) (.int .i64 x.client);have k3:=K3.out.set_ 0 (.int .i64 x.client);have hb:=HB.out.setCell (p:=⟨g3,0,none⟩) (by show w.heap.size<=g3; omega) (.int .i64 x.client);have ck:=(k1.cell 4).trans (show (Q06 x A n c A' n' c')[4]?=some (.int .i64 x.kind) from rfl);go_upto_region 6 with fail
 replace K1:=sH k1
 replace K2:=sH k2
 replace HB:=sH hb
 replace K3:=sH (show Blk _ g3 44 #[.int .i64 x.client,.int .i64 0,.int .i64 x.group,.int .i64 x.epoch,.int .i64 x.kind,.int .i64 0,.slice none 0 0,.int .i64 0,.int .i64 0,.slice none 0 0] from k3)
 clear k1 k2 k3 hb cx cw fw ck;generalize World.setCell _ _ _=wn at K1 K2 K3 HB ⊢;have cx:=(K1.out.cell 1).trans (show (Q06 x A n c A' n' c')[1]?=some (.int .i64 x.stamp) from rfl);have cw:=(K3.out.cell 1).trans (show (#[.int .i64 x.client,.int .i64 0,.int .i64 x.group,.int .i64 x.epoch,.int .i64 x.kind,.int .i64 0,.slice none 0 0,.int .i64 0,.int .i64 0,.slice none 0 0]:Array zC)[1]?=some (.int .i64 0) from rfl);have fw:=K3.out.frozen 1;have k1:=K1.out.far (p:=⟨g3,1,none⟩) (by show g1≠g3; omega) (.int .i64 x.stamp);have k2:=K2.out.far (p:=⟨g3,1,none⟩) (by show g2≠g3; omega) (.int .i64 x.stamp);have k3:=K3.out.set_ 1 (.int .i64 x.stamp);have hb:=HB.out.setCell (p:=⟨g3,1,none⟩) (by show w.heap.size<=g3; omega) (.int .i64 x.stamp);have ck:=(k1.cell 4).trans (show (Q06 x A n c A' n' c')[4]?=some (.int .i64 x.kind) from rfl);go_upto_region 7 with fail
 replace K1:=sH k1
 replace K2:=sH k2
 replace HB:=sH hb
 replace K3:=sH (show Blk _ g3 44 #[.int .i64 x.client,.int .i64 x.stamp,.int .i64 x.group,.int .i64 x.epoch,.int .i64 x.kind,.int .i64 0,.slice none 0 0,.int .i64 0,.int .i64 0,.slice none 0 0] from k3)
 clear k1 k2 k3 hb cx cw fw ck;generalize World.setCell _ _ _=wn at K1 K2 K3 HB ⊢;have cx:=(K1.out.cell 5).trans (show (Q06 x A n c A' n' c')[5]?=some (.int .i64 x.block) from rfl);have cw:=(K3.out.cell 5).trans (show (#[.int .i64 x.client,.int .i64 x.stamp,.int .i64 x.group,.int .i64 x.epoch,.int .i64 x.kind,.int .i64 0,.slice none 0 0,.int .i64 0,.int .i64 0,.slice none 0 0]:Array zC)[5]?=some (.int .i64 0) from rfl);have fw:=K3.out.frozen 5;have k1:=K1.out.far (p:=⟨g3,5,none⟩) (by show g1≠g3; omega) (.int .i64 x.block);have k2:=K2.out.far (p:=⟨g3,5,none⟩) (by show g2≠g3; omega) (.int .i64 x.block);have k3:=K3.out.set_ 5 (.int .i64 x.block);have hb:=HB.out.setCell (p:=⟨g3,5,none⟩) (by show w.heap.size<=g3; omega) (.int .i64 x.block);have ck:=(k1.cell 4).trans (show (Q06 x A n c A' n' c')[4]?=some (.int .i64 x.kind) from rfl);go_upto_region 8 with fail
 replace K1:=sH k1
 replace K2:=sH k2
 replace HB:=sH hb
 replace K3:=sH (show Blk _ g3 44 #[.int .i64 x.client,.int .i64 x.stamp,.int .i64 x.group,.int .i64 x.epoch,.int .i64 x.kind,.int .i64 x.block,.slice none 0 0,.int .i64 0,.int .i64 0,.slice none 0 0] from k3)
 clear k1 k2 k3 hb cx cw fw ck;generalize World.setCell _ _ _=wn at K1 K2 K3 HB ⊢;have ck:=(K1.out.cell 4).trans (show (Q06 x A n c A' n' c')[4]?=some (.int .i64 x.kind) from rfl);by_cases hk2:x.kind=2
 ·have hk0:=hk
  replace hk:=hk2
  go_upto_region 9 with fail
  clear ck;have cx:=(K1.out.cell 6).trans (show (Q06 x A n c A' n' c')[6]?=some (.slice A n c) from rfl);have cw:=(K3.out.cell 6).trans (show (#[.int .i64 x.client,.int .i64 x.stamp,.int .i64 x.group,.int .i64 x.epoch,.int .i64 x.kind,.int .i64 x.block,.slice none 0 0,.int .i64 0,.int .i64 0,.slice none 0 0]:Array zC)[6]?=some (.slice none 0 0) from rfl);have fw:=K3.out.frozen 6;have k1:=K1.out.far (p:=⟨g3,6,none⟩) (by show g1≠g3; omega) (.slice A n c);have k2:=K2.out.far (p:=⟨g3,6,none⟩) (by show g2≠g3; omega) (.slice A n c);have k3:=K3.out.set_ 6 (.slice A n c);have hb:=HB.out.setCell (p:=⟨g3,6,none⟩) (by show w.heap.size<=g3; omega) (.slice A n c);have ck:=(k1.cell 4).trans (show (Q06 x A n c A' n' c')[4]?=some (.int .i64 x.kind) from rfl);go_upto_region 10 with fail
  replace K1:=sH k1
  replace K2:=sH k2
  replace HB:=sH hb
  replace K3:=sH (show Blk _ g3 44 #[.int .i64 x.client,.int .i64 x.stamp,.int .i64 x.group,.int .i64 x.epoch,.int .i64 x.kind,.int .i64 x.block,.slice A n c,.int .i64 0,.int .i64 0,.slice none 0 0] from k3)
  clear k1 k2 k3 hb cx cw fw ck;generalize World.setCell _ _ _=wn at K1 K2 K3 HB ⊢;have ck:=(K1.out.cell 4).trans (show (Q06 x A n c A' n' c')[4]?=some (.int .i64 x.kind) from rfl);go_upto_region 13 with fail
  clear ck;have hf:(#[.int .i64 x.client,.int .i64 x.stamp,.int .i64 x.group,.int .i64 x.epoch,.int .i64 x.kind,.int .i64 x.block,.slice A n c,.int .i64 0,.int .i64 0,.slice none 0 0]:Array zC)=Q06 (ownW x) A n c none 0 0:=by unfold Q06 ownW; simp [hk]
  rw [hf] at K3;clear hf;go_wp2_with (first
   | (refine Q01 (o:=⟨some 42,_,_,_,_,_⟩) rfl 44 (.tmp 3) rfl g3 0 10 rfl 44 _ (Q06 (ownW x) A n c none 0 0) _ K3.out zT rfl rfl rfl (fun _ _=>by rw [zL]) ?_)
   | (refine Q00 (o:=⟨none,_,_,_,_,_⟩) rfl 44 (.tmp 2) (.tmp 42) rfl g2 0 (Q06 (ownW x) A n c none 0 0) rfl rfl 44 (Q06 Q2T none 0 0 none 0 0) K2.out (Q2c _ _ _ _ _ _ _) (by simp [Q06]) (Q2B _ _ _ _ _ _ _) ?_; intro w7 hT7 hD7; rw [Q0c _ _ (by simp [Q06])] at hD7))
  refine bodyPost_ret (Q0t rfl _ _ g2 10 44 _ _ rfl hD7 zT rfl rfl rfl) rfl ⟨?_,hT7.below HB.out (by omega)⟩;unfold Q8e; simp [hk]
 by_cases hk4:x.kind=4
 ·have hk0:=hk
  replace hk:=hk4
  go_upto_region 11 with fail
  clear ck;have cx:=(K1.out.cell 7).trans (show (Q06 x A n c A' n' c')[7]?=some (.int .i64 x.old) from rfl);have cw:=(K3.out.cell 7).trans (show (#[.int .i64 x.client,.int .i64 x.stamp,.int .i64 x.group,.int .i64 x.epoch,.int .i64 x.kind,.int .i64 x.block,.slice none 0 0,.int .i64 0,.int .i64 0,.slice none 0 0]:Array zC)[7]?=some (.int .i64 0) from rfl);have fw:=K3.out.frozen 7;have k1:=K1.out.far (p:=⟨g3,7,none⟩) (by show g1≠g3; omega) (.int .i64 x.old);have k2:=K2.out.far (p:=⟨g3,7,none⟩) (by show g2≠g3; omega) (.int .i64 x.old);have k3:=K3.out.set_ 7 (.int .i64 x.old);have hb:=HB.out.setCell (p:=⟨g3,7,none⟩) (by show w.heap.size<=g3; omega) (.int .i64 x.old);have ck:=(k1.cell 4).trans (show (Q06 x A n c A' n' c')[4]?=some (.int .i64 x.kind) from rfl);go_upto_region 12 with fail
  replace K1:=sH k1
  replace K2:=sH k2
  replace HB:=sH hb
  replace K3:=sH (show Blk _ g3 44 #[.int .i64 x.client,.int .i64 x.stamp,.int .i64 x.group,.int .i64 x.epoch,.int .i64 x.kind,.int .i64 x.block,.slice none 0 0,.int .i64 x.old,.int .i64 0,.slice none 0 0] from k3)
  clear k1 k2 k3 hb cx cw fw ck;generalize World.setCell _ _ _=wn at K1 K2 K3 HB ⊢;have cx:=(K1.out.cell 8).trans (show (Q06 x A n c A' n' c')[8]?=some (.int .i64 x.new) from rfl);have cw:=(K3.out.cell 8).trans (show (#[.int .i64 x.client,.int .i64 x.stamp,.int .i64 x.group,.int .i64 x.epoch,.int .i64 x.kind,.int .i64 x.block,.slice none 0 0,.int .i64 x.old,.int .i64 0,.slice none 0 0]:Array zC)[8]?=some (.int .i64 0) from rfl);have fw:=K3.out.frozen 8;have k1:=K1.out.far (p:=⟨g3,8,none⟩) (by show g1≠g3; omega) (.int .i64 x.new);have k2:=K2.out.far (p:=⟨g3,8,none⟩) (by show g2≠g3; omega) (.int .i64 x.new);have k3:=K3.out.set_ 8 (.int .i64 x.new);have hb:=HB.out.setCell (p:=⟨g3,8,none⟩) (by show w.heap.size<=g3; omega) (.int .i64 x.new);have ck:=(k1.cell 4).trans (show (Q06 x A n c A' n' c')[4]?=some (.int .i64 x.kind) from rfl);go_upto_region 13 with fail
  replace K1:=sH k1
  replace K2:=sH k2
  replace HB:=sH hb
  replace K3:=sH (show Blk _ g3 44 #[.int .i64 x.client,.int .i64 x.stamp,.int .i64 x.group,.int .i64 x.epoch,.int .i64 x.kind,.int .i64 x.block,.slice none 0 0,.int .i64 x.old,.int .i64 x.new,.slice none 0 0] from k3)
  clear k1 k2 k3 hb cx cw fw ck;generalize World.setCell _ _ _=wn at K1 K2 K3 HB ⊢;have hf:(#[.int .i64 x.client,.int .i64 x.stamp,.int .i64 x.group,.int .i64 x.epoch,.int .i64 x.kind,.int .i64 x.block,.slice none 0 0,.int .i64 x.old,.int .i64 x.new,.slice none 0 0]:Array zC)=Q06 (ownW x) none 0 0 none 0 0:=by unfold Q06 ownW; simp [hk]
  rw [hf] at K3;clear hf;go_wp2_with (first
   | (refine Q01 (o:=⟨some 42,_,_,_,_,_⟩) rfl 44 (.tmp 3) rfl g3 0 10 rfl 44 _ (Q06 (ownW x) none 0 0 none 0 0) _ K3.out zT rfl rfl rfl (fun _ _=>by rw [zL]) ?_)
   | (refine Q00 (o:=⟨none,_,_,_,_,_⟩) rfl 44 (.tmp 2) (.tmp 42) rfl g2 0 (Q06 (ownW x) none 0 0 none 0 0) rfl rfl 44 (Q06 Q2T none 0 0 none 0 0) K2.out (Q2c _ _ _ _ _ _ _) (by simp [Q06]) (Q2B _ _ _ _ _ _ _) ?_; intro w7 hT7 hD7; rw [Q0c _ _ (by simp [Q06])] at hD7))
  refine bodyPost_ret (Q0t rfl _ _ g2 10 44 _ _ rfl hD7 zT rfl rfl rfl) rfl ⟨?_,hT7.below HB.out (by omega)⟩;unfold Q8e; simp [hk]
 go_upto_region 13 with fail
 clear ck;have hf:(#[.int .i64 x.client,.int .i64 x.stamp,.int .i64 x.group,.int .i64 x.epoch,.int .i64 x.kind,.int .i64 x.block,.slice none 0 0,.int .i64 0,.int .i64 0,.slice none 0 0]:Array zC)=Q06 (ownW x) none 0 0 none 0 0:=by unfold Q06 ownW; simp [hk,hk4]
 rw [hf] at K3;clear hf;go_wp2_with (first
  | (refine Q01 (o:=⟨some 42,_,_,_,_,_⟩) rfl 44 (.tmp 3) rfl g3 0 10 rfl 44 _ (Q06 (ownW x) none 0 0 none 0 0) _ K3.out zT rfl rfl rfl (fun _ _=>by rw [zL]) ?_)
  | (refine Q00 (o:=⟨none,_,_,_,_,_⟩) rfl 44 (.tmp 2) (.tmp 42) rfl g2 0 (Q06 (ownW x) none 0 0 none 0 0) rfl rfl 44 (Q06 Q2T none 0 0 none 0 0) K2.out (Q2c _ _ _ _ _ _ _) (by simp [Q06]) (Q2B _ _ _ _ _ _ _) ?_; intro w7 hT7 hD7; rw [Q0c _ _ (by simp [Q06])] at hD7))
 refine bodyPost_ret (Q0t rfl _ _ g2 10 44 _ _ rfl hD7 zT rfl rfl rfl) rfl ⟨?_,hT7.below HB.out (by omega)⟩;unfold Q8e; simp [hk,hk2]
end
section
open Go.RowKit
attribute [local irreducible] Q0h
theorem Q0D (n l m:Int) (w:zB):Calls zG 118 #[.int .i64 n,.int .i64 l,.int .i64 m] w fun e w'=>e=.returned (.bool (decide (l<=n/\n<=m)))/\w=w':=by
 by_cases h:l<=n
 ·go_enter Tryz.func118,Tryz.ntmps118
  go_wp2
  go_ret
  exact⟨Q0C (by simp [h]),rfl⟩
 have h':¬ (l<=n/\n<=m):=fun hh=>h hh.1
 rw [decide_eq_false h'];clear h';go_enter Tryz.func118,Tryz.ntmps118
 go_wp2
 go_ret
 exact⟨rfl,rfl⟩
def Q2R:Option Int->List Int->Bool
 | _,[]=>true
 | none,z :: t=>decide (1<=z/\z<=28) && Q2R (some z) t
 | some y,z :: t=>decide (1<=z/\z<=28) && !decide (z<=y) && Q2R (some z) t
theorem Q5z:∀ (l:List Int) (y:Int),0<=y->Q2R (some y) l=Q1f y l
 | [],_,_=>rfl
 | z :: t,y,hy=>by
  unfold Q2R Q1f;by_cases h:y<z/\z<=28
  ·rw [Q5z t z (by omega),decide_eq_true h,decide_eq_true (by omega),decide_eq_false (by omega)]; rfl
  rw [decide_eq_false h];by_cases h2:z<=y
  ·rw [decide_eq_true h2]; simp
  rw [decide_eq_false (p:=1<=z/\z<=28) (by omega)]; rfl
theorem Qbc (l:List Int):Q2R none l=Q1f 0 l:=by
 cases l with
 | nil=>rfl
 | cons z t =>
  unfold Q2R Q1f;by_cases h:1<=z/\z<=28
  ·rw [decide_eq_true h,decide_eq_true (by omega),Q5z t z (by omega)]
  rw [decide_eq_false h,decide_eq_false (by omega)]; rfl
def Q5T (zs:List Int) (i:Nat):Option Int:=if i=0 then none else zs[i - 1]?
theorem Qbd (A:Option zA) (n c:Nat) (zs:List Int) (w:zB) (B:Nat) (h:Q08 w B 1 A n (zs.map vn)) (hB:B<=w.heap.size) (hn:n<=17592186044416) :
 Calls zG 120 #[.slice A n c] w fun e w'=>e=.returned (.bool (Q1C zs))/\zE w.heap.size w w':=by
 have hzn:zs.length=n:=by have:=h.1; simpa using this
 have H:=sH h;have HZN:=sH hzn;clear h hzn;by_cases h1:n=1\/n=4\/n=7
 ·have HR:=sH (show Q1C zs=Q2R none zs by unfold Q1C; rw [decide_eq_true (by rw [HZN.out]; omega),zP,Qbc]);generalize Q1C zs=cb at HR ⊢;have hn7:n<=7:=by omega
  go_enter Tryz.func120,Tryz.ntmps120
  go_upto_region 1 with fail
  go_cut [16] (fun iv wr=>iv=.bool false/\w=wr)
  case first =>
   rcases h1 with rfl | rfl | rfl
   all_goals
    go_wp2_with fail
    go_meet
    exact⟨rfl,rfl⟩
  obtain⟨rfl,rfl⟩:=hcut;clear h1;go_wp2_with fail
  go_loopw [3] (fun iv wr=>∃ (i:Nat),i<=n/\iv=.int .i64 i/\zE w.heap.size w wr/\cb=Q2R (Q5T zs i) (zs.drop i)) (fun iv _=>n - (intOf iv).toNat)
  case atStart=>exact⟨0,by omega,rfl,zK _ _,HR.out⟩
  obtain⟨i,hi,rfl,hbel,hr⟩:=hrel;have HB:=sH hbel;have hsz:=hbel.size;clear hbel;by_cases hin:i<n
  ·obtain⟨ad,hA,hadb,hcell⟩:=H.out.2 (by omega);subst hA;have hil:i<zs.length:=by have:=HZN.out; omega
   have hcz:∀ W,zE wr.heap.size wr W->W.cell? (ad.add i)=some (.int .i64 zs[i]):=fun W hb =>((HB.out.trans (hb.mono hsz)).cell (by rw [Q0a]; omega)).trans (hcell i _ (by rw [List.getElem?_map,zD hil]; rfl))
   rw [List.drop_eq_getElem_cons hil] at hr;have hln:Q5T zs (i+1)=some zs[i]:=by unfold Q5T; rw [if_neg (by omega),show i+1 - 1=i by omega,zD hil]
   generalize zs[i]=z at hr hcz hln;have HC:=sH hcz;have HLN:=sH hln;clear hcz hln;by_cases hz:1<=z/\z<=28
   ·by_cases h0:i=0
    ·subst h0;have hr':cb=Q2R (Q5T zs 1) (zs.drop 1):=by
      rw [hr,HLN.out];show Q2R none (z :: zs.drop 1)=_
      conv=>lhs; unfold Q2R
      rw [decide_eq_true hz,zP]
     have HR':=sH hr';clear hr hr' hcell;go_upto_region 6 with fail
     refine Q0r 21 45 (by kernel_rfl) (by kernel_rfl) (by kernel_rfl) (by simp) ?_;simp only [tT,tU];refine tD (.slice (some ad) n c) ?_;try simp only [zM,sA]
     refine tD (.int .i64 ((0:Nat):Int)) ?_;try simp only [zM,sA]
     refine tC (.pointer (some (ad.add 0))) ?_;try simp only [zM,sA]
     refine Q0k rfl rfl (.int .i64 z) (fun W hb=>Q0L 3 (.tmp 25) rfl (ad.add 0) rfl (by kernel_rfl) _ (HC.out W hb)) ?_;try simp only [zM,sA]
     refine Q0J rfl rfl 118 #[.int .i64 z,.int .i64 1,.int .i64 28] (fun W=>by go_simp) (.bool (decide (1<=z/\z<=28))) (fun W hb=>(Q0D z 1 28 W).mono fun e w' ⟨h1,h2⟩=>⟨h1,h2▸zK _ _⟩) ?_;try simp only [zM,sA]
     rw [decide_eq_true hz];refine tC (.bool false) ?_;try simp only [zM,sA]
     refine tD (.bool false) ?_;try simp only [zM,sA]
     refine tD (.int .i64 ((0:Nat):Int)) ?_;try simp only [zM,sA]
     refine tC (.bool false) ?_;try simp only [zM,sA]
     refine tD (.bool false) ?_;try simp only [zM,sA]
     refine Q0l rfl rfl ?_;try simp only [zM,sA]
     refine Q0l rfl rfl ?_;try simp only [zM,sA]
     refine Q0l rfl rfl ?_;try simp only [zM,sA]
     refine Q0l rfl rfl ?_;try simp only [zM,sA]
     refine Q0l rfl rfl ?_;try simp only [zM,sA]
     refine Q0l rfl rfl ?_;try simp only [zM,sA]
     refine Q0l rfl rfl ?_;try simp only [zM,sA]
     refine Q0l rfl rfl ?_;try simp only [zM,sA]
     refine Q0l rfl rfl ?_;try simp only [zM,sA]
     refine Q0l rfl rfl ?_;try simp only [zM,sA]
     refine tC (.bool false) ?_;try simp only [zM,sA]
     refine Q0M ?_;intro w2 hb2;have HB2:=sH (HB.out.trans (hb2.mono hsz));clear hb2;go_wp2_with fail
     go_roundw
     case rel=>exact⟨1,by omega,by go_num,HB2.out,HR'.out⟩
     case measure=>simp [intOf]; omega
    have hpl:i - 1<zs.length:=by omega
    have hcy:∀ W,zE wr.heap.size wr W->W.cell? (ad.add (i - 1))=some (.int .i64 zs[i - 1]):=fun W hb =>((HB.out.trans (hb.mono hsz)).cell (by rw [Q0a]; omega)).trans (hcell (i - 1) _ (by rw [List.getElem?_map,zD hpl]; rfl))
    have hl0:Q5T zs i=some zs[i - 1]:=by unfold Q5T; rw [if_neg h0,zD hpl]
    rw [hl0] at hr;clear hl0 hcell;generalize zs[i - 1]=y at hr hcy;have HP:=sH hcy;have htn:((i:Int) - 1).toNat=i - 1:=by omega
    have hi1:(1:Int)<=(i:Int):=by omega
    have hi3:¬ (n:Int)<=(i:Int) - 1:=by omega
    have hpos:0<i:=by omega
    have hi2:IntKind.i64.wrap ((i:Int) - 1)=(i:Int) - 1:=IntWalk.i64_in _ (by omega);clear hcy;by_cases hzy:z<=y
    ·have hr':cb=false:=by
      rw [hr];unfold Q2R;rw [decide_eq_true hz,decide_eq_true hzy]; rfl
     subst hr';clear hr;go_upto_region 6 with fail
     refine Q0r 21 45 (by kernel_rfl) (by kernel_rfl) (by kernel_rfl) (by simp) ?_;simp only [tT,tU];refine tD (.slice (some ad) n c) ?_;try simp only [zM,sA]
     refine tD (.int .i64 (i:Int)) ?_;try simp only [zM,sA]
     refine tC (.pointer (some (ad.add i))) ?_;try simp only [zM,sA]
     refine Q0k rfl rfl (.int .i64 z) (fun W hb=>Q0L 3 (.tmp 25) rfl (ad.add i) rfl (by kernel_rfl) _ (HC.out W hb)) ?_;try simp only [zM,sA]
     refine Q0J rfl rfl 118 #[.int .i64 z,.int .i64 1,.int .i64 28] (fun W=>by go_simp) (.bool (decide (1<=z/\z<=28))) (fun W hb=>(Q0D z 1 28 W).mono fun e w' ⟨h1,h2⟩=>⟨h1,h2▸zK _ _⟩) ?_;try simp only [zM,sA]
     rw [decide_eq_true hz];refine tC (.bool false) ?_;try simp only [zM,sA]
     refine tD (.bool false) ?_;try simp only [zM,sA]
     refine tD (.int .i64 (i:Int)) ?_;try simp only [zM,sA]
     refine tC (.bool true) ?_;try simp only [zM,sA]
     refine tD (.bool true) ?_;try simp only [zM,sA]
     refine tD (.slice (some ad) n c) ?_;try simp only [zM,sA]
     refine tD (.int .i64 (i:Int)) ?_;try simp only [zM,sA]
     refine tC (.pointer (some (ad.add i))) ?_;try simp only [zM,sA]
     refine Q0k rfl rfl (.int .i64 z) (fun W hb=>Q0L 3 (.tmp 35) rfl (ad.add i) rfl (by kernel_rfl) _ (HC.out W hb)) ?_;try simp only [zM,sA]
     refine tD (.slice (some ad) n c) ?_;try simp only [zM,sA]
     refine tD (.int .i64 (i:Int)) ?_;try simp only [zM,sA]
     refine tC (.int .i64 ((i:Int) - 1)) ?_;try simp only [zM,sA]
     refine tC (.pointer (some (ad.add (i - 1)))) ?_;try simp only [zM,sA]
     refine Q0k rfl rfl (.int .i64 y) (fun W hb=>Q0L 3 (.tmp 40) rfl (ad.add (i - 1)) rfl (by kernel_rfl) _ (HP.out W hb)) ?_;try simp only [zM,sA]
     refine tC (.bool (decide (z<=y))) ?_;try simp only [zM,sA]
     refine tC (.bool (decide (z<=y))) ?_;try simp only [zM,sA]
     refine Q0M ?_;intro w2 hb2;have HB2:=sH (HB.out.trans (hb2.mono hsz));clear hb2 htn hi1 hi2 hi3;go_wp2_with fail
     go_ret
     exact⟨rfl,HB2.out⟩
    have hr':cb=Q2R (Q5T zs (i+1)) (zs.drop (i+1)):=by
     rw [hr,HLN.out]
     conv=>lhs; unfold Q2R
     rw [decide_eq_true hz,decide_eq_false hzy]; rfl
    have HR':=sH hr';clear hr hr';go_upto_region 6 with fail
    refine Q0r 21 45 (by kernel_rfl) (by kernel_rfl) (by kernel_rfl) (by simp) ?_;simp only [tT,tU];refine tD (.slice (some ad) n c) ?_;try simp only [zM,sA]
    refine tD (.int .i64 (i:Int)) ?_;try simp only [zM,sA]
    refine tC (.pointer (some (ad.add i))) ?_;try simp only [zM,sA]
    refine Q0k rfl rfl (.int .i64 z) (fun W hb=>Q0L 3 (.tmp 25) rfl (ad.add i) rfl (by kernel_rfl) _ (HC.out W hb)) ?_;try simp only [zM,sA]
    refine Q0J rfl rfl 118 #[.int .i64 z,.int .i64 1,.int .i64 28] (fun W=>by go_simp) (.bool (decide (1<=z/\z<=28))) (fun W hb=>(Q0D z 1 28 W).mono fun e w' ⟨h1,h2⟩=>⟨h1,h2▸zK _ _⟩) ?_;try simp only [zM,sA]
    rw [decide_eq_true hz];refine tC (.bool false) ?_;try simp only [zM,sA]
    refine tD (.bool false) ?_;try simp only [zM,sA]
    refine tD (.int .i64 (i:Int)) ?_;try simp only [zM,sA]
    refine tC (.bool true) ?_;try simp only [zM,sA]
    refine tD (.bool true) ?_;try simp only [zM,sA]
    refine tD (.slice (some ad) n c) ?_;try simp only [zM,sA]
    refine tD (.int .i64 (i:Int)) ?_;try simp only [zM,sA]
    refine tC (.pointer (some (ad.add i))) ?_;try simp only [zM,sA]
    refine Q0k rfl rfl (.int .i64 z) (fun W hb=>Q0L 3 (.tmp 35) rfl (ad.add i) rfl (by kernel_rfl) _ (HC.out W hb)) ?_;try simp only [zM,sA]
    refine tD (.slice (some ad) n c) ?_;try simp only [zM,sA]
    refine tD (.int .i64 (i:Int)) ?_;try simp only [zM,sA]
    refine tC (.int .i64 ((i:Int) - 1)) ?_;try simp only [zM,sA]
    refine tC (.pointer (some (ad.add (i - 1)))) ?_;try simp only [zM,sA]
    refine Q0k rfl rfl (.int .i64 y) (fun W hb=>Q0L 3 (.tmp 40) rfl (ad.add (i - 1)) rfl (by kernel_rfl) _ (HP.out W hb)) ?_;try simp only [zM,sA]
    refine tC (.bool (decide (z<=y))) ?_;try simp only [zM,sA]
    refine tC (.bool (decide (z<=y))) ?_;try simp only [zM,sA]
    refine Q0M ?_;intro w2 hb2;have HB2:=sH (HB.out.trans (hb2.mono hsz));clear hb2 htn hi1 hi2 hi3;go_wp2_with fail
    go_roundw
    case rel=>exact⟨i+1,by omega,by go_num,HB2.out,HR'.out⟩
    case measure=>simp [intOf]; omega
   have hr':cb=false:=by
    rw [hr];cases Q5T zs i with
    | none=>unfold Q2R; rw [decide_eq_false hz]; rfl
    | some y=>unfold Q2R; rw [decide_eq_false hz]; rfl
   subst hr';clear hr hcell;go_upto_region 6 with fail
   refine Q0r 21 45 (by kernel_rfl) (by kernel_rfl) (by kernel_rfl) (by simp) ?_;simp only [tT,tU];refine tD (.slice (some ad) n c) ?_;try simp only [zM,sA]
   refine tD (.int .i64 (i:Int)) ?_;try simp only [zM,sA]
   refine tC (.pointer (some (ad.add i))) ?_;try simp only [zM,sA]
   refine Q0k rfl rfl (.int .i64 z) (fun W hb=>Q0L 3 (.tmp 25) rfl (ad.add i) rfl (by kernel_rfl) _ (HC.out W hb)) ?_;try simp only [zM,sA]
   refine Q0J rfl rfl 118 #[.int .i64 z,.int .i64 1,.int .i64 28] (fun W=>by go_simp) (.bool (decide (1<=z/\z<=28))) (fun W hb=>(Q0D z 1 28 W).mono fun e w' ⟨h1,h2⟩=>⟨h1,h2▸zK _ _⟩) ?_;try simp only [zM,sA]
   rw [decide_eq_false hz];refine tC (.bool true) ?_;try simp only [zM,sA]
   refine tD (.bool true) ?_;try simp only [zM,sA]
   refine Q0l rfl rfl ?_;try simp only [zM,sA]
   refine Q0l rfl rfl ?_;try simp only [zM,sA]
   refine Q0l rfl rfl ?_;try simp only [zM,sA]
   refine Q0l rfl rfl ?_;try simp only [zM,sA]
   refine Q0l rfl rfl ?_;try simp only [zM,sA]
   refine Q0l rfl rfl ?_;try simp only [zM,sA]
   refine Q0l rfl rfl ?_;try simp only [zM,sA]
   refine Q0l rfl rfl ?_;try simp only [zM,sA]
   refine Q0l rfl rfl ?_;try simp only [zM,sA]
   refine Q0l rfl rfl ?_;try simp only [zM,sA]
   refine Q0l rfl rfl ?_;try simp only [zM,sA]
   refine Q0l rfl rfl ?_;try simp only [zM,sA]
   refine Q0l rfl rfl ?_;try simp only [zM,sA]
   refine Q0l rfl rfl ?_;try simp only [zM,sA]
   refine Q0M ?_;intro w2 hb2;have HB2:=sH (HB.out.trans (hb2.mono hsz));clear hb2;go_wp2_with fail
   go_ret
   exact⟨rfl,HB2.out⟩
  obtain rfl:i=n:=by omega
  have hr':cb=true:=by rw [hr,List.drop_of_length_le (by have:=HZN.out; omega)];cases Q5T zs i <;> rfl
  subst hr';clear hr;go_wp2_with fail
  go_ret
  exact⟨rfl,HB.out⟩
 have hc:Q1C zs=false:=by unfold Q1C;rw [HZN.out,decide_eq_false (by omega),zQ]
 rw [hc];clear hc;have a1:((n:Int) != 1)=true:=by simp; omega
 have a4:((n:Int) != 4)=true:=by simp; omega
 have a7:((n:Int) != 7)=true:=by simp; omega
 clear h1;go_enter Tryz.func120,Tryz.ntmps120
 go_wp2_with fail
 go_ret
 exact⟨rfl,zK _ _⟩
end
section
def may1 (x:Wish):Bool:=decide (0<=x.epoch/\x.epoch<=1048576) && Q6Y x (ownW x)
def may2 (x:Wish):Bool:=if x.kind=5 then may1 x else may1 x && decide (31<=x.client/\x.client<=34) && decide (1<=x.stamp/\x.stamp<=9007199254740991)
def chB (x:Wish):Bool:=decide (1<=x.group/\x.group<=2)
def dirB (x:Wish):Bool:=decide (x.group=0) && decide (x.epoch=0) && decide (1<=x.block/\x.block<=2)
theorem may_k1 {x:Wish} (h:x.kind=1):mayB x=(may2 x && chB x && decide (0<=x.block/\x.block<=7)):=by obtain⟨client,stamp,group,epoch,kind,block,data,old,new,next⟩:=x;simp only at h;subst h;rw [zH];simp [mayB,MayP,may2,may1,chB,Q6Y,ownW];by_cases hd:data=[] <;> by_cases hn:next=[] <;> simp [hd,hn] <;> omega
theorem may_k2 {x:Wish} (h:x.kind=2):mayB x=(may2 x && chB x && decide (0<=x.block/\x.block<=7) && decide (x.data.length=16)):=by obtain⟨client,stamp,group,epoch,kind,block,data,old,new,next⟩:=x;simp only at h;subst h;rw [zH];simp [mayB,MayP,may2,may1,chB,Q6Y,ownW];by_cases hd:data=[] <;> by_cases hn:next=[] <;> simp [hd,hn] <;> omega
theorem may_k3 {x:Wish} (h:x.kind=3):mayB x=(may2 x && dirB x):=by obtain⟨client,stamp,group,epoch,kind,block,data,old,new,next⟩:=x;simp only at h;subst h;rw [zH];simp [mayB,MayP,may2,may1,dirB,Q6Y,ownW];by_cases hd:data=[] <;> by_cases hn:next=[] <;> simp [hd,hn] <;> omega
theorem may_k4 {x:Wish} (h:x.kind=4):mayB x=(may2 x && dirB x && decide (1<=x.old/\x.old<=28) && decide (1<=x.new/\x.new<=28) && !decide (x.old=x.new)):=by obtain⟨client,stamp,group,epoch,kind,block,data,old,new,next⟩:=x;simp only at h;subst h;rw [zH];simp [mayB,MayP,may2,may1,dirB,Q6Y,ownW];by_cases hd:data=[] <;> by_cases hn:next=[] <;> simp [hd,hn] <;> omega
theorem may_k5 {x:Wish} (h:x.kind=5):mayB x=(may2 x && chB x && Q1C x.next):=by
 obtain⟨client,stamp,group,epoch,kind,block,data,old,new,next⟩:=x;simp only at h;subst h;rw [zH];simp [mayB,MayP,may2,may1,chB,Q6Y,ownW];by_cases hc:Q1C next=true
 ·simp [hc];by_cases hd:data=[] <;> simp [hd] <;> omega
 simp [hc]
theorem may_ko {x:Wish} (h:¬ x.kind=1/\¬ x.kind=2/\¬ x.kind=3/\¬ x.kind=4/\¬ x.kind=5):mayB x=false:=by
 refine decide_eq_false ?_;unfold MayP;rintro ⟨_,_,h1 | h1⟩
 ·exact h.2.2.2.2 h1.1
 obtain⟨_,_,_,_,_,_,h2 | h2⟩:=h1
 ·rcases h2.1 with h3 | h3
  ·exact h.1 h3.1
  exact h.2.1 h3.1
 rcases h2.1 with h3 | h3
 ·exact h.2.2.1 h3.1
 exact h.2.2.2.1 h3.1
theorem own_in (x:Wish) (A:Option zA) (n c:Nat) (A':Option zA) (n' c':Nat):∃ D m d D' m' d',Q8e x A n c A' n' c'=.agg (Q06 (ownW x) D m d D' m' d')/\∀ w B,Q2g w B x A n c A' n' c'->Q2g w B (ownW x) D m d D' m' d':=by
 by_cases h5:x.kind=5
 ·refine⟨none,0,0,A',n',c',by unfold Q8e; rw [if_pos h5],fun w B h=>?_⟩;have h2:¬ x.kind=2:=by omega
  have h4:¬ x.kind=4:=by omega
  obtain⟨r1,r2,r3,r4,r5,r6,r7,r8,r9⟩:=h.rng;refine⟨?_,zI _,by omega,?_,h.nc,h.nm,?_⟩
  ·simp [ownW,h2]; exact Q08.none_
  ·simp only [ownW,if_pos h5]; exact h.next
  simp only [ownW,if_pos h5,if_neg h4];exact⟨by unfold I64; omega,by unfold I64; omega,r3,r4,r5,by unfold I64; omega,by unfold I64; omega,by unfold I64; omega,r9⟩
 by_cases h2:x.kind=2
 ·refine⟨A,n,c,none,0,0,by unfold Q8e; rw [if_neg h5,if_pos h2],fun w B h=>?_⟩;have h4:¬ x.kind=4:=by omega
  obtain⟨r1,r2,r3,r4,r5,r6,r7,r8,r9⟩:=h.rng;refine⟨?_,h.dc,h.dm,?_,zI _,by omega,?_⟩
  ·simp only [ownW,if_pos h2]; exact h.data
  ·simp [ownW,h5]; exact Q08.none_
  simp only [ownW,if_neg h5,if_neg h4];exact⟨r1,r2,r3,r4,r5,r6,by unfold I64; omega,by unfold I64; omega,fun z hz=>by cases hz⟩
 refine⟨none,0,0,none,0,0,by unfold Q8e; rw [if_neg h5,if_neg h2],fun w B h=>?_⟩;obtain⟨r1,r2,r3,r4,r5,r6,r7,r8,r9⟩:=h.rng;refine⟨?_,zI _,by omega,?_,zI _,by omega,?_⟩
 ·simp [ownW,h2]; exact Q08.none_
 ·simp [ownW,h5]; exact Q08.none_
 simp only [ownW,if_neg h5];refine⟨r1,r2,r3,r4,r5,r6,?_,?_,fun z hz=>by cases hz⟩
 ·split
  ·exact r7
  unfold I64; omega
 split
 ·exact r8
 unfold I64; omega
end
section
open Go.RowKit
attribute [local irreducible] Q0h
theorem Q9X (x:Wish) (A:Option zA) (n c:Nat) (A':Option zA) (n' c':Nat) (w:zB) (B:Nat) (h:Q2g w B x A n c A' n' c') (hB:B<=w.heap.size) :
 Calls zG 69 #[.agg (Q06 x A n c A' n' c')] w fun e w'=>e=.returned (.int .i64 (if mayB x=true then 0 else 2))/\zE w.heap.size w w':=by
 have hX:zE w.heap.size w (w.alloc (.cells (Q06 x A n c A' n' c') 44)):=(zK _ _).alloc (zI _) _;have hk0:Blk (w.alloc (.cells (Q06 x A n c A' n' c') 44)) w.heap.size 44 (Q06 x A n c A' n' c'):=Blk.newAt rfl;obtain⟨D,m,d,D',m',d',hsl,hin⟩:=own_in x A n c A' n' c';have HWX:=sH (fun W (hb:zE w.heap.size w W)=>h.below (hb.mono hB));have HIN:=sH hin;have hdl:=h.dlen;have HDL:=sH hdl;obtain⟨rc,hrc⟩:∃ rc:Int,rc=if mayB x=true then 0 else 2:=⟨_,rfl⟩
 rw [<- hrc];have HRC:=sH hrc;clear hin h hdl hrc;go_enter Tryz.func69,Tryz.ntmps69
 go_upto_region 1 with fail
 generalize hW:zR w _=w1;have hW':w.alloc (.cells (Q06 x A n c A' n' c') 44)=w1:=hW;rw [hW'] at hX hk0;clear hW hW';have hs1:=hX.size;have HK0:=sH hk0;have HX:=sH hX;have HC3:=sH (fun W (hb:zE w1.heap.size w1 W)=>((hk0.under hb).cell 3).trans (show (Q06 x A n c A' n' c')[3]?=some (.int .i64 x.epoch) from rfl));have HSM:=sH (fun W (hb:zE w1.heap.size w1 W)=>Qbw x (ownW x) A n c A' n' c' D m d D' m' d' W B (HWX.out W (HX.out.trans (hb.mono hs1))) (HIN.out W B (HWX.out W (HX.out.trans (hb.mono hs1)))) (by have:=hb.size; omega));clear hk0 hX
 go_cut [3] (fun s wx=>s=.bool (may1 x)/\zE w1.heap.size w1 wx)
 case first =>
  by_cases hE:0<=x.epoch/\x.epoch<=1048576
  ·have hm1:may1 x=Q6Y x (ownW x):=by unfold may1; rw [decide_eq_true hE,zP]
   refine Q0r 9 117 (by kernel_rfl) (by kernel_rfl) (by kernel_rfl) (by simp) ?_;simp only [tT,tU];refine tC (.pointer (some ⟨w.heap.size,3,none⟩)) ?_;try simp only [zM,sA]
   refine Q0k rfl rfl (.int .i64 x.epoch) (fun W hb=>Q0L 3 (.tmp 6) rfl ⟨w.heap.size,3,none⟩ rfl (by kernel_rfl) _ (HC3.out W hb)) ?_;try simp only [zM,sA]
   refine Q0J rfl rfl 118 #[.int .i64 x.epoch,.int .i64 0,.int .i64 1048576] (fun W=>by go_simp) (.bool (decide (0<=x.epoch/\x.epoch<=1048576))) (fun W hb=>(Q0D _ _ _ W).mono fun e w' ⟨h1,h2⟩=>⟨h1,h2▸zK _ _⟩) ?_;try simp only [zM,sA]
   rw [decide_eq_true hE];refine tD (.bool true) ?_;try simp only [zM,sA]
   refine Q0Q rfl 44 (.tmp 1) rfl w.heap.size 0 10 rfl 44 _ (Q06 x A n c A' n' c') _ HK0.out zT rfl rfl rfl (fun _ _=>by rw [zL]) ?_;try simp only [zM,sA]
   refine Q0Q rfl 44 (.tmp 1) rfl w.heap.size 0 10 rfl 44 _ (Q06 x A n c A' n' c') _ HK0.out zT rfl rfl rfl (fun _ _=>by rw [zL]) ?_;try simp only [zM,sA]
   refine Q0J rfl rfl 119 #[.agg (Q06 x A n c A' n' c')] (fun W=>by go_simp) (Q8e x A n c A' n' c') (fun W hb=>QcW x A n c A' n' c' W) ?_;try simp only [zM,sA]
   rw [hsl];refine Q0J rfl rfl 45 #[.agg (Q06 x A n c A' n' c'),.agg (Q06 (ownW x) D m d D' m' d')] (fun W=>by go_simp) (.bool (Q6Y x (ownW x))) (fun W hb=>HSM.out W hb) ?_;try simp only [zM,sA]
   refine tC (.bool (Q6Y x (ownW x))) ?_;try simp only [zM,sA]
   refine Q0M ?_;intro w2 hb2;have HB2:=sH hb2;clear hb2;go_wp2_with fail
   go_meet
   exact⟨by rw [hm1],HB2.out⟩
  have hm1:may1 x=false:=by unfold may1; rw [decide_eq_false hE,zQ]
  refine Q0r 9 117 (by kernel_rfl) (by kernel_rfl) (by kernel_rfl) (by simp) ?_;simp only [tT,tU];refine tC (.pointer (some ⟨w.heap.size,3,none⟩)) ?_;try simp only [zM,sA]
  refine Q0k rfl rfl (.int .i64 x.epoch) (fun W hb=>Q0L 3 (.tmp 6) rfl ⟨w.heap.size,3,none⟩ rfl (by kernel_rfl) _ (HC3.out W hb)) ?_;try simp only [zM,sA]
  refine Q0J rfl rfl 118 #[.int .i64 x.epoch,.int .i64 0,.int .i64 1048576] (fun W=>by go_simp) (.bool (decide (0<=x.epoch/\x.epoch<=1048576))) (fun W hb=>(Q0D _ _ _ W).mono fun e w' ⟨h1,h2⟩=>⟨h1,h2▸zK _ _⟩) ?_;try simp only [zM,sA]
  rw [decide_eq_false hE];refine tD (.bool false) ?_;try simp only [zM,sA]
  refine Q0l rfl rfl ?_;try simp only [zM,sA]
  refine Q0l rfl rfl ?_;try simp only [zM,sA]
  refine Q0l rfl rfl ?_;try simp only [zM,sA]
  refine Q0l rfl rfl ?_;try simp only [zM,sA]
  refine tC (.bool false) ?_;try simp only [zM,sA]
  refine Q0M ?_;intro w2 hb2;have HB2:=sH hb2;clear hb2;go_wp2_with fail
  go_meet
  exact⟨by rw [hm1],HB2.out⟩
 obtain⟨rfl,hb2⟩:=hcut;have K2:=sH (HK0.out.under hb2);have HB2:=sH (HX.out.trans (hb2.mono hs1));have HNX:=sH (fun W (hb:zE wc.heap.size wc W)=>Qbd A' n' c' x.next W B (HWX.out W (HB2.out.trans (hb.mono (HB2.out.size)))).next (by have:=hb.size; have:=HB2.out.size; omega) (HWX.out W (HB2.out.trans (hb.mono (HB2.out.size)))).nm);have c0:=(K2.out.cell 0).trans (show (Q06 x A n c A' n' c')[0]?=some (.int .i64 x.client) from rfl);have c1:=(K2.out.cell 1).trans (show (Q06 x A n c A' n' c')[1]?=some (.int .i64 x.stamp) from rfl);have c2:=(K2.out.cell 2).trans (show (Q06 x A n c A' n' c')[2]?=some (.int .i64 x.group) from rfl);have c3:=(K2.out.cell 3).trans (show (Q06 x A n c A' n' c')[3]?=some (.int .i64 x.epoch) from rfl);have c4:=(K2.out.cell 4).trans (show (Q06 x A n c A' n' c')[4]?=some (.int .i64 x.kind) from rfl);have c5:=(K2.out.cell 5).trans (show (Q06 x A n c A' n' c')[5]?=some (.int .i64 x.block) from rfl);have c6:=(K2.out.cell 6).trans (show (Q06 x A n c A' n' c')[6]?=some (.slice A n c) from rfl);have c7:=(K2.out.cell 7).trans (show (Q06 x A n c A' n' c')[7]?=some (.int .i64 x.old) from rfl);have c8:=(K2.out.cell 8).trans (show (Q06 x A n c A' n' c')[8]?=some (.int .i64 x.new) from rfl);have c9:=(K2.out.cell 9).trans (show (Q06 x A n c A' n' c')[9]?=some (.slice A' n' c') from rfl);clear hb2 hsl HIN HC3 HSM HK0 HX
 go_upto_if 17 with(fail)
 go_cut [3] (fun s wx=>s=.bool (may2 x)/\wc=wx)
 case first =>
  by_cases h5:x.kind=5
  ·have hm2:may2 x=may1 x:=by unfold may2; rw [if_pos h5]
   have h5b:(x.kind != 5)=false:=by simp [h5]
   go_wp2_with fail
   go_meet
   exact⟨by rw [hm2],rfl⟩
  have hm2:may2 x=(may1 x && decide (31<=x.client/\x.client<=34) && decide (1<=x.stamp/\x.stamp<=9007199254740991)):=by unfold may2; rw [if_neg h5]
  have h5b:(x.kind != 5)=true:=by simp [h5]
  have HM2:=sH hm2;clear hm2;generalize may1 x=m1 at HM2 ⊢;cases m1 with
  | false =>
   go_wp2_with fail
   go_meet
   exact⟨by rw [HM2.out]; rfl,rfl⟩
  | true =>
   by_cases hC:31<=x.client/\x.client<=34
   ·rw [decide_eq_true hC] at HM2;go_wp2_with fail
    refine(Q0D _ _ _ _).mono ?_;rintro _ _ ⟨rfl,rfl⟩;rw [decide_eq_true hC];go_wp2_with fail
    refine(Q0D _ _ _ _).mono ?_;rintro _ _ ⟨rfl,rfl⟩;generalize decide (1<=x.stamp/\x.stamp<=9007199254740991)=q at HM2 ⊢;go_wp2_with fail
    go_meet
    exact⟨by rw [HM2.out]; rfl,rfl⟩
   rw [decide_eq_false hC] at HM2;go_wp2_with fail
   refine(Q0D _ _ _ _).mono ?_;rintro _ _ ⟨rfl,rfl⟩;rw [decide_eq_false hC];go_wp2_with fail
   go_meet
   exact⟨by rw [HM2.out]; rfl,rfl⟩
 obtain⟨rfl,rfl⟩:=hcut;go_wp2_with fail
 refine(Q0D _ _ _ _).mono ?_;rintro _ _ ⟨rfl,rfl⟩;rw [show decide (1<=x.group/\x.group<=2)=chB x from rfl];go_upto_region 5 with fail
 go_cut [5] (fun s wx=>s=.bool (dirB x)/\wc=wx)
 case first =>
  have hdd:dirB x=(decide (x.group=0) && decide (x.epoch=0) && decide (1<=x.block/\x.block<=2)):=rfl;by_cases hg:x.group=0
  ·have hgb:(x.group == 0)=true:=by simp [hg]
   by_cases he:x.epoch=0
   ·have heb:(x.epoch == 0)=true:=by simp [he]
    rw [decide_eq_true hg,decide_eq_true he,zP,zP] at hdd;have HDD:=sH hdd;clear hdd hg he;go_wp2_with fail
    refine(Q0D _ _ _ _).mono ?_;rintro _ _ ⟨rfl,rfl⟩;generalize decide (1<=x.block/\x.block<=2)=q at HDD ⊢;go_wp2_with fail
    go_meet
    exact⟨by rw [HDD.out],rfl⟩
   have heb:(x.epoch == 0)=false:=by simp [he]
   rw [decide_eq_true hg,decide_eq_false he,zP,zQ] at hdd;have HDD:=sH hdd;clear hdd hg he;go_wp2_with fail
   go_meet
   exact⟨by rw [HDD.out],rfl⟩
  have hgb:(x.group == 0)=false:=by simp [hg]
  rw [decide_eq_false hg,zQ,zQ] at hdd;have HDD:=sH hdd;clear hdd hg;go_wp2_with fail
  go_meet
  exact⟨by rw [HDD.out],rfl⟩
 obtain⟨rfl,rfl⟩:=hcut;have HK1:=sH (fun h:x.kind=1=>may_k1 h);have HK2:=sH (fun h:x.kind=2=>may_k2 h);have HK3:=sH (fun h:x.kind=3=>may_k3 h);have HK4:=sH (fun h:x.kind=4=>may_k4 h);have HK5:=sH (fun h:x.kind=5=>may_k5 h);have HKO:=sH (fun h:¬ x.kind=1/\¬ x.kind=2/\¬ x.kind=3/\¬ x.kind=4/\¬ x.kind=5=>may_ko h);generalize may2 x=m2 at HK1 HK2 HK3 HK4 HK5 ⊢;generalize chB x=ch at HK1 HK2 HK5 ⊢;generalize dirB x=di at HK3 HK4 ⊢;by_cases k1:x.kind=1
 ·have hm:=HK1.out k1;rw [k1] at c4;have HM:=sH hm;clear hm HK1 HK2 HK3 HK4 HK5 HKO;cases m2 with
  | false =>
   go_wp2_with fail
   go_ret
   exact⟨by rw [HRC.out,HM.out]; rfl,HB2.out⟩
  | true =>
   cases ch with
   | false =>
    go_wp2_with fail
    go_ret
    exact⟨by rw [HRC.out,HM.out]; rfl,HB2.out⟩
   | true =>
    go_wp2_with fail
    refine(Q0D _ _ _ _).mono ?_;rintro _ _ ⟨rfl,rfl⟩;generalize hq:decide (0<=x.block/\x.block<=7)=q at HM ⊢;clear hq;cases q with
    | false =>
     go_wp2_with fail
     go_ret
     exact⟨by rw [HRC.out,HM.out]; rfl,HB2.out⟩
    | true =>
     go_wp2_with fail
     go_ret
     exact⟨by rw [HRC.out,HM.out]; rfl,HB2.out⟩
 have k1b:(x.kind == 1)=false:=by simp [k1]
 by_cases k2:x.kind=2
 ·have hm:=HK2.out k2;rw [k2] at c4;have HM:=sH hm;clear hm HK1 HK2 HK3 HK4 HK5 HKO;cases m2 with
  | false =>
   go_wp2_with fail
   go_ret
   exact⟨by rw [HRC.out,HM.out]; rfl,HB2.out⟩
  | true =>
   cases ch with
   | false =>
    go_wp2_with fail
    go_ret
    exact⟨by rw [HRC.out,HM.out]; rfl,HB2.out⟩
   | true =>
    go_wp2_with fail
    refine(Q0D _ _ _ _).mono ?_;rintro _ _ ⟨rfl,rfl⟩;generalize hq:decide (0<=x.block/\x.block<=7)=q at HM ⊢;clear hq;cases q with
    | false =>
     go_wp2_with fail
     go_ret
     exact⟨by rw [HRC.out,HM.out]; rfl,HB2.out⟩
    | true =>
     by_cases hl:x.data.length=16
     ·have hnb:((n:Int) == 16)=true:=by have:=HDL.out; simp; omega
      rw [decide_eq_true hl] at HM;clear hl;go_wp2_with fail
      go_ret
      exact⟨by rw [HRC.out,HM.out]; rfl,HB2.out⟩
     have hnb:((n:Int) == 16)=false:=by have:=HDL.out; simp; omega
     rw [decide_eq_false hl] at HM;clear hl;go_wp2_with fail
     go_ret
     exact⟨by rw [HRC.out,HM.out]; rfl,HB2.out⟩
 have k2b:(x.kind == 2)=false:=by simp [k2]
 by_cases k3:x.kind=3
 ·have hm:=HK3.out k3;rw [k3] at c4;have HM:=sH hm;clear hm HK1 HK2 HK3 HK4 HK5 HKO;cases m2 with
  | false =>
   go_wp2_with fail
   go_ret
   exact⟨by rw [HRC.out,HM.out]; rfl,HB2.out⟩
  | true =>
   cases di with
   | false =>
    go_wp2_with fail
    go_ret
    exact⟨by rw [HRC.out,HM.out]; rfl,HB2.out⟩
   | true =>
    go_wp2_with fail
    go_ret
    exact⟨by rw [HRC.out,HM.out]; rfl,HB2.out⟩
 have k3b:(x.kind == 3)=false:=by simp [k3]
 by_cases k4:x.kind=4
 ·have hm:=HK4.out k4;rw [k4] at c4;have HM:=sH hm;clear hm HK1 HK2 HK3 HK4 HK5 HKO;cases m2 with
  | false =>
   go_wp2_with fail
   go_ret
   exact⟨by rw [HRC.out,HM.out]; rfl,HB2.out⟩
  | true =>
   cases di with
   | false =>
    go_wp2_with fail
    go_ret
    exact⟨by rw [HRC.out,HM.out]; rfl,HB2.out⟩
   | true =>
    go_wp2_with fail
    refine(Q0D _ _ _ _).mono ?_;rintro _ _ ⟨rfl,rfl⟩;generalize hq:decide (1<=x.old/\x.old<=28)=q at HM ⊢;clear hq;cases q with
    | false =>
     go_wp2_with fail
     go_ret
     exact⟨by rw [HRC.out,HM.out]; rfl,HB2.out⟩
    | true =>
     go_wp2_with fail
     refine(Q0D _ _ _ _).mono ?_;rintro _ _ ⟨rfl,rfl⟩;generalize hq:decide (1<=x.new/\x.new<=28)=q at HM ⊢;clear hq;cases q with
     | false =>
      go_wp2_with fail
      go_ret
      exact⟨by rw [HRC.out,HM.out]; rfl,HB2.out⟩
     | true =>
      by_cases hl:x.old=x.new
      ·have hnb:(x.old != x.new)=false:=by simp [hl]
       rw [decide_eq_true hl] at HM;clear hl;go_wp2_with fail
       go_ret
       exact⟨by rw [HRC.out,HM.out]; rfl,HB2.out⟩
      have hnb:(x.old != x.new)=true:=by simp [hl]
      rw [decide_eq_false hl] at HM;clear hl;go_wp2_with fail
      go_ret
      exact⟨by rw [HRC.out,HM.out]; rfl,HB2.out⟩
 have k4b:(x.kind == 4)=false:=by simp [k4]
 by_cases k5:x.kind=5
 ·have hm:=HK5.out k5;rw [k5] at c4;have HM:=sH hm;clear hm HK1 HK2 HK3 HK4 HK5 HKO;cases m2 with
  | false =>
   go_wp2_with fail
   go_ret
   exact⟨by rw [HRC.out,HM.out]; rfl,HB2.out⟩
  | true =>
   cases ch with
   | false =>
    go_wp2_with fail
    go_ret
    exact⟨by rw [HRC.out,HM.out]; rfl,HB2.out⟩
   | true =>
    go_wp2_with fail
    refine(HNX.out _ (zK _ _)).mono ?_;rintro _ w9 ⟨rfl,hb9⟩
    replace HB2:=sH (HB2.out.trans (hb9.mono HB2.out.size))
    clear hb9;generalize hq:Q1C x.next=q at HM ⊢;clear hq;cases q with
    | false =>
     go_wp2_with fail
     go_ret
     exact⟨by rw [HRC.out,HM.out]; rfl,HB2.out⟩
    | true =>
     go_wp2_with fail
     go_ret
     exact⟨by rw [HRC.out,HM.out]; rfl,HB2.out⟩
 have k5b:(x.kind == 5)=false:=by simp [k5]
 have hm:=HKO.out ⟨k1,k2,k3,k4,k5⟩;have HM:=sH hm;clear hm HK1 HK2 HK3 HK4 HK5 HKO k1 k2 k3 k4 k5;go_wp2_with fail
 go_ret
 exact⟨by rw [HRC.out,HM.out]; rfl,HB2.out⟩
end
section
open Go.RowKit Go.Maps
attribute [local irreducible] wpList Q0h
theorem Q9D {P:Program} {o:Oper} {a:Act} {W:zB} (t:TypeId) (x:Operand) (lo:Option Operand) (ho:o.op=.slice t x lo none none) (A:Option zA) (len cap:Nat) (hx:a.eval x=.slice A len cap) (lv:Option zC) (hl:lo.map a.eval=lv) {e:TypeId} (hu:P.underlying t=some (.slice e)) (r:zC) (h:(Instr.slice t (.slice A len cap) lv none none).run P W=.ok r W):(execOp a.eval o).run P W=.ok (.value r) W:=by subst hl;unfold execOp;simp only [ho,hx,Option.map_none,Instr.sliceAt,Sem.run_bind,run_underlying hu,Result.andThen_ok,h];rfl
def QbQ (l:List Int):Wish:=⟨0,0,1,0,5,0,[],0,0,l⟩
theorem Qd3 (l:List Int):mayB (QbQ l)=Q1C l:=Q2U (g:=1) (zI _) (by omega) l
theorem Q7m {P:Program} {ops:Array Oper} {rest:List Oper} {o:Oper} {a:Act} {w:zB} {Q:Exit->Act->zB->Prop} (hw:Region.wanted o (yielded ops a.tmps)=true)
 (h:∀ K:Act->zB->Prop,(∀ a w,wpList P ops Q rest a w->K a w)->o.wp P a w K Q):wpList P ops Q (o :: rest) a w :=
 wpList_step fun K hK=>by rw [if_pos hw];exact h K hK
theorem Q5q {P:Program} {ops:Array Oper} {rest:List Oper} {o:Oper} {a:Act} {w:zB} {Q:Exit->Act->zB->Prop} (hw:Region.wanted o (yielded ops a.tmps)=true) (ty:TypeId) (x:Operand) (ho:o.op=.load ty x)
 (g off n:Nat) (hx:a.eval x=.pointer (some ⟨g,off,none⟩)) (t:TypeId) (cs vs:Array zC) (d:TypeDesc) (hB:Blk w g t cs)
 (hu:P.underlying ty=some d) (hd:(match d with | .struct _ | .array _ _=>true | _=>false)=true) (hi:(P.info? ty).map (·.size)=some n)
 (hn:vs.size=n) (hv:∀ j,j<n->cs[off+j]?=vs[j]?)
 (h:wpList P ops Q rest (a.put o.dst (.agg vs)) w):wpList P ops Q (o :: rest) a w :=
 Q7m hw fun _ hK=>Q3t ty x ho g off n hx t cs vs d hB hu hd hi hn hv (hK _ _ h)
end
end Go.Proofs.YtcpngeiahgoacaaGreat
